import Derived.Test.YtipmbcalnnomjaaGreatFirstRTu
import Derived.Test.YtipmbcalnnomjaaGreatLeavesTu
import Derived.Test.YtipmbcalnnomjaaGreatSqTu
set_option linter.unusedVariables false
set_option linter.unusedSimpArgs false
namespace Go.Proofs.YtipmbcalnnomjaaGreat
open Go.RowKit Go.Maps
section
variable {w0 w : World} {d : Nat} {l : List Ob} {rb B R0 : Nat} {xs : List Int} {a : Option Addr} {c : Nat} {D : DataW Unit} {k : Nat} {oa : Option Addr} {oc : Nat} {rws : List (List Value)} {W W' : World}
end
