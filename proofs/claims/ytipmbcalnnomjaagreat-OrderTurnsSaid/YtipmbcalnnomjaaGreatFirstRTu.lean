import Derived.Test.YtipmbcalnnomjaaGreatObjsETu
import Derived.Test.YtipmbcalnnomjaaGreatSlxTu
import Derived.Test.YtipmbcalnnomjaaGreatRefsRTu
import Derived.Test.YtipmbcalnnomjaaGreatRowPutTu
import Derived.Test.YtipmbcalnnomjaaGreatDropPTu
import Derived.Test.YtipmbcalnnomjaaGreatSqTu
set_option linter.unusedVariables false
set_option linter.unusedSimpArgs false
namespace Go.Proofs.YtipmbcalnnomjaaGreat
open Go.RowKit
theorem intsV_set' (l : List Int) (i : Nat) (x : Int) : (intsV l).set i (.int .i64 x) = intsV (l.set i x) := by unfold intsV; rw [List.map_set]
end Go.Proofs.YtipmbcalnnomjaaGreat
namespace Go.Proofs.YtipmbcalnnomjaaGreat
open Go.RowKit Go.Maps
