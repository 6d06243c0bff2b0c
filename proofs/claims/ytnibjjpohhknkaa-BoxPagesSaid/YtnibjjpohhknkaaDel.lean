/-
  Walked: slices.Delete at a row of the call's own.
-/
import Derived.Test.YtnibjjpohhknkaaRep
import Derived.OwnWalk
import Derived.Test.YtnibjjpohhknkaaRegList
namespace Go.Proofs.Ytnibjjpohhknkaa
open Go.RowKit
set_option linter.unusedVariables false
set_option linter.unusedSimpArgs false

end Go.Proofs.Ytnibjjpohhknkaa
