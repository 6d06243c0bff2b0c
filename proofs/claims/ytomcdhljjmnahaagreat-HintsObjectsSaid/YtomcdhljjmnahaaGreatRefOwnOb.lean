/-
  Walked: the reference's Own and Group (printed by mkrown.py).
-/
import Derived.Test.YtomcdhljjmnahaaGreatTabHOb
import Derived.Test.YtomcdhljjmnahaaGreatPieceROb
namespace Go.Proofs.YtomcdhljjmnahaaGreat
open Go.RowKit
set_option linter.unusedVariables false
set_option linter.unusedSimpArgs false

end Go.Proofs.YtomcdhljjmnahaaGreat
