/-
  Walked: the reference's piece (printed by mkrspan.py).
-/
import Derived.Test.YtomcdhljjmnahaaGreatHMemOb
namespace Go.Proofs.YtomcdhljjmnahaaGreat
open Go.RowKit
set_option linter.unusedVariables false
set_option linter.unusedSimpArgs false

end Go.Proofs.YtomcdhljjmnahaaGreat
