/-
  Walked: the reference's Decode.
  Walked: works() returns true, and writes nothing that was there.
-/
import Derived.Test.YtomcdhljjmnahaaGreatLibSCCk
import Derived.Test.YtomcdhljjmnahaaGreatLibSDCk
import Derived.Test.YtomcdhljjmnahaaGreatLibBACk
import Derived.Test.YtomcdhljjmnahaaGreatLibBBCk
import Derived.Test.YtomcdhljjmnahaaGreatLibSBCk
namespace Go.Proofs.YtomcdhljjmnahaaGreat.S27
set_option linter.unusedVariables false
set_option linter.unusedSimpArgs false
open Go.RowKit C27

end Go.Proofs.YtomcdhljjmnahaaGreat.S27
namespace Go.Proofs.YtomcdhljjmnahaaGreat.S27
set_option linter.unusedVariables false
set_option linter.unusedSimpArgs false
open Go.RowKit C27

end Go.Proofs.YtomcdhljjmnahaaGreat.S27
