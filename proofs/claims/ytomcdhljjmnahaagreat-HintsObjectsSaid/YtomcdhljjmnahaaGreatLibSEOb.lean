/-
  Walked: the reference's Decode.
  Walked: works() returns true, and writes nothing that was there.
-/
import Derived.Test.YtomcdhljjmnahaaGreatLibSCOb
import Derived.Test.YtomcdhljjmnahaaGreatLibSDOb
import Derived.Test.YtomcdhljjmnahaaGreatLibBAOb
import Derived.Test.YtomcdhljjmnahaaGreatLibBBOb
import Derived.Test.YtomcdhljjmnahaaGreatLibSBOb
namespace Go.Proofs.YtomcdhljjmnahaaGreat.S27
set_option linter.unusedVariables false
set_option linter.unusedSimpArgs false
open Go.RowKit C27

end Go.Proofs.YtomcdhljjmnahaaGreat.S27
namespace Go.Proofs.YtomcdhljjmnahaaGreat.S27
set_option linter.unusedVariables false
set_option linter.unusedSimpArgs false
open Go.RowKit C27

end Go.Proofs.YtomcdhljjmnahaaGreat.S27
