/-
  Walked: the reference's Drop.
-/
import Derived.Test.YtnpiemcfbnpfdaaTop
namespace Go.Proofs.Ytnpiemcfbnpfdaa
open Go.RowKit
set_option linter.unusedVariables false
set_option linter.unusedSimpArgs false

end Go.Proofs.Ytnpiemcfbnpfdaa
