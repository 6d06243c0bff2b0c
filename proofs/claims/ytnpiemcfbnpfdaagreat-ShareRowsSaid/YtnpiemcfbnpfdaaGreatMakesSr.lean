import Derived.Test.YtnpiemcfbnpfdaaGreatPutSr
import Derived.Test.YtnpiemcfbnpfdaaGreatRegListSr
import Derived.Test.YtnpiemcfbnpfdaaGreatSqSr
set_option linter.unusedVariables false
set_option linter.unusedSimpArgs false
namespace Go.Proofs.YtnpiemcfbnpfdaaGreat
open Go.RowKit
def refV (n : Int) : V := .mk 8 n ⟨#[]⟩ []
