import Derived.Test.YtnpiemcfbnpfdaaGreatPutSp
import Derived.Test.YtnpiemcfbnpfdaaGreatRegListSp
import Derived.Test.YtnpiemcfbnpfdaaGreatSqSp
set_option linter.unusedVariables false
set_option linter.unusedSimpArgs false
namespace Go.Proofs.YtnpiemcfbnpfdaaGreat
open Go.RowKit
def refV (n : Int) : V := .mk 8 n ⟨#[]⟩ []
