import Derived.Test.YtipmbcalnnomjaaGreatEachTu
import Derived.Test.YtipmbcalnnomjaaGreatPagesPlTu
import Derived.Test.YtipmbcalnnomjaaGreatPutTu
import Derived.Test.YtipmbcalnnomjaaGreatSqTu
set_option linter.unusedVariables false
set_option linter.unusedSimpArgs false
namespace Go.Proofs.YtipmbcalnnomjaaGreat
open Go.RowKit
section
variable {tu : List Int} {l l' : List Ob}
end
