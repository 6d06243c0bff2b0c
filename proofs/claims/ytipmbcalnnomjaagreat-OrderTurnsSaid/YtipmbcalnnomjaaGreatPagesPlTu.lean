import Derived.Test.YtipmbcalnnomjaaGreatNumPlTu
import Derived.Test.YtipmbcalnnomjaaGreatRowPutTu
import Derived.Test.YtipmbcalnnomjaaGreatDocPlTu
import Derived.Test.YtipmbcalnnomjaaGreatAskTu
import Derived.Test.YtipmbcalnnomjaaGreatSqTu
set_option linter.unusedVariables false
set_option linter.unusedSimpArgs false
namespace Go.Proofs.YtipmbcalnnomjaaGreat
open Go.RowKit
section
variable {l : List Ob} {root : Int} {t : Tr}
end
section
variable {l : List Ob} {root : Int} {t : Tr}
end
