import Derived.Test.YtipmbcalnnomjaaGreatFindPlTu
import Derived.Test.YtipmbcalnnomjaaGreatRefsRTu
import Derived.Test.YtipmbcalnnomjaaGreatWalkDTu
import Derived.Maps.OwnSet
import Derived.Deep.DeepCutAuto
import Derived.Test.YtipmbcalnnomjaaGreatSqTu
set_option linter.unusedVariables false
set_option linter.unusedSimpArgs false
namespace Go.Proofs.YtipmbcalnnomjaaGreat
open Go.RowKit
theorem snocInd {P : List Int → Prop} (nil : P []) (app : ∀ ys y, P ys → P (ys ++ [y])) (ys : List Int) : P ys := by
 have h : ∀ zs : List Int, P zs.reverse := by
  intro zs
  induction zs with
  | nil => exact nil
  | cons z zs ih => rw [List.reverse_cons]; exact app _ _ ih
 have h2 := h ys.reverse
 rwa [List.reverse_reverse] at h2
end Go.Proofs.YtipmbcalnnomjaaGreat
namespace Go.Proofs.YtipmbcalnnomjaaGreat
open Go.RowKit Go.Maps
