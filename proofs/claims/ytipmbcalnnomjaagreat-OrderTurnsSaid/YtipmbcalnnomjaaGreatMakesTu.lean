import Derived.Test.YtipmbcalnnomjaaGreatPutTu
import Derived.Test.YtipmbcalnnomjaaGreatRegListTu
import Derived.Test.YtipmbcalnnomjaaGreatSqTu
set_option linter.unusedVariables false
set_option linter.unusedSimpArgs false
namespace Go.Proofs.YtipmbcalnnomjaaGreat
open Go.RowKit
def refV (n : Int) : V := .mk 8 n ⟨#[]⟩ []
theorem ref_any (n : Int) (w : World) : Calls Tryz.prog 51 #[.int .i64 n] w (fun e w' => e = .returned (.agg #[.int .i64 8, .int .i64 n, .string ⟨#[]⟩, .slice none 0 0]) ∧ Pure w w') := by
 go_enter Tryz.func51, Tryz.ntmps51
 go_wp2_with fail
 refine bodyPost_ret (results_row1 rfl _ _ w.heap.size _ [.int .i64 8, .int .i64 n, .string ⟨#[]⟩, .slice none 0 0] _ rfl (BlockIs.new w _ _) Tryz.underlying48 rfl size24) rfl ?_
 exact ⟨rfl, ext_alloc w _⟩
