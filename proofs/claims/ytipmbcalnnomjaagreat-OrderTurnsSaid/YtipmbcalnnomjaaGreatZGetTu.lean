import Derived.Test.YtipmbcalnnomjaaGreatDocOkTu
import Derived.Test.YtipmbcalnnomjaaGreatLiesInTu
import Derived.Test.YtipmbcalnnomjaaGreatSqTu
set_option linter.unusedVariables false
set_option linter.unusedSimpArgs false
set_option maxRecDepth 100000
namespace Go.Proofs.YtipmbcalnnomjaaGreat
open Go.RowKit
theorem size93 : (Tryz.prog.info? 81).map (·.size) = some 6 := by kernel_rfl
theorem blk_alloc (w : World) (o : Obj) (cs : List Value) (T : TypeId) : BlockIs ((w.alloc o).alloc (.cells cs.toArray T)) (w.heap.size + 1) cs T := by
 have h := BlockIs.new (w.alloc o) cs T
 rwa [World.size_alloc] at h
set_option maxHeartbeats 1000000 in
theorem refof_any (oa : Option Addr) (n oc : Nat) (root : Int) (w : World) : Calls Tryz.prog 32 #[.agg #[.slice oa n oc, .int .i64 root]] w (fun e w' => e = .returned (.agg #[.bool true, .slice oa n oc, .slice none 0 0, .slice none 0 0, .slice none 0 0, .int .i64 root]) ∧ Pure w w') := by
 go_enter Tryz.func32, Tryz.ntmps32
 go_wp2_with fail
 refine bodyPost_ret (results_row1 rfl _ _ (w.heap.size + 1) _ [.bool true, .slice oa n oc, .slice none 0 0, .slice none 0 0, .slice none 0 0, .int .i64 root] _ rfl (blk_alloc _ _ _ _) Tryz.underlying81 rfl size93) rfl ?_
 exact ⟨rfl, (ext_alloc w _).pure (ext_alloc _ _)⟩
set_option maxHeartbeats 1000000 in
theorem refgetdoc_any (d : Nat) (l : List Ob) (oa : Option Addr) (oc : Nat) (rows : List (List Value)) (root n : Int) (w0 w : World) (hP0 : Pure w0 w) (hD : DocOk w0 d l oa rows root) :
 Calls Tryz.prog 31 #[.agg #[.bool true, .slice oa l.length oc, .slice none 0 0, .slice none 0 0, .slice none 0 0, .int .i64 root], .int .i64 n] w (ObW w0 (obAt l n) d w) := by
 have hol : l.length ≤ 5000 := hD.len
 obtain ⟨on, hon⟩ : ∃ on, on = l.length := ⟨_, rfl⟩
 rw [← hon] at hol ⊢
 have HOn := qh hon
 have HD := qh hD
 have HP0 := qh hP0
 clear hon hD hP0
 by_cases hin : 1 ≤ n ∧ n ≤ (on : Int)
 ·obtain ⟨k, rfl⟩ : ∃ k : Nat, n = (k : Int) + 1 := ⟨(n - 1).toNat, by omega⟩
  have hk : k < on := by omega
  obtain ⟨u, hu⟩ : ∃ u, l[k]? = some u := ⟨_, List.getElem?_eq_getElem (by rw [← HOn.out]; exact hk)⟩
  obtain ⟨ob, oo, cs, rfl, hr, hl4, hL, hr6⟩ := HD.out.ok.at k u hu
  rw [obAt_in hu]
  obtain ⟨va, vc, vrows, rfl, _⟩ := hL.kids
  have hbw : ob < w.heap.size := World.block_lt_of_cell? w _ (HP0.out.cell_some (hr6 0 _ rfl) id)
  have hb1 : ob < w.heap.size + 1 := by omega
  have hb2 : ob < w.heap.size + 1 + 1 := by omega
  have HL := qh hL
  have y0 : w.cell? ⟨ob, oo + k * 6, none⟩ = some (.int .i64 u.v.kind) := HP0.out.cell_some (hr6 0 _ rfl) id
  have y1 : w.cell? ⟨ob, oo + k * 6 + 1, none⟩ = some (.int .i64 u.v.n) := HP0.out.cell_some (hr6 1 _ rfl) id
  have y2 : w.cell? ⟨ob, oo + k * 6 + 2, none⟩ = some (.string u.v.s) := HP0.out.cell_some (hr6 2 _ rfl) id
  have y3 : w.cell? ⟨ob, oo + k * 6 + 3, none⟩ = some (.slice va u.v.l.length vc) := HP0.out.cell_some (hr6 3 _ rfl) id
  have y4 : w.cell? ⟨ob, oo + k * 6 + 4, none⟩ = some (.bool u.st) := HP0.out.cell_some (hr6 4 _ rfl) id
  have y5 : w.cell? ⟨ob, oo + k * 6 + 5, none⟩ = some (.string u.data) := HP0.out.cell_some (hr6 5 _ rfl) id
  have h1 : ¬ ((k : Int) + 1 < 1) := by omega
  have h2 : ¬ ((on : Int) < (k : Int) + 1) := by omega
  have hkn : (k : Int) < (on : Int) := by omega
  have hk0 : (0 : Int) ≤ (k : Int) := by omega
  have hk1 : (k : Int) + 1 - 1 = (k : Int) := by omega
  unfold ObW
  clear hin hu hr hr6 hl4 hL
  generalize u.v.l.length = vm at *
  generalize u.v.kind = vk at *
  generalize u.v.n = vn at *
  generalize u.v.s = vs at *
  generalize u.st = st at *
  generalize u.data = dt at *
  go_enter Tryz.func31, Tryz.ntmps31
  go_wp2_with fail
  refine bodyPost_ret (results_row3 rfl _ _ (w.heap.size + 1) _ [.int .i64 vk, .int .i64 vn, .string vs, .slice va vm vc, .bool st, .string dt] _ rfl ((blk_alloc w (.cells #[.bool true, .slice (some ⟨ob, oo, none⟩) on oc, .slice none 0 0, .slice none 0 0, .slice none 0 0, .int .i64 root] 81) [.int .i64 vk, .int .i64 vn, .string vs, .slice va vm vc, .bool st, .string dt] 61).alloc _) Tryz.underlying61 rfl size43) rfl ?_
  exact ⟨[.int .i64 vk, .int .i64 vn, .string vs, .slice va vm vc], rfl, HL.out, ((ext_alloc w _).pure (ext_alloc _ _)).pure (ext_alloc _ _)⟩
 ·rw [obAt_out (by rw [← HOn.out]; exact hin)]
  by_cases h1 : n < 1
  ·clear hin
   go_enter Tryz.func31, Tryz.ntmps31
   go_wp2_with fail
   refine bodyPost_ret (results_row3 rfl _ _ (w.heap.size + 1) _ zeroOb _ rfl ((blk_alloc w (.cells #[.bool true, .slice oa on oc, .slice none 0 0, .slice none 0 0, .slice none 0 0, .int .i64 root] 81) [.int .i64 0, .int .i64 0, .string ⟨#[]⟩, .slice none 0 0, .bool false, .string ⟨#[]⟩] 61).alloc _) Tryz.underlying61 rfl size43) rfl ?_
   exact ⟨zeroCs, rfl, lies_null w0 d, ((ext_alloc w _).pure (ext_alloc _ _)).pure (ext_alloc _ _)⟩
  ·have h2 : (on : Int) < n := by omega
   clear hin
   go_enter Tryz.func31, Tryz.ntmps31
   go_wp2_with fail
   refine bodyPost_ret (results_row3 rfl _ _ (w.heap.size + 1) _ zeroOb _ rfl ((blk_alloc w (.cells #[.bool true, .slice oa on oc, .slice none 0 0, .slice none 0 0, .slice none 0 0, .int .i64 root] 81) [.int .i64 0, .int .i64 0, .string ⟨#[]⟩, .slice none 0 0, .bool false, .string ⟨#[]⟩] 61).alloc _) Tryz.underlying61 rfl size43) rfl ?_
   exact ⟨zeroCs, rfl, lies_null w0 d, ((ext_alloc w _).pure (ext_alloc _ _)).pure (ext_alloc _ _)⟩
