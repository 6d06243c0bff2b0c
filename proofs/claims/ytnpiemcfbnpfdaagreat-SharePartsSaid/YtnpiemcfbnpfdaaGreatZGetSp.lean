import Derived.Test.YtnpiemcfbnpfdaaGreatDocOkSp
import Derived.Test.YtnpiemcfbnpfdaaGreatLiesInSp
import Derived.Test.YtnpiemcfbnpfdaaGreatSqSp
set_option linter.unusedVariables false
set_option linter.unusedSimpArgs false
set_option maxRecDepth 100000
namespace Go.Proofs.YtnpiemcfbnpfdaaGreat
open Go.RowKit
theorem size93 : (Tryz.prog.info? 64).map (·.size) = some 6 := by kernel_rfl
theorem blk_alloc (w : World) (o : Obj) (cs : List Value) (T : TypeId) : BlockIs ((w.alloc o).alloc (.cells cs.toArray T)) (w.heap.size + 1) cs T := by
 have h := BlockIs.new (w.alloc o) cs T
 rwa [World.size_alloc] at h
set_option maxHeartbeats 1000000 in
theorem refof_any (oa : Option Addr) (n oc : Nat) (root : Int) (w : World) : Calls Tryz.prog 19 #[.agg #[.slice oa n oc, .int .i64 root]] w (fun e w' => e = .returned (.agg #[.bool true, .slice oa n oc, .slice none 0 0, .slice none 0 0, .slice none 0 0, .int .i64 root]) ∧ Pure w w') := by
 go_enter Tryz.func19, Tryz.ntmps19
 go_wp2_with fail
 refine bodyPost_ret (results_row1 rfl _ _ (w.heap.size + 1) _ [.bool true, .slice oa n oc, .slice none 0 0, .slice none 0 0, .slice none 0 0, .int .i64 root] _ rfl (blk_alloc _ _ _ _) Tryz.underlying64 rfl size93) rfl ?_;exact ⟨rfl, (ext_alloc w _).pure (ext_alloc _ _)⟩
set_option maxHeartbeats 1000000 in
theorem refgetdoc_any (d : Nat) (l : List Ob) (oa : Option Addr) (oc : Nat) (rows : List (List Value)) (root n : Int) (w0 w : World) (hP0 : Pure w0 w) (hD : DocOk w0 d l oa rows root) :
 Calls Tryz.prog 41 #[.agg #[.bool true, .slice oa l.length oc, .slice none 0 0, .slice none 0 0, .slice none 0 0, .int .i64 root], .int .i64 n] w (ObW w0 (obAt l n) d w) := by
 have hol : l.length ≤ 5000 := hD.len;obtain ⟨on, hon⟩ : ∃ on, on = l.length := ⟨_, rfl⟩;rw [← hon] at hol ⊢;have HOn := qh hon;have HD := qh hD;have HP0 := qh hP0;clear hon hD hP0
 by_cases hin : 1 ≤ n ∧ n ≤ (on : Int)
 ·obtain ⟨k, rfl⟩ : ∃ k : Nat, n = (k : Int) + 1 := ⟨(n - 1).toNat, by omega⟩
  have hk : k < on := by omega
  obtain ⟨u, hu⟩ : ∃ u, l[k]? = some u := ⟨_, List.getElem?_eq_getElem (by rw [← HOn.out]; exact hk)⟩;obtain ⟨ob, oo, cs, rfl, hr, hl4, hL, hr6⟩ := HD.out.ok.at k u hu;rw [obAt_in hu];obtain ⟨va, vc, vrows, rfl, _⟩ := hL.kids;have hbw : ob < w.heap.size := World.block_lt_of_cell? w _ (HP0.out.cell_some (hr6 0 _ rfl) id);have hb1 : ob < w.heap.size + 1 := by omega
  have hb2 : ob < w.heap.size + 1 + 1 := by omega
  have HL := qh hL;have y0 : w.cell? ⟨ob, oo + k * 6, none⟩ = some (.int .i64 u.v.kind) := HP0.out.cell_some (hr6 0 _ rfl) id;have y1 : w.cell? ⟨ob, oo + k * 6 + 1, none⟩ = some (.int .i64 u.v.n) := HP0.out.cell_some (hr6 1 _ rfl) id;have y2 : w.cell? ⟨ob, oo + k * 6 + 2, none⟩ = some (.string u.v.s) := HP0.out.cell_some (hr6 2 _ rfl) id;have y3 : w.cell? ⟨ob, oo + k * 6 + 3, none⟩ = some (.slice va u.v.l.length vc) := HP0.out.cell_some (hr6 3 _ rfl) id;have y4 : w.cell? ⟨ob, oo + k * 6 + 4, none⟩ = some (.bool u.st) := HP0.out.cell_some (hr6 4 _ rfl) id;have y5 : w.cell? ⟨ob, oo + k * 6 + 5, none⟩ = some (.string u.data) := HP0.out.cell_some (hr6 5 _ rfl) id;have h1 : ¬ ((k : Int) + 1 < 1) := by omega
  have h2 : ¬ ((on : Int) < (k : Int) + 1) := by omega
  have hkn : (k : Int) < (on : Int) := by omega
  have hk0 : (0 : Int) ≤ (k : Int) := by omega
  have hk1 : (k : Int) + 1 - 1 = (k : Int) := by omega
  unfold ObW;clear hin hu hr hr6 hl4 hL;generalize u.v.l.length = vm at *;generalize u.v.kind = vk at *;generalize u.v.n = vn at *;generalize u.v.s = vs at *;generalize u.st = st at *;generalize u.data = dt at *
  go_enter Tryz.func41, Tryz.ntmps41
  go_wp2_with fail
  refine bodyPost_ret (results_row3 rfl _ _ (w.heap.size + 1) _ [.int .i64 vk, .int .i64 vn, .string vs, .slice va vm vc, .bool st, .string dt] _ rfl ((blk_alloc w (.cells #[.bool true, .slice (some ⟨ob, oo, none⟩) on oc, .slice none 0 0, .slice none 0 0, .slice none 0 0, .int .i64 root] 64) [.int .i64 vk, .int .i64 vn, .string vs, .slice va vm vc, .bool st, .string dt] 50).alloc _) Tryz.underlying50 rfl size43) rfl ?_;exact ⟨[.int .i64 vk, .int .i64 vn, .string vs, .slice va vm vc], rfl, HL.out, ((ext_alloc w _).pure (ext_alloc _ _)).pure (ext_alloc _ _)⟩
 ·rw [obAt_out (by rw [← HOn.out]; exact hin)]
  by_cases h1 : n < 1
  ·clear hin
   go_enter Tryz.func41, Tryz.ntmps41
   go_wp2_with fail
   refine bodyPost_ret (results_row3 rfl _ _ (w.heap.size + 1) _ zeroOb _ rfl ((blk_alloc w (.cells #[.bool true, .slice oa on oc, .slice none 0 0, .slice none 0 0, .slice none 0 0, .int .i64 root] 64) [.int .i64 0, .int .i64 0, .string ⟨#[]⟩, .slice none 0 0, .bool false, .string ⟨#[]⟩] 50).alloc _) Tryz.underlying50 rfl size43) rfl ?_;exact ⟨zeroCs, rfl, lies_null w0 d, ((ext_alloc w _).pure (ext_alloc _ _)).pure (ext_alloc _ _)⟩
  ·have h2 : (on : Int) < n := by omega
   clear hin
   go_enter Tryz.func41, Tryz.ntmps41
   go_wp2_with fail
   refine bodyPost_ret (results_row3 rfl _ _ (w.heap.size + 1) _ zeroOb _ rfl ((blk_alloc w (.cells #[.bool true, .slice oa on oc, .slice none 0 0, .slice none 0 0, .slice none 0 0, .int .i64 root] 64) [.int .i64 0, .int .i64 0, .string ⟨#[]⟩, .slice none 0 0, .bool false, .string ⟨#[]⟩] 50).alloc _) Tryz.underlying50 rfl size43) rfl ?_;exact ⟨zeroCs, rfl, lies_null w0 d, ((ext_alloc w _).pure (ext_alloc _ _)).pure (ext_alloc _ _)⟩
def RObTo (o : Ob) (d : Nat) (w : World) (e : Ending) (w' : World) : Prop := ∃ cs, e = .returned (.agg (cs ++ [.bool o.st, .string o.data]).toArray) ∧ Lies w (d + 1) o.v cs ∧ Pure w w'
set_option maxHeartbeats 1000000 in
theorem refobject_any (d : Nat) (l : List Ob) (oa : Option Addr) (oc : Nat) (rows : List (List Value)) (root n : Int) (w : World) (hD : DocOk w d l oa rows root) :
 Calls Tryz.prog 51 #[.agg #[.slice oa l.length oc, .int .i64 root], .int .i64 n] w (RObTo (obAt l n) d w) := by
 have HG := qh (fun W (hP : Pure w W) => refgetdoc_any d l oa oc rows root n w W hP hD);have HOf := qh (fun W => refof_any oa l.length oc root W);obtain ⟨on, hon⟩ : ∃ on, on = l.length := ⟨_, rfl⟩;rw [← hon] at HG HOf ⊢;obtain ⟨o, ho⟩ : ∃ z, z = obAt l n := ⟨_, rfl⟩;rw [← ho] at HG ⊢;have HD := qh hD;obtain ⟨ov, st, dt⟩ := o;clear hon ho hD;obtain ⟨wo, hwo⟩ : ∃ z, z = (w.alloc (.cells #[.slice oa on oc, .int .i64 root] 24)).alloc (.cells #[.int .i64 0, .int .i64 0, .string ⟨#[]⟩, .slice none 0 0, .bool false, .string ⟨#[]⟩] 50) := ⟨_, rfl⟩;obtain ⟨tb, htb⟩ : ∃ z, z = w.heap.size := ⟨_, rfl⟩;have HPo : Hid (Pure w wo) := qh (by rw [hwo]; exact (ext_alloc w _).pure (ext_alloc _ _));have HB : Hid (BlockIs wo (tb + 1) [.int .i64 0, .int .i64 0, .string ⟨#[]⟩, .slice none 0 0, .bool false, .string ⟨#[]⟩] 50) := qh (by rw [hwo, htb]; exact blk_alloc w _ [.int .i64 0, .int .i64 0, .string ⟨#[]⟩, .slice none 0 0, .bool false, .string ⟨#[]⟩] _);have HWo : Hid ((w.alloc (.cells #[.slice oa on oc, .int .i64 root] 24)).alloc (.cells #[.int .i64 0, .int .i64 0, .string ⟨#[]⟩, .slice none 0 0, .bool false, .string ⟨#[]⟩] 50) = wo) := qh hwo.symm;have HTb := qh htb;clear hwo htb
 go_enter Tryz.func51, Tryz.ntmps51
 go_wp2_with fail
 rw [HWo.out, ← HTb.out];refine (HOf.out wo).mono ?_;rintro e w1 ⟨rfl, hP⟩;have HP1 := qh (HPo.out.pure hP);have HB1 := qh (HB.out.ext hP id);clear hP HPo HB
 go_wp2_with fail
 refine (HG.out w1 HP1.out).mono ?_;rintro e w2 ⟨cs, rfl, hL, hP⟩;obtain ⟨va, vc, vrows, rfl, _⟩ := hL.kids;have HL := qh hL;have HB2 := qh (HB1.out.ext hP id);have HP2 := qh (HP1.out.pure hP);clear hL hP HB1 HP1 HG HOf HD;simp only [List.cons_append, List.nil_append];generalize ov.l.length = vm at *;generalize ov.kind = vk at *;generalize ov.n = vn at *;generalize ov.s = vs at *;have HTh : Hid ((w2.alloc (.cells #[.int .i64 vk, .int .i64 vn, .string vs, .slice va vm vc, .bool st, .string dt] 50)).there (tb + 1) 0 (#[.int .i64 vk, .int .i64 vn, .string vs, .slice va vm vc, .bool st, .string dt] : Array Value).size) := qh ((HB2.out.alloc _).there 6 rfl);have HSi : Hid ((Tryz.prog.info? 50).map (·.size) = some (#[.int .i64 vk, .int .i64 vn, .string vs, .slice va vm vc, .bool st, .string dt] : Array Value).size) := qh size43;have HOn : Hid (((#[.int .i64 vk, .int .i64 vn, .string vs, .slice va vm vc, .bool st, .string dt] : Array Value).all fun u => u.oneCell') = true) := qh (all_oneCell_toArray (by intro u hu; simp only [List.mem_cons, List.not_mem_nil, or_false] at hu; rcases hu with rfl | rfl | rfl | rfl | rfl | rfl <;> rfl))
 have HBz := qh ((HB2.out.alloc (.cells #[.int .i64 vk, .int .i64 vn, .string vs, .slice va vm vc, .bool st, .string dt] 50)).setAll [.int .i64 vk, .int .i64 vn, .string vs, .slice va vm vc, .bool st, .string dt] rfl);have HPz : Hid (Pure w ((w2.alloc (.cells #[.int .i64 vk, .int .i64 vn, .string vs, .slice va vm vc, .bool st, .string dt] 50)).setCells (tb + 1) 0 [.int .i64 vk, .int .i64 vn, .string vs, .slice va vm vc, .bool st, .string dt])) := qh (Ext.setCells _ 0 _ (HP2.out.pure (ext_alloc _ _)) (b := tb + 1) (fun h => by have := HTb.out; omega))
 go_wp2_with (first
  | (with_reducible refine at_store 50 (.tmp 4) (.tmp 16) ?_; refine wpList_store_mid rfl 50 (.tmp 4) (.tmp 16) rfl (tb + 1) 0 #[.int .i64 vk, .int .i64 vn, .string vs, .slice va vm vc, .bool st, .string dt] rfl rfl HTh.out HSi.out HOn.out ?_))
 refine bodyPost_ret (results_row1 rfl _ _ (tb + 1) _ [.int .i64 vk, .int .i64 vn, .string vs, .slice va vm vc, .bool st, .string dt] _ rfl HBz.out Tryz.underlying50 rfl size43) rfl ?_;exact ⟨[.int .i64 vk, .int .i64 vn, .string vs, .slice va vm vc], rfl, HL.out, HPz.out⟩
