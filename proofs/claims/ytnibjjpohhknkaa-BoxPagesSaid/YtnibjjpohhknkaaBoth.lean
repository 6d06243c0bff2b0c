/-
  Walked: both Boths (printed by mkboth.py).
-/
import Derived.Test.YtnibjjpohhknkaaRefMay
namespace Go.Proofs.Ytnibjjpohhknkaa
open Go.RowKit
set_option linter.unusedVariables false
set_option linter.unusedSimpArgs false

theorem both_eq {a b : Bx} (ha : a.may = true) (hb : b.may = true) : a.both b = if min (a.x + a.w) (b.x + b.w) - max a.x b.x ≤ 0 ∨ min (a.y + a.h) (b.y + b.h) - max a.y b.y ≤ 0 then .zero else ⟨max a.x b.x, max a.y b.y, min (a.x + a.w) (b.x + b.w) - max a.x b.x, min (a.y + a.h) (b.y + b.h) - max a.y b.y⟩ := by
  unfold Bx.both
  rw [if_pos ⟨ha, hb⟩]
  rfl
theorem setRect {w : World} {b : Nat} {T : TypeId} {cs : List Value} (h : BlockIs w b cs T) (hl : cs.length = 4) (p q r s : Value) : BlockIs (w.setCells b 0 [p, q, r, s]) b [p, q, r, s] T := h.setAll [p, q, r, s] hl
theorem maxrun {P : Program} {x y z : Int} (h : z = max x y) (ts : Array TypeId) (t : TypeId) (w : World) : (Builtin.max_ ts t #[.int .i64 x, .int .i64 y]).run P w = .ok (.int .i64 z) w := by
  subst h
  have e : max x y = if y > x then y else x := by split <;> omega
  rw [e]
  exact run_max_int2 w ts t .i64 .i64 x y
theorem minrun {P : Program} {x y z : Int} (h : z = min x y) (ts : Array TypeId) (t : TypeId) (w : World) : (Builtin.min_ ts t #[.int .i64 x, .int .i64 y]).run P w = .ok (.int .i64 z) w := by
  subst h
  have e : min x y = if y < x then y else x := by split <;> omega
  rw [e]
  exact run_min_int2 w ts t .i64 .i64 x y
set_option maxHeartbeats 2000000 in
set_option maxRecDepth 100000 in
theorem both_any (a b : Bx) (w : World) : Calls Try.prog 14 #[.agg #[.int .i64 a.x, .int .i64 a.y, .int .i64 a.w, .int .i64 a.h], .agg #[.int .i64 b.x, .int .i64 b.y, .int .i64 b.w, .int .i64 b.h]] w (RectTo (a.both b) w) := by
  have HA := Lib.hid (fun W => may_any a W)
  have HB := Lib.hid (fun W => may_any b W)
  obtain ⟨T, hT⟩ : ∃ T, T = a.both b := ⟨_, rfl⟩
  rw [← hT]
  have HT := Lib.hid hT
  clear hT
  obtain ⟨w1, hw1⟩ : ∃ z, z = w.alloc (.cells (rc a).toArray 28) := ⟨_, rfl⟩
  obtain ⟨tb, htb⟩ : ∃ z, z = w.heap.size := ⟨_, rfl⟩
  have hB1 : BlockIs w1 tb (rc a) 28 := by rw [htb, hw1]; exact BlockIs.new w _ _
  have hs1 : w1.heap.size = tb + 1 := by rw [hw1, World.size_alloc, htb]
  obtain ⟨w2, hw2⟩ : ∃ z, z = w1.alloc (.cells (rc b).toArray 28) := ⟨_, rfl⟩
  have hs2 : w2.heap.size = tb + 2 := by rw [hw2, World.size_alloc, hs1]
  have hB2 : BlockIs w2 (tb + 1) (rc b) 28 := by rw [← hs1, hw2]; exact BlockIs.new w1 _ _
  obtain ⟨w3, hw3⟩ : ∃ z, z = w2.alloc (.cells (rc .zero).toArray 28) := ⟨_, rfl⟩
  have hBa : BlockIs w3 tb (rc a) 28 := hw3 ▸ (show BlockIs w2 tb (rc a) 28 from hw2 ▸ hB1.alloc _).alloc _
  have hBb : BlockIs w3 (tb + 1) (rc b) 28 := hw3 ▸ hB2.alloc _
  have hBr : BlockIs w3 (tb + 2) (rc .zero) 28 := by rw [← hs2, hw3]; exact BlockIs.new w2 _ _
  have hP : Pure w w3 := ((show Pure w w1 from hw1 ▸ ext_alloc w _).pure (show Pure w1 w2 from hw2 ▸ ext_alloc w1 _)).pure (hw3 ▸ ext_alloc w2 _)
  have HW : Hid (((w.alloc (.cells #[.int .i64 a.x, .int .i64 a.y, .int .i64 a.w, .int .i64 a.h] 28)).alloc (.cells #[.int .i64 b.x, .int .i64 b.y, .int .i64 b.w, .int .i64 b.h] 28)).alloc (.cells #[.int .i64 0, .int .i64 0, .int .i64 0, .int .i64 0] 28) = w3) := Lib.hid (by rw [hw3, hw2, hw1]; rfl)
  have HTb := Lib.hid htb
  clear hw1 hw2 hw3 hs1 hs2 hB1 hB2 htb
  by_cases ha : a.may = true
  · rw [ha] at HA
    have hRb := hBb.range
    have e0 : w3.cell? ⟨tb + 1, 0, none⟩ = some (.int .i64 b.x) := hBb.cell 0
    go_enter Try.func14, Try.ntmps14
    go_wp2_with fail
    rw [HW.out, ← HTb.out]
    refine (HA.out w3).mono ?_
    rintro e w4 ⟨rfl, hP4⟩
    have hBa := hBa.ext hP4 id
    have hBb := hBb.ext hP4 id
    have hBr := hBr.ext hP4 id
    have hP := hP.pure hP4
    have c0 : w4.cell? ⟨tb, 0, none⟩ = some (.int .i64 a.x) := hBa.cell 0
    have c1 : w4.cell? ⟨tb, 1, none⟩ = some (.int .i64 a.y) := hBa.cell 1
    have c2 : w4.cell? ⟨tb, 2, none⟩ = some (.int .i64 a.w) := hBa.cell 2
    have c3 : w4.cell? ⟨tb, 3, none⟩ = some (.int .i64 a.h) := hBa.cell 3
    have d0 : w4.cell? ⟨tb + 1, 0, none⟩ = some (.int .i64 b.x) := hBb.cell 0
    have d1 : w4.cell? ⟨tb + 1, 1, none⟩ = some (.int .i64 b.y) := hBb.cell 1
    have d2 : w4.cell? ⟨tb + 1, 2, none⟩ = some (.int .i64 b.w) := hBb.cell 2
    have d3 : w4.cell? ⟨tb + 1, 3, none⟩ = some (.int .i64 b.h) := hBb.cell 3
    clear e0 hRb hP4
    go_wp2_with fail
    refine (HB.out w4).mono ?_
    rintro e w5 ⟨rfl, hP5⟩
    have hBa := hBa.ext hP5 id
    have hBb := hBb.ext hP5 id
    have hBr := hBr.ext hP5 id
    have hP := hP.pure hP5
    clear hP5 c0 c1 c2 c3 d0 d1 d2 d3
    by_cases hb : b.may = true
    · rw [hb]
      have h1 := Bx.may_iff.1 ha
      have h2 := Bx.may_iff.1 hb
      unfold most at h1 h2
      have hT2 := HT.out
      rw [both_eq ha hb] at hT2
      clear ha hb HA HB HT
      obtain ⟨ax, ay, aw, ah⟩ := a
      obtain ⟨bx, by', bw, bh⟩ := b
      simp only at h1 h2 hT2
      have c0 : w5.cell? ⟨tb, 0, none⟩ = some (.int .i64 ax) := hBa.cell 0
      have c1 : w5.cell? ⟨tb, 1, none⟩ = some (.int .i64 ay) := hBa.cell 1
      have c2 : w5.cell? ⟨tb, 2, none⟩ = some (.int .i64 aw) := hBa.cell 2
      have c3 : w5.cell? ⟨tb, 3, none⟩ = some (.int .i64 ah) := hBa.cell 3
      have d0 : w5.cell? ⟨tb + 1, 0, none⟩ = some (.int .i64 bx) := hBb.cell 0
      have d1 : w5.cell? ⟨tb + 1, 1, none⟩ = some (.int .i64 by') := hBb.cell 1
      have d2 : w5.cell? ⟨tb + 1, 2, none⟩ = some (.int .i64 bw) := hBb.cell 2
      have d3 : w5.cell? ⟨tb + 1, 3, none⟩ = some (.int .i64 bh) := hBb.cell 3
      have HT2 := Lib.hid hT2
      have HTh : Hid (∀ (n0 : Nat) (a b c d : Int), ((w5.drewN n0)).there (tb + 2) 0 (#[Value.int .i64 a, .int .i64 b, .int .i64 c, .int .i64 d] : Array Value).size) := Lib.hid (fun n0 a b c d => ((hBr.drewN n0)).there 4 rfl)
      have HSi : Hid (∀ (a b c d : Int), (Try.prog.info? 28).map (·.size) = some (#[Value.int .i64 a, .int .i64 b, .int .i64 c, .int .i64 d] : Array Value).size) := Lib.hid (fun _ _ _ _ => size28)
      have HBr := Lib.hid hBr
      have HP := Lib.hid hP
      obtain ⟨⟨l1, l2⟩, ⟨l3, l4⟩, ⟨l5, l6⟩, ⟨l7, l8⟩⟩ := h1
      obtain ⟨⟨m1, m2⟩, ⟨m3, m4⟩, ⟨m5, m6⟩, ⟨m7, m8⟩⟩ := h2
      clear hT2 hBr hP hBa hBb
      obtain ⟨X, hX⟩ : ∃ X, X = max ax bx := ⟨_, rfl⟩
      obtain ⟨Y, hY⟩ : ∃ Y, Y = max ay by' := ⟨_, rfl⟩
      obtain ⟨W, hW⟩ : ∃ W, W = min (ax + aw) (bx + bw) := ⟨_, rfl⟩
      obtain ⟨H, hH⟩ : ∃ H, H = min (ay + ah) (by' + bh) := ⟨_, rfl⟩
      have x1 : -2251799813685248 ≤ X := by omega
      have x2 : X ≤ 2251799813685248 := by omega
      have y1 : -2251799813685248 ≤ Y := by omega
      have y2 : Y ≤ 2251799813685248 := by omega
      have v1 : -2251799813685248 ≤ W := by omega
      have v2 : W ≤ 6755399441055744 := by omega
      have g1 : -2251799813685248 ≤ H := by omega
      have g2 : H ≤ 6755399441055744 := by omega
      have f1 := maxrun (P := Try.prog) hX
      have f2 := maxrun (P := Try.prog) hY
      have f3 := minrun (P := Try.prog) hW
      have f4 := minrun (P := Try.prog) hH
      have HT2 : Hid (T = if W - X ≤ 0 ∨ H - Y ≤ 0 then .zero else ⟨X, Y, W - X, H - Y⟩) := Lib.hid (by rw [HT2.out, hX, hY, hW, hH])
      clear hX hY hW hH
      go_wp2_with fail
      go_quiet (fail)
      go_wp2_with fail
      go_quiet (fail)
      go_wp2_with (first
        | (with_reducible refine at_store 28 (.tmp 4) (.tmp 60) ?_; refine wpList_store_mid rfl 28 (.tmp 4) (.tmp 60) rfl (tb + 2) 0 #[.int .i64 0, .int .i64 0, .int .i64 0, .int .i64 0] rfl rfl (HTh.out _ _ _ _ _) (HSi.out _ _ _ _) (one4 _ _ _ _) ?_)
        | (with_reducible refine at_store 28 (.tmp 4) (.tmp 65) ?_; refine wpList_store_mid rfl 28 (.tmp 4) (.tmp 65) rfl (tb + 2) 0 #[.int .i64 X, .int .i64 Y, .int .i64 (W - X), .int .i64 (H - Y)] rfl rfl (HTh.out _ _ _ _ _) (HSi.out _ _ _ _) (one4 _ _ _ _) ?_))
      all_goals
        refine bodyPost_ret (results_row1 rfl _ _ (tb + 2) _ [_, _, _, _] _ rfl (setRect ((HBr.out).drewN _) rfl _ _ _ _) Try.underlying28 rfl size28) rfl ?_
        refine rect_to ?_ ?_ ?_ ?_ (Ext.setCells _ 0 _ ((HP.out).drewN _) (b := tb + 2) (fun h => by have := HTb.out; omega))
        all_goals
          rw [HT2.out]
          split <;> simp only [Bx.zero] <;> omega
    · have hb' : b.may = false := by simpa using hb
      have HTr : Hid (T = .zero) := Lib.hid (by rw [HT.out]; unfold Bx.both; rw [if_neg (fun h => hb h.2)])
      rw [hb']
      clear hb hb' hBa hBb
      have HTh : Hid (w5.there (tb + 2) 0 (#[.int .i64 0, .int .i64 0, .int .i64 0, .int .i64 0] : Array Value).size) := Lib.hid (hBr.there 4 rfl)
      have HSi : Hid ((Try.prog.info? 28).map (·.size) = some (#[.int .i64 0, .int .i64 0, .int .i64 0, .int .i64 0] : Array Value).size) := Lib.hid size28
      have HP8 : Hid (Pure w (w5.setCells (tb + 2) 0 [.int .i64 0, .int .i64 0, .int .i64 0, .int .i64 0])) := Lib.hid (Ext.setCells _ 0 w5 hP (b := tb + 2) (fun h => by have := HTb.out; omega))
      have HB9 := Lib.hid (hBr.setAll [.int .i64 0, .int .i64 0, .int .i64 0, .int .i64 0] rfl)
      clear hBr hP
      go_wp2_with (with_reducible refine at_store 28 (.tmp 4) (.tmp 17) ?_; refine wpList_store_mid rfl 28 (.tmp 4) (.tmp 17) rfl (tb + 2) 0 #[.int .i64 0, .int .i64 0, .int .i64 0, .int .i64 0] rfl rfl HTh.out HSi.out (one4 _ _ _ _) ?_)
      refine bodyPost_ret (results_row1 rfl _ _ (tb + 2) _ [.int .i64 0, .int .i64 0, .int .i64 0, .int .i64 0] _ rfl HB9.out Try.underlying28 rfl size28) rfl ?_
      exact ⟨by rw [HTr.out]; rfl, HP8.out⟩
  · have ha' : a.may = false := by simpa using ha
    have HTr : Hid (T = .zero) := Lib.hid (by rw [HT.out]; unfold Bx.both; rw [if_neg (fun h => ha h.1)])
    rw [ha'] at HA
    clear ha ha'
    go_enter Try.func14, Try.ntmps14
    go_wp2_with fail
    rw [HW.out, ← HTb.out]
    refine (HA.out w3).mono ?_
    rintro e w4 ⟨rfl, hP4⟩
    have hBr := hBr.ext hP4 id
    have hP := hP.pure hP4
    clear hP4 hBa hBb
    have HTh : Hid (w4.there (tb + 2) 0 (#[.int .i64 0, .int .i64 0, .int .i64 0, .int .i64 0] : Array Value).size) := Lib.hid (hBr.there 4 rfl)
    have HSi : Hid ((Try.prog.info? 28).map (·.size) = some (#[.int .i64 0, .int .i64 0, .int .i64 0, .int .i64 0] : Array Value).size) := Lib.hid size28
    have HP8 : Hid (Pure w (w4.setCells (tb + 2) 0 [.int .i64 0, .int .i64 0, .int .i64 0, .int .i64 0])) := Lib.hid (Ext.setCells _ 0 w4 hP (b := tb + 2) (fun h => by have := HTb.out; omega))
    have HB9 := Lib.hid (hBr.setAll [.int .i64 0, .int .i64 0, .int .i64 0, .int .i64 0] rfl)
    clear hBr hP
    go_wp2_with (with_reducible refine at_store 28 (.tmp 4) (.tmp 17) ?_; refine wpList_store_mid rfl 28 (.tmp 4) (.tmp 17) rfl (tb + 2) 0 #[.int .i64 0, .int .i64 0, .int .i64 0, .int .i64 0] rfl rfl HTh.out HSi.out (one4 _ _ _ _) ?_)
    refine bodyPost_ret (results_row1 rfl _ _ (tb + 2) _ [.int .i64 0, .int .i64 0, .int .i64 0, .int .i64 0] _ rfl HB9.out Try.underlying28 rfl size28) rfl ?_
    exact ⟨by rw [HTr.out]; rfl, HP8.out⟩
set_option maxHeartbeats 2000000 in
set_option maxRecDepth 100000 in
theorem refboth_any (a b : Bx) (w : World) : Calls Try.prog 16 #[.agg #[.int .i64 a.x, .int .i64 a.y, .int .i64 a.w, .int .i64 a.h], .agg #[.int .i64 b.x, .int .i64 b.y, .int .i64 b.w, .int .i64 b.h]] w (RectTo (a.both b) w) := by
  have HA := Lib.hid (fun W => refmay_any a W)
  have HB := Lib.hid (fun W => refmay_any b W)
  obtain ⟨T, hT⟩ : ∃ T, T = a.both b := ⟨_, rfl⟩
  rw [← hT]
  have HT := Lib.hid hT
  clear hT
  obtain ⟨w1, hw1⟩ : ∃ z, z = w.alloc (.cells (rc a).toArray 32) := ⟨_, rfl⟩
  obtain ⟨tb, htb⟩ : ∃ z, z = w.heap.size := ⟨_, rfl⟩
  have hB1 : BlockIs w1 tb (rc a) 32 := by rw [htb, hw1]; exact BlockIs.new w _ _
  have hs1 : w1.heap.size = tb + 1 := by rw [hw1, World.size_alloc, htb]
  obtain ⟨w2, hw2⟩ : ∃ z, z = w1.alloc (.cells (rc b).toArray 32) := ⟨_, rfl⟩
  have hs2 : w2.heap.size = tb + 2 := by rw [hw2, World.size_alloc, hs1]
  have hB2 : BlockIs w2 (tb + 1) (rc b) 32 := by rw [← hs1, hw2]; exact BlockIs.new w1 _ _
  obtain ⟨w3, hw3⟩ : ∃ z, z = w2.alloc (.cells (rc .zero).toArray 32) := ⟨_, rfl⟩
  have hBa : BlockIs w3 tb (rc a) 32 := hw3 ▸ (show BlockIs w2 tb (rc a) 32 from hw2 ▸ hB1.alloc _).alloc _
  have hBb : BlockIs w3 (tb + 1) (rc b) 32 := hw3 ▸ hB2.alloc _
  have hBr : BlockIs w3 (tb + 2) (rc .zero) 32 := by rw [← hs2, hw3]; exact BlockIs.new w2 _ _
  have hP : Pure w w3 := ((show Pure w w1 from hw1 ▸ ext_alloc w _).pure (show Pure w1 w2 from hw2 ▸ ext_alloc w1 _)).pure (hw3 ▸ ext_alloc w2 _)
  have HW : Hid (((w.alloc (.cells #[.int .i64 a.x, .int .i64 a.y, .int .i64 a.w, .int .i64 a.h] 32)).alloc (.cells #[.int .i64 b.x, .int .i64 b.y, .int .i64 b.w, .int .i64 b.h] 32)).alloc (.cells #[.int .i64 0, .int .i64 0, .int .i64 0, .int .i64 0] 32) = w3) := Lib.hid (by rw [hw3, hw2, hw1]; rfl)
  have HTb := Lib.hid htb
  clear hw1 hw2 hw3 hs1 hs2 hB1 hB2 htb
  by_cases ha : a.may = true
  · rw [ha] at HA
    have hRb := hBb.range
    have e0 : w3.cell? ⟨tb + 1, 0, none⟩ = some (.int .i64 b.x) := hBb.cell 0
    go_enter Try.func16, Try.ntmps16
    go_wp2_with fail
    rw [HW.out, ← HTb.out]
    refine (HA.out w3).mono ?_
    rintro e w4 ⟨rfl, hP4⟩
    have hBa := hBa.ext hP4 id
    have hBb := hBb.ext hP4 id
    have hBr := hBr.ext hP4 id
    have hP := hP.pure hP4
    have c0 : w4.cell? ⟨tb, 0, none⟩ = some (.int .i64 a.x) := hBa.cell 0
    have c1 : w4.cell? ⟨tb, 1, none⟩ = some (.int .i64 a.y) := hBa.cell 1
    have c2 : w4.cell? ⟨tb, 2, none⟩ = some (.int .i64 a.w) := hBa.cell 2
    have c3 : w4.cell? ⟨tb, 3, none⟩ = some (.int .i64 a.h) := hBa.cell 3
    have d0 : w4.cell? ⟨tb + 1, 0, none⟩ = some (.int .i64 b.x) := hBb.cell 0
    have d1 : w4.cell? ⟨tb + 1, 1, none⟩ = some (.int .i64 b.y) := hBb.cell 1
    have d2 : w4.cell? ⟨tb + 1, 2, none⟩ = some (.int .i64 b.w) := hBb.cell 2
    have d3 : w4.cell? ⟨tb + 1, 3, none⟩ = some (.int .i64 b.h) := hBb.cell 3
    clear e0 hRb hP4
    go_wp2_with fail
    refine (HB.out w4).mono ?_
    rintro e w5 ⟨rfl, hP5⟩
    have hBa := hBa.ext hP5 id
    have hBb := hBb.ext hP5 id
    have hBr := hBr.ext hP5 id
    have hP := hP.pure hP5
    clear hP5 c0 c1 c2 c3 d0 d1 d2 d3
    by_cases hb : b.may = true
    · rw [hb]
      have h1 := Bx.may_iff.1 ha
      have h2 := Bx.may_iff.1 hb
      unfold most at h1 h2
      have hT2 := HT.out
      rw [both_eq ha hb] at hT2
      clear ha hb HA HB HT
      obtain ⟨ax, ay, aw, ah⟩ := a
      obtain ⟨bx, by', bw, bh⟩ := b
      simp only at h1 h2 hT2
      have c0 : w5.cell? ⟨tb, 0, none⟩ = some (.int .i64 ax) := hBa.cell 0
      have c1 : w5.cell? ⟨tb, 1, none⟩ = some (.int .i64 ay) := hBa.cell 1
      have c2 : w5.cell? ⟨tb, 2, none⟩ = some (.int .i64 aw) := hBa.cell 2
      have c3 : w5.cell? ⟨tb, 3, none⟩ = some (.int .i64 ah) := hBa.cell 3
      have d0 : w5.cell? ⟨tb + 1, 0, none⟩ = some (.int .i64 bx) := hBb.cell 0
      have d1 : w5.cell? ⟨tb + 1, 1, none⟩ = some (.int .i64 by') := hBb.cell 1
      have d2 : w5.cell? ⟨tb + 1, 2, none⟩ = some (.int .i64 bw) := hBb.cell 2
      have d3 : w5.cell? ⟨tb + 1, 3, none⟩ = some (.int .i64 bh) := hBb.cell 3
      have HT2 := Lib.hid hT2
      have HTh : Hid (∀ (n0 : Nat) (a b c d : Int), ((w5.drewN n0)).there (tb + 2) 0 (#[Value.int .i64 a, .int .i64 b, .int .i64 c, .int .i64 d] : Array Value).size) := Lib.hid (fun n0 a b c d => ((hBr.drewN n0)).there 4 rfl)
      have HSi : Hid (∀ (a b c d : Int), (Try.prog.info? 32).map (·.size) = some (#[Value.int .i64 a, .int .i64 b, .int .i64 c, .int .i64 d] : Array Value).size) := Lib.hid (fun _ _ _ _ => size32)
      have HBr := Lib.hid hBr
      have HP := Lib.hid hP
      obtain ⟨⟨l1, l2⟩, ⟨l3, l4⟩, ⟨l5, l6⟩, ⟨l7, l8⟩⟩ := h1
      obtain ⟨⟨m1, m2⟩, ⟨m3, m4⟩, ⟨m5, m6⟩, ⟨m7, m8⟩⟩ := h2
      clear hT2 hBr hP hBa hBb
      go_wp2_with fail
      go_quiet (fail)
      go_wp2_with (first
        | (with_reducible refine at_store 32 (.tmp 4) (.tmp 76) ?_; refine wpList_store_mid rfl 32 (.tmp 4) (.tmp 76) rfl (tb + 2) 0 #[.int .i64 0, .int .i64 0, .int .i64 0, .int .i64 0] rfl rfl (HTh.out _ _ _ _ _) (HSi.out _ _ _ _) (one4 _ _ _ _) ?_)
        | (with_reducible refine at_store 32 (.tmp 4) (.tmp 85) ?_; refine wpList_store_mid rfl 32 (.tmp 4) (.tmp 85) rfl (tb + 2) 0 #[_, _, _, _] rfl rfl (HTh.out _ _ _ _ _) (HSi.out _ _ _ _) (one4 _ _ _ _) ?_))
      all_goals
        refine bodyPost_ret (results_row1 rfl _ _ (tb + 2) _ [_, _, _, _] _ rfl (setRect ((HBr.out).drewN _) rfl _ _ _ _) Try.underlying32 rfl size32) rfl ?_
        refine rect_to ?_ ?_ ?_ ?_ (Ext.setCells _ 0 _ ((HP.out).drewN _) (b := tb + 2) (fun h => by have := HTb.out; omega))
        all_goals
          rw [HT2.out]
          split <;> simp only [Bx.zero] <;> omega
    · have hb' : b.may = false := by simpa using hb
      have HTr : Hid (T = .zero) := Lib.hid (by rw [HT.out]; unfold Bx.both; rw [if_neg (fun h => hb h.2)])
      rw [hb']
      clear hb hb' hBa hBb
      have HTh : Hid (w5.there (tb + 2) 0 (#[.int .i64 0, .int .i64 0, .int .i64 0, .int .i64 0] : Array Value).size) := Lib.hid (hBr.there 4 rfl)
      have HSi : Hid ((Try.prog.info? 32).map (·.size) = some (#[.int .i64 0, .int .i64 0, .int .i64 0, .int .i64 0] : Array Value).size) := Lib.hid size32
      have HP8 : Hid (Pure w (w5.setCells (tb + 2) 0 [.int .i64 0, .int .i64 0, .int .i64 0, .int .i64 0])) := Lib.hid (Ext.setCells _ 0 w5 hP (b := tb + 2) (fun h => by have := HTb.out; omega))
      have HB9 := Lib.hid (hBr.setAll [.int .i64 0, .int .i64 0, .int .i64 0, .int .i64 0] rfl)
      clear hBr hP
      go_wp2_with (with_reducible refine at_store 32 (.tmp 4) (.tmp 17) ?_; refine wpList_store_mid rfl 32 (.tmp 4) (.tmp 17) rfl (tb + 2) 0 #[.int .i64 0, .int .i64 0, .int .i64 0, .int .i64 0] rfl rfl HTh.out HSi.out (one4 _ _ _ _) ?_)
      refine bodyPost_ret (results_row1 rfl _ _ (tb + 2) _ [.int .i64 0, .int .i64 0, .int .i64 0, .int .i64 0] _ rfl HB9.out Try.underlying32 rfl size32) rfl ?_
      exact ⟨by rw [HTr.out]; rfl, HP8.out⟩
  · have ha' : a.may = false := by simpa using ha
    have HTr : Hid (T = .zero) := Lib.hid (by rw [HT.out]; unfold Bx.both; rw [if_neg (fun h => ha h.1)])
    rw [ha'] at HA
    clear ha ha'
    go_enter Try.func16, Try.ntmps16
    go_wp2_with fail
    rw [HW.out, ← HTb.out]
    refine (HA.out w3).mono ?_
    rintro e w4 ⟨rfl, hP4⟩
    have hBr := hBr.ext hP4 id
    have hP := hP.pure hP4
    clear hP4 hBa hBb
    have HTh : Hid (w4.there (tb + 2) 0 (#[.int .i64 0, .int .i64 0, .int .i64 0, .int .i64 0] : Array Value).size) := Lib.hid (hBr.there 4 rfl)
    have HSi : Hid ((Try.prog.info? 32).map (·.size) = some (#[.int .i64 0, .int .i64 0, .int .i64 0, .int .i64 0] : Array Value).size) := Lib.hid size32
    have HP8 : Hid (Pure w (w4.setCells (tb + 2) 0 [.int .i64 0, .int .i64 0, .int .i64 0, .int .i64 0])) := Lib.hid (Ext.setCells _ 0 w4 hP (b := tb + 2) (fun h => by have := HTb.out; omega))
    have HB9 := Lib.hid (hBr.setAll [.int .i64 0, .int .i64 0, .int .i64 0, .int .i64 0] rfl)
    clear hBr hP
    go_wp2_with (with_reducible refine at_store 32 (.tmp 4) (.tmp 17) ?_; refine wpList_store_mid rfl 32 (.tmp 4) (.tmp 17) rfl (tb + 2) 0 #[.int .i64 0, .int .i64 0, .int .i64 0, .int .i64 0] rfl rfl HTh.out HSi.out (one4 _ _ _ _) ?_)
    refine bodyPost_ret (results_row1 rfl _ _ (tb + 2) _ [.int .i64 0, .int .i64 0, .int .i64 0, .int .i64 0] _ rfl HB9.out Try.underlying32 rfl size32) rfl ?_
    exact ⟨by rw [HTr.out]; rfl, HP8.out⟩
end Go.Proofs.Ytnibjjpohhknkaa
