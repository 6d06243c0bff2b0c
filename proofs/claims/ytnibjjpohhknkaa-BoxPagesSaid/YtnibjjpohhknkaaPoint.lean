/-
  Walked: the program's fits, Point, Back; the reference's Point, Back (printed by mkpoint.py).
-/
import Derived.Test.YtnibjjpohhknkaaRefTurn
namespace Go.Proofs.Ytnibjjpohhknkaa
open Go.RowKit
set_option linter.unusedVariables false
set_option linter.unusedSimpArgs false

set_option maxHeartbeats 1000000 in
set_option maxRecDepth 100000 in
theorem fits_any (r : Bx) (q W H x y : Int) (w : World) : Calls Try.prog 46 #[.agg #[.int .i64 r.x, .int .i64 r.y, .int .i64 r.w, .int .i64 r.h, .int .i64 q, .int .i64 W, .int .i64 H], .int .i64 x, .int .i64 y] w (BoolTo (fitsB r x y) w) := by
  have hf : fitsB r x y = (r.may && decide (-2251799813685248 ≤ x ∧ x ≤ 2251799813685248) && decide (-2251799813685248 ≤ y ∧ y ≤ 2251799813685248)) := rfl
  rw [hf]
  have H1 := Lib.hid (fun W => may_any r W)
  have H2 := Lib.hid (fun W => within_any x (-2251799813685248) 2251799813685248 W)
  have H3 := Lib.hid (fun W => within_any y (-2251799813685248) 2251799813685248 W)
  generalize r.may = b1 at *
  generalize decide (-2251799813685248 ≤ x ∧ x ≤ 2251799813685248) = b2 at *
  generalize decide (-2251799813685248 ≤ y ∧ y ≤ 2251799813685248) = b3 at *
  clear hf
  obtain ⟨w1, hw1⟩ : ∃ z, z = w.alloc (.cells ([.int .i64 r.x, .int .i64 r.y, .int .i64 r.w, .int .i64 r.h, .int .i64 q, .int .i64 W, .int .i64 H] : List Value).toArray 50) := ⟨_, rfl⟩
  obtain ⟨tb, htb⟩ : ∃ z, z = w.heap.size := ⟨_, rfl⟩
  have hB1 : BlockIs w1 tb [.int .i64 r.x, .int .i64 r.y, .int .i64 r.w, .int .i64 r.h, .int .i64 q, .int .i64 W, .int .i64 H] 50 := by rw [htb, hw1]; exact BlockIs.new w _ _
  have hP : Pure w w1 := hw1 ▸ ext_alloc w _
  have HW : Hid (w.alloc (.cells #[.int .i64 r.x, .int .i64 r.y, .int .i64 r.w, .int .i64 r.h, .int .i64 q, .int .i64 W, .int .i64 H] 50) = w1) := Lib.hid hw1.symm
  have HTb := Lib.hid htb
  clear hw1 htb
  go_enter Try.func46, Try.ntmps46
  go_wp2_with fail
  rw [HW.out]
  refine (H1.out w1).mono ?_
  rintro e w2 ⟨rfl, hP2⟩
  have hB1 := hB1.ext hP2 id
  have hP := hP.pure hP2
  clear hP2
  cases b1 with
  | false =>
    go_wp2_with fail
    go_ret
    exact ⟨rfl, hP⟩
  | true =>
    go_wp2_with fail
    refine (H2.out w2).mono ?_
    rintro e w3 ⟨rfl, hP3⟩
    have hB1 := hB1.ext hP3 id
    have hP := hP.pure hP3
    clear hP3
    cases b2 with
    | false =>
      go_wp2_with fail
      go_ret
      exact ⟨rfl, hP⟩
    | true =>
      go_wp2_with fail
      refine (H3.out w3).mono ?_
      rintro e w4 ⟨rfl, hP4⟩
      have hB1 := hB1.ext hP4 id
      have hP := hP.pure hP4
      clear hP4
      go_wp2_with fail
      go_ret
      exact ⟨rfl, hP⟩
theorem fits_in {r : Bx} {x y : Int} (h : fitsB r x y = true) : r.may = true ∧ (-2251799813685248 ≤ x ∧ x ≤ 2251799813685248) ∧ (-2251799813685248 ≤ y ∧ y ≤ 2251799813685248) := by
  simp only [fitsB, Bool.and_eq_true, near_iff] at h
  exact ⟨h.1.1, h.1.2, h.2⟩
theorem q4_back (q : Int) : q4 (4 - q.tmod 4) = q4 (-q) := by
  rcases tmod4 q with ⟨h1, h2⟩ | ⟨h1, h2, h3⟩
  · unfold q4 at *
    omega
  · unfold q4 at *
    omega
theorem wrap_back (q : Int) : IntKind.i64.wrap (4 - q.tmod 4) = 4 - q.tmod 4 := by
  rw [IntKind.wrap_i64]
  have := q4_lt q
  rcases tmod4 q with ⟨h1, h2⟩ | ⟨h1, h2, h3⟩
  · omega
  · omega
set_option maxHeartbeats 2000000 in
set_option maxRecDepth 100000 in
theorem point_any (r : Bx) (q W H x y : Int) (w : World) : Calls Try.prog 24 #[.agg #[.int .i64 r.x, .int .i64 r.y, .int .i64 r.w, .int .i64 r.h, .int .i64 q, .int .i64 W, .int .i64 H], .int .i64 x, .int .i64 y] w (TwoTo (pointB r q x y).1 (pointB r q x y).2 w) := by
  obtain ⟨X, hX⟩ : ∃ X, X = (pointB r q x y).1 := ⟨_, rfl⟩
  obtain ⟨Y, hY⟩ : ∃ Y, Y = (pointB r q x y).2 := ⟨_, rfl⟩
  rw [← hX, ← hY]
  have HF := Lib.hid (fun W' => fits_any r q W H x y W')
  obtain ⟨w1, hw1⟩ : ∃ z, z = w.alloc (.cells ([.int .i64 r.x, .int .i64 r.y, .int .i64 r.w, .int .i64 r.h, .int .i64 q, .int .i64 W, .int .i64 H] : List Value).toArray 50) := ⟨_, rfl⟩
  obtain ⟨tb, htb⟩ : ∃ z, z = w.heap.size := ⟨_, rfl⟩
  have hB1 : BlockIs w1 tb [.int .i64 r.x, .int .i64 r.y, .int .i64 r.w, .int .i64 r.h, .int .i64 q, .int .i64 W, .int .i64 H] 50 := by rw [htb, hw1]; exact BlockIs.new w _ _
  have hP : Pure w w1 := hw1 ▸ ext_alloc w _
  have HW : Hid (w.alloc (.cells #[.int .i64 r.x, .int .i64 r.y, .int .i64 r.w, .int .i64 r.h, .int .i64 q, .int .i64 W, .int .i64 H] 50) = w1) := Lib.hid hw1.symm
  have HTb := Lib.hid htb
  clear hw1 htb
  by_cases hf : fitsB r x y = true
  · obtain ⟨hm, hx, hy⟩ := fits_in hf
    have hn := turn_near hm q
    unfold most at hn
    have HT := Lib.hid (fun W => turn_any r q W)
    unfold pointB at hX hY
    rw [if_pos hf] at hX hY
    rw [hf] at HF
    obtain ⟨T, hT⟩ : ∃ T, T = r.turn q := ⟨_, rfl⟩
    rw [← hT] at hX hY hn HT
    have HX := Lib.hid (And.intro hX hY)
    have HN := Lib.hid (And.intro hx (And.intro hy hn))
    clear hX hY hT hm hx hy hn hf
    go_enter Try.func24, Try.ntmps24
    go_wp2_with fail
    rw [HW.out]
    refine (HF.out w1).mono ?_
    rintro e w2 ⟨rfl, hP2⟩
    have hB1 := hB1.ext hP2 id
    have hP := hP.pure hP2
    clear hP2
    have c0 : w2.cell? ⟨tb, 0, none⟩ = some (.int .i64 r.x) := hB1.cell 0
    have c1 : w2.cell? ⟨tb, 1, none⟩ = some (.int .i64 r.y) := hB1.cell 1
    have c2 : w2.cell? ⟨tb, 2, none⟩ = some (.int .i64 r.w) := hB1.cell 2
    have c3 : w2.cell? ⟨tb, 3, none⟩ = some (.int .i64 r.h) := hB1.cell 3
    have c4 : w2.cell? ⟨tb, 4, none⟩ = some (.int .i64 q) := hB1.cell 4
    rw [HTb.out] at c0 c1 c2 c3 c4
    go_wp2_with fail
    clear c0 c1 c2 c3 c4
    refine (HT.out w2).mono ?_
    rintro e w3 ⟨rfl, hP3⟩
    have hB1 := hB1.ext hP3 id
    have hP := hP.pure hP3
    clear hP3
    obtain ⟨wA, hwA⟩ : ∃ z, z = w3.alloc (.cells #[.int .i64 T.x, .int .i64 T.y, .int .i64 T.w, .int .i64 T.h] 28) := ⟨_, rfl⟩
    have hBA : BlockIs wA w3.heap.size [.int .i64 T.x, .int .i64 T.y, .int .i64 T.w, .int .i64 T.h] 28 := hwA ▸ BlockIs.new w3 _ _
    have hPA : Pure w3 wA := hwA ▸ ext_alloc w3 _
    have hB1 := hB1.ext hPA id
    have hP := hP.pure hPA
    have HWA := Lib.hid hwA.symm
    clear hwA hPA
    go_wp2_with fail
    rw [HWA.out]
    have ex : wA.drew.cell? ⟨w3.heap.size, 0, none⟩ = some (.int .i64 T.x) := hBA.cell 0
    have ey : wA.drew.cell? ⟨w3.heap.size, 1, none⟩ = some (.int .i64 T.y) := hBA.cell 1
    have eq : wA.drew.cell? ⟨w.heap.size, 4, none⟩ = some (.int .i64 q) := by rw [← HTb.out]; exact hB1.cell 4
    have hP := hP.drew
    have hwb := wrap_back q
    clear hBA hB1
    refine region_start (fun _ => False) (by kernel_rfl) ?_
    try simp only [Act.put, List.setIfInBounds_toArray, List.set_cons_zero, List.set_cons_succ]
    refine region_take 0 20 (v := ?vpa0) rfl rfl (by kernel_rfl) (by kernel_rfl) (by kernel_rfl) (fun _ _ _ h => h) (by rfl) (fun w' hS => ?hpa0) ?rpa0
    case hpa0 => go_simp; with_reducible rfl
    try simp only [Act.put, List.setIfInBounds_toArray, List.set_cons_zero, List.set_cons_succ]
    refine region_take 1 21 (v := ?vpa1) rfl rfl (by kernel_rfl) (by kernel_rfl) (by kernel_rfl) (fun _ _ _ h => h) (by rfl) (fun w' hS => ?hpa1) ?rpa1
    case hpa1 => go_simp; with_reducible rfl
    try simp only [Act.put, List.setIfInBounds_toArray, List.set_cons_zero, List.set_cons_succ]
    refine region_take 3 23 (v := ?vpa3) rfl rfl (by kernel_rfl) (by kernel_rfl) (by kernel_rfl) (fun _ _ _ h => h) (by rfl) (fun w' hS => ?hpa3) ?rpa3
    case hpa3 => go_simp; with_reducible rfl
    try simp only [Act.put, List.setIfInBounds_toArray, List.set_cons_zero, List.set_cons_succ]
    refine region_take 4 24 (v := ?vpa4) rfl rfl (by kernel_rfl) (by kernel_rfl) (by kernel_rfl) (fun _ _ _ h => h) (by rfl) (fun w' hS => ?hpa4) ?rpa4
    case hpa4 => (have e := hS.cell_some eq id; go_simp; with_reducible rfl)
    try simp only [Act.put, List.setIfInBounds_toArray, List.set_cons_zero, List.set_cons_succ]
    refine region_take 6 26 (v := ?vpa6) rfl rfl (by kernel_rfl) (by kernel_rfl) (by kernel_rfl) (fun _ _ _ h => h) (by rfl) (fun w' hS => ?hpa6) ?rpa6
    case hpa6 => go_simp; with_reducible rfl
    try simp only [Act.put, List.setIfInBounds_toArray, List.set_cons_zero, List.set_cons_succ]
    refine region_take 7 27 (v := ?vpa7) rfl rfl (by kernel_rfl) (by kernel_rfl) (by kernel_rfl) (fun _ _ _ h => h) (by rfl) (fun w' hS => ?hpa7) ?rpa7
    case hpa7 => (have e := hS.cell_some ex id; go_simp; with_reducible rfl)
    try simp only [Act.put, List.setIfInBounds_toArray, List.set_cons_zero, List.set_cons_succ]
    refine region_take 8 28 (v := ?vpa8) rfl rfl (by kernel_rfl) (by kernel_rfl) (by kernel_rfl) (fun _ _ _ h => h) (by rfl) (fun w' hS => ?hpa8) ?rpa8
    case hpa8 => go_simp; with_reducible rfl
    try simp only [Act.put, List.setIfInBounds_toArray, List.set_cons_zero, List.set_cons_succ]
    refine region_take 9 29 (v := ?vpa9) rfl rfl (by kernel_rfl) (by kernel_rfl) (by kernel_rfl) (fun _ _ _ h => h) (by rfl) (fun w' hS => ?hpa9) ?rpa9
    case hpa9 => (have e := hS.cell_some ey id; go_simp; with_reducible rfl)
    try simp only [Act.put, List.setIfInBounds_toArray, List.set_cons_zero, List.set_cons_succ]
    refine wpAnyH_ready (rs := [2]) (by kernel_rfl) (by simp) (AllReadyH.cons rfl (fun K hK => ?_) AllReadyH.nil)
    go_simp
    refine (at_any x y _ (by have := HN.out; omega) (by have := HN.out; omega)).mono ?_
    rintro e w5 ⟨a, b, rfl, ha, hb, hP5⟩
    have hP := hP.pure hP5
    have HA := Lib.hid (And.intro ha hb)
    clear ha hb
    refine hK.out _ _ (hP5) (fun hHeld => ?_)
    clear hK K hHeld
    refine region_now (hP5) ?_
    try simp only [Act.put, List.setIfInBounds_toArray, List.set_cons_zero, List.set_cons_succ]
    refine wpAnyH_ready (rs := [5]) (by kernel_rfl) (by simp) (AllReadyH.cons rfl (fun K hK => ?_) AllReadyH.nil)
    go_simp
    refine (turned_any a b x y q _ HA.out.1 HA.out.2 (by have := HN.out; omega) (by have := HN.out; omega)).mono ?_
    rintro e w6 ⟨c, d, rfl, hc, hd, hP6⟩
    have hP := hP.pure hP6
    have HC := Lib.hid (And.intro hc hd)
    clear hc hd
    refine hK.out _ _ (hP6) (fun hHeld => ?_)
    clear hK K hHeld
    refine region_now (hP6) ?_
    try simp only [Act.put, List.setIfInBounds_toArray, List.set_cons_zero, List.set_cons_succ]
    refine wpAnyH_ready (rs := [10]) (by kernel_rfl) (by simp) (AllReadyH.cons rfl (fun K hK => ?_) AllReadyH.nil)
    go_simp
    refine (at_any T.x T.y _ (by have := HN.out; omega) (by have := HN.out; omega)).mono ?_
    rintro e w7 ⟨c', d', rfl, hc, hd, hP7⟩
    have hP := hP.pure hP7
    have hrb := rot_abs (q4 q) x y (2 ^ 51) (by have := HN.out; omega) (by have := HN.out; omega)
    obtain ⟨u, v, hu, hv, hrun⟩ := run_csub (P := Try.prog) HC.out.1 HC.out.2 hc hd (by have := HN.out; omega) (by have := HN.out; omega)
    rw [← HX.out.1] at hu
    rw [← HX.out.2] at hv
    have hXb : X.natAbs ≤ 2 ^ 53 ∧ Y.natAbs ≤ 2 ^ 53 := by have h1 := HX.out; have h2 := HN.out; omega
    have i1 := fun w => run_fint (P := Try.prog) hu (by omega) 90 3 (by kernel_rfl) Try.underlying3 w
    have i2 := fun w => run_fint (P := Try.prog) hv (by omega) 90 3 (by kernel_rfl) Try.underlying3 w
    clear hu hv hc hd hrb hXb
    refine hK.out _ _ (hP7) (fun hHeld => ?_)
    clear hK K hHeld
    refine region_now (hP7) ?_
    try simp only [Act.put, List.setIfInBounds_toArray, List.set_cons_zero, List.set_cons_succ]
    refine region_take 11 31 (v := ?vpa11) rfl rfl (by kernel_rfl) (by kernel_rfl) (by kernel_rfl) (fun _ _ _ h => h) (by rfl) (fun w' hS => ?hpa11) ?rpa11
    case hpa11 => go_simp; with_reducible rfl
    try simp only [Act.put, List.setIfInBounds_toArray, List.set_cons_zero, List.set_cons_succ]
    refine region_take 12 9 (v := ?vpa12) rfl rfl (by kernel_rfl) (by kernel_rfl) (by kernel_rfl) (fun _ _ _ h => h) (by rfl) (fun w' hS => ?hpa12) ?rpa12
    case hpa12 => go_simp; with_reducible rfl
    try simp only [Act.put, List.setIfInBounds_toArray, List.set_cons_zero, List.set_cons_succ]
    refine wpAnyH_done (by kernel_rfl) ?_ _
    clear ex ey eq
    go_wp2_with fail
    go_ret2
    exact ⟨rfl, hP⟩
  · have hf' : fitsB r x y = false := by simpa using hf
    unfold pointB at hX hY
    rw [if_neg hf] at hX hY
    have HX := Lib.hid (And.intro hX hY)
    rw [hf'] at HF
    clear hf hf' hX hY
    go_enter Try.func24, Try.ntmps24
    go_wp2_with fail
    rw [HW.out]
    refine (HF.out w1).mono ?_
    rintro e w2 ⟨rfl, hP2⟩
    have hB1 := hB1.ext hP2 id
    have hP := hP.pure hP2
    clear hP2
    go_wp2_with fail
    go_ret2
    obtain ⟨hX, hY⟩ := HX.out
    exact ⟨by rw [hX, hY]; rfl, hP⟩
set_option maxHeartbeats 2000000 in
set_option maxRecDepth 100000 in
theorem back_any (r : Bx) (q W H x y : Int) (w : World) : Calls Try.prog 26 #[.agg #[.int .i64 r.x, .int .i64 r.y, .int .i64 r.w, .int .i64 r.h, .int .i64 q, .int .i64 W, .int .i64 H], .int .i64 x, .int .i64 y] w (TwoTo (backB r q x y).1 (backB r q x y).2 w) := by
  obtain ⟨X, hX⟩ : ∃ X, X = (backB r q x y).1 := ⟨_, rfl⟩
  obtain ⟨Y, hY⟩ : ∃ Y, Y = (backB r q x y).2 := ⟨_, rfl⟩
  rw [← hX, ← hY]
  have HF := Lib.hid (fun W' => fits_any r q W H x y W')
  obtain ⟨w1, hw1⟩ : ∃ z, z = w.alloc (.cells ([.int .i64 r.x, .int .i64 r.y, .int .i64 r.w, .int .i64 r.h, .int .i64 q, .int .i64 W, .int .i64 H] : List Value).toArray 50) := ⟨_, rfl⟩
  obtain ⟨tb, htb⟩ : ∃ z, z = w.heap.size := ⟨_, rfl⟩
  have hB1 : BlockIs w1 tb [.int .i64 r.x, .int .i64 r.y, .int .i64 r.w, .int .i64 r.h, .int .i64 q, .int .i64 W, .int .i64 H] 50 := by rw [htb, hw1]; exact BlockIs.new w _ _
  have hP : Pure w w1 := hw1 ▸ ext_alloc w _
  have HW : Hid (w.alloc (.cells #[.int .i64 r.x, .int .i64 r.y, .int .i64 r.w, .int .i64 r.h, .int .i64 q, .int .i64 W, .int .i64 H] 50) = w1) := Lib.hid hw1.symm
  have HTb := Lib.hid htb
  clear hw1 htb
  by_cases hf : fitsB r x y = true
  · obtain ⟨hm, hx, hy⟩ := fits_in hf
    have hn := turn_near hm q
    unfold most at hn
    have HT := Lib.hid (fun W => turn_any r q W)
    unfold backB at hX hY
    rw [if_pos hf] at hX hY
    rw [hf] at HF
    obtain ⟨T, hT⟩ : ∃ T, T = r.turn q := ⟨_, rfl⟩
    rw [← hT] at hX hY hn HT
    have HX := Lib.hid (And.intro hX hY)
    have HN := Lib.hid (And.intro hx (And.intro hy hn))
    clear hX hY hT hm hx hy hn hf
    go_enter Try.func26, Try.ntmps26
    go_wp2_with fail
    rw [HW.out]
    refine (HF.out w1).mono ?_
    rintro e w2 ⟨rfl, hP2⟩
    have hB1 := hB1.ext hP2 id
    have hP := hP.pure hP2
    clear hP2
    have c0 : w2.cell? ⟨tb, 0, none⟩ = some (.int .i64 r.x) := hB1.cell 0
    have c1 : w2.cell? ⟨tb, 1, none⟩ = some (.int .i64 r.y) := hB1.cell 1
    have c2 : w2.cell? ⟨tb, 2, none⟩ = some (.int .i64 r.w) := hB1.cell 2
    have c3 : w2.cell? ⟨tb, 3, none⟩ = some (.int .i64 r.h) := hB1.cell 3
    have c4 : w2.cell? ⟨tb, 4, none⟩ = some (.int .i64 q) := hB1.cell 4
    rw [HTb.out] at c0 c1 c2 c3 c4
    go_wp2_with fail
    clear c0 c1 c2 c3 c4
    refine (HT.out w2).mono ?_
    rintro e w3 ⟨rfl, hP3⟩
    have hB1 := hB1.ext hP3 id
    have hP := hP.pure hP3
    clear hP3
    obtain ⟨wA, hwA⟩ : ∃ z, z = w3.alloc (.cells #[.int .i64 T.x, .int .i64 T.y, .int .i64 T.w, .int .i64 T.h] 28) := ⟨_, rfl⟩
    have hBA : BlockIs wA w3.heap.size [.int .i64 T.x, .int .i64 T.y, .int .i64 T.w, .int .i64 T.h] 28 := hwA ▸ BlockIs.new w3 _ _
    have hPA : Pure w3 wA := hwA ▸ ext_alloc w3 _
    have hB1 := hB1.ext hPA id
    have hP := hP.pure hPA
    have HWA := Lib.hid hwA.symm
    clear hwA hPA
    go_wp2_with fail
    rw [HWA.out]
    have ex : wA.drew.cell? ⟨w3.heap.size, 0, none⟩ = some (.int .i64 T.x) := hBA.cell 0
    have ey : wA.drew.cell? ⟨w3.heap.size, 1, none⟩ = some (.int .i64 T.y) := hBA.cell 1
    have eq : wA.drew.cell? ⟨w.heap.size, 4, none⟩ = some (.int .i64 q) := by rw [← HTb.out]; exact hB1.cell 4
    have hP := hP.drew
    have hwb := wrap_back q
    clear hBA hB1
    refine region_start (fun _ => False) (by kernel_rfl) ?_
    try simp only [Act.put, List.setIfInBounds_toArray, List.set_cons_zero, List.set_cons_succ]
    refine region_take 0 20 (v := ?vpb0) rfl rfl (by kernel_rfl) (by kernel_rfl) (by kernel_rfl) (fun _ _ _ h => h) (by rfl) (fun w' hS => ?hpb0) ?rpb0
    case hpb0 => go_simp; with_reducible rfl
    try simp only [Act.put, List.setIfInBounds_toArray, List.set_cons_zero, List.set_cons_succ]
    refine region_take 1 21 (v := ?vpb1) rfl rfl (by kernel_rfl) (by kernel_rfl) (by kernel_rfl) (fun _ _ _ h => h) (by rfl) (fun w' hS => ?hpb1) ?rpb1
    case hpb1 => go_simp; with_reducible rfl
    try simp only [Act.put, List.setIfInBounds_toArray, List.set_cons_zero, List.set_cons_succ]
    refine region_take 3 23 (v := ?vpb3) rfl rfl (by kernel_rfl) (by kernel_rfl) (by kernel_rfl) (fun _ _ _ h => h) (by rfl) (fun w' hS => ?hpb3) ?rpb3
    case hpb3 => go_simp; with_reducible rfl
    try simp only [Act.put, List.setIfInBounds_toArray, List.set_cons_zero, List.set_cons_succ]
    refine region_take 4 24 (v := ?vpb4) rfl rfl (by kernel_rfl) (by kernel_rfl) (by kernel_rfl) (fun _ _ _ h => h) (by rfl) (fun w' hS => ?hpb4) ?rpb4
    case hpb4 => (have e := hS.cell_some ex id; go_simp; with_reducible rfl)
    try simp only [Act.put, List.setIfInBounds_toArray, List.set_cons_zero, List.set_cons_succ]
    refine region_take 5 25 (v := ?vpb5) rfl rfl (by kernel_rfl) (by kernel_rfl) (by kernel_rfl) (fun _ _ _ h => h) (by rfl) (fun w' hS => ?hpb5) ?rpb5
    case hpb5 => go_simp; with_reducible rfl
    try simp only [Act.put, List.setIfInBounds_toArray, List.set_cons_zero, List.set_cons_succ]
    refine region_take 6 26 (v := ?vpb6) rfl rfl (by kernel_rfl) (by kernel_rfl) (by kernel_rfl) (fun _ _ _ h => h) (by rfl) (fun w' hS => ?hpb6) ?rpb6
    case hpb6 => (have e := hS.cell_some ey id; go_simp; with_reducible rfl)
    try simp only [Act.put, List.setIfInBounds_toArray, List.set_cons_zero, List.set_cons_succ]
    refine region_take 9 29 (v := ?vpb9) rfl rfl (by kernel_rfl) (by kernel_rfl) (by kernel_rfl) (fun _ _ _ h => h) (by rfl) (fun w' hS => ?hpb9) ?rpb9
    case hpb9 => go_simp; with_reducible rfl
    try simp only [Act.put, List.setIfInBounds_toArray, List.set_cons_zero, List.set_cons_succ]
    refine region_take 10 30 (v := ?vpb10) rfl rfl (by kernel_rfl) (by kernel_rfl) (by kernel_rfl) (fun _ _ _ h => h) (by rfl) (fun w' hS => ?hpb10) ?rpb10
    case hpb10 => (have e := hS.cell_some eq id; go_simp; with_reducible rfl)
    try simp only [Act.put, List.setIfInBounds_toArray, List.set_cons_zero, List.set_cons_succ]
    refine region_take 11 31 (v := ?vpb11) rfl rfl (by kernel_rfl) (by kernel_rfl) (by kernel_rfl) (fun _ _ _ h => h) (by rfl) (fun w' hS => ?hpb11) ?rpb11
    case hpb11 => go_simp; with_reducible rfl
    try simp only [Act.put, List.setIfInBounds_toArray, List.set_cons_zero, List.set_cons_succ]
    refine region_take 12 32 (v := ?vpb12) rfl rfl (by kernel_rfl) (by kernel_rfl) (by kernel_rfl) (fun _ _ _ h => h) (by rfl) (fun w' hS => ?hpb12) ?rpb12
    case hpb12 => go_simp; with_reducible rfl
    try simp only [Act.put, List.setIfInBounds_toArray, List.set_cons_zero, List.set_cons_succ]
    refine wpAnyH_ready (rs := [2]) (by kernel_rfl) (by simp) (AllReadyH.cons rfl (fun K hK => ?_) AllReadyH.nil)
    go_simp
    refine (at_any x y _ (by have := HN.out; omega) (by have := HN.out; omega)).mono ?_
    rintro e w5 ⟨a, b, rfl, ha, hb, hP5⟩
    have hP := hP.pure hP5
    have HA := Lib.hid (And.intro ha hb)
    clear ha hb
    refine hK.out _ _ (hP5) (fun hHeld => ?_)
    clear hK K hHeld
    refine region_now (hP5) ?_
    try simp only [Act.put, List.setIfInBounds_toArray, List.set_cons_zero, List.set_cons_succ]
    refine wpAnyH_ready (rs := [7]) (by kernel_rfl) (by simp) (AllReadyH.cons rfl (fun K hK => ?_) AllReadyH.nil)
    go_simp
    refine (at_any T.x T.y _ (by have := HN.out; omega) (by have := HN.out; omega)).mono ?_
    rintro e w6 ⟨c', d', rfl, hc, hd, hP6⟩
    have hP := hP.pure hP6
    obtain ⟨u, v, hu, hv, hrun⟩ := run_cadd (P := Try.prog) HA.out.1 HA.out.2 hc hd (by have := HN.out; omega) (by have := HN.out; omega)
    have HU := Lib.hid (And.intro hu hv)
    clear hu hv hc hd
    refine hK.out _ _ (hP6) (fun hHeld => ?_)
    clear hK K hHeld
    refine region_now (hP6) ?_
    try simp only [Act.put, List.setIfInBounds_toArray, List.set_cons_zero, List.set_cons_succ]
    refine region_take 8 28 (v := ?vpb8) rfl rfl (by kernel_rfl) (by kernel_rfl) (by kernel_rfl) (fun _ _ _ h => h) (by rfl) (fun w' hS => ?hpb8) ?rpb8
    case hpb8 => go_simp; with_reducible rfl
    try simp only [Act.put, List.setIfInBounds_toArray, List.set_cons_zero, List.set_cons_succ]
    refine wpAnyH_ready (rs := [13]) (by kernel_rfl) (by simp) (AllReadyH.cons rfl (fun K hK => ?_) AllReadyH.nil)
    go_simp
    refine (turned_any u v (x + T.x) (y + T.y) (4 - q.tmod 4) _ HU.out.1 HU.out.2 (by have := HN.out; omega) (by have := HN.out; omega)).mono ?_
    rintro e w7 ⟨c, d, rfl, hu, hv, hP7⟩
    have hP := hP.pure hP7
    rw [q4_back] at hu hv
    have hrb := rot_abs (q4 (-q)) (x + T.x) (y + T.y) (2 ^ 53) (by have := HN.out; omega) (by have := HN.out; omega)
    rw [← HX.out.1] at hu hrb
    rw [← HX.out.2] at hv hrb
    have i1 := fun w => run_fint (P := Try.prog) hu (by omega) 90 3 (by kernel_rfl) Try.underlying3 w
    have i2 := fun w => run_fint (P := Try.prog) hv (by omega) 90 3 (by kernel_rfl) Try.underlying3 w
    clear hu hv hrb
    refine hK.out _ _ (hP7) (fun hHeld => ?_)
    clear hK K hHeld
    refine region_now (hP7) ?_
    try simp only [Act.put, List.setIfInBounds_toArray, List.set_cons_zero, List.set_cons_succ]
    refine region_take 14 9 (v := ?vpb14) rfl rfl (by kernel_rfl) (by kernel_rfl) (by kernel_rfl) (fun _ _ _ h => h) (by rfl) (fun w' hS => ?hpb14) ?rpb14
    case hpb14 => go_simp; with_reducible rfl
    try simp only [Act.put, List.setIfInBounds_toArray, List.set_cons_zero, List.set_cons_succ]
    refine wpAnyH_done (by kernel_rfl) ?_ _
    clear ex ey eq
    go_wp2_with fail
    go_ret2
    exact ⟨rfl, hP⟩
  · have hf' : fitsB r x y = false := by simpa using hf
    unfold backB at hX hY
    rw [if_neg hf] at hX hY
    have HX := Lib.hid (And.intro hX hY)
    rw [hf'] at HF
    clear hf hf' hX hY
    go_enter Try.func26, Try.ntmps26
    go_wp2_with fail
    rw [HW.out]
    refine (HF.out w1).mono ?_
    rintro e w2 ⟨rfl, hP2⟩
    have hB1 := hB1.ext hP2 id
    have hP := hP.pure hP2
    clear hP2
    go_wp2_with fail
    go_ret2
    obtain ⟨hX, hY⟩ := HX.out
    exact ⟨by rw [hX, hY]; rfl, hP⟩
end Go.Proofs.Ytnibjjpohhknkaa
