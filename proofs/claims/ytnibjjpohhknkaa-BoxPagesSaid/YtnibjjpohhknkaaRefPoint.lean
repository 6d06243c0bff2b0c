/-
  Walked: the reference's Point, Back.
-/
import Derived.Test.YtnibjjpohhknkaaPoint
namespace Go.Proofs.Ytnibjjpohhknkaa
open Go.RowKit
set_option linter.unusedVariables false
set_option linter.unusedSimpArgs false

set_option maxHeartbeats 2000000 in
set_option maxRecDepth 100000 in
theorem refpoint_any (r : Bx) (q W H x y : Int) (w : World) : Calls Try.prog 25 #[.agg #[.int .i64 r.x, .int .i64 r.y, .int .i64 r.w, .int .i64 r.h, .int .i64 q, .int .i64 W, .int .i64 H], .int .i64 x, .int .i64 y] w (TwoTo (pointB r q x y).1 (pointB r q x y).2 w) := by
  obtain ⟨X, hX⟩ : ∃ X, X = (pointB r q x y).1 := ⟨_, rfl⟩
  obtain ⟨Y, hY⟩ : ∃ Y, Y = (pointB r q x y).2 := ⟨_, rfl⟩
  rw [← hX, ← hY]
  have HZ0 : Hid (¬ (r.may = true ∧ near x most = true ∧ near y most = true) → X = 0 ∧ Y = 0) := Lib.hid (fun h => by
    have hf : ¬ fitsB r x y = true := by unfold fitsB; simp only [Bool.and_eq_true]; exact fun e => h ⟨e.1.1, e.1.2, e.2⟩
    unfold pointB at hX hY
    rw [if_neg hf] at hX hY
    exact ⟨hX, hY⟩)
  have HXY := Lib.hid (And.intro hX hY)
  have HM := Lib.hid (fun W => refmay_any r W)
  have HFx := Lib.hid (fun W => far_any x 2251799813685248 W (by omega))
  have HFy := Lib.hid (fun W => far_any y 2251799813685248 W (by omega))
  have HTn := Lib.hid (fun W => refturn_any r q W)
  obtain ⟨w1, hw1⟩ : ∃ z, z = w.alloc (.cells ([.int .i64 r.x, .int .i64 r.y, .int .i64 r.w, .int .i64 r.h, .int .i64 q, .int .i64 W, .int .i64 H] : List Value).toArray 54) := ⟨_, rfl⟩
  obtain ⟨tb, htb⟩ : ∃ z, z = w.heap.size := ⟨_, rfl⟩
  have hB1 : BlockIs w1 tb [.int .i64 r.x, .int .i64 r.y, .int .i64 r.w, .int .i64 r.h, .int .i64 q, .int .i64 W, .int .i64 H] 54 := by rw [htb, hw1]; exact BlockIs.new w _ _
  have hP : Pure w w1 := hw1 ▸ ext_alloc w _
  have HW : Hid (w.alloc (.cells #[.int .i64 r.x, .int .i64 r.y, .int .i64 r.w, .int .i64 r.h, .int .i64 q, .int .i64 W, .int .i64 H] 54) = w1) := Lib.hid hw1.symm
  have HTb := Lib.hid htb
  clear hw1 htb hX hY
  go_enter Try.func25, Try.ntmps25
  go_wp2_with fail
  rw [HW.out, ← HTb.out]
  refine (HM.out w1).mono ?_
  rintro e w2 ⟨rfl, hP2⟩
  have hB1 := hB1.ext hP2 id
  have hP := hP.pure hP2
  clear hP2
  by_cases hm : r.may = true
  · rw [hm]
    go_wp2_with fail
    refine (HFx.out w2).mono ?_
    rintro e w3 ⟨rfl, hP3⟩
    have hB1 := hB1.ext hP3 id
    have hP := hP.pure hP3
    clear hP3
    by_cases hx : near x 2251799813685248 = true
    · rw [hx]
      go_wp2_with fail
      refine (HFy.out w3).mono ?_
      rintro e w4 ⟨rfl, hP4⟩
      have hB1 := hB1.ext hP4 id
      have hP := hP.pure hP4
      clear hP4
      by_cases hy : near y 2251799813685248 = true
      · rw [hy]
        have c0 : w4.cell? ⟨tb, 0, none⟩ = some (.int .i64 r.x) := hB1.cell 0
        have c1 : w4.cell? ⟨tb, 1, none⟩ = some (.int .i64 r.y) := hB1.cell 1
        have c2 : w4.cell? ⟨tb, 2, none⟩ = some (.int .i64 r.w) := hB1.cell 2
        have c3 : w4.cell? ⟨tb, 3, none⟩ = some (.int .i64 r.h) := hB1.cell 3
        have c4 : w4.cell? ⟨tb, 4, none⟩ = some (.int .i64 q) := hB1.cell 4
        go_wp2_with fail
        refine (HTn.out w4).mono ?_
        rintro e w5 ⟨rfl, hP5⟩
        have hB1 := hB1.ext hP5 id
        have hP := hP.pure hP5
        clear hP5
        clear c0 c1 c2 c3 c4
        have hfit : fitsB r x y = true := by unfold fitsB; rw [hm, show near x most = true from hx, show near y most = true from hy]; rfl
        have HQ : Hid (X = (pointB r q x y).1 ∧ Y = (pointB r q x y).2) := HXY
        have hXY := HXY.out
        unfold pointB at hXY
        rw [if_pos hfit] at hXY
        have hn := turn_near hm q
        have hxn := near_iff.1 hx
        have hyn := near_iff.1 hy
        unfold most at hn
        generalize r.turn q = T at *
        have HX := Lib.hid hXY
        have HN := Lib.hid (And.intro hxn (And.intro hyn hn))
        clear hXY hn hxn hyn hx hy hm hfit HZ0 HQ HXY
        obtain ⟨wA, hwA⟩ : ∃ z, z = w5.alloc (.cells #[.int .i64 T.x, .int .i64 T.y, .int .i64 T.w, .int .i64 T.h] 32) := ⟨_, rfl⟩
        obtain ⟨bT, hbT⟩ : ∃ z, z = w5.heap.size := ⟨_, rfl⟩
        have hBT : BlockIs wA bT [.int .i64 T.x, .int .i64 T.y, .int .i64 T.w, .int .i64 T.h] 32 := by rw [hbT, hwA]; exact BlockIs.new w5 _ _
        have hPA : Pure w5 wA := hwA ▸ ext_alloc w5 _
        have hB1 := hB1.ext hPA id
        have hP := hP.pure hPA
        have HWA := Lib.hid hwA.symm
        have HbT := Lib.hid hbT.symm
        clear hPA
        have c4 : (w5.alloc (.cells #[.int .i64 T.x, .int .i64 T.y, .int .i64 T.w, .int .i64 T.h] 32)).cell? ⟨tb, 4, none⟩ = some (.int .i64 q) := by rw [HWA.out]; exact hB1.cell 4
        clear hwA hbT
        go_wp2_with fail
        rw [HWA.out, HbT.out]
        clear c4
        refine (move_any x y q _ (by have := HN.out; omega) (by have := HN.out; omega)).mono ?_
        rintro e w6 ⟨rfl, hP6⟩
        have hBT := hBT.ext hP6 id
        have hP := hP.pure hP6
        have e0 : w6.cell? ⟨bT, 0, none⟩ = some (.int .i64 T.x) := hBT.cell 0
        have e1 : w6.cell? ⟨bT, 1, none⟩ = some (.int .i64 T.y) := hBT.cell 1
        have hrb := rot_abs (q4 q) x y (2 ^ 51) (by have := HN.out; omega) (by have := HN.out; omega)
        have ha : IntKind.i64.wrap ((rot (q4 q) x y).1 - T.x) = X := by rw [HX.out.1, IntKind.wrap_i64]; have := HN.out; omega
        have hb : IntKind.i64.wrap ((rot (q4 q) x y).2 - T.y) = Y := by rw [HX.out.2, IntKind.wrap_i64]; have := HN.out; omega
        clear hrb hP6
        go_wp2_with fail
        go_quiet (fail)
        go_wp2_with fail
        go_ret2
        exact ⟨rfl, hP.drewN _⟩
      · have hy' : near y 2251799813685248 = false := by simpa using hy
        rw [hy']
        have HZ : Hid (X = 0 ∧ Y = 0) := Lib.hid (HZ0.out (by rintro ⟨_, _, h⟩; exact hy h))
        go_wp2_with fail
        go_ret2
        obtain ⟨hX, hY⟩ := HZ.out
        exact ⟨by rw [hX, hY]; rfl, hP⟩
    · have hx' : near x 2251799813685248 = false := by simpa using hx
      rw [hx']
      have HZ : Hid (X = 0 ∧ Y = 0) := Lib.hid (HZ0.out (by rintro ⟨_, h, _⟩; exact hx h))
      go_wp2_with fail
      go_ret2
      obtain ⟨hX, hY⟩ := HZ.out
      exact ⟨by rw [hX, hY]; rfl, hP⟩
  · have hm' : r.may = false := by simpa using hm
    rw [hm']
    have HZ : Hid (X = 0 ∧ Y = 0) := Lib.hid (HZ0.out (by rintro ⟨h, _, _⟩; exact hm h))
    go_wp2_with fail
    go_ret2
    obtain ⟨hX, hY⟩ := HZ.out
    exact ⟨by rw [hX, hY]; rfl, hP⟩
set_option maxHeartbeats 2000000 in
set_option maxRecDepth 100000 in
theorem refback_any (r : Bx) (q W H x y : Int) (w : World) : Calls Try.prog 27 #[.agg #[.int .i64 r.x, .int .i64 r.y, .int .i64 r.w, .int .i64 r.h, .int .i64 q, .int .i64 W, .int .i64 H], .int .i64 x, .int .i64 y] w (TwoTo (backB r q x y).1 (backB r q x y).2 w) := by
  obtain ⟨X, hX⟩ : ∃ X, X = (backB r q x y).1 := ⟨_, rfl⟩
  obtain ⟨Y, hY⟩ : ∃ Y, Y = (backB r q x y).2 := ⟨_, rfl⟩
  rw [← hX, ← hY]
  have HZ0 : Hid (¬ (r.may = true ∧ near x most = true ∧ near y most = true) → X = 0 ∧ Y = 0) := Lib.hid (fun h => by
    have hf : ¬ fitsB r x y = true := by unfold fitsB; simp only [Bool.and_eq_true]; exact fun e => h ⟨e.1.1, e.1.2, e.2⟩
    unfold backB at hX hY
    rw [if_neg hf] at hX hY
    exact ⟨hX, hY⟩)
  have HXY := Lib.hid (And.intro hX hY)
  have HM := Lib.hid (fun W => refmay_any r W)
  have HFx := Lib.hid (fun W => far_any x 2251799813685248 W (by omega))
  have HFy := Lib.hid (fun W => far_any y 2251799813685248 W (by omega))
  have HTn := Lib.hid (fun W => refturn_any r q W)
  obtain ⟨w1, hw1⟩ : ∃ z, z = w.alloc (.cells ([.int .i64 r.x, .int .i64 r.y, .int .i64 r.w, .int .i64 r.h, .int .i64 q, .int .i64 W, .int .i64 H] : List Value).toArray 54) := ⟨_, rfl⟩
  obtain ⟨tb, htb⟩ : ∃ z, z = w.heap.size := ⟨_, rfl⟩
  have hB1 : BlockIs w1 tb [.int .i64 r.x, .int .i64 r.y, .int .i64 r.w, .int .i64 r.h, .int .i64 q, .int .i64 W, .int .i64 H] 54 := by rw [htb, hw1]; exact BlockIs.new w _ _
  have hP : Pure w w1 := hw1 ▸ ext_alloc w _
  have HW : Hid (w.alloc (.cells #[.int .i64 r.x, .int .i64 r.y, .int .i64 r.w, .int .i64 r.h, .int .i64 q, .int .i64 W, .int .i64 H] 54) = w1) := Lib.hid hw1.symm
  have HTb := Lib.hid htb
  clear hw1 htb hX hY
  go_enter Try.func27, Try.ntmps27
  go_wp2_with fail
  rw [HW.out, ← HTb.out]
  refine (HM.out w1).mono ?_
  rintro e w2 ⟨rfl, hP2⟩
  have hB1 := hB1.ext hP2 id
  have hP := hP.pure hP2
  clear hP2
  by_cases hm : r.may = true
  · rw [hm]
    go_wp2_with fail
    refine (HFx.out w2).mono ?_
    rintro e w3 ⟨rfl, hP3⟩
    have hB1 := hB1.ext hP3 id
    have hP := hP.pure hP3
    clear hP3
    by_cases hx : near x 2251799813685248 = true
    · rw [hx]
      go_wp2_with fail
      refine (HFy.out w3).mono ?_
      rintro e w4 ⟨rfl, hP4⟩
      have hB1 := hB1.ext hP4 id
      have hP := hP.pure hP4
      clear hP4
      by_cases hy : near y 2251799813685248 = true
      · rw [hy]
        have c0 : w4.cell? ⟨tb, 0, none⟩ = some (.int .i64 r.x) := hB1.cell 0
        have c1 : w4.cell? ⟨tb, 1, none⟩ = some (.int .i64 r.y) := hB1.cell 1
        have c2 : w4.cell? ⟨tb, 2, none⟩ = some (.int .i64 r.w) := hB1.cell 2
        have c3 : w4.cell? ⟨tb, 3, none⟩ = some (.int .i64 r.h) := hB1.cell 3
        have c4 : w4.cell? ⟨tb, 4, none⟩ = some (.int .i64 q) := hB1.cell 4
        go_wp2_with fail
        refine (HTn.out w4).mono ?_
        rintro e w5 ⟨rfl, hP5⟩
        have hB1 := hB1.ext hP5 id
        have hP := hP.pure hP5
        clear hP5
        clear c0 c1 c2 c3 c4
        have hfit : fitsB r x y = true := by unfold fitsB; rw [hm, show near x most = true from hx, show near y most = true from hy]; rfl
        have HQ : Hid (X = (backB r q x y).1 ∧ Y = (backB r q x y).2) := HXY
        have hXY := HXY.out
        unfold backB at hXY
        rw [if_pos hfit] at hXY
        have hn := turn_near hm q
        have hxn := near_iff.1 hx
        have hyn := near_iff.1 hy
        unfold most at hn
        generalize r.turn q = T at *
        have HX := Lib.hid hXY
        have HN := Lib.hid (And.intro hxn (And.intro hyn hn))
        clear hXY hn hxn hyn hx hy hm hfit HZ0 HQ HXY
        obtain ⟨wA, hwA⟩ : ∃ z, z = w5.alloc (.cells #[.int .i64 T.x, .int .i64 T.y, .int .i64 T.w, .int .i64 T.h] 32) := ⟨_, rfl⟩
        obtain ⟨bT, hbT⟩ : ∃ z, z = w5.heap.size := ⟨_, rfl⟩
        have hBT : BlockIs wA bT [.int .i64 T.x, .int .i64 T.y, .int .i64 T.w, .int .i64 T.h] 32 := by rw [hbT, hwA]; exact BlockIs.new w5 _ _
        have hPA : Pure w5 wA := hwA ▸ ext_alloc w5 _
        have hB1 := hB1.ext hPA id
        have hP := hP.pure hPA
        have HWA := Lib.hid hwA.symm
        have HbT := Lib.hid hbT.symm
        clear hPA
        clear hwA hbT
        go_wp2_with fail
        rw [HWA.out, HbT.out]
        have e0 : wA.drew.cell? ⟨bT, 0, none⟩ = some (.int .i64 T.x) := hBT.cell 0
        have e1 : wA.drew.cell? ⟨bT, 1, none⟩ = some (.int .i64 T.y) := hBT.cell 1
        have e4 : wA.drew.cell? ⟨tb, 4, none⟩ = some (.int .i64 q) := hB1.cell 4
        have hP := hP.drew
        have ha : IntKind.i64.wrap (x + T.x) = x + T.x := by rw [IntKind.wrap_i64]; have := HN.out; omega
        have hb : IntKind.i64.wrap (y + T.y) = y + T.y := by rw [IntKind.wrap_i64]; have := HN.out; omega
        have hq : IntKind.i64.wrap (4 - (q4 q : Int)) = 4 - (q4 q : Int) := by rw [IntKind.wrap_i64]; have := q4_lt q; omega
        clear hBT hB1
        refine region_start (fun _ => False) (by kernel_rfl) ?_
        try simp only [Act.put, List.setIfInBounds_toArray, List.set_cons_zero, List.set_cons_succ]
        refine region_take 0 26 (v := ?vrb0) rfl rfl (by kernel_rfl) (by kernel_rfl) (by kernel_rfl) (fun _ _ _ h => h) (by rfl) (fun w' hS => ?hrb0) ?rrb0
        case hrb0 => go_simp; with_reducible rfl
        try simp only [Act.put, List.setIfInBounds_toArray, List.set_cons_zero, List.set_cons_succ]
        refine region_take 1 27 (v := ?vrb1) rfl rfl (by kernel_rfl) (by kernel_rfl) (by kernel_rfl) (fun _ _ _ h => h) (by rfl) (fun w' hS => ?hrb1) ?rrb1
        case hrb1 => go_simp; with_reducible rfl
        try simp only [Act.put, List.setIfInBounds_toArray, List.set_cons_zero, List.set_cons_succ]
        refine region_take 2 28 (v := ?vrb2) rfl rfl (by kernel_rfl) (by kernel_rfl) (by kernel_rfl) (fun _ _ _ h => h) (by rfl) (fun w' hS => ?hrb2) ?rrb2
        case hrb2 => (have e := hS.cell_some e0 id; go_simp; with_reducible rfl)
        try simp only [Act.put, List.setIfInBounds_toArray, List.set_cons_zero, List.set_cons_succ]
        refine region_take 3 29 (v := ?vrb3) rfl rfl (by kernel_rfl) (by kernel_rfl) (by kernel_rfl) (fun _ _ _ h => h) (by rfl) (fun w' hS => ?hrb3) ?rrb3
        case hrb3 => go_simp; with_reducible rfl
        try simp only [Act.put, List.setIfInBounds_toArray, List.set_cons_zero, List.set_cons_succ]
        refine region_take 4 30 (v := ?vrb4) rfl rfl (by kernel_rfl) (by kernel_rfl) (by kernel_rfl) (fun _ _ _ h => h) (by rfl) (fun w' hS => ?hrb4) ?rrb4
        case hrb4 => go_simp; with_reducible rfl
        try simp only [Act.put, List.setIfInBounds_toArray, List.set_cons_zero, List.set_cons_succ]
        refine region_take 5 31 (v := ?vrb5) rfl rfl (by kernel_rfl) (by kernel_rfl) (by kernel_rfl) (fun _ _ _ h => h) (by rfl) (fun w' hS => ?hrb5) ?rrb5
        case hrb5 => go_simp; with_reducible rfl
        try simp only [Act.put, List.setIfInBounds_toArray, List.set_cons_zero, List.set_cons_succ]
        refine region_take 6 32 (v := ?vrb6) rfl rfl (by kernel_rfl) (by kernel_rfl) (by kernel_rfl) (fun _ _ _ h => h) (by rfl) (fun w' hS => ?hrb6) ?rrb6
        case hrb6 => (have e := hS.cell_some e1 id; go_simp; with_reducible rfl)
        try simp only [Act.put, List.setIfInBounds_toArray, List.set_cons_zero, List.set_cons_succ]
        refine region_take 7 33 (v := ?vrb7) rfl rfl (by kernel_rfl) (by kernel_rfl) (by kernel_rfl) (fun _ _ _ h => h) (by rfl) (fun w' hS => ?hrb7) ?rrb7
        case hrb7 => go_simp; with_reducible rfl
        try simp only [Act.put, List.setIfInBounds_toArray, List.set_cons_zero, List.set_cons_succ]
        refine region_take 8 34 (v := ?vrb8) rfl rfl (by kernel_rfl) (by kernel_rfl) (by kernel_rfl) (fun _ _ _ h => h) (by rfl) (fun w' hS => ?hrb8) ?rrb8
        case hrb8 => go_simp; with_reducible rfl
        try simp only [Act.put, List.setIfInBounds_toArray, List.set_cons_zero, List.set_cons_succ]
        refine region_take 9 35 (v := ?vrb9) rfl rfl (by kernel_rfl) (by kernel_rfl) (by kernel_rfl) (fun _ _ _ h => h) (by rfl) (fun w' hS => ?hrb9) ?rrb9
        case hrb9 => (have e := hS.cell_some e4 id; go_simp; with_reducible rfl)
        try simp only [Act.put, List.setIfInBounds_toArray, List.set_cons_zero, List.set_cons_succ]
        refine wpAnyH_ready (rs := [10]) (by kernel_rfl) (by simp) (AllReadyH.cons rfl (fun K hK => ?_) AllReadyH.nil)
        go_simp
        refine (times_any q _).mono ?_
        rintro e w6 ⟨rfl, hP6⟩
        have hP := hP.pure hP6
        refine hK.out _ _ (hP6) (fun hHeld => ?_)
        clear hK K hHeld
        refine region_now (hP6) ?_
        try simp only [Act.put, List.setIfInBounds_toArray, List.set_cons_zero, List.set_cons_succ]
        refine region_take 11 37 (v := ?vrb11) rfl rfl (by kernel_rfl) (by kernel_rfl) (by kernel_rfl) (fun _ _ _ h => h) (by rfl) (fun w' hS => ?hrb11) ?rrb11
        case hrb11 => go_simp; with_reducible rfl
        try simp only [Act.put, List.setIfInBounds_toArray, List.set_cons_zero, List.set_cons_succ]
        refine wpAnyH_ready (rs := [12]) (by kernel_rfl) (by simp) (AllReadyH.cons rfl (fun K hK => ?_) AllReadyH.nil)
        go_simp
        refine (move_any (x + T.x) (y + T.y) (4 - (q4 q : Int)) _ (by have := HN.out; omega) (by have := HN.out; omega)).mono ?_
        rintro e w7 ⟨rfl, hP7⟩
        have hP := hP.pure hP7
        refine hK.out _ _ (hP7) (fun hHeld => ?_)
        clear hK K hHeld
        refine region_now (hP7) ?_
        try simp only [Act.put, List.setIfInBounds_toArray, List.set_cons_zero, List.set_cons_succ]
        refine region_take 13 39 (v := ?vrb13) rfl rfl (by kernel_rfl) (by kernel_rfl) (by kernel_rfl) (fun _ _ _ h => h) (by rfl) (fun w' hS => ?hrb13) ?rrb13
        case hrb13 => go_simp; with_reducible rfl
        try simp only [Act.put, List.setIfInBounds_toArray, List.set_cons_zero, List.set_cons_succ]
        refine region_take 14 40 (v := ?vrb14) rfl rfl (by kernel_rfl) (by kernel_rfl) (by kernel_rfl) (fun _ _ _ h => h) (by rfl) (fun w' hS => ?hrb14) ?rrb14
        case hrb14 => go_simp; with_reducible rfl
        try simp only [Act.put, List.setIfInBounds_toArray, List.set_cons_zero, List.set_cons_succ]
        refine region_take 15 6 (v := ?vrb15) rfl rfl (by kernel_rfl) (by kernel_rfl) (by kernel_rfl) (fun _ _ _ h => h) (by rfl) (fun w' hS => ?hrb15) ?rrb15
        case hrb15 => go_simp; with_reducible rfl
        try simp only [Act.put, List.setIfInBounds_toArray, List.set_cons_zero, List.set_cons_succ]
        refine region_take 16 7 (v := ?vrb16) rfl rfl (by kernel_rfl) (by kernel_rfl) (by kernel_rfl) (fun _ _ _ h => h) (by rfl) (fun w' hS => ?hrb16) ?rrb16
        case hrb16 => go_simp; with_reducible rfl
        try simp only [Act.put, List.setIfInBounds_toArray, List.set_cons_zero, List.set_cons_succ]
        refine wpAnyH_done (by kernel_rfl) ?_ _
        clear e0 e1 e4 ha hb hq
        have hqq : q4 (4 - (q4 q : Int)) = q4 (-q) := by unfold q4; omega
        go_wp2_with fail
        go_ret2
        exact ⟨by rw [HX.out.1, HX.out.2, hqq]; rfl, hP⟩
      · have hy' : near y 2251799813685248 = false := by simpa using hy
        rw [hy']
        have HZ : Hid (X = 0 ∧ Y = 0) := Lib.hid (HZ0.out (by rintro ⟨_, _, h⟩; exact hy h))
        go_wp2_with fail
        go_ret2
        obtain ⟨hX, hY⟩ := HZ.out
        exact ⟨by rw [hX, hY]; rfl, hP⟩
    · have hx' : near x 2251799813685248 = false := by simpa using hx
      rw [hx']
      have HZ : Hid (X = 0 ∧ Y = 0) := Lib.hid (HZ0.out (by rintro ⟨_, h, _⟩; exact hx h))
      go_wp2_with fail
      go_ret2
      obtain ⟨hX, hY⟩ := HZ.out
      exact ⟨by rw [hX, hY]; rfl, hP⟩
  · have hm' : r.may = false := by simpa using hm
    rw [hm']
    have HZ : Hid (X = 0 ∧ Y = 0) := Lib.hid (HZ0.out (by rintro ⟨h, _, _⟩; exact hm h))
    go_wp2_with fail
    go_ret2
    obtain ⟨hX, hY⟩ := HZ.out
    exact ⟨by rw [hX, hY]; rfl, hP⟩
end Go.Proofs.Ytnibjjpohhknkaa
