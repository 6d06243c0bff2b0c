/-
  Walked: the reference's May, times, move, span, Turn.
-/
import Derived.Test.YtnibjjpohhknkaaTurns
namespace Go.Proofs.Ytnibjjpohhknkaa
open Go.RowKit
set_option linter.unusedVariables false
set_option linter.unusedSimpArgs false

theorem near_iff {n b : Int} : near n b = true ↔ -b ≤ n ∧ n ≤ b := by simp [near]
theorem rect_to {T : Bx} {x y v h : Int} {w w' : World} (h1 : T.x = x) (h2 : T.y = y) (h3 : T.w = v) (h4 : T.h = h) (hP : Pure w w') : RectTo T w (.returned (.agg #[.int .i64 x, .int .i64 y, .int .i64 v, .int .i64 h])) w' := by
  subst h1 h2 h3 h4
  exact ⟨rfl, hP⟩
set_option maxHeartbeats 1000000 in
set_option maxRecDepth 100000 in
theorem refmay_any (r : Bx) (w : World) : Calls Try.prog 17 #[.agg #[.int .i64 r.x, .int .i64 r.y, .int .i64 r.w, .int .i64 r.h]] w (BoolTo r.may w) := by
  obtain ⟨x, y, v, h⟩ := r
  obtain ⟨R, hR⟩ : ∃ R, R = Bx.may ⟨x, y, v, h⟩ := ⟨_, rfl⟩
  have HR : Hid (R = (near x most && near y most && (decide (0 ≤ v) && near v (2 * most)) && (decide (0 ≤ h) && near h (2 * most)))) := Lib.hid (by
    rw [hR, Bool.eq_iff_iff, Bx.may_iff]
    simp only [Bool.and_eq_true, near_iff, decide_eq_true_eq]
    unfold most
    constructor <;> (intro hh; omega))
  rw [← hR]
  clear hR
  have H1 := Lib.hid (fun W => far_any x 2251799813685248 W (by omega))
  have H2 := Lib.hid (fun W => far_any y 2251799813685248 W (by omega))
  have H3 := Lib.hid (fun W => far_any v 4503599627370496 W (by omega))
  have H4 := Lib.hid (fun W => far_any h 4503599627370496 W (by omega))
  have HR : Hid (R = (near x 2251799813685248 && near y 2251799813685248 && (decide (0 ≤ v) && near v 4503599627370496) && (decide (0 ≤ h) && near h 4503599627370496))) := HR
  generalize near x 2251799813685248 = b1 at *
  generalize near y 2251799813685248 = b2 at *
  generalize near v 4503599627370496 = b3 at *
  generalize near h 4503599627370496 = b4 at *
  obtain ⟨w1, hw1⟩ : ∃ z, z = w.alloc (.cells #[.int .i64 x, .int .i64 y, .int .i64 v, .int .i64 h] 32) := ⟨_, rfl⟩
  have hB : BlockIs w1 w.heap.size [.int .i64 x, .int .i64 y, .int .i64 v, .int .i64 h] 32 := hw1 ▸ BlockIs.new w _ _
  have hP : Pure w w1 := hw1 ▸ ext_alloc w _
  have HW := Lib.hid hw1
  clear hw1
  go_enter Try.func17, Try.ntmps17
  go_wp2_with fail
  rw [← HW.out]
  refine (H1.out w1).mono ?_
  rintro e w2 ⟨rfl, hP2⟩
  have hP := hP.pure hP2
  have hB := hB.ext hP2 id
  have c1 : w2.cell? ⟨w.heap.size, 1, none⟩ = some (.int .i64 y) := hB.cell 1
  cases b1 with
  | false =>
    have HRR : Hid (R = false) := Lib.hid (by rw [HR.out]; rfl)
    go_wp2_with fail
    go_ret
    exact ⟨by rw [HRR.out]; rfl, hP⟩
  | true =>
    go_wp2_with fail
    refine (H2.out w2).mono ?_
    rintro e w3 ⟨rfl, hP3⟩
    have hP := hP.pure hP3
    have hB := hB.ext hP3 id
    have c2 : w3.cell? ⟨w.heap.size, 2, none⟩ = some (.int .i64 v) := hB.cell 2
    cases b2 with
    | false =>
      have HRR : Hid (R = false) := Lib.hid (by rw [HR.out]; rfl)
      go_wp2_with fail
      go_ret
      exact ⟨by rw [HRR.out]; rfl, hP⟩
    | true =>
      by_cases hv : 0 ≤ v
      · go_wp2_with fail
        refine (H3.out w3).mono ?_
        rintro e w4 ⟨rfl, hP4⟩
        have hP := hP.pure hP4
        have hB := hB.ext hP4 id
        have c3 : w4.cell? ⟨w.heap.size, 3, none⟩ = some (.int .i64 h) := hB.cell 3
        have e1 : decide (0 ≤ v) = true := by simp [hv]
        cases b3 with
        | false =>
          have HRR : Hid (R = false) := Lib.hid (by rw [HR.out, e1]; rfl)
          clear e1
          go_wp2_with fail
          go_ret
          exact ⟨by rw [HRR.out]; rfl, hP⟩
        | true =>
          by_cases hh : 0 ≤ h
          · have e2 : decide (0 ≤ h) = true := by simp [hh]
            have HRR : Hid (R = b4) := Lib.hid (by rw [HR.out, e1, e2]; rfl)
            clear e1 e2
            go_wp2_with fail
            refine (H4.out w4).mono ?_
            rintro e w5 ⟨rfl, hP5⟩
            have hP := hP.pure hP5
            cases b4 with
            | false =>
              go_wp2_with fail
              go_ret
              exact ⟨by rw [HRR.out]; rfl, hP⟩
            | true =>
              go_wp2_with fail
              go_ret
              exact ⟨by rw [HRR.out]; rfl, hP⟩
          · have e2 : decide (0 ≤ h) = false := by simp [hh]
            have HRR : Hid (R = false) := Lib.hid (by rw [HR.out, e1, e2]; rfl)
            clear e1 e2
            go_wp2_with fail
            go_ret
            exact ⟨by rw [HRR.out]; rfl, hP⟩
      · have e1 : decide (0 ≤ v) = false := by simp [hv]
        have HRR : Hid (R = false) := Lib.hid (by rw [HR.out, e1]; rfl)
        clear e1
        go_wp2_with fail
        go_ret
        exact ⟨by rw [HRR.out]; rfl, hP⟩
theorem tmod4 (n : Int) : (0 ≤ n.tmod 4 ∧ n.tmod 4 = (q4 n : Int)) ∨ (n.tmod 4 < 0 ∧ -4 < n.tmod 4 ∧ n.tmod 4 + 4 = (q4 n : Int)) := by
  have h1 : n.tmod 4 = n % 4 ∨ n.tmod 4 = n % 4 - 4 := by
    rcases Int.lt_or_le n 0 with h | h
    · have e : n.tmod 4 = -((-n).tmod 4) := by rw [Int.neg_tmod]; omega
      rw [e, Int.tmod_eq_emod_of_nonneg (by omega)]
      omega
    · left; exact Int.tmod_eq_emod_of_nonneg h
  have h2 : -4 < n.tmod 4 ∧ n.tmod 4 < 4 := by
    have a := Int.emod_nonneg n (show (4 : Int) ≠ 0 by decide)
    have b := Int.emod_lt_of_pos n (show (0 : Int) < 4 by decide)
    have c := Int.lt_tmod_of_pos n (show (0 : Int) < 4 by decide)
    omega
  unfold q4
  omega
theorem times_any (n : Int) (w : World) : Calls Try.prog 45 #[.int .i64 n] w (IntTo (q4 n) w) := by
  have hq := q4_lt n
  rcases tmod4 n with ⟨h1, h2⟩ | ⟨h1, h2, h3⟩
  · generalize (q4 n : Int) = Q at *
    have h0 : ¬ n.tmod 4 < 0 := by omega
    have HQ := Lib.hid h2
    clear h1 h2
    go_enter Try.func45, Try.ntmps45
    go_wp2_with fail
    go_ret
    exact ⟨by rw [← HQ.out]; rfl, Ext.refl _ _⟩
  · generalize (q4 n : Int) = Q at *
    have HQ := Lib.hid h3
    clear h3
    go_enter Try.func45, Try.ntmps45
    go_wp2_with fail
    go_ret
    exact ⟨by rw [← HQ.out]; rfl, Ext.refl _ _⟩
def TwoTo (x y : Int) (w : World) (e : Ending) (w' : World) : Prop := e = .returned (.tuple #[.int .i64 x, .int .i64 y]) ∧ Pure w w'
set_option maxHeartbeats 1000000 in
theorem move_any (x y n : Int) (w : World) (hx : x.natAbs ≤ 2 ^ 60) (hy : y.natAbs ≤ 2 ^ 60) : Calls Try.prog 40 #[.int .i64 x, .int .i64 y, .int .i64 n] w (TwoTo (rot (q4 n) x y).1 (rot (q4 n) x y).2 w) := by
  have HT := Lib.hid (times_any n w)
  have hk4 := q4_lt n
  obtain ⟨k, hk⟩ : ∃ k, k = q4 n := ⟨_, rfl⟩
  rw [← hk] at HT hk4 ⊢
  obtain ⟨X, hX⟩ : ∃ X, X = (rot k x y).1 := ⟨_, rfl⟩
  obtain ⟨Y, hY⟩ : ∃ Y, Y = (rot k x y).2 := ⟨_, rfl⟩
  rw [← hX, ← hY]
  have HXY : Hid (rot k x y = (X, Y)) := Lib.hid (by rw [hX, hY])
  clear hk hX hY
  go_enter Try.func40, Try.ntmps40
  go_wp2_with fail
  refine HT.out.mono ?_
  rintro e w2 ⟨rfl, hP2⟩
  have HX0 := Lib.hid (And.intro hx hy)
  clear hx hy
  go_wp2_with fail
  go_loop [0, 1, 8] (fun a b i => ∃ (x y : Int) (m : Nat), m < 4 ∧ a = .int .i64 x ∧ b = .int .i64 y ∧ i = .int .i64 m ∧ Hid (rot m x y = (X, Y)) ∧ x.natAbs ≤ 2 ^ 60 ∧ y.natAbs ≤ 2 ^ 60) (fun _ _ i => (intOf i).toNat)
  case atStart => exact ⟨x, y, k, hk4, rfl, rfl, rfl, HXY, HX0.out.1, HX0.out.2⟩
  case round =>
    obtain ⟨x, y, m, hm, rfl, rfl, rfl, HR, hx, hy⟩ := hrel
    cases m with
    | zero =>
      have h := HR.out
      rw [rot0] at h
      cases h
      go_wp2_with fail
      go_ret2
      exact ⟨rfl, hP2⟩
    | succ m =>
      have hki : (0 : Int) < ((m + 1 : Nat) : Int) := by omega
      have hk1 : ((m + 1 : Nat) : Int) - 1 = (m : Int) := by omega
      have h := HR.out
      rw [rot] at h
      have HR := Lib.hid h
      clear h
      go_wp2_with fail
      go_round
      case rel => exact ⟨y, -x, m, by omega, rfl, rfl, by go_num, HR, hy, by omega⟩
      case measure => simp [intOf]
set_option maxHeartbeats 1000000 in
set_option maxRecDepth 100000 in
theorem span_any (a b c d : Int) (w : World) (h1 : a.natAbs ≤ 2 ^ 60) (h2 : b.natAbs ≤ 2 ^ 60) (h3 : c.natAbs ≤ 2 ^ 60) (h4 : d.natAbs ≤ 2 ^ 60) : Calls Try.prog 35 #[.int .i64 a, .int .i64 b, .int .i64 c, .int .i64 d] w (RectTo (Bx.span a b c d) w) := by
  have hs : Bx.span a b c d = ⟨min a c, min b d, max a c - min a c, max b d - min b d⟩ := rfl
  rw [hs]
  clear hs
  obtain ⟨X, hX⟩ : ∃ X, X = min a c := ⟨_, rfl⟩
  obtain ⟨Y, hY⟩ : ∃ Y, Y = min b d := ⟨_, rfl⟩
  obtain ⟨V, hV⟩ : ∃ V, V = max a c - min a c := ⟨_, rfl⟩
  obtain ⟨H, hH⟩ : ∃ H, H = max b d - min b d := ⟨_, rfl⟩
  rw [← hV, ← hH, ← hX, ← hY]
  have HA := Lib.hid (And.intro hX (And.intro hY (And.intro hV hH)))
  clear hX hY hV hH
  by_cases hx : c < a <;> by_cases hy : d < b
  all_goals
    go_enter Try.func35, Try.ntmps35
    go_wp2_with fail
    refine bodyPost_ret (results_row1 rfl _ _ w.heap.size _ [_, _, _, _] _ rfl (BlockIs.new w _ _) Try.underlying32 rfl size32) rfl ?_
    refine rect_to ?_ ?_ ?_ ?_ (ext_alloc w _)
    all_goals
      obtain ⟨hX, hY, hV, hH⟩ := HA.out
      simp only []
      omega
end Go.Proofs.Ytnibjjpohhknkaa
