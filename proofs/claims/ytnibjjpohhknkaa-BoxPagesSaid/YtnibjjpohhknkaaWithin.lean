/-
  Walked: the program's within, may; the reference's far, May.
-/
import Derived.Test.YtnibjjpohhknkaaBoxPl
import Derived.Test.YtnibjjpohhknkaaDepth
import Derived.Deep.QuietTactic
import Derived.BigQuiet
namespace Go.Proofs.Ytnibjjpohhknkaa
open Go.RowKit
set_option linter.unusedVariables false
set_option linter.unusedSimpArgs false

theorem within_any (n a b : Int) (w : World) : Calls Try.prog 49 #[.int .i64 n, .int .i64 a, .int .i64 b] w (BoolTo (decide (a ≤ n ∧ n ≤ b)) w) := by
  by_cases h1 : a ≤ n
  · by_cases h2 : n ≤ b
    · have e : decide (a ≤ n ∧ n ≤ b) = true := by simp [h1, h2]
      rw [e]
      clear e
      go_enter Try.func49, Try.ntmps49
      go_wp2_with fail
      go_ret
      exact ⟨rfl, Ext.refl _ _⟩
    · have e : decide (a ≤ n ∧ n ≤ b) = false := by simp [h2]
      rw [e]
      clear e
      go_enter Try.func49, Try.ntmps49
      go_wp2_with fail
      go_ret
      exact ⟨rfl, Ext.refl _ _⟩
  · have e : decide (a ≤ n ∧ n ≤ b) = false := by simp [h1]
    rw [e]
    clear e
    go_enter Try.func49, Try.ntmps49
    go_wp2_with fail
    go_ret
    exact ⟨rfl, Ext.refl _ _⟩
theorem far_any (n b : Int) (w : World) (hb : -9223372036854775807 ≤ b ∧ b ≤ 9223372036854775807) : Calls Try.prog 37 #[.int .i64 n, .int .i64 b] w (BoolTo (!near n b) w) := by
  have hw : IntKind.i64.wrap (-b) = -b := by rw [IntKind.wrap_i64]; omega
  by_cases h1 : n < -b
  · have e : (!near n b) = true := by simp [near]; omega
    rw [e]
    clear e
    go_enter Try.func37, Try.ntmps37
    go_wp2_with fail
    go_ret
    exact ⟨rfl, Ext.refl _ _⟩
  · by_cases h2 : b < n
    · have e : (!near n b) = true := by simp [near]; omega
      rw [e]
      clear e
      go_enter Try.func37, Try.ntmps37
      go_wp2_with fail
      go_ret
      exact ⟨rfl, Ext.refl _ _⟩
    · have e : (!near n b) = false := by simp [near]; omega
      rw [e]
      clear e
      go_enter Try.func37, Try.ntmps37
      go_wp2_with fail
      go_ret
      exact ⟨rfl, Ext.refl _ _⟩
set_option maxHeartbeats 1000000 in
theorem may_any (r : Bx) (w : World) : Calls Try.prog 36 #[.agg #[.int .i64 r.x, .int .i64 r.y, .int .i64 r.w, .int .i64 r.h]] w (BoolTo r.may w) := by
  obtain ⟨x, y, v, h⟩ := r
  have hm : Bx.may ⟨x, y, v, h⟩ = (decide (-2251799813685248 ≤ x ∧ x ≤ 2251799813685248) && decide (-2251799813685248 ≤ y ∧ y ≤ 2251799813685248) && decide (0 ≤ v ∧ v ≤ 4503599627370496) && decide (0 ≤ h ∧ h ≤ 4503599627370496)) := rfl
  rw [hm]
  have H1 := Lib.hid (fun W => within_any x (-2251799813685248) 2251799813685248 W)
  have H2 := Lib.hid (fun W => within_any y (-2251799813685248) 2251799813685248 W)
  have H3 := Lib.hid (fun W => within_any v 0 4503599627370496 W)
  have H4 := Lib.hid (fun W => within_any h 0 4503599627370496 W)
  generalize decide (-2251799813685248 ≤ x ∧ x ≤ 2251799813685248) = b1 at *
  generalize decide (-2251799813685248 ≤ y ∧ y ≤ 2251799813685248) = b2 at *
  generalize decide (0 ≤ v ∧ v ≤ 4503599627370496) = b3 at *
  generalize decide (0 ≤ h ∧ h ≤ 4503599627370496) = b4 at *
  obtain ⟨w1, hw1⟩ : ∃ z, z = w.alloc (.cells #[.int .i64 x, .int .i64 y, .int .i64 v, .int .i64 h] 28) := ⟨_, rfl⟩
  have hB : BlockIs w1 w.heap.size [.int .i64 x, .int .i64 y, .int .i64 v, .int .i64 h] 28 := hw1 ▸ BlockIs.new w _ _
  have hP : Pure w w1 := hw1 ▸ ext_alloc w _
  have HW := Lib.hid hw1
  clear hw1 hm
  go_enter Try.func36, Try.ntmps36
  go_wp2_with fail
  rw [← HW.out]
  refine (H1.out w1).mono ?_
  rintro e w2 ⟨rfl, hP2⟩
  have hP := hP.pure hP2
  have hB := hB.ext hP2 id
  have c1 : w2.cell? ⟨w.heap.size, 1, none⟩ = some (.int .i64 y) := hB.cell 1
  cases b1 with
  | false =>
    go_wp2_with fail
    go_ret
    exact ⟨rfl, hP⟩
  | true =>
    go_wp2_with fail
    refine (H2.out w2).mono ?_
    rintro e w3 ⟨rfl, hP3⟩
    have hP := hP.pure hP3
    have hB := hB.ext hP3 id
    have c2 : w3.cell? ⟨w.heap.size, 2, none⟩ = some (.int .i64 v) := hB.cell 2
    cases b2 with
    | false =>
      go_wp2_with fail
      go_ret
      exact ⟨rfl, hP⟩
    | true =>
      go_wp2_with fail
      refine (H3.out w3).mono ?_
      rintro e w4 ⟨rfl, hP4⟩
      have hP := hP.pure hP4
      have hB := hB.ext hP4 id
      have c3 : w4.cell? ⟨w.heap.size, 3, none⟩ = some (.int .i64 h) := hB.cell 3
      cases b3 with
      | false =>
        go_wp2_with fail
        go_ret
        exact ⟨rfl, hP⟩
      | true =>
        go_wp2_with fail
        refine (H4.out w4).mono ?_
        rintro e w5 ⟨rfl, hP5⟩
        have hP := hP.pure hP5
        go_wp2_with fail
        go_ret
        exact ⟨rfl, hP⟩
end Go.Proofs.Ytnibjjpohhknkaa
