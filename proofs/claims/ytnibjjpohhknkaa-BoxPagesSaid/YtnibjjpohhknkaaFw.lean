/-
  For the walk: floats and complex numbers of whole numbers: what the operations give.
-/
import Derived.WalkKit
import Derived.WalkLawsBesides
import Derived.Test.YtnibjjpohhknkaaFlt
namespace Go.Proofs.Ytnibjjpohhknkaa
open Go.RowKit
set_option linter.unusedVariables false
set_option linter.unusedSimpArgs false

abbrev Rep := Fl.Rep
theorem rep_of {n : Int} (h : n.natAbs ≤ 2 ^ 53) : Rep (floatOfInt .f64 n) n := Fl.of_int h
theorem rep_zero : Rep 0 0 := ⟨false, 0, -1074, by rfl, fun N hN => by simp [Fl.sg]⟩
theorem rep_negOne : Rep 13830554455654793216 (-1) := ⟨true, 4503599627370496, -52, by rfl, Fl.val_of 52 (by decide) (by rfl)⟩
section
variable {P : Program} {b1 b2 c1 c2 : Nat} {x y u v : Int}
theorem run_fadd (h1 : Rep b1 x) (h2 : Rep b2 y) (hz : (x + y).natAbs ≤ 2 ^ 53) : ∃ b, Rep b (x + y) ∧ ∀ (t : TypeId) (w : World), (binOp .add t (.float .f64 b1) (.float .f64 b2)).run P w = .ok (.float .f64 b) w := by
  obtain ⟨b, e, r⟩ := Fl.add_rep h1 h2 hz
  exact ⟨b, r, fun t w => run_float_arith w .add t .f64 b1 b2 b e⟩
theorem run_fsub (h1 : Rep b1 x) (h2 : Rep b2 y) (hz : (x - y).natAbs ≤ 2 ^ 53) : ∃ b, Rep b (x - y) ∧ ∀ (t : TypeId) (w : World), (binOp .sub t (.float .f64 b1) (.float .f64 b2)).run P w = .ok (.float .f64 b) w := by
  obtain ⟨b, e, r⟩ := Fl.sub_rep h1 h2 hz
  exact ⟨b, r, fun t w => run_float_arith w .sub t .f64 b1 b2 b e⟩
theorem run_cadd (h1 : Rep b1 x) (h2 : Rep b2 y) (k1 : Rep c1 u) (k2 : Rep c2 v) (hz : (x + u).natAbs ≤ 2 ^ 53) (hz' : (y + v).natAbs ≤ 2 ^ 53) : ∃ b c, Rep b (x + u) ∧ Rep c (y + v) ∧ ∀ (t : TypeId) (w : World), (binOp .add t (.complex .f64 b1 b2) (.complex .f64 c1 c2)).run P w = .ok (.complex .f64 b c) w := by
  obtain ⟨b, e, r⟩ := Fl.add_rep h1 k1 hz
  obtain ⟨c, e', r'⟩ := Fl.add_rep h2 k2 hz'
  exact ⟨b, c, r, r', fun t w => run_complex_sum w .add (Or.inl rfl) t .f64 b1 b2 c1 c2 b c (by
    have a1 : floatBits .add .f64 b1 c1 = some b := e
    have a2 : floatBits .add .f64 b2 c2 = some c := e'
    unfold cSumBits; rw [a1, a2]; rfl)⟩
theorem run_csub (h1 : Rep b1 x) (h2 : Rep b2 y) (k1 : Rep c1 u) (k2 : Rep c2 v) (hz : (x - u).natAbs ≤ 2 ^ 53) (hz' : (y - v).natAbs ≤ 2 ^ 53) : ∃ b c, Rep b (x - u) ∧ Rep c (y - v) ∧ ∀ (t : TypeId) (w : World), (binOp .sub t (.complex .f64 b1 b2) (.complex .f64 c1 c2)).run P w = .ok (.complex .f64 b c) w := by
  obtain ⟨b, e, r⟩ := Fl.sub_rep h1 k1 hz
  obtain ⟨c, e', r'⟩ := Fl.sub_rep h2 k2 hz'
  exact ⟨b, c, r, r', fun t w => run_complex_sum w .sub (Or.inr rfl) t .f64 b1 b2 c1 c2 b c (by
    have a1 : floatBits .sub .f64 b1 c1 = some b := e
    have a2 : floatBits .sub .f64 b2 c2 = some c := e'
    unfold cSumBits; rw [a1, a2]; rfl)⟩
/-- times -1i -/
theorem run_cturn (h1 : Rep b1 x) (h2 : Rep b2 y) (hx : x.natAbs ≤ 2 ^ 53) (hy : y.natAbs ≤ 2 ^ 53) : ∃ b c, Rep b y ∧ Rep c (-x) ∧ ∀ (t : TypeId) (w : World), (binOp .mul t (.complex .f64 b1 b2) (.complex .f64 0 13830554455654793216)).run P w = .ok (.complex .f64 b c) w := by
  obtain ⟨p1, e1, r1⟩ := Fl.mul_rep h1 rep_zero (by simp)
  obtain ⟨p2, e2, r2⟩ := Fl.mul_rep h2 rep_negOne (by omega)
  obtain ⟨p3, e3, r3⟩ := Fl.sub_rep r1 r2 (by omega)
  obtain ⟨p4, e4, r4⟩ := Fl.mul_rep h1 rep_negOne (by omega)
  obtain ⟨p5, e5, r5⟩ := Fl.mul_rep h2 rep_zero (by simp)
  obtain ⟨p6, e6, r6⟩ := Fl.add_rep r4 r5 (by omega)
  refine ⟨p3, p6, ?_, ?_, fun t w => run_complex_mul w t b1 b2 0 _ p3 p6 ?_⟩
  · rw [show x * 0 - y * -1 = y by omega] at r3; exact r3
  · rw [show x * -1 + y * 0 = -x by omega] at r6; exact r6
  · have a1 : floatBits .mul .f64 b1 0 = some p1 := e1
    have a2 : floatBits .mul .f64 b2 13830554455654793216 = some p2 := e2
    have a3 : floatBits .sub .f64 p1 p2 = some p3 := e3
    have a4 : floatBits .mul .f64 b1 13830554455654793216 = some p4 := e4
    have a5 : floatBits .mul .f64 b2 0 = some p5 := e5
    have a6 : floatBits .add .f64 p4 p5 = some p6 := e6
    unfold cMulBits
    rw [a1, a2]; simp only [Option.bind_some]
    rw [a3]; simp only [Option.bind_some]
    rw [a4, a5]; simp only [Option.bind_some]
    rw [a6]; rfl
theorem run_fint (h : Rep b1 x) (hx : -9223372036854775808 ≤ x ∧ x ≤ 9223372036854775807) (src dst : TypeId) (hs : (P.underlying src).isSome = true) (hd : P.underlying dst = some (.int .i64)) (w : World) : (convert src dst (.float .f64 b1)).run P w = .ok (.int .i64 x) w := by
  refine run_convert_float_int w src dst .f64 .i64 b1 x hs hd ?_
  have e : (FloatKind.f64.decode b1).toInt .zero = some x := Fl.toInt_rep h
  unfold floatToIntVal
  rw [e]
  simp only []
  rw [if_pos]
  exact hx
theorem run_fmin (h1 : Rep b1 x) (h2 : Rep b2 y) : ∃ b, Rep b (min x y) ∧ ∀ (ts : Array TypeId) (t : TypeId) (w : World), (Builtin.min_ ts t #[.float .f64 b1, .float .f64 b2]).run P w = .ok (.float .f64 b) w := by
  have e : FloatKind.f64.format.order b1 b2 = some (compare x y) := Fl.order_rep h1 h2
  rcases Int.lt_trichotomy x y with h | h | h
  · refine ⟨b1, by rw [Int.min_eq_left (Int.le_of_lt h)]; exact h1, fun ts t w => ?_⟩
    have c : compare x y = .lt := by simp [Int.compare_eq_ite_lt, h]
    simp [Builtin.min_, Builtin.min2, e, c]
  · subst h
    refine ⟨if (FloatKind.f64.decode b1).neg then b1 else b2, by rw [Int.min_self]; split <;> assumption, fun ts t w => ?_⟩
    simp [Builtin.min_, Builtin.min2, e]
  · refine ⟨b2, by rw [Int.min_eq_right (Int.le_of_lt h)]; exact h2, fun ts t w => ?_⟩
    have c : compare x y = .gt := by simp [Int.compare_eq_ite_lt, h, show ¬ x < y by omega]
    simp [Builtin.min_, Builtin.min2, e, c]
theorem run_fmax (h1 : Rep b1 x) (h2 : Rep b2 y) : ∃ b, Rep b (max x y) ∧ ∀ (ts : Array TypeId) (t : TypeId) (w : World), (Builtin.max_ ts t #[.float .f64 b1, .float .f64 b2]).run P w = .ok (.float .f64 b) w := by
  have e : FloatKind.f64.format.order b1 b2 = some (compare x y) := Fl.order_rep h1 h2
  rcases Int.lt_trichotomy x y with h | h | h
  · refine ⟨b2, by rw [Int.max_eq_right (Int.le_of_lt h)]; exact h2, fun ts t w => ?_⟩
    have c : compare x y = .lt := by simp [Int.compare_eq_ite_lt, h]
    simp [Builtin.max_, Builtin.max2, e, c]
  · subst h
    refine ⟨if (FloatKind.f64.decode b1).neg then b2 else b1, by rw [Int.max_self]; split <;> assumption, fun ts t w => ?_⟩
    simp [Builtin.max_, Builtin.max2, e]
  · refine ⟨b1, by rw [Int.max_eq_left (Int.le_of_lt h)]; exact h1, fun ts t w => ?_⟩
    have c : compare x y = .gt := by simp [Int.compare_eq_ite_lt, h, show ¬ x < y by omega]
    simp [Builtin.max_, Builtin.max2, e, c]
end
end Go.Proofs.Ytnibjjpohhknkaa
