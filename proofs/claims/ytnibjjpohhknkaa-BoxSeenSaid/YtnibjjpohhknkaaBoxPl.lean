/-
  Plain: rectangles: what is in two of them, turns, points.
-/
import Derived.WalkKit
namespace Go.Proofs.Ytnibjjpohhknkaa
set_option linter.unusedVariables false
set_option linter.unusedSimpArgs false

structure Bx where
  x : Int
  y : Int
  w : Int
  h : Int
def most : Int := 2251799813685248
def near (n b : Int) : Bool := decide (-b ≤ n ∧ n ≤ b)
namespace Bx
def zero : Bx := ⟨0, 0, 0, 0⟩
def may (r : Bx) : Bool := near r.x most && near r.y most && decide (0 ≤ r.w ∧ r.w ≤ 2 * most) && decide (0 ≤ r.h ∧ r.h ≤ 2 * most)
theorem may_iff {r : Bx} : r.may = true ↔ (-most ≤ r.x ∧ r.x ≤ most) ∧ (-most ≤ r.y ∧ r.y ≤ most) ∧ (0 ≤ r.w ∧ r.w ≤ 2 * most) ∧ (0 ≤ r.h ∧ r.h ≤ 2 * most) := by
  simp [may, near, and_assoc]
def span (a b c d : Int) : Bx := ⟨min a c, min b d, max a c - min a c, max b d - min b d⟩
end Bx
/-- a number modulo 4 -/
def q4 (n : Int) : Nat := (n % 4).toNat
theorem q4_lt (n : Int) : q4 n < 4 := by unfold q4; omega
/-- a point turned by quarters -/
def rot : Nat → Int → Int → Int × Int
  | 0, x, y => (x, y)
  | k + 1, x, y => rot k y (-x)
def Bx.turn (r : Bx) (n : Int) : Bx := if r.may = true then Bx.span (rot (q4 n) r.x r.y).1 (rot (q4 n) r.x r.y).2 (rot (q4 n) (r.x + r.w) (r.y + r.h)).1 (rot (q4 n) (r.x + r.w) (r.y + r.h)).2 else .zero
def Bx.over (a b : Bx) : Bx := ⟨max a.x b.x, max a.y b.y, min (a.x + a.w) (b.x + b.w) - max a.x b.x, min (a.y + a.h) (b.y + b.h) - max a.y b.y⟩
def Bx.both (a b : Bx) : Bx := if a.may = true ∧ b.may = true then (if (a.over b).w ≤ 0 ∨ (a.over b).h ≤ 0 then .zero else a.over b) else .zero
def fitsB (r : Bx) (x y : Int) : Bool := r.may && near x most && near y most
def pointB (r : Bx) (q x y : Int) : Int × Int := if fitsB r x y = true then ((rot (q4 q) x y).1 - (r.turn q).x, (rot (q4 q) x y).2 - (r.turn q).y) else (0, 0)
def backB (r : Bx) (q x y : Int) : Int × Int := if fitsB r x y = true then rot (q4 (-q)) (x + (r.turn q).x) (y + (r.turn q).y) else (0, 0)
theorem Bx.eta (r : Bx) : (⟨r.x, r.y, r.w, r.h⟩ : Bx) = r := by cases r; rfl
theorem Bx.ext' {a b : Bx} (h1 : a.x = b.x) (h2 : a.y = b.y) (h3 : a.w = b.w) (h4 : a.h = b.h) : a = b := by
  cases a; cases b; simp_all
theorem over_comm (a b : Bx) : a.over b = b.over a := by
  apply Bx.ext' <;> simp only [Bx.over] <;> omega
theorem both_comm (a b : Bx) : a.both b = b.both a := by
  unfold Bx.both
  rw [over_comm a b]
  by_cases h : a.may = true ∧ b.may = true
  · rw [if_pos h, if_pos h.symm]
  · rw [if_neg h, if_neg (fun e => h e.symm)]
theorem both_self {a : Bx} (hm : a.may = true) (hw : 0 < a.w) (hh : 0 < a.h) : a.both a = a := by
  unfold Bx.both
  rw [if_pos ⟨hm, hm⟩]
  have e : a.over a = a := by apply Bx.ext' <;> simp only [Bx.over] <;> omega
  rw [e, if_neg (by omega)]
theorem both_none {a b : Bx} (h : (a.both b).w = 0) : a.both b = .zero := by
  unfold Bx.both at h ⊢
  split
  · split
    · rfl
    · next h1 h2 => rw [if_pos h1, if_neg h2] at h; omega
  · rfl
theorem both_in {a b : Bx} (h : (a.both b).w ≠ 0) : a.x ≤ (a.both b).x ∧ (a.both b).x + (a.both b).w ≤ a.x + a.w ∧ b.y ≤ (a.both b).y ∧ (a.both b).y + (a.both b).h ≤ b.y + b.h ∧ a.may = true ∧ b.may = true := by
  unfold Bx.both at h ⊢
  split
  · next h1 =>
    rw [if_pos h1] at h
    split
    · next h2 => rw [if_pos h2] at h; exact absurd rfl h
    · simp only [Bx.over]
      refine ⟨by omega, by omega, by omega, by omega, h1.1, h1.2⟩
  · next h1 => rw [if_neg h1] at h; exact absurd rfl h
theorem q4_cases (n : Int) : q4 n = 0 ∨ q4 n = 1 ∨ q4 n = 2 ∨ q4 n = 3 := by have := q4_lt n; omega
theorem rot1 (x y : Int) : rot 1 x y = (y, -x) := rfl
theorem rot2 (x y : Int) : rot 2 x y = (-x, -y) := rfl
theorem rot3 (x y : Int) : rot 3 x y = (-y, - -x) := rfl
theorem rot0 (x y : Int) : rot 0 x y = (x, y) := rfl
theorem turn_may {r : Bx} (hm : r.may = true) (n : Int) : r.turn n = Bx.span (rot (q4 n) r.x r.y).1 (rot (q4 n) r.x r.y).2 (rot (q4 n) (r.x + r.w) (r.y + r.h)).1 (rot (q4 n) (r.x + r.w) (r.y + r.h)).2 := by
  unfold Bx.turn
  rw [if_pos hm]
theorem turn_four {r : Bx} (hm : r.may = true) : r.turn 4 = r := by
  have h := Bx.may_iff.1 hm
  unfold Bx.turn
  rw [if_pos hm, show q4 4 = 0 from rfl]
  apply Bx.ext' <;> simp only [rot0, Bx.span] <;> omega
theorem turn_none {r : Bx} (hm : r.may = false) (n : Int) : r.turn n = .zero := by unfold Bx.turn; rw [if_neg (by rw [hm]; decide)]
theorem turn_even {r : Bx} (hm : r.may = true) {n : Int} (hn : n % 2 = 0) : (r.turn n).w = r.w ∧ (r.turn n).h = r.h := by
  have h := Bx.may_iff.1 hm
  unfold Bx.turn
  rw [if_pos hm]
  have hq : q4 n = 0 ∨ q4 n = 2 := by unfold q4; omega
  rcases hq with hq | hq <;> rw [hq] <;> simp only [rot0, rot2, Bx.span] <;> omega
theorem turn_odd {r : Bx} (hm : r.may = true) {n : Int} (hn : n % 2 = 1) : (r.turn n).w = r.h ∧ (r.turn n).h = r.w := by
  have h := Bx.may_iff.1 hm
  unfold Bx.turn
  rw [if_pos hm]
  have hq : q4 n = 1 ∨ q4 n = 3 := by unfold q4; omega
  rcases hq with hq | hq <;> rw [hq] <;> simp only [rot1, rot3, Bx.span] <;> omega
theorem turn_back {r : Bx} (hm : r.may = true) {n : Int} (hm2 : (r.turn n).may = true) : (r.turn n).turn (-n) = r := by
  have h := Bx.may_iff.1 hm
  rw [turn_may hm2, turn_may hm]
  have hq : (q4 n = 0 ∧ q4 (-n) = 0) ∨ (q4 n = 1 ∧ q4 (-n) = 3) ∨ (q4 n = 2 ∧ q4 (-n) = 2) ∨ (q4 n = 3 ∧ q4 (-n) = 1) := by unfold q4; omega
  rcases hq with ⟨h1, h2⟩ | ⟨h1, h2⟩ | ⟨h1, h2⟩ | ⟨h1, h2⟩ <;> rw [h1, h2] <;> apply Bx.ext' <;> simp only [rot0, rot1, rot2, rot3, Bx.span] <;> omega
theorem turn_near {r : Bx} (hm : r.may = true) (n : Int) : -(3 * most) ≤ (r.turn n).x ∧ (r.turn n).x ≤ 3 * most ∧ -(3 * most) ≤ (r.turn n).y ∧ (r.turn n).y ≤ 3 * most ∧ 0 ≤ (r.turn n).w ∧ (r.turn n).w ≤ 2 * most ∧ 0 ≤ (r.turn n).h ∧ (r.turn n).h ≤ 2 * most := by
  have h := Bx.may_iff.1 hm
  unfold Bx.turn
  rw [if_pos hm]
  rcases q4_cases n with hq | hq | hq | hq <;> rw [hq] <;> simp only [rot0, rot1, rot2, rot3, Bx.span] <;> omega
/-- a point of the box: where it is seen -/
theorem point_in {r : Bx} {q a b : Int} (hf : fitsB r a b = true) (ha : r.x ≤ a ∧ a ≤ r.x + r.w) (hb : r.y ≤ b ∧ b ≤ r.y + r.h) :
    0 ≤ (pointB r q a b).1 ∧ (pointB r q a b).1 ≤ (r.turn q).w ∧ 0 ≤ (pointB r q a b).2 ∧ (pointB r q a b).2 ≤ (r.turn q).h := by
  unfold pointB
  rw [if_pos hf]
  have hm : r.may = true := by simp only [fitsB, Bool.and_eq_true] at hf; exact hf.1.1
  have h := Bx.may_iff.1 hm
  unfold Bx.turn
  rw [if_pos hm]
  rcases q4_cases q with hq | hq | hq | hq <;> rw [hq] <;> simp only [rot0, rot1, rot2, rot3, Bx.span] <;> omega
theorem back_point {r : Bx} {q a b : Int} (hf : fitsB r a b = true) (hf2 : fitsB r (pointB r q a b).1 (pointB r q a b).2 = true) : backB r q (pointB r q a b).1 (pointB r q a b).2 = (a, b) := by
  unfold backB
  rw [if_pos hf2]
  unfold pointB
  rw [if_pos hf]
  simp only []
  obtain ⟨u, hu⟩ : ∃ u, u = (r.turn q).x := ⟨_, rfl⟩
  obtain ⟨v, hv⟩ : ∃ v, v = (r.turn q).y := ⟨_, rfl⟩
  rw [← hu, ← hv]
  have hq : (q4 q = 0 ∧ q4 (-q) = 0) ∨ (q4 q = 1 ∧ q4 (-q) = 3) ∨ (q4 q = 2 ∧ q4 (-q) = 2) ∨ (q4 q = 3 ∧ q4 (-q) = 1) := by unfold q4; omega
  rcases hq with ⟨h1, h2⟩ | ⟨h1, h2⟩ | ⟨h1, h2⟩ | ⟨h1, h2⟩ <;> rw [h1, h2] <;> simp only [rot0, rot1, rot2, rot3] <;> congr 1 <;> omega
end Go.Proofs.Ytnibjjpohhknkaa
