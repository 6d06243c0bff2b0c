/-
  Plain mathematics of Adler's sum: the document's step, byte by byte; the program's step, which cuts numbers off only at the end of a block.
-/
import Derived.RowKit
namespace Go.Proofs.Ytclnicnieapojaa

/-- the document's step -/
def st (p : Int × Int) (x : UInt8) : Int × Int := ((p.1 + x.toNat) % 65521, (p.2 + (p.1 + x.toNat) % 65521) % 65521)
def runFrom (p : Int × Int) (l : List UInt8) : Int × Int := l.foldl st p
def run (l : List UInt8) : Int × Int := runFrom (1, 0) l
def InR (p : Int × Int) : Prop := 0 ≤ p.1 ∧ p.1 < 65521 ∧ 0 ≤ p.2 ∧ p.2 < 65521
def adler (l : List UInt8) : Int := 65536 * (run l).2 + (run l).1
/-- the sum of halves -/
def sumOf (p : Int × Int) : Int := 65536 * p.2 + p.1

theorem runFrom_append (p : Int × Int) (l m : List UInt8) : runFrom p (l ++ m) = runFrom (runFrom p l) m := by simp [runFrom]
theorem run_append (l m : List UInt8) : run (l ++ m) = runFrom (run l) m := runFrom_append _ _ _
theorem runFrom_snoc (p : Int × Int) (l : List UInt8) (x : UInt8) : runFrom p (l ++ [x]) = st (runFrom p l) x := by simp [runFrom]
theorem runFrom_in (p : Int × Int) (h : InR p) (l : List UInt8) : InR (runFrom p l) := by
  induction l generalizing p with
  | nil => exact h
  | cons x l ih => exact ih _ (by unfold InR at *; simp only [st]; omega)
theorem run_in (l : List UInt8) : InR (run l) := runFrom_in _ (by unfold InR; decide) l

/-- the program's step inside a block: nothing is cut off -/
def st0 (p : Int × Int) (x : UInt8) : Int × Int := (p.1 + x.toNat, p.2 + (p.1 + x.toNat))
def run0 (p : Int × Int) (l : List UInt8) : Int × Int := l.foldl st0 p
theorem run0_snoc (p : Int × Int) (l : List UInt8) (x : UInt8) : run0 p (l ++ [x]) = st0 (run0 p l) x := by simp [run0]
/-- a is cut off, or 65521 -/
def InB (p : Int × Int) : Prop := 0 ≤ p.1 ∧ p.1 ≤ 65521 ∧ 0 ≤ p.2 ∧ p.2 < 65521
theorem run0_bd (p : Int × Int) (h : InB p) (l : List UInt8) (hl : l.length ≤ 5552) :
    0 ≤ (run0 p l).1 ∧ (run0 p l).1 ≤ 1500000 ∧ 0 ≤ (run0 p l).2 ∧ (run0 p l).2 ≤ 4294967295 := by
  have key : ∀ k, k ≤ l.length → 0 ≤ (run0 p (l.take k)).1 ∧ (run0 p (l.take k)).1 ≤ 65521 + 255 * k ∧ 0 ≤ (run0 p (l.take k)).2 ∧ 2 * (run0 p (l.take k)).2 ≤ 131040 + 131042 * k + 255 * ((k * k : Nat) + k) := by
    intro k
    induction k with
    | zero => intro _; unfold InB at h; simp [run0]; omega
    | succ k ih =>
      intro hk
      have := ih (by omega)
      rw [List.take_add_one, List.getElem?_eq_getElem (show k < l.length by omega), Option.toList, run0_snoc]
      have hx := (l[k]'(by omega)).toNat_lt
      have hsq : (k + 1) * (k + 1) = k * k + 2 * k + 1 := by simp [Nat.add_mul, Nat.mul_add]; omega
      rw [hsq]
      simp only [st0]
      generalize k * k = q at *
      omega
  have h1 := key l.length (Nat.le_refl _)
  rw [List.take_of_length_le (Nat.le_refl _)] at h1
  have h2 : l.length * l.length ≤ 5552 * 5552 := Nat.mul_le_mul hl hl
  generalize l.length * l.length = q at *
  omega
theorem run0_mod (p : Int × Int) (l : List UInt8) : ((run0 p l).1 % 65521, (run0 p l).2 % 65521) = runFrom (p.1 % 65521, p.2 % 65521) l := by
  induction l generalizing p with
  | nil => rfl
  | cons x l ih =>
    show ((run0 (st0 p x) l).1 % 65521, (run0 (st0 p x) l).2 % 65521) = runFrom (st (p.1 % 65521, p.2 % 65521) x) l
    rw [ih]
    congr 1
    simp only [st0, st, Prod.mk.injEq]
    omega
theorem run0_cut (p q : Int × Int) (h : (p.1 % 65521, p.2) = q) (hp : InB p) (l : List UInt8) : ((run0 p l).1 % 65521, (run0 p l).2 % 65521) = runFrom q l := by
  rw [run0_mod]; unfold InB at hp; congr 1; rw [← h]; ext <;> simp; omega
end Go.Proofs.Ytclnicnieapojaa
