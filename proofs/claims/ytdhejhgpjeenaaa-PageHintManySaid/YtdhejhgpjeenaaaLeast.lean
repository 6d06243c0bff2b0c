/-
  Plain: least and greatest of a row, and the width between.
-/
import Derived.Test.YtdhejhgpjeenaaaNumAt26
import Derived.Test.YtdhejhgpjeenaaaWid
namespace Go.Proofs.Ytdhejhgpjeenaaa
set_option linter.unusedVariables false

def bN (x n : Nat) : List Bool := bitsNum true x n
theorem bN_len (x n : Nat) : (bN x n).length = n := bitsNum_length _ _ _
/-- the least and the greatest of a row; 0 where there is none -/
def least (ls : List Nat) : Nat := match ls with | [] => 0 | x :: xs => xs.foldl min x
def most (ls : List Nat) : Nat := match ls with | [] => 0 | x :: xs => xs.foldl max x
def width (ls : List Nat) : Nat := wid (most ls - least ls)
theorem foldl_min_le (xs : List Nat) (x : Nat) : xs.foldl min x ≤ x ∧ ∀ y ∈ xs, xs.foldl min x ≤ y := by
  induction xs generalizing x with
  | nil => exact ⟨Nat.le_refl _, fun y hy => by cases hy⟩
  | cons z xs ih =>
    obtain ⟨h1, h2⟩ := ih (min x z)
    refine ⟨Nat.le_trans h1 (Nat.min_le_left _ _), fun y hy => ?_⟩
    rcases List.mem_cons.1 hy with rfl | hy
    · exact Nat.le_trans h1 (Nat.min_le_right _ _)
    · exact h2 y hy
theorem foldl_max_le (xs : List Nat) (x : Nat) : x ≤ xs.foldl max x ∧ ∀ y ∈ xs, y ≤ xs.foldl max x := by
  induction xs generalizing x with
  | nil => exact ⟨Nat.le_refl _, fun y hy => by cases hy⟩
  | cons z xs ih =>
    obtain ⟨h1, h2⟩ := ih (max x z)
    refine ⟨Nat.le_trans (Nat.le_max_left _ _) h1, fun y hy => ?_⟩
    rcases List.mem_cons.1 hy with rfl | hy
    · exact Nat.le_trans (Nat.le_max_right _ _) h1
    · exact h2 y hy
theorem least_le {ls : List Nat} {y : Nat} (h : y ∈ ls) : least ls ≤ y := by
  cases ls with
  | nil => cases h
  | cons x xs =>
    rcases List.mem_cons.1 h with rfl | h
    · exact (foldl_min_le xs _).1
    · exact (foldl_min_le xs x).2 y h
theorem le_most {ls : List Nat} {y : Nat} (h : y ∈ ls) : y ≤ most ls := by
  cases ls with
  | nil => cases h
  | cons x xs =>
    rcases List.mem_cons.1 h with rfl | h
    · exact (foldl_max_le xs _).1
    · exact (foldl_max_le xs x).2 y h
theorem foldl_max_lt (xs : List Nat) (x B : Nat) (hx : x < B) (h : ∀ y ∈ xs, y < B) : xs.foldl max x < B := by
  induction xs generalizing x with
  | nil => exact hx
  | cons z xs ih => exact ih _ (Nat.max_lt.2 ⟨hx, h z (by simp)⟩) (fun y hy => h y (by simp [hy]))
theorem most_lt {ls : List Nat} {B : Nat} (hB : 0 < B) (h : ∀ y ∈ ls, y < B) : most ls < B := by
  cases ls with
  | nil => exact hB
  | cons x xs => exact foldl_max_lt xs x B (h x (by simp)) (fun y hy => h y (by simp [hy]))
theorem foldl_min_cast (xs : List Nat) (x : Nat) : (xs.map (fun y : Nat => (y : Int))).foldl min (x : Int) = ((xs.foldl min x : Nat) : Int) := by
  induction xs generalizing x with
  | nil => rfl
  | cons z xs ih => rw [List.map_cons, List.foldl_cons, List.foldl_cons, ← ih]; congr 1; omega
theorem foldl_max_cast (xs : List Nat) (x : Nat) : (xs.map (fun y : Nat => (y : Int))).foldl max (x : Int) = ((xs.foldl max x : Nat) : Int) := by
  induction xs generalizing x with
  | nil => rfl
  | cons z xs ih => rw [List.map_cons, List.foldl_cons, List.foldl_cons, ← ih]; congr 1; omega
/-- what a length has above the least fits its width -/
theorem above_lt {ls : List Nat} {y : Nat} (h : y ∈ ls) : y - least ls < 2 ^ width ls := by
  have h1 := le_most h
  have h2 := least_le h
  exact Nat.lt_of_le_of_lt (by omega) (lt_wid (most ls - least ls))
theorem width_le {ls : List Nat} (h : ∀ y ∈ ls, y < 4294967296) : width ls ≤ 32 := by
  unfold width
  exact wid_le.2 (Nat.lt_of_le_of_lt (Nat.sub_le _ _) (most_lt (by decide) h))

theorem align_id {bs : List Bool} (h : bs.length % 8 = 0) : align bs = bs := by
  unfold align
  rw [show 8 * ((bs.length + 7) / 8) - bs.length = 0 from by omega]; simp
theorem align_mod (bs : List Bool) : (align bs).length % 8 = 0 := by rw [align_length]; omega
theorem align_split (bs : List Bool) : ∃ z, align bs = bs ++ z := ⟨_, rfl⟩
end Go.Proofs.Ytdhejhgpjeenaaa
