/-
  Plain: the bits of a table.
-/
import Derived.Test.YtjnpjkenmkgooaaCheck
import Derived.Test.YtjnpjkenmkgooaaWid
namespace Go.Proofs.Ytjnpjkenmkgooaa
set_option linter.unusedVariables false

def bN (x n : Nat) : List Bool := bitsNum true x n
theorem bN_len (x n : Nat) : (bN x n).length = n := bitsNum_length _ _ _
/-- the least and the greatest of a row; 0 where there is none -/
def least (ls : List Nat) : Nat := match ls with | [] => 0 | x :: xs => xs.foldl min x
def most (ls : List Nat) : Nat := match ls with | [] => 0 | x :: xs => xs.foldl max x
def width (ls : List Nat) : Nat := wid (most ls - least ls)
theorem foldl_min_le (xs : List Nat) (x : Nat) : xs.foldl min x ≤ x ∧ ∀ y ∈ xs, xs.foldl min x ≤ y := by
  induction xs generalizing x with
  | nil => exact ⟨Nat.le_refl _, fun y hy => by cases hy⟩
  | cons z xs ih =>
    obtain ⟨h1, h2⟩ := ih (min x z)
    refine ⟨Nat.le_trans h1 (Nat.min_le_left _ _), fun y hy => ?_⟩
    rcases List.mem_cons.1 hy with rfl | hy
    · exact Nat.le_trans h1 (Nat.min_le_right _ _)
    · exact h2 y hy
theorem foldl_max_le (xs : List Nat) (x : Nat) : x ≤ xs.foldl max x ∧ ∀ y ∈ xs, y ≤ xs.foldl max x := by
  induction xs generalizing x with
  | nil => exact ⟨Nat.le_refl _, fun y hy => by cases hy⟩
  | cons z xs ih =>
    obtain ⟨h1, h2⟩ := ih (max x z)
    refine ⟨Nat.le_trans (Nat.le_max_left _ _) h1, fun y hy => ?_⟩
    rcases List.mem_cons.1 hy with rfl | hy
    · exact Nat.le_trans (Nat.le_max_right _ _) h1
    · exact h2 y hy
theorem least_le {ls : List Nat} {y : Nat} (h : y ∈ ls) : least ls ≤ y := by
  cases ls with
  | nil => cases h
  | cons x xs =>
    rcases List.mem_cons.1 h with rfl | h
    · exact (foldl_min_le xs _).1
    · exact (foldl_min_le xs x).2 y h
theorem le_most {ls : List Nat} {y : Nat} (h : y ∈ ls) : y ≤ most ls := by
  cases ls with
  | nil => cases h
  | cons x xs =>
    rcases List.mem_cons.1 h with rfl | h
    · exact (foldl_max_le xs _).1
    · exact (foldl_max_le xs x).2 y h
theorem foldl_max_lt (xs : List Nat) (x B : Nat) (hx : x < B) (h : ∀ y ∈ xs, y < B) : xs.foldl max x < B := by
  induction xs generalizing x with
  | nil => exact hx
  | cons z xs ih => exact ih _ (Nat.max_lt.2 ⟨hx, h z (by simp)⟩) (fun y hy => h y (by simp [hy]))
theorem most_lt {ls : List Nat} {B : Nat} (hB : 0 < B) (h : ∀ y ∈ ls, y < B) : most ls < B := by
  cases ls with
  | nil => exact hB
  | cons x xs => exact foldl_max_lt xs x B (h x (by simp)) (fun y hy => h y (by simp [hy]))
theorem foldl_min_cast (xs : List Nat) (x : Nat) : (xs.map (fun y : Nat => (y : Int))).foldl min (x : Int) = ((xs.foldl min x : Nat) : Int) := by
  induction xs generalizing x with
  | nil => rfl
  | cons z xs ih => rw [List.map_cons, List.foldl_cons, List.foldl_cons, ← ih]; congr 1; omega
theorem foldl_max_cast (xs : List Nat) (x : Nat) : (xs.map (fun y : Nat => (y : Int))).foldl max (x : Int) = ((xs.foldl max x : Nat) : Int) := by
  induction xs generalizing x with
  | nil => rfl
  | cons z xs ih => rw [List.map_cons, List.foldl_cons, List.foldl_cons, ← ih]; congr 1; omega
/-- what a length has above the least fits its width -/
theorem above_lt {ls : List Nat} {y : Nat} (h : y ∈ ls) : y - least ls < 2 ^ width ls := by
  have h1 := le_most h
  have h2 := least_le h
  exact Nat.lt_of_le_of_lt (by omega) (lt_wid (most ls - least ls))
theorem width_le {ls : List Nat} (h : ∀ y ∈ ls, y < 4294967296) : width ls ≤ 32 := by
  unfold width
  exact wid_le.2 (Nat.lt_of_le_of_lt (Nat.sub_le _ _) (most_lt (by decide) h))

/-- the bits ahead of the lengths -/
def headB (o a f n groups l w : Nat) : List Bool := bN o 32 ++ bN a 32 ++ bN f 32 ++ bN n 32 ++ bN groups 16 ++ bN l 32 ++ bN w 16
theorem headB_len (o a f n groups l w : Nat) : (headB o a f n groups l w).length = 192 := by simp [headB, bN_len]
/-- the lengths' bits -/
def lensB (ls : List Nat) (l w : Nat) : List Bool := ls.flatMap (fun x => bN (x - l) w)
theorem lensB_len (ls : List Nat) (l w : Nat) : (lensB ls l w).length = ls.length * w := by
  induction ls with
  | nil => simp [lensB]
  | cons x ls ih => rw [show lensB (x :: ls) l w = bN (x - l) w ++ lensB ls l w from rfl, List.length_append, ih, bN_len, List.length_cons, Nat.add_mul]; omega
theorem lensB_snoc (ls : List Nat) (x l w : Nat) : lensB (ls ++ [x]) l w = lensB ls l w ++ bN (x - l) w := by simp [lensB]
def signB (n : Nat) (signed : List Bool) : List Bool := (List.range n).map (fun k => signed.getD k false)
theorem signB_len (n : Nat) (signed : List Bool) : (signB n signed).length = n := by simp [signB]
theorem signB_succ (n : Nat) (signed : List Bool) : signB (n + 1) signed = signB n signed ++ [signed.getD n false] := by simp [signB, List.range_succ]
theorem signB_nil (n : Nat) : signB n [] = List.replicate n false := by
  apply List.ext_getElem (by simp [signB_len])
  intro i h1 h2
  simp [signB]
def manyB (n : Nat) (signed : List Bool) : Nat := (signB n signed).count true
theorem manyB_le (n : Nat) (signed : List Bool) : manyB n signed ≤ n := by
  have := List.count_le_length (a := true) (l := signB n signed)
  rw [signB_len] at this; exact this
theorem manyB_nil (n : Nat) : manyB n [] = 0 := by
  unfold manyB; rw [signB_nil]
  exact List.count_eq_zero.2 (fun h => by simpa using (List.mem_replicate.1 h).2)
theorem manyB_succ (n : Nat) (signed : List Bool) : manyB (n + 1) signed = manyB n signed + (if signed.getD n false then 1 else 0) := by
  unfold manyB; rw [signB_succ, List.count_append]; cases signed.getD n false <;> simp
/-- all bits: a table's head and lengths; with signatures' marks; with signatures and groups -/
def part1 (o a f : Nat) (ls : List Nat) (groups : Nat) : List Bool := align (headB o a f ls.length groups (least ls) (width ls) ++ lensB ls (least ls) (width ls))
def part2 (o a f : Nat) (ls : List Nat) (groups : Nat) (signed : List Bool) : List Bool := align (part1 o a f ls groups ++ signB ls.length signed)
def tabB (o a f : Nat) (ls : List Nat) (groups : Nat) (signed : List Bool) : List Bool :=
  align (part2 o a f ls groups signed ++ List.replicate (128 * manyB ls.length signed) true ++ List.replicate (ls.length * groups) true)
theorem align_id {bs : List Bool} (h : bs.length % 8 = 0) : align bs = bs := by
  unfold align
  rw [show 8 * ((bs.length + 7) / 8) - bs.length = 0 from by omega]; simp
theorem align_mod (bs : List Bool) : (align bs).length % 8 = 0 := by rw [align_length]; omega
/-- a table without signatures and groups -/
theorem tabB_plain (o a f : Nat) (ls : List Nat) : tabB o a f ls 0 [] = part2 o a f ls 0 [] := by
  unfold tabB
  rw [manyB_nil, Nat.mul_zero, Nat.mul_zero, List.replicate_zero, List.append_nil, List.append_nil]
  exact align_id (align_mod _)
end Go.Proofs.Ytjnpjkenmkgooaa
