/-
  Plain: sizes of what is put, dropped, got.
-/
import Derived.Test.YtiakphjkcpbccaaOrder
import Derived.Test.YtiakphjkcpbccaaPutR
import Derived.Test.YtiakphjkcpbccaaDropR
import Derived.Test.YtiakphjkcpbccaaDropP
namespace Go.Proofs.Ytiakphjkcpbccaa
open Go.RowKit
set_option linter.unusedVariables false

theorem l_mk (k n : Int) (s : ByteArray) (l : List V) : (V.mk k n s l).l = l := rfl
theorem sizeL_take (l : List V) (k : Nat) : sizeL (l.take k) + sizeL (l.drop k) = sizeL l := by
  rw [← sizeL_append, List.take_append_drop]
theorem sizeL_get {l : List V} {k : Nat} {u : V} (h : l[k]? = some u) : u.size ≤ sizeL l := size_mem (List.mem_of_getElem? h)
theorem sizeL_one (u : V) : sizeL [u] = u.size := by simp [sizeL]
theorem size_name (key : ByteArray) : (nameV key).size = 1 := by rw [size_eq]; rfl
theorem length_size (v : V) : v.l.length < v.size := by
  have h1 := size_eq v
  have h2 : ∀ l : List V, l.length ≤ sizeL l := fun l => by
    induction l with
    | nil => simp
    | cons u l ih => rw [sizeL, List.length_cons]; have := size_eq u; omega
  have := h2 v.l
  omega
theorem size_put (v : V) (key : ByteArray) (x : V) : (v.put key x).size ≤ v.size + x.size + 1 := by
  rw [put_eq]
  split
  · rw [size_eq, size_eq v]
    unfold V.putAt
    split
    · next i _ =>
      simp only [l_mk, sizeL_append, sizeL_one]
      have h1 := sizeL_take v.l (i + 1)
      have h2 := sizeL_take v.l (min (i + 2) v.l.length)
      have h3 : sizeL (v.l.drop (min (i + 2) v.l.length)) ≤ sizeL (v.l.drop (i + 1)) := by
        by_cases h : i + 2 ≤ v.l.length
        · rw [Nat.min_eq_left h]
          have := sizeL_take (v.l.drop (i + 1)) 1
          rw [List.drop_drop, show i + 1 + 1 = i + 2 from rfl] at this
          omega
        · rw [Nat.min_eq_right (by omega), List.drop_eq_nil_of_le (Nat.le_refl _)]
          simp [sizeL]
      omega
    · simp only [l_mk, sizeL_append]
      have h1 := sizeL_take v.l (placeOf v.l key)
      have h2 : sizeL [nameV key, x] = 1 + x.size := by simp [sizeL, size_name]
      omega
  · omega
theorem size_drop (v : V) (key : ByteArray) : (v.dropped key).size ≤ v.size := by
  unfold V.dropped
  split
  · next i hi =>
    rw [size_eq, size_eq v]
    simp only [l_mk, sizeL_append]
    have h1 := sizeL_take v.l i
    have h3 : sizeL (v.l.drop (min (i + 2) v.l.length)) ≤ sizeL (v.l.drop i) := by
      by_cases h : i + 2 ≤ v.l.length
      · rw [Nat.min_eq_left h]
        have := sizeL_take (v.l.drop i) 2
        rw [List.drop_drop] at this
        omega
      · rw [Nat.min_eq_right (by omega), List.drop_eq_nil_of_le (Nat.le_refl _)]
        simp [sizeL]
    omega
  · exact Nat.le_refl _
theorem size_got (v : V) (key : ByteArray) : (v.get key).1.size ≤ v.size + 1 := by
  unfold V.get
  split
  · next i hi =>
    cases hg : v.l[i + 1]? with
    | none =>
      have : nullV.size = 1 := by (rw [size_eq]; rfl)
      show nullV.size ≤ v.size + 1
      omega
    | some u =>
      show u.size ≤ v.size + 1
      have := sizeL_get hg
      have := size_eq v
      omega
  · have : nullV.size = 1 := by (rw [size_eq]; rfl)
    show nullV.size ≤ v.size + 1
    omega
end Go.Proofs.Ytiakphjkcpbccaa
