/-
  Plain: the parts by rows of numbers.
-/
import Derived.Test.YtnpiemcfbnpfdaaRowPut
namespace Go.Proofs.Ytnpiemcfbnpfdaa
open Go.RowKit
set_option linter.unusedVariables false
set_option linter.unusedSimpArgs false

/-- in how many rows a number is -/
def manyP (rows : List (List Int)) (x : Int) : Nat := (rows.filter fun r => decide (x ∈ r)).length
def ownP (rows : List (List Int)) (r : List Int) : List Int := (onP [] r).filter fun x => decide (manyP rows x = 1)
def condS (rows : List (List Int)) (x : Int) : Bool := decide (1 < manyP rows x ∧ x ∉ rows.headD [])
/-- the shared ones of the rows ahead of p -/
def shP (rows : List (List Int)) (p : Nat) : List Int := onP [] (((rows.take p).drop 1).flatten.filter (condS rows))
/-- the own ones of the rows ahead of p -/
def ownsP (rows : List (List Int)) (p : Nat) : List (List Int) := ((rows.take p).drop 1).map (ownP rows)
/-- those beside, up to k -/
def othP (rows : List (List Int)) (tree : List Int) (k : Nat) : List Int := ((List.range k).map fun i : Nat => (i : Int) + 1).filter fun x => decide (manyP rows x = 0 ∧ x ∉ tree)
def lastP (n : Int) : Nat := (min n 4096).toNat
structure PartsP where
  tree : List Int
  first : List Int
  own : List (List Int)
  shared : List Int
  others : List Int
def partsP (n : Int) (nodes : List Int) (root : Int) (rows : List (List Int)) : PartsP :=
  ⟨root :: nodes, rows.headD [], ownsP rows rows.length, shP rows rows.length, othP rows (root :: nodes) (lastP n)⟩

theorem onP_two (xs ys zs : List Int) : onP xs (ys ++ zs) = onP (onP xs ys) zs := by
  unfold onP; rw [List.foldl_append]
theorem onP_filter (xs : List Int) (c : Int → Bool) : ∀ ys : List Int, onP xs ((onP [] ys).filter c) = onP xs (ys.filter c) := by
  intro ys
  induction ys using snocInd with
  | nil => rfl
  | app ys y ih =>
    rw [onP_snoc, List.filter_append]
    by_cases hy : y ∈ onP [] ys
    · rw [if_pos hy, ih]
      by_cases hc : c y = true
      · have h2 : y ∈ ys := (onP_mem.1 hy).resolve_left (by simp)
        have h3 : [y].filter c = [y] := by simp [hc]
        rw [h3, onP_snoc, if_pos (onP_mem.2 (Or.inr (List.mem_filter.2 ⟨h2, hc⟩)))]
      · have h3 : [y].filter c = [] := by simp [hc]
        rw [h3, List.append_nil]
    · rw [if_neg hy, List.filter_append, onP_two, onP_two, ih]
theorem take_flat {α : Type} (rows : List (List α)) (p : Nat) (hp : p < rows.length) : (rows.take (p + 1)) = rows.take p ++ [rows[p]] := List.take_succ_eq_append_getElem hp
theorem drop_take_succ (rows : List (List Int)) (p : Nat) (h0 : 0 < p) (hp : p < rows.length) : (rows.take (p + 1)).drop 1 = (rows.take p).drop 1 ++ [rows[p]] := by
  rw [take_flat rows p hp, List.drop_append_of_le_length (by rw [List.length_take]; omega)]
/-- behind one more row, as the document goes -/
theorem shP_row (rows : List (List Int)) (p : Nat) (h0 : 0 < p) (hp : p < rows.length) : shP rows (p + 1) = onP (shP rows p) ((onP [] rows[p]).filter (condS rows)) := by
  rw [onP_filter]
  unfold shP
  rw [drop_take_succ rows p h0 hp, List.flatten_append, List.filter_append, onP_two]
  simp
theorem ownsP_row (rows : List (List Int)) (p : Nat) (h0 : 0 < p) (hp : p < rows.length) : ownsP rows (p + 1) = ownsP rows p ++ [ownP rows rows[p]] := by
  unfold ownsP
  rw [drop_take_succ rows p h0 hp, List.map_append]
  rfl
theorem shP_one (rows : List (List Int)) : shP rows 1 = [] := by
  unfold shP
  cases rows <;> simp [onP]
theorem ownsP_one (rows : List (List Int)) : ownsP rows 1 = [] := by
  unfold ownsP
  cases rows <;> simp
theorem ownsP_len (rows : List (List Int)) (p : Nat) (hp : p ≤ rows.length) : (ownsP rows p).length = p - 1 := by
  unfold ownsP
  rw [List.length_map, List.length_drop, List.length_take]
  omega
/-- those taken, as the program goes: the numbers of rows ahead, and those ahead in the row -/
def takenP (rows : List (List Int)) (p j : Nat) (x : Int) : Prop := x ∈ (rows.take p).flatten ∨ x ∈ (rows.getD p []).take j
/-- the shared ones, as the program goes -/
def shJ (rows : List (List Int)) (p j : Nat) : List Int := onP (shP rows p) (((rows.getD p []).take j).filter (condS rows))
def ownJ (rows : List (List Int)) (p j : Nat) : List Int := (onP [] ((rows.getD p []).take j)).filter fun x => decide (manyP rows x = 1)
theorem getD_at (rows : List (List Int)) (p : Nat) (hp : p < rows.length) : rows.getD p [] = rows[p] := by rw [List.getD_eq_getElem?_getD, List.getElem?_eq_getElem hp]; rfl
theorem many_pos (rows : List (List Int)) (p : Nat) (hp : p < rows.length) {x : Int} (hx : x ∈ rows[p]) : 1 ≤ manyP rows x := by
  unfold manyP
  exact List.length_pos_of_mem (List.mem_filter.2 ⟨List.getElem_mem hp, decide_eq_true hx⟩)
theorem two_in {α : Type} (c : α → Bool) : ∀ (l : List α) (i j : Nat) (hi : i < l.length) (hj : j < l.length), i < j → c l[i] = true → c l[j] = true → 2 ≤ (l.filter c).length := by
  intro l
  induction l with
  | nil => intro i j hi; simp at hi
  | cons a l ih =>
    intro i j hi hj hij h1 h2
    rw [List.filter_cons]
    cases j with
    | zero => omega
    | succ j =>
      simp only [List.getElem_cons_succ] at h2
      cases i with
      | zero =>
        simp only [List.getElem_cons_zero] at h1
        rw [if_pos h1, List.length_cons]
        have := List.length_pos_of_mem (List.mem_filter.2 ⟨List.getElem_mem (by simpa using hj : j < l.length), h2⟩)
        omega
      | succ i =>
        simp only [List.getElem_cons_succ] at h1
        have := ih i j (by simpa using hi) (by simpa using hj) (by omega) h1 h2
        split
        · rw [List.length_cons]; omega
        · exact this
theorem many_two (rows : List (List Int)) (i p : Nat) (hi : i < p) (hp : p < rows.length) {x : Int} (h1 : x ∈ rows[i]) (h2 : x ∈ rows[p]) : 2 ≤ manyP rows x :=
  two_in _ rows i p (by omega) hp hi (decide_eq_true h1) (decide_eq_true h2)
theorem mem_ahead {rows : List (List Int)} {p : Nat} {x : Int} (h : x ∈ (rows.take p).flatten) : ∃ (i : Nat) (hi : i < rows.length), i < p ∧ x ∈ rows[i] := by
  obtain ⟨r, hr, hx⟩ := List.mem_flatten.1 h
  obtain ⟨i, hi, rfl⟩ := List.mem_iff_getElem.1 hr
  rw [List.length_take] at hi
  refine ⟨i, by omega, by omega, ?_⟩
  rw [List.getElem_take] at hx
  exact hx
theorem head_at (rows : List (List Int)) (h : 0 < rows.length) : rows.headD [] = rows[0] := by cases rows with
  | nil => simp at h
  | cons r rows => rfl
theorem takenP_iff (rows : List (List Int)) (p j : Nat) (hp : p < rows.length) (x : Int) : takenP rows p j x ↔ x ∈ (rows.take p).flatten ∨ x ∈ rows[p].take j := by unfold takenP; rw [getD_at rows p hp]
/-- what the program does with one more number of a row behind the first -/
theorem shJ_step (rows : List (List Int)) (p j : Nat) (h0 : 0 < p) (hp : p < rows.length) (hj : j < rows[p].length) {x : Int} (hx : rows[p][j] = x) :
    (takenP rows p j x → shJ rows p (j + 1) = shJ rows p j) ∧ (¬ takenP rows p j x → 1 < manyP rows x → shJ rows p (j + 1) = shJ rows p j ++ [x]) ∧ (¬ takenP rows p j x → ¬ 1 < manyP rows x → shJ rows p (j + 1) = shJ rows p j) := by
  rw [takenP_iff rows p j hp]
  unfold shJ
  rw [getD_at rows p hp, List.take_succ_eq_append_getElem hj, List.filter_append, onP_two, hx]
  have hxm : x ∈ rows[p] := hx ▸ List.getElem_mem hj
  by_cases hc : condS rows x = true
  · have h1 : [x].filter (condS rows) = [x] := by simp [hc]
    rw [h1]
    have hc' := of_decide_eq_true hc
    have e : ∀ zs, onP zs [x] = if x ∈ zs then zs else zs ++ [x] := fun zs => rfl
    rw [e]
    have hiff : x ∈ onP (shP rows p) ((rows[p].take j).filter (condS rows)) ↔ (x ∈ (rows.take p).flatten ∨ x ∈ rows[p].take j) := by
      rw [onP_mem]
      constructor
      · rintro (h | h)
        · have h2 := (onP_mem.1 h).resolve_left (by simp)
          obtain ⟨r, hr, hxr⟩ := List.mem_flatten.1 (List.mem_filter.1 h2).1
          exact Or.inl (List.mem_flatten.2 ⟨r, List.mem_of_mem_drop hr, hxr⟩)
        · exact Or.inr (List.mem_filter.1 h).1
      · rintro (h | h)
        · left
          obtain ⟨i, hi, hip, hxi⟩ := mem_ahead h
          have hi0 : i ≠ 0 := by
            rintro rfl
            exact hc'.2 (by rw [head_at rows (by omega)]; exact hxi)
          refine onP_mem.2 (Or.inr (List.mem_filter.2 ⟨List.mem_flatten.2 ⟨rows[i], ?_, hxi⟩, hc⟩))
          rw [List.mem_iff_getElem]
          refine ⟨i - 1, by rw [List.length_drop, List.length_take]; omega, ?_⟩
          rw [List.getElem_drop, List.getElem_take]
          congr 1
          omega
        · exact Or.inr (List.mem_filter.2 ⟨h, hc⟩)
    refine ⟨fun ht => if_pos (hiff.2 ht), fun ht _ => if_neg (fun h => ht (hiff.1 h)), fun ht hn => absurd hc'.1 hn⟩
  · have h1 : [x].filter (condS rows) = [] := by simp [hc]
    rw [h1]
    have e : ∀ zs, onP zs [] = zs := fun zs => rfl
    rw [e]
    refine ⟨fun _ => rfl, fun ht hm => ?_, fun _ _ => rfl⟩
    exfalso
    refine hc (decide_eq_true ⟨hm, fun hh => ht (Or.inl ?_)⟩)
    rw [head_at rows (by omega)] at hh
    refine List.mem_flatten.2 ⟨rows[0], ?_, hh⟩
    rw [List.mem_iff_getElem]
    exact ⟨0, by rw [List.length_take]; omega, by rw [List.getElem_take]⟩
theorem ownJ_step (rows : List (List Int)) (p j : Nat) (hp : p < rows.length) (hj : j < rows[p].length) {x : Int} (hx : rows[p][j] = x) :
    (takenP rows p j x → ownJ rows p (j + 1) = ownJ rows p j) ∧ (¬ takenP rows p j x → 1 < manyP rows x → ownJ rows p (j + 1) = ownJ rows p j) ∧ (¬ takenP rows p j x → ¬ 1 < manyP rows x → ownJ rows p (j + 1) = ownJ rows p j ++ [x]) := by
  rw [takenP_iff rows p j hp]
  unfold ownJ
  rw [getD_at rows p hp, List.take_succ_eq_append_getElem hj, hx, onP_snoc]
  have hxm : x ∈ rows[p] := hx ▸ List.getElem_mem hj
  have hiff : x ∈ onP [] (rows[p].take j) ↔ x ∈ rows[p].take j := by rw [onP_mem]; simp
  by_cases hin : x ∈ rows[p].take j
  · rw [if_pos (hiff.2 hin)]
    exact ⟨fun _ => rfl, fun ht => absurd (Or.inr hin) ht, fun ht => absurd (Or.inr hin) ht⟩
  · rw [if_neg (fun h => hin (hiff.1 h)), List.filter_append]
    have hmp := many_pos rows p hp hxm
    by_cases h1 : manyP rows x = 1
    · have e : [x].filter (fun x => decide (manyP rows x = 1)) = [x] := by simp [h1]
      rw [e]
      refine ⟨fun ht => ?_, fun _ h2 => by omega, fun _ _ => rfl⟩
      rcases ht with h | h
      · obtain ⟨i, hi, hip, hxi⟩ := mem_ahead h
        have := many_two rows i p hip hp hxi hxm
        omega
      · exact absurd h hin
    · have e : [x].filter (fun x => decide (manyP rows x = 1)) = [] := by simp [h1]
      rw [e, List.append_nil]
      exact ⟨fun _ => rfl, fun _ _ => rfl, fun _ h2 => by omega⟩
theorem takenP_step (rows : List (List Int)) (p j : Nat) (hp : p < rows.length) (hj : j < rows[p].length) (x : Int) : takenP rows p (j + 1) x ↔ takenP rows p j x ∨ x = rows[p][j] := by
  unfold takenP
  rw [getD_at rows p hp, List.take_succ_eq_append_getElem hj, List.mem_append, List.mem_singleton, or_assoc]
theorem takenP_row (rows : List (List Int)) (p : Nat) (hp : p < rows.length) (x : Int) : takenP rows (p + 1) 0 x ↔ takenP rows p rows[p].length x := by
  unfold takenP
  rw [getD_at rows p hp, List.take_zero, List.take_length, take_flat rows p hp, List.flatten_append, List.mem_append]
  simp
theorem shJ_zero (rows : List (List Int)) (p : Nat) : shJ rows p 0 = shP rows p := by unfold shJ; rfl
theorem ownJ_zero (rows : List (List Int)) (p : Nat) : ownJ rows p 0 = [] := by unfold ownJ; rfl
theorem shJ_end (rows : List (List Int)) (p : Nat) (h0 : 0 < p) (hp : p < rows.length) : shJ rows p rows[p].length = shP rows (p + 1) := by
  rw [shP_row rows p h0 hp, onP_filter]
  unfold shJ
  rw [getD_at rows p hp, List.take_length]
theorem ownJ_end (rows : List (List Int)) (p : Nat) (hp : p < rows.length) : ownJ rows p rows[p].length = ownP rows rows[p] := by
  unfold ownJ ownP
  rw [getD_at rows p hp, List.take_length]
theorem othP_step (rows : List (List Int)) (tree : List Int) (k : Nat) : othP rows tree (k + 1) = if manyP rows ((k : Int) + 1) = 0 ∧ ((k : Int) + 1) ∉ tree then othP rows tree k ++ [(k : Int) + 1] else othP rows tree k := by
  unfold othP
  rw [List.range_succ, List.map_append, List.filter_append]
  split
  · rename_i h
    congr 1
    simp [h]
  · rename_i h
    have : [k].map (fun i : Nat => (i : Int) + 1) = [(k : Int) + 1] := rfl
    rw [this]
    have h2 : [(k : Int) + 1].filter (fun x => decide (manyP rows x = 0 ∧ x ∉ tree)) = [] := by simp only [List.filter_cons, List.filter_nil]; rw [if_neg]; simpa using h
    rw [h2, List.append_nil]
theorem othP_len (rows : List (List Int)) (tree : List Int) (k : Nat) : (othP rows tree k).length ≤ k := by
  unfold othP
  refine Nat.le_trans (List.length_filter_le _ _) ?_
  rw [List.length_map, List.length_range]
  exact Nat.le_refl _
theorem manyP_le (rows : List (List Int)) (x : Int) : manyP rows x ≤ rows.length := List.length_filter_le _ _
/-- counted, row by row -/
theorem manyP_take (rows : List (List Int)) (p : Nat) (hp : p < rows.length) (x : Int) : manyP (rows.take (p + 1)) x = manyP (rows.take p) x + if x ∈ rows[p] then 1 else 0 := by
  unfold manyP
  rw [take_flat rows p hp, List.filter_append, List.length_append]
  congr 1
  by_cases h : x ∈ rows[p] <;> simp [h]
/-- how many rows ahead, and in which one last; j numbers of the row p counted -/
def useP (rows : List (List Int)) (p j : Nat) (x : Int) : Nat := manyP (rows.take p) x + if x ∈ (rows.getD p []).take j then 1 else 0
theorem useP_step (rows : List (List Int)) (p j : Nat) (hp : p < rows.length) (hj : j < rows[p].length) (x : Int) : useP rows p (j + 1) x = if x = rows[p][j] ∧ x ∉ rows[p].take j then useP rows p j x + 1 else useP rows p j x := by
  have e1 := getD_at rows p hp
  have e2 : ∀ y, y ∈ rows[p].take (j + 1) ↔ y ∈ rows[p].take j ∨ y = rows[p][j] := fun y => by rw [List.take_succ_eq_append_getElem hj, List.mem_append, List.mem_singleton]
  simp only [useP, e1, e2]
  by_cases h1 : x ∈ rows[p].take j
  · simp [h1]
  · by_cases h2 : x = rows[p][j]
    · simp only [h1, false_or, if_pos h2]
      simp [h2] at h1 ⊢
    · simp [h1, h2]
theorem useP_row (rows : List (List Int)) (p : Nat) (hp : p < rows.length) (x : Int) : useP rows (p + 1) 0 x = useP rows p rows[p].length x := by
  have e1 := getD_at rows p hp
  simp only [useP, e1, List.take_length, manyP_take rows p hp, List.take_zero]
  simp
theorem useP_end (rows : List (List Int)) (x : Int) : useP rows rows.length 0 x = manyP rows x := by
  unfold useP
  rw [List.take_length, List.take_zero]
  simp
end Go.Proofs.Ytnpiemcfbnpfdaa
