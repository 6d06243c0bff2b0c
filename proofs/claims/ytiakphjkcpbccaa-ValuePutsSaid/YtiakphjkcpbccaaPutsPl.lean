/-
  Plain: a dictionary of an even number of values, as pairs: what is put is got, what is dropped is not; a dictionary that may be, with a value put in that may be, may be, if it is not too deep.
-/
import Derived.Test.YtiakphjkcpbccaaSizes
namespace Go.Proofs.Ytiakphjkcpbccaa
open Go.RowKit
set_option linter.unusedVariables false

def flatP : List (V × V) → List V
  | [] => []
  | p :: r => p.1 :: p.2 :: flatP r
theorem pairs_of : ∀ l : List V, l.length % 2 = 0 → ∃ ps, l = flatP ps
  | [], _ => ⟨[], rfl⟩
  | [x], h => by simp at h
  | a :: b :: l, h => by
    obtain ⟨ps, rfl⟩ := pairs_of l (by simp only [List.length_cons] at h; omega)
    exact ⟨(a, b) :: ps, rfl⟩
theorem flatP_len (ps : List (V × V)) : (flatP ps).length = 2 * ps.length := by
  induction ps with
  | nil => rfl
  | cons p r ih => simp only [flatP, List.length_cons, ih]; omega
def repP (key : ByteArray) (x : V) : List (V × V) → List (V × V)
  | [] => []
  | p :: r => if hit key p.1 = true then (p.1, x) :: r else p :: repP key x r
def insP (key : ByteArray) (x : V) : List (V × V) → List (V × V)
  | [] => [(nameV key, x)]
  | p :: r => if over key p.1 = true then (nameV key, x) :: p :: r else p :: insP key x r
def remP (key : ByteArray) : List (V × V) → List (V × V)
  | [] => []
  | p :: r => if hit key p.1 = true then r else p :: remP key r
def getP (key : ByteArray) : List (V × V) → Option V
  | [] => none
  | p :: r => if hit key p.1 = true then some p.2 else getP key r
theorem next_cons (q : V → Bool) (a b : V) (l : List V) : nextP q (a :: b :: l) = if q a = true then some 0 else (nextP q l).map (· + 2) := by rw [nextP]
theorem rep_is (key : ByteArray) (x : V) : ∀ (ps : List (V × V)) (i : Nat), nextP (hit key) (flatP ps) = some i → (flatP ps).take (i + 1) ++ ([x] ++ (flatP ps).drop (min (i + 2) (flatP ps).length)) = flatP (repP key x ps)
  | [], i, h => by simp [flatP, nextP] at h
  | p :: r, i, h => by
    simp only [flatP] at h ⊢
    rw [next_cons] at h
    rw [repP]
    by_cases hp : hit key p.1 = true
    · rw [if_pos hp] at h ⊢
      cases h
      rw [show min (0 + 2) (p.1 :: p.2 :: flatP r).length = 2 from by simp only [List.length_cons]; omega]
      rfl
    · rw [if_neg hp] at h ⊢
      obtain ⟨j, hj, rfl⟩ := Option.map_eq_some_iff.1 h
      have ih := rep_is key x r j hj
      rw [show min (j + 2 + 2) (p.1 :: p.2 :: flatP r).length = min (j + 2) (flatP r).length + 2 from by simp only [List.length_cons]; omega]
      rw [show j + 2 + 1 = (j + 1) + 2 from by omega]
      simp only [List.take_succ_cons, List.drop_succ_cons, List.cons_append, flatP]
      rw [← ih]
      rfl
theorem ins_is (key : ByteArray) (x : V) : ∀ ps : List (V × V), (flatP ps).take (placeOf (flatP ps) key) ++ ([nameV key, x] ++ (flatP ps).drop (placeOf (flatP ps) key)) = flatP (insP key x ps)
  | [] => rfl
  | p :: r => by
    have ih := ins_is key x r
    simp only [flatP]
    rw [insP]
    unfold placeOf at ih ⊢
    rw [next_cons]
    by_cases hp : over key p.1 = true
    · rw [if_pos hp, if_pos hp]; rfl
    · rw [if_neg hp, if_neg hp]
      have e : ((nextP (over key) (flatP r)).map (· + 2)).getD (p.1 :: p.2 :: flatP r).length = (nextP (over key) (flatP r)).getD (flatP r).length + 2 := by
        cases nextP (over key) (flatP r) <;> rfl
      rw [e]
      simp only [List.take_succ_cons, List.drop_succ_cons, List.cons_append, flatP]
      rw [← ih]
      rfl
theorem rem_is (key : ByteArray) : ∀ (ps : List (V × V)) (i : Nat), nextP (hit key) (flatP ps) = some i → (flatP ps).take i ++ (flatP ps).drop (min (i + 2) (flatP ps).length) = flatP (remP key ps)
  | [], i, h => by simp [flatP, nextP] at h
  | p :: r, i, h => by
    simp only [flatP] at h ⊢
    rw [next_cons] at h
    rw [remP]
    by_cases hp : hit key p.1 = true
    · rw [if_pos hp] at h ⊢
      cases h
      rw [show min (0 + 2) (p.1 :: p.2 :: flatP r).length = 2 from by simp only [List.length_cons]; omega]
      rfl
    · rw [if_neg hp] at h ⊢
      obtain ⟨j, hj, rfl⟩ := Option.map_eq_some_iff.1 h
      have ih := rem_is key r j hj
      rw [show min (j + 2 + 2) (p.1 :: p.2 :: flatP r).length = min (j + 2) (flatP r).length + 2 from by simp only [List.length_cons]; omega]
      simp only [List.take_succ_cons, List.drop_succ_cons, List.cons_append, flatP]
      rw [ih]
theorem get_some (key : ByteArray) : ∀ (ps : List (V × V)) (i : Nat), nextP (hit key) (flatP ps) = some i → (flatP ps)[i + 1]? = getP key ps ∧ ∃ y, getP key ps = some y
  | [], i, h => by simp [flatP, nextP] at h
  | p :: r, i, h => by
    simp only [flatP] at h ⊢
    rw [next_cons] at h
    rw [getP]
    by_cases hp : hit key p.1 = true
    · rw [if_pos hp] at h ⊢
      cases h
      exact ⟨rfl, _, rfl⟩
    · rw [if_neg hp] at h ⊢
      obtain ⟨j, hj, rfl⟩ := Option.map_eq_some_iff.1 h
      have ih := get_some key r j hj
      exact ⟨by simpa using ih.1, ih.2⟩
theorem get_none (key : ByteArray) : ∀ ps : List (V × V), nextP (hit key) (flatP ps) = none ↔ getP key ps = none
  | [] => by simp [flatP, nextP, getP]
  | p :: r => by
    simp only [flatP]
    rw [next_cons, getP]
    by_cases hp : hit key p.1 = true
    · rw [if_pos hp, if_pos hp]; simp
    · rw [if_neg hp, if_neg hp]
      have ih := get_none key r
      rw [Option.map_eq_none_iff]
      exact ih
def dictV (n : Int) (s : ByteArray) (ps : List (V × V)) : V := .mk 7 n s (flatP ps)
theorem got (n : Int) (s : ByteArray) (key : ByteArray) (ps : List (V × V)) : (dictV n s ps).get key = match getP key ps with | some y => (y, true) | none => (nullV, false) := by
  unfold V.get V.find dictV
  rw [if_pos (show (V.mk 7 n s (flatP ps)).kind = 7 from rfl)]
  simp only [V.l]
  cases h : nextP (hit key) (flatP ps) with
  | none => rw [(get_none key ps).1 h]
  | some i =>
    obtain ⟨h1, y, h2⟩ := get_some key ps i h
    simp only
    rw [h1, h2]
    rfl
theorem putD (n : Int) (s : ByteArray) (key : ByteArray) (x : V) (ps : List (V × V)) : (dictV n s ps).put key x = dictV n s (match getP key ps with | some _ => repP key x ps | none => insP key x ps) := by
  rw [put_eq]
  unfold dictV
  rw [if_pos (show (V.mk 7 n s (flatP ps)).kind = 7 from rfl)]
  simp only [V.l]
  cases h : nextP (hit key) (flatP ps) with
  | none =>
    rw [(get_none key ps).1 h]
    simp only [V.putAt, V.kind, V.n, V.s, V.l]
    rw [ins_is]
  | some i =>
    obtain ⟨h1, y, h2⟩ := get_some key ps i h
    rw [h2]
    simp only [V.putAt, V.kind, V.n, V.s, V.l]
    rw [rep_is key x ps i h]
theorem dropD (n : Int) (s : ByteArray) (key : ByteArray) (ps : List (V × V)) : (dictV n s ps).dropped key = dictV n s (remP key ps) := by
  unfold V.dropped V.find dictV
  rw [if_pos (show (V.mk 7 n s (flatP ps)).kind = 7 from rfl)]
  simp only [V.l]
  cases h : nextP (hit key) (flatP ps) with
  | none =>
    simp only
    congr 2
    have := (get_none key ps).1 h
    clear h
    induction ps with
    | nil => rfl
    | cons p r ih =>
      rw [getP] at this
      rw [remP]
      by_cases hp : hit key p.1 = true
      · rw [if_pos hp] at this; cases this
      · rw [if_neg hp] at this ⊢; rw [← ih this]
  | some i =>
    simp only [V.kind, V.n, V.s]
    rw [rem_is key ps i h]
theorem hit_name (key : ByteArray) : hit key (nameV key) = true := by simp [hit, nameV, V.kind, V.s]
theorem getP_rep (key : ByteArray) (x : V) : ∀ ps : List (V × V), getP key ps ≠ none → getP key (repP key x ps) = some x
  | [], h => absurd rfl h
  | p :: r, h => by
    rw [getP] at h
    rw [repP]
    by_cases hp : hit key p.1 = true
    · rw [if_pos hp, getP, if_pos hp]
    · rw [if_neg hp] at h ⊢
      rw [getP, if_neg hp]
      exact getP_rep key x r h
theorem getP_ins (key : ByteArray) (x : V) : ∀ ps : List (V × V), getP key ps = none → getP key (insP key x ps) = some x
  | [], h => by rw [insP, getP, if_pos (hit_name key)]
  | p :: r, h => by
    rw [getP] at h
    rw [insP]
    by_cases hp : hit key p.1 = true
    · rw [if_pos hp] at h; cases h
    · rw [if_neg hp] at h
      by_cases ho : over key p.1 = true
      · rw [if_pos ho, getP, if_pos (hit_name key)]
      · rw [if_neg ho, getP, if_neg hp]
        exact getP_ins key x r h
theorem put_get (n : Int) (s : ByteArray) (key : ByteArray) (x : V) (ps : List (V × V)) : ((dictV n s ps).put key x).get key = (x, true) := by
  rw [putD, got]
  cases h : getP key ps with
  | none => simp only; rw [getP_ins key x ps h]
  | some y => simp only; rw [getP_rep key x ps (by rw [h]; simp)]
theorem rem_rep (key : ByteArray) (x : V) : ∀ ps : List (V × V), remP key (repP key x ps) = remP key ps
  | [] => rfl
  | p :: r => by
    rw [repP, remP]
    by_cases hp : hit key p.1 = true
    · rw [if_pos hp, if_pos hp, remP, if_pos hp]
    · rw [if_neg hp, if_neg hp, remP, if_neg hp, rem_rep key x r]
theorem rem_ins (key : ByteArray) (x : V) : ∀ ps : List (V × V), getP key ps = none → remP key (insP key x ps) = remP key ps
  | [], h => by
    show remP key [(nameV key, x)] = []
    simp [remP, hit_name]
  | p :: r, h => by
    rw [getP] at h
    rw [insP]
    by_cases hp : hit key p.1 = true
    · rw [if_pos hp] at h; cases h
    · rw [if_neg hp] at h
      rw [remP, if_neg hp]
      have hr : remP key r = r := by
        clear hp
        induction r with
        | nil => rfl
        | cons q r ih =>
          rw [getP] at h
          rw [remP]
          by_cases hq : hit key q.1 = true
          · rw [if_pos hq] at h; cases h
          · rw [if_neg hq] at h ⊢; rw [ih h]
      by_cases ho : over key p.1 = true
      · rw [if_pos ho, remP, if_pos (hit_name key), hr]
      · rw [if_neg ho, remP, if_neg hp, rem_ins key x r h]
theorem put_drop (n : Int) (s : ByteArray) (key : ByteArray) (x : V) (ps : List (V × V)) : ((dictV n s ps).put key x).dropped key = (dictV n s ps).dropped key := by
  rw [putD, dropD, dropD]
  congr 1
  cases h : getP key ps with
  | none => exact rem_ins key x ps h
  | some y => exact rem_rep key x ps
/- order -/
theorem bl_trans {a b c : List UInt8} (h : Op.bytesLess a b = true) (h' : Op.bytesLess b c = true) : Op.bytesLess a c = true := by
  have h1 := cmpBytes_eq a b
  have h2 := cmpBytes_eq b c
  rw [if_pos h] at h1
  rw [if_pos h'] at h2
  have h3 := (tr_bytes a b c).2.2 (by rw [h1, h2])
  rw [h1, cmpBytes_eq] at h3
  by_cases e : Op.bytesLess a c = true
  · exact e
  · rw [if_neg e] at h3; split at h3 <;> cases h3
theorem bl_irr (a : List UInt8) : Op.bytesLess a a = false := by
  have h1 := cmpBytes_eq a a
  rw [bytes_self] at h1
  by_cases e : Op.bytesLess a a = true
  · rw [if_pos e] at h1; cases h1
  · simpa using e
def SortP : List (V × V) → Prop
  | [] => True
  | p :: r => p.1.kind = 5 ∧ (∀ q ∈ r, Op.bytesLess p.1.s.toList q.1.s.toList = true) ∧ SortP r
theorem getP_rem (key : ByteArray) : ∀ ps : List (V × V), SortP ps → getP key (remP key ps) = none
  | [], _ => rfl
  | p :: r, h => by
    rw [remP]
    by_cases hp : hit key p.1 = true
    · rw [if_pos hp]
      have hk : p.1.s.toList = key.toList := by simp [hit] at hp; exact hp.2
      have hall : ∀ q ∈ r, hit key q.1 = false := fun q hq => by
        have := h.2.1 q hq
        rw [hk] at this
        unfold hit
        by_cases e : q.1.s.toList = key.toList
        · rw [e, bl_irr] at this; cases this
        · simp [e]
      clear hp h hk
      induction r with
      | nil => rfl
      | cons q r ih => rw [getP, if_neg (by rw [hall q (by simp)]; decide)]; exact ih (fun q hq => hall q (by simp [hq]))
    · rw [if_neg hp, getP, if_neg hp]
      exact getP_rem key r h.2.2
theorem repP_mem (key : ByteArray) (x : V) : ∀ (ps : List (V × V)) (q : V × V), q ∈ repP key x ps → (∃ q' ∈ ps, q'.1 = q.1)
  | [], q, h => by simp [repP] at h
  | p :: r, q, h => by
    rw [repP] at h
    split at h
    · rcases List.mem_cons.1 h with rfl | h
      · exact ⟨p, by simp, rfl⟩
      · exact ⟨q, by simp [h], rfl⟩
    · rcases List.mem_cons.1 h with rfl | h
      · exact ⟨q, by simp, rfl⟩
      · obtain ⟨q', h1, h2⟩ := repP_mem key x r q h
        exact ⟨q', by simp [h1], h2⟩
theorem sort_rep (key : ByteArray) (x : V) : ∀ ps : List (V × V), SortP ps → SortP (repP key x ps)
  | [], h => h
  | p :: r, h => by
    rw [repP]
    split
    · exact h
    · refine ⟨h.1, fun q hq => ?_, sort_rep key x r h.2.2⟩
      obtain ⟨q', h1, h2⟩ := repP_mem key x r q hq
      rw [← h2]
      exact h.2.1 q' h1
theorem insP_mem (key : ByteArray) (x : V) : ∀ (ps : List (V × V)) (q : V × V), q ∈ insP key x ps → q = (nameV key, x) ∨ q ∈ ps
  | [], q, h => by simp [insP] at h; exact Or.inl h
  | p :: r, q, h => by
    rw [insP] at h
    split at h
    · rcases List.mem_cons.1 h with rfl | h
      · exact Or.inl rfl
      · exact Or.inr h
    · rcases List.mem_cons.1 h with rfl | h
      · exact Or.inr (by simp)
      · rcases insP_mem key x r q h with h | h
        · exact Or.inl h
        · exact Or.inr (by simp [h])
theorem sort_ins (key : ByteArray) (x : V) : ∀ ps : List (V × V), SortP ps → getP key ps = none → SortP (insP key x ps)
  | [], _, _ => ⟨rfl, fun q hq => by simp at hq, trivial⟩
  | p :: r, h, hg => by
    rw [getP] at hg
    by_cases hp : hit key p.1 = true
    · rw [if_pos hp] at hg; cases hg
    rw [if_neg hp] at hg
    rw [insP]
    by_cases ho : over key p.1 = true
    · rw [if_pos ho]
      have hlt : Op.bytesLess key.toList p.1.s.toList = true := by simp [over] at ho; exact ho.2
      refine ⟨rfl, fun q hq => ?_, h⟩
      rcases List.mem_cons.1 hq with rfl | hq
      · exact hlt
      · exact bl_trans hlt (h.2.1 q hq)
    · rw [if_neg ho]
      refine ⟨h.1, fun q hq => ?_, sort_ins key x r h.2.2 hg⟩
      rcases insP_mem key x r q hq with rfl | hq
      · have e1 : Op.bytesLess key.toList p.1.s.toList = false := by
          have := h.1
          simpa [over, this] using ho
        have e2 : (p.1.s.toList == key.toList) = false := by
          have := h.1
          simpa [hit, this] using hp
        have := bl_total key.toList p.1.s.toList
        rw [e1, e2] at this
        simpa [nameV, V.s] using this
      · exact h.2.1 q hq
end Go.Proofs.Ytiakphjkcpbccaa
