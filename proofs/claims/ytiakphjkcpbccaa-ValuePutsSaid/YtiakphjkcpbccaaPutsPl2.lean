/-
  Plain: a dictionary that may be, with a value put in that may be.
-/
import Derived.Test.YtiakphjkcpbccaaPutsPl
namespace Go.Proofs.Ytiakphjkcpbccaa
open Go.RowKit
set_option linter.unusedVariables false

theorem flat_at : ∀ (ps : List (V × V)) (j : Nat), (flatP ps)[2 * j]? = ps[j]?.map (·.1)
  | [], j => by simp [flatP]
  | p :: r, 0 => rfl
  | p :: r, j + 1 => by
    rw [show 2 * (j + 1) = 2 * j + 1 + 1 from by omega]
    simp only [flatP, List.getElem?_cons_succ]
    exact flat_at r j
theorem names_iff (ps : List (V × V)) : namesB (flatP ps) = true ↔ ∀ p ∈ ps, p.1.kind = 5 := by
  rw [namesB_true, flatP_len, Nat.mul_div_cancel_left _ (by decide)]
  constructor
  · intro h p hp
    obtain ⟨j, hj, rfl⟩ := List.getElem_of_mem hp
    have := h j hj
    rw [kindAt, flat_at, List.getElem?_eq_getElem hj] at this
    exact this
  · intro h j hj
    rw [kindAt, flat_at, List.getElem?_eq_getElem hj]
    exact h _ (List.getElem_mem hj)
theorem order_iff (ps : List (V × V)) : orderB (flatP ps) = true ↔ ∀ (j : Nat) (p q : V × V), ps[j]? = some p → ps[j + 1]? = some q → Op.bytesLess p.1.s.toList q.1.s.toList = true := by
  rw [orderB_true, flatP_len, Nat.mul_div_cancel_left _ (by decide)]
  constructor
  · intro h j p q hp hq
    have hj := (List.getElem?_eq_some_iff.1 hq).1
    have := h j (by omega)
    rw [lessB, keyAt, keyAt, show 2 * j + 2 = 2 * (j + 1) from by omega, flat_at, flat_at, hp, hq] at this
    exact this
  · intro h j hj
    have h1 : ps[j]? = some ps[j] := List.getElem?_eq_getElem (by omega)
    have h2 : ps[j + 1]? = some ps[j + 1] := List.getElem?_eq_getElem (by omega)
    have := h j _ _ h1 h2
    rw [lessB, keyAt, keyAt, show 2 * j + 2 = 2 * (j + 1) from by omega, flat_at, flat_at, h1, h2]
    exact this
theorem sort_of : ∀ ps : List (V × V), (∀ p ∈ ps, p.1.kind = 5) → (∀ (j : Nat) (p q : V × V), ps[j]? = some p → ps[j + 1]? = some q → Op.bytesLess p.1.s.toList q.1.s.toList = true) → SortP ps
  | [], _, _ => trivial
  | p :: r, h1, h2 => by
    have hr := sort_of r (fun q hq => h1 q (by simp [hq])) (fun j a b ha hb => h2 (j + 1) a b (by simpa using ha) (by simpa using hb))
    refine ⟨h1 p (by simp), fun q hq => ?_, hr⟩
    cases r with
    | nil => simp at hq
    | cons q0 r =>
      have h0 := h2 0 p q0 rfl rfl
      rcases List.mem_cons.1 hq with rfl | hq
      · exact h0
      · exact bl_trans h0 (hr.2.1 q hq)
theorem sort_names : ∀ ps : List (V × V), SortP ps → ∀ p ∈ ps, p.1.kind = 5
  | [], _, p, hp => by simp at hp
  | q :: r, h, p, hp => by
    rcases List.mem_cons.1 hp with rfl | hp
    · exact h.1
    · exact sort_names r h.2.2 p hp
theorem sort_order : ∀ ps : List (V × V), SortP ps → ∀ (j : Nat) (p q : V × V), ps[j]? = some p → ps[j + 1]? = some q → Op.bytesLess p.1.s.toList q.1.s.toList = true
  | [], _, j, p, q, hp, _ => by simp at hp
  | a :: r, h, 0, p, q, hp, hq => by
    cases hp
    exact h.2.1 q (List.mem_of_getElem? (by simpa using hq))
  | a :: r, h, j + 1, p, q, hp, hq => sort_order r h.2.2 j p q (by simpa using hp) (by simpa using hq)
theorem dictE_iff (ps : List (V × V)) : dictE (flatP ps) = 0 ↔ SortP ps := by
  unfold dictE
  rw [if_neg (by rw [flatP_len]; omega)]
  constructor
  · intro h
    split at h
    · next hn =>
      split at h
      · next ho => exact sort_of ps ((names_iff ps).1 hn) ((order_iff ps).1 ho)
      · cases h
    · cases h
  · intro h
    rw [if_pos ((names_iff ps).2 (sort_names ps h)), if_pos ((order_iff ps).2 (sort_order ps h))]
theorem first_flat (ps : List (V × V)) : firstL (flatP ps) = 0 ↔ ∀ p ∈ ps, p.1.first = 0 ∧ p.2.first = 0 := by
  induction ps with
  | nil => simp [flatP, firstL]
  | cons p r ih =>
    simp only [flatP]
    rw [firstL, firstL]
    constructor
    · intro h
      split at h
      · next h1 =>
        split at h
        · next h2 =>
          intro q hq
          rcases List.mem_cons.1 hq with rfl | hq
          · exact ⟨h1, h2⟩
          · exact ih.1 h q hq
        · next h2 => exact absurd h h2
      · next h1 => exact absurd h h1
    · intro h
      have := h p (by simp)
      rw [if_pos this.1, if_pos this.2]
      exact ih.2 (fun q hq => h q (by simp [hq]))
theorem depth_flat (ps : List (V × V)) (m : Nat) : depthL (flatP ps) ≤ m ↔ ∀ p ∈ ps, p.1.depth ≤ m ∧ p.2.depth ≤ m := by
  induction ps with
  | nil => simp [flatP, depthL]
  | cons p r ih =>
    simp only [flatP]
    rw [depthL, depthL]
    constructor
    · intro h q hq
      rcases List.mem_cons.1 hq with rfl | hq
      · exact ⟨by omega, by omega⟩
      · exact ih.1 (by omega) q hq
    · intro h
      have h1 := h p (by simp)
      have h2 := ih.2 (fun q hq => h q (by simp [hq]))
      omega
theorem rep_mem2 (key : ByteArray) (x : V) : ∀ (ps : List (V × V)) (q : V × V), q ∈ repP key x ps → q ∈ ps ∨ ∃ q' ∈ ps, q = (q'.1, x)
  | [], q, h => by simp [repP] at h
  | p :: r, q, h => by
    rw [repP] at h
    split at h
    · rcases List.mem_cons.1 h with rfl | h
      · exact Or.inr ⟨p, by simp, rfl⟩
      · exact Or.inl (by simp [h])
    · rcases List.mem_cons.1 h with rfl | h
      · exact Or.inl (by simp)
      · rcases rep_mem2 key x r q h with h | ⟨q', h1, h2⟩
        · exact Or.inl (by simp [h])
        · exact Or.inr ⟨q', by simp [h1], h2⟩
theorem getP_mem (key : ByteArray) : ∀ (ps : List (V × V)) (y : V), getP key ps = some y → ∃ q ∈ ps, q.2 = y
  | [], y, h => by simp [getP] at h
  | p :: r, y, h => by
    rw [getP] at h
    split at h
    · cases h; exact ⟨p, by simp, rfl⟩
    · obtain ⟨q, h1, h2⟩ := getP_mem key r y h
      exact ⟨q, by simp [h1], h2⟩
def putPs (key : ByteArray) (x : V) (ps : List (V × V)) : List (V × V) := match getP key ps with | some _ => repP key x ps | none => insP key x ps
theorem putPs_mem (key : ByteArray) (x : V) (ps : List (V × V)) (q : V × V) (h : q ∈ putPs key x ps) : (q.1 = nameV key ∨ ∃ q' ∈ ps, q.1 = q'.1) ∧ (q.2 = x ∨ ∃ q' ∈ ps, q.2 = q'.2) := by
  unfold putPs at h
  split at h
  · rcases rep_mem2 key x ps q h with h | ⟨q', h1, rfl⟩
    · exact ⟨Or.inr ⟨q, h, rfl⟩, Or.inr ⟨q, h, rfl⟩⟩
    · exact ⟨Or.inr ⟨q', h1, rfl⟩, Or.inl rfl⟩
  · rcases insP_mem key x ps q h with rfl | h
    · exact ⟨Or.inl rfl, Or.inl rfl⟩
    · exact ⟨Or.inr ⟨q, h, rfl⟩, Or.inr ⟨q, h, rfl⟩⟩
theorem putPs_get (key : ByteArray) (x : V) (ps : List (V × V)) : getP key (putPs key x ps) = some x := by
  unfold putPs
  split
  · next y h => exact getP_rep key x ps (by rw [h]; simp)
  · next h => exact getP_ins key x ps h
theorem putPs_sort (key : ByteArray) (x : V) (ps : List (V × V)) (h : SortP ps) : SortP (putPs key x ps) := by
  unfold putPs
  split
  · exact sort_rep key x ps h
  · next hg => exact sort_ins key x ps h hg
theorem own_dict (n : Int) (s : ByteArray) (l : List V) : ownE 7 n s l = if n = 0 ∧ s.toList = [] then dictE l else 2 := rfl
theorem check_dict (n : Int) (s : ByteArray) (ps : List (V × V)) : (dictV n s ps).checkE = 0 ↔ (∀ p ∈ ps, p.1.depth ≤ 63 ∧ p.2.depth ≤ 63) ∧ (n = 0 ∧ s.toList = []) ∧ SortP ps ∧ (∀ p ∈ ps, p.1.first = 0 ∧ p.2.first = 0) := by
  have hd : (dictV n s ps).depth = 1 + depthL (flatP ps) := depth_eq _
  have hf : (dictV n s ps).first = if ownE 7 n s (flatP ps) = 0 then firstL (flatP ps) else ownE 7 n s (flatP ps) := first_eq _
  unfold V.checkE
  rw [hd, hf, own_dict]
  constructor
  · intro h
    split at h
    · next h1 =>
      have h1' := (depth_flat ps 63).1 (by omega)
      by_cases hns : n = 0 ∧ s.toList = []
      · rw [if_pos hns] at h
        split at h
        · next h2 => exact ⟨h1', hns, (dictE_iff ps).1 h2, (first_flat ps).1 h⟩
        · next h2 => exact absurd h h2
      · rw [if_neg hns, if_neg (by decide)] at h; cases h
    · cases h
  · rintro ⟨h1, h2, h3, h4⟩
    have := (depth_flat ps 63).2 h1
    rw [if_pos (by omega), if_pos h2, if_pos ((dictE_iff ps).2 h3)]
    exact (first_flat ps).2 h4
theorem put_check (n : Int) (s : ByteArray) (ps : List (V × V)) (key : ByteArray) (x : V) (hD : (dictV n s ps).checkE = 0) (hx : x.checkE = 0) (hk : textB key = true) :
    ((dictV n s ps).put key x).checkE = if x.depth < 64 then 0 else 15 := by
  obtain ⟨h1, h2, h3, h4⟩ := (check_dict n s ps).1 hD
  have hxf : x.first = 0 := by
    unfold V.checkE at hx
    split at hx
    · exact hx
    · cases hx
  have hn1 : (nameV key).depth = 1 := depth_eq _
  have hn2 : (nameV key).first = 0 := by
    rw [first_eq]
    have : ownE (nameV key).kind (nameV key).n (nameV key).s (nameV key).l = 0 := by
      show ownE 5 0 key [] = 0
      simp [ownE, hk]
    rw [if_pos this]
    rfl
  have hp : (dictV n s ps).put key x = dictV n s (putPs key x ps) := putD n s key x ps
  rw [hp]
  by_cases hlt : x.depth < 64
  · rw [if_pos hlt]
    refine (check_dict n s _).2 ⟨fun q hq => ?_, h2, putPs_sort key x ps h3, fun q hq => ?_⟩
    · obtain ⟨ha, hb⟩ := putPs_mem key x ps q hq
      refine ⟨?_, ?_⟩
      · rcases ha with e | ⟨q', hq', e⟩
        · rw [e, hn1]; decide
        · rw [e]; exact (h1 q' hq').1
      · rcases hb with e | ⟨q', hq', e⟩
        · rw [e]; omega
        · rw [e]; exact (h1 q' hq').2
    · obtain ⟨ha, hb⟩ := putPs_mem key x ps q hq
      refine ⟨?_, ?_⟩
      · rcases ha with e | ⟨q', hq', e⟩
        · rw [e]; exact hn2
        · rw [e]; exact (h4 q' hq').1
      · rcases hb with e | ⟨q', hq', e⟩
        · rw [e]; exact hxf
        · rw [e]; exact (h4 q' hq').2
  · rw [if_neg hlt]
    obtain ⟨q, hq, e⟩ := getP_mem key _ x (putPs_get key x ps)
    have hd : (dictV n s (putPs key x ps)).depth = 1 + depthL (flatP (putPs key x ps)) := depth_eq _
    have hdl := ((depth_flat (putPs key x ps) _).1 (Nat.le_refl _) q hq).2
    rw [e] at hdl
    unfold V.checkE
    rw [if_neg (by omega)]
theorem drop_got (n : Int) (s : ByteArray) (ps : List (V × V)) (key : ByteArray) (x : V) (hD : (dictV n s ps).checkE = 0) : (((dictV n s ps).put key x).dropped key).get key = (nullV, false) := by
  have h3 := ((check_dict n s ps).1 hD).2.2.1
  have hp : (dictV n s ps).put key x = dictV n s (putPs key x ps) := putD n s key x ps
  rw [hp, dropD, got, getP_rem key _ (putPs_sort key x ps h3)]
end Go.Proofs.Ytiakphjkcpbccaa
