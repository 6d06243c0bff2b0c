/-
  Plain: a Doc whose objects are numbered anew may be written if it may be by its old numbers.
-/
import Derived.Test.YtkkmppalifjgnaaNumPl
namespace Go.Proofs.Ytkkmppalifjgnaa
open Go.RowKit
set_option linter.unusedVariables false
set_option linter.unusedSimpArgs false

/-- the objects by their new numbers, the first k of them placed -/
def placeP (to : List Int) (l : List Ob) : Nat → List Ob
  | 0 => List.replicate to.length noOb
  | k + 1 => (placeP to l k).set (to.getD k 0 - 1).toNat (turnOb to (l.getD k noOb))
theorem placeP_len (to : List Int) (l : List Ob) : ∀ k, (placeP to l k).length = to.length
  | 0 => by unfold placeP; simp
  | k + 1 => by unfold placeP; rw [List.length_set]; exact placeP_len to l k
theorem getD_lt {to : List Int} {k : Nat} (h : k < to.length) : to.getD k 0 = to[k] := by
  rw [List.getD_eq_getElem?_getD, List.getElem?_eq_getElem h]; rfl
theorem OneTo.at {to : List Int} (h : OneTo to) {k : Nat} (hk : k < to.length) : 1 ≤ to[k] ∧ to[k] ≤ to.length := (h.mem _).1 (List.getElem_mem hk)
theorem OneTo.inj {to : List Int} (h : OneTo to) {j k : Nat} (hj : j < to.length) (hk : k < to.length) (e : to[j] = to[k]) : j = k :=
  (List.getElem?_inj hj h.nodup).1 (by rw [List.getElem?_eq_getElem hk, List.getElem?_eq_getElem hj, e])
theorem placeP_at {to : List Int} (h : OneTo to) (l : List Ob) : ∀ k, k ≤ to.length → ∀ j, j < k → (placeP to l k)[(to.getD j 0 - 1).toNat]? = some (turnOb to (l.getD j noOb))
  | 0, _, j, hj => by omega
  | k + 1, hk, j, hj => by
    have hkl : k < to.length := by omega
    have hjl : j < to.length := by omega
    have h1 := h.at hkl
    have h2 := h.at hjl
    unfold placeP
    by_cases e : j = k
    · subst e
      rw [List.getElem?_set_self]
      rw [placeP_len, getD_lt hjl]; omega
    · rw [List.getElem?_set_ne]
      · exact placeP_at h l k (by omega) j (by omega)
      · rw [getD_lt hjl, getD_lt hkl]
        intro e2
        exact e (h.inj hjl hkl (by omega))
theorem obAt_nat {l : List Ob} {k : Nat} (h : k < l.length) : obAt l ((k : Int) + 1) = l.getD k noOb := by
  unfold obAt
  rw [if_pos (by omega), show ((k : Int) + 1 - 1).toNat = k by omega, List.getD_eq_getElem?_getD]
theorem obAt_beyond {l : List Ob} {x : Int} (h : ¬ (1 ≤ x ∧ x ≤ l.length)) : obAt l x = noOb := by unfold obAt; rw [if_neg h]
theorem obAt_place {to : List Int} (h : OneTo to) {l : List Ob} (hl : l.length = to.length) (x : Int) : obAt (placeP to l to.length) (toG to x) = turnOb to (obAt l x) := by
  by_cases hx : 1 ≤ x ∧ x ≤ to.length
  · obtain ⟨k, rfl⟩ : ∃ k : Nat, x = (k : Int) + 1 := ⟨(x - 1).toNat, by omega⟩
    have hk : k < to.length := by omega
    rw [toG_in hk, obAt_nat (by omega)]
    have h1 := h.at hk
    have h2 := placeP_at h l to.length (Nat.le_refl _) k hk
    rw [getD_lt hk] at h2
    unfold obAt
    rw [if_pos (by rw [placeP_len]; exact h1), h2]
    rfl
  · rw [toG_out hx, obAt_beyond (by rw [placeP_len]; exact hx), obAt_beyond (by rw [hl]; exact hx), turnOb_no]
theorem toG_onto {to : List Int} (h : OneTo to) {y : Int} (hy : 1 ≤ y ∧ y ≤ to.length) : ∃ x : Int, (1 ≤ x ∧ x ≤ to.length) ∧ toG to x = y := by
  obtain ⟨k, hk, e⟩ := List.getElem_of_mem ((h.mem y).2 hy)
  exact ⟨(k : Int) + 1, by omega, by rw [toG_in hk, e]⟩
theorem obAt_mem {l : List Ob} {x : Int} (h : 1 ≤ x ∧ x ≤ l.length) : obAt l x ∈ l := by
  unfold obAt
  rw [if_pos h, List.getElem?_eq_getElem (by omega)]
  exact List.getElem_mem _
theorem place_mem {to : List Int} (h : OneTo to) {l : List Ob} (hl : l.length = to.length) {o : Ob} (ho : o ∈ placeP to l to.length) : ∃ u ∈ l, o = turnOb to u := by
  obtain ⟨i, hi, rfl⟩ := List.getElem_of_mem ho
  rw [placeP_len] at hi
  obtain ⟨x, hx, e⟩ := toG_onto h (y := (i : Int) + 1) (by omega)
  refine ⟨obAt l x, obAt_mem (by omega), ?_⟩
  rw [← obAt_place h hl, e, obAt_nat (by rw [placeP_len]; exact hi), List.getD_eq_getElem?_getD, List.getElem?_eq_getElem (by rw [placeP_len]; exact hi)]
  rfl
theorem obE_first {o : Ob} (h : obE o = 0) : o.v.first = 0 := by
  have hc : o.v.checkE = 0 := by
    unfold obE at h
    by_cases e : o.v.checkE = 0
    · exact e
    · rw [if_pos e] at h; exact h
  unfold V.checkE at hc
  split at hc
  · exact hc
  · cases hc
theorem objsE_zero {n : Int} : ∀ {l : List Ob}, (∀ o ∈ l, obE o = 0 ∧ ∀ x ∈ o.v.more [], x ≤ n) → objsE n l = 0
  | [], _ => rfl
  | o :: r, h => by
    have h0 := h o List.mem_cons_self
    unfold objsE
    rw [if_neg (by rw [h0.1]; exact fun h => h rfl)]
    have hn : (o.v.more []).any (fun k => decide (n < k)) = false := by
      rw [List.any_eq_false]
      intro x hx
      have := h0.2 x hx
      simp only [decide_eq_true_eq]
      omega
    rw [hn]
    exact objsE_zero (fun u hu => h u (List.mem_cons_of_mem _ hu))
theorem stray_iff (l : List Ob) (root : Int) (t : Tr) : strayP l root t = true ↔ ∃ x : Int, (1 ≤ x ∧ x ≤ l.length) ∧ leadsB root t (cutP root t x (obAt l x).v) = true := by
  unfold strayP
  rw [List.any_eq_true]
  constructor
  · rintro ⟨k, hk, h⟩
    have hk := List.mem_range.1 hk
    exact ⟨(k : Int) + 1, by omega, by rw [obAt_nat hk]; exact h⟩
  · rintro ⟨x, hx, h⟩
    obtain ⟨k, rfl⟩ : ∃ k : Nat, x = (k : Int) + 1 := ⟨(x - 1).toNat, by omega⟩
    have hk : k < l.length := by omega
    exact ⟨k, List.mem_range.2 hk, by rw [obAt_nat hk] at h; exact h⟩
section
set_option linter.unusedSectionVars false
variable {to : List Int} {l : List Ob} (h : OneTo to) (hl : l.length = to.length) (hf : ∀ o ∈ l, o.v.fine to.length)
include h hl hf
theorem fine_at (x : Int) : (obAt l x).v.fine to.length := by
  rcases obAt_cases l x with hm | e
  · exact hf _ hm
  · rw [e]; exact fine_null _
theorem place_turned : Turned (toG to) l (placeP to l to.length) := by
  refine ⟨toG_inj h, fun x t => ?_, fun x => ?_, fun x n => ?_⟩
  · rw [obAt_place h hl, typed_turn (fine_at h hl hf x)]
  · rw [obAt_place h hl, node_turn (fine_at h hl hf x)]
  · rw [obAt_place h hl]; exact par_turn h (fine_at h hl hf x) n
theorem walk_turn (root : Int) : walkP (placeP to l to.length) (toG to root) = ((walkP l root).1.turn (toG to), (walkP l root).2) := by
  have hr := fine_at h hl hf root
  have hg := fine_get hr "Pages".toUTF8
  have z0 : toG to 0 = 0 := toG_out (by omega)
  unfold walkP
  rw [obAt_place h hl, typed_turn hr]
  have e : ((turnOb to (obAt l root)).v.get "Pages".toUTF8).1 = ((obAt l root).v.get "Pages".toUTF8).1.turn to := by show (((obAt l root).v.turn to).get _).1 = _; rw [get_turn hr]
  rw [e, turn_kind hg, turn_n hg]
  generalize ((obAt l root).v.get "Pages".toUTF8).1 = P at *
  by_cases hc : (typedO (obAt l root) "Catalog".toUTF8 && decide (P.kind = 8)) = true
  · rw [if_pos hc, if_pos hc]
    rw [Bool.and_eq_true, decide_eq_true_eq] at hc
    rw [if_pos hc.2]
    have hb : belP (placeP to l to.length) (toG to root) 64 0 false ⟨[], []⟩ (toG to P.n) = turnR (toG to) (belP l root 64 0 false ⟨[], []⟩ P.n) := by
      have hb0 := belP_turn (place_turned h hl hf) root 64 0 false ⟨[], []⟩ P.n
      rw [z0] at hb0
      exact hb0
    rw [hb]
    cases belP l root 64 0 false ⟨[], []⟩ P.n with
    | none => rfl
    | some p => rfl
  · rw [if_neg hc, if_neg hc]; rfl
theorem stray_turn (root : Int) (t : Tr) : strayP (placeP to l to.length) (toG to root) (t.turn (toG to)) = strayP l root t := by
  rw [Bool.eq_iff_iff, stray_iff, stray_iff]
  constructor
  · rintro ⟨y, hy, hp⟩
    rw [placeP_len] at hy
    obtain ⟨x, hx, rfl⟩ := toG_onto h hy
    refine ⟨x, by omega, ?_⟩
    rw [obAt_place h hl] at hp
    have hv := fine_at h hl hf x
    have e : (turnOb to (obAt l x)).v = (obAt l x).v.turn to := rfl
    rw [e, cut_turn h hv, leads_turn h (cut_fine hv root t x)] at hp
    exact hp
  · rintro ⟨x, hx, hp⟩
    refine ⟨toG to x, by rw [placeP_len]; exact toG_range h (by omega), ?_⟩
    rw [obAt_place h hl]
    have hv := fine_at h hl hf x
    have e : (turnOb to (obAt l x)).v = (obAt l x).v.turn to := rfl
    rw [e, cut_turn h hv, leads_turn h (cut_fine hv root t x)]
    exact hp
end
/-- whether a Doc may be written does not hang on its numbers -/
theorem doc_turn {to : List Int} {l : List Ob} (h : OneTo to) (hm : to.length ≤ 4094) (hl : l.length = to.length) (ho : ∀ o ∈ l, obE o = 0) (hr : ∀ o ∈ l, ∀ x ∈ o.v.more [], 1 ≤ x ∧ x ≤ (to.length : Int)) (root : Int) : docE (placeP to l to.length) (toG to root) = docE l root := by
  have hf : ∀ o ∈ l, o.v.fine to.length := fun o hm => first_fine _ _ (obE_first (ho o hm)) (fun x hx => hr o hm x ((mem_more0 x _).2 hx))
  have e1 : objsE (l.length : Int) l = 0 := objsE_zero (fun o hm => ⟨ho o hm, fun x hx => by have := hr o hm x hx; omega⟩)
  have e2 : objsE ((placeP to l to.length).length : Int) (placeP to l to.length) = 0 := objsE_zero (fun o hm2 => by
    obtain ⟨u, hu, rfl⟩ := place_mem h hl hm2
    refine ⟨by rw [obE_turn h (by omega) (hf u hu)]; exact ho u hu, fun x hx => ?_⟩
    have hx2 : x ∈ (u.v.turn to).refs := (mem_more0 x _).1 hx
    rw [refs_turn to _ (hf u hu), List.mem_map] at hx2
    obtain ⟨y, hy, rfl⟩ := hx2
    rw [placeP_len]
    exact (toG_range h (hr u hu y ((mem_more0 y _).2 hy))).2)
  unfold docE
  rw [e1, e2, walk_turn h hl hf, stray_turn h hl hf, placeP_len, hl]
end Go.Proofs.Ytkkmppalifjgnaa
