/-
  Plain: what the reference's Put has still to lay; a value in a row, its cells written out.
-/
import Derived.Test.YtnibjjpohhknkaaPut
namespace Go.Proofs.Ytnibjjpohhknkaa
open Go.RowKit
set_option linter.unusedVariables false
set_option linter.unusedSimpArgs false

theorem Kids.full {W : World} {d : Nat} {l : List V} {a : Option Addr} {rows : List (List Value)} (h : Kids W d l a rows) (k : Nat) (u : V) (hk : l[k]? = some u) :
    ∃ b o q, a = some ⟨b, o, none⟩ ∧ W.rangeAt b (o + k * 4) [.int .i64 u.kind, .int .i64 u.n, .string u.s, q] ∧ Lies W d u [.int .i64 u.kind, .int .i64 u.n, .string u.s, q] := by
  obtain ⟨b, o, r, ha, hr, _, hL⟩ := h.at k u hk
  cases d with
  | zero => exact hL.elim
  | succ d =>
    obtain ⟨a', c', _, rfl, _⟩ := hL.kids
    exact ⟨b, o, _, ha, hr, hL⟩
def restS (l : List V) (i : Nat) (x : V) (K : Nat) : List V := if K ≤ i then (l.drop K).take (i + 1 - K) ++ ([x] ++ l.drop (i + 2)) else l.drop K
theorem restS_zero (l : List V) (i : Nat) (x : V) (hi : i < l.length) : restS l i x 0 = l.take (i + 1) ++ ([x] ++ l.drop (min (i + 2) l.length)) := by
  rw [restS, if_pos (Nat.zero_le _), List.drop_zero, Nat.sub_zero]
  congr 2
  by_cases h : i + 2 ≤ l.length
  · rw [Nat.min_eq_left h]
  · rw [Nat.min_eq_right (by omega), List.drop_eq_nil_of_le (by omega), List.drop_eq_nil_of_le (Nat.le_refl _)]
theorem restS_hit (l : List V) (i : Nat) (x t : V) (ht : l[i]? = some t) : restS l i x i = [t] ++ ([x] ++ restS l i x (i + 2)) := by
  obtain ⟨hi, rfl⟩ := List.getElem?_eq_some_iff.1 ht
  rw [restS, if_pos (Nat.le_refl _), restS, if_neg (by omega), List.drop_eq_getElem_cons hi, show i + 1 - i = 1 by omega]
  rfl
theorem drop_two (l : List V) (K : Nat) (t : V) (ht : l[K]? = some t) : l.drop K = [t] ++ ((l.drop (K + 1)).take 1 ++ l.drop (K + 2)) := by
  obtain ⟨hi, rfl⟩ := List.getElem?_eq_some_iff.1 ht
  rw [List.drop_eq_getElem_cons hi, show l.drop (K + 2) = (l.drop (K + 1)).drop 1 by rw [List.drop_drop], List.take_append_drop]
  rfl
theorem take_one (l : List V) (K : Nat) (t : V) (ht : l[K]? = some t) : (l.drop K).take 1 = [t] := by
  obtain ⟨hi, rfl⟩ := List.getElem?_eq_some_iff.1 ht
  rw [List.drop_eq_getElem_cons hi]; rfl
theorem take_none (l : List V) (K : Nat) (hK : l.length ≤ K) : (l.drop K).take 1 = [] := by rw [List.drop_eq_nil_of_le hK]; rfl
theorem restS_miss (l : List V) (i : Nat) (x t : V) (K : Nat) (ht : l[K]? = some t) (hi : i < l.length) (he : i % 2 = 0) (hK : K % 2 = 0) (hne : K ≠ i) : restS l i x K = [t] ++ ((l.drop (K + 1)).take 1 ++ restS l i x (K + 2)) := by
  by_cases h : K ≤ i
  · rw [restS, if_pos h, restS, if_pos (by omega), drop_two l K t ht]
    obtain ⟨m, hm⟩ : ∃ m, i + 1 - K = m + 2 := ⟨i + 1 - K - 2, by omega⟩
    have ht2 : (l.drop (K + 1)).take 1 = [l[K + 1]] := take_one l (K + 1) _ (List.getElem?_eq_getElem (by omega))
    rw [hm, ht2, show i + 1 - (K + 2) = m by omega]
    rfl
  · rw [restS, if_neg h, restS, if_neg (by omega)]
    exact drop_two l K t ht
theorem restS_end (l : List V) (i : Nat) (x : V) (K : Nat) (hK : l.length ≤ K) (hi : i < l.length) : restS l i x K = [] := by
  rw [restS, if_neg (by omega)]; exact List.drop_eq_nil_of_le hK
def restN (l : List V) (p : Nat) (nm x : V) (K : Nat) : List V := (l.drop K).take (p - K) ++ ([nm, x] ++ l.drop p)
theorem restN_zero (l : List V) (p : Nat) (nm x : V) : restN l p nm x 0 = l.take p ++ ([nm, x] ++ l.drop p) := by rw [restN, List.drop_zero, Nat.sub_zero]
theorem restN_hit (l : List V) (nm x t : V) (K : Nat) (ht : l[K]? = some t) : restN l K nm x K = [nm, x] ++ ([t] ++ ((l.drop (K + 1)).take 1 ++ l.drop (K + 2))) := by
  rw [restN, Nat.sub_self, List.take_zero, List.nil_append, drop_two l K t ht]
theorem restN_miss (l : List V) (p : Nat) (nm x t : V) (K : Nat) (ht : l[K]? = some t) (hp : K + 2 ≤ p ∨ p = l.length) : restN l p nm x K = [t] ++ ((l.drop (K + 1)).take 1 ++ restN l p nm x (K + 2)) := by
  have hlt : K < l.length := (List.getElem?_eq_some_iff.1 ht).1
  rw [restN, drop_two l K t ht, restN]
  by_cases h : K + 1 < l.length
  · obtain ⟨m, hm⟩ : ∃ m, p - K = m + 2 := ⟨p - K - 2, by omega⟩
    have ht2 : (l.drop (K + 1)).take 1 = [l[K + 1]] := take_one l (K + 1) _ (List.getElem?_eq_getElem h)
    rw [hm, ht2, show p - (K + 2) = m by omega]
    rfl
  · have ht2 := take_none l (K + 1) (by omega)
    rw [ht2, List.drop_eq_nil_of_le (show l.length ≤ K + 2 by omega), List.nil_append, List.nil_append, List.append_nil, List.take_nil, List.nil_append, List.take_of_length_le (by simp only [List.length_cons, List.length_nil]; omega)]
theorem restN_end (l : List V) (nm x : V) (K : Nat) (hK : l.length ≤ K) : restN l l.length nm x K = [nm, x] := by
  rw [restN, List.drop_eq_nil_of_le hK, List.take_nil, List.drop_eq_nil_of_le (Nat.le_refl _)]; rfl
theorem placeAt_ge {p : V → Bool} {l : List V} {k j : Nat} (h : placeAt p l k = some j) : k ≤ j ∧ j < l.length := by
  unfold placeAt at h
  obtain ⟨m, hm, rfl⟩ := Option.map_eq_some_iff.1 h
  have := (nextP_spec _ _ hm).1
  rw [List.length_drop] at this
  omega
theorem place_two {p : V → Bool} {l : List V} {k n pl : Nat} (hn : n = l.length) (h : pl = (placeAt p l (k + 2)).getD n) : k + 2 ≤ pl ∨ pl = l.length := by
  cases hq : placeAt p l (k + 2) with
  | none => rw [hq] at h; exact Or.inr (h.trans hn)
  | some j => rw [hq] at h; exact Or.inl (by rw [h]; exact (placeAt_ge hq).1)
end Go.Proofs.Ytnibjjpohhknkaa
