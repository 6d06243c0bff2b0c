/-
  Walked: the reference's Compare and Same.
  Walked: slices.CompareFunc over values, handed the program's Compare.
  Walked: the reference's Same.
  Walked: the program's Compare and Same.
-/
import Derived.Test.YtipmbcalnnomjaaCmp
import Derived.Laws.Strings
import Derived.Test.YtipmbcalnnomjaaRegList
namespace Go.Proofs.Ytipmbcalnnomjaa
open Go.RowKit
set_option linter.unusedVariables false
set_option linter.unusedSimpArgs false

theorem cmpBytes_eq : ∀ a b : List UInt8, Lib.compareBytes a b = if Op.bytesLess a b = true then -1 else if (a == b) = true then 0 else 1
  | [], [] => rfl
  | [], b :: y => rfl
  | a :: x, [] => rfl
  | a :: x, b :: y => by
    have ih := cmpBytes_eq x y
    unfold Lib.compareBytes Op.bytesLess
    by_cases h1 : a < b
    · simp [h1]
    · by_cases h2 : b < a
      · have h3 : ¬ a = b := fun e => by subst e; exact h1 h2
        simp [h1, h2, h3]
      · have h3 : a = b := by
          apply UInt8.toNat_inj.1
          have h1' : ¬ a.toNat < b.toNat := h1
          have h2' : ¬ b.toNat < a.toNat := h2
          omega
        subst h3
        simp [h1, ih]
theorem data_toList (s : ByteArray) : s.data.toList = s.toList := (ByteArray.toList_eq s).symm
theorem cmpS_eq (a b : ByteArray) : cmpS a b = if Op.bytesLess a.toList b.toList = true then -1 else if (a.toList == b.toList) = true then 0 else 1 := by
  rw [cmpS, data_toList, data_toList, cmpBytes_eq]
theorem head_cases (v u : V) :
    (v.kind < u.kind ∧ v.head u = -1) ∨ (u.kind < v.kind ∧ v.head u = 1) ∨
    (v.kind = u.kind ∧ v.n < u.n ∧ v.head u = -1) ∨ (v.kind = u.kind ∧ u.n < v.n ∧ v.head u = 1) ∨
    (v.kind = u.kind ∧ v.n = u.n ∧ Op.bytesLess v.s.toList u.s.toList = true ∧ v.head u = -1) ∨
    (v.kind = u.kind ∧ v.n = u.n ∧ Op.bytesLess v.s.toList u.s.toList = false ∧ (v.s.toList == u.s.toList) = false ∧ v.head u = 1) ∨
    (v.kind = u.kind ∧ v.n = u.n ∧ Op.bytesLess v.s.toList u.s.toList = false ∧ (v.s.toList == u.s.toList) = true ∧ v.head u = 0) := by
  have hc := cmpS_eq v.s u.s
  unfold V.head
  generalize v.kind = k at *
  generalize u.kind = k' at *
  generalize v.n = n at *
  generalize u.n = n' at *
  by_cases h1 : k < k'
  · left; refine ⟨h1, ?_⟩; rw [cmpI, if_pos h1]; rfl
  by_cases h2 : k' < k
  · right; left; refine ⟨h2, ?_⟩; rw [cmpI, if_neg h1, if_pos h2]; rfl
  obtain rfl : k = k' := by omega
  have e0 : cmpI k k = 0 := by unfold cmpI; simp
  rw [e0, orI_zero]
  right; right
  by_cases h3 : n < n'
  · left; refine ⟨rfl, h3, ?_⟩; rw [cmpI, if_pos h3]; rfl
  by_cases h4 : n' < n
  · right; left; refine ⟨rfl, h4, ?_⟩; rw [cmpI, if_neg h3, if_pos h4]; rfl
  obtain rfl : n = n' := by omega
  have e1 : cmpI n n = 0 := by unfold cmpI; simp
  rw [e1, orI_zero, hc]
  right; right
  by_cases h5 : Op.bytesLess v.s.toList u.s.toList = true
  · left; exact ⟨rfl, rfl, h5, by rw [if_pos h5]⟩
  · by_cases h6 : (v.s.toList == u.s.toList) = true
    · right; right; exact ⟨rfl, rfl, by simpa using h5, h6, by rw [if_neg h5, if_pos h6]⟩
    · right; left; exact ⟨rfl, rfl, by simpa using h5, by simpa using h6, by rw [if_neg h5, if_neg h6]⟩
theorem cmpL_self (l : List V) (k : Nat) (u u' : V) (l' : List V) (h : l[k]? = some u) (h' : l'[k]? = some u') : cmpL (l.drop k) (l'.drop k) = orI (u.cmp u') (cmpL (l.drop (k + 1)) (l'.drop (k + 1))) := by
  obtain ⟨h1, rfl⟩ := List.getElem?_eq_some_iff.1 h
  obtain ⟨h2, rfl⟩ := List.getElem?_eq_some_iff.1 h'
  rw [List.drop_eq_getElem_cons h1, List.drop_eq_getElem_cons h2, cmpL]
theorem cmpL_end (l l' : List V) (k : Nat) (h : k ≤ l.length) (h' : k ≤ l'.length) (he : k = l.length ∨ k = l'.length) : cmpL (l.drop k) (l'.drop k) = if l.length < l'.length then -1 else if l'.length < l.length then 1 else 0 := by
  by_cases h1 : l.length < l'.length
  · obtain rfl : k = l.length := by omega
    rw [List.drop_length, List.drop_eq_getElem_cons h1, cmpL, if_pos h1]
  · by_cases h2 : l'.length < l.length
    · obtain rfl : k = l'.length := by omega
      rw [List.drop_length, List.drop_eq_getElem_cons h2, cmpL, if_neg h1, if_pos h2]
    · have e1 : k = l.length := by omega
      have e2 : k = l'.length := by omega
      rw [if_neg h1, if_neg h2]
      conv => lhs; rw [show l.drop k = [] by rw [e1]; exact List.drop_length, show l'.drop k = [] by rw [e2]; exact List.drop_length]
      rw [cmpL]
theorem Lies.form {W : World} {d : Nat} {v : V} {cs : List Value} (h : Lies W d v cs) : ∃ (k n : Int) (s : ByteArray) (a : Option Addr) (m c : Nat), cs = [.int .i64 k, .int .i64 n, .string s, .slice a m c] := by
  cases d with
  | zero => exact h.elim
  | succ d => obtain ⟨a, c, rows, rfl, _⟩ := h; exact ⟨_, _, _, _, _, _, rfl⟩
end Go.Proofs.Ytipmbcalnnomjaa
namespace Go.Proofs.Ytipmbcalnnomjaa
open Go.RowKit
set_option linter.unusedVariables false
set_option linter.unusedSimpArgs false

end Go.Proofs.Ytipmbcalnnomjaa
namespace Go.Proofs.Ytipmbcalnnomjaa
open Go.RowKit
set_option linter.unusedVariables false
set_option linter.unusedSimpArgs false

end Go.Proofs.Ytipmbcalnnomjaa
namespace Go.Proofs.Ytipmbcalnnomjaa
open Go.RowKit
set_option linter.unusedVariables false
set_option linter.unusedSimpArgs false

end Go.Proofs.Ytipmbcalnnomjaa
