/-
  Plain: the order of values is total.
-/
import Derived.Test.YtiakphjkcpbccaaCmp
namespace Go.Proofs.Ytiakphjkcpbccaa
open Go.RowKit
set_option linter.unusedVariables false

/-- how three comparisons go together -/
def Tr (x y z : Int) : Prop := (x = 0 → z = y) ∧ (y = 0 → z = x) ∧ (x = y → z = x)
theorem Tr.or {x y z x' y' z' : Int} (h : Tr x y z) (h' : Tr x' y' z') : Tr (orI x x') (orI y y') (orI z z') := by
  obtain ⟨h1, h2, h3⟩ := h
  obtain ⟨k1, k2, k3⟩ := h'
  unfold Tr orI
  by_cases hx : x = 0
  · have hz := h1 hx
    subst hx
    subst hz
    by_cases hy : z = 0
    · subst hy
      simp only [if_true]
      exact ⟨k1, k2, k3⟩
    · simp only [if_true, if_neg hy]
      refine ⟨?_, ?_, ?_⟩ <;> intro e <;> first | trivial | exact absurd e hy | exact e.symm
  · by_cases hy : y = 0
    · have hz := h2 hy
      subst hy
      subst hz
      simp only [if_true, if_neg hx]
      refine ⟨?_, ?_, ?_⟩ <;> intro e <;> first | trivial | exact absurd e hx
    · simp only [if_neg hx, if_neg hy]
      refine ⟨fun e => absurd e hx, fun e => absurd e hy, fun e => ?_⟩
      have hz := h3 e
      rw [if_neg (by rw [hz]; exact hx), hz]
theorem tr_cmpI (a b c : Int) : Tr (cmpI a b) (cmpI b c) (cmpI a c) := by
  unfold Tr cmpI
  refine ⟨fun h => ?_, fun h => ?_, fun h => ?_⟩ <;> (repeat' split) <;> (repeat' split at h) <;> first | rfl | omega
theorem tr_bytes : ∀ a b c : List UInt8, Tr (Lib.compareBytes a b) (Lib.compareBytes b c) (Lib.compareBytes a c)
  | [], [], c => ⟨fun _ => rfl, fun h => h, fun h => h.symm⟩
  | [], b :: q, [] => by unfold Tr Lib.compareBytes; decide
  | [], b :: q, c :: r => by
    simp only [Lib.compareBytes]
    exact ⟨fun h => (by cases h), fun _ => rfl, fun _ => rfl⟩
  | a :: p, [], [] => by unfold Tr Lib.compareBytes; decide
  | a :: p, [], c :: r => by
    simp only [Lib.compareBytes]
    exact ⟨fun h => (by cases h), fun h => (by cases h), fun h => (by cases h)⟩
  | a :: p, b :: q, [] => by
    simp only [Lib.compareBytes]
    exact ⟨fun _ => rfl, fun h => (by cases h), fun h => h.symm⟩
  | a :: p, b :: q, c :: r => by
    have ih := tr_bytes p q r
    have h := (tr_cmpI a.toNat b.toNat c.toNat).or ih
    have e : ∀ (x y : UInt8) (p' q' : List UInt8), Lib.compareBytes (x :: p') (y :: q') = orI (cmpI x.toNat y.toNat) (Lib.compareBytes p' q') := fun x y p' q' => by
      rw [Lib.compareBytes, orI, cmpI]
      have h1 : x < y ↔ (x.toNat : Int) < (y.toNat : Int) := by rw [UInt8.lt_iff_toNat_lt]; omega
      have h2 : y < x ↔ (y.toNat : Int) < (x.toNat : Int) := by rw [UInt8.lt_iff_toNat_lt]; omega
      by_cases g1 : x < y
      · rw [if_pos g1, if_pos (h1.1 g1)]; rfl
      · rw [if_neg g1, if_neg (fun h => g1 (h1.2 h))]
        by_cases g2 : y < x
        · rw [if_pos g2, if_pos (h2.1 g2)]; rfl
        · rw [if_neg g2, if_neg (fun h => g2 (h2.2 h))]; rfl
    rw [e, e, e]
    exact h
mutual
theorem tr_cmp : ∀ a b c : V, Tr (a.cmp b) (b.cmp c) (a.cmp c)
  | .mk k n s l, .mk k' n' s' l', .mk k'' n'' s'' l'' => by
    simp only [V.cmp]
    exact ((tr_cmpI k k' k'').or ((tr_cmpI n n' n'').or (tr_bytes _ _ _))).or (tr_cmpL l l' l'')
theorem tr_cmpL : ∀ a b c : List V, Tr (cmpL a b) (cmpL b c) (cmpL a c)
  | [], [], c => ⟨fun _ => rfl, fun h => by rw [cmpL]; exact h, fun h => by rw [← h]⟩
  | [], b :: q, [] => by simp only [cmpL]; unfold Tr; decide
  | [], b :: q, c :: r => by
    simp only [cmpL]
    exact ⟨fun h => (by cases h), fun _ => rfl, fun _ => rfl⟩
  | a :: p, [], [] => by simp only [cmpL]; unfold Tr; decide
  | a :: p, [], c :: r => by
    simp only [cmpL]
    exact ⟨fun h => (by cases h), fun h => (by cases h), fun h => (by cases h)⟩
  | a :: p, b :: q, [] => by
    simp only [cmpL]
    exact ⟨fun _ => rfl, fun h => (by cases h), fun h => h.symm⟩
  | a :: p, b :: q, c :: r => by
    simp only [cmpL]
    exact (tr_cmp a b c).or (tr_cmpL p q r)
end
theorem cmpI_self (x : Int) : cmpI x x = 0 := by unfold cmpI; rw [if_neg (by omega), if_neg (by omega)]
theorem cmpI_anti (x y : Int) : cmpI y x = 0 - cmpI x y := by unfold cmpI; (repeat' split) <;> omega
theorem orI_anti {x y x' y' : Int} (h : x' = 0 - x) (h' : y' = 0 - y) : orI x' y' = 0 - orI x y := by
  unfold orI
  by_cases e : x = 0
  · rw [if_pos e, if_pos (by omega)]; exact h'
  · rw [if_neg e, if_neg (by omega)]; exact h
theorem bytes_self : ∀ a : List UInt8, Lib.compareBytes a a = 0
  | [] => rfl
  | a :: p => by rw [Lib.compareBytes, if_neg (by simp), if_neg (by simp)]; exact bytes_self p
theorem bytes_anti : ∀ a b : List UInt8, Lib.compareBytes b a = 0 - Lib.compareBytes a b
  | [], [] => rfl
  | [], _ :: _ => rfl
  | _ :: _, [] => rfl
  | a :: p, b :: q => by
    rw [Lib.compareBytes, Lib.compareBytes]
    by_cases h1 : a < b
    · have h2 : ¬ b < a := by rw [UInt8.lt_iff_toNat_lt] at *; omega
      rw [if_neg h2, if_pos h1, if_pos h1]; rfl
    · by_cases h2 : b < a
      · rw [if_pos h2, if_neg h1, if_pos h2]; rfl
      · rw [if_neg h2, if_neg h1, if_neg h1, if_neg h2]; exact bytes_anti p q
mutual
theorem cmp_self : ∀ a : V, a.cmp a = 0
  | .mk k n s l => by
    simp only [V.cmp, cmpI_self, cmpS, bytes_self, cmp_selfL l, orI]
    decide
theorem cmp_selfL : ∀ a : List V, cmpL a a = 0
  | [] => by rw [cmpL]
  | a :: p => by rw [cmpL, cmp_self a, cmp_selfL p]; rfl
end
mutual
theorem cmp_anti : ∀ a b : V, b.cmp a = 0 - a.cmp b
  | .mk k n s l, .mk k' n' s' l' => by
    simp only [V.cmp]
    exact orI_anti (orI_anti (cmpI_anti k k') (orI_anti (cmpI_anti n n') (bytes_anti _ _))) (cmp_antiL l l')
theorem cmp_antiL : ∀ a b : List V, cmpL b a = 0 - cmpL a b
  | [], [] => by simp only [cmpL]; rfl
  | [], _ :: _ => by simp only [cmpL]; rfl
  | _ :: _, [] => by simp only [cmpL]; rfl
  | a :: p, b :: q => by
    simp only [cmpL]
    exact orI_anti (cmp_anti a b) (cmp_antiL p q)
end
def Un (x : Int) : Prop := x = -1 ∨ x = 0 ∨ x = 1
theorem Un.or {x y : Int} (h : Un x) (h' : Un y) : Un (orI x y) := by unfold orI; split <;> assumption
theorem un_cmpI (x y : Int) : Un (cmpI x y) := by unfold cmpI Un; (repeat' split) <;> omega
theorem un_bytes : ∀ a b : List UInt8, Un (Lib.compareBytes a b)
  | [], [] => Or.inr (Or.inl rfl)
  | [], _ :: _ => Or.inl rfl
  | _ :: _, [] => Or.inr (Or.inr rfl)
  | a :: p, b :: q => by
    rw [Lib.compareBytes]
    split
    · exact Or.inl rfl
    · split
      · exact Or.inr (Or.inr rfl)
      · exact un_bytes p q
mutual
theorem un_cmp : ∀ a b : V, Un (a.cmp b)
  | .mk k n s l, .mk k' n' s' l' => by
    simp only [V.cmp]
    exact Un.or (Un.or (un_cmpI _ _) (Un.or (un_cmpI _ _) (un_bytes _ _))) (un_cmpL l l')
theorem un_cmpL : ∀ a b : List V, Un (cmpL a b)
  | [], [] => by rw [cmpL]; exact Or.inr (Or.inl rfl)
  | [], _ :: _ => by rw [cmpL]; exact Or.inl rfl
  | _ :: _, [] => by rw [cmpL]; exact Or.inr (Or.inr rfl)
  | a :: p, b :: q => by rw [cmpL]; exact Un.or (un_cmp a b) (un_cmpL p q)
end
theorem total (a b c : V) : (0 < a.cmp b ∨ 0 < b.cmp c ∨ a.cmp c ≤ 0) ∧ (a.cmp b ≠ 0 ∨ b.cmp c ≠ 0 ∨ a.cmp c = 0) := by
  obtain ⟨h1, h2, h3⟩ := tr_cmp a b c
  rcases un_cmp a b with e1 | e1 | e1 <;> rcases un_cmp b c with e2 | e2 | e2 <;> rw [e1, e2] at h1 h2 h3 <;> omega
end Go.Proofs.Ytiakphjkcpbccaa
