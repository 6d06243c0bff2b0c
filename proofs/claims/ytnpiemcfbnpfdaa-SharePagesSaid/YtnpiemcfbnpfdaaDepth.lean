/-
  How deep a value is; walked: the two Depths, holds, small.
-/
import Derived.Test.YtnpiemcfbnpfdaaVal
namespace Go.Proofs.Ytnpiemcfbnpfdaa
open Go.RowKit
set_option linter.unusedVariables false
set_option linter.unusedSimpArgs false

mutual
/-- how many values there are in one -/
def V.size : V → Nat
  | .mk _ _ _ l => 1 + sizeL l
def sizeL : List V → Nat
  | [] => 0
  | v :: l => v.size + sizeL l
end
mutual
/-- how deep one is -/
def V.depth : V → Nat
  | .mk k _ _ l => if (k == 6 || k == 7) = true then 1 + depthL l else 1
def depthL : List V → Nat
  | [] => 0
  | v :: l => max v.depth (depthL l)
end
theorem size_eq (v : V) : v.size = 1 + sizeL v.l := by cases v; simp [V.size, V.l]
mutual
theorem V.few_size : ∀ (v : V) (x : Int), 0 ≤ x → v.few x = if (v.size : Int) ≤ x then x - v.size else -1
  | .mk _ _ _ l, x, h => by
    rw [V.few, V.size, fewL_size l (x - 1) (by omega)]
    by_cases e : (sizeL l : Int) ≤ x - 1
    · rw [if_pos e, if_pos (by omega)]; omega
    · rw [if_neg e, if_neg (by omega)]
theorem fewL_size : ∀ (l : List V) (x : Int), -1 ≤ x → fewL l x = if (sizeL l : Int) ≤ x then x - sizeL l else -1
  | [], x, h => by
    rw [fewL, sizeL]
    by_cases e : ((0 : Nat) : Int) ≤ x
    · rw [if_pos e]; omega
    · rw [if_neg e]; omega
  | v :: l, x, h => by
    rw [fewL, sizeL]
    by_cases h0 : 0 ≤ x
    · rw [if_pos h0, V.few_size v x h0]
      by_cases e : (v.size : Int) ≤ x
      · rw [if_pos e, fewL_size l _ (by omega)]
        by_cases e2 : (sizeL l : Int) ≤ x - v.size
        · rw [if_pos e2, if_pos (by omega)]; omega
        · rw [if_neg e2, if_neg (by omega)]
      · rw [if_neg e, if_neg (by omega)]
        exact fewL_neg (by decide)
    · rw [if_neg h0, if_neg (by omega)]; omega
end
mutual
theorem V.depth_size : ∀ (v : V), v.depth ≤ v.size
  | .mk k _ _ l => by
    have := depthL_size l
    rw [V.depth, V.size]
    split <;> omega
theorem depthL_size : ∀ (l : List V), depthL l ≤ sizeL l
  | [] => by simp [depthL]
  | v :: l => by
    have h1 := V.depth_size v
    have h2 := depthL_size l
    rw [depthL, sizeL]; omega
end
theorem depthL_snoc (l : List V) (v : V) : depthL (l ++ [v]) = max (depthL l) v.depth := by
  induction l with
  | nil => simp [depthL]
  | cons u l ih => rw [List.cons_append, depthL, depthL, ih, Nat.max_assoc]
theorem sizeL_append (l m : List V) : sizeL (l ++ m) = sizeL l + sizeL m := by
  induction l with
  | nil => simp [sizeL]
  | cons u l ih => rw [List.cons_append, sizeL, sizeL, ih]; omega
theorem size_mem {l : List V} {v : V} (h : v ∈ l) : v.size ≤ sizeL l := by
  induction l with
  | nil => cases h
  | cons u l ih =>
    rw [sizeL]
    rcases List.mem_cons.1 h with rfl | h
    · omega
    · have := ih h; omega
def BoolTo (x : Bool) (w : World) (e : Ending) (w' : World) : Prop := e = .returned (.bool x) ∧ Pure w w'
/-- may a value have others in it? -/
def V.holds (v : V) : Bool := v.kind == 6 || v.kind == 7
theorem holds_iff {v : V} : v.holds = true ↔ v.kind = 6 ∨ v.kind = 7 := by simp [V.holds]
theorem depth_eq (v : V) : v.depth = if v.holds = true then 1 + depthL v.l else 1 := by cases v; rw [V.depth]; rfl
end Go.Proofs.Ytnpiemcfbnpfdaa
