import Derived.Test.YtipmbcalnnomjaaGreatDocPlTu
import Derived.Test.YtipmbcalnnomjaaGreatLiesInTu
import Derived.Test.YtipmbcalnnomjaaGreatMakesTu
import Derived.Test.YtipmbcalnnomjaaGreatDocOkTu
import Derived.Test.YtipmbcalnnomjaaGreatSqTu
set_option linter.unusedVariables false
set_option linter.unusedSimpArgs false
namespace Go.Proofs.YtipmbcalnnomjaaGreat
open Go.RowKit
mutual
def V.turn (to : List Int) : V → V
 | .mk k n s l => if k = 8 then (if 1 ≤ n ∧ n ≤ to.length then refV (to.getD (n - 1).toNat 0) else nullV) else if (k == 6 || k == 7) = true then .mk k n s (turnL to l) else .mk k n s l
def turnL (to : List Int) : List V → List V
 | [] => []
 | v :: l => v.turn to :: turnL to l
end
theorem turn_eq (to : List Int) (v : V) : v.turn to = if v.kind = 8 then (if 1 ≤ v.n ∧ v.n ≤ to.length then refV (to.getD (v.n - 1).toNat 0) else nullV) else if v.holds = true then .mk v.kind v.n v.s (turnL to v.l) else v := by
 cases v; rw [V.turn]; rfl
theorem turnL_len (to : List Int) (l : List V) : (turnL to l).length = l.length := by
 induction l with
 | nil => simp [turnL]
 | cons u l ih => rw [turnL, List.length_cons, List.length_cons, ih]
theorem turnL_snoc (to : List Int) (l : List V) (u : V) : turnL to (l ++ [u]) = turnL to l ++ [u.turn to] := by
 induction l with
 | nil => simp [turnL]
 | cons x l ih => rw [List.cons_append, turnL, turnL, ih]; rfl
mutual
theorem V.turn_size (to : List Int) : ∀ v : V, (v.turn to).size ≤ v.size
 | .mk k n s l => by
   rw [V.turn]
   have h1 : nullV.size = 1 := by rw [size_eq]; rfl
   have h2 : ∀ x, (refV x).size = 1 := fun x => by rw [size_eq]; rfl
   split
   ·split
    ·rw [h2]; simp [V.size]
    ·rw [h1]; simp [V.size]
   ·split
    ·simp only [V.size]; have := turnL_size to l; omega
    ·exact Nat.le_refl _
theorem turnL_size (to : List Int) : ∀ l : List V, sizeL (turnL to l) ≤ sizeL l
 | [] => by simp [turnL]
 | v :: l => by
   rw [turnL, sizeL, sizeL]
   have := V.turn_size to v
   have := turnL_size to l
   omega
end
def MapTo (w0 : World) (d : Nat) (u : V) (w : World) (e : Ending) (w' : World) : Prop :=
 ∃ cs', e = .returned (.agg cs'.toArray) ∧ LiesIn (fun b => b < w0.heap.size ∨ w.heap.size ≤ b) w' d u cs' ∧ Pure w w'
def turnOb (to : List Int) (o : Ob) : Ob := ⟨o.v.turn to, o.st, o.data⟩
