import Derived.Test.YtnpiemcfbnpfdaaGreatDocPlSp
import Derived.Test.YtnpiemcfbnpfdaaGreatLiesInSp
import Derived.Test.YtnpiemcfbnpfdaaGreatMakesSp
import Derived.Test.YtnpiemcfbnpfdaaGreatDocOkSp
import Derived.Test.YtnpiemcfbnpfdaaGreatSqSp
set_option linter.unusedVariables false
set_option linter.unusedSimpArgs false
namespace Go.Proofs.YtnpiemcfbnpfdaaGreat
open Go.RowKit
mutual
def V.turn (to : List Int) : V → V
 | .mk k n s l => if k = 8 then (if 1 ≤ n ∧ n ≤ to.length then refV (to.getD (n - 1).toNat 0) else nullV) else if (k == 6 || k == 7) = true then .mk k n s (turnL to l) else .mk k n s l
def turnL (to : List Int) : List V → List V
 | [] => []
 | v :: l => v.turn to :: turnL to l
end
mutual
def V.refs : V → List Int
 | .mk k n _ l => if k = 8 then [n] else if (k == 6 || k == 7) = true then refsL l else []
def refsL : List V → List Int
 | [] => []
 | v :: l => v.refs ++ refsL l
end
theorem refs_eq (v : V) : v.refs = if v.kind = 8 then [v.n] else if v.holds = true then refsL v.l else [] := by cases v; rw [V.refs]; rfl
mutual
theorem mem_more (x : Int) : ∀ (v : V) (S : List Int), x ∈ v.more S ↔ x ∈ S ∨ x ∈ v.refs
 | .mk k n s l, S => by
   rw [V.more, V.refs]
   by_cases h8 : k = 8
   ·subst h8
    by_cases hc : S.contains n = false
    ·rw [if_pos ⟨rfl, hc⟩, if_pos rfl, List.mem_append]
    ·have hm : n ∈ S := by simpa using hc
     rw [if_neg (fun h => hc h.2), if_neg (by decide), if_pos rfl, List.mem_singleton];exact ⟨Or.inl, fun h => h.elim id (fun e => e ▸ hm)⟩
   ·rw [if_neg (fun h => h8 h.1), if_neg h8]
    split
    ·exact mem_moreL x l S
    ·simp
theorem mem_moreL (x : Int) : ∀ (l : List V) (S : List Int), x ∈ moreL l S ↔ x ∈ S ∨ x ∈ refsL l
 | [], S => by rw [moreL, refsL]; simp
 | v :: l, S => by rw [moreL, refsL, mem_moreL x l, mem_more x v, List.mem_append, or_assoc]
end
theorem mem_more0 (x : Int) (v : V) : x ∈ v.more [] ↔ x ∈ v.refs := by rw [mem_more]; simp
theorem find_kind {v : V} {key : ByteArray} {i : Nat} (h : v.find key = some i) : v.kind = 7 := by
 unfold V.find at h
 by_cases h7 : v.kind = 7
 ·exact h7
 ·rw [if_neg h7] at h; cases h
