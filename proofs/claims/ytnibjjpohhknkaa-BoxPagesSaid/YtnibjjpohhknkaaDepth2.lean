/-
  Walked: the program's Depth.
-/
import Derived.Test.YtnibjjpohhknkaaDepth
namespace Go.Proofs.Ytnibjjpohhknkaa
open Go.RowKit
set_option linter.unusedVariables false
set_option linter.unusedSimpArgs false

theorem Lies.one {W : World} {d : Nat} {v : V} {cs : List Value} (h : Lies W d v cs) : cs.toArray.all (fun u => u.oneCell') = true := by
  cases d with
  | zero => exact h.elim
  | succ d =>
    obtain ⟨a, c, rows, rfl, _⟩ := h
    exact all_oneCell_toArray (by intro u hu; simp only [List.mem_cons, List.not_mem_nil, or_false] at hu; rcases hu with rfl | rfl | rfl | rfl <;> rfl)
def zeroCs : List Value := [.int .i64 0, .int .i64 0, .string ⟨#[]⟩, .slice none 0 0]
/-- a new variable holds a value -/
theorem put_new {W : World} {d : Nat} {v : V} {cs : List Value} (C : Array Value) (hC : C = zeroCs.toArray) (h : Lies W d v cs) : (W.alloc (.cells C 24)).there W.heap.size 0 4 ∧ BlockIs ((W.alloc (.cells C 24)).setCells W.heap.size 0 cs) W.heap.size cs 24 ∧ Pure W ((W.alloc (.cells C 24)).setCells W.heap.size 0 cs) := by
  subst hC
  have hB := BlockIs.new W zeroCs 24
  exact ⟨hB.there 4 rfl, hB.setAll cs (by rw [h.len]; rfl), Ext.setCells cs 0 _ (ext_alloc W _) (fun h => absurd h (Nat.lt_irrefl _))⟩
end Go.Proofs.Ytnibjjpohhknkaa
