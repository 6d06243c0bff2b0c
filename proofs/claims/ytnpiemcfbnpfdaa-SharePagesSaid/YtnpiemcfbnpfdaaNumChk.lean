/-
  Walked: may a number be? (both)
-/
import Derived.Test.YtnpiemcfbnpfdaaDepth2
namespace Go.Proofs.Ytnpiemcfbnpfdaa
open Go.RowKit
set_option linter.unusedVariables false
set_option linter.unusedSimpArgs false

/-- which error a number has -/
def numE (k n : Int) (s : ByteArray) (len : Nat) : Int :=
  if s.toList = [] ∧ len = 0 ∧ ((k = 2 ∧ -2147483647 ≤ n ∧ n ≤ 2147483647) ∨ (k = 3 ∧ -2147483647000000 ≤ n ∧ n ≤ 2147483647000000)) then 0 else 2
set_option maxHeartbeats 1000000 in
set_option maxRecDepth 100000 in
theorem numcheck_any (k n : Int) (s : ByteArray) (a : Option Addr) (len c : Nat) (w : World) :
    Calls Try.prog 79 #[.agg #[.int .i64 k, .int .i64 n, .string s, .slice a len c]] w (IntTo (numE k n s len) w) := by
  obtain ⟨E, hE⟩ : ∃ E, E = numE k n s len := ⟨_, rfl⟩
  rw [← hE]
  unfold numE at hE
  have HE := Lib.hid hE
  clear hE
  have hcase : k = 2 ∨ k = 3 ∨ (¬ k = 2 ∧ ¬ k = 3) := by omega
  rcases hcase with rfl | rfl | ⟨n2, n3⟩
  all_goals
    by_cases lo2 : n < -2147483647 <;> by_cases hi2 : 2147483647 < n <;> by_cases lo3 : n < -2147483647000000 <;> by_cases hi3 : 2147483647000000 < n
  all_goals
    first
      | (exfalso; omega)
      | (go_enter Try.func79, Try.ntmps79
         go_wp2_with fail
         all_goals
           go_ret
           refine ⟨?_, ext_alloc _ _⟩
           rw [HE.out]
           split
           · next h => first | rfl | (exfalso; obtain ⟨h1, h2, h3⟩ := h; first | contradiction | omega | (rcases h3 with ⟨h6, h4, h5⟩ | ⟨h6, h4, h5⟩ <;> first | omega | contradiction | (clear h6; omega)))
           · next h => first | rfl | (exfalso; apply h; refine ⟨?_, ?_, ?_⟩ <;> first | assumption | omega | (left; refine ⟨trivial, ?_, ?_⟩ <;> omega) | (right; refine ⟨trivial, ?_, ?_⟩ <;> omega)))
end Go.Proofs.Ytnpiemcfbnpfdaa
