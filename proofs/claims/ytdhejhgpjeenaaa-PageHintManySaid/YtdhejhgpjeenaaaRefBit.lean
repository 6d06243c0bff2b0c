/-
  Walked: the reference's own bit of a number.
-/
import Derived.Test.YtdhejhgpjeenaaaWalks
namespace Go.Proofs.Ytdhejhgpjeenaaa
open Go.RowKit
set_option linter.unusedVariables false
set_option maxRecDepth 100000 in
theorem refbit_any (x n : Nat) (w : World) (hx : x < 4294967296) (hn : n ≤ 1000) :
    Calls Try.prog 68 #[.int .u32 x, .int .i64 n] w fun e w' => e = .returned (.bool (x.testBit n)) ∧ w' = w := by
  go_enter Try.func68, Try.ntmps68
  go_wp2_with fail
  go_loopw [0, 5] (fun v i w' => ∃ k : Nat, k ≤ n ∧ i = .int .i64 k ∧ v = .int .u32 ((x / 2 ^ k : Nat) : Int) ∧ w' = w) (fun _ i _ => n - (intOf i).toNat)
  case atStart => exact ⟨0, Nat.zero_le _, rfl, by simp, rfl⟩
  case round =>
    obtain ⟨k, hk, rfl, rfl, hw⟩ := hrel
    obtain rfl := hw.symm
    obtain ⟨y, hy⟩ : ∃ y, y = x / 2 ^ k := ⟨_, rfl⟩
    have hyl : y ≤ x := by rw [hy]; exact Nat.div_le_self _ _
    rw [← hy]
    have HY := Lib.hid hy
    clear hy
    by_cases hlt : k < n
    · have hki : (k : Int) < (n : Int) := by omega
      go_wp2_with fail
      go_roundw
      case rel => exact ⟨k + 1, by omega, by go_num, by rw [Nat.pow_succ, ← Nat.div_div_eq_div_mul, ← HY.out]; go_num, by first | rfl | trivial⟩
      case measure => simp [intOf]; omega
    · have hki : ¬ (k : Int) < (n : Int) := by omega
      have hkn : k = n := by omega
      have HK := Lib.hid hkn
      clear hkn
      go_wp2_with fail
      go_ret
      refine ⟨?_, rfl⟩
      rw [Nat.testBit_eq_decide_div_mod_eq, ← HK.out, ← HY.out]
      have ht : ((y : Int) % 2 == 1) = decide (y % 2 = 1) := by rw [Bool.eq_iff_iff]; simp; omega
      show Ending.returned (.bool ((y : Int) % 2 == 1)) = _
      rw [ht]
end Go.Proofs.Ytdhejhgpjeenaaa
