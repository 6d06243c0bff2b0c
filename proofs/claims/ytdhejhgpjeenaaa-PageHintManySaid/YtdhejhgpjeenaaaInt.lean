/-
  Single bits of an int: the laws of '&', '&^' and shifts by a remainder of 8.
-/
import Derived.WalkKit
namespace Go.Proofs.Ytdhejhgpjeenaaa
open Go.RowKit

theorem ofInt_i64 (a : Nat) (ha : a < 18446744073709551616) : (BitVec.ofInt 64 (a : Int)).toNat = a := by
  rw [BitVec.ofInt_natCast, BitVec.toNat_ofNat]; exact Nat.mod_eq_of_lt (by omega)
theorem i64_and_nat (a b : Nat) (ha : a < 9223372036854775808) (hb : b < 9223372036854775808) : bits .and .i64 (a : Int) (b : Int) = ((a &&& b : Nat) : Int) := by
  have hx : a &&& b < 2 ^ 63 := Nat.and_lt_two_pow _ (by omega)
  show IntKind.i64.wrap ((BitVec.ofInt 64 (a : Int) &&& BitVec.ofInt 64 (b : Int)).toNat : Int) = _
  rw [BitVec.toNat_and, ofInt_i64 a (by omega), ofInt_i64 b (by omega)]
  exact IntWalk.i64_in _ (by omega)
theorem i64_and7 (n : Nat) (h : n < 9223372036854775808) : bits .and .i64 (n : Int) 7 = ((n % 8 : Nat) : Int) := by
  have := i64_and_nat n 7 h (by omega)
  rw [show (7 : Nat) = 2 ^ 3 - 1 from rfl, Nat.and_two_pow_sub_one_eq_mod] at this
  exact this
theorem and_not7 (a : Nat) (h : a < 9223372036854775808) : a &&& 18446744073709551608 = 8 * (a / 8) := by
  apply Nat.eq_of_testBit_eq
  intro i
  rw [Nat.testBit_and, show (18446744073709551608 : Nat) = 2 ^ 64 - (7 + 1) from rfl, Nat.testBit_two_pow_sub_succ (by decide)]
  rw [show 8 * (a / 8) = 2 ^ 3 * (a / 2 ^ 3) from rfl, Nat.testBit_two_pow_mul, Nat.testBit_div_two_pow]
  by_cases h3 : 3 ≤ i
  · have e7 : Nat.testBit 7 i = false := Nat.testBit_lt_two_pow (Nat.lt_of_lt_of_le (by decide : 7 < 2 ^ 3) (Nat.pow_le_pow_right (by decide) h3))
    by_cases h64 : i < 64
    · simp [h3, h64, e7, show i - 3 + 3 = i from by omega]
    · have : a.testBit i = false := Nat.testBit_lt_two_pow (Nat.lt_of_lt_of_le (by omega : a < 2 ^ 64) (Nat.pow_le_pow_right (by decide) (by omega)))
      simp [h3, h64, this, show i - 3 + 3 = i from by omega]
  · have : i = 0 ∨ i = 1 ∨ i = 2 := by omega
    rcases this with rfl | rfl | rfl
    all_goals first | (simp; done) | (simp; intro _; decide)
theorem i64_andNot7 (n : Nat) (h : n < 9223372036854775808) : bits .andNot .i64 (n : Int) 7 = ((8 * (n / 8) : Nat) : Int) := by
  show IntKind.i64.wrap ((BitVec.ofInt 64 (n : Int) &&& ~~~ BitVec.ofInt 64 7).toNat : Int) = _
  rw [BitVec.toNat_and, ofInt_i64 n (by omega), show (~~~ BitVec.ofInt 64 7).toNat = 18446744073709551608 from by decide, and_not7 n h]
  exact IntWalk.i64_in _ (by omega)
theorem shl1_run {P : Program} (j : Nat) (hj : j < 8) (w : World) : (Op.shift .shl .u8 1 .i64 (j : Int)).run P w = .ok (.int .u8 ((2 ^ j : Nat) : Int)) w := by
  have h : j = 0 ∨ j = 1 ∨ j = 2 ∨ j = 3 ∨ j = 4 ∨ j = 5 ∨ j = 6 ∨ j = 7 := by omega
  rcases h with rfl | rfl | rfl | rfl | rfl | rfl | rfl | rfl <;> rfl
theorem shr128_run {P : Program} (j : Nat) (hj : j < 8) (w : World) : (Op.shift .shr .u8 128 .i64 (j : Int)).run P w = .ok (.int .u8 ((2 ^ (7 - j) : Nat) : Int)) w := by
  have h : j = 0 ∨ j = 1 ∨ j = 2 ∨ j = 3 ∨ j = 4 ∨ j = 5 ∨ j = 6 ∨ j = 7 := by omega
  rcases h with rfl | rfl | rfl | rfl | rfl | rfl | rfl | rfl <;> rfl
theorem u8_or_nat' (a b : Nat) (ha : a < 256) (hb : b < 256) : bits .or .u8 (a : Int) (b : Int) = ((a ||| b : Nat) : Int) := u8_or_nat a b ha hb
end Go.Proofs.Ytdhejhgpjeenaaa
