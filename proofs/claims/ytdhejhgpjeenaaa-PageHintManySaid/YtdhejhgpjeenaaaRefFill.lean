/-
  Walked: the reference's low and fill.
-/
import Derived.Test.YtdhejhgpjeenaaaTabPlain
import Derived.Test.YtdhejhgpjeenaaaTs26
namespace Go.Proofs.Ytdhejhgpjeenaaa
open Go.RowKit C26
set_option linter.unusedVariables false

set_option maxRecDepth 100000 in
theorem low_any (x n : Nat) (w : World) (hx : x < 4294967296) (hn : n ≤ 32) :
    Calls Try.prog 71 #[.int .u32 x, .int .i64 n] w fun e w' => e = .returned (.int .i64 ((x % 2 ^ n : Nat) : Int)) ∧ w' = w := by
  obtain ⟨R, hR⟩ : ∃ R, R = x % 2 ^ n := ⟨_, rfl⟩
  rw [← hR]
  have HR := Lib.hid hR
  clear hR
  go_enter Try.func71, Try.ntmps71
  go_wp2_with fail
  go_loop [5, 6] (fun m i => ∃ k M : Nat, k ≤ n ∧ i = .int .i64 k ∧ m = .int .u64 M ∧ Hid (M = 2 ^ k) ∧ 1 ≤ M ∧ M ≤ 4294967296) (fun _ i => n - (intOf i).toNat)
  case atStart => exact ⟨0, 1, Nat.zero_le _, rfl, rfl, Lib.hid rfl, by omega, by omega⟩
  case round =>
    obtain ⟨k, M, hk, rfl, rfl, HM, h1, h2⟩ := hrel
    by_cases hlt : k < n
    · have hki : (k : Int) < (n : Int) := by omega
      have HM2 : Hid (M * 2 = 2 ^ (k + 1)) := Lib.hid (by rw [HM.out, Nat.pow_succ])
      have h3 : M * 2 ≤ 4294967296 := by rw [HM2.out]; exact Nat.pow_le_pow_right (by decide) (show k + 1 ≤ 32 by omega)
      go_wp2_with fail
      go_round
      case rel => exact ⟨k + 1, M * 2, by omega, by go_num, by go_num, HM2, by omega, h3⟩
      case measure => simp [intOf]; omega
    · have hki : ¬ (k : Int) < (n : Int) := by omega
      have HRM : Hid (R = x % M) := Lib.hid (by rw [HR.out, HM.out]; congr 2; omega)
      have hmod : (x : Int) % (M : Int) = ((x % M : Nat) : Int) := by omega
      have hlt2 : x % M < 4294967296 := Nat.lt_of_le_of_lt (Nat.mod_le _ _) hx
      obtain ⟨q, hq⟩ : ∃ q, q = x % M := ⟨_, rfl⟩
      rw [← hq] at hmod hlt2 HRM
      clear hq
      go_wp2_with fail
      go_ret
      exact ⟨by rw [HRM.out]; rfl, rfl⟩

set_option maxRecDepth 100000 in
theorem tsfill {T : TypeId} {w W : World} {cells : List Value} {bs : List Bool} {a : Option Addr} {c : Nat} (h : TS T w W cells bs a c) (n wd x : Nat) (hlen : bs.length ≤ 10000000) (hn : n ≤ 200000) (hwd : wd ≤ 32) (hx : x < 4294967296) :
    Calls Try.prog 49 #[.slice a bs.length c, .int .i64 n, .int .i64 wd, .int .u32 x] W (PutRes T w cells (align (bs ++ fillN n wd x)) W) := by
  have HL := Lib.hid (fun W => low_any x wd W hx hwd)
  have hlow : x % 2 ^ wd < 2 ^ wd := Nat.mod_lt _ (Nat.two_pow_pos wd)
  obtain ⟨y, hy⟩ : ∃ y, y = x % 2 ^ wd := ⟨_, rfl⟩
  have hy32 : y < 4294967296 := hy ▸ Nat.lt_of_le_of_lt (Nat.mod_le _ _) hx
  have HY := Lib.hid hy
  rw [← hy] at hlow HL
  have HLow := Lib.hid hlow
  clear hy hlow
  go_enter Try.func49, Try.ntmps49
  go_wp2_with fail
  go_loopw [0, 9] (fun v i W' => ∃ (k : Nat) (oa : Option Addr) (oc : Nat), k ≤ n ∧ i = .int .i64 k ∧ v = .slice oa (bs ++ fillN k wd x).length oc ∧ TS T w W' cells (bs ++ fillN k wd x) oa oc ∧ Ext (fun i => w.heap.size < i) W W') (fun _ i _ => n - (intOf i).toNat)
  case atStart =>
    have e : fillN 0 wd x = [] := List.length_eq_zero_iff.1 (by rw [fillN_len, Nat.zero_mul])
    exact ⟨0, a, c, Nat.zero_le _, rfl, by rw [e, List.append_nil], by rw [e, List.append_nil]; exact h, Ext.refl _ _⟩
  case round =>
    obtain ⟨k, oa, oc, hk, rfl, rfl, hT, hE⟩ := hrel
    have hlk : (bs ++ fillN k wd x).length ≤ 100000000 := by
      rw [List.length_append, fillN_len]
      have : k * wd ≤ 200000 * 32 := Nat.mul_le_mul (by omega) hwd
      omega
    have HS := Lib.hid (fillN_succ k wd x)
    obtain ⟨pq, hpq⟩ : ∃ p, p = bs ++ fillN k wd x := ⟨_, rfl⟩
    rw [← hpq] at hlk hT ⊢
    have HPQ := Lib.hid hpq
    clear hpq h
    by_cases hlt : k < n
    · have hki : (k : Int) < (n : Int) := by omega
      have HPut := Lib.hid (tsput hT y wd (by omega) hwd hy32 HLow.out)
      have HPS : Hid (pq ++ bitsNum true y wd = bs ++ fillN (k + 1) wd x) := Lib.hid (by rw [HS.out, ← HY.out, HPQ.out, List.append_assoc]; rfl)
      clear hT
      go_wp2_with fail
      refine (HL.out _).mono ?_
      rintro e w2 ⟨rfl, hw2⟩
      obtain rfl := hw2.symm
      go_wp2_with fail
      refine HPut.out.mono ?_
      rintro e w3 ⟨a3, c3, rfl, hT3, hE3⟩
      rw [HPS.out] at hT3
      rw [HPS.out]
      go_wp2_with fail
      go_roundw
      case rel => exact ⟨k + 1, a3, c3, by omega, by go_num, by rw [List.length_append], hT3, hE.trans hE3 (fun _ _ e => e)⟩
      case measure => simp [intOf]; omega
    · have hki : ¬ (k : Int) < (n : Int) := by omega
      obtain rfl : n = k := by omega
      have HF := Lib.hid (tsfull hT (by omega))
      clear hT
      go_wp2_with fail
      refine HF.out.mono ?_
      rintro e w3 ⟨a3, c3, rfl, hT3, hE3⟩
      go_wp2_with fail
      go_ret
      exact ⟨a3, c3, by rw [HPQ.out]; rfl, by rw [← HPQ.out]; exact hT3, hE.trans hE3 (fun _ _ e => e)⟩
end Go.Proofs.Ytdhejhgpjeenaaa
