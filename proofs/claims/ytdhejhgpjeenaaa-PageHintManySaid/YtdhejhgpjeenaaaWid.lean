/-
  Plain: how many bits a number has; walked: both ways to tell.
-/
import Derived.Test.YtdhejhgpjeenaaaRefBit
import Derived.Lib.Small
import Derived.Lib.BitFns
import Derived.Lib.Walk
import Derived.Lib.Strings
namespace Go.Proofs.Ytdhejhgpjeenaaa
open Go.RowKit
set_option linter.unusedVariables false

def wid (x : Nat) : Nat := if x = 0 then 0 else x.log2 + 1
theorem wid_le {x n : Nat} : wid x ≤ n ↔ x < 2 ^ n := by
  unfold wid
  split
  · next h => subst h; simp [Nat.two_pow_pos]
  · next h => rw [← Nat.log2_lt h]; omega
theorem lt_wid (x : Nat) : x < 2 ^ wid x := wid_le.1 (Nat.le_refl _)
theorem wid_eq {x n : Nat} (h1 : x < 2 ^ n) (h2 : ∀ m, x < 2 ^ m → n ≤ m) : wid x = n := Nat.le_antisymm (wid_le.2 h1) (h2 _ (lt_wid x))
theorem wid_div (x k : Nat) (h : 2 ^ k ≤ x) : wid x = k + wid (x / 2 ^ k) := by
  refine wid_eq ?_ fun m hm => ?_
  · have := lt_wid (x / 2 ^ k)
    rw [Nat.div_lt_iff_lt_mul (Nat.two_pow_pos k), ← Nat.pow_add] at this
    rwa [Nat.add_comm] 
  · have hkm : k ≤ m := by
      rcases Nat.lt_or_ge m k with h1 | h1
      · have := Nat.pow_le_pow_right (show 0 < 2 by decide) (Nat.le_of_lt h1); omega
      · exact h1
    have : wid (x / 2 ^ k) ≤ m - k := by
      rw [wid_le, Nat.div_lt_iff_lt_mul (Nat.two_pow_pos k), ← Nat.pow_add, Nat.sub_add_cancel hkm]
      exact hm
    omega
theorem wid_mod_succ (x k : Nat) : wid (x % 2 ^ (k + 1)) = if x.testBit k then k + 1 else wid (x % 2 ^ k) := by
  have hp : 0 < 2 ^ k := Nat.two_pow_pos k
  have hm : x % 2 ^ (k + 1) = x % 2 ^ k + 2 ^ k * (x / 2 ^ k % 2) := by rw [Nat.pow_succ, Nat.mod_mul]
  have hlt : x % 2 ^ k < 2 ^ k := Nat.mod_lt _ hp
  rw [Nat.testBit_eq_decide_div_mod_eq]
  by_cases h : x / 2 ^ k % 2 = 1
  · rw [decide_eq_true h, if_pos rfl]
    rw [h] at hm
    refine wid_eq (Nat.mod_lt _ (Nat.two_pow_pos _)) fun m hm' => ?_
    rcases Nat.lt_or_ge m (k + 1) with h1 | h1
    · have := Nat.pow_le_pow_right (show 0 < 2 by decide) (show m ≤ k by omega); omega
    · exact h1
  · rw [decide_eq_false h]
    rw [show x / 2 ^ k % 2 = 0 from by omega, Nat.mul_zero, Nat.add_zero] at hm
    rw [hm]; rfl
theorem wid_32 (x : Nat) (h : x < 4294967296) : wid x ≤ 32 := wid_le.2 h
set_option maxRecDepth 100000 in
theorem refwidth_any (x : Nat) (w : World) (hx : x < 4294967296) :
    Calls Try.prog 46 #[.int .u32 x] w fun e w' => e = .returned (.int .i64 (wid x)) ∧ w' = w := by
  have HX := Lib.hid (Nat.mod_eq_of_lt (show x < 2 ^ 32 from hx))
  go_enter Try.func46, Try.ntmps46
  go_wp2_with fail
  go_loopw [3, 4] (fun v i w' => ∃ k : Nat, k ≤ 32 ∧ i = .int .i64 k ∧ v = .int .i64 (wid (x % 2 ^ k)) ∧ w' = w) (fun _ i _ => 32 - (intOf i).toNat)
  case atStart => exact ⟨0, Nat.zero_le _, rfl, by rw [Nat.pow_zero, Nat.mod_one]; rfl, rfl⟩
  case round =>
    obtain ⟨k, hk, rfl, rfl, hw⟩ := hrel
    obtain rfl := hw.symm
    obtain ⟨y, hy⟩ : ∃ y, y = wid (x % 2 ^ k) := ⟨_, rfl⟩
    rw [← hy]
    by_cases hlt : k < 32
    · have hki : (k : Int) < 32 := by omega
      have HB := Lib.hid (refbit_any x k w hx (by omega))
      have hs := wid_mod_succ x k
      rw [← hy] at hs
      clear hy
      cases hb : x.testBit k with
      | true =>
        rw [hb] at HB hs
        have HS := Lib.hid hs
        clear hs hb
        go_wp2_with fail
        refine HB.out.mono ?_
        rintro e w2 ⟨rfl, hw2⟩
        obtain rfl := hw2.symm
        go_wp2_with fail
        go_roundw
        case rel => exact ⟨k + 1, by omega, by go_num, by rw [HS.out]; go_num, by first | rfl | trivial⟩
        case measure => simp [intOf]; omega
      | false =>
        rw [hb] at HB hs
        have HS := Lib.hid hs
        clear hs hb
        go_wp2_with fail
        refine HB.out.mono ?_
        rintro e w2 ⟨rfl, hw2⟩
        obtain rfl := hw2.symm
        go_wp2_with fail
        go_roundw
        case rel => exact ⟨k + 1, by omega, by go_num, by rw [HS.out]; rfl, by first | rfl | trivial⟩
        case measure => simp [intOf]; omega
    · have hki : ¬ (k : Int) < 32 := by omega
      obtain rfl : k = 32 := by omega
      rw [HX.out] at hy
      have HY := Lib.hid hy
      clear hy
      go_wp2_with fail
      go_ret
      exact ⟨by rw [← HY.out]; rfl, by first | rfl | trivial⟩
theorem tab_get (y : Nat) (h : y < Lib.len8tab.size) : Lib.len8tab[y].toNat = wid y := by
  have all : ∀ i : Fin 256, Lib.len8tab[i.val]!.toNat = wid i.val := by decide +kernel
  have hs : Lib.len8tab.size = 256 := by decide +kernel
  rw [← all ⟨y, by omega⟩, getElem!_pos Lib.len8tab y h]
theorem wid_le8 (y : Nat) (h : y < 256) : wid y ≤ 8 := wid_le.2 h
set_option maxHeartbeats 4000000 in
set_option maxRecDepth 100000 in
theorem len32_int (x : Int) (w : World) (h0 : 0 ≤ x) (h1 : x ≤ 4294967295) :
    Calls Try.prog 51 #[.int .u32 x] w fun e w' => e = .returned (.int .i64 (wid x.toNat)) ∧ w' = w := by
  have hz : (Lib.len8tab.size : Int) = 256 := by decide +kernel
  go_enter Try.func51, Try.ntmps51
  go_wp2
  all_goals (go_ret; refine ⟨congrArg Ending.returned (congrArg (Value.int IntKind.i64) ?_), rfl⟩; rw [tab_get]; clear hz; obtain ⟨x, rfl⟩ := Int.eq_ofNat_of_zero_le h0; rw [Int.toNat_natCast])
  · have e : ((x : Int) / 65536 / 256).toNat = x / 65536 / 256 := by omega
    have s1 := wid_div x 16 (by omega)
    simp only [Nat.reducePow] at s1
    have s2 := wid_div (x / 65536) 8 (by omega)
    simp only [Nat.reducePow] at s2
    have l := wid_le8 (x / 65536 / 256) (by omega)
    rw [e, s1, s2]; generalize wid (x / 65536 / 256) = q at *
    unfold wrap64; omega
  · have e : ((x : Int) / 65536).toNat = x / 65536 := by omega
    have s1 := wid_div x 16 (by omega)
    simp only [Nat.reducePow] at s1
    have l := wid_le8 (x / 65536) (by omega)
    rw [e, s1]; generalize wid (x / 65536) = q at *
    unfold wrap64; omega
  · have e : ((x : Int) / 256).toNat = x / 256 := by omega
    have s1 := wid_div x 8 (by omega)
    simp only [Nat.reducePow] at s1
    have l := wid_le8 (x / 256) (by omega)
    rw [e, s1]; generalize wid (x / 256) = q at *
    unfold wrap64; omega
  · have l := wid_le8 x (by omega)
    have e : (x : Int).toNat = x := by omega
    try rw [e]
    generalize wid x = q at *
    unfold wrap64; omega
theorem width_any (x : Nat) (w : World) (hx : x < 4294967296) :
    Calls Try.prog 22 #[.int .u32 x] w fun e w' => e = .returned (.int .i64 (wid x)) ∧ w' = w := by
  have HL := Lib.hid (len32_int (x : Int) w (by omega) (by omega))
  go_enter Try.func22, Try.ntmps22
  go_wp2_with fail
  refine HL.out.mono ?_
  rintro e w2 ⟨rfl, hw2⟩
  obtain rfl := hw2.symm
  go_wp2_with fail
  go_ret
  exact ⟨by rfl, rfl⟩
end Go.Proofs.Ytdhejhgpjeenaaa
