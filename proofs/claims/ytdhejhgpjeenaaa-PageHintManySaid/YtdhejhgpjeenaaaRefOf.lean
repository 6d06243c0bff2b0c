/-
  Walked: the reference's number of bits.
-/
import Derived.Test.YtdhejhgpjeenaaaNums
import Derived.Test.YtdhejhgpjeenaaaWalks
import Derived.Test.YtdhejhgpjeenaaaOwn
namespace Go.Proofs.Ytdhejhgpjeenaaa
open Go.RowKit
set_option linter.unusedVariables false
/-- bits in the order of their weight, the greatest first -/
def byWt (high : Bool) (l : List Bool) : List Bool := if high then l else l.reverse
theorem byWt_len (high : Bool) (l : List Bool) : (byWt high l).length = l.length := by unfold byWt; cases high <;> simp
theorem byWt_at (high : Bool) (l : List Bool) (k : Nat) (hk : k < l.length) : (byWt high l)[k]'(by rw [byWt_len]; exact hk) = l[if high then k else l.length - 1 - k]'(by split <;> omega) := by
  unfold byWt; cases high
  · simp
  · simp
set_option maxRecDepth 100000 in
theorem refof_any (high : Bool) (ad : Option Addr) (cap : Nat) (l : List Bool) (w : World) (hr : RowOf w ad (l.map Value.bool)) (hl : l.length ≤ 32) :
    Calls Try.prog 69 #[.slice ad l.length cap, .bool high] w fun e w' => e = .returned (.int .u32 ((num high l : Nat) : Int)) ∧ w' = w := by
  have hnum : num high l = msb (byWt high l) := rfl
  have HN := Lib.hid hnum
  clear hnum
  have hbl := Lib.hid (byWt_len high l)
  go_enter Try.func69, Try.ntmps69
  go_wp2_with fail
  go_loopw [5, 6, 7] (fun v i _ w' => ∃ k : Nat, k ≤ l.length ∧ i = .int .i64 k ∧ v = .int .u32 ((msb ((byWt high l).take k) : Nat) : Int) ∧ w' = w) (fun _ i _ _ => l.length - (intOf i).toNat)
  case atStart => exact ⟨0, Nat.zero_le _, rfl, by simp [msb], rfl⟩
  case round =>
    obtain ⟨k, hk, rfl, rfl, hw⟩ := hrel
    obtain rfl := hw.symm
    obtain ⟨y, hy⟩ : ∃ y, y = msb ((byWt high l).take k) := ⟨_, rfl⟩
    rw [← hy]
    by_cases hlt : k < l.length
    · have hki : (k : Int) < (l.length : Int) := by omega
      have hstep : msb ((byWt high l).take (k + 1)) = 2 * y + (l[if high then k else l.length - 1 - k]'(by split <;> omega)).toNat := by
        rw [List.take_add_one, List.getElem?_eq_getElem (by rw [hbl.out]; exact hlt), Option.toList, msb_snoc, ← hy, byWt_at high l k hlt]
      have hlim := msb_lt ((byWt high l).take (k + 1))
      have hpow : 2 ^ ((byWt high l).take (k + 1)).length ≤ 2 ^ 32 := Nat.pow_le_pow_right (by decide) (by rw [List.length_take, hbl.out]; omega)
      rw [hstep] at hlim
      have hlim := Nat.lt_of_lt_of_le hlim (show _ ≤ 4294967296 from hpow)
      have hy32 : 2 * y < 4294967296 := by omega
      have HY := Lib.hid hy
      have HS := Lib.hid hstep
      clear hy hstep hpow
      have e1 : IntKind.u32.wrap (2 * (y : Int)) = 2 * (y : Int) := IntWalk.u32_in _ (by omega)
      have ek : IntKind.i64.wrap ((l.length : Int) - 1) = (l.length : Int) - 1 := IntWalk.i64_in _ (by omega)
      have ek2 : IntKind.i64.wrap ((l.length : Int) - 1 - (k : Int)) = (l.length : Int) - 1 - (k : Int) := IntWalk.i64_in _ (by omega)
      cases high with
      | true =>
        simp only [if_true] at HS hlim
        obtain ⟨b, o, rfl, h0⟩ := hr k (.bool l[k]) (by simp [hlt])
        have hk0 : (0 : Int) ≤ (k : Int) := by omega
        cases hv : l[k] with
        | false =>
          rw [hv] at h0 HS
          clear hv
          go_wp2_with fail
          go_roundw
          case rel => exact ⟨k + 1, by omega, by go_num, by rw [HS.out]; simp, by first | rfl | trivial⟩
          case measure => simp [intOf]; omega
        | true =>
          rw [hv] at h0 HS hlim
          clear hv
          have e2 : IntKind.u32.wrap (2 * (y : Int) + 1) = 2 * (y : Int) + 1 := IntWalk.u32_in _ (by simp at hlim; omega)
          go_wp2_with fail
          go_roundw
          case rel => exact ⟨k + 1, by omega, by go_num, by rw [HS.out]; simp, by first | rfl | trivial⟩
          case measure => simp [intOf]; omega
      | false =>
        simp only [Bool.false_eq_true, if_false] at HS hlim
        obtain ⟨i, hi⟩ : ∃ i : Nat, i = l.length - 1 - k := ⟨_, rfl⟩
        have hi' : (l.length : Int) - 1 - (k : Int) = (i : Int) := by omega
        have hil : i < l.length := by omega
        have hS' : msb ((byWt false l).take (k + 1)) = 2 * y + (l[i]'hil).toNat := by subst hi; exact HS.out
        have hlim' : 2 * y + (l[i]'hil).toNat < 4294967296 := by subst hi; omega
        clear HS hi hlim
        have HS := Lib.hid hS'
        clear hS'
        obtain ⟨b, o, rfl, h0⟩ := hr i (.bool l[i]) (by simp [hil])
        have hi0 : (0 : Int) ≤ (i : Int) := by omega
        have hii : (i : Int) < (l.length : Int) := by omega
        cases hv : l[i] with
        | false =>
          rw [hv] at h0 HS
          clear hv
          go_wp2_with fail
          go_roundw
          case rel => exact ⟨k + 1, by omega, by go_num, by rw [HS.out]; simp, by first | rfl | trivial⟩
          case measure => simp [intOf]; omega
        | true =>
          rw [hv] at h0 HS hlim'
          clear hv
          have e2 : IntKind.u32.wrap (2 * (y : Int) + 1) = 2 * (y : Int) + 1 := IntWalk.u32_in _ (by simp at hlim'; omega)
          go_wp2_with fail
          go_roundw
          case rel => exact ⟨k + 1, by omega, by go_num, by rw [HS.out]; simp, by first | rfl | trivial⟩
          case measure => simp [intOf]; omega
    · have hki : ¬ (k : Int) < (l.length : Int) := by omega
      have ht : (byWt high l).take k = byWt high l := List.take_of_length_le (by rw [hbl.out]; omega)
      rw [ht, ← HN.out] at hy
      have HY := Lib.hid hy
      clear hy ht
      go_wp2_with fail
      go_ret
      exact ⟨by rw [← HY.out]; rfl, by first | rfl | trivial⟩
end Go.Proofs.Ytdhejhgpjeenaaa
