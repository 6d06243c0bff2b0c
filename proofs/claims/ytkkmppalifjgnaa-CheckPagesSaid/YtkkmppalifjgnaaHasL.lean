/-
  Walked: the law's has.
-/
import Derived.Test.YtkkmppalifjgnaaObjsE
namespace Go.Proofs.Ytkkmppalifjgnaa
open Go.RowKit
set_option linter.unusedVariables false
set_option linter.unusedSimpArgs false

set_option maxHeartbeats 1000000 in
set_option maxRecDepth 100000 in
theorem lawhas_any (x : Int) (ad : Option Addr) (cap : Nat) (ls : List Int) (w : World) (hr : RowOf w ad (intsV ls)) (hl : ls.length ≤ 1000000000) :
    Calls Try.prog 18 #[.slice ad ls.length cap, .int .i64 x] w (BoolTo (decide (x ∈ ls)) w) := by
  go_enter Try.func18, Try.ntmps18
  go_wp2_with fail
  go_loopw [5] (fun i W => ∃ k : Nat, k ≤ ls.length ∧ i = .int .i64 k ∧ Hid (∀ y ∈ ls.take k, y ≠ x) ∧ Pure w W) (fun i _ => ls.length - (intOf i).toNat)
  case atStart => exact ⟨0, Nat.zero_le _, rfl, Lib.hid (fun y hy => by simp at hy), Ext.refl _ _⟩
  case round =>
    obtain ⟨k, hk, rfl, HNo, hP⟩ := hrel
    by_cases hlt : k < ls.length
    · have hki : (k : Int) < (ls.length : Int) := by omega
      have hk0 : (0 : Int) ≤ (k : Int) := by omega
      obtain ⟨b, o, rfl, h0⟩ := iV_at (hr.ext hP (fun _ _ => id)) k hlt
      have HT := Lib.hid (List.take_succ_eq_append_getElem hlt)
      have HM := Lib.hid (List.getElem_mem hlt)
      generalize ls[k] = y at *
      by_cases hy : y = x
      · subst hy
        have HY : Hid (decide (y ∈ ls) = true) := Lib.hid (decide_eq_true HM.out)
        clear HM HT
        go_wp2_with fail
        go_ret
        exact ⟨by rw [HY.out]; rfl, hP⟩
      · have hyb : (y == x) = false := by simpa using hy
        have HN : Hid (∀ z ∈ ls.take (k + 1), z ≠ x) := Lib.hid (by
          rw [HT.out]
          intro z hz
          rcases List.mem_append.1 hz with hz | hz
          · exact HNo.out z hz
          · rw [List.mem_singleton.1 hz]; exact hy)
        clear HM HT
        go_wp2_with fail
        go_roundw
        case rel => exact ⟨k + 1, by omega, by go_num, HN, hP⟩
        case measure => simp [intOf]; omega
    · have hki : ¬ (k : Int) < (ls.length : Int) := by omega
      have HY : Hid (decide (x ∈ ls) = false) := Lib.hid (decide_eq_false fun hx => by
        have := HNo.out x (by rwa [List.take_of_length_le (by omega)])
        exact this rfl)
      go_wp2_with fail
      go_ret
      exact ⟨by rw [HY.out]; rfl, hP⟩
end Go.Proofs.Ytkkmppalifjgnaa
