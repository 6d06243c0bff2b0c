/-
  Walked: the law's same, for two rows of the same numbers.
-/
import Derived.Test.YtkkmppalifjgnaaGreatRStray
namespace Go.Proofs.YtkkmppalifjgnaaGreat
open Go.RowKit
set_option linter.unusedVariables false
set_option linter.unusedSimpArgs false

set_option maxHeartbeats 1000000 in
set_option maxRecDepth 100000 in
theorem same_any (S : List Int) (a : Option Addr) (c : Nat) (a' : Option Addr) (c' : Nat) (w : World) (hR : RowOf w a (intsV S)) (hR' : RowOf w a' (intsV S)) (hl : S.length ≤ 1000000) :
    Calls Tryz.prog 9 #[.slice a S.length c, .slice a' S.length c'] w (BoolTo true w) := by
  obtain ⟨n, hn⟩ : ∃ n, n = S.length := ⟨_, rfl⟩
  rw [← hn]
  rw [← hn] at hl
  have HN := Lib.hid hn
  have HR := Lib.hid hR
  have HR' := Lib.hid hR'
  clear hn hR hR'
  go_enter Tryz.func9, Tryz.ntmps9
  go_wp2_with fail
  go_loopw [5] (fun i W => ∃ k : Nat, k ≤ n ∧ i = .int .i64 k ∧ Pure w W) (fun i _ => n - (intOf i).toNat)
  case atStart => exact ⟨0, Nat.zero_le _, rfl, Ext.refl _ _⟩
  case round =>
    obtain ⟨k, hk, rfl, hE⟩ := hrel
    by_cases hlt : k < n
    · have hki : (k : Int) < (n : Int) := by omega
      have hkS : k < S.length := by rw [← HN.out]; exact hlt
      obtain ⟨b, o, rfl, hc⟩ := HR.out k _ (intsV_get hkS)
      obtain ⟨b', o', rfl, hc'⟩ := HR'.out k _ (intsV_get hkS)
      obtain ⟨y, hy⟩ : ∃ y, y = S[k] := ⟨_, rfl⟩
      rw [← hy] at hc hc'
      have c1 := hE.cell_some hc id
      have c2 := hE.cell_some hc' id
      clear hy hc hc'
      go_wp2_with fail
      go_quiet (fail)
      go_wp2_with fail
      go_roundw
      case rel => exact ⟨k + 1, by omega, by go_num, (hE.drewN _)⟩
      case measure => simp [intOf]; omega
    · have hki : ¬ (k : Int) < (n : Int) := by omega
      go_wp2_with fail
      go_ret
      exact ⟨rfl, hE⟩
end Go.Proofs.YtkkmppalifjgnaaGreat
