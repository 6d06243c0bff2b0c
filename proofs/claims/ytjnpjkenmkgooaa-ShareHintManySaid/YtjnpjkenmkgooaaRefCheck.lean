/-
  Walked: the reference's Check.
-/
import Derived.Test.YtjnpjkenmkgooaaCheck
namespace Go.Proofs.Ytjnpjkenmkgooaa
open Go.RowKit
set_option linter.unusedVariables false
set_option maxHeartbeats 1000000 in
set_option maxRecDepth 100000 in
theorem refcheck_any (o a f : Int) (la : Option Addr) (c : Nat) (ls : List Int) (w : World) (hr : RowOf w la (ls.map iV)) (hl : (ls.length : Int) ≤ 9223372036854775807) :
    Calls Try.prog 17 #[tblV o a f la ls.length c] w (ChkRes (okT o a f ls) w) := by
  unfold tblV
  by_cases c0 : o < 0
  · have hk : okT o a f ls = false := by cases h : okT o a f ls with
      | false => rfl
      | true => (have := okT_true.1 h; omega)
    have HK := Lib.hid hk
    clear hk
    go_enter Try.func17, Try.ntmps17
    go_wp2_with fail
    go_ret
    exact chk_no HK.out (ext_alloc _ _)
  by_cases c1 : 4096 < o
  · have hk : okT o a f ls = false := by cases h : okT o a f ls with
      | false => rfl
      | true => (have := okT_true.1 h; omega)
    have HK := Lib.hid hk
    clear hk
    go_enter Try.func17, Try.ntmps17
    go_wp2_with fail
    go_ret
    exact chk_no HK.out (ext_alloc _ _)
  by_cases c2 : a < 0
  · have hk : okT o a f ls = false := by cases h : okT o a f ls with
      | false => rfl
      | true => (have := okT_true.1 h; omega)
    have HK := Lib.hid hk
    clear hk
    go_enter Try.func17, Try.ntmps17
    go_wp2_with fail
    go_ret
    exact chk_no HK.out (ext_alloc _ _)
  by_cases c3 : 2147483647 < a
  · have hk : okT o a f ls = false := by cases h : okT o a f ls with
      | false => rfl
      | true => (have := okT_true.1 h; omega)
    have HK := Lib.hid hk
    clear hk
    go_enter Try.func17, Try.ntmps17
    go_wp2_with fail
    go_ret
    exact chk_no HK.out (ext_alloc _ _)
  by_cases c4 : (4096 : Int) < (ls.length : Int)
  · have hk : okT o a f ls = false := by cases h : okT o a f ls with
      | false => rfl
      | true => (have := okT_true.1 h; omega)
    have HK := Lib.hid hk
    clear hk
    go_enter Try.func17, Try.ntmps17
    go_wp2_with fail
    go_ret
    exact chk_no HK.out (ext_alloc _ _)
  by_cases c5 : f < 0
  · have hk : okT o a f ls = false := by cases h : okT o a f ls with
      | false => rfl
      | true => (have := okT_true.1 h; omega)
    have HK := Lib.hid hk
    clear hk
    go_enter Try.func17, Try.ntmps17
    go_wp2_with fail
    go_ret
    exact chk_no HK.out (ext_alloc _ _)
  by_cases c6 : (ls.length : Int) < f
  · have hk : okT o a f ls = false := by cases h : okT o a f ls with
      | false => rfl
      | true => (have := okT_true.1 h; omega)
    have HK := Lib.hid hk
    clear hk
    go_enter Try.func17, Try.ntmps17
    go_wp2_with fail
    go_ret
    exact chk_no HK.out (ext_alloc _ _)
  have hk : okT o a f ls = !ls.any odd := by
    have h1 : inB o 0 4096 = true := inB_true.2 (by omega)
    have h2 : inB a 0 2147483647 = true := inB_true.2 (by omega)
    have h3 : decide (ls.length ≤ 4096) = true := decide_eq_true (by omega)
    have h4 : inB f 0 ls.length = true := inB_true.2 (by omega)
    unfold okT; rw [h1, h2, h3, h4]; rfl
  have HK := Lib.hid hk
  have hr1 := hr.ext (ext_alloc w (.cells #[.int .i64 o, .int .i64 a, .int .i64 f, .slice la ls.length c] 24)) (fun _ _ => id)
  clear hk
  go_enter Try.func17, Try.ntmps17
  go_wp2_with fail
  go_loop [3] (fun i => ∃ k : Nat, k ≤ ls.length ∧ i = .int .i64 k ∧ (ls.take k).any odd = false) (fun i => ls.length - (intOf i).toNat)
  case atStart => exact ⟨0, Nat.zero_le _, rfl, rfl⟩
  case round =>
    obtain ⟨k, hk, rfl, hno⟩ := hrel
    have HNo := Lib.hid hno
    clear hno
    by_cases hlt : k < ls.length
    · have hki : (k : Int) < (ls.length : Int) := by omega
      have hk0 : (0 : Int) ≤ (k : Int) := by omega
      obtain ⟨b, o2, rfl, h0⟩ := iV_at hr1 k hlt
      have HT := Lib.hid (any_take_succ odd ls k hlt)
      have HA := Lib.hid (any_of_at odd ls k hlt)
      by_cases x1 : ls[k] < 1
      · have hb : odd ls[k] = true := by unfold odd; rw [inB_false.2 (Or.inl x1)]; rfl
        have HA' := Lib.hid (HA.out hb)
        generalize ls[k] = x at *
        clear hb HA HT
        go_wp2_with fail
        go_ret
        exact chk_no (by rw [HK.out, HA'.out]; rfl) (ext_alloc _ _)
      · by_cases x2 : 2147483647 < ls[k]
        · have hb : odd ls[k] = true := by unfold odd; rw [inB_false.2 (Or.inr x2)]; rfl
          have HA' := Lib.hid (HA.out hb)
          generalize ls[k] = x at *
          clear hb HA HT
          go_wp2_with fail
          go_ret
          exact chk_no (by rw [HK.out, HA'.out]; rfl) (ext_alloc _ _)
        · have hb : odd ls[k] = false := by unfold odd; rw [inB_true.2 (by omega)]; rfl
          rw [hb, HNo.out] at HT
          generalize ls[k] = x at *
          clear hb HA
          go_wp2_with fail
          go_round
          case rel => exact ⟨k + 1, by omega, by go_num, HT.out⟩
          case measure => simp [intOf]; omega
    · have hki : ¬ (k : Int) < (ls.length : Int) := by omega
      rw [List.take_of_length_le (by omega)] at HNo
      go_wp2_with fail
      go_ret
      exact chk_yes (by rw [HK.out, HNo.out]; rfl) (ext_alloc _ _)
end Go.Proofs.Ytjnpjkenmkgooaa
