/-
  Walked: the law's has and uses.
-/
import Derived.Test.YtnpiemcfbnpfdaaRef24
namespace Go.Proofs.Ytnpiemcfbnpfdaa
open Go.RowKit Go.Maps
set_option linter.unusedVariables false
set_option linter.unusedSimpArgs false

set_option maxHeartbeats 1000000 in
set_option maxRecDepth 100000 in
theorem lhas_any (x : Int) (ad : Option Addr) (cap : Nat) (ls : List Int) (w : World) (hr : RowOf w ad (intsV ls)) (hl : ls.length ≤ 1000000000) :
    Calls Try.prog 16 #[.slice ad ls.length cap, .int .i64 x] w (BoolTo (decide (x ∈ ls)) w) := by
  go_enter Try.func16, Try.ntmps16
  go_wp2_with fail
  go_loopw [5] (fun i W => ∃ k : Nat, k ≤ ls.length ∧ i = .int .i64 k ∧ Hid (∀ y ∈ ls.take k, y ≠ x) ∧ Pure w W) (fun i _ => ls.length - (intOf i).toNat)
  case atStart => exact ⟨0, Nat.zero_le _, rfl, Lib.hid (fun y hy => by simp at hy), Ext.refl _ _⟩
  case round =>
    obtain ⟨k, hk, rfl, HNo, hP⟩ := hrel
    by_cases hlt : k < ls.length
    · have hki : (k : Int) < (ls.length : Int) := by omega
      have hk0 : (0 : Int) ≤ (k : Int) := by omega
      obtain ⟨b, o, rfl, h0⟩ := iV_at (hr.ext hP (fun _ _ => id)) k hlt
      have HT := Lib.hid (List.take_succ_eq_append_getElem hlt)
      have HM := Lib.hid (List.getElem_mem hlt)
      generalize ls[k] = y at *
      by_cases hy : y = x
      · subst hy
        have HY : Hid (decide (y ∈ ls) = true) := Lib.hid (decide_eq_true HM.out)
        clear HM HT
        go_wp2_with fail
        go_ret
        exact ⟨by rw [HY.out]; rfl, hP⟩
      · have hyb : (y == x) = false := by simpa using hy
        have HN : Hid (∀ z ∈ ls.take (k + 1), z ≠ x) := Lib.hid (by
          rw [HT.out]
          intro z hz
          rcases List.mem_append.1 hz with hz | hz
          · exact HNo.out z hz
          · rw [List.mem_singleton.1 hz]; exact hy)
        clear HM HT
        go_wp2_with fail
        go_roundw
        case rel => exact ⟨k + 1, by omega, by go_num, HN, hP⟩
        case measure => simp [intOf]; omega
    · have hki : ¬ (k : Int) < (ls.length : Int) := by omega
      have HY : Hid (decide (x ∈ ls) = false) := Lib.hid (decide_eq_false fun hx => by
        have := HNo.out x (by rwa [List.take_of_length_le (by omega)])
        exact this rfl)
      go_wp2_with fail
      go_ret
      exact ⟨by rw [HY.out]; rfl, hP⟩
set_option maxHeartbeats 1000000 in
set_option maxRecDepth 100000 in
theorem luses_any (x : Int) (rs : List CRow) (a : Option Addr) (c : Nat) (w : World) (hR : Rws w a rs) (hn : rs.length ≤ 1000000) (hm : ∀ q ∈ rs, q.l.length ≤ 1000000) :
    Calls Try.prog 17 #[.slice a rs.length c, .int .i64 x] w (IntTo ((manyP (lsR rs) x : Nat) : Int) w) := by
  have HR := Lib.hid hR
  have HM := Lib.hid hm
  obtain ⟨n, hN⟩ : ∃ z, z = rs.length := ⟨_, rfl⟩
  rw [← hN] at hn ⊢
  have HN := Lib.hid hN
  clear hR hm hN
  go_enter Try.func17, Try.ntmps17
  go_wp2_with fail
  go_loopw [6, 5] (fun i s W => ∃ k : Nat, k ≤ n ∧ i = .int .i64 k ∧ (∃ s0 : Nat, s = .int .i64 s0 ∧ Hid (s0 = manyP ((lsR rs).take k) x) ∧ s0 ≤ k) ∧ Hid (Pure w W)) (fun i _ _ => n - (intOf i).toNat)
  case atStart => exact ⟨0, Nat.zero_le _, rfl, ⟨0, rfl, Lib.hid rfl, Nat.zero_le _⟩, Lib.hid (Ext.refl _ _)⟩
  case round =>
    obtain ⟨k, hk, rfl, ⟨s0, rfl, HS, hs0⟩, HP⟩ := hrel
    by_cases hlt : k < n
    · have hki : (k : Int) < (n : Int) := by omega
      have hkr : k < rs.length := by rw [← HN.out]; exact hlt
      obtain ⟨b, o, rfl, hc⟩ := (HR.out.pure HP.out).get hkr
      have HH := Lib.hid (lhas_any x rs[k].a rs[k].c rs[k].l wr ((HR.out.pure HP.out).has _ (List.getElem_mem hkr)) (by have := HM.out _ (List.getElem_mem hkr); omega))
      have HSt : Hid (manyP ((lsR rs).take (k + 1)) x = s0 + if x ∈ rs[k].l then 1 else 0) := Lib.hid (by
        rw [manyP_take _ _ (by rw [lsR_len]; exact hkr), ← HS.out, lsR_get hkr])
      generalize rs[k].l.length = m at *
      generalize rs[k].a = qa at *
      generalize rs[k].c = qc at *
      obtain ⟨y, hy⟩ : ∃ z, z = decide (x ∈ rs[k].l) := ⟨_, rfl⟩
      rw [← hy] at HH
      have HSt2 : Hid (manyP ((lsR rs).take (k + 1)) x = s0 + if y = true then 1 else 0) := Lib.hid (by rw [HSt.out, hy]; simp)
      clear hy HSt
      go_wp2_with fail
      refine HH.out.mono ?_
      rintro e w2 ⟨rfl, hP2⟩
      have HP2 := Lib.hid (HP.out.pure hP2)
      clear hP2
      cases y with
      | true =>
        go_wp2_with fail
        go_roundw
        case rel => exact ⟨k + 1, by omega, by go_num, ⟨s0 + 1, by go_num, Lib.hid HSt2.out.symm, by omega⟩, HP2⟩
        case measure => simp [intOf]; omega
      | false =>
        go_wp2_with fail
        go_roundw
        case rel => exact ⟨k + 1, by omega, by go_num, ⟨s0, rfl, Lib.hid HSt2.out.symm, by omega⟩, HP2⟩
        case measure => simp [intOf]; omega
    · have hki : ¬ (k : Int) < (n : Int) := by omega
      have HF : Hid (s0 = manyP (lsR rs) x) := Lib.hid (by rw [HS.out, List.take_of_length_le (by rw [lsR_len, ← HN.out]; omega)])
      go_wp2_with fail
      go_ret
      exact ⟨by rw [← HF.out]; rfl, HP.out⟩
/-- what a row holds is in the first part, in the shared one, or in its own -/
theorem parts_cover (rows : List (List Int)) (k : Nat) (hk : k + 1 < rows.length) {x : Int} (hx : x ∈ rows[k + 1]) : x ∈ rows.headD [] ∨ x ∈ shP rows rows.length ∨ x ∈ ownP rows rows[k + 1] := by
  by_cases h0 : x ∈ rows.headD []
  · exact Or.inl h0
  · by_cases h1 : manyP rows x = 1
    · exact Or.inr (Or.inr (List.mem_filter.2 ⟨onP_mem.2 (Or.inr hx), decide_eq_true h1⟩))
    · refine Or.inr (Or.inl ?_)
      have h2 := many_pos rows (k + 1) hk hx
      unfold shP
      refine onP_mem.2 (Or.inr (List.mem_filter.2 ⟨List.mem_flatten.2 ⟨rows[k + 1], ?_, hx⟩, decide_eq_true ⟨by omega, h0⟩⟩))
      rw [List.take_length, List.mem_iff_getElem]
      refine ⟨k, by rw [List.length_drop]; omega, ?_⟩
      rw [List.getElem_drop]
      congr 1
      omega
end Go.Proofs.Ytnpiemcfbnpfdaa
