/-
  Walked: the reference's Alike, of rows of the same numbers.
-/
import Derived.Test.YtnpiemcfbnpfdaaRef24
namespace Go.Proofs.Ytnpiemcfbnpfdaa
open Go.RowKit Go.Maps
set_option linter.unusedVariables false
set_option linter.unusedSimpArgs false

set_option maxHeartbeats 2000000 in
set_option maxRecDepth 100000 in
theorem ralike_any (rs rs' : List CRow) (a a' : Option Addr) (c c' : Nat) (w : World) (hR : Rws w a rs) (hR' : Rws w a' rs') (he : lsR rs' = lsR rs) (hn : rs.length ≤ 1000000) (hm : ∀ q ∈ rs, q.l.length ≤ 1000000) :
    Calls Try.prog 25 #[.slice a rs.length c, .slice a' rs'.length c'] w (BoolTo true w) := by
  have HR := Lib.hid hR
  have HR' := Lib.hid hR'
  have HM := Lib.hid hm
  have hl : rs'.length = rs.length := by have := congrArg List.length he; rwa [lsR_len, lsR_len] at this
  rw [hl]
  have HE := Lib.hid he
  have HL := Lib.hid hl
  obtain ⟨n, hN⟩ : ∃ z, z = rs.length := ⟨_, rfl⟩
  rw [← hN] at hn ⊢
  have HN := Lib.hid hN
  clear hR hR' hm hN he hl
  go_enter Try.func25, Try.ntmps25
  go_wp2_with fail
  go_loopw [5] (fun i W => ∃ k : Nat, k ≤ n ∧ i = .int .i64 k ∧ Hid (Pure w W)) (fun i _ => n - (intOf i).toNat)
  case atStart => exact ⟨0, Nat.zero_le _, rfl, Lib.hid (Ext.refl _ _)⟩
  case round =>
    obtain ⟨k, hk, rfl, HP⟩ := hrel
    by_cases hlt : k < n
    · have hki : (k : Int) < (n : Int) := by omega
      have hk0 : (0 : Int) ≤ (k : Int) := by omega
      have hk1 : k < rs.length := by rw [← HN.out]; exact hlt
      have hk2 : k < rs'.length := by rw [HL.out]; exact hk1
      obtain ⟨b, o, rfl, hc⟩ := (HR.out.pure HP.out).get hk1
      obtain ⟨b', o', rfl, hc'⟩ := (HR'.out.pure HP.out).get hk2
      have hq : rs'[k].l = rs[k].l := by
        have h := lsR_get hk2
        have h2 := lsR_get hk1
        simp only [HE.out] at h
        exact h.symm.trans h2
      have HS : Hid (∀ W, Pure wr W → Calls Try.prog 24 #[.slice rs[k].a rs[k].l.length rs[k].c, .slice rs'[k].a rs'[k].l.length rs'[k].c] W (BoolTo true W)) := Lib.hid (fun W hP => by
        have h1 := (HR.out.pure (HP.out.pure hP)).has _ (List.getElem_mem hk1)
        have h2 := (HR'.out.pure (HP.out.pure hP)).has _ (List.getElem_mem hk2)
        rw [hq] at h2 ⊢
        exact rsame_any _ _ _ _ _ W h1 h2 (by have := HM.out _ (List.getElem_mem hk1); omega))
      have HC : Hid (∀ W, Pure wr W → W.cell? ⟨b, o + k, none⟩ = some (.slice rs[k].a rs[k].l.length rs[k].c) ∧ W.cell? ⟨b', o' + k, none⟩ = some (.slice rs'[k].a rs'[k].l.length rs'[k].c)) := Lib.hid (fun W hP => ⟨hP.cell_some hc id, hP.cell_some hc' id⟩)
      generalize rs[k].l.length = m1 at *
      generalize rs[k].a = qa at *
      generalize rs[k].c = qc at *
      generalize rs'[k].l.length = m2 at *
      generalize rs'[k].a = qa' at *
      generalize rs'[k].c = qc' at *
      clear hq hk1 hk2
      go_wp2_with fail
      have hP0 : Pure wr wr.drew := (Ext.refl _ wr).drew
      refine region_start (fun _ => False) (by kernel_rfl) ?_
      try simp only [Act.put, List.setIfInBounds_toArray, List.set_cons_zero, List.set_cons_succ]
      refine region_take 0 17 (v := ?val0) rfl rfl (by kernel_rfl) (by kernel_rfl) (by kernel_rfl) (fun _ _ _ h => h) (by rfl) (fun w' hS => ?hal0) ?ral0
      case hal0 => go_simp; with_reducible rfl
      try simp only [Act.put, List.setIfInBounds_toArray, List.set_cons_zero, List.set_cons_succ]
      refine region_take 1 18 (v := ?val1) rfl rfl (by kernel_rfl) (by kernel_rfl) (by kernel_rfl) (fun _ _ _ h => h) (by rfl) (fun w' hS => ?hal1) ?ral1
      case hal1 => go_simp; with_reducible rfl
      try simp only [Act.put, List.setIfInBounds_toArray, List.set_cons_zero, List.set_cons_succ]
      refine region_take 2 19 (v := ?val2) rfl rfl (by kernel_rfl) (by kernel_rfl) (by kernel_rfl) (fun _ _ _ h => h) (by rfl) (fun w' hS => ?hal2) ?ral2
      case hal2 => go_simp; with_reducible rfl
      try simp only [Act.put, List.setIfInBounds_toArray, List.set_cons_zero, List.set_cons_succ]
      refine region_take 3 20 (v := ?val3) rfl rfl (by kernel_rfl) (by kernel_rfl) (by kernel_rfl) (fun _ _ _ h => h) (by rfl) (fun w' hS => ?hal3) ?ral3
      case hal3 => (have e := (HC.out w' (hP0.trans hS (fun _ _ e => e))).1; go_simp; with_reducible rfl)
      try simp only [Act.put, List.setIfInBounds_toArray, List.set_cons_zero, List.set_cons_succ]
      refine region_take 4 21 (v := ?val4) rfl rfl (by kernel_rfl) (by kernel_rfl) (by kernel_rfl) (fun _ _ _ h => h) (by rfl) (fun w' hS => ?hal4) ?ral4
      case hal4 => go_simp; with_reducible rfl
      try simp only [Act.put, List.setIfInBounds_toArray, List.set_cons_zero, List.set_cons_succ]
      refine region_take 5 22 (v := ?val5) rfl rfl (by kernel_rfl) (by kernel_rfl) (by kernel_rfl) (fun _ _ _ h => h) (by rfl) (fun w' hS => ?hal5) ?ral5
      case hal5 => go_simp; with_reducible rfl
      try simp only [Act.put, List.setIfInBounds_toArray, List.set_cons_zero, List.set_cons_succ]
      refine region_take 6 23 (v := ?val6) rfl rfl (by kernel_rfl) (by kernel_rfl) (by kernel_rfl) (fun _ _ _ h => h) (by rfl) (fun w' hS => ?hal6) ?ral6
      case hal6 => go_simp; with_reducible rfl
      try simp only [Act.put, List.setIfInBounds_toArray, List.set_cons_zero, List.set_cons_succ]
      refine region_take 7 24 (v := ?val7) rfl rfl (by kernel_rfl) (by kernel_rfl) (by kernel_rfl) (fun _ _ _ h => h) (by rfl) (fun w' hS => ?hal7) ?ral7
      case hal7 => (have e := (HC.out w' (hP0.trans hS (fun _ _ e => e))).2; go_simp; with_reducible rfl)
      try simp only [Act.put, List.setIfInBounds_toArray, List.set_cons_zero, List.set_cons_succ]
      refine wpAnyH_ready (rs := [8]) (by kernel_rfl) (by simp) (AllReadyH.cons rfl (fun K hK => ?_) AllReadyH.nil)
      go_simp
      refine (HS.out _ hP0).mono ?_
      rintro e wa ⟨rfl, hP⟩
      have hP0 := hP0.pure hP
      refine hK.out _ _ (hP) (fun hHeld => ?_)
      clear hK K hHeld
      refine region_now (hP) ?_
      try simp only [Act.put, List.setIfInBounds_toArray, List.set_cons_zero, List.set_cons_succ]
      refine region_take 9 26 (v := ?val9) rfl rfl (by kernel_rfl) (by kernel_rfl) (by kernel_rfl) (fun _ _ _ h => h) (by rfl) (fun w' hS => ?hal9) ?ral9
      case hal9 => go_simp; with_reducible rfl
      try simp only [Act.put, List.setIfInBounds_toArray, List.set_cons_zero, List.set_cons_succ]
      refine wpAnyH_done (by kernel_rfl) ?_ _
      have HP2 := Lib.hid (HP.out.pure hP0)
      clear hP0
      go_wp2_with fail
      go_roundw
      case rel => exact ⟨k + 1, by omega, by go_num, HP2⟩
      case measure => simp [intOf]; omega
    · have hki : ¬ (k : Int) < (n : Int) := by omega
      go_wp2_with fail
      go_ret
      exact ⟨rfl, HP.out⟩
end Go.Proofs.Ytnpiemcfbnpfdaa
