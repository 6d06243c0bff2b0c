/-
  CheckStrays: whether anything refers into a Doc's tree from beside it.
-/
import Derived.Test.YtkkmppalifjgnaaWorks23
import Derived.Test.YtkkmppalifjgnaaRStray
import Derived.Test.YtkkmppalifjgnaaOpenS
import Derived.OwnWalk
namespace Go.Proofs.Ytkkmppalifjgnaa.checkStrays
open Go.ChangeShapes Go.WideShapes Go.ChangeAt Go.RowKit Go.Proofs.Ytkkmppalifjgnaa
set_option linter.unusedVariables false
set_option linter.unusedSimpArgs false

theorem size_doc : (Try.prog.info? 24).map (·.size) = some 2 := by kernel_rfl
theorem size_tree : (Try.prog.info? 27).map (·.size) = some 2 := by kernel_rfl
theorem exec_load2 {oi : Oper} {ev : Operand → Value} {w : World} {x : Operand} {b : Nat} {cs : List Value} {T : TypeId} (ho : oi.op = .load 24 x) (hx : ev x = .pointer (some ⟨b, 0, none⟩)) (hB : BlockIs w b cs T) (hl : (Try.prog.info? 24).map (·.size) = some cs.length) :
    (execOp ev oi).run Try.prog w = .ok (.value (.agg cs.toArray)) w := by
  unfold execOp
  simp only [ho, hx, Instr.loadAt, Instr.sureAddr, Sem.run_bind, Sem.run_pure, Result.andThen_ok, run_loadVar_mid w b 0 24 cs _ hB.range Try.underlying24 rfl hl]
theorem exec_load3 {oi : Oper} {ev : Operand → Value} {w : World} {x : Operand} {b : Nat} {cs : List Value} {T : TypeId} (ho : oi.op = .load 27 x) (hx : ev x = .pointer (some ⟨b, 0, none⟩)) (hB : BlockIs w b cs T) (hl : (Try.prog.info? 27).map (·.size) = some cs.length) :
    (execOp ev oi).run Try.prog w = .ok (.value (.agg cs.toArray)) w := by
  unfold execOp
  simp only [ho, hx, Instr.loadAt, Instr.sureAddr, Sem.run_bind, Sem.run_pure, Result.andThen_ok, run_loadVar_mid w b 0 27 cs _ hB.range Try.underlying27 rfl hl]
set_option maxHeartbeats 4000000 in
set_option maxRecDepth 100000 in
theorem walk (F0 : Nat) (objs : List Ob) (oa : Option Addr) (oc : Nat) (rows : List (List Value)) (root : Int) (a1 a2 : Option Addr) (x1 x2 : Nat) (l1 l2 : List Int) (w : World)
    (hOK : OKids w F0 objs oa rows) (hoc : objs.length ≤ oc) (hcm : oc ≤ maxLen) (hwf : ∀ u ∈ objs, u.data.size ≤ maxLen ∧ u.v.wf) (hr : (Lit.int .i64 root).wf = true)
    (h1 : RowOf w a1 (intsV l1) ∧ l1.length ≤ x1 ∧ x1 ≤ maxLen ∧ (a1 = none → x1 = 0) ∧ ∀ x ∈ l1, (Lit.int .i64 x).wf = true) (h2 : RowOf w a2 (intsV l2) ∧ l2.length ≤ x2 ∧ x2 ≤ maxLen ∧ (a2 = none → x2 = 0) ∧ ∀ x ∈ l2, (Lit.int .i64 x).wf = true) :
    Calls Try.prog 3 #[.agg #[.slice oa objs.length oc, .int .i64 root], .agg #[.slice a1 l1.length x1, .slice a2 l2.length x2]] w fun e w' => e = .returned (.bool true) ∧ Below w.heap.size w w' := by
  have HFw := Lib.hid (fun W (hP : Pure w W) => fewo_any F0 objs oa oc rows 80 W (hOK.pure hP) hoc hcm)
  have HSt0 := Lib.hid (fun (hf : fewO objs 80 = true) (e1 : l1.length ≤ 40) (e2 : l2.length ≤ 40) W (hP : Pure w W) => stray_docs F0 objs oa oc rows root ⟨l1, l2⟩ a1 a2 x1 x2 W ((few_docok hOK hwf hr hf).pure hP) (h1.1.ext hP (fun _ _ => id)) (h2.1.ext hP (fun _ _ => id)) h1.2.2.2.1 h2.2.2.2.1 h1.2.1 h2.2.1 (show l1.length ≤ 5000 by omega) (show l2.length ≤ 5000 by omega) h1.2.2.2.2 h2.2.2.2.2)
  have HRf0 := Lib.hid (fun (hf : fewO objs 80 = true) (e1 : l1.length ≤ 40) (e2 : l2.length ≤ 40) W (hP : Pure w W) => refstray_any F0 objs oa oc rows root ⟨l1, l2⟩ a1 a2 x1 x2 W ((few_docok hOK hwf hr hf).pure hP) (h1.1.ext hP (fun _ _ => id)) (h2.1.ext hP (fun _ _ => id)) (show l1.length ≤ 5000 by omega) (show l2.length ≤ 5000 by omega))
  obtain ⟨Z, hZ⟩ : ∃ z, z = strayP objs root ⟨l1, l2⟩ := ⟨_, rfl⟩
  rw [← hZ] at HSt0 HRf0
  obtain ⟨n, hn⟩ : ∃ z, z = objs.length := ⟨_, rfl⟩
  obtain ⟨an, han⟩ : ∃ z, z = l1.length := ⟨_, rfl⟩
  obtain ⟨bn, hbn⟩ : ∃ z, z = l2.length := ⟨_, rfl⟩
  obtain ⟨fw, hfw⟩ : ∃ z, z = fewO objs 80 := ⟨_, rfl⟩
  rw [← hn, ← hfw] at HFw
  simp only [← han, ← hbn, ← hn, ← hfw] at HSt0 HRf0
  rw [← hn, ← han, ← hbn]
  clear hOK hwf h1 h2 hZ hn han hbn hfw hoc hcm hr
  obtain ⟨wo, hwo⟩ : ∃ z, z = (w.alloc (.cells #[.slice oa n oc, .int .i64 root] 24)).alloc (.cells #[.slice a1 an x1, .slice a2 bn x2] 27) := ⟨_, rfl⟩
  obtain ⟨tb, htb⟩ : ∃ z, z = w.heap.size := ⟨_, rfl⟩
  have HPwo : Hid (Pure w wo) := Lib.hid (by rw [hwo]; exact (ext_alloc w _).pure (ext_alloc _ _))
  have HBd : Hid (BlockIs wo tb [.slice oa n oc, .int .i64 root] 24) := Lib.hid (by rw [hwo, htb]; exact (BlockIs.new w [.slice oa n oc, .int .i64 root] 24).alloc _)
  have HBt : Hid (BlockIs wo (tb + 1) [.slice a1 an x1, .slice a2 bn x2] 27) := Lib.hid (by
    have h := BlockIs.new (w.alloc (.cells #[.slice oa n oc, .int .i64 root] 24)) [.slice a1 an x1, .slice a2 bn x2] 27
    rw [World.size_alloc, ← htb] at h
    rw [hwo]; exact h)
  have HWo : Hid ((w.alloc (.cells #[.slice oa n oc, .int .i64 root] 24)).alloc (.cells #[.slice a1 an x1, .slice a2 bn x2] 27) = wo) := Lib.hid hwo.symm
  have HTb := Lib.hid htb
  have SZ24 : Hid ((Try.prog.info? 24).map (·.size) = some [Value.slice oa n oc, .int .i64 root].length) := Lib.hid size_doc
  have SZ27 : Hid ((Try.prog.info? 27).map (·.size) = some [Value.slice a1 an x1, .slice a2 bn x2].length) := Lib.hid size_tree
  have d0 : wo.cell? ⟨tb, 0, none⟩ = some (.slice oa n oc) := HBd.out.cell 0
  clear hwo htb
  cases fw with
  | false =>
    clear HSt0 HRf0
    go_enter Try.func3, Try.ntmps3
    go_wp2_with fail
    rw [HWo.out, ← HTb.out]
    go_wp2_with fail
    refine (HFw.out wo HPwo.out).mono ?_
    rintro e wf ⟨rfl, hPf⟩
    have HPf := Lib.hid (HPwo.out.pure hPf)
    clear hPf
    go_wp2_with fail
    refine (works_any _).mono ?_
    rintro e wz ⟨rfl, hPz⟩
    go_wp2_with fail
    go_ret
    exact ⟨rfl, (HPf.out.pure hPz).below⟩
  | true =>
    by_cases hA : 40 < an
    · have hAi : (40 : Int) < (an : Int) := by omega
      clear HSt0 HRf0
      go_enter Try.func3, Try.ntmps3
      go_wp2_with fail
      rw [HWo.out, ← HTb.out]
      go_wp2_with fail
      refine (HFw.out wo HPwo.out).mono ?_
      rintro e wf ⟨rfl, hPf⟩
      have HPf := Lib.hid (HPwo.out.pure hPf)
      have HBdf := Lib.hid (HBd.out.ext hPf id)
      have HBtf := Lib.hid (HBt.out.ext hPf id)
      clear hPf
      have q0 : wf.cell? ⟨tb + 1, 0, none⟩ = some (.slice a1 an x1) := HBtf.out.cell 0
      have q1 : wf.cell? ⟨tb + 1, 1, none⟩ = some (.slice a2 bn x2) := HBtf.out.cell 1
      go_wp2_with fail
      refine (works_any _).mono ?_
      rintro e wz ⟨rfl, hPz⟩
      go_wp2_with fail
      go_ret
      exact ⟨rfl, (HPf.out.pure hPz).below⟩
    · have hAi : ¬ (40 : Int) < (an : Int) := by omega
      by_cases hB : 40 < bn
      · have hBi : (40 : Int) < (bn : Int) := by omega
        clear HSt0 HRf0
        go_enter Try.func3, Try.ntmps3
        go_wp2_with fail
        rw [HWo.out, ← HTb.out]
        go_wp2_with fail
        refine (HFw.out wo HPwo.out).mono ?_
        rintro e wf ⟨rfl, hPf⟩
        have HPf := Lib.hid (HPwo.out.pure hPf)
        have HBdf := Lib.hid (HBd.out.ext hPf id)
        have HBtf := Lib.hid (HBt.out.ext hPf id)
        clear hPf
        have q0 : wf.cell? ⟨tb + 1, 0, none⟩ = some (.slice a1 an x1) := HBtf.out.cell 0
        have q1 : wf.cell? ⟨tb + 1, 1, none⟩ = some (.slice a2 bn x2) := HBtf.out.cell 1
        go_wp2_with fail
        refine (works_any _).mono ?_
        rintro e wz ⟨rfl, hPz⟩
        go_wp2_with fail
        go_ret
        exact ⟨rfl, (HPf.out.pure hPz).below⟩
      · have hBi : ¬ (40 : Int) < (bn : Int) := by omega
        have HSt := Lib.hid (HSt0.out rfl (by omega) (by omega))
        have HRf := Lib.hid (HRf0.out rfl (by omega) (by omega))
        clear HSt0 HRf0 hA hB
        cases Z with
        | false =>
          go_enter Try.func3, Try.ntmps3
          go_wp2_with fail
          rw [HWo.out, ← HTb.out]
          go_wp2_with fail
          refine (HFw.out wo HPwo.out).mono ?_
          rintro e wf ⟨rfl, hPf⟩
          have HPf := Lib.hid (HPwo.out.pure hPf)
          have HBdf := Lib.hid (HBd.out.ext hPf id)
          have HBtf := Lib.hid (HBt.out.ext hPf id)
          clear hPf
          have q0 : wf.cell? ⟨tb + 1, 0, none⟩ = some (.slice a1 an x1) := HBtf.out.cell 0
          have q1 : wf.cell? ⟨tb + 1, 1, none⟩ = some (.slice a2 bn x2) := HBtf.out.cell 1
          go_wp2_with fail
          have hBd := HBdf.out.drew
          have hBt := HBtf.out.drew
          have hPw := HPf.out.drew
          clear q0 q1
          go_upto_region 3 with (fail)
          refine region_start (fun _ => False) (by kernel_rfl) ?_
          try simp only [Act.put, List.setIfInBounds_toArray, List.set_cons_zero, List.set_cons_succ]
          refine region_take 0 22 (v := ?vza0) rfl rfl (by kernel_rfl) (by kernel_rfl) (by kernel_rfl) (fun _ _ _ h => h) (by rfl) (fun w' hS => ?hza0) ?rza0
          case hza0 => (refine exec_load2 (x := .tmp 2) ?_ ?_ (hBd.ext hS id) SZ24.out <;> rfl)
          try simp only [Act.put, List.setIfInBounds_toArray, List.set_cons_zero, List.set_cons_succ]
          refine region_take 1 23 (v := ?vza1) rfl rfl (by kernel_rfl) (by kernel_rfl) (by kernel_rfl) (fun _ _ _ h => h) (by rfl) (fun w' hS => ?hza1) ?rza1
          case hza1 => go_simp; with_reducible rfl
          try simp only [Act.put, List.setIfInBounds_toArray, List.set_cons_zero, List.set_cons_succ]
          refine region_take 2 24 (v := ?vza2) rfl rfl (by kernel_rfl) (by kernel_rfl) (by kernel_rfl) (fun _ _ _ h => h) (by rfl) (fun w' hS => ?hza2) ?rza2
          case hza2 => (have e : w'.cell? ⟨tb + 1, 0, none⟩ = some (.slice a1 an x1) := (hBt.ext hS id).cell 0; go_simp; with_reducible rfl)
          try simp only [Act.put, List.setIfInBounds_toArray, List.set_cons_zero, List.set_cons_succ]
          refine region_take 3 25 (v := ?vza3) rfl rfl (by kernel_rfl) (by kernel_rfl) (by kernel_rfl) (fun _ _ _ h => h) (by rfl) (fun w' hS => ?hza3) ?rza3
          case hza3 => go_simp; with_reducible rfl
          try simp only [Act.put, List.setIfInBounds_toArray, List.set_cons_zero, List.set_cons_succ]
          refine region_take 4 26 (v := ?vza4) rfl rfl (by kernel_rfl) (by kernel_rfl) (by kernel_rfl) (fun _ _ _ h => h) (by rfl) (fun w' hS => ?hza4) ?rza4
          case hza4 => (have e : w'.cell? ⟨tb + 1, 1, none⟩ = some (.slice a2 bn x2) := (hBt.ext hS id).cell 1; go_simp; with_reducible rfl)
          try simp only [Act.put, List.setIfInBounds_toArray, List.set_cons_zero, List.set_cons_succ]
          refine region_take 5 27 (v := ?vza5) rfl rfl (by kernel_rfl) (by kernel_rfl) (by kernel_rfl) (fun _ _ _ h => h) (by rfl) (fun w' hS => ?hza5) ?rza5
          case hza5 => go_simp; with_reducible rfl
          try simp only [Act.put, List.setIfInBounds_toArray, List.set_cons_zero, List.set_cons_succ]
          refine region_take 7 29 (v := ?vza7) rfl rfl (by kernel_rfl) (by kernel_rfl) (by kernel_rfl) (fun _ _ _ h => h) (by rfl) (fun w' hS => ?hza7) ?rza7
          case hza7 => (refine exec_load2 (x := .tmp 2) ?_ ?_ (hBd.ext hS id) SZ24.out <;> rfl)
          try simp only [Act.put, List.setIfInBounds_toArray, List.set_cons_zero, List.set_cons_succ]
          refine region_take 8 30 (v := ?vza8) rfl rfl (by kernel_rfl) (by kernel_rfl) (by kernel_rfl) (fun _ _ _ h => h) (by rfl) (fun w' hS => ?hza8) ?rza8
          case hza8 => (refine exec_load3 (x := .tmp 3) ?_ ?_ (hBt.ext hS id) SZ27.out <;> rfl)
          try simp only [Act.put, List.setIfInBounds_toArray, List.set_cons_zero, List.set_cons_succ]
          refine wpAnyH_ready (rs := [6]) (by kernel_rfl) (by simp) (AllReadyH.cons rfl (fun K hK => ?_) AllReadyH.nil)
          go_simp
          refine (HSt.out _ hPw).mono ?_
          rintro e wa ⟨rfl, hP⟩
          have hBd := hBd.ext hP id
          have hBt := hBt.ext hP id
          have hPw := hPw.pure hP
          refine hK.out _ _ (hP) (fun hHeld => ?_)
          clear hK K hHeld
          refine region_now (hP) ?_
          try simp only [Act.put, List.setIfInBounds_toArray, List.set_cons_zero, List.set_cons_succ]
          refine wpAnyH_ready (rs := [9]) (by kernel_rfl) (by simp) (AllReadyH.cons rfl (fun K hK => ?_) AllReadyH.nil)
          go_simp
          refine (HRf.out _ hPw).mono ?_
          rintro e wa ⟨rfl, hP⟩
          have hBd := hBd.ext hP id
          have hBt := hBt.ext hP id
          have hPw := hPw.pure hP
          refine hK.out _ _ (hP) (fun hHeld => ?_)
          clear hK K hHeld
          refine region_now (hP) ?_
          try simp only [Act.put, List.setIfInBounds_toArray, List.set_cons_zero, List.set_cons_succ]
          refine region_take 10 32 (v := ?vza10) rfl rfl (by kernel_rfl) (by kernel_rfl) (by kernel_rfl) (fun _ _ _ h => h) (by rfl) (fun w' hS => ?hza10) ?rza10
          case hza10 => go_simp; with_reducible rfl
          try simp only [Act.put, List.setIfInBounds_toArray, List.set_cons_zero, List.set_cons_succ]
          refine region_take 11 33 (v := ?vza11) rfl rfl (by kernel_rfl) (by kernel_rfl) (by kernel_rfl) (fun _ _ _ h => h) (by rfl) (fun w' hS => ?hza11) ?rza11
          case hza11 => go_simp; with_reducible rfl
          try simp only [Act.put, List.setIfInBounds_toArray, List.set_cons_zero, List.set_cons_succ]
          refine wpAnyH_ready (rs := [12]) (by kernel_rfl) (by simp) (AllReadyH.cons rfl (fun K hK => ?_) AllReadyH.nil)
          go_simp
          refine (works_any _).mono ?_
          rintro e wa ⟨rfl, hP⟩
          have hBd := hBd.ext hP id
          have hBt := hBt.ext hP id
          have hPw := hPw.pure hP
          refine hK.out _ _ (hP) (fun hHeld => ?_)
          clear hK K hHeld
          refine region_now (hP) ?_
          try simp only [Act.put, List.setIfInBounds_toArray, List.set_cons_zero, List.set_cons_succ]
          refine region_take 13 35 (v := ?vza13) rfl rfl (by kernel_rfl) (by kernel_rfl) (by kernel_rfl) (fun _ _ _ h => h) (by rfl) (fun w' hS => ?hza13) ?rza13
          case hza13 => go_simp; with_reducible rfl
          try simp only [Act.put, List.setIfInBounds_toArray, List.set_cons_zero, List.set_cons_succ]
          refine region_take 14 4 (v := ?vza14) rfl rfl (by kernel_rfl) (by kernel_rfl) (by kernel_rfl) (fun _ _ _ h => h) (by rfl) (fun w' hS => ?hza14) ?rza14
          case hza14 => go_simp; with_reducible rfl
          try simp only [Act.put, List.setIfInBounds_toArray, List.set_cons_zero, List.set_cons_succ]
          refine wpAnyH_done (by kernel_rfl) ?_ _
          go_simp
          try simp only [Act.put, List.setIfInBounds_toArray, List.set_cons_zero, List.set_cons_succ]
          go_wp2_with fail
          go_ret
          exact ⟨rfl, hPw.below⟩
        | true =>
          go_enter Try.func3, Try.ntmps3
          go_wp2_with fail
          rw [HWo.out, ← HTb.out]
          go_wp2_with fail
          refine (HFw.out wo HPwo.out).mono ?_
          rintro e wf ⟨rfl, hPf⟩
          have HPf := Lib.hid (HPwo.out.pure hPf)
          have HBdf := Lib.hid (HBd.out.ext hPf id)
          have HBtf := Lib.hid (HBt.out.ext hPf id)
          clear hPf
          have q0 : wf.cell? ⟨tb + 1, 0, none⟩ = some (.slice a1 an x1) := HBtf.out.cell 0
          have q1 : wf.cell? ⟨tb + 1, 1, none⟩ = some (.slice a2 bn x2) := HBtf.out.cell 1
          go_wp2_with fail
          have hBd := HBdf.out.drew
          have hBt := HBtf.out.drew
          have hPw := HPf.out.drew
          clear q0 q1
          go_upto_region 3 with (fail)
          refine region_start (fun _ => False) (by kernel_rfl) ?_
          try simp only [Act.put, List.setIfInBounds_toArray, List.set_cons_zero, List.set_cons_succ]
          refine region_take 0 22 (v := ?vzb0) rfl rfl (by kernel_rfl) (by kernel_rfl) (by kernel_rfl) (fun _ _ _ h => h) (by rfl) (fun w' hS => ?hzb0) ?rzb0
          case hzb0 => (refine exec_load2 (x := .tmp 2) ?_ ?_ (hBd.ext hS id) SZ24.out <;> rfl)
          try simp only [Act.put, List.setIfInBounds_toArray, List.set_cons_zero, List.set_cons_succ]
          refine region_take 1 23 (v := ?vzb1) rfl rfl (by kernel_rfl) (by kernel_rfl) (by kernel_rfl) (fun _ _ _ h => h) (by rfl) (fun w' hS => ?hzb1) ?rzb1
          case hzb1 => go_simp; with_reducible rfl
          try simp only [Act.put, List.setIfInBounds_toArray, List.set_cons_zero, List.set_cons_succ]
          refine region_take 2 24 (v := ?vzb2) rfl rfl (by kernel_rfl) (by kernel_rfl) (by kernel_rfl) (fun _ _ _ h => h) (by rfl) (fun w' hS => ?hzb2) ?rzb2
          case hzb2 => (have e : w'.cell? ⟨tb + 1, 0, none⟩ = some (.slice a1 an x1) := (hBt.ext hS id).cell 0; go_simp; with_reducible rfl)
          try simp only [Act.put, List.setIfInBounds_toArray, List.set_cons_zero, List.set_cons_succ]
          refine region_take 3 25 (v := ?vzb3) rfl rfl (by kernel_rfl) (by kernel_rfl) (by kernel_rfl) (fun _ _ _ h => h) (by rfl) (fun w' hS => ?hzb3) ?rzb3
          case hzb3 => go_simp; with_reducible rfl
          try simp only [Act.put, List.setIfInBounds_toArray, List.set_cons_zero, List.set_cons_succ]
          refine region_take 4 26 (v := ?vzb4) rfl rfl (by kernel_rfl) (by kernel_rfl) (by kernel_rfl) (fun _ _ _ h => h) (by rfl) (fun w' hS => ?hzb4) ?rzb4
          case hzb4 => (have e : w'.cell? ⟨tb + 1, 1, none⟩ = some (.slice a2 bn x2) := (hBt.ext hS id).cell 1; go_simp; with_reducible rfl)
          try simp only [Act.put, List.setIfInBounds_toArray, List.set_cons_zero, List.set_cons_succ]
          refine region_take 5 27 (v := ?vzb5) rfl rfl (by kernel_rfl) (by kernel_rfl) (by kernel_rfl) (fun _ _ _ h => h) (by rfl) (fun w' hS => ?hzb5) ?rzb5
          case hzb5 => go_simp; with_reducible rfl
          try simp only [Act.put, List.setIfInBounds_toArray, List.set_cons_zero, List.set_cons_succ]
          refine region_take 7 29 (v := ?vzb7) rfl rfl (by kernel_rfl) (by kernel_rfl) (by kernel_rfl) (fun _ _ _ h => h) (by rfl) (fun w' hS => ?hzb7) ?rzb7
          case hzb7 => (refine exec_load2 (x := .tmp 2) ?_ ?_ (hBd.ext hS id) SZ24.out <;> rfl)
          try simp only [Act.put, List.setIfInBounds_toArray, List.set_cons_zero, List.set_cons_succ]
          refine region_take 8 30 (v := ?vzb8) rfl rfl (by kernel_rfl) (by kernel_rfl) (by kernel_rfl) (fun _ _ _ h => h) (by rfl) (fun w' hS => ?hzb8) ?rzb8
          case hzb8 => (refine exec_load3 (x := .tmp 3) ?_ ?_ (hBt.ext hS id) SZ27.out <;> rfl)
          try simp only [Act.put, List.setIfInBounds_toArray, List.set_cons_zero, List.set_cons_succ]
          refine wpAnyH_ready (rs := [6]) (by kernel_rfl) (by simp) (AllReadyH.cons rfl (fun K hK => ?_) AllReadyH.nil)
          go_simp
          refine (HSt.out _ hPw).mono ?_
          rintro e wa ⟨rfl, hP⟩
          have hBd := hBd.ext hP id
          have hBt := hBt.ext hP id
          have hPw := hPw.pure hP
          refine hK.out _ _ (hP) (fun hHeld => ?_)
          clear hK K hHeld
          refine region_now (hP) ?_
          try simp only [Act.put, List.setIfInBounds_toArray, List.set_cons_zero, List.set_cons_succ]
          refine wpAnyH_ready (rs := [9]) (by kernel_rfl) (by simp) (AllReadyH.cons rfl (fun K hK => ?_) AllReadyH.nil)
          go_simp
          refine (HRf.out _ hPw).mono ?_
          rintro e wa ⟨rfl, hP⟩
          have hBd := hBd.ext hP id
          have hBt := hBt.ext hP id
          have hPw := hPw.pure hP
          refine hK.out _ _ (hP) (fun hHeld => ?_)
          clear hK K hHeld
          refine region_now (hP) ?_
          try simp only [Act.put, List.setIfInBounds_toArray, List.set_cons_zero, List.set_cons_succ]
          refine region_take 10 32 (v := ?vzb10) rfl rfl (by kernel_rfl) (by kernel_rfl) (by kernel_rfl) (fun _ _ _ h => h) (by rfl) (fun w' hS => ?hzb10) ?rzb10
          case hzb10 => go_simp; with_reducible rfl
          try simp only [Act.put, List.setIfInBounds_toArray, List.set_cons_zero, List.set_cons_succ]
          refine region_take 11 33 (v := ?vzb11) rfl rfl (by kernel_rfl) (by kernel_rfl) (by kernel_rfl) (fun _ _ _ h => h) (by rfl) (fun w' hS => ?hzb11) ?rzb11
          case hzb11 => go_simp; with_reducible rfl
          try simp only [Act.put, List.setIfInBounds_toArray, List.set_cons_zero, List.set_cons_succ]
          refine wpAnyH_ready (rs := [12]) (by kernel_rfl) (by simp) (AllReadyH.cons rfl (fun K hK => ?_) AllReadyH.nil)
          go_simp
          refine (works_any _).mono ?_
          rintro e wa ⟨rfl, hP⟩
          have hBd := hBd.ext hP id
          have hBt := hBt.ext hP id
          have hPw := hPw.pure hP
          refine hK.out _ _ (hP) (fun hHeld => ?_)
          clear hK K hHeld
          refine region_now (hP) ?_
          try simp only [Act.put, List.setIfInBounds_toArray, List.set_cons_zero, List.set_cons_succ]
          refine region_take 13 35 (v := ?vzb13) rfl rfl (by kernel_rfl) (by kernel_rfl) (by kernel_rfl) (fun _ _ _ h => h) (by rfl) (fun w' hS => ?hzb13) ?rzb13
          case hzb13 => go_simp; with_reducible rfl
          try simp only [Act.put, List.setIfInBounds_toArray, List.set_cons_zero, List.set_cons_succ]
          refine region_take 14 4 (v := ?vzb14) rfl rfl (by kernel_rfl) (by kernel_rfl) (by kernel_rfl) (fun _ _ _ h => h) (by rfl) (fun w' hS => ?hzb14) ?rzb14
          case hzb14 => go_simp; with_reducible rfl
          try simp only [Act.put, List.setIfInBounds_toArray, List.set_cons_zero, List.set_cons_succ]
          refine wpAnyH_done (by kernel_rfl) ?_ _
          go_simp
          try simp only [Act.put, List.setIfInBounds_toArray, List.set_cons_zero, List.set_cons_succ]
          go_wp2_with fail
          go_ret
          exact ⟨rfl, hPw.below⟩

set_option maxRecDepth 100000 in
theorem lifted (os : Os) (started : os.Started) (H : Type) (enc : TypeId × Value → H) :
    ReturnsInHanded {} Try.checked os 3 .any (Rows.checkStraysSpec.pre6 enc Try.prog Try.f3 Rows.checkStraysRow.domain false) (Rows.checkStraysSpec.post enc Try.prog Try.f3 false true false false) := by
  refine returnsInHanded_of_change (C := Try.checked) own started (by kernel_rfl) Try.func3
    (ChangeSpec.witness6 (enc := enc) (C := Try.checked) false ⟨#[], #[.agg #[.slice none 0 0, .int .i64 0], .agg #[.slice none 0 0, .slice none 0 0]], []⟩ 8 (by kernel_rfl) (by kernel_rfl) (by kernel_rfl) (by kernel_rfl)) ?_
  intro W base args ds gs before hval0 hW hcnd _
  have hval : ∀ (j : Nat) t v, Try.f3.params[j]? = some t → args[j]? = some v → Value.okWide Try.prog W .any base t v := hval0
  have hW' := hW
  obtain ⟨p, q, hA0, hV, rfl, hfz, hnd⟩ := hW
  have hA : DataW.TrodAll enc Try.prog W 0 (fun _ => true) true Try.f3.params.toList args.toList ds p := hA0
  rw [Try.params3] at hA hval
  obtain ⟨v0, vs0, d0, ds0, p0, q0, hargs, rfl, rfl, h0, r0⟩ := trodAll_cons hA
  obtain ⟨v1, vs1, d1, ds1, p1, q1, rfl, rfl, rfl, h1, r1⟩ := trodAll_cons r0
  obtain ⟨rfl, rfl, rfl⟩ := trodAll_nil r1
  obtain rfl : args = #[v0, v1] := by cases args; simp_all
  obtain ⟨rfl, rfl⟩ := trodVars_none hV
  have k0 := h0
  have lt0 : ∀ x ∈ p0, x.block < W.heap.size := by obtain ⟨m, hm⟩ := k0; exact DataW.trod_lt m _ _ _ hm
  have k1 := h1
  have lt1 : ∀ x ∈ p1, x.block < W.heap.size := by obtain ⟨m, hm⟩ := k1; exact DataW.trod_lt m _ _ _ hm
  obtain ⟨F0, objs, oa, oc, rows, root, rfl, hOK0, hoc0, hcm0, hwf0, _, hr0⟩ := open_doc (hval 0 24 v0 rfl rfl) h0
  obtain ⟨a1, a2, x1, x2, l1, l2, rfl, hg1, hg2⟩ := open_tree (hval 1 27 v1 rfl rfl) h1
  clear hA0 hval0
  refine (walk F0 objs oa oc rows root a1 a2 x1 x2 l1 l2 W hOK0 hoc0 hcm0 hwf0 hr0 hg1 hg2).mono fun e W' ⟨he, bel⟩ => ?_
  subst he
  exact ⟨_, rfl, _, _, _, [], _, [], hW', trodAll_mk1 (shut_bool Try.underlying4 _), (trodAll_cons_mk (Below.trod laidOut (by kernel_rfl) (of_decide_eq_true (by kernel_rfl)) k0 bel lt0) (trodAll_cons_mk (Below.trod laidOut (by kernel_rfl) (of_decide_eq_true (by kernel_rfl)) k1 bel lt1) trodAll_mk0)), rfl, bel.frame _, fun h => by cases h⟩

theorem proved : Rows.CheckStraysSaid :=
  OpenClaim.holds_of_wide 3 Try.f3 rfl rfl rfl rfl rfl rfl rfl ⟨rfl, rfl, rfl, rfl, rfl⟩ rfl rfl rfl rfl rfl (by kernel_rfl) Try.func3 (by kernel_rfl)
    (of_decide_eq_true (by kernel_rfl)) (by unfold Func.isWrapper; first | (rw [if_pos (by decide +kernel)]; kernel_rfl) | (rw [if_neg (by decide +kernel)]; exact ⟨rfl, rfl⟩))
    (fun os started H enc _ => lifted os started H enc)
#print axioms proved
end Go.Proofs.Ytkkmppalifjgnaa.checkStrays
