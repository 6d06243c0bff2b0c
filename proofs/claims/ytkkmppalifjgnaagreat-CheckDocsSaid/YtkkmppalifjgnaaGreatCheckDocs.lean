/-
  CheckDocs: whether any Doc may be written is as the document says, or the error.
-/
import Derived.Test.YtkkmppalifjgnaaGreatWorks23
import Derived.Test.YtkkmppalifjgnaaGreatZDoc
import Derived.Test.YtkkmppalifjgnaaGreatOpenS
import Derived.OwnWalk
namespace Go.Proofs.YtkkmppalifjgnaaGreat.checkDocs
open Go.ChangeShapes Go.WideShapes Go.ChangeAt Go.RowKit Go.Proofs.YtkkmppalifjgnaaGreat
set_option linter.unusedVariables false
set_option linter.unusedSimpArgs false

theorem size_doc : (Tryz.prog.info? 24).map (·.size) = some 2 := by kernel_rfl
theorem exec_load2 {oi : Oper} {ev : Operand → Value} {w : World} {x : Operand} {b : Nat} {cs : List Value} {T : TypeId} (ho : oi.op = .load 24 x) (hx : ev x = .pointer (some ⟨b, 0, none⟩)) (hB : BlockIs w b cs T) (hl : (Tryz.prog.info? 24).map (·.size) = some cs.length) :
    (execOp ev oi).run Tryz.prog w = .ok (.value (.agg cs.toArray)) w := by
  unfold execOp
  simp only [ho, hx, Instr.loadAt, Instr.sureAddr, Sem.run_bind, Sem.run_pure, Result.andThen_ok, run_loadVar_mid w b 0 24 cs _ hB.range Tryz.underlying24 rfl hl]
set_option maxHeartbeats 4000000 in
set_option maxRecDepth 100000 in
theorem walk (F0 : Nat) (objs : List Ob) (oa : Option Addr) (oc : Nat) (rows : List (List Value)) (root : Int) (w : World)
    (hOK : OKids w F0 objs oa rows) (hoc : objs.length ≤ oc) (hcm : oc ≤ maxLen) (hwf : ∀ u ∈ objs, u.data.size ≤ maxLen ∧ u.v.wf) (hr : (Lit.int .i64 root).wf = true) :
    Calls Tryz.prog 4 #[.agg #[.slice oa objs.length oc, .int .i64 root]] w fun e w' => e = .returned (.bool true) ∧ Below w.heap.size w w' := by
  have HFw := Lib.hid (fun W (hP : Pure w W) => fewo_any F0 objs oa oc rows 80 W (hOK.pure hP) hoc hcm)
  have HDo0 := Lib.hid (fun (hf : fewO objs 80 = true) W (hP : Pure w W) => doc_any F0 objs oa oc rows root W ((few_docok hOK hwf hr hf).pure hP) (fun u hu => (hwf u hu).1))
  have HRd0 := Lib.hid (fun (hf : fewO objs 80 = true) W (hP : Pure w W) => refdoc_any F0 objs oa oc rows root W ((few_docok hOK hwf hr hf).pure hP) (fun u hu => (hwf u hu).1))
  generalize docE objs root = D at *
  obtain ⟨n, hn⟩ : ∃ z, z = objs.length := ⟨_, rfl⟩
  obtain ⟨fw, hfw⟩ : ∃ z, z = fewO objs 80 := ⟨_, rfl⟩
  rw [← hn, ← hfw] at HFw
  simp only [← hn, ← hfw] at HDo0 HRd0
  rw [← hn]
  clear hOK hwf hn hfw hoc hcm hr
  obtain ⟨wo, hwo⟩ : ∃ z, z = w.alloc (.cells #[.slice oa n oc, .int .i64 root] 24) := ⟨_, rfl⟩
  obtain ⟨tb, htb⟩ : ∃ z, z = w.heap.size := ⟨_, rfl⟩
  have HPwo : Hid (Pure w wo) := Lib.hid (by rw [hwo]; exact ext_alloc w _)
  have HBd : Hid (BlockIs wo tb [.slice oa n oc, .int .i64 root] 24) := Lib.hid (by rw [hwo, htb]; exact BlockIs.new w [.slice oa n oc, .int .i64 root] 24)
  have HWo : Hid (w.alloc (.cells #[.slice oa n oc, .int .i64 root] 24) = wo) := Lib.hid hwo.symm
  have HTb := Lib.hid htb
  have d0 : wo.cell? ⟨tb, 0, none⟩ = some (.slice oa n oc) := HBd.out.cell 0
  have SZ24 : Hid ((Tryz.prog.info? 24).map (·.size) = some [Value.slice oa n oc, .int .i64 root].length) := Lib.hid size_doc
  clear hwo htb
  cases fw with
  | false =>
    clear HDo0 HRd0
    go_enter Tryz.func4, Tryz.ntmps4
    go_upto_region 1 with (fail)
    rw [HWo.out, ← HTb.out]
    go_wp2_with fail
    refine (HFw.out wo HPwo.out).mono ?_
    rintro e wf ⟨rfl, hPf⟩
    have HPf := Lib.hid (HPwo.out.pure hPf)
    clear hPf
    go_wp2_with fail
    refine (works_any _).mono ?_
    rintro e wz ⟨rfl, hPz⟩
    go_wp2_with fail
    go_ret
    exact ⟨rfl, (HPf.out.pure hPz).below⟩
  | true =>
    have HSt := Lib.hid (HDo0.out rfl)
    have HRf := Lib.hid (HRd0.out rfl)
    clear HDo0 HRd0
    go_enter Tryz.func4, Tryz.ntmps4
    go_upto_region 1 with (fail)
    rw [HWo.out, ← HTb.out]
    go_wp2_with fail
    refine (HFw.out wo HPwo.out).mono ?_
    rintro e wf ⟨rfl, hPf⟩
    have HPf := Lib.hid (HPwo.out.pure hPf)
    have HBdf := Lib.hid (HBd.out.ext hPf id)
    clear hPf d0
    go_wp2_with fail
    have hBd := HBdf.out.drew
    have hPw := HPf.out.drew
    go_upto_region 3 with (fail)
    refine region_start (fun _ => False) (by kernel_rfl) ?_
    try simp only [Act.put, List.setIfInBounds_toArray, List.set_cons_zero, List.set_cons_succ]
    refine region_take 0 8 (v := ?vza0) rfl rfl (by kernel_rfl) (by kernel_rfl) (by kernel_rfl) (fun _ _ _ h => h) (by rfl) (fun w' hS => ?hza0) ?rza0
    case hza0 => (refine exec_load2 (x := .tmp 1) ?_ ?_ (hBd.ext hS id) SZ24.out <;> rfl)
    try simp only [Act.put, List.setIfInBounds_toArray, List.set_cons_zero, List.set_cons_succ]
    refine region_take 2 10 (v := ?vza2) rfl rfl (by kernel_rfl) (by kernel_rfl) (by kernel_rfl) (fun _ _ _ h => h) (by rfl) (fun w' hS => ?hza2) ?rza2
    case hza2 => (refine exec_load2 (x := .tmp 1) ?_ ?_ (hBd.ext hS id) SZ24.out <;> rfl)
    try simp only [Act.put, List.setIfInBounds_toArray, List.set_cons_zero, List.set_cons_succ]
    refine wpAnyH_ready (rs := [1]) (by kernel_rfl) (by simp) (AllReadyH.cons rfl (fun K hK => ?_) AllReadyH.nil)
    go_simp
    refine (HSt.out _ hPw).mono ?_
    rintro e wa ⟨rfl, hP⟩
    have hBd := hBd.ext hP id
    have hPw := hPw.pure hP
    refine hK.out _ _ (hP) (fun hHeld => ?_)
    clear hK K hHeld
    refine region_now (hP) ?_
    try simp only [Act.put, List.setIfInBounds_toArray, List.set_cons_zero, List.set_cons_succ]
    refine wpAnyH_ready (rs := [3]) (by kernel_rfl) (by simp) (AllReadyH.cons rfl (fun K hK => ?_) AllReadyH.nil)
    go_simp
    refine (HRf.out _ hPw).mono ?_
    rintro e wa ⟨rfl, hP⟩
    have hBd := hBd.ext hP id
    have hPw := hPw.pure hP
    refine hK.out _ _ (hP) (fun hHeld => ?_)
    clear hK K hHeld
    refine region_now (hP) ?_
    try simp only [Act.put, List.setIfInBounds_toArray, List.set_cons_zero, List.set_cons_succ]
    refine region_take 4 12 (v := ?vza4) rfl rfl (by kernel_rfl) (by kernel_rfl) (by kernel_rfl) (fun _ _ _ h => h) (by rfl) (fun w' hS => ?hza4) ?rza4
    case hza4 => go_simp; with_reducible rfl
    try simp only [Act.put, List.setIfInBounds_toArray, List.set_cons_zero, List.set_cons_succ]
    refine region_take 5 13 (v := ?vza5) rfl rfl (by kernel_rfl) (by kernel_rfl) (by kernel_rfl) (fun _ _ _ h => h) (by rfl) (fun w' hS => ?hza5) ?rza5
    case hza5 => go_simp; with_reducible rfl
    try simp only [Act.put, List.setIfInBounds_toArray, List.set_cons_zero, List.set_cons_succ]
    refine wpAnyH_ready (rs := [6]) (by kernel_rfl) (by simp) (AllReadyH.cons rfl (fun K hK => ?_) AllReadyH.nil)
    go_simp
    refine (works_any _).mono ?_
    rintro e wa ⟨rfl, hP⟩
    have hBd := hBd.ext hP id
    have hPw := hPw.pure hP
    refine hK.out _ _ (hP) (fun hHeld => ?_)
    clear hK K hHeld
    refine region_now (hP) ?_
    try simp only [Act.put, List.setIfInBounds_toArray, List.set_cons_zero, List.set_cons_succ]
    refine region_take 7 15 (v := ?vza7) rfl rfl (by kernel_rfl) (by kernel_rfl) (by kernel_rfl) (fun _ _ _ h => h) (by rfl) (fun w' hS => ?hza7) ?rza7
    case hza7 => go_simp; with_reducible rfl
    try simp only [Act.put, List.setIfInBounds_toArray, List.set_cons_zero, List.set_cons_succ]
    refine region_take 8 2 (v := ?vza8) rfl rfl (by kernel_rfl) (by kernel_rfl) (by kernel_rfl) (fun _ _ _ h => h) (by rfl) (fun w' hS => ?hza8) ?rza8
    case hza8 => go_simp; with_reducible rfl
    try simp only [Act.put, List.setIfInBounds_toArray, List.set_cons_zero, List.set_cons_succ]
    refine wpAnyH_done (by kernel_rfl) ?_ _
    go_simp
    try simp only [Act.put, List.setIfInBounds_toArray, List.set_cons_zero, List.set_cons_succ]
    go_wp2_with fail
    go_ret
    exact ⟨rfl, hPw.below⟩

set_option maxRecDepth 100000 in
theorem lifted (os : Os) (started : os.Started) (H : Type) (enc : TypeId × Value → H) :
    ReturnsInHanded {} Tryz.checked os 4 .any (Rows.checkDocsSpec.pre6 enc Tryz.prog Tryz.f4 Rows.checkDocsRow.domain false) (Rows.checkDocsSpec.post enc Tryz.prog Tryz.f4 false true false false) := by
  refine returnsInHanded_of_change (C := Tryz.checked) own started (by kernel_rfl) Tryz.func4
    (ChangeSpec.witness6 (enc := enc) (C := Tryz.checked) false ⟨#[], #[.agg #[.slice none 0 0, .int .i64 0]], []⟩ 8 (by kernel_rfl) (by kernel_rfl) (by kernel_rfl) (by kernel_rfl)) ?_
  intro W base args ds gs before hval0 hW hcnd _
  have hval : ∀ (j : Nat) t v, Tryz.f4.params[j]? = some t → args[j]? = some v → Value.okWide Tryz.prog W .any base t v := hval0
  have hW' := hW
  obtain ⟨p, q, hA0, hV, rfl, hfz, hnd⟩ := hW
  have hA : DataW.TrodAll enc Tryz.prog W 0 (fun _ => true) true Tryz.f4.params.toList args.toList ds p := hA0
  rw [Tryz.params4] at hA hval
  obtain ⟨v0, vs0, d0, ds0, p0, q0, hargs, rfl, rfl, h0, r0⟩ := trodAll_cons hA
  obtain ⟨rfl, rfl, rfl⟩ := trodAll_nil r0
  obtain rfl : args = #[v0] := by cases args; simp_all
  obtain ⟨rfl, rfl⟩ := trodVars_none hV
  have k0 := h0
  have lt0 : ∀ x ∈ p0, x.block < W.heap.size := by obtain ⟨m, hm⟩ := k0; exact DataW.trod_lt m _ _ _ hm
  obtain ⟨F0, objs, oa, oc, rows, root, rfl, hOK0, hoc0, hcm0, hwf0, _, hr0⟩ := open_doc (hval 0 24 v0 rfl rfl) h0
  clear hA0 hval0
  refine (walk F0 objs oa oc rows root W hOK0 hoc0 hcm0 hwf0 hr0).mono fun e W' ⟨he, bel⟩ => ?_
  subst he
  exact ⟨_, rfl, _, _, _, [], _, [], hW', trodAll_mk1 (shut_bool Tryz.underlying4 _), (trodAll_cons_mk (Below.trod laidOut (by kernel_rfl) (of_decide_eq_true (by kernel_rfl)) k0 bel lt0) trodAll_mk0), rfl, bel.frame _, fun h => by cases h⟩

theorem proved : Rows.CheckDocsSaid :=
  OpenClaim.holds_of_wide 4 Tryz.f4 rfl rfl rfl rfl rfl rfl rfl ⟨rfl, rfl, rfl, rfl, rfl⟩ rfl rfl rfl rfl rfl (by kernel_rfl) Tryz.func4 (by kernel_rfl)
    (of_decide_eq_true (by kernel_rfl)) (by unfold Func.isWrapper; first | (rw [if_pos (by decide +kernel)]; kernel_rfl) | (rw [if_neg (by decide +kernel)]; exact ⟨rfl, rfl⟩))
    (fun os started H enc _ => lifted os started H enc)
#print axioms proved
end Go.Proofs.YtkkmppalifjgnaaGreat.checkDocs
