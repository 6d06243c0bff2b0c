/-
  CheckWalks: the walk through any Doc's tree is as the document says, or the error.
-/
import Derived.Test.YtkkmppalifjgnaaGreatWorks23
import Derived.Test.YtkkmppalifjgnaaGreatZWalk
import Derived.Test.YtkkmppalifjgnaaGreatZSame
import Derived.Test.YtkkmppalifjgnaaGreatWalkD
import Derived.Test.YtkkmppalifjgnaaGreatOpenS
import Derived.OwnWalk
namespace Go.Proofs.YtkkmppalifjgnaaGreat.checkWalks
open Go.ChangeShapes Go.WideShapes Go.ChangeAt Go.RowKit Go.Proofs.YtkkmppalifjgnaaGreat
set_option linter.unusedVariables false
set_option linter.unusedSimpArgs false

set_option maxHeartbeats 4000000 in
set_option maxRecDepth 100000 in
theorem walk (F0 : Nat) (objs : List Ob) (oa : Option Addr) (oc : Nat) (rows : List (List Value)) (root : Int) (w : World)
    (hOK : OKids w F0 objs oa rows) (hoc : objs.length ≤ oc) (hcm : oc ≤ maxLen) (hwf : ∀ u ∈ objs, u.data.size ≤ maxLen ∧ u.v.wf) (hr : (Lit.int .i64 root).wf = true) :
    Calls Tryz.prog 3 #[.agg #[.slice oa objs.length oc, .int .i64 root]] w fun e w' => e = .returned (.bool true) ∧ Below w.heap.size w w' := by
  have HFw := Lib.hid (fun W (hP : Pure w W) => fewo_any F0 objs oa oc rows 80 W (hOK.pure hP) hoc hcm)
  have HWk0 := Lib.hid (fun (hf : fewO objs 80 = true) W (hP : Pure w W) => walk_docs F0 objs oa oc rows root W ((few_docok hOK hwf hr hf).pure hP))
  have HRw0 := Lib.hid (fun (hf : fewO objs 80 = true) W (hP : Pure w W) => refwalk_any F0 objs oa oc rows root W ((few_docok hOK hwf hr hf).pure hP))
  obtain ⟨Q, hQ⟩ : ∃ z, z = walkP objs root := ⟨_, rfl⟩
  rw [← hQ] at HWk0 HRw0
  obtain ⟨t, E⟩ := Q
  obtain ⟨n, hn⟩ : ∃ z, z = objs.length := ⟨_, rfl⟩
  obtain ⟨fw, hfw⟩ : ∃ z, z = fewO objs 80 := ⟨_, rfl⟩
  rw [← hn, ← hfw] at HFw
  simp only [← hn, ← hfw] at HWk0 HRw0
  rw [← hn]
  clear hOK hwf hQ hn hfw hoc hcm hr
  obtain ⟨wo, hwo⟩ : ∃ z, z = w.alloc (.cells #[.slice oa n oc, .int .i64 root] 24) := ⟨_, rfl⟩
  obtain ⟨tb, htb⟩ : ∃ z, z = w.heap.size := ⟨_, rfl⟩
  have HPwo : Hid (Pure w wo) := Lib.hid (by rw [hwo]; exact ext_alloc w _)
  have HBd : Hid (BlockIs wo tb [.slice oa n oc, .int .i64 root] 24) := Lib.hid (by rw [hwo, htb]; exact BlockIs.new w [.slice oa n oc, .int .i64 root] 24)
  have HWo : Hid (w.alloc (.cells #[.slice oa n oc, .int .i64 root] 24) = wo) := Lib.hid hwo.symm
  have HTb := Lib.hid htb
  have d0 : wo.cell? ⟨tb, 0, none⟩ = some (.slice oa n oc) := HBd.out.cell 0
  clear hwo htb
  cases fw with
  | false =>
    clear HWk0 HRw0
    go_enter Tryz.func3, Tryz.ntmps3
    go_upto_region 1 with (fail)
    rw [HWo.out, ← HTb.out]
    go_wp2_with fail
    refine (HFw.out wo HPwo.out).mono ?_
    rintro e wf ⟨rfl, hPf⟩
    have HPf := Lib.hid (HPwo.out.pure hPf)
    clear hPf
    go_wp2_with fail
    refine (works_any _).mono ?_
    rintro e wz ⟨rfl, hPz⟩
    go_wp2_with fail
    go_ret
    exact ⟨rfl, (HPf.out.pure hPz).below⟩
  | true =>
    have HWk := Lib.hid (HWk0.out rfl)
    have HRw := Lib.hid (HRw0.out rfl)
    clear HWk0 HRw0
    go_enter Tryz.func3, Tryz.ntmps3
    go_upto_region 1 with (fail)
    rw [HWo.out, ← HTb.out]
    go_wp2_with fail
    refine (HFw.out wo HPwo.out).mono ?_
    rintro e wf ⟨rfl, hPf⟩
    have HPf := Lib.hid (HPwo.out.pure hPf)
    have HBdf := Lib.hid (HBd.out.ext hPf id)
    clear hPf d0
    have d0 : wf.cell? ⟨tb, 0, none⟩ = some (.slice oa n oc) := HBdf.out.cell 0
    have d1 : wf.cell? ⟨tb, 1, none⟩ = some (.int .i64 root) := HBdf.out.cell 1
    go_wp2_with fail
    refine (HWk.out wf HPf.out).mono ?_
    rintro e w3 ⟨a1, x1, a2, x2, rfl, hP3, hr1, hr2, hl1, hl2, hn1, hn2, hc1, hm1, hc2, hm2⟩
    have HLa := Lib.hid (show t.nodes.length ≤ 1000000 from Nat.le_trans hl1 (by decide))
    have HLb := Lib.hid (show t.pages.length ≤ 1000000 from Nat.le_trans hl2 (by decide))
    obtain ⟨an, han⟩ : ∃ z, z = t.nodes.length := ⟨_, rfl⟩
    obtain ⟨bn, hbn⟩ : ∃ z, z = t.pages.length := ⟨_, rfl⟩
    have HAn := Lib.hid han
    have HBn := Lib.hid hbn
    simp only [← han, ← hbn] at HRw ⊢
    obtain ⟨W4, hW4⟩ : ∃ z, z = w3.alloc (.cells #[.slice a1 an x1, .slice a2 bn x2] 29) := ⟨_, rfl⟩
    obtain ⟨ab, hab⟩ : ∃ z, z = w3.heap.size := ⟨_, rfl⟩
    have HB4 : Hid (BlockIs W4 ab [.slice a1 an x1, .slice a2 bn x2] 29) := Lib.hid (by rw [hW4, hab]; exact BlockIs.new w3 [.slice a1 an x1, .slice a2 bn x2] 29)
    have hP4 : Pure w3 W4 := hW4 ▸ ext_alloc w3 _
    have HR1 := Lib.hid (hr1.ext hP4 (fun _ _ => id))
    have HR2 := Lib.hid (hr2.ext hP4 (fun _ _ => id))
    have HP4 := Lib.hid ((HPf.out.pure hP3).pure hP4)
    have HBd4 := Lib.hid ((HBdf.out.ext hP3 id).ext hP4 id)
    have e0 : w3.cell? ⟨tb, 0, none⟩ = some (.slice oa n oc) := (HBdf.out.ext hP3 id).cell 0
    have e1 : w3.cell? ⟨tb, 1, none⟩ = some (.int .i64 root) := (HBdf.out.ext hP3 id).cell 1
    have hlt : tb < w3.heap.size := (HBdf.out.ext hP3 id).lt
    have HW4 := Lib.hid hW4
    have HAb := Lib.hid hab
    clear hr1 hr2 hl1 hl2 hn1 hn2 hc1 hm1 hc2 hm2 han hbn hP3 hP4 d0 d1 hW4 hab HWk HBdf
    go_wp2_with fail
    rw [← HW4.out, ← HAb.out]
    refine (HRw.out W4 HP4.out).mono ?_
    rintro e w5 ⟨hP5, b1, y1, b2, y2, rfl, hs1, hs2⟩
    simp only [← HAn.out, ← HBn.out]
    obtain ⟨W6, hW6⟩ : ∃ z, z = w5.alloc (.cells #[.slice b1 an y1, .slice b2 bn y2] 33) := ⟨_, rfl⟩
    obtain ⟨bb, hbb⟩ : ∃ z, z = w5.heap.size := ⟨_, rfl⟩
    have HB6 : Hid (BlockIs W6 bb [.slice b1 an y1, .slice b2 bn y2] 33) := Lib.hid (by rw [hW6, hbb]; exact BlockIs.new w5 [.slice b1 an y1, .slice b2 bn y2] 33)
    have hP6 : Pure w5 W6 := hW6 ▸ ext_alloc w5 _
    have HS1 := Lib.hid (hs1.row.ext hP6 (fun _ _ => id))
    have HS2 := Lib.hid (hs2.row.ext hP6 (fun _ _ => id))
    have HR16 := Lib.hid ((HR1.out.ext hP5 (fun _ _ => id)).ext hP6 (fun _ _ => id))
    have HR26 := Lib.hid ((HR2.out.ext hP5 (fun _ _ => id)).ext hP6 (fun _ _ => id))
    have HB46 := Lib.hid ((HB4.out.ext hP5 id).ext hP6 id)
    have HP6 := Lib.hid ((HP4.out.pure hP5).pure hP6)
    have HW6 := Lib.hid hW6
    have HBb := Lib.hid hbb
    clear hs1 hs2 hP5 hP6 e0 e1 hlt hW6 hbb HRw HR1 HR2 HB4 HP4 HW4
    go_upto_region 5 with (fail)
    rw [← HW6.out, ← HBb.out]
    have f0 : W6.cell? ⟨ab, 0, none⟩ = some (.slice a1 an x1) := HB46.out.cell 0
    have g0 : W6.cell? ⟨bb, 0, none⟩ = some (.slice b1 an y1) := HB6.out.cell 0
    have HSa := Lib.hid (same_any t.nodes a1 x1 b1 y1 W6 HR16.out HS1.out HLa.out)
    rw [← HAn.out] at HSa
    go_wp2_with fail
    refine HSa.out.mono ?_
    rintro e W7 ⟨rfl, hP⟩
    have HB47 := Lib.hid (HB46.out.ext hP id)
    have HB67 := Lib.hid (HB6.out.ext hP id)
    have HP7 := Lib.hid (HP6.out.pure hP)
    have HSb := Lib.hid (same_any t.pages a2 x2 b2 y2 W7 (HR26.out.ext hP (fun _ _ => id)) (HS2.out.ext hP (fun _ _ => id)) HLb.out)
    rw [← HBn.out] at HSb
    clear hP f0 g0 HSa
    have f1 : W7.cell? ⟨ab, 1, none⟩ = some (.slice a2 bn x2) := HB47.out.cell 1
    have g1 : W7.cell? ⟨bb, 1, none⟩ = some (.slice b2 bn y2) := HB67.out.cell 1
    go_wp2_with fail
    refine HSb.out.mono ?_
    rintro e W8 ⟨rfl, hP⟩
    have HP8 := Lib.hid (HP7.out.pure hP)
    clear hP f1 g1 HSb
    go_wp2_with fail
    refine (works_any _).mono ?_
    rintro e wz ⟨rfl, hPz⟩
    go_wp2_with fail
    go_ret
    exact ⟨rfl, (HP8.out.pure hPz).below⟩

set_option maxRecDepth 100000 in
theorem lifted (os : Os) (started : os.Started) (H : Type) (enc : TypeId × Value → H) :
    ReturnsInHanded {} Tryz.checked os 3 .any (Rows.checkWalksSpec.pre6 enc Tryz.prog Tryz.f3 Rows.checkWalksRow.domain false) (Rows.checkWalksSpec.post enc Tryz.prog Tryz.f3 false true false false) := by
  refine returnsInHanded_of_change (C := Tryz.checked) own started (by kernel_rfl) Tryz.func3
    (ChangeSpec.witness6 (enc := enc) (C := Tryz.checked) false ⟨#[], #[.agg #[.slice none 0 0, .int .i64 0]], []⟩ 8 (by kernel_rfl) (by kernel_rfl) (by kernel_rfl) (by kernel_rfl)) ?_
  intro W base args ds gs before hval0 hW hcnd _
  have hval : ∀ (j : Nat) t v, Tryz.f3.params[j]? = some t → args[j]? = some v → Value.okWide Tryz.prog W .any base t v := hval0
  have hW' := hW
  obtain ⟨p, q, hA0, hV, rfl, hfz, hnd⟩ := hW
  have hA : DataW.TrodAll enc Tryz.prog W 0 (fun _ => true) true Tryz.f3.params.toList args.toList ds p := hA0
  rw [Tryz.params3] at hA hval
  obtain ⟨v0, vs0, d0, ds0, p0, q0, hargs, rfl, rfl, h0, r0⟩ := trodAll_cons hA
  obtain ⟨rfl, rfl, rfl⟩ := trodAll_nil r0
  obtain rfl : args = #[v0] := by cases args; simp_all
  obtain ⟨rfl, rfl⟩ := trodVars_none hV
  have k0 := h0
  have lt0 : ∀ x ∈ p0, x.block < W.heap.size := by obtain ⟨m, hm⟩ := k0; exact DataW.trod_lt m _ _ _ hm
  obtain ⟨F0, objs, oa, oc, rows, root, rfl, hOK0, hoc0, hcm0, hwf0, _, hr0⟩ := open_doc (hval 0 24 v0 rfl rfl) h0
  clear hA0 hval0
  refine (walk F0 objs oa oc rows root W hOK0 hoc0 hcm0 hwf0 hr0).mono fun e W' ⟨he, bel⟩ => ?_
  subst he
  exact ⟨_, rfl, _, _, _, [], _, [], hW', trodAll_mk1 (shut_bool Tryz.underlying4 _), (trodAll_cons_mk (Below.trod laidOut (by kernel_rfl) (of_decide_eq_true (by kernel_rfl)) k0 bel lt0) trodAll_mk0), rfl, bel.frame _, fun h => by cases h⟩

theorem proved : Rows.CheckWalksSaid :=
  OpenClaim.holds_of_wide 3 Tryz.f3 rfl rfl rfl rfl rfl rfl rfl ⟨rfl, rfl, rfl, rfl, rfl⟩ rfl rfl rfl rfl rfl (by kernel_rfl) Tryz.func3 (by kernel_rfl)
    (of_decide_eq_true (by kernel_rfl)) (by unfold Func.isWrapper; first | (rw [if_pos (by decide +kernel)]; kernel_rfl) | (rw [if_neg (by decide +kernel)]; exact ⟨rfl, rfl⟩))
    (fun os started H enc _ => lifted os started H enc)
#print axioms proved
end Go.Proofs.YtkkmppalifjgnaaGreat.checkWalks
