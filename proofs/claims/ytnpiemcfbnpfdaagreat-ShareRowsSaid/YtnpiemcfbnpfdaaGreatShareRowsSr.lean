/-
  ShareRows: the rows of all pages of any Doc are as the document says, or the error. No condition.
-/
import Derived.Test.YtnpiemcfbnpfdaaGreatRRowsSr
import Derived.Test.YtnpiemcfbnpfdaaGreatWorks24Sr
import Derived.Test.YtnpiemcfbnpfdaaGreatOpenSSr
import Derived.OwnWalk
import Derived.Test.YtnpiemcfbnpfdaaGreatSqSr
set_option linter.unusedVariables false
set_option linter.unusedSimpArgs false
set_option maxRecDepth 100000
namespace Go.Proofs.YtnpiemcfbnpfdaaGreat.shareRows
open Go.ChangeShapes Go.WideShapes Go.ChangeAt Go.RowKit Go.Proofs.YtnpiemcfbnpfdaaGreat
set_option maxHeartbeats 2000000 in
theorem refrows_bad (d : Nat) (l : List Ob) (oa : Option Addr) (oc : Nat) (rws : List (List Value)) (root E : Int) (w : World) (hD : DocOk w d l oa rws root) (hds : ∀ u ∈ l, u.data.size ≤ maxLen) (hE : docE l root = E) (h0 : E ≠ 0) :
 Calls Tryz.prog 8 #[.agg #[.slice oa l.length oc, .int .i64 root]] w (fun e w' => e = .returned (.tuple #[.slice none 0 0, .int .i64 E]) ∧ Pure w w') := by
 have HDo := qh (fun W (hP : Pure w W) => (hE ▸ refdoc_any d l oa oc rws root W (hD.pure hP) hds : Calls Tryz.prog 18 #[.agg #[.slice oa l.length oc, .int .i64 root]] W (IntTo E W)))
 obtain ⟨n, hn⟩ : ∃ z, z = l.length := ⟨_, rfl⟩
 rw [← hn] at HDo ⊢
 obtain ⟨w1, hw1⟩ : ∃ z, z = w.alloc (.cells #[.slice oa n oc, .int .i64 root] 24) := ⟨_, rfl⟩
 have HP1 : Hid (Pure w w1) := qh (by rw [hw1]; exact ext_alloc w _)
 have HBd : Hid (BlockIs w1 w.heap.size [.slice oa n oc, .int .i64 root] 24) := qh (by rw [hw1]; exact BlockIs.new w _ _)
 have HW1 := qh hw1.symm
 obtain ⟨tb, htb⟩ : ∃ z, z = w.heap.size := ⟨_, rfl⟩
 rw [← htb] at HBd
 have HTb := qh htb.symm
 have d0 : w1.cell? ⟨tb, 0, none⟩ = some (.slice oa n oc) := HBd.out.cell 0
 have d1 : w1.cell? ⟨tb, 0 + 1, none⟩ = some (.int .i64 root) := HBd.out.cell 1
 have hEb : (E == 0) = false := beq_eq_false_iff_ne.2 h0
 clear hw1 hn hD hds hE htb
 go_enter Tryz.func8, Tryz.ntmps8
 go_upto_region 1 with (fail)
 rw [HW1.out, HTb.out]
 go_wp2_with fail
 refine (HDo.out w1 HP1.out).mono ?_
 rintro e w2 ⟨rfl, hP⟩
 have HP2 := qh (HP1.out.pure hP)
 clear hP d0 d1
 go_wp2_with fail
 go_ret2
 exact ⟨rfl, HP2.out⟩
theorem few_sizes {l : List Ob} (hf : fewO l 80 = true) (n : Int) : (obAt l n).v.size ≤ 300 := by
 rcases obAt_cases l n with h | h
 ·unfold fewO at hf
  rw [Bool.and_eq_true, List.all_eq_true] at hf
  have h1 := hf.2 _ h
  unfold Ob.few at h1
  rw [Bool.and_eq_true, Bool.and_eq_true] at h1
  have h2 := of_decide_eq_true h1.1.1
  rw [V.few_size _ _ (by omega)] at h2
  split at h2 <;> omega
 ·rw [h]
  decide +kernel
def RTo (L : List (List Int)) (E : Int) (w : World) (e : Ending) (w' : World) : Prop :=
 ∃ (a : Option Addr) (c : Nat) (rs : List CRow), e = .returned (.tuple #[.slice a rs.length c, .int .i64 E]) ∧ lsR rs = L ∧ Rws w' a rs ∧ Pure w w'
set_option maxHeartbeats 8000000 in
theorem walk (F0 : Nat) (objs : List Ob) (oa : Option Addr) (oc : Nat) (rows : List (List Value)) (root : Int) (w : World)
 (hOK : OKids w F0 objs oa rows) (hoc : objs.length ≤ oc) (hcm : oc ≤ maxLen) (hwf : ∀ u ∈ objs, u.data.size ≤ maxLen ∧ u.v.wf) (hr : (Lit.int .i64 root).wf = true) :
 Calls Tryz.prog 3 #[.agg #[.slice oa objs.length oc, .int .i64 root]] w fun e w' => e = .returned (.bool true) ∧ Below w.heap.size w w' := by
 have HFw := qh (fun W (hP : Pure w W) => fewo_any F0 objs oa oc rows 40 W (hOK.pure hP) hoc hcm)
 have h80 : fewO objs 40 = true → fewO objs 80 = true := fun hf => by
  unfold fewO at hf ⊢
  rw [Bool.and_eq_true, decide_eq_true_eq] at hf ⊢
  exact ⟨by omega, hf.2⟩
 have HDok := qh (fun (hf : fewO objs 40 = true) => few_docok hOK hwf hr (h80 hf))
 have HSz := qh (fun (hf : fewO objs 40 = true) => few_sizes (h80 hf))
 have HDs := qh (fun u hu => (hwf u hu).1)
 obtain ⟨n, hn⟩ : ∃ z, z = objs.length := ⟨_, rfl⟩
 obtain ⟨fw, hfw⟩ : ∃ z, z = fewO objs 40 := ⟨_, rfl⟩
 rw [← hn, ← hfw] at HFw
 rw [← hfw] at HDok HSz
 rw [← hn]
 have HN := qh hn
 clear hOK hwf hn hfw hoc hcm hr h80
 obtain ⟨wo, hwo⟩ : ∃ z, z = w.alloc (.cells #[.slice oa n oc, .int .i64 root] 24) := ⟨_, rfl⟩
 obtain ⟨tb, htb⟩ : ∃ z, z = w.heap.size := ⟨_, rfl⟩
 have HPwo : Hid (Pure w wo) := qh (by rw [hwo]; exact ext_alloc w _)
 have HBd : Hid (BlockIs wo tb [.slice oa n oc, .int .i64 root] 24) := qh (by rw [hwo, htb]; exact BlockIs.new w [.slice oa n oc, .int .i64 root] 24)
 have HWo : Hid (w.alloc (.cells #[.slice oa n oc, .int .i64 root] 24) = wo) := qh hwo.symm
 have HTb := qh htb
 have d0 : wo.cell? ⟨tb, 0, none⟩ = some (.slice oa n oc) := HBd.out.cell 0
 clear hwo htb
 cases fw with
 | false =>
   clear HDok HSz
   go_enter Tryz.func3, Tryz.ntmps3
   go_wp2_with fail
   rw [HWo.out, ← HTb.out]
   go_wp2_with fail
   refine (HFw.out wo HPwo.out).mono ?_
   rintro e wf ⟨rfl, hPf⟩
   have HPf := qh (HPwo.out.pure hPf)
   clear hPf
   go_wp2_with fail
   refine (works_any _).mono ?_
   rintro e wz ⟨rfl, hPz⟩
   go_wp2_with fail
   go_ret
   exact ⟨rfl, (HPf.out.pure hPz).below⟩
 | true =>
   have HD := qh (HDok.out rfl)
   have HZ := qh (HSz.out rfl)
   have hX : ∃ L E, (L.length ≤ 1000000 ∧ ∀ r ∈ L, r.length ≤ 1000000) ∧ (∀ W, Pure w W → Calls Tryz.prog 7 #[.agg #[.slice oa objs.length oc, .int .i64 root]] W (RTo L E W)) ∧ (∀ W, Pure w W → Calls Tryz.prog 8 #[.agg #[.slice oa objs.length oc, .int .i64 root]] W (RTo L E W)) := by
    by_cases hE : docE objs root = 0
    ·obtain ⟨T, n0, kids, q, Rs, hG⟩ := good_doc hE HZ.out (fun i => HD.out.at_wf i)
     obtain ⟨z1, z2, z3⟩ := rowsL_small hG
     refine ⟨rowsL objs Rs, 0, ⟨by omega, fun r hr => Nat.le_trans (z2 r hr).1 (by decide)⟩, fun W hP => ?_, fun W hP => ?_⟩
     ·exact (rowsg_any (oc := oc) (HD.out.pure hP) HDs.out hE hG).mono (fun e W' ⟨a, c, rs, h1, h2, h3, _, _, _, h4⟩ => ⟨a, c, rs, h1, h2, h3, h4⟩)
     ·exact (refrows_any F0 objs oa oc rows root W (HD.out.pure hP) HDs.out hE T n0 kids q Rs hG.good.fine hG.top hG.cnt hG.good.pages (fun p hp => ⟨hG.find p hp, hG.good.at_ p hp⟩)).mono (fun e W' ⟨a, c, rs, h1, h2, h3, _, _, _, h4⟩ => ⟨a, c, rs, h1, h2, h3, h4⟩)
    ·refine ⟨[], docE objs root, ⟨by decide, fun r hr => by cases hr⟩, fun W hP => ?_, fun W hP => ?_⟩
     ·exact (rows_bad F0 objs oa oc rows root _ W (HD.out.pure hP) HDs.out rfl hE).mono (fun e W' ⟨h1, h2⟩ => ⟨none, 0, [], h1, rfl, ⟨fun i u hu => by simp at hu, fun q hq => by cases hq⟩, h2⟩)
     ·exact (refrows_bad F0 objs oa oc rows root _ W (HD.out.pure hP) HDs.out rfl hE).mono (fun e W' ⟨h1, h2⟩ => ⟨none, 0, [], h1, rfl, ⟨fun i u hu => by simp at hu, fun q hq => by cases hq⟩, h2⟩)
   obtain ⟨L, E, hL, hA, hB⟩ := hX
   rw [← HN.out] at hA hB
   have HL := qh hL
   have HA := qh hA
   have HB := qh hB
   unfold RTo at HA HB
   clear HDok HSz HDs HD HZ hL hA hB
   go_enter Tryz.func3, Tryz.ntmps3
   go_wp2_with fail
   rw [HWo.out, ← HTb.out]
   go_wp2_with fail
   refine (HFw.out wo HPwo.out).mono ?_
   rintro e w1 ⟨rfl, hPf⟩
   have HP1 := qh (HPwo.out.pure hPf)
   have HB1 := qh (HBd.out.ext hPf id)
   clear hPf d0
   have e0 : w1.cell? ⟨tb, 0, none⟩ = some (.slice oa n oc) := HB1.out.cell 0
   have e1 : w1.cell? ⟨tb, 0 + 1, none⟩ = some (.int .i64 root) := HB1.out.cell 1
   go_wp2_with fail
   refine (HA.out w1 HP1.out).mono ?_
   rintro e w2 ⟨a, c, rs, rfl, hl, hR, hPf⟩
   have HP2 := qh (HP1.out.pure hPf)
   have HB2 := qh (HB1.out.ext hPf id)
   have HR := qh hR
   have HLs := qh hl
   obtain ⟨m, hm⟩ : ∃ z, z = rs.length := ⟨_, rfl⟩
   have HM := qh hm
   rw [← hm]
   clear hPf e0 e1 hR hl hm
   have e0 : w2.cell? ⟨tb, 0, none⟩ = some (.slice oa n oc) := HB2.out.cell 0
   have e1 : w2.cell? ⟨tb, 0 + 1, none⟩ = some (.int .i64 root) := HB2.out.cell 1
   go_wp2_with fail
   refine (HB.out w2 HP2.out).mono ?_
   rintro e w3 ⟨a', c', rs', rfl, hl, hR, hPf⟩
   have HP3 := qh (HP2.out.pure hPf)
   have hal := ralike_any rs rs' a a' c c' w3 (HR.out.pure hPf) hR (by rw [hl, HLs.out]) (by have := congrArg List.length HLs.out; rw [lsR_len] at this; have := HL.out.1; omega) (fun q hq => HL.out.2 _ (by rw [← HLs.out]; exact List.mem_map.2 ⟨q, hq, rfl⟩))
   obtain ⟨m', hm⟩ : ∃ z, z = rs'.length := ⟨_, rfl⟩
   rw [← HM.out, ← hm] at hal
   rw [← hm]
   have HAl := qh hal
   clear hPf e0 e1 hR hl hm hal
   go_wp2_with fail
   refine HAl.out.mono ?_
   rintro e w4 ⟨rfl, hPf⟩
   have HP4 := qh (HP3.out.pure hPf)
   clear hPf HAl
   go_wp2_with fail
   refine (works_any _).mono ?_
   rintro e wz ⟨rfl, hPz⟩
   go_wp2_with fail
   go_ret
   exact ⟨rfl, (HP4.out.pure hPz).below⟩
theorem lifted (os : Os) (started : os.Started) (H : Type) (enc : TypeId × Value → H) :
 ReturnsInHanded {} Tryz.checked os 3 .any (Rows.shareRowsSpec.pre6 enc Tryz.prog Tryz.f3 Rows.shareRowsRow.domain false) (Rows.shareRowsSpec.post enc Tryz.prog Tryz.f3 false true false false) := by
 refine returnsInHanded_of_change (C := Tryz.checked) own started (by kernel_rfl) Tryz.func3
  (ChangeSpec.witness6 (enc := enc) (C := Tryz.checked) false ⟨#[], #[.agg #[.slice none 0 0, .int .i64 0]], []⟩ 8 (by kernel_rfl) (by kernel_rfl) (by kernel_rfl) (by kernel_rfl)) ?_
 intro W base args ds gs before hval0 hW hcnd _
 have hval : ∀ (j : Nat) t v, Tryz.f3.params[j]? = some t → args[j]? = some v → Value.okWide Tryz.prog W .any base t v := hval0
 have hW' := hW
 obtain ⟨p, q, hA0, hV, rfl, hfz, hnd⟩ := hW
 have hA : DataW.TrodAll enc Tryz.prog W 0 (fun _ => true) true Tryz.f3.params.toList args.toList ds p := hA0
 rw [Tryz.params3] at hA hval
 obtain ⟨v0, vs0, d0, ds0, p0, q0, hargs, rfl, rfl, h0, r0⟩ := trodAll_cons hA
 obtain ⟨rfl, rfl, rfl⟩ := trodAll_nil r0
 obtain rfl : args = #[v0] := by cases args; simp_all
 obtain ⟨rfl, rfl⟩ := trodVars_none hV
 have k0 := h0
 have lt0 : ∀ x ∈ p0, x.block < W.heap.size := by obtain ⟨m, hm⟩ := k0; exact DataW.trod_lt m _ _ _ hm
 obtain ⟨F0, objs, oa, oc, rows, root, rfl, hOK0, hoc0, hcm0, hwf0, _, hr0⟩ := open_doc (hval 0 24 v0 rfl rfl) h0
 clear hA0 hval0
 refine (walk F0 objs oa oc rows root W hOK0 hoc0 hcm0 hwf0 hr0).mono fun e W' ⟨he, bel⟩ => ?_
 subst he
 exact ⟨_, rfl, _, _, _, [], _, [], hW', trodAll_mk1 (shut_bool Tryz.underlying4 _), (trodAll_cons_mk (Below.trod laidOut (by kernel_rfl) (of_decide_eq_true (by kernel_rfl)) k0 bel lt0) trodAll_mk0), rfl, bel.frame _, fun h => by cases h⟩
theorem proved : Rows.ShareRowsSaid :=
 OpenClaim.holds_of_wide 3 Tryz.f3 rfl rfl rfl rfl rfl rfl rfl ⟨rfl, rfl, rfl, rfl, rfl⟩ rfl rfl rfl rfl rfl (by kernel_rfl) Tryz.func3 (by kernel_rfl)
  (of_decide_eq_true (by kernel_rfl)) (by unfold Func.isWrapper; first | (rw [if_pos (by decide +kernel)]; kernel_rfl) | (rw [if_neg (by decide +kernel)]; exact ⟨rfl, rfl⟩))
  (fun os started H enc _ => lifted os started H enc)
#print axioms proved
