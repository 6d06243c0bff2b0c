/-
  ShareParts: the parts of any Doc are as the document says, or the error. No condition.
-/
import Derived.Test.YtnpiemcfbnpfdaaGreatDocOkSp
import Derived.Test.YtnpiemcfbnpfdaaGreatRSplitSp
import Derived.Test.YtnpiemcfbnpfdaaGreatWorks24Sp
import Derived.OwnWalk
import Derived.Test.YtnpiemcfbnpfdaaGreatSqSp
set_option linter.unusedVariables false
set_option linter.unusedSimpArgs false
set_option maxRecDepth 100000
namespace Go.Proofs.YtnpiemcfbnpfdaaGreat
open Go.RowKit
theorem few_docok {W : World} {F : Nat} {l : List Ob} {oa : Option Addr} {rows : List (List Value)} {root : Int} (h : OKids W F l oa rows) (hw : ∀ u ∈ l, u.data.size ≤ maxLen ∧ u.v.wf) (hr : (Lit.int .i64 root).wf = true) (hf : fewO l 80 = true) :
 DocOk W F l oa rows root := by
 refine ⟨h.mono (Nat.le_succ _), by have := (fewO_in hf).1; omega, fun u hu => ?_, fun u hu => (hw u hu).2, hr⟩;unfold fewO at hf;rw [Bool.and_eq_true, List.all_eq_true] at hf;have h1 := hf.2 u hu;unfold Ob.few at h1;rw [Bool.and_eq_true, Bool.and_eq_true] at h1;have h2 := of_decide_eq_true h1.1.1;rw [V.few_size _ _ (by omega)] at h2
 split at h2 <;> omega
section
open Go.ChangeShapes Go.WideShapes Go.ChangeAt
end
end Go.Proofs.YtnpiemcfbnpfdaaGreat
namespace Go.Proofs.YtnpiemcfbnpfdaaGreat.shareParts
open Go.ChangeShapes Go.WideShapes Go.ChangeAt Go.RowKit Go.Proofs.YtnpiemcfbnpfdaaGreat
theorem exec_loadS {oi : Oper} {ev : Operand → Value} {w : World} {x : Operand} {b : Nat} {cs : List Value} {T : TypeId} (ho : oi.op = .load 37 x) (hx : ev x = .pointer (some ⟨b, 0, none⟩)) (hB : BlockIs w b cs T) (hl : (Tryz.prog.info? 37).map (·.size) = some cs.length) :
 (execOp ev oi).run Tryz.prog w = .ok (.value (.agg cs.toArray)) w := by
 unfold execOp;simp only [ho, hx, Instr.loadAt, Instr.sureAddr, Sem.run_bind, Sem.run_pure, Result.andThen_ok, run_loadVar_mid w b 0 37 cs _ hB.range Tryz.underlying37 rfl hl]
theorem exec_loadR {oi : Oper} {ev : Operand → Value} {w : World} {x : Operand} {b : Nat} {cs : List Value} {T : TypeId} (ho : oi.op = .load 40 x) (hx : ev x = .pointer (some ⟨b, 0, none⟩)) (hB : BlockIs w b cs T) (hl : (Tryz.prog.info? 40).map (·.size) = some cs.length) :
 (execOp ev oi).run Tryz.prog w = .ok (.value (.agg cs.toArray)) w := by
 unfold execOp;simp only [ho, hx, Instr.loadAt, Instr.sureAddr, Sem.run_bind, Sem.run_pure, Result.andThen_ok, run_loadVar_mid w b 0 40 cs _ hB.range Tryz.underlying40 rfl hl]
theorem few_sizes {l : List Ob} (hf : fewO l 80 = true) (n : Int) : (obAt l n).v.size ≤ 300 := by
 rcases obAt_cases l n with h | h
 ·unfold fewO at hf
  rw [Bool.and_eq_true, List.all_eq_true] at hf;have h1 := hf.2 _ h;unfold Ob.few at h1;rw [Bool.and_eq_true, Bool.and_eq_true] at h1;have h2 := of_decide_eq_true h1.1.1;rw [V.few_size _ _ (by omega)] at h2
  split at h2 <;> omega
 ·rw [h]
  decide +kernel
theorem mem_flat_len {rows : List (List Int)} {r : List Int} (h : r ∈ rows) : r.length ≤ rows.flatten.length := by
 induction rows with
 | nil => cases h
 | cons q rows ih =>
   rw [List.flatten_cons, List.length_append]
   rcases List.mem_cons.1 h with rfl | h
   ·omega
   ·have := ih h; omega
def PTo (P : PartsP) (E : Int) (w : World) (e : Ending) (w' : World) : Prop :=
 ∃ (a0 a1 a2 a3 a4 : Option Addr) (n0 n1 n2 n3 n4 c0 c1 c2 c3 c4 : Nat), e = .returned (.tuple #[.agg #[.slice a0 n0 c0, .slice a1 n1 c1, .slice a2 n2 c2, .slice a3 n3 c3, .slice a4 n4 c4], .int .i64 E]) ∧ PAt P (.slice a0 n0 c0) (.slice a1 n1 c1) (.slice a2 n2 c2) (.slice a3 n3 c3) (.slice a4 n4 c4) w' ∧ Pure w w'
theorem no_parts (w : World) : PAt ⟨[], [], [], [], []⟩ (.slice none 0 0) (.slice none 0 0) (.slice none 0 0) (.slice none 0 0) (.slice none 0 0) w := by
 have hk : CRow.ok w ⟨none, 0, []⟩ := ⟨fun i u hu => (by cases hu), fun _ => rfl, Nat.le_refl _⟩;exact ⟨⟨none, 0, []⟩, ⟨none, 0, []⟩, ⟨none, 0, []⟩, ⟨none, 0, []⟩, none, 0, [], ⟨rfl, rfl, rfl, rfl, rfl, hk, hk, ⟨fun i u hu => by simp at hu, fun q hq => by cases hq⟩, ⟨fun _ => rfl, Nat.le_refl _⟩, fun q hq => (by cases hq), hk, hk⟩, rfl, rfl, rfl, rfl, rfl⟩
set_option maxHeartbeats 8000000 in
theorem walk (F0 : Nat) (objs : List Ob) (oa : Option Addr) (oc : Nat) (rows : List (List Value)) (root : Int) (w : World)
 (hOK : OKids w F0 objs oa rows) (hoc : objs.length ≤ oc) (hcm : oc ≤ maxLen) (hwf : ∀ u ∈ objs, u.data.size ≤ maxLen ∧ u.v.wf) (hr : (Lit.int .i64 root).wf = true) :
 Calls Tryz.prog 4 #[.agg #[.slice oa objs.length oc, .int .i64 root]] w fun e w' => e = .returned (.bool true) ∧ Below w.heap.size w w' := by
 have HFw := qh (fun W (hP : Pure w W) => fewo_any F0 objs oa oc rows 40 W (hOK.pure hP) hoc hcm);have h80 : fewO objs 40 = true → fewO objs 80 = true := fun hf => by
  unfold fewO at hf ⊢;rw [Bool.and_eq_true, decide_eq_true_eq] at hf ⊢;exact ⟨by omega, hf.2⟩
 have HDok := qh (fun (hf : fewO objs 40 = true) => few_docok hOK hwf hr (h80 hf));have HSz := qh (fun (hf : fewO objs 40 = true) => few_sizes (h80 hf));have HDs := qh (fun u hu => (hwf u hu).1);obtain ⟨n, hn⟩ : ∃ z, z = objs.length := ⟨_, rfl⟩;obtain ⟨fw, hfw⟩ : ∃ z, z = fewO objs 40 := ⟨_, rfl⟩;rw [← hn, ← hfw] at HFw;rw [← hfw] at HDok HSz;rw [← hn];have HN := qh hn;clear hOK hwf hn hfw hoc hcm hr h80;obtain ⟨wo, hwo⟩ : ∃ z, z = w.alloc (.cells #[.slice oa n oc, .int .i64 root] 24) := ⟨_, rfl⟩;obtain ⟨tb, htb⟩ : ∃ z, z = w.heap.size := ⟨_, rfl⟩;have HPwo : Hid (Pure w wo) := qh (by rw [hwo]; exact ext_alloc w _);have HBd : Hid (BlockIs wo tb [.slice oa n oc, .int .i64 root] 24) := qh (by rw [hwo, htb]; exact BlockIs.new w [.slice oa n oc, .int .i64 root] 24);have HWo : Hid (w.alloc (.cells #[.slice oa n oc, .int .i64 root] 24) = wo) := qh hwo.symm;have HTb := qh htb;have d0 : wo.cell? ⟨tb, 0, none⟩ = some (.slice oa n oc) := HBd.out.cell 0;clear hwo htb;cases fw with
 | false =>
   clear HDok HSz
   go_enter Tryz.func4, Tryz.ntmps4
   go_wp2_with fail
   rw [HWo.out, ← HTb.out]
   go_wp2_with fail
   refine (HFw.out wo HPwo.out).mono ?_;rintro e wf ⟨rfl, hPf⟩;have HPf := qh (HPwo.out.pure hPf);clear hPf
   go_wp2_with fail
   refine (works_any _).mono ?_;rintro e wz ⟨rfl, hPz⟩
   go_wp2_with fail
   go_ret;exact ⟨rfl, (HPf.out.pure hPz).below⟩
 | true =>
   have HD := qh (HDok.out rfl);have HZ := qh (HSz.out rfl);have hX : ∃ P E, PSmall P ∧ (∀ W, Pure w W → Calls Tryz.prog 10 #[.agg #[.slice oa objs.length oc, .int .i64 root]] W (PTo P E W)) ∧ (∀ W, Pure w W → Calls Tryz.prog 11 #[.agg #[.slice oa objs.length oc, .int .i64 root]] W (PTo P E W)) := by
    by_cases hE : docE objs root = 0
    ·obtain ⟨T, n0, kids, q, Rs, hG⟩ := good_doc hE HZ.out (fun i => HD.out.at_wf i)
     refine ⟨partsP objs.length T.nodes root (rowsL objs Rs), 0, ?_, fun W hP => ?_, fun W hP => ?_⟩
     ·have hAl : (partsP objs.length T.nodes root (rowsL objs Rs)).all.length ≤ objs.length := by
       have h1 := nodup_sub (ys := (List.range objs.length).map (fun i : Nat => (i : Int) + 1)) hG.good.nodup (fun x hx => by
        have := (hG.good.mem x).1 hx;exact List.mem_map.2 ⟨(x - 1).toNat, List.mem_range.2 (by omega), by omega⟩)
       rwa [List.length_map, List.length_range] at h1
      have hn := hG.good.len;have ho := hG.good.own_len;have ht := hG.good.fine.tok.len;obtain ⟨p, hp⟩ : ∃ z, z = partsP objs.length T.nodes root (rowsL objs Rs) := ⟨_, rfl⟩;rw [← hp] at hAl ho ⊢;unfold PartsP.all at hAl;simp only [List.length_append] at hAl;exact ⟨by omega, by omega, by omega, by omega, by omega, fun r hr => by have := mem_flat_len hr; omega⟩
     ·exact splitg_any (oc := oc) (HD.out.pure hP) HDs.out hE hG
     ·exact refsplit_any (oc := oc) (HD.out.pure hP) HDs.out hE hG
    ·refine ⟨⟨[], [], [], [], []⟩, docE objs root, ⟨by decide, by decide, by decide, by decide, by decide, fun r hr => by cases hr⟩, fun W hP => ?_, fun W hP => ?_⟩
     ·exact (split_bad F0 objs oa oc rows root _ W (HD.out.pure hP) HDs.out rfl hE).mono (fun e W' ⟨h1, h2⟩ => ⟨none, none, none, none, none, 0, 0, 0, 0, 0, 0, 0, 0, 0, 0, h1, no_parts W', h2⟩)
     ·exact (refsplit_bad F0 objs oa oc rows root _ W (HD.out.pure hP) HDs.out rfl hE).mono (fun e W' ⟨h1, h2⟩ => ⟨none, none, none, none, none, 0, 0, 0, 0, 0, 0, 0, 0, 0, 0, h1, no_parts W', h2⟩)
   obtain ⟨P, E, hS, hA, hB⟩ := hX;rw [← HN.out] at hA hB;have HSm := qh hS;have HA := qh hA;have HB := qh hB;unfold PTo at HA HB;clear HDok HSz HDs HD HZ hS hA hB
   go_enter Tryz.func4, Tryz.ntmps4
   go_wp2_with fail
   rw [HWo.out, ← HTb.out]
   go_wp2_with fail
   refine (HFw.out wo HPwo.out).mono ?_;rintro e w1 ⟨rfl, hPf⟩;have HP1 := qh (HPwo.out.pure hPf);have HB1 := qh (HBd.out.ext hPf id);clear hPf d0;have e0 : w1.cell? ⟨tb, 0, none⟩ = some (.slice oa n oc) := HB1.out.cell 0;have e1 : w1.cell? ⟨tb, 0 + 1, none⟩ = some (.int .i64 root) := HB1.out.cell 1
   go_wp2_with fail
   refine (HA.out w1 HP1.out).mono ?_;rintro e W2 ⟨a0, a1, a2, a3, a4, n0, n1, n2, n3, n4, c0, c1, c2, c3, c4, rfl, H, hP2⟩;obtain ⟨W3, hW3⟩ : ∃ z, z = W2.alloc (.cells #[.slice a0 n0 c0, .slice a1 n1 c1, .slice a2 n2 c2, .slice a3 n3 c3, .slice a4 n4 c4] 37) := ⟨_, rfl⟩;have hP23 : Pure W2 W3 := by rw [hW3]; exact ext_alloc W2 _
   have HB3 : Hid (BlockIs W3 W2.heap.size [.slice a0 n0 c0, .slice a1 n1 c1, .slice a2 n2 c2, .slice a3 n3 c3, .slice a4 n4 c4] 37) := qh (by rw [hW3]; exact BlockIs.new W2 _ _);have HP3 := qh ((HP1.out.pure hP2).pure hP23);have HH3 := qh (H.pure hP23);have HD3 := qh (HB1.out.ext (hP2.pure hP23) id);have HW3 := qh hW3.symm;obtain ⟨sb, hsb⟩ : ∃ z, z = W2.heap.size := ⟨_, rfl⟩;rw [← hsb] at HB3;have HSb := qh hsb.symm;clear hP2 H hW3 hsb hP23 e0 e1;have e0 : W3.cell? ⟨tb, 0, none⟩ = some (.slice oa n oc) := HD3.out.cell 0;have e1 : W3.cell? ⟨tb, 0 + 1, none⟩ = some (.int .i64 root) := HD3.out.cell 1
   go_upto_region 4 with (fail)
   rw [HW3.out, HSb.out]
   go_wp2_with fail
   refine (HB.out W3 HP3.out).mono ?_;rintro e W4 ⟨r0, r1, r2, r3, r4, m0, m1, m2, m3, m4, k0, k1, k2, k3, k4, rfl, H, hP4⟩;obtain ⟨W5, hW5⟩ : ∃ z, z = W4.alloc (.cells #[.slice r0 m0 k0, .slice r1 m1 k1, .slice r2 m2 k2, .slice r3 m3 k3, .slice r4 m4 k4] 40) := ⟨_, rfl⟩;have hBr : BlockIs W5 W4.heap.size [.slice r0 m0 k0, .slice r1 m1 k1, .slice r2 m2 k2, .slice r3 m3 k3, .slice r4 m4 k4] 40 := by rw [hW5]; exact BlockIs.new W4 _ _
   have HW5 := qh hW5.symm;have hP5 : Pure W4 W5 := by rw [hW5]; exact ext_alloc W4 _
   have HB5 := qh ((HB3.out.ext hP4 id).ext hP5 id);have HP5 := qh ((HP3.out.pure hP4).pure hP5);have HH5 := qh ((HH3.out.pure hP4).pure hP5);have HHr := qh (H.pure hP5);obtain ⟨rb, hrb⟩ : ∃ z, z = W4.heap.size := ⟨_, rfl⟩;rw [← hrb] at hBr;have HRb := qh hrb.symm;have HBr := qh hBr;clear hP4 H hW5 hP5 hrb HB3 HH3 HW3 hBr e0 e1
   go_upto_region 5 with (fail)
   rw [HW5.out, HRb.out];have hBs := HB5.out.drew;have hBr := HBr.out.drew;have hPw := HP5.out.drew;have hP5 : Pure W5 W5.drew := (Ext.refl _ W5).drew;refine region_start (fun _ => False) (by kernel_rfl) ?_
   try simp only [Act.put, sA, sZ, sS]
   refine rU 0 22 (v := ?vsp0) (fun w' hS => ?hsp0) ?rsp0
   case hsp0 => (refine exec_loadS (x := .tmp 3) ?_ ?_ (hBs.ext hS id) sizeSP <;> rfl)
   try simp only [Act.put, sA, sZ, sS]
   refine rU 2 24 (v := ?vsp2) (fun w' hS => ?hsp2) ?rsp2
   case hsp2 => (refine exec_loadR (x := .tmp 5) ?_ ?_ (hBr.ext hS id) sizeRP <;> rfl)
   try simp only [Act.put, sA, sZ, sS]
   refine rR 1 (fun K hK => ?_)
   go_simp
   refine (lawof_any a0 a1 a2 a3 a4 n0 n1 n2 n3 n4 c0 c1 c2 c3 c4 _).mono ?_;rintro e wv ⟨rfl, hP⟩;have hBr := hBr.ext hP id;have hPw := hPw.pure hP;have hP5 := hP5.pure hP;refine hK.out _ _ (hP) (fun hHeld => ?_);clear hK K hHeld;refine region_now (hP) ?_
   try simp only [Act.put, sA, sZ, sS]
   refine rR 3 (fun K hK => ?_)
   go_simp
   refine (rpsame2_any (HH5.out.pure hP5) (HHr.out.pure hP5) HSm.out).mono ?_;rintro e wv ⟨rfl, hP⟩;have hPw := hPw.pure hP;refine hK.out _ _ (hP) (fun hHeld => ?_);clear hK K hHeld;refine region_now (hP) ?_
   try simp only [Act.put, sA, sZ, sS]
   refine rT 4 26 ?_;refine rT 5 27 ?_;refine rT 6 28 ?_;refine rT 7 29 ?_;refine rT 8 30 ?_;refine rT 9 31 ?_;refine rR 10 (fun K hK => ?_)
   go_simp
   refine (works_any _).mono ?_;rintro e wv ⟨rfl, hP⟩;have hPw := hPw.pure hP;refine hK.out _ _ (hP) (fun hHeld => ?_);clear hK K hHeld;refine region_now (hP) ?_
   try simp only [Act.put, sA, sZ, sS]
   refine rT 11 33 ?_;refine rT 12 2 ?_;refine wpAnyH_done (by kernel_rfl) ?_ _
   go_simp
   try simp only [Act.put, sA, sZ, sS]
   go_wp2_with fail
   go_ret;exact ⟨rfl, hPw.below⟩
theorem lifted (os : Os) (started : os.Started) (H : Type) (enc : TypeId × Value → H) :
 ReturnsInHanded {} Tryz.checked os 4 .any (Rows.sharePartsSpec.pre6 enc Tryz.prog Tryz.f4 Rows.sharePartsRow.domain false) (Rows.sharePartsSpec.post enc Tryz.prog Tryz.f4 false true false false) := by
 refine returnsInHanded_of_change (C := Tryz.checked) own started (by kernel_rfl) Tryz.func4
  (ChangeSpec.witness6 (enc := enc) (C := Tryz.checked) false ⟨#[], #[.agg #[.slice none 0 0, .int .i64 0]], []⟩ 8 (by kernel_rfl) (by kernel_rfl) (by kernel_rfl) (by kernel_rfl)) ?_
 intro W base args ds gs before hval0 hW hcnd _
 have hval : ∀ (j : Nat) t v, Tryz.f4.params[j]? = some t → args[j]? = some v → Value.okWide Tryz.prog W .any base t v := hval0;have hW' := hW;obtain ⟨p, q, hA0, hV, rfl, hfz, hnd⟩ := hW;have hA : DataW.TrodAll enc Tryz.prog W 0 (fun _ => true) true Tryz.f4.params.toList args.toList ds p := hA0;rw [Tryz.params4] at hA hval;obtain ⟨v0, vs0, d0, ds0, p0, q0, hargs, rfl, rfl, h0, r0⟩ := trodAll_cons hA;obtain ⟨rfl, rfl, rfl⟩ := trodAll_nil r0;obtain rfl : args = #[v0] := by cases args; simp_all
 obtain ⟨rfl, rfl⟩ := trodVars_none hV;have k0 := h0;have lt0 : ∀ x ∈ p0, x.block < W.heap.size := by obtain ⟨m, hm⟩ := k0; exact DataW.trod_lt m _ _ _ hm
 obtain ⟨F0, objs, oa, oc, rows, root, rfl, hOK0, hoc0, hcm0, hwf0, _, hr0⟩ := open_doc (hval 0 24 v0 rfl rfl) h0;clear hA0 hval0;refine (walk F0 objs oa oc rows root W hOK0 hoc0 hcm0 hwf0 hr0).mono fun e W' ⟨he, bel⟩ => ?_
 subst he;exact ⟨_, rfl, _, _, _, [], _, [], hW', trodAll_mk1 (shut_bool Tryz.underlying4 _), (trodAll_cons_mk (Below.trod laidOut (by kernel_rfl) (of_decide_eq_true (by kernel_rfl)) k0 bel lt0) trodAll_mk0), rfl, bel.frame _, fun h => by cases h⟩
theorem proved : Rows.SharePartsSaid :=
 OpenClaim.holds_of_wide 4 Tryz.f4 rfl rfl rfl rfl rfl rfl rfl ⟨rfl, rfl, rfl, rfl, rfl⟩ rfl rfl rfl rfl rfl (by kernel_rfl) Tryz.func4 (by kernel_rfl)
  (of_decide_eq_true (by kernel_rfl)) (by unfold Func.isWrapper; first | (rw [if_pos (by decide +kernel)]; kernel_rfl) | (rw [if_neg (by decide +kernel)]; exact ⟨rfl, rfl⟩))
  (fun os started H enc _ => lifted os started H enc)
#print axioms proved
