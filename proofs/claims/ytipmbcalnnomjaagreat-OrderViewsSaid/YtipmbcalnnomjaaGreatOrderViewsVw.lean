/-
  OrderViews: of a Doc that may be written each page, by the new numbers, looks as it did, and there are as many. No condition.
-/
import Derived.Test.YtipmbcalnnomjaaGreatDocOkVw
import Derived.Test.YtipmbcalnnomjaaGreatWorks25Vw
import Derived.Test.YtipmbcalnnomjaaGreatViewsVw
import Derived.Test.YtipmbcalnnomjaaGreatSameVVw
import Derived.OwnWalk
import Derived.Deep.OwnRows
import Derived.Test.YtipmbcalnnomjaaGreatSqVw
set_option linter.unusedVariables false
set_option linter.unusedSimpArgs false
set_option maxRecDepth 100000
namespace Go.Proofs.YtipmbcalnnomjaaGreat
open Go.RowKit
theorem few_docok {W : World} {F : Nat} {l : List Ob} {oa : Option Addr} {rows : List (List Value)} {root : Int} (h : OKids W F l oa rows) (hw : ∀ u ∈ l, u.data.size ≤ maxLen ∧ u.v.wf) (hr : (Lit.int .i64 root).wf = true) (hf : fewO l 80 = true) :
 DocOk W F l oa rows root := by
 refine ⟨h.mono (Nat.le_succ _), by have := (fewO_in hf).1; omega, fun u hu => ?_, fun u hu => (hw u hu).2, hr⟩
 unfold fewO at hf
 rw [Bool.and_eq_true, List.all_eq_true] at hf
 have h1 := hf.2 u hu
 unfold Ob.few at h1
 rw [Bool.and_eq_true, Bool.and_eq_true] at h1
 have h2 := of_decide_eq_true h1.1.1
 rw [V.few_size _ _ (by omega)] at h2
 split at h2 <;> omega
section
open Go.ChangeShapes Go.WideShapes Go.ChangeAt
end
end Go.Proofs.YtipmbcalnnomjaaGreat
namespace Go.Proofs.YtipmbcalnnomjaaGreat.orderViews
open Go.ChangeShapes Go.WideShapes Go.ChangeAt Go.RowKit Go.Proofs.YtipmbcalnnomjaaGreat
theorem order_nums {p : PartsP} {n : Nat} (h : PartsN p n) (hn : 1 ≤ n) : (orderP p).nums = p.new n := by
 show toP (seqP p.main p.tree p.first) (mostP (p.main ++ p.tree ++ p.first)) = _
 rw [h.most hn]
 rfl
set_option maxHeartbeats 8000000 in
theorem walk (F0 : Nat) (objs : List Ob) (oa : Option Addr) (oc : Nat) (rows : List (List Value)) (root : Int) (p0 : Int) (w : World)
 (hOK : OKids w F0 objs oa rows) (hoc : objs.length ≤ oc) (hcm : oc ≤ maxLen) (hwf : ∀ u ∈ objs, u.data.size ≤ maxLen ∧ u.v.wf) (hr : (Lit.int .i64 root).wf = true) :
 Calls Tryz.prog 4 #[.agg #[.slice oa objs.length oc, .int .i64 root], .int .i64 p0] w fun e w' => e = .returned (.bool true) ∧ Below w.heap.size w w' := by
 have HFw := qh (fun W (hP : Pure w W) => fewo_any F0 objs oa oc rows 40 W (hOK.pure hP) hoc hcm)
 have h80 : fewO objs 40 = true → fewO objs 80 = true := fun hf => by
  unfold fewO at hf ⊢
  rw [Bool.and_eq_true, decide_eq_true_eq] at hf ⊢
  exact ⟨by omega, hf.2⟩
 have HDok := qh (fun (hf : fewO objs 40 = true) => few_docok hOK hwf hr (h80 hf))
 have HSz := qh (fun (hf : fewO objs 40 = true) => few_sizes (h80 hf))
 have HDs := qh (fun u hu => (hwf u hu).1)
 obtain ⟨n, hn⟩ : ∃ z, z = objs.length := ⟨_, rfl⟩
 obtain ⟨fw, hfw⟩ : ∃ z, z = fewO objs 40 := ⟨_, rfl⟩
 rw [← hn, ← hfw] at HFw
 rw [← hfw] at HDok HSz
 rw [← hn]
 have HN := qh hn
 clear hOK hwf hn hfw hoc hcm hr h80
 obtain ⟨wo, hwo⟩ : ∃ z, z = w.alloc (.cells #[.slice oa n oc, .int .i64 root] 24) := ⟨_, rfl⟩
 obtain ⟨tb, htb⟩ : ∃ z, z = w.heap.size := ⟨_, rfl⟩
 have HPwo : Hid (Pure w wo) := qh (by rw [hwo]; exact ext_alloc w _)
 have HBd : Hid (BlockIs wo tb [.slice oa n oc, .int .i64 root] 24) := qh (by rw [hwo, htb]; exact BlockIs.new w [.slice oa n oc, .int .i64 root] 24)
 have HWo : Hid (w.alloc (.cells #[.slice oa n oc, .int .i64 root] 24) = wo) := qh hwo.symm
 have HTb := qh htb
 have d0 : wo.cell? ⟨tb, 0, none⟩ = some (.slice oa n oc) := HBd.out.cell 0
 clear hwo htb
 cases fw with
 | false =>
   clear HDok HSz
   go_enter Tryz.func4, Tryz.ntmps4
   go_wp2_with fail
   rw [HWo.out, ← HTb.out]
   go_wp2_with fail
   refine (HFw.out wo HPwo.out).mono ?_
   rintro e wf ⟨rfl, hPf⟩
   have HPf := qh (HPwo.out.pure hPf)
   clear hPf
   go_wp2_with fail
   refine (works_any _).mono ?_
   rintro e wz ⟨rfl, hPz⟩
   go_wp2_with fail
   go_ret
   exact ⟨rfl, (HPf.out.pure hPz).below⟩
 | true =>
   have HD := qh (HDok.out rfl)
   have HZ := qh (HSz.out rfl)
   have HDc := qh (fun W (hP : Pure w W) => doc_any F0 objs oa oc rows root W (HD.out.pure hP) HDs.out)
   have HGd := qh (fun (hE : docE objs root = 0) => good_doc hE HZ.out (fun i => HD.out.at_wf i))
   have HSp0 := qh (fun (hE : docE objs root = 0) T n0 kids q Rs (hG : GoodW objs root T n0 kids q Rs) W (hP : Pure w W) => splitg_any (oc := oc) (HD.out.pure hP) HDs.out hE hG)
   have HDo := qh HD.out
   obtain ⟨E, hE⟩ : ∃ z, z = docE objs root := ⟨_, rfl⟩
   have HEd := qh hE
   rw [← hE] at HDc
   rw [← HN.out] at HDc
   rw [← hE] at HGd HSp0
   rw [← HN.out] at HSp0
   clear HDok HSz HDs hE
   by_cases hE : E = 0
   ·subst hE
    obtain ⟨T, n0, kids, q, Rs, hG⟩ := HGd.out rfl
    have HSp := qh (HSp0.out rfl T n0 kids q Rs hG)
    have HG := qh hG
    obtain ⟨p, hp⟩ : ∃ z, z = partsP n T.nodes root (rowsL objs Rs) := ⟨_, rfl⟩
    rw [← hp] at HSp
    have hn4 : n ≤ 4094 := by rw [HN.out]; exact hG.good.len
    have HMem : Hid (∀ x, x ∈ p.all ↔ 1 ≤ x ∧ x ≤ (n : Int)) := qh (fun x => by rw [hp, HN.out]; exact hG.good.mem x)
    have HNd : Hid (p.all.Nodup) := qh (by rw [hp, HN.out]; exact hG.good.nodup)
    have HOl : Hid (p.own.length + 1 = T.pages.length) := qh (by rw [hp, HN.out]; exact hG.good.own_len)
    have HPt : Hid (p.tree = root :: T.nodes) := qh (by rw [hp]; rfl)
    have hPN : PartsN p n := ⟨HMem.out, HNd.out, hn4⟩
    have hn1 : 1 ≤ n := by have := (hPN.root_new HPt.out).2; omega
    have hpn5 : T.pages.length ≤ n := by have h1 := hG.good.fine.tok.len; rw [← HN.out] at h1; omega
    have hlen := hPN.len
    have hOl := HOl.out
    obtain ⟨PG, F, hcase, hm1, hm2, hm3, hS1, hS2⟩ := views_any HDo.out HEd.out.symm hG HN.out.symm hPN HPt.out p0
    have hON := order_nums hPN hn1
    have hNw : ∀ W, Pure w W → Calls Tryz.prog 14 #[.agg #[.slice oa n oc, .int .i64 root]] W (NewTo (orderP p) W) := fun W hP => ordernew_any (p := p) (fun W' hP' => HSp.out W' (hP.pure hP')) (by omega)
    have hLl : (turnedP (fun x => turnOb (p.new n) (obAt objs x)) p.main p.tree p.first).length = n + 2 := by rw [turnedP_len]; omega
    obtain ⟨L, hL⟩ : ∃ z, z = turnedP (fun x => turnOb (p.new n) (obAt objs x)) p.main p.tree p.first := ⟨_, rfl⟩
    obtain ⟨r2, hr2⟩ : ∃ z, z = p.main.length + 2 := ⟨_, rfl⟩
    have hTn : ∀ W, Pure w W → ∀ (a0 a1 a2 a3 : Option Addr) (z0 z1 z2 z3 c0 c1 c2 c3 : Nat) (x y : Int), OAt (orderP p) (.slice a0 z0 c0) (.slice a1 z1 c1) (.slice a2 z2 c2) (.slice a3 z3 c3) W →
     Calls Tryz.prog 8 #[.agg #[.slice oa n oc, .int .i64 root], .agg #[.slice a0 z0 c0, .slice a1 z1 c1, .slice a2 z2 c2, .slice a3 z3 c3, .int .i64 x, .int .i64 y]] W (TurnTo L F0 (r2 : Int) W) := fun W hP a0 a1 a2 a3 z0 z1 z2 z3 c0 c1 c2 c3 x y H => by
     have hD' := HDo.out.pure hP
     have := turn_any F0 objs oa oc root rows W hD'.ok (by have := hD'.len; omega) hD'.size H (x := x) (y := y) (by
      rw [hON]
      show (p.new n).length ≤ _ ∧ p.main.length ≤ _ ∧ p.tree.length ≤ _ ∧ p.first.length ≤ _
      have hnl : (p.new n).length = n := toP_len _ _
      omega)
     rw [hON, ← HN.out] at this
     rw [hL, hr2]
     exact this
    rw [← hL] at hS2 hLl
    rw [← hr2] at hS2
    obtain ⟨m, hm⟩ : ∃ z, z = PG.obs.length := ⟨_, rfl⟩
    have HVs : Hid (∀ a a' c c' rows rows' gcs qcs W, OKids W (F0 + 1 + 1) PG.obs a rows → OKids W (F0 + 1 + 1) PG.obs a' rows' → Lies W (F0 + 1 + 1) PG.given gcs → Lies W (F0 + 1 + 1) PG.given qcs → Calls Tryz.prog 18 #[.agg (Value.slice a m c :: gcs).toArray, .agg (Value.slice a' m c' :: qcs).toArray] W (BoolTo true W)) := qh (fun a a' c c' rows rows' gcs qcs W h k hg kg => by rw [hm]; exact viewsame_yes PG _ _ a a' c c' rows rows' gcs qcs W h k hg kg hm1 hm2 hm3)
    have HS1 : Hid (∀ oc, SeenOf PG F q p0 (F0 + 1) w oa n oc root) := qh hS1
    have HS2 := qh hS2
    have HTn := qh hTn
    have HNw := qh hNw
    have HLl := qh hLl
    rw [← hm] at hcase
    have HCs := qh hcase
    have HMm := qh hm
    clear hG hp hn4 hPN hn1 hpn5 hlen hOl hcase hm1 hm2 hm3 hS1 hS2 hON hNw hLl hL hr2 hTn hm HGd HSp0 HSp HMem HNd HOl HPt HG HEd
    unfold ViewE at *
    go_enter Tryz.func4, Tryz.ntmps4
    go_wp2_with fail
    rw [HWo.out, ← HTb.out]
    go_wp2_with fail
    refine (HFw.out wo HPwo.out).mono ?_
    rintro e w1 ⟨rfl, hPf⟩
    have HP1 := qh (HPwo.out.pure hPf)
    have HB1 := qh (HBd.out.ext hPf id)
    clear hPf
    have e0 : w1.cell? ⟨tb, 0, none⟩ = some (.slice oa n oc) := HB1.out.cell 0
    have e1 : w1.cell? ⟨tb, 1, none⟩ = some (.int .i64 root) := HB1.out.cell 1
    have hb1 : tb < w1.heap.size := HB1.out.lt
    go_wp2_with fail
    refine (HDc.out w1 HP1.out).mono ?_
    rintro e w2 ⟨rfl, hPf⟩
    have HP2 := qh (HP1.out.pure hPf)
    have HB2 := qh (HB1.out.ext hPf id)
    clear hPf e0 e1 hb1
    have e0 : w2.cell? ⟨tb, 0, none⟩ = some (.slice oa n oc) := HB2.out.cell 0
    have e1 : w2.cell? ⟨tb, 1, none⟩ = some (.int .i64 root) := HB2.out.cell 1
    have hb1 : tb < w2.heap.size := HB2.out.lt
    go_wp2_with fail
    refine (HNw.out w2 HP2.out).mono ?_
    rintro e w3 ⟨a0, a1, a2, a3, z0, z1, z2, z3, c0, c1, c2, c3, rfl, hO, hPf⟩
    have HP3 := qh (HP2.out.pure hPf)
    have HB3 := qh (HB2.out.ext hPf id)
    have HO := qh hO.now
    obtain ⟨x3, hx3⟩ : ∃ z : Int, z = (((orderP p).main.length + 1 : Nat) : Int) := ⟨_, rfl⟩
    obtain ⟨y3, hy3⟩ : ∃ z : Int, z = (((orderP p).main.length + (orderP p).head.length + 2 : Nat) : Int) := ⟨_, rfl⟩
    rw [← hx3, ← hy3]
    clear hO hPf e0 e1 hb1 hx3 hy3
    obtain ⟨w4, hw4⟩ : ∃ z, z = w3.alloc (.cells #[.slice a0 z0 c0, .slice a1 z1 c1, .slice a2 z2 c2, .slice a3 z3 c3, .int .i64 x3, .int .i64 y3] 34) := ⟨_, rfl⟩
    have HW4 : Hid (w3.alloc (.cells #[.slice a0 z0 c0, .slice a1 z1 c1, .slice a2 z2 c2, .slice a3 z3 c3, .int .i64 x3, .int .i64 y3] 34) = w4) := qh hw4.symm
    have hP4 : Pure w3 w4 := by rw [hw4]; exact ext_alloc w3 _
    obtain ⟨sb, hsb⟩ : ∃ z, z = w3.heap.size := ⟨_, rfl⟩
    have HSb := qh hsb.symm
    have HS4 : Hid (BlockIs w4 sb [.slice a0 z0 c0, .slice a1 z1 c1, .slice a2 z2 c2, .slice a3 z3 c3, .int .i64 x3, .int .i64 y3] 34) := qh (by rw [hw4, hsb]; exact BlockIs.new w3 _ _)
    have HP4 := qh (HP3.out.pure hP4)
    have HB4 := qh (HB3.out.ext hP4 id)
    have HT4 := qh (HTn.out w4 HP4.out a0 a1 a2 a3 z0 z1 z2 z3 c0 c1 c2 c3 x3 y3 (HO.out.pure hP4))
    clear hw4 hP4 hsb HB3 HO HTn HNw
    have e0 : w4.cell? ⟨tb, 0, none⟩ = some (.slice oa n oc) := HB4.out.cell 0
    have e1 : w4.cell? ⟨tb, 1, none⟩ = some (.int .i64 root) := HB4.out.cell 1
    have s0 : w4.cell? ⟨sb, 0, none⟩ = some (.slice a0 z0 c0) := HS4.out.cell 0
    have s1 : w4.cell? ⟨sb, 1, none⟩ = some (.slice a1 z1 c1) := HS4.out.cell 1
    have s2 : w4.cell? ⟨sb, 2, none⟩ = some (.slice a2 z2 c2) := HS4.out.cell 2
    have s3 : w4.cell? ⟨sb, 3, none⟩ = some (.slice a3 z3 c3) := HS4.out.cell 3
    have s4 : w4.cell? ⟨sb, 4, none⟩ = some (.int .i64 x3) := HS4.out.cell 4
    have s5 : w4.cell? ⟨sb, 5, none⟩ = some (.int .i64 y3) := HS4.out.cell 5
    have hb1 : tb < w4.heap.size := HB4.out.lt
    have hb2 : sb < w4.heap.size := HS4.out.lt
    go_upto_region 4 with (fail)
    rw [HW4.out, HSb.out]
    go_wp2_with fail
    refine HT4.out.mono ?_
    rintro e w5 ⟨g, N, rws, rfl, hN, hg0, hBg, hX, hP5⟩
    have HP5 := qh (HP4.out.pure hP5)
    have HB5 := qh (HB4.out.ext hP5 id)
    have HS5 := qh (HS2.out w5 g N rws hN hBg hX)
    clear hN hg0 hBg hX hP5 e0 e1 s0 s1 s2 s3 s4 s5 hb1 hb2 HS4 HB4 HT4 HS2
    obtain ⟨w6, hw6⟩ : ∃ z, z = w5.alloc (.cells #[.slice (some ⟨g, 0, none⟩) N N, .int .i64 (r2 : Int)] 24) := ⟨_, rfl⟩
    have HW6 : Hid (w5.alloc (.cells #[.slice (some ⟨g, 0, none⟩) N N, .int .i64 (r2 : Int)] 24) = w6) := qh hw6.symm
    have hP6 : Pure w5 w6 := by rw [hw6]; exact ext_alloc w5 _
    obtain ⟨ob, hob⟩ : ∃ z, z = w5.heap.size := ⟨_, rfl⟩
    have HOb := qh hob.symm
    have HT6 : Hid (BlockIs w6 ob [.slice (some ⟨g, 0, none⟩) N N, .int .i64 (r2 : Int)] 24) := qh (by rw [hw6, hob]; exact BlockIs.new w5 _ _)
    have HP6 := qh (HP5.out.pure hP6)
    have HQ6 := qh hP6
    have HB6 := qh (HB5.out.ext hP6 id)
    clear hw6 hP6 hob HB5
    go_upto_region 5 with (fail)
    rw [HW6.out, HOb.out]
    have e0 : w6.cell? ⟨tb, 0, none⟩ = some (.slice oa n oc) := HB6.out.cell 0
    have e1 : w6.cell? ⟨tb, 1, none⟩ = some (.int .i64 root) := HB6.out.cell 1
    have hb1 : tb < w6.heap.size := HB6.out.lt
    go_wp2_with fail
    refine (of_any oa n oc root w6).mono ?_
    rintro e w7 ⟨fb, db, rfl, _, _, hF, hP7⟩
    have HP7 := qh (HP6.out.pure hP7)
    have HQ7 := qh (HQ6.out.pure hP7)
    have HB7 := qh (HB6.out.ext hP7 id)
    have HT7 := qh (HT6.out.ext hP7 id)
    have HV7 := qh ((HS1.out oc fb db w7 HP7.out hF).1)
    clear hF hP7 e0 e1 hb1 HB6 HT6
    go_wp2_with fail
    refine HV7.out.mono ?_
    rintro e w8 ⟨oa8, oc8, rows8, gcs8, rfl, hK8, hL8, hP8⟩
    obtain ⟨k8, n8, s8, b8, m8, d8, hg8⟩ := hL8.form
    subst hg8
    rw [← HMm.out]
    obtain ⟨w9, hw9⟩ : ∃ z, z = w8.alloc (.cells #[.slice oa8 m oc8, .int .i64 k8, .int .i64 n8, .string s8, .slice b8 m8 d8] 50) := ⟨_, rfl⟩
    have HW9 : Hid (w8.alloc (.cells #[.slice oa8 m oc8, .int .i64 k8, .int .i64 n8, .string s8, .slice b8 m8 d8] 50) = w9) := qh hw9.symm
    have hP9 : Pure w8 w9 := by rw [hw9]; exact ext_alloc w8 _
    obtain ⟨pa, hpa⟩ : ∃ z, z = w8.heap.size := ⟨_, rfl⟩
    have HPa := qh hpa.symm
    have HA9 : Hid (BlockIs w9 pa [.slice oa8 m oc8, .int .i64 k8, .int .i64 n8, .string s8, .slice b8 m8 d8] 50) := qh (by rw [hw9, hpa]; exact BlockIs.new w8 _ _)
    have h89 := hP8.pure hP9
    have HP9 := qh (HP7.out.pure h89)
    have HQ9 := qh (HQ7.out.pure h89)
    have HB9 := qh (HB7.out.ext h89 id)
    have HT9 := qh (HT7.out.ext h89 id)
    have HK9 := qh (And.intro (hK8.pure hP9) (hL8.pure hP9))
    clear hw9 hP9 hpa h89 hK8 hL8 hP8 HV7 HB7 HT7
    go_upto_region 6 with (fail)
    rw [HW9.out, HPa.out]
    have t0 : w9.cell? ⟨ob, 0, none⟩ = some (.slice (some ⟨g, 0, none⟩) N N) := HT9.out.cell 0
    have t1 : w9.cell? ⟨ob, 1, none⟩ = some (.int .i64 (r2 : Int)) := HT9.out.cell 1
    have hb1 : ob < w9.heap.size := HT9.out.lt
    go_wp2_with fail
    refine (of_any (some ⟨g, 0, none⟩) N N (r2 : Int) w9).mono ?_
    rintro e w10 ⟨fb2, db2, rfl, _, _, hF, hP10⟩
    have HP10 := qh (HP9.out.pure hP10)
    have HQ10 := qh (HQ9.out.pure hP10)
    have HB10 := qh (HB9.out.ext hP10 id)
    have HT10 := qh (HT9.out.ext hP10 id)
    have HA10 := qh (HA9.out.ext hP10 id)
    have HK10 := qh (And.intro (HK9.out.1.pure hP10) (HK9.out.2.pure hP10))
    have HV10 := qh ((HS5.out fb2 db2 w10 HQ10.out hF).1)
    clear hF hP10 t0 t1 hb1 HB9 HT9 HA9 HK9
    go_wp2_with fail
    refine HV10.out.mono ?_
    rintro e w11 ⟨oa11, oc11, rows11, gcs11, rfl, hK11, hL11, hP11⟩
    obtain ⟨k11, n11, s11, b11, m11, d11, hg11⟩ := hL11.form
    subst hg11
    rw [← HMm.out]
    obtain ⟨w12, hw12⟩ : ∃ z, z = w11.alloc (.cells #[.slice oa11 m oc11, .int .i64 k11, .int .i64 n11, .string s11, .slice b11 m11 d11] 50) := ⟨_, rfl⟩
    have HW12 : Hid (w11.alloc (.cells #[.slice oa11 m oc11, .int .i64 k11, .int .i64 n11, .string s11, .slice b11 m11 d11] 50) = w12) := qh hw12.symm
    have hP12 : Pure w11 w12 := by rw [hw12]; exact ext_alloc w11 _
    obtain ⟨pb, hpb⟩ : ∃ z, z = w11.heap.size := ⟨_, rfl⟩
    have HPb := qh hpb.symm
    have HC12 : Hid (BlockIs w12 pb [.slice oa11 m oc11, .int .i64 k11, .int .i64 n11, .string s11, .slice b11 m11 d11] 50) := qh (by rw [hw12, hpb]; exact BlockIs.new w11 _ _)
    have h112 := hP11.pure hP12
    have HP12 := qh (HP10.out.pure h112)
    have HQ12 := qh (HQ10.out.pure h112)
    have HB12 := qh (HB10.out.ext h112 id)
    have HT12 := qh (HT10.out.ext h112 id)
    have HA12 := qh (HA10.out.ext h112 id)
    have HK12 := qh (And.intro (HK10.out.1.pure h112) (And.intro (HK10.out.2.pure h112) (And.intro (hK11.pure hP12) (hL11.pure hP12))))
    clear hw12 hP12 hpb h112 hK11 hL11 hP11 HV10 HB10 HT10 HA10 HK10
    go_upto_region 7 with (fail)
    rw [HW12.out, HPb.out]
    have e0 : w12.cell? ⟨tb, 0, none⟩ = some (.slice oa n oc) := HB12.out.cell 0
    have e1 : w12.cell? ⟨tb, 1, none⟩ = some (.int .i64 root) := HB12.out.cell 1
    have hb1 : tb < w12.heap.size := HB12.out.lt
    go_wp2_with fail
    refine (of_any oa n oc root w12).mono ?_
    rintro e w13 ⟨fb3, db3, rfl, _, _, hF, hP13⟩
    have HPg := qh ((HS1.out oc fb3 db3 w13 (HP12.out.pure hP13) hF).2)
    clear hF e0 e1 hb1
    go_wp2_with fail
    refine HPg.out.mono ?_
    rintro e w14 ⟨rfl, hP14⟩
    have h14 := hP13.pure hP14
    have HP14 := qh (HP12.out.pure h14)
    have HQ14 := qh (HQ12.out.pure h14)
    have HT14 := qh (HT12.out.ext h14 id)
    have HA14 := qh (HA12.out.ext h14 id)
    have HC14 := qh (HC12.out.ext h14 id)
    have HK14 := qh (And.intro (HK12.out.1.pure h14) (And.intro (HK12.out.2.1.pure h14) (And.intro (HK12.out.2.2.1.pure h14) (HK12.out.2.2.2.pure h14))))
    clear hP13 hP14 h14 HPg HB12 HT12 HA12 HC12 HK12
    have t0 : w14.cell? ⟨ob, 0, none⟩ = some (.slice (some ⟨g, 0, none⟩) N N) := HT14.out.cell 0
    have t1 : w14.cell? ⟨ob, 1, none⟩ = some (.int .i64 (r2 : Int)) := HT14.out.cell 1
    have hb1 : ob < w14.heap.size := HT14.out.lt
    go_wp2_with fail
    refine (of_any (some ⟨g, 0, none⟩) N N (r2 : Int) w14).mono ?_
    rintro e w15 ⟨fb4, db4, rfl, _, _, hF, hP15⟩
    have HPg := qh ((HS5.out fb4 db4 w15 (HQ14.out.pure hP15) hF).2)
    clear hF t0 t1 hb1
    go_wp2_with fail
    refine HPg.out.mono ?_
    rintro e w16 ⟨rfl, hP16⟩
    have h16 := hP15.pure hP16
    have HP16 := qh (HP14.out.pure h16)
    have hA16 := HA14.out.ext h16 id
    have hC16 := HC14.out.ext h16 id
    have HVs16 := qh (HVs.out oa8 oa11 oc8 oc11 rows8 rows11 [.int .i64 k8, .int .i64 n8, .string s8, .slice b8 m8 d8] [.int .i64 k11, .int .i64 n11, .string s11, .slice b11 m11 d11] w16 (HK14.out.1.pure h16) (HK14.out.2.2.1.pure h16) (HK14.out.2.1.pure h16) (HK14.out.2.2.2.pure h16))
    clear hP15 hP16 h16 HPg HT14 HA14 HC14 HK14 HVs
    have x0 : w16.cell? ⟨pa, 0, none⟩ = some (.slice oa8 m oc8) := hA16.cell 0
    have x1 : w16.cell? ⟨pa, 1, none⟩ = some (.int .i64 k8) := hA16.cell 1
    have x2 : w16.cell? ⟨pa, 2, none⟩ = some (.int .i64 n8) := hA16.cell 2
    have x3' : w16.cell? ⟨pa, 3, none⟩ = some (.string s8) := hA16.cell 3
    have x4 : w16.cell? ⟨pa, 4, none⟩ = some (.slice b8 m8 d8) := hA16.cell 4
    have y0 : w16.cell? ⟨pb, 0, none⟩ = some (.slice oa11 m oc11) := hC16.cell 0
    have y1 : w16.cell? ⟨pb, 1, none⟩ = some (.int .i64 k11) := hC16.cell 1
    have y2 : w16.cell? ⟨pb, 2, none⟩ = some (.int .i64 n11) := hC16.cell 2
    have y3' : w16.cell? ⟨pb, 3, none⟩ = some (.string s11) := hC16.cell 3
    have y4 : w16.cell? ⟨pb, 4, none⟩ = some (.slice b11 m11 d11) := hC16.cell 4
    have hb1 : pa < w16.heap.size := hA16.lt
    have hb2 : pb < w16.heap.size := hC16.lt
    have HAC := qh (And.intro hA16 hC16)
    clear hA16 hC16
    have hway : (F = 0 ∧ ¬ p0 < 0 ∧ p0 < q ∧ ¬ m = 0) ∨ (F = 25 ∧ p0 < 0) ∨ (F = 25 ∧ ¬ p0 < 0 ∧ ¬ p0 < q) := by have := HCs.out; omega
    rcases hway with ⟨rfl, g1, g2, g3⟩ | ⟨rfl, g1⟩ | ⟨rfl, g1, g2⟩
    all_goals
     go_wp2_with fail
     refine HVs16.out.mono ?_
     rintro e w17 ⟨rfl, hP17⟩
     have hA17 := HAC.out.1.ext hP17 id
     have hC17 := HAC.out.2.ext hP17 id
     have q0 : w17.cell? ⟨pa, 0, none⟩ = some (.slice oa8 m oc8) := hA17.cell 0
     have q1 : w17.cell? ⟨pb, 0, none⟩ = some (.slice oa11 m oc11) := hC17.cell 0
     have HP17 := qh (HP16.out.pure hP17)
     clear hP17 hA17 hC17 x0 x1 x2 x3' x4 y0 y1 y2 y3' y4
     go_wp2_with fail
     refine (works_any w17).mono ?_
     rintro e w18 ⟨rfl, hP18⟩
     go_wp2_with fail
     go_ret
     exact ⟨rfl, (HP17.out.pure hP18).below⟩
   ·have hEb : (E != 0) = true := by simpa using hE
    clear HGd HSp0 hE
    go_enter Tryz.func4, Tryz.ntmps4
    go_wp2_with fail
    rw [HWo.out, ← HTb.out]
    go_wp2_with fail
    refine (HFw.out wo HPwo.out).mono ?_
    rintro e w1 ⟨rfl, hPf⟩
    have HP1 := qh (HPwo.out.pure hPf)
    have HB1 := qh (HBd.out.ext hPf id)
    clear hPf
    have e0 : w1.cell? ⟨tb, 0, none⟩ = some (.slice oa n oc) := HB1.out.cell 0
    have e1 : w1.cell? ⟨tb, 1, none⟩ = some (.int .i64 root) := HB1.out.cell 1
    have hb1 : tb < w1.heap.size := HB1.out.lt
    go_wp2_with fail
    refine (HDc.out w1 HP1.out).mono ?_
    rintro e w2 ⟨rfl, hPf⟩
    have HP2 := qh (HP1.out.pure hPf)
    clear hPf e0 e1 hb1
    go_wp2_with fail
    refine (works_any _).mono ?_
    rintro e wz ⟨rfl, hPz⟩
    go_wp2_with fail
    go_ret
    exact ⟨rfl, (HP2.out.pure hPz).below⟩
theorem lifted (os : Os) (started : os.Started) (H : Type) (enc : TypeId × Value → H) :
 ReturnsInHanded {} Tryz.checked os 4 .any (Rows.orderViewsSpec.pre6 enc Tryz.prog Tryz.f4 Rows.orderViewsRow.domain false) (Rows.orderViewsSpec.post enc Tryz.prog Tryz.f4 false true false false) := by
 refine returnsInHanded_of_change (C := Tryz.checked) own started (by kernel_rfl) Tryz.func4
  (ChangeSpec.witness6 (enc := enc) (C := Tryz.checked) false ⟨#[], #[.agg #[.slice none 0 0, .int .i64 0], .int .i64 0], []⟩ 8 (by kernel_rfl) (by kernel_rfl) (by kernel_rfl) (by kernel_rfl)) ?_
 intro W base args ds gs before hval0 hW hcnd _
 have hval : ∀ (j : Nat) t v, Tryz.f4.params[j]? = some t → args[j]? = some v → Value.okWide Tryz.prog W .any base t v := hval0
 have hW' := hW
 obtain ⟨p, q, hA0, hV, rfl, hfz, hnd⟩ := hW
 have hA : DataW.TrodAll enc Tryz.prog W 0 (fun _ => true) true Tryz.f4.params.toList args.toList ds p := hA0
 rw [Tryz.params4] at hA hval
 obtain ⟨v0, vs0, d0, ds0, p0, q0, hargs, rfl, rfl, h0, r0⟩ := trodAll_cons hA
 obtain ⟨v1, vs1, d1, ds1, p1, q1, rfl, rfl, rfl, h1, r1⟩ := trodAll_cons r0
 obtain ⟨rfl, rfl, rfl⟩ := trodAll_nil r1
 obtain rfl : args = #[v0, v1] := by cases args; simp_all
 obtain ⟨rfl, rfl⟩ := trodVars_none hV
 have k0 := h0
 have lt0 : ∀ x ∈ p0, x.block < W.heap.size := by obtain ⟨m, hm⟩ := k0; exact DataW.trod_lt m _ _ _ hm
 have k1 := h1
 have lt1 : ∀ x ∈ p1, x.block < W.heap.size := by obtain ⟨m, hm⟩ := k1; exact DataW.trod_lt m _ _ _ hm
 obtain ⟨F0, objs, oa, oc, rows, root, rfl, hOK0, hoc0, hcm0, hwf0, _, hr0⟩ := open_doc (hval 0 24 v0 rfl rfl) h0
 obtain ⟨x1, rfl, rfl, rfl, wx1⟩ := open_int Tryz.underlying3 (hval 1 3 v1 rfl rfl) h1
 clear hA0 hval0
 refine (walk F0 objs oa oc rows root x1 W hOK0 hoc0 hcm0 hwf0 hr0).mono fun e W' ⟨he, bel⟩ => ?_
 subst he
 exact ⟨_, rfl, _, _, _, [], _, [], hW', trodAll_mk1 (shut_bool Tryz.underlying4 _), (trodAll_cons_mk (Below.trod laidOut (by kernel_rfl) (of_decide_eq_true (by kernel_rfl)) k0 bel lt0) (trodAll_cons_mk (Below.trod laidOut (by kernel_rfl) (of_decide_eq_true (by kernel_rfl)) k1 bel lt1) trodAll_mk0)), rfl, bel.frame _, fun h => by cases h⟩
theorem proved : Rows.OrderViewsSaid :=
 OpenClaim.holds_of_wide 4 Tryz.f4 rfl rfl rfl rfl rfl rfl rfl ⟨rfl, rfl, rfl, rfl, rfl⟩ rfl rfl rfl rfl rfl (by kernel_rfl) Tryz.func4 (by kernel_rfl)
  (of_decide_eq_true (by kernel_rfl)) (by unfold Func.isWrapper; first | (rw [if_pos (by decide +kernel)]; kernel_rfl) | (rw [if_neg (by decide +kernel)]; exact ⟨rfl, rfl⟩))
  (fun os started H enc _ => lifted os started H enc)
#print axioms proved
