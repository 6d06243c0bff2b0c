/-
  SharePages: of a Doc that may be written all that a page leads to is in the first part, in its own part, or in the shared one; what is in its own part some page leads to, and no other; what is shared, two do. No condition.
-/
import Derived.Test.YtnpiemcfbnpfdaaOnceW
import Derived.Test.YtnpiemcfbnpfdaaOpenS
import Derived.Test.YtnpiemcfbnpfdaaLawHas
import Derived.OwnWalk
namespace Go.Proofs.Ytnpiemcfbnpfdaa.sharePages
open Go.ChangeShapes Go.WideShapes Go.ChangeAt Go.RowKit Go.Proofs.Ytnpiemcfbnpfdaa
set_option linter.unusedVariables false
set_option linter.unusedSimpArgs false

set_option maxHeartbeats 8000000 in
set_option maxRecDepth 100000 in
theorem walk (F0 : Nat) (objs : List Ob) (oa : Option Addr) (oc : Nat) (rows : List (List Value)) (root : Int) (w : World)
    (hOK : OKids w F0 objs oa rows) (hoc : objs.length ≤ oc) (hcm : oc ≤ maxLen) (hwf : ∀ u ∈ objs, u.data.size ≤ maxLen ∧ u.v.wf) (hr : (Lit.int .i64 root).wf = true) :
    Calls Try.prog 5 #[.agg #[.slice oa objs.length oc, .int .i64 root]] w fun e w' => e = .returned (.bool true) ∧ Below w.heap.size w w' := by
  have HFw := Lib.hid (fun W (hP : Pure w W) => fewo_any F0 objs oa oc rows 40 W (hOK.pure hP) hoc hcm)
  have h80 : fewO objs 40 = true → fewO objs 80 = true := fun hf => by
    unfold fewO at hf ⊢
    rw [Bool.and_eq_true, decide_eq_true_eq] at hf ⊢
    exact ⟨by omega, hf.2⟩
  have HDok := Lib.hid (fun (hf : fewO objs 40 = true) => few_docok hOK hwf hr (h80 hf))
  have HSz := Lib.hid (fun (hf : fewO objs 40 = true) => few_sizes (h80 hf))
  have HDs := Lib.hid (fun u hu => (hwf u hu).1)
  obtain ⟨n, hn⟩ : ∃ z, z = objs.length := ⟨_, rfl⟩
  obtain ⟨fw, hfw⟩ : ∃ z, z = fewO objs 40 := ⟨_, rfl⟩
  rw [← hn, ← hfw] at HFw
  rw [← hfw] at HDok HSz
  rw [← hn]
  have HN := Lib.hid hn
  clear hOK hwf hn hfw hoc hcm hr h80
  obtain ⟨wo, hwo⟩ : ∃ z, z = w.alloc (.cells #[.slice oa n oc, .int .i64 root] 38) := ⟨_, rfl⟩
  obtain ⟨tb, htb⟩ : ∃ z, z = w.heap.size := ⟨_, rfl⟩
  have HPwo : Hid (Pure w wo) := Lib.hid (by rw [hwo]; exact ext_alloc w _)
  have HBd : Hid (BlockIs wo tb [.slice oa n oc, .int .i64 root] 38) := Lib.hid (by rw [hwo, htb]; exact BlockIs.new w [.slice oa n oc, .int .i64 root] 38)
  have HWo : Hid (w.alloc (.cells #[.slice oa n oc, .int .i64 root] 38) = wo) := Lib.hid hwo.symm
  have HTb := Lib.hid htb
  have d0 : wo.cell? ⟨tb, 0, none⟩ = some (.slice oa n oc) := HBd.out.cell 0
  clear hwo htb
  cases fw with
  | false =>
    clear HDok HSz
    go_enter Try.func5, Try.ntmps5
    go_wp2_with fail
    rw [HWo.out, ← HTb.out]
    go_wp2_with fail
    refine (HFw.out wo HPwo.out).mono ?_
    rintro e wf ⟨rfl, hPf⟩
    have HPf := Lib.hid (HPwo.out.pure hPf)
    clear hPf
    go_wp2_with fail
    refine (works_any _).mono ?_
    rintro e wz ⟨rfl, hPz⟩
    go_wp2_with fail
    go_ret
    exact ⟨rfl, (HPf.out.pure hPz).below⟩
  | true =>
    have HD := Lib.hid (HDok.out rfl)
    have HZ := Lib.hid (HSz.out rfl)
    have HDc := Lib.hid (fun W (hP : Pure w W) => doc_any F0 objs oa oc rows root W (HD.out.pure hP) HDs.out)
    have HGd := Lib.hid (fun (hE : docE objs root = 0) => good_doc hE HZ.out (fun i => HD.out.at_wf i))
    have HSp0 := Lib.hid (fun (hE : docE objs root = 0) T n0 kids q Rs (hG : GoodW objs root T n0 kids q Rs) W (hP : Pure w W) => splitg_any (oc := oc) (HD.out.pure hP) HDs.out hE hG)
    have HRo0 := Lib.hid (fun (hE : docE objs root = 0) T n0 kids q Rs (hG : GoodW objs root T n0 kids q Rs) W (hP : Pure w W) => rowsg_any (oc := oc) (HD.out.pure hP) HDs.out hE hG)
    obtain ⟨E, hE⟩ : ∃ z, z = docE objs root := ⟨_, rfl⟩
    rw [← hE] at HDc
    rw [← HN.out] at HDc
    rw [← hE] at HGd HSp0 HRo0
    rw [← HN.out] at HSp0
    rw [← HN.out] at HRo0
    clear HDok HSz HDs hE
    by_cases hE : E = 0
    · subst hE
      obtain ⟨T, n0, kids, q, Rs, hG⟩ := HGd.out rfl
      have HSp := Lib.hid (HSp0.out rfl T n0 kids q Rs hG)
      obtain ⟨p, hp⟩ : ∃ z, z = partsP n T.nodes root (rowsL objs Rs) := ⟨_, rfl⟩
      rw [← hp] at HSp
      have HRo := Lib.hid (HRo0.out rfl T n0 kids q Rs hG)
      obtain ⟨z1, z2, z3⟩ := rowsL_small hG
      obtain ⟨rows2, hrows2⟩ : ∃ z, z = rowsL objs Rs := ⟨_, rfl⟩
      rw [← hrows2] at HRo z1 z2 hp
      have hone : 1 ≤ rows2.length := by rw [hrows2, rowsL_len]; exact hG.good.one
      have HPt : Hid (p = partsP n T.nodes root rows2) := Lib.hid hp
      have HZ2 := Lib.hid z2
      have HZ1 := Lib.hid z1
      have HPl : Hid (p.shared.length ≤ 100000000 ∧ p.first.length ≤ 100000000 ∧ ∀ r ∈ p.own, r.length ≤ 100000000) := Lib.hid (by
        rw [hp]
        refine ⟨?_, ?_, fun r hr => ?_⟩
        · refine Nat.le_trans ?_ z3
          have h4 := List.length_filter_le (condS rows2) (((rows2.take rows2.length).drop 1).flatten)
          show (shP rows2 rows2.length).length ≤ _
          rw [← hrows2]
          unfold shP
          refine Nat.le_trans (onP_len _ _) ?_
          have h6 : ((rows2.take rows2.length).drop 1).flatten.length ≤ rows2.flatten.length := by
            rw [List.take_length]
            have h3 : rows2.flatten = (rows2.take 1 ++ rows2.drop 1).flatten := by rw [List.take_append_drop]
            rw [h3, List.flatten_append, List.length_append]
            exact Nat.le_add_left _ _
          simp only [List.length_nil]
          omega
        · show (rows2.headD []).length ≤ _
          rw [head_at rows2 hone]
          have := (z2 _ (List.getElem_mem hone)).1
          omega
        · obtain ⟨q2, hq2, rfl⟩ := List.mem_map.1 (show r ∈ ((rows2.take rows2.length).drop 1).map (ownP rows2) from hr)
          have h4 := (z2 q2 (List.mem_of_mem_take (List.mem_of_mem_drop hq2))).1
          unfold ownP
          have h5 := List.length_filter_le (fun x => decide (manyP rows2 x = 1)) (onP [] q2)
          have h6 := onP_len [] q2
          simp only [List.length_nil] at h6
          omega)
      have HOl : Hid (p.own.length + 1 = rows2.length) := Lib.hid (by
        rw [hp]
        show (ownsP rows2 rows2.length).length + 1 = _
        rw [ownsP_len _ _ (Nat.le_refl _)]
        omega)
      unfold SplitTo at HSp
      unfold RwsTo2 at HRo
      clear hG hp HGd HSp0 HRo0 z1 z2 z3 hrows2 hone
      go_enter Try.func5, Try.ntmps5
      go_wp2_with fail
      rw [HWo.out, ← HTb.out]
      go_wp2_with fail
      refine (HFw.out wo HPwo.out).mono ?_
      rintro e w1 ⟨rfl, hPf⟩
      have HP1 := Lib.hid (HPwo.out.pure hPf)
      have HB1 := Lib.hid (HBd.out.ext hPf id)
      clear hPf
      have e0 : w1.cell? ⟨tb, 0, none⟩ = some (.slice oa n oc) := HB1.out.cell 0
      have e1 : w1.cell? ⟨tb, 1, none⟩ = some (.int .i64 root) := HB1.out.cell 1
      have hb1 : tb < w1.heap.size := HB1.out.lt
      go_wp2_with fail
      refine (HDc.out w1 HP1.out).mono ?_
      rintro e w2 ⟨rfl, hPf⟩
      have HP2 := Lib.hid (HP1.out.pure hPf)
      have HB2 := Lib.hid (HB1.out.ext hPf id)
      clear hPf e0 e1 hb1
      have e0 : w2.cell? ⟨tb, 0, none⟩ = some (.slice oa n oc) := HB2.out.cell 0
      have e1 : w2.cell? ⟨tb, 1, none⟩ = some (.int .i64 root) := HB2.out.cell 1
      have hb1 : tb < w2.heap.size := HB2.out.lt
      go_wp2_with fail
      refine (HSp.out w2 HP2.out).mono ?_
      rintro e w3 ⟨a0, a1, a2, a3, a4, m0, m1, m2, m3, m4, c0, c1, c2, c3, c4, rfl, H, hPf⟩
      have HP3 := Lib.hid (HP2.out.pure hPf)
      have HB3 := Lib.hid (HB2.out.ext hPf id)
      clear hPf e0 e1 hb1
      obtain ⟨w4, hw4⟩ : ∃ z, z = w3.alloc (.cells #[.slice a0 m0 c0, .slice a1 m1 c1, .slice a2 m2 c2, .slice a3 m3 c3, .slice a4 m4 c4] 26) := ⟨_, rfl⟩
      have hP4 : Pure w3 w4 := by rw [hw4]; exact ext_alloc w3 _
      have HS4 : Hid (BlockIs w4 w3.heap.size [.slice a0 m0 c0, .slice a1 m1 c1, .slice a2 m2 c2, .slice a3 m3 c3, .slice a4 m4 c4] 26) := Lib.hid (by rw [hw4]; exact BlockIs.new w3 _ _)
      have HP4 := Lib.hid (HP3.out.pure hP4)
      have HB4 := Lib.hid (HB3.out.ext hP4 id)
      have HH4 := Lib.hid (H.pure hP4)
      have HW4 : Hid (w3.alloc (.cells #[.slice a0 m0 c0, .slice a1 m1 c1, .slice a2 m2 c2, .slice a3 m3 c3, .slice a4 m4 c4] 26) = w4) := Lib.hid hw4.symm
      obtain ⟨sb, hsb⟩ : ∃ z, z = w3.heap.size := ⟨_, rfl⟩
      rw [← hsb] at HS4
      have HSb := Lib.hid hsb.symm
      clear hw4 hP4 H hsb HB3
      have e0 : w4.cell? ⟨tb, 0, none⟩ = some (.slice oa n oc) := HB4.out.cell 0
      have e1 : w4.cell? ⟨tb, 1, none⟩ = some (.int .i64 root) := HB4.out.cell 1
      have hb1 : tb < w4.heap.size := HB4.out.lt
      go_upto_region 4 with (fail)
      rw [HW4.out, HSb.out]
      go_wp2_with fail
      refine (HRo.out w4 HP4.out).mono ?_
      rintro e w6 ⟨ra, rc, rs2, rfl, hl2, hrw2, hok2, hnr, hcr, hPf⟩
      have HP6 := Lib.hid (HP4.out.pure hPf)
      have HS6 := Lib.hid (HS4.out.ext hPf id)
      have HO6 := Lib.hid (HH4.out.pure hPf).opened
      have HR2 := Lib.hid (And.intro hl2 (And.intro hrw2 hok2))
      obtain ⟨rn, hrn⟩ : ∃ z, z = rs2.length := ⟨_, rfl⟩
      have HRn := Lib.hid hrn
      rw [← hrn]
      have hsb6 : sb < w6.heap.size := HS6.out.lt
      clear hPf hl2 hrw2 hok2 e0 e1 hb1 HB4 HS4 HH4 hrn hnr hcr
      obtain ⟨⟨hm0, ht⟩, ⟨hm1, hf⟩, ⟨rs, hm2, hl, hrw, hq⟩, ⟨hm3, hs⟩, ⟨hm4, hh⟩⟩ := HO6.out
      have hpm : rn = m2 + 1 := by
        have h1 := congrArg List.length HR2.out.1
        rw [lsR_len, ← HRn.out] at h1
        have h2 := HOl.out
        have h3 := congrArg List.length hl
        rw [lsR_len, ← hm2] at h3
        omega
      subst hpm
      have hm2b : m2 ≤ 2048 := by have h1 := HOl.out; have h2 := HZ1.out; have h3 := congrArg List.length hl; rw [lsR_len, ← hm2] at h3; omega
      have HFs := Lib.hid (And.intro hm1 hf)
      have HSh := Lib.hid (And.intro hm3 hs)
      have HRs := Lib.hid (And.intro hm2 (And.intro hl (And.intro hrw hq)))
      clear hm0 ht hm1 hf hm2 hl hrw hq hm3 hs hm4 hh HO6
      have s2 : w6.cell? ⟨sb, 2, none⟩ = some (.slice a2 m2 c2) := HS6.out.cell 2
      go_wp2_with fail
      clear s2
      have hmf : (m1 : Int) ≤ 100000000 := by rw [HFs.out.1]; have := HPl.out.2.1; omega
      have hms : m3 ≤ 100000000 := by rw [HSh.out.1]; exact HPl.out.1
      go_loopw [7] (fun i wr => ∃ k : Nat, k + 1 ≤ m2 + 1 ∧ i = .int .i64 ((k : Int) + 1) ∧ Hid (Pure w6 wr)) (fun i _ => m2 + 1 - (intOf i).toNat)
      case atStart => exact ⟨0, by omega, rfl, Lib.hid (Ext.refl _ _)⟩
      case round =>
        obtain ⟨k, hk, rfl, HP⟩ := hrel
        by_cases hlt : k < m2
        · have hki : (k : Int) + 1 < (m2 : Int) + 1 := by omega
          have hk0 : (0 : Int) ≤ (k : Int) := by omega
          have hk01 : (0 : Int) ≤ (k : Int) + 1 := by omega
          have hk1m : k + 1 < m2 + 1 := by omega
          have hkm : (k : Int) < (m2 : Int) := by omega
          have hk2 : k + 1 < rs2.length := by rw [← HRn.out]; omega
          have hkr : k < rs.length := by rw [← HRs.out.1]; exact hlt
          have hkR : k + 1 < rows2.length := by rw [← HR2.out.1, lsR_len]; exact hk2
          obtain ⟨rb, ro, rfl, hrc⟩ := (HR2.out.2.1).get hk2
          obtain ⟨ab, ao, rfl, hoc⟩ := (HRs.out.2.2.1).get hkr
          have hl2 : rs2[k + 1].l = rows2[k + 1] := by
            have h1 := lsR_get hk2
            rw [← h1]
            have h2 := HR2.out.1
            simp only [h2]
          have hlo : rs[k].l = ownP rows2 rows2[k + 1] := by
            have h1 := lsR_get hkr
            have h3 : (lsR rs)[k]? = p.own[k]? := by rw [HRs.out.2.1]
            rw [List.getElem?_eq_getElem (by rw [lsR_len]; exact hkr), h1, HPt.out] at h3
            have h4 : (partsP n T.nodes root rows2).own[k]? = some (ownP rows2 rows2[k + 1]) := ownsP_get rows2 k hkR
            rw [h4] at h3
            exact Option.some.inj h3
          have HOk2 : Hid (∀ W, Pure w6 W → CRow.ok W rs2[k + 1]) := Lib.hid (fun W hP => (HR2.out.2.2 _ (List.getElem_mem hk2)).pure hP)
          have HOkr : Hid (∀ W, Pure w6 W → CRow.ok W rs[k]) := Lib.hid (fun W hP => (HRs.out.2.2.2 _ (List.getElem_mem hkr)).pure hP)
          obtain ⟨q2, hq2⟩ : ∃ z, z = rs2[k + 1] := ⟨_, rfl⟩
          obtain ⟨qo, hqo⟩ : ∃ z, z = rs[k] := ⟨_, rfl⟩
          rw [← hq2] at hrc hl2 HOk2
          rw [← hqo] at hoc hlo HOkr
          obtain ⟨qa, qc, ql⟩ := q2
          obtain ⟨oo, oc2, ol⟩ := qo
          simp only at hrc hl2 hoc hlo
          obtain ⟨qn, hqn⟩ : ∃ z, z = ql.length := ⟨_, rfl⟩
          obtain ⟨on, hon⟩ : ∃ z, z = ol.length := ⟨_, rfl⟩
          rw [← hqn] at hrc
          rw [← hon] at hoc
          have hqnl : qn ≤ 4097 := by rw [hqn, hl2]; exact (HZ2.out _ (List.getElem_mem hkR)).1
          have honl : on ≤ 100000000 := by
            rw [hon]
            have h1 : ol ∈ p.own := by
              rw [HPt.out, hlo]
              exact List.mem_of_getElem? (ownsP_get rows2 k hkR)
            exact HPl.out.2.2 ol h1
          have HQn := Lib.hid hqn
          have HOn := Lib.hid hon
          have HCov : Hid (∀ x ∈ ql, x ∈ p.first ∨ x ∈ p.shared ∨ x ∈ ol) := Lib.hid (fun x hx => by
            have h1 := parts_cover rows2 k hkR (hl2 ▸ hx)
            rw [← hlo] at h1
            rw [HPt.out]
            exact h1)
          have HOne : Hid (∀ x ∈ ol, manyP rows2 x = 1) := Lib.hid (fun x hx => by
            rw [hlo] at hx
            exact of_decide_eq_true (List.mem_filter.1 hx).2)
          have HRc : Hid (w6.cell? ⟨rb, ro + (k + 1), none⟩ = some (.slice qa qn qc)) := Lib.hid hrc
          have HOc : Hid (w6.cell? ⟨ab, ao + k, none⟩ = some (.slice oo on oc2)) := Lib.hid hoc
          clear hq2 hqo hl2 hlo hqn hon hk2 hkr hkR hrc hoc
          have hrq : wr.cell? ⟨rb, ro + (k + 1), none⟩ = some (.slice qa qn qc) := HP.out.cell_some HRc.out id
          go_wp2_with fail
          obtain ⟨wo2, rfl⟩ : ∃ wo2 : World, wo2 = wr := ⟨_, rfl⟩
          have HPo := HP
          clear hrq
          go_loopw [8] (fun i wr => ∃ j : Nat, j ≤ qn ∧ i = .int .i64 j ∧ Hid (Pure w6 wr)) (fun i _ => qn - (intOf i).toNat)
          case atStart => exact ⟨0, Nat.zero_le _, rfl, HPo⟩
          case round =>
            obtain ⟨j, hj, rfl, HP⟩ := hrel
            have hrq : wr.cell? ⟨rb, ro + (k + 1), none⟩ = some (.slice qa qn qc) := HP.out.cell_some HRc.out id
            by_cases hltj : j < qn
            · have hkj : (j : Int) < (qn : Int) := by omega
              have hj0 : (0 : Int) ≤ (j : Int) := by omega
              have hjq : j < ql.length := by rw [← HQn.out]; exact hltj
              obtain ⟨xb, xo, rfl, hxc⟩ := (HOk2.out wr HP.out).1 j _ (intsV_get hjq)
              obtain ⟨x, hx⟩ : ∃ z, z = ql[j] := ⟨_, rfl⟩
              have hcov := HCov.out x (by rw [hx]; exact List.getElem_mem hjq)
              rw [← hx] at hxc
              have s1 : wr.cell? ⟨sb, 1, none⟩ = some (.slice a1 m1 c1) := (HS6.out.ext HP.out id).cell 1
              have s2 : wr.cell? ⟨sb, 2, none⟩ = some (.slice (some ⟨ab, ao, none⟩) m2 c2) := (HS6.out.ext HP.out id).cell 2
              have s3 : wr.cell? ⟨sb, 3, none⟩ = some (.slice a3 m3 c3) := (HS6.out.ext HP.out id).cell 3
              have hsl : sb < wr.heap.size := (HS6.out.ext HP.out id).lt
              have HFx := Lib.hid (fun W (hP : Pure w6 W) => lhas_any x a1 c1 p.first W ((HFs.out.2.pure hP).1) (by rw [← HFs.out.1]; omega))
              have HSx := Lib.hid (fun W (hP : Pure w6 W) => lhas_any x a3 c3 p.shared W ((HSh.out.2.pure hP).1) (by rw [← HSh.out.1]; omega))
              have HOx := Lib.hid (fun W (hP : Pure w6 W) => lhas_any x oo oc2 ol W ((HOkr.out W hP).1) (by rw [← HOn.out]; omega))
              rw [← HFs.out.1] at HFx
              rw [← HSh.out.1] at HSx
              rw [← HOn.out] at HOx
              have hPc := HP.out
              clear hx hjq
              rcases Classical.em (x ∈ p.first) with h1 | h1
              · rw [decide_eq_true h1] at HFx
                clear hcov h1 HSx HOx
                go_wp2_with fail
                refine (HFx.out _ hPc).mono ?_
                rintro e wc ⟨rfl, hP2⟩
                have hPc := hPc.pure hP2
                have s1 : wc.cell? ⟨sb, 1, none⟩ = some (.slice a1 m1 c1) := (HS6.out.ext hPc id).cell 1
                have s2 : wc.cell? ⟨sb, 2, none⟩ = some (.slice (some ⟨ab, ao, none⟩) m2 c2) := (HS6.out.ext hPc id).cell 2
                have s3 : wc.cell? ⟨sb, 3, none⟩ = some (.slice a3 m3 c3) := (HS6.out.ext hPc id).cell 3
                have ho : wc.cell? ⟨ab, ao + k, none⟩ = some (.slice oo on oc2) := hPc.cell_some HOc.out id
                have hsl : sb < wc.heap.size := (HS6.out.ext hPc id).lt
                have HPc := Lib.hid hPc
                clear hPc
                go_wp2_with fail
                go_roundw
                case rel => first | exact ⟨j + 1, by omega, by go_num, HPc⟩ | ((repeat apply Exists.intro); exact ⟨⟨j + 1, by omega, by go_num, HPc⟩, rfl⟩)
                case measure => simp [intOf]; omega
              · rw [decide_eq_false h1] at HFx
                rcases Classical.em (x ∈ p.shared) with h2 | h2
                · rw [decide_eq_true h2] at HSx
                  clear hcov h1 h2 HOx
                  go_wp2_with fail
                  refine (HFx.out _ hPc).mono ?_
                  rintro e wc ⟨rfl, hP2⟩
                  have hPc := hPc.pure hP2
                  have s1 : wc.cell? ⟨sb, 1, none⟩ = some (.slice a1 m1 c1) := (HS6.out.ext hPc id).cell 1
                  have s2 : wc.cell? ⟨sb, 2, none⟩ = some (.slice (some ⟨ab, ao, none⟩) m2 c2) := (HS6.out.ext hPc id).cell 2
                  have s3 : wc.cell? ⟨sb, 3, none⟩ = some (.slice a3 m3 c3) := (HS6.out.ext hPc id).cell 3
                  have ho : wc.cell? ⟨ab, ao + k, none⟩ = some (.slice oo on oc2) := hPc.cell_some HOc.out id
                  have hsl : sb < wc.heap.size := (HS6.out.ext hPc id).lt
                  go_wp2_with fail
                  refine (HSx.out _ hPc).mono ?_
                  rintro e wc ⟨rfl, hP2⟩
                  have hPc := hPc.pure hP2
                  have s1 : wc.cell? ⟨sb, 1, none⟩ = some (.slice a1 m1 c1) := (HS6.out.ext hPc id).cell 1
                  have s2 : wc.cell? ⟨sb, 2, none⟩ = some (.slice (some ⟨ab, ao, none⟩) m2 c2) := (HS6.out.ext hPc id).cell 2
                  have s3 : wc.cell? ⟨sb, 3, none⟩ = some (.slice a3 m3 c3) := (HS6.out.ext hPc id).cell 3
                  have ho : wc.cell? ⟨ab, ao + k, none⟩ = some (.slice oo on oc2) := hPc.cell_some HOc.out id
                  have hsl : sb < wc.heap.size := (HS6.out.ext hPc id).lt
                  have HPc := Lib.hid hPc
                  clear hPc
                  go_wp2_with fail
                  go_roundw
                  case rel => first | exact ⟨j + 1, by omega, by go_num, HPc⟩ | ((repeat apply Exists.intro); exact ⟨⟨j + 1, by omega, by go_num, HPc⟩, rfl⟩)
                  case measure => simp [intOf]; omega
                · rw [decide_eq_false h2] at HSx
                  rw [decide_eq_true ((hcov.resolve_left h1).resolve_left h2)] at HOx
                  clear hcov h1 h2
                  go_wp2_with fail
                  refine (HFx.out _ hPc).mono ?_
                  rintro e wc ⟨rfl, hP2⟩
                  have hPc := hPc.pure hP2
                  have s1 : wc.cell? ⟨sb, 1, none⟩ = some (.slice a1 m1 c1) := (HS6.out.ext hPc id).cell 1
                  have s2 : wc.cell? ⟨sb, 2, none⟩ = some (.slice (some ⟨ab, ao, none⟩) m2 c2) := (HS6.out.ext hPc id).cell 2
                  have s3 : wc.cell? ⟨sb, 3, none⟩ = some (.slice a3 m3 c3) := (HS6.out.ext hPc id).cell 3
                  have ho : wc.cell? ⟨ab, ao + k, none⟩ = some (.slice oo on oc2) := hPc.cell_some HOc.out id
                  have hsl : sb < wc.heap.size := (HS6.out.ext hPc id).lt
                  go_wp2_with fail
                  refine (HSx.out _ hPc).mono ?_
                  rintro e wc ⟨rfl, hP2⟩
                  have hPc := hPc.pure hP2
                  have s1 : wc.cell? ⟨sb, 1, none⟩ = some (.slice a1 m1 c1) := (HS6.out.ext hPc id).cell 1
                  have s2 : wc.cell? ⟨sb, 2, none⟩ = some (.slice (some ⟨ab, ao, none⟩) m2 c2) := (HS6.out.ext hPc id).cell 2
                  have s3 : wc.cell? ⟨sb, 3, none⟩ = some (.slice a3 m3 c3) := (HS6.out.ext hPc id).cell 3
                  have ho : wc.cell? ⟨ab, ao + k, none⟩ = some (.slice oo on oc2) := hPc.cell_some HOc.out id
                  have hsl : sb < wc.heap.size := (HS6.out.ext hPc id).lt
                  go_wp2_with fail
                  refine (HOx.out _ hPc).mono ?_
                  rintro e wc ⟨rfl, hP2⟩
                  have hPc := hPc.pure hP2
                  have s1 : wc.cell? ⟨sb, 1, none⟩ = some (.slice a1 m1 c1) := (HS6.out.ext hPc id).cell 1
                  have s2 : wc.cell? ⟨sb, 2, none⟩ = some (.slice (some ⟨ab, ao, none⟩) m2 c2) := (HS6.out.ext hPc id).cell 2
                  have s3 : wc.cell? ⟨sb, 3, none⟩ = some (.slice a3 m3 c3) := (HS6.out.ext hPc id).cell 3
                  have ho : wc.cell? ⟨ab, ao + k, none⟩ = some (.slice oo on oc2) := hPc.cell_some HOc.out id
                  have hsl : sb < wc.heap.size := (HS6.out.ext hPc id).lt
                  have HPc := Lib.hid hPc
                  clear hPc
                  go_wp2_with fail
                  go_roundw
                  case rel => first | exact ⟨j + 1, by omega, by go_num, HPc⟩ | ((repeat apply Exists.intro); exact ⟨⟨j + 1, by omega, by go_num, HPc⟩, rfl⟩)
                  case measure => simp [intOf]; omega
            · have hkj : ¬ (j : Int) < (qn : Int) := by omega
              have HPj := HP
              clear hltj
              have s2 : wr.cell? ⟨sb, 2, none⟩ = some (.slice (some ⟨ab, ao, none⟩) m2 c2) := (HS6.out.ext HP.out id).cell 2
              have ho : wr.cell? ⟨ab, ao + k, none⟩ = some (.slice oo on oc2) := HP.out.cell_some HOc.out id
              go_wp2_with fail
              obtain ⟨wo3, rfl⟩ : ∃ wo3 : World, wo3 = wr := ⟨_, rfl⟩
              clear hrq s2 ho
              go_loopw [10] (fun i wr => ∃ j2 : Nat, j2 ≤ on ∧ i = .int .i64 j2 ∧ Hid (Pure w6 wr)) (fun i _ => on - (intOf i).toNat)
              case atStart => exact ⟨0, Nat.zero_le _, rfl, HPj⟩
              case round =>
                obtain ⟨j2, hj2, rfl, HP⟩ := hrel
                have s2 : wr.cell? ⟨sb, 2, none⟩ = some (.slice (some ⟨ab, ao, none⟩) m2 c2) := (HS6.out.ext HP.out id).cell 2
                have ho : wr.cell? ⟨ab, ao + k, none⟩ = some (.slice oo on oc2) := HP.out.cell_some HOc.out id
                by_cases hltj2 : j2 < on
                · have hkj2 : (j2 : Int) < (on : Int) := by omega
                  have hj20 : (0 : Int) ≤ (j2 : Int) := by omega
                  have hjq : j2 < ol.length := by rw [← HOn.out]; exact hltj2
                  obtain ⟨xb, xo, rfl, hxc⟩ := (HOkr.out wr HP.out).1 j2 _ (intsV_get hjq)
                  obtain ⟨x, hx⟩ : ∃ z, z = ol[j2] := ⟨_, rfl⟩
                  have h1 := HOne.out x (by rw [hx]; exact List.getElem_mem hjq)
                  rw [← hx] at hxc
                  have HUx := Lib.hid (luses_any x rs2 (some ⟨rb, ro, none⟩) rc wr (HR2.out.2.1.pure HP.out) (by rw [← HRn.out]; omega) (fun q hq => by have := (HZ2.out q.l (by rw [← HR2.out.1]; exact List.mem_map.2 ⟨q, hq, rfl⟩)).1; omega))
                  rw [← HRn.out, HR2.out.1, h1] at HUx
                  clear hx hjq h1
                  go_wp2_with fail
                  refine HUx.out.mono ?_
                  rintro e wc ⟨rfl, hP2⟩
                  have HPc := Lib.hid (HP.out.pure hP2)
                  clear hP2 s2 ho hxc HUx
                  go_wp2_with fail
                  go_roundw
                  case rel => exact ⟨j2 + 1, by omega, by go_num, HPc⟩
                  case measure => simp [intOf]; omega
                · have hkj2 : ¬ (j2 : Int) < (on : Int) := by omega
                  go_wp2_with fail
                  go_roundw
                  case rel => first | exact ⟨k + 1, by omega, by go_num, HP⟩ | exact ⟨k + 1, by omega, by omega⟩
                  case measure => simp [intOf]; omega
        · have hki : ¬ (k : Int) + 1 < (m2 : Int) + 1 := by omega
          have s3 : wr.cell? ⟨sb, 3, none⟩ = some (.slice a3 m3 c3) := (HS6.out.ext HP.out id).cell 3
          have HPk := HP
          go_wp2_with fail
          obtain ⟨wo2, rfl⟩ : ∃ wo2 : World, wo2 = wr := ⟨_, rfl⟩
          clear s3
          go_loopw [11] (fun i wr => ∃ k : Nat, k ≤ m3 ∧ i = .int .i64 k ∧ Hid (Pure w6 wr)) (fun i _ => m3 - (intOf i).toNat)
          case atStart => exact ⟨0, Nat.zero_le _, rfl, HPk⟩
          case round =>
            obtain ⟨k, hk3, rfl, HP⟩ := hrel
            have s3 : wr.cell? ⟨sb, 3, none⟩ = some (.slice a3 m3 c3) := (HS6.out.ext HP.out id).cell 3
            by_cases hlt3 : k < m3
            · have hkk : (k : Int) < (m3 : Int) := by omega
              have hk0 : (0 : Int) ≤ (k : Int) := by omega
              have hks : k < p.shared.length := by rw [← HSh.out.1]; exact hlt3
              obtain ⟨xb, xo, rfl, hxc⟩ := (HSh.out.2.pure HP.out).1 k _ (intsV_get hks)
              obtain ⟨x, hx⟩ : ∃ z, z = p.shared[k] := ⟨_, rfl⟩
              have hxs : x ∈ shP rows2 rows2.length := by
                have h1 : x ∈ p.shared := by rw [hx]; exact List.getElem_mem hks
                rw [HPt.out] at h1
                exact h1
              have hcd := of_decide_eq_true (mem_sh hxs).1
              rw [← hx] at hxc
              have HXc : Hid (∀ W, Pure wr W → W.cell? ⟨xb, xo + k, none⟩ = some (.int .i64 x)) := Lib.hid (fun W hP => hP.cell_some hxc id)
              have HXc := Lib.hid (fun W (hP : Pure w6 W) => show W.cell? ⟨xb, xo + k, none⟩ = some (.int .i64 x) from by
                obtain ⟨xb2, xo2, e2, hx2⟩ := (HSh.out.2.pure hP).1 k _ (intsV_get hks)
                cases e2
                rw [← hx] at hx2
                exact hx2)
              obtain ⟨u, hu⟩ : ∃ z, z = manyP rows2 x := ⟨_, rfl⟩
              have hu2 : decide ((u : Int) < 2) = false := decide_eq_false (by omega)
              have HUx := Lib.hid (fun W (hP : Pure w6 W) => luses_any x rs2 ra rc W (HR2.out.2.1.pure hP) (by rw [← HRn.out]; omega) (fun q hq => by have := (HZ2.out q.l (by rw [← HR2.out.1]; exact List.mem_map.2 ⟨q, hq, rfl⟩)).1; omega))
              rw [← HRn.out, HR2.out.1, ← hu] at HUx
              have HFx := Lib.hid (fun W (hP : Pure w6 W) => lhas_any x a1 c1 p.first W ((HFs.out.2.pure hP).1) (by rw [← HFs.out.1]; omega))
              rw [← HFs.out.1, decide_eq_false (show x ∉ p.first by rw [HPt.out]; exact hcd.2)] at HFx
              have hm3k : k < m3 := hlt3
              clear hx hks hxs hcd hu hxc
              go_wp2_with fail
              have hP0 : Pure w6 wr.drew := HP.out.drew
              go_upto_region 24 with (fail)
              refine region_start (fun _ => False) (by kernel_rfl) ?_
              try simp only [Act.put, List.setIfInBounds_toArray, List.set_cons_zero, List.set_cons_succ]
              refine region_take 0 127 (v := ?vpa0) rfl rfl (by kernel_rfl) (by kernel_rfl) (by kernel_rfl) (fun _ _ _ h => h) (by rfl) (fun w' hS => ?hpa0) ?rpa0
              case hpa0 => go_simp; with_reducible rfl
              try simp only [Act.put, List.setIfInBounds_toArray, List.set_cons_zero, List.set_cons_succ]
              refine region_take 1 128 (v := ?vpa1) rfl rfl (by kernel_rfl) (by kernel_rfl) (by kernel_rfl) (fun _ _ _ h => h) (by rfl) (fun w' hS => ?hpa1) ?rpa1
              case hpa1 => go_simp; with_reducible rfl
              try simp only [Act.put, List.setIfInBounds_toArray, List.set_cons_zero, List.set_cons_succ]
              refine region_take 2 129 (v := ?vpa2) rfl rfl (by kernel_rfl) (by kernel_rfl) (by kernel_rfl) (fun _ _ _ h => h) (by rfl) (fun w' hS => ?hpa2) ?rpa2
              case hpa2 => (have e : w'.cell? ⟨sb, 3, none⟩ = some (.slice (some ⟨xb, xo, none⟩) m3 c3) := (HS6.out.ext (hP0.trans hS (fun _ _ e => e)) id).cell 3; go_simp; with_reducible rfl)
              try simp only [Act.put, List.setIfInBounds_toArray, List.set_cons_zero, List.set_cons_succ]
              refine region_take 3 130 (v := ?vpa3) rfl rfl (by kernel_rfl) (by kernel_rfl) (by kernel_rfl) (fun _ _ _ h => h) (by rfl) (fun w' hS => ?hpa3) ?rpa3
              case hpa3 => go_simp; with_reducible rfl
              try simp only [Act.put, List.setIfInBounds_toArray, List.set_cons_zero, List.set_cons_succ]
              refine region_take 4 131 (v := ?vpa4) rfl rfl (by kernel_rfl) (by kernel_rfl) (by kernel_rfl) (fun _ _ _ h => h) (by rfl) (fun w' hS => ?hpa4) ?rpa4
              case hpa4 => go_simp; with_reducible rfl
              try simp only [Act.put, List.setIfInBounds_toArray, List.set_cons_zero, List.set_cons_succ]
              refine region_take 5 132 (v := ?vpa5) rfl rfl (by kernel_rfl) (by kernel_rfl) (by kernel_rfl) (fun _ _ _ h => h) (by rfl) (fun w' hS => ?hpa5) ?rpa5
              case hpa5 => (have e : w'.cell? ⟨xb, xo + k, none⟩ = some (.int .i64 x) := HXc.out w' (hP0.trans hS (fun _ _ e => e)); go_simp; with_reducible rfl)
              try simp only [Act.put, List.setIfInBounds_toArray, List.set_cons_zero, List.set_cons_succ]
              refine wpAnyH_ready (rs := [6]) (by kernel_rfl) (by simp) (AllReadyH.cons rfl (fun K hK => ?_) AllReadyH.nil)
              go_simp
              refine (HUx.out _ hP0).mono ?_
              rintro e wa ⟨rfl, hP⟩
              have hP0 := hP0.pure hP
              refine hK.out _ _ (hP) (fun hHeld => ?_)
              clear hK K hHeld
              refine region_now (hP) ?_
              try simp only [Act.put, List.setIfInBounds_toArray, List.set_cons_zero, List.set_cons_succ]
              refine region_take 7 134 (v := ?vpa7) rfl rfl (by kernel_rfl) (by kernel_rfl) (by kernel_rfl) (fun _ _ _ h => h) (by rfl) (fun w' hS => ?hpa7) ?rpa7
              case hpa7 => go_simp; with_reducible rfl
              try simp only [Act.put, List.setIfInBounds_toArray, List.set_cons_zero, List.set_cons_succ]
              refine region_take 8 135 (v := ?vpa8) rfl rfl (by kernel_rfl) (by kernel_rfl) (by kernel_rfl) (fun _ _ _ h => h) (by rfl) (fun w' hS => ?hpa8) ?rpa8
              case hpa8 => go_simp; with_reducible rfl
              try simp only [Act.put, List.setIfInBounds_toArray, List.set_cons_zero, List.set_cons_succ]
              refine region_take 9 136 (v := ?vpa9) rfl rfl (by kernel_rfl) (by kernel_rfl) (by kernel_rfl) (fun _ _ _ h => h) (by rfl) (fun w' hS => ?hpa9) ?rpa9
              case hpa9 => go_simp; with_reducible rfl
              try simp only [Act.put, List.setIfInBounds_toArray, List.set_cons_zero, List.set_cons_succ]
              refine region_take 10 137 (v := ?vpa10) rfl rfl (by kernel_rfl) (by kernel_rfl) (by kernel_rfl) (fun _ _ _ h => h) (by rfl) (fun w' hS => ?hpa10) ?rpa10
              case hpa10 => (have e : w'.cell? ⟨sb, 1, none⟩ = some (.slice a1 m1 c1) := (HS6.out.ext (hP0.trans hS (fun _ _ e => e)) id).cell 1; go_simp; with_reducible rfl)
              try simp only [Act.put, List.setIfInBounds_toArray, List.set_cons_zero, List.set_cons_succ]
              refine region_take 11 138 (v := ?vpa11) rfl rfl (by kernel_rfl) (by kernel_rfl) (by kernel_rfl) (fun _ _ _ h => h) (by rfl) (fun w' hS => ?hpa11) ?rpa11
              case hpa11 => go_simp; with_reducible rfl
              try simp only [Act.put, List.setIfInBounds_toArray, List.set_cons_zero, List.set_cons_succ]
              refine region_take 12 139 (v := ?vpa12) rfl rfl (by kernel_rfl) (by kernel_rfl) (by kernel_rfl) (fun _ _ _ h => h) (by rfl) (fun w' hS => ?hpa12) ?rpa12
              case hpa12 => (have e : w'.cell? ⟨sb, 3, none⟩ = some (.slice (some ⟨xb, xo, none⟩) m3 c3) := (HS6.out.ext (hP0.trans hS (fun _ _ e => e)) id).cell 3; go_simp; with_reducible rfl)
              try simp only [Act.put, List.setIfInBounds_toArray, List.set_cons_zero, List.set_cons_succ]
              refine region_take 13 140 (v := ?vpa13) rfl rfl (by kernel_rfl) (by kernel_rfl) (by kernel_rfl) (fun _ _ _ h => h) (by rfl) (fun w' hS => ?hpa13) ?rpa13
              case hpa13 => go_simp; with_reducible rfl
              try simp only [Act.put, List.setIfInBounds_toArray, List.set_cons_zero, List.set_cons_succ]
              refine region_take 14 141 (v := ?vpa14) rfl rfl (by kernel_rfl) (by kernel_rfl) (by kernel_rfl) (fun _ _ _ h => h) (by rfl) (fun w' hS => ?hpa14) ?rpa14
              case hpa14 => go_simp; with_reducible rfl
              try simp only [Act.put, List.setIfInBounds_toArray, List.set_cons_zero, List.set_cons_succ]
              refine region_take 15 142 (v := ?vpa15) rfl rfl (by kernel_rfl) (by kernel_rfl) (by kernel_rfl) (fun _ _ _ h => h) (by rfl) (fun w' hS => ?hpa15) ?rpa15
              case hpa15 => (have e : w'.cell? ⟨xb, xo + k, none⟩ = some (.int .i64 x) := HXc.out w' (hP0.trans hS (fun _ _ e => e)); go_simp; with_reducible rfl)
              try simp only [Act.put, List.setIfInBounds_toArray, List.set_cons_zero, List.set_cons_succ]
              refine wpAnyH_ready (rs := [16]) (by kernel_rfl) (by simp) (AllReadyH.cons rfl (fun K hK => ?_) AllReadyH.nil)
              go_simp
              refine (HFx.out _ hP0).mono ?_
              rintro e wa ⟨rfl, hP⟩
              have hP0 := hP0.pure hP
              refine hK.out _ _ (hP) (fun hHeld => ?_)
              clear hK K hHeld
              refine region_now (hP) ?_
              try simp only [Act.put, List.setIfInBounds_toArray, List.set_cons_zero, List.set_cons_succ]
              refine region_take 17 144 (v := ?vpa17) rfl rfl (by kernel_rfl) (by kernel_rfl) (by kernel_rfl) (fun _ _ _ h => h) (by rfl) (fun w' hS => ?hpa17) ?rpa17
              case hpa17 => go_simp; with_reducible rfl
              try simp only [Act.put, List.setIfInBounds_toArray, List.set_cons_zero, List.set_cons_succ]
              refine wpAnyH_done (by kernel_rfl) ?_ _
              have HPz := Lib.hid hP0
              clear hP0
              go_wp2_with fail
              go_roundw
              case rel => exact ⟨k + 1, by omega, by go_num, HPz⟩
              case measure => simp [intOf]; omega
            · have hkk : ¬ (k : Int) < (m3 : Int) := by omega
              go_wp2_with fail
              refine (works_any _).mono ?_
              rintro e wy ⟨rfl, hPy⟩
              go_wp2_with fail
              go_ret
              exact ⟨rfl, (HP6.out.pure (HP.out.pure hPy)).below⟩
    · have hEb : (E != 0) = true := by simpa using hE
      clear HGd HSp0 HRo0 hE
      go_enter Try.func5, Try.ntmps5
      go_wp2_with fail
      rw [HWo.out, ← HTb.out]
      go_wp2_with fail
      refine (HFw.out wo HPwo.out).mono ?_
      rintro e w1 ⟨rfl, hPf⟩
      have HP1 := Lib.hid (HPwo.out.pure hPf)
      have HB1 := Lib.hid (HBd.out.ext hPf id)
      clear hPf
      have e0 : w1.cell? ⟨tb, 0, none⟩ = some (.slice oa n oc) := HB1.out.cell 0
      have e1 : w1.cell? ⟨tb, 1, none⟩ = some (.int .i64 root) := HB1.out.cell 1
      have hb1 : tb < w1.heap.size := HB1.out.lt
      go_wp2_with fail
      refine (HDc.out w1 HP1.out).mono ?_
      rintro e w2 ⟨rfl, hPf⟩
      have HP2 := Lib.hid (HP1.out.pure hPf)
      clear hPf e0 e1 hb1
      go_wp2_with fail
      refine (works_any _).mono ?_
      rintro e wz ⟨rfl, hPz⟩
      go_wp2_with fail
      go_ret
      exact ⟨rfl, (HP2.out.pure hPz).below⟩

set_option maxRecDepth 100000 in
theorem lifted (os : Os) (started : os.Started) (H : Type) (enc : TypeId × Value → H) :
    ReturnsInHanded {} Try.checked os 5 .any (Rows.sharePagesSpec.pre6 enc Try.prog Try.f5 Rows.sharePagesRow.domain false) (Rows.sharePagesSpec.post enc Try.prog Try.f5 false true false false) := by
  refine returnsInHanded_of_change (C := Try.checked) own started (by kernel_rfl) Try.func5
    (ChangeSpec.witness6 (enc := enc) (C := Try.checked) false ⟨#[], #[.agg #[.slice none 0 0, .int .i64 0]], []⟩ 8 (by kernel_rfl) (by kernel_rfl) (by kernel_rfl) (by kernel_rfl)) ?_
  intro W base args ds gs before hval0 hW hcnd _
  have hval : ∀ (j : Nat) t v, Try.f5.params[j]? = some t → args[j]? = some v → Value.okWide Try.prog W .any base t v := hval0
  have hW' := hW
  obtain ⟨p, q, hA0, hV, rfl, hfz, hnd⟩ := hW
  have hA : DataW.TrodAll enc Try.prog W 0 (fun _ => true) true Try.f5.params.toList args.toList ds p := hA0
  rw [Try.params5] at hA hval
  obtain ⟨v0, vs0, d0, ds0, p0, q0, hargs, rfl, rfl, h0, r0⟩ := trodAll_cons hA
  obtain ⟨rfl, rfl, rfl⟩ := trodAll_nil r0
  obtain rfl : args = #[v0] := by cases args; simp_all
  obtain ⟨rfl, rfl⟩ := trodVars_none hV
  have k0 := h0
  have lt0 : ∀ x ∈ p0, x.block < W.heap.size := by obtain ⟨m, hm⟩ := k0; exact DataW.trod_lt m _ _ _ hm
  obtain ⟨F0, objs, oa, oc, rows, root, rfl, hOK0, hoc0, hcm0, hwf0, _, hr0⟩ := open_doc (hval 0 38 v0 rfl rfl) h0
  clear hA0 hval0
  refine (walk F0 objs oa oc rows root W hOK0 hoc0 hcm0 hwf0 hr0).mono fun e W' ⟨he, bel⟩ => ?_
  subst he
  exact ⟨_, rfl, _, _, _, [], _, [], hW', trodAll_mk1 (shut_bool Try.underlying4 _), (trodAll_cons_mk (Below.trod laidOut (by kernel_rfl) (of_decide_eq_true (by kernel_rfl)) k0 bel lt0) trodAll_mk0), rfl, bel.frame _, fun h => by cases h⟩

theorem proved : Rows.SharePagesSaid :=
  OpenClaim.holds_of_wide 5 Try.f5 rfl rfl rfl rfl rfl rfl rfl ⟨rfl, rfl, rfl, rfl, rfl⟩ rfl rfl rfl rfl rfl (by kernel_rfl) Try.func5 (by kernel_rfl)
    (of_decide_eq_true (by kernel_rfl)) (by unfold Func.isWrapper; first | (rw [if_pos (by decide +kernel)]; kernel_rfl) | (rw [if_neg (by decide +kernel)]; exact ⟨rfl, rfl⟩))
    (fun os started H enc _ => lifted os started H enc)
#print axioms proved
end Go.Proofs.Ytnpiemcfbnpfdaa.sharePages
