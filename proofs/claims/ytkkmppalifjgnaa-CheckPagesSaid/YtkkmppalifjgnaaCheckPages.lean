/-
  CheckPages: of a Doc that may be written, the pages of the walk are the leaves of the tree; what a page leads to has neither the root, nor a node, nor another page. No condition.
-/
import Derived.Test.YtkkmppalifjgnaaWorks23
import Derived.Test.YtkkmppalifjgnaaOpenS
import Derived.Test.YtkkmppalifjgnaaClos
import Derived.Test.YtkkmppalifjgnaaPagesPl
import Derived.Test.YtkkmppalifjgnaaHasL
import Derived.OwnWalk
namespace Go.Proofs.Ytkkmppalifjgnaa.checkPages
open Go.ChangeShapes Go.WideShapes Go.ChangeAt Go.RowKit Go.Proofs.Ytkkmppalifjgnaa
set_option linter.unusedVariables false
set_option linter.unusedSimpArgs false

theorem own_le {w : World} {B e s n c : Nat} {a : Option Addr} {xs : List Value} (h : w.ownsRow B e s (.slice a n c) n xs) : n ≤ maxLen := by
  rcases h.2 with ⟨_, h1⟩ | ⟨g, cap, cur, _, _, _, h1, h2, _⟩
  · omega
  · omega
theorem few_sizes {l : List Ob} (hf : fewO l 80 = true) (n : Int) : (obAt l n).v.size ≤ 300 := by
  rcases obAt_cases l n with h | h
  · unfold fewO at hf
    rw [Bool.and_eq_true, List.all_eq_true] at hf
    have h1 := hf.2 _ h
    unfold Ob.few at h1
    rw [Bool.and_eq_true, Bool.and_eq_true] at h1
    have h2 := of_decide_eq_true h1.1.1
    rw [V.few_size _ _ (by omega)] at h2
    split at h2 <;> omega
  · rw [h]
    decide +kernel
/-- six cells of a row of rows -/
theorem six_at {W : World} {a : Option Addr} {rows : List (List Value)} (h6 : ∀ r ∈ rows, r.length = 6) (hR : RowOf W a (rows.flatMap id)) {k : Nat} (hk : k < rows.length) : ∃ b o, a = some ⟨b, o, none⟩ ∧ ∀ j u, rows[k][j]? = some u → W.cell? ⟨b, o + k * 6 + j, none⟩ = some u := by
  have hl := h6 _ (List.getElem_mem hk)
  have hg : ∀ j, j < 6 → (rows.flatMap id)[k * 6 + j]? = rows[k][j]? := fun j hj => flat_get id rows (fun r hr => h6 r hr) k hk j hj
  obtain ⟨b, o, ha, _⟩ := hR (k * 6 + 0) _ ((hg 0 (by omega)).trans (List.getElem?_eq_getElem (by omega)))
  refine ⟨b, o, ha, fun j u hu => ?_⟩
  have hj : j < 6 := by have := (List.getElem?_eq_some_iff.1 hu).1; omega
  obtain ⟨b', o', ha', hc⟩ := hR (k * 6 + j) u ((hg j hj).trans hu)
  rw [ha] at ha'
  cases ha'
  rw [Nat.add_assoc]; exact hc
set_option maxHeartbeats 4000000 in
set_option maxRecDepth 100000 in
theorem walk (F0 : Nat) (objs : List Ob) (oa : Option Addr) (oc : Nat) (rows : List (List Value)) (root : Int) (w : World)
    (hOK : OKids w F0 objs oa rows) (hoc : objs.length ≤ oc) (hcm : oc ≤ maxLen) (hwf : ∀ u ∈ objs, u.data.size ≤ maxLen ∧ u.v.wf) (hr : (Lit.int .i64 root).wf = true) :
    Calls Try.prog 6 #[.agg #[.slice oa objs.length oc, .int .i64 root]] w fun e w' => e = .returned (.bool true) ∧ Below w.heap.size w w' := by
  have HFw := Lib.hid (fun W (hP : Pure w W) => fewo_any F0 objs oa oc rows 80 W (hOK.pure hP) hoc hcm)
  have HDok := Lib.hid (fun (hf : fewO objs 80 = true) => few_docok hOK hwf hr hf)
  have HLen := Lib.hid (fun (hf : fewO objs 80 = true) => (fewO_in hf).1)
  have HSz := Lib.hid (fun (hf : fewO objs 80 = true) => few_sizes hf)
  have HDs := Lib.hid (fun u hu => (hwf u hu).1)
  obtain ⟨n, hn⟩ : ∃ z, z = objs.length := ⟨_, rfl⟩
  obtain ⟨fw, hfw⟩ : ∃ z, z = fewO objs 80 := ⟨_, rfl⟩
  rw [← hn, ← hfw] at HFw
  rw [← hn, ← hfw] at HLen
  rw [← hfw] at HDok HSz
  rw [← hn]
  have HN := Lib.hid hn
  clear hOK hwf hn hfw hoc hcm hr
  obtain ⟨wo, hwo⟩ : ∃ z, z = w.alloc (.cells #[.slice oa n oc, .int .i64 root] 24) := ⟨_, rfl⟩
  obtain ⟨tb, htb⟩ : ∃ z, z = w.heap.size := ⟨_, rfl⟩
  have HPwo : Hid (Pure w wo) := Lib.hid (by rw [hwo]; exact ext_alloc w _)
  have HBd : Hid (BlockIs wo tb [.slice oa n oc, .int .i64 root] 24) := Lib.hid (by rw [hwo, htb]; exact BlockIs.new w [.slice oa n oc, .int .i64 root] 24)
  have HWo : Hid (w.alloc (.cells #[.slice oa n oc, .int .i64 root] 24) = wo) := Lib.hid hwo.symm
  have HTb := Lib.hid htb
  have d0 : wo.cell? ⟨tb, 0, none⟩ = some (.slice oa n oc) := HBd.out.cell 0
  clear hwo htb
  cases fw with
  | false =>
    clear HDok HLen HSz
    go_enter Try.func6, Try.ntmps6
    go_wp2_with fail
    rw [HWo.out, ← HTb.out]
    go_wp2_with fail
    refine (HFw.out wo HPwo.out).mono ?_
    rintro e wf ⟨rfl, hPf⟩
    have HPf := Lib.hid (HPwo.out.pure hPf)
    clear hPf
    go_wp2_with fail
    refine (works_any _).mono ?_
    rintro e wz ⟨rfl, hPz⟩
    go_wp2_with fail
    go_ret
    exact ⟨rfl, (HPf.out.pure hPz).below⟩
  | true =>
    have HD := Lib.hid (HDok.out rfl)
    have HZ := Lib.hid (HSz.out rfl)
    have hn80 := HLen.out rfl
    have HDc := Lib.hid (fun W (hP : Pure w W) => doc_any F0 objs oa oc rows root W (HD.out.pure hP) HDs.out)
    have HWk := Lib.hid (fun W (hP : Pure w W) => walk_docs F0 objs oa oc rows root W (HD.out.pure hP))
    have HLvs := Lib.hid (fun (hE : docE objs root = 0) => doc_leaves hE HZ.out (fun i => HD.out.at_wf i))
    obtain ⟨E, hE⟩ : ∃ z, z = docE objs root := ⟨_, rfl⟩
    rw [← hE, ← HN.out] at HDc
    rw [← HN.out] at HWk
    rw [← hE] at HLvs
    clear HDok HLen HSz HDs hE
    by_cases hE : E = 0
    · subst hE
      obtain ⟨T, n0, kids, q, Rs, hwk, hDF, hTop, hRq, hRT, hR1, hRs⟩ := HLvs.out rfl
      rw [hwk] at HWk
      have HDF := Lib.hid hDF
      have HTop := Lib.hid hTop
      have HRq := Lib.hid hRq
      have HRT := Lib.hid hRT
      have HRs := Lib.hid hRs
      have HLv := Lib.hid (fun fb db W (hP : Pure w W) hF => leaves_any F0 objs oa oc root rows fb db n0 w W hP HD.out hF kids q hTop Rs hRq (fun p hp => (hRs p hp).1))
      have HCl := Lib.hid (fun fb db W (hP : Pure w W) (hF : FileAt W fb db oa objs.length oc root) (x : Int) pa pm pc g gcs (hg : Lies W (F0 + 1 + 1) g gcs) hgz hgw hx => closure_any F0 (F0 + 1) objs oa oc root rows fb db x pa pm pc g gcs w W hP HD.out.ok (by have := HD.out.len; omega) hF hg hgz hgw (fun i => HD.out.at_size i) (fun i => HD.out.at_wf i) hx)
      have HOf := Lib.hid (fun W => of_any oa n oc root W)
      have hTn : T.nodes.length + T.pages.length ≤ 80 := by have := hDF.tok.len; rw [← HN.out] at this; omega
      obtain ⟨pn, hpn⟩ : ∃ z, z = Rs.length := ⟨_, rfl⟩
      rw [← hpn] at HRT hR1
      have HPn := Lib.hid hpn
      obtain ⟨nn, hnn⟩ : ∃ z, z = T.nodes.length := ⟨_, rfl⟩
      have HNn := Lib.hid hnn
      have HPp : Hid (T.pages.length = pn) := Lib.hid HRT.out.symm
      unfold WkTo at HWk
      unfold LeavesTo at HLv
      simp only at HWk
      rw [← hnn, HPp.out] at HWk
      rw [← hpn] at HLv
      rw [← hnn, HPp.out] at hTn
      clear hwk hDF hTop hRq hRT hRs HLvs hpn hnn
      go_enter Try.func6, Try.ntmps6
      go_wp2_with fail
      rw [HWo.out, ← HTb.out]
      go_wp2_with fail
      refine (HFw.out wo HPwo.out).mono ?_
      rintro e w1 ⟨rfl, hPf⟩
      have HP1 := Lib.hid (HPwo.out.pure hPf)
      have HB1 := Lib.hid (HBd.out.ext hPf id)
      clear hPf
      have e0 : w1.cell? ⟨tb, 0, none⟩ = some (.slice oa n oc) := HB1.out.cell 0
      have e1 : w1.cell? ⟨tb, 1, none⟩ = some (.int .i64 root) := HB1.out.cell 1
      have hb1 : tb < w1.heap.size := World.block_lt_of_cell? w1 _ e0
      go_wp2_with fail
      refine (HDc.out w1 HP1.out).mono ?_
      rintro e w2 ⟨rfl, hPf⟩
      have HP2 := Lib.hid (HP1.out.pure hPf)
      have HB2 := Lib.hid (HB1.out.ext hPf id)
      clear hPf e0 e1 hb1
      have e0 : w2.cell? ⟨tb, 0, none⟩ = some (.slice oa n oc) := HB2.out.cell 0
      have e1 : w2.cell? ⟨tb, 1, none⟩ = some (.int .i64 root) := HB2.out.cell 1
      have hb1 : tb < w2.heap.size := World.block_lt_of_cell? w2 _ e0
      go_wp2_with fail
      refine (HWk.out w2 HP2.out).mono ?_
      rintro e w3 ⟨na, nc, pa, pc, rfl, hPf, hRn, hRp, _, _, _, _, hnc, hncm, hpc, hpcm⟩
      have HP3 := Lib.hid (HP2.out.pure hPf)
      have HB3 := HB2.out.ext hPf id
      clear hPf e0 e1 hb1
      have e0 : w3.cell? ⟨tb, 0, none⟩ = some (.slice oa n oc) := HB3.cell 0
      have e1 : w3.cell? ⟨tb, 1, none⟩ = some (.int .i64 root) := HB3.cell 1
      have hb1 : tb < w3.heap.size := World.block_lt_of_cell? w3 _ e0
      obtain ⟨w4, hw4⟩ : ∃ z, z = w3.alloc (.cells #[.slice na nn nc, .slice pa pn pc] 31) := ⟨_, rfl⟩
      have hP4 : Pure w3 w4 := by rw [hw4]; exact ext_alloc w3 _
      have HP4 := Lib.hid (HP3.out.pure hP4)
      have HB4 := Lib.hid (HB3.ext hP4 id)
      have HRn4 := Lib.hid (hRn.ext hP4 (fun _ _ => id))
      have HRp4 := Lib.hid (hRp.ext hP4 (fun _ _ => id))
      have HT4 : Hid (BlockIs w4 w3.heap.size [.slice na nn nc, .slice pa pn pc] 31) := Lib.hid (by rw [hw4]; exact BlockIs.new w3 [.slice na nn nc, .slice pa pn pc] _)
      have HW4 := Lib.hid hw4.symm
      clear hw4 hP4 HB3 hRn hRp
      go_wp2_with fail
      rw [HW4.out]
      refine (HOf.out w4).mono ?_
      rintro e w5 ⟨fb, db, rfl, _, _, hFa, hPf⟩
      have HP5 := Lib.hid (HP4.out.pure hPf)
      have HB5 := Lib.hid (HB4.out.ext hPf id)
      have HT5 := Lib.hid (HT4.out.ext hPf id)
      have HRn5 := Lib.hid (HRn4.out.ext hPf (fun _ _ => id))
      have HRp5 := Lib.hid (HRp4.out.ext hPf (fun _ _ => id))
      have HFa := Lib.hid (show FileAt w5 fb db oa objs.length oc root by rw [← HN.out]; exact hFa)
      obtain ⟨t3, ht3⟩ : ∃ z, z = w3.heap.size := ⟨_, rfl⟩
      rw [← ht3] at HT5 ⊢
      clear hPf hFa ht3 HT4 HRn4 HRp4 HB4 e0 e1 hb1 HW4
      go_wp2_with fail
      refine (HLv.out fb db w5 HP5.out HFa.out).mono ?_
      rintro e w6 ⟨la, lc, rws, rfl, hRw, hrl, hrow, hPf⟩
      have HP6 := Lib.hid (HP5.out.pure hPf)
      have HB6 := Lib.hid (HB5.out.ext hPf id)
      have HT6 := Lib.hid (HT5.out.ext hPf id)
      have HRn6 := Lib.hid (HRn5.out.ext hPf (fun _ _ => id))
      have HRp6 := Lib.hid (HRp5.out.ext hPf (fun _ _ => id))
      have HF6 := Lib.hid (HFa.out.ext hPf id id)
      have HRw := Lib.hid hRw
      have HRl := Lib.hid hrl
      have HRo := Lib.hid hrow
      clear hPf hRw hrl hrow HB5 HT5 HRn5 HRp5 HFa HLv
      have t1 : w6.cell? ⟨t3, 1, none⟩ = some (.slice pa pn pc) := HT6.out.cell 1
      have hpn0 : ((pn : Int) == 0) = false := by simp; omega
      go_wp2_with fail
      go_loopw [9] (fun x wr => ∃ k : Nat, k ≤ pn ∧ x = .int .i64 k ∧ Hid (Pure w6 wr)) (fun x _ => pn - (intOf x).toNat)
      case atStart => exact ⟨0, Nat.zero_le _, rfl, Lib.hid (Ext.refl _ _)⟩
      case round =>
        obtain ⟨k, hk, rfl, HPr⟩ := hrel
        clear t1
        by_cases hlt : k < pn
        · have hki : (k : Int) < (pn : Int) := by omega
          have hk0 : (0 : Int) ≤ (k : Int) := by omega
          have hkR : k < Rs.length := by rw [← HPn.out]; exact hlt
          have hkr : k < rws.length := by rw [HRl.out]; exact hlt
          have h6 : ∀ r ∈ rws, r.length = 6 := fun r hr => by
            obtain ⟨i, hi, rfl⟩ := List.getElem_of_mem hr
            exact (HRo.out i _ _ (List.getElem?_eq_getElem (by rw [← HPn.out, ← HRl.out]; exact hi)) (List.getElem?_eq_getElem hi)).len
          obtain ⟨lb, lo, rfl, hcell⟩ := six_at h6 HRw.out hkr
          have hL := HRo.out k _ _ (List.getElem?_eq_getElem hkR) (List.getElem?_eq_getElem hkr)
          have hG := (HRs.out k hkR).2
          obtain ⟨rw6, hrw6⟩ : ∃ z, z = rws[k] := ⟨_, rfl⟩
          obtain ⟨R, hRe⟩ : ∃ z, z = Rs[k] := ⟨_, rfl⟩
          rw [← hrw6] at hcell hL
          rw [← hRe] at hL hG
          clear hrw6 hRe h6 hkR hkr
          obtain ⟨Rn, Rp, Rg⟩ := R
          obtain ⟨hPg, hPt, hGd, hRpl⟩ := hG
          simp only at hPg hPt hGd hRpl
          obtain ⟨pta, ptc, gcs, rfl, hPath, hTp⟩ := hL
          have hLg : Lies w6 (F0 + 1 + 1) Rg gcs := hTp.lies HP6.out
          simp only at hPath hcell hLg
          have hkp : k < T.pages.length := by rw [HPp.out]; exact hlt
          have hPk : T.pages[k] = Rn := by
            rw [Int.toNat_natCast, List.getElem?_eq_getElem hkp] at hPg
            exact Option.some.inj hPg
          obtain ⟨pb, po, hpa, hpc0⟩ := HRp6.out k _ (intsV_get hkp)
          rw [hPk] at hpc0
          have HRnP : Hid (Rn ∈ T.pages) := Lib.hid (by rw [← hPk]; exact List.getElem_mem hkp)
          subst hpa
          obtain ⟨ca, cc, crows, hcc, _⟩ := hLg.kids
          have HLg := Lib.hid hLg
          have HPath := Lib.hid hPath
          have HPt := Lib.hid hPt
          have HGd := Lib.hid hGd
          have HRnW : Hid ((Lit.int .i64 Rn).wf = true) := Lib.hid (in_wf (by have h1 := HDF.out.tok.lo Rn (Or.inr HRnP.out); have h2 := HN.out; omega))
          obtain ⟨cs6, hcs6⟩ : ∃ z, z = Value.int .i64 Rn :: Value.slice pta Rp.length ptc :: gcs := ⟨_, rfl⟩
          have HClo := Lib.hid (fun W (hP : Pure w6 W) => HCl.out fb db W (HP6.out.pure hP) (HF6.out.ext hP id id) Rn pta Rp.length ptc Rg gcs (hLg.pure hP) hGd.size hGd.wf HRnW.out)
          rw [hcc] at hcell HLg HClo
          clear hPg hPk hkp hLg hPath hPt hGd hTp hcc hcs6 HCl
          obtain ⟨pl, hpl⟩ : ∃ z, z = Rp.length := ⟨_, rfl⟩
          rw [← hpl] at hcell HClo hRpl
          have HPl := Lib.hid hpl
          have HGl := Lib.hid (show Rg.l.length = Rg.l.length from rfl)
          generalize Rg.l.length = gl at *
          generalize Rg.kind = gk at *
          generalize Rg.n = gn at *
          generalize Rg.s = gs at *
          clear hpl
          have c0 := hcell 0 _ rfl
          have c1 := hcell 1 _ rfl
          have c2 := hcell 2 _ rfl
          have c3 := hcell 3 _ rfl
          have c4 := hcell 4 _ rfl
          have c5 := hcell 5 _ rfl
          have HC0 := Lib.hid c0
          have HC1 := Lib.hid c1
          have HC2 := Lib.hid c2
          have HC3 := Lib.hid c3
          have HC4 := Lib.hid c4
          have HC5 := Lib.hid c5
          have HPc := Lib.hid hpc0
          have HLb : Hid (lb < w6.heap.size) := Lib.hid (World.block_lt_of_cell? w6 _ c0)
          clear c0 c1 c2 c3 c4 c5 hpc0 hcell
          have hP7 : Pure w6 wr.drew := HPr.out.pure (Ext.refl _ _).drew
          go_wp2_with fail
          go_upto_region 11 with (fail)
          refine region_start (fun _ => False) (by kernel_rfl) ?_
          try simp only [Act.put, List.setIfInBounds_toArray, List.set_cons_zero, List.set_cons_succ]
          refine region_take 0 64 (v := ?vzc0) rfl rfl (by kernel_rfl) (by kernel_rfl) (by kernel_rfl) (fun _ _ _ h => h) (by rfl) (fun w' hS => ?hzc0) ?rzc0
          case hzc0 => go_simp; with_reducible rfl
          try simp only [Act.put, List.setIfInBounds_toArray, List.set_cons_zero, List.set_cons_succ]
          refine region_take 1 65 (v := ?vzc1) rfl rfl (by kernel_rfl) (by kernel_rfl) (by kernel_rfl) (fun _ _ _ h => h) (by rfl) (fun w' hS => ?hzc1) ?rzc1
          case hzc1 => go_simp; with_reducible rfl
          try simp only [Act.put, List.setIfInBounds_toArray, List.set_cons_zero, List.set_cons_succ]
          refine region_take 2 66 (v := ?vzc2) rfl rfl (by kernel_rfl) (by kernel_rfl) (by kernel_rfl) (fun _ _ _ h => h) (by rfl) (fun w' hS => ?hzc2) ?rzc2
          case hzc2 => go_simp; with_reducible rfl
          try simp only [Act.put, List.setIfInBounds_toArray, List.set_cons_zero, List.set_cons_succ]
          refine region_take 3 67 (v := ?vzc3) rfl rfl (by kernel_rfl) (by kernel_rfl) (by kernel_rfl) (fun _ _ _ h => h) (by rfl) (fun w' hS => ?hzc3) ?rzc3
          case hzc3 => go_simp; with_reducible rfl
          try simp only [Act.put, List.setIfInBounds_toArray, List.set_cons_zero, List.set_cons_succ]
          refine region_take 4 68 (v := ?vzc4) rfl rfl (by kernel_rfl) (by kernel_rfl) (by kernel_rfl) (fun _ _ _ h => h) (by rfl) (fun w' hS => ?hzc4) ?rzc4
          case hzc4 => (have e : w'.cell? ⟨lb, lo + k * 6 + 0, none⟩ = some (.int .i64 Rn) := (hP7.trans hS (fun _ _ => id)).cell_some HC0.out id; rw [Nat.add_zero] at e; go_simp; with_reducible rfl)
          try simp only [Act.put, List.setIfInBounds_toArray, List.set_cons_zero, List.set_cons_succ]
          refine region_take 5 69 (v := ?vzc5) rfl rfl (by kernel_rfl) (by kernel_rfl) (by kernel_rfl) (fun _ _ _ h => h) (by rfl) (fun w' hS => ?hzc5) ?rzc5
          case hzc5 => go_simp; with_reducible rfl
          try simp only [Act.put, List.setIfInBounds_toArray, List.set_cons_zero, List.set_cons_succ]
          refine region_take 6 70 (v := ?vzc6) rfl rfl (by kernel_rfl) (by kernel_rfl) (by kernel_rfl) (fun _ _ _ h => h) (by rfl) (fun w' hS => ?hzc6) ?rzc6
          case hzc6 => (have e : w'.cell? ⟨t3, 1, none⟩ = some (.slice (some ⟨pb, po, none⟩) pn pc) := (HT6.out.ext (hP7.trans hS (fun _ _ => id)) id).cell 1; go_simp; with_reducible rfl)
          try simp only [Act.put, List.setIfInBounds_toArray, List.set_cons_zero, List.set_cons_succ]
          refine region_take 7 71 (v := ?vzc7) rfl rfl (by kernel_rfl) (by kernel_rfl) (by kernel_rfl) (fun _ _ _ h => h) (by rfl) (fun w' hS => ?hzc7) ?rzc7
          case hzc7 => go_simp; with_reducible rfl
          try simp only [Act.put, List.setIfInBounds_toArray, List.set_cons_zero, List.set_cons_succ]
          refine region_take 8 72 (v := ?vzc8) rfl rfl (by kernel_rfl) (by kernel_rfl) (by kernel_rfl) (fun _ _ _ h => h) (by rfl) (fun w' hS => ?hzc8) ?rzc8
          case hzc8 => go_simp; with_reducible rfl
          try simp only [Act.put, List.setIfInBounds_toArray, List.set_cons_zero, List.set_cons_succ]
          refine region_take 9 73 (v := ?vzc9) rfl rfl (by kernel_rfl) (by kernel_rfl) (by kernel_rfl) (fun _ _ _ h => h) (by rfl) (fun w' hS => ?hzc9) ?rzc9
          case hzc9 => (have e : w'.cell? ⟨pb, po + k, none⟩ = some (.int .i64 Rn) := (hP7.trans hS (fun _ _ => id)).cell_some HPc.out id; go_simp; with_reducible rfl)
          try simp only [Act.put, List.setIfInBounds_toArray, List.set_cons_zero, List.set_cons_succ]
          refine region_take 10 74 (v := ?vzc10) rfl rfl (by kernel_rfl) (by kernel_rfl) (by kernel_rfl) (fun _ _ _ h => h) (by rfl) (fun w' hS => ?hzc10) ?rzc10
          case hzc10 => go_simp; with_reducible rfl
          try simp only [Act.put, List.setIfInBounds_toArray, List.set_cons_zero, List.set_cons_succ]
          refine wpAnyH_done (by kernel_rfl) ?_ _
          go_simp
          try simp only [Act.put, List.setIfInBounds_toArray, List.set_cons_zero, List.set_cons_succ]
          have HP7 := Lib.hid hP7
          clear hP7
          generalize wr.drew = w7 at *
          obtain ⟨zs, hzs, hgood⟩ := closP_good HDF.out HRnP.out HGd.out.good
          have HZs := Lib.hid hzs
          have HGood := Lib.hid hgood
          clear hzs hgood HPr
          unfold ClosTo at HClo
          go_wp2_with fail
          go_loopw [10] (fun x W => ∃ j : Nat, j ≤ pl ∧ x = .int .i64 j ∧ Hid (Pure w6 W)) (fun x _ => pl - (intOf x).toNat)
          case atStart => exact ⟨0, Nat.zero_le _, rfl, HP7⟩
          case round =>
            obtain ⟨j, hj, rfl, HP8⟩ := hrel
            have q1 : wr.cell? ⟨lb, lo + k * 6 + 1, none⟩ = some (.slice pta pl ptc) := HP8.out.cell_some HC1.out id
            by_cases hjl : j < pl
            · have hji : (j : Int) < (pl : Int) := by omega
              have hj0 : (0 : Int) ≤ (j : Int) := by omega
              have hjR : j < Rp.length := by rw [← HPl.out]; exact hjl
              obtain ⟨qb, qo, rfl, hqc⟩ := HPath.out j _ (intsV_get hjR)
              have HHas := Lib.hid (fun W (hP : Pure w6 W) => lawhas_any Rp[j] na nc T.nodes W (HRn6.out.ext hP (fun _ _ => id)) (by rw [← HNn.out]; omega))
              rw [← HNn.out, decide_eq_true (HPt.out _ (List.getElem_mem hjR))] at HHas
              generalize Rp[j] = y at *
              have HQc := Lib.hid hqc
              clear hqc hjR
              go_wp2_with fail
              go_upto_region 16 with (fail)
              have hP8 : Pure w6 wr.drew := HP8.out.pure (Ext.refl _ _).drew
              clear q1
              refine region_start (fun _ => False) (by kernel_rfl) ?_
              try simp only [Act.put, List.setIfInBounds_toArray, List.set_cons_zero, List.set_cons_succ]
              refine region_take 0 85 (v := ?vzd0) rfl rfl (by kernel_rfl) (by kernel_rfl) (by kernel_rfl) (fun _ _ _ h => h) (by rfl) (fun w' hS => ?hzd0) ?rzd0
              case hzd0 => go_simp; with_reducible rfl
              try simp only [Act.put, List.setIfInBounds_toArray, List.set_cons_zero, List.set_cons_succ]
              refine region_take 1 86 (v := ?vzd1) rfl rfl (by kernel_rfl) (by kernel_rfl) (by kernel_rfl) (fun _ _ _ h => h) (by rfl) (fun w' hS => ?hzd1) ?rzd1
              case hzd1 => (have e : w'.cell? ⟨t3, 0, none⟩ = some (.slice na nn nc) := (HT6.out.ext (hP8.trans hS (fun _ _ => id)) id).cell 0; go_simp; with_reducible rfl)
              try simp only [Act.put, List.setIfInBounds_toArray, List.set_cons_zero, List.set_cons_succ]
              refine region_take 2 87 (v := ?vzd2) rfl rfl (by kernel_rfl) (by kernel_rfl) (by kernel_rfl) (fun _ _ _ h => h) (by rfl) (fun w' hS => ?hzd2) ?rzd2
              case hzd2 => go_simp; with_reducible rfl
              try simp only [Act.put, List.setIfInBounds_toArray, List.set_cons_zero, List.set_cons_succ]
              refine region_take 3 88 (v := ?vzd3) rfl rfl (by kernel_rfl) (by kernel_rfl) (by kernel_rfl) (fun _ _ _ h => h) (by rfl) (fun w' hS => ?hzd3) ?rzd3
              case hzd3 => go_simp; with_reducible rfl
              try simp only [Act.put, List.setIfInBounds_toArray, List.set_cons_zero, List.set_cons_succ]
              refine region_take 4 89 (v := ?vzd4) rfl rfl (by kernel_rfl) (by kernel_rfl) (by kernel_rfl) (fun _ _ _ h => h) (by rfl) (fun w' hS => ?hzd4) ?rzd4
              case hzd4 => go_simp; with_reducible rfl
              try simp only [Act.put, List.setIfInBounds_toArray, List.set_cons_zero, List.set_cons_succ]
              refine region_take 5 90 (v := ?vzd5) rfl rfl (by kernel_rfl) (by kernel_rfl) (by kernel_rfl) (fun _ _ _ h => h) (by rfl) (fun w' hS => ?hzd5) ?rzd5
              case hzd5 => go_simp; with_reducible rfl
              try simp only [Act.put, List.setIfInBounds_toArray, List.set_cons_zero, List.set_cons_succ]
              refine region_take 6 91 (v := ?vzd6) rfl rfl (by kernel_rfl) (by kernel_rfl) (by kernel_rfl) (fun _ _ _ h => h) (by rfl) (fun w' hS => ?hzd6) ?rzd6
              case hzd6 => (have e : w'.cell? ⟨lb, lo + k * 6 + 1, none⟩ = some (.slice (some ⟨qb, qo, none⟩) pl ptc) := (hP8.trans hS (fun _ _ => id)).cell_some HC1.out id; go_simp; with_reducible rfl)
              try simp only [Act.put, List.setIfInBounds_toArray, List.set_cons_zero, List.set_cons_succ]
              refine region_take 7 92 (v := ?vzd7) rfl rfl (by kernel_rfl) (by kernel_rfl) (by kernel_rfl) (fun _ _ _ h => h) (by rfl) (fun w' hS => ?hzd7) ?rzd7
              case hzd7 => go_simp; with_reducible rfl
              try simp only [Act.put, List.setIfInBounds_toArray, List.set_cons_zero, List.set_cons_succ]
              refine region_take 8 93 (v := ?vzd8) rfl rfl (by kernel_rfl) (by kernel_rfl) (by kernel_rfl) (fun _ _ _ h => h) (by rfl) (fun w' hS => ?hzd8) ?rzd8
              case hzd8 => go_simp; with_reducible rfl
              try simp only [Act.put, List.setIfInBounds_toArray, List.set_cons_zero, List.set_cons_succ]
              refine region_take 9 94 (v := ?vzd9) rfl rfl (by kernel_rfl) (by kernel_rfl) (by kernel_rfl) (fun _ _ _ h => h) (by rfl) (fun w' hS => ?hzd9) ?rzd9
              case hzd9 => (have e : w'.cell? ⟨qb, qo + j, none⟩ = some (.int .i64 y) := (hP8.trans hS (fun _ _ => id)).cell_some HQc.out id; go_simp; with_reducible rfl)
              try simp only [Act.put, List.setIfInBounds_toArray, List.set_cons_zero, List.set_cons_succ]
              refine wpAnyH_ready (rs := [10]) (by kernel_rfl) (by simp) (AllReadyH.cons rfl (fun K hK => ?_) AllReadyH.nil)
              go_simp
              refine (HHas.out _ hP8).mono ?_
              rintro e wa ⟨rfl, hP⟩
              have hP8 := hP8.pure hP
              refine hK.out _ _ (hP) (fun hHeld => ?_)
              clear hK K hHeld
              refine region_now (hP) ?_
              try simp only [Act.put, List.setIfInBounds_toArray, List.set_cons_zero, List.set_cons_succ]
              refine region_take 11 96 (v := ?vzd11) rfl rfl (by kernel_rfl) (by kernel_rfl) (by kernel_rfl) (fun _ _ _ h => h) (by rfl) (fun w' hS => ?hzd11) ?rzd11
              case hzd11 => go_simp; with_reducible rfl
              try simp only [Act.put, List.setIfInBounds_toArray, List.set_cons_zero, List.set_cons_succ]
              refine wpAnyH_done (by kernel_rfl) ?_ _
              go_simp
              try simp only [Act.put, List.setIfInBounds_toArray, List.set_cons_zero, List.set_cons_succ]
              have HP9 := Lib.hid hP8
              clear hP8
              go_wp2_with fail
              go_roundw
              case rel => exact ⟨j + 1, by omega, by go_num, HP9⟩
              case measure => simp [intOf]; omega
            · have hji : ¬ (j : Int) < (pl : Int) := by omega
              have q0 : wr.cell? ⟨lb, lo + k * 6, none⟩ = some (.int .i64 Rn) := HP8.out.cell_some HC0.out id
              have q2 : wr.cell? ⟨lb, lo + k * 6 + 2, none⟩ = some (.int .i64 gk) := HP8.out.cell_some HC2.out id
              have q3 : wr.cell? ⟨lb, lo + k * 6 + 3, none⟩ = some (.int .i64 gn) := HP8.out.cell_some HC3.out id
              have q4 : wr.cell? ⟨lb, lo + k * 6 + 4, none⟩ = some (.string gs) := HP8.out.cell_some HC4.out id
              have q5 : wr.cell? ⟨lb, lo + k * 6 + 5, none⟩ = some (.slice ca gl cc) := HP8.out.cell_some HC5.out id
              have hlb : lb < wr.heap.size := Nat.lt_of_lt_of_le HLb.out HP8.out.size
              go_wp2_with fail
              refine (HClo.out wr HP8.out).mono ?_
              rintro e w9 ⟨ra, rc, xa, xc, xrows, rfl, hOr, _, _, _, hPf⟩
              have HP9 := Lib.hid (HP8.out.pure hPf)
              have HRr := Lib.hid (own_row hOr)
              have hmx := own_le hOr
              unfold maxLen at hmx
              rw [HZs.out] at HRr hmx ⊢
              obtain ⟨m, hm⟩ : ∃ z, z = (Rn :: zs).length := ⟨_, rfl⟩
              have hm0 : ((m : Int) == 0) = false := by rw [hm]; simp; omega
              have hm1 : 1 ≤ m := by rw [hm]; simp
              rw [← hm] at hmx ⊢
              have HM := Lib.hid hm
              clear hPf hOr hm q0 q1 q2 q3 q4 q5 hlb
              go_wp2_with fail
              go_loopw [15] (fun x W => ∃ i : Nat, 1 ≤ i ∧ i ≤ m ∧ x = .int .i64 i ∧ Hid (Pure w9 W)) (fun x _ => m - (intOf x).toNat)
              case atStart => exact ⟨1, Nat.le_refl _, hm1, rfl, Lib.hid (Ext.refl _ _)⟩
              case round =>
                obtain ⟨i, hi1, hi, rfl, HPi⟩ := hrel
                by_cases hil : i < m
                · have hii : (i : Int) < (m : Int) := by omega
                  have hi0 : (0 : Int) ≤ (i : Int) := by omega
                  have hiz : i - 1 < zs.length := by have := HM.out; rw [List.length_cons] at this; omega
                  have hie : (intsV (Rn :: zs))[i]? = some (.int .i64 zs[i - 1]) := by
                    have h1 := intsV_get (S := Rn :: zs) (k := i) (by rw [← HM.out]; exact hil)
                    rw [h1]
                    obtain ⟨i2, rfl⟩ : ∃ i2, i = i2 + 1 := ⟨i - 1, by omega⟩
                    rfl
                  obtain ⟨qb, qo, rfl, hqc⟩ := HRr.out i _ hie
                  have HGy := Lib.hid (HGood.out _ (List.getElem_mem hiz))
                  clear hie
                  generalize zs[i - 1] = y at *
                  have HHn := Lib.hid (fun W (hP : Pure w6 W) => lawhas_any y na nc T.nodes W (HRn6.out.ext hP (fun _ _ => id)) (by rw [← HNn.out]; omega))
                  have HHp := Lib.hid (fun W (hP : Pure w6 W) => lawhas_any y _ pc T.pages W (HRp6.out.ext hP (fun _ _ => id)) (by rw [HPp.out]; omega))
                  rw [← HNn.out, decide_eq_false (fun h => HGy.out.2.1 (Or.inl h))] at HHn
                  rw [HPp.out, decide_eq_false (fun h => HGy.out.2.1 (Or.inr h))] at HHp
                  have hyr : (y == root) = false := by simpa using HGy.out.1
                  have hyn : ¬ (n : Int) < y := by have := HGy.out.2.2; rw [← HN.out] at this; omega
                  have HYd : Hid (decide ((n : Int) < y) = false) := Lib.hid (decide_eq_false hyn)
                  have HQc := Lib.hid hqc
                  clear hqc hiz
                  go_wp2_with fail
                  go_upto_region 24 with (fail)
                  have hP6 : Pure w6 wr.drew := (HP9.out.pure HPi.out).pure (Ext.refl _ _).drew
                  have hP8 : Pure w9 wr.drew := HPi.out.pure (Ext.refl _ _).drew
                  refine region_start (fun _ => False) (by kernel_rfl) ?_
                  try simp only [Act.put, List.setIfInBounds_toArray, List.set_cons_zero, List.set_cons_succ]
                  refine region_take 0 121 (v := ?vze0) rfl rfl (by kernel_rfl) (by kernel_rfl) (by kernel_rfl) (fun _ _ _ h => h) (by rfl) (fun w' hS => ?hze0) ?rze0
                  case hze0 => go_simp; with_reducible rfl
                  try simp only [Act.put, List.setIfInBounds_toArray, List.set_cons_zero, List.set_cons_succ]
                  refine region_take 1 122 (v := ?vze1) rfl rfl (by kernel_rfl) (by kernel_rfl) (by kernel_rfl) (fun _ _ _ h => h) (by rfl) (fun w' hS => ?hze1) ?rze1
                  case hze1 => go_simp; with_reducible rfl
                  try simp only [Act.put, List.setIfInBounds_toArray, List.set_cons_zero, List.set_cons_succ]
                  refine region_take 2 123 (v := ?vze2) rfl rfl (by kernel_rfl) (by kernel_rfl) (by kernel_rfl) (fun _ _ _ h => h) (by rfl) (fun w' hS => ?hze2) ?rze2
                  case hze2 => go_simp; with_reducible rfl
                  try simp only [Act.put, List.setIfInBounds_toArray, List.set_cons_zero, List.set_cons_succ]
                  refine region_take 3 124 (v := ?vze3) rfl rfl (by kernel_rfl) (by kernel_rfl) (by kernel_rfl) (fun _ _ _ h => h) (by rfl) (fun w' hS => ?hze3) ?rze3
                  case hze3 => (have e : w'.cell? ⟨qb, qo + i, none⟩ = some (.int .i64 y) := (hP8.trans hS (fun _ _ => id)).cell_some HQc.out id; go_simp; with_reducible rfl)
                  try simp only [Act.put, List.setIfInBounds_toArray, List.set_cons_zero, List.set_cons_succ]
                  refine region_take 4 125 (v := ?vze4) rfl rfl (by kernel_rfl) (by kernel_rfl) (by kernel_rfl) (fun _ _ _ h => h) (by rfl) (fun w' hS => ?hze4) ?rze4
                  case hze4 => go_simp; with_reducible rfl
                  try simp only [Act.put, List.setIfInBounds_toArray, List.set_cons_zero, List.set_cons_succ]
                  refine region_take 5 126 (v := ?vze5) rfl rfl (by kernel_rfl) (by kernel_rfl) (by kernel_rfl) (fun _ _ _ h => h) (by rfl) (fun w' hS => ?hze5) ?rze5
                  case hze5 => (have e : w'.cell? ⟨tb, 1, none⟩ = some (.int .i64 root) := (HB6.out.ext (hP6.trans hS (fun _ _ => id)) id).cell 1; go_simp; with_reducible rfl)
                  try simp only [Act.put, List.setIfInBounds_toArray, List.set_cons_zero, List.set_cons_succ]
                  refine region_take 6 127 (v := ?vze6) rfl rfl (by kernel_rfl) (by kernel_rfl) (by kernel_rfl) (fun _ _ _ h => h) (by rfl) (fun w' hS => ?hze6) ?rze6
                  case hze6 => go_simp; with_reducible rfl
                  try simp only [Act.put, List.setIfInBounds_toArray, List.set_cons_zero, List.set_cons_succ]
                  refine region_take 7 128 (v := ?vze7) rfl rfl (by kernel_rfl) (by kernel_rfl) (by kernel_rfl) (fun _ _ _ h => h) (by rfl) (fun w' hS => ?hze7) ?rze7
                  case hze7 => go_simp; with_reducible rfl
                  try simp only [Act.put, List.setIfInBounds_toArray, List.set_cons_zero, List.set_cons_succ]
                  refine region_take 8 129 (v := ?vze8) rfl rfl (by kernel_rfl) (by kernel_rfl) (by kernel_rfl) (fun _ _ _ h => h) (by rfl) (fun w' hS => ?hze8) ?rze8
                  case hze8 => go_simp; with_reducible rfl
                  try simp only [Act.put, List.setIfInBounds_toArray, List.set_cons_zero, List.set_cons_succ]
                  refine region_take 9 130 (v := ?vze9) rfl rfl (by kernel_rfl) (by kernel_rfl) (by kernel_rfl) (fun _ _ _ h => h) (by rfl) (fun w' hS => ?hze9) ?rze9
                  case hze9 => go_simp; with_reducible rfl
                  try simp only [Act.put, List.setIfInBounds_toArray, List.set_cons_zero, List.set_cons_succ]
                  refine region_take 10 131 (v := ?vze10) rfl rfl (by kernel_rfl) (by kernel_rfl) (by kernel_rfl) (fun _ _ _ h => h) (by rfl) (fun w' hS => ?hze10) ?rze10
                  case hze10 => go_simp; with_reducible rfl
                  try simp only [Act.put, List.setIfInBounds_toArray, List.set_cons_zero, List.set_cons_succ]
                  refine region_take 11 132 (v := ?vze11) rfl rfl (by kernel_rfl) (by kernel_rfl) (by kernel_rfl) (fun _ _ _ h => h) (by rfl) (fun w' hS => ?hze11) ?rze11
                  case hze11 => (have e : w'.cell? ⟨qb, qo + i, none⟩ = some (.int .i64 y) := (hP8.trans hS (fun _ _ => id)).cell_some HQc.out id; go_simp; with_reducible rfl)
                  try simp only [Act.put, List.setIfInBounds_toArray, List.set_cons_zero, List.set_cons_succ]
                  refine region_take 12 133 (v := ?vze12) rfl rfl (by kernel_rfl) (by kernel_rfl) (by kernel_rfl) (fun _ _ _ h => h) (by rfl) (fun w' hS => ?hze12) ?rze12
                  case hze12 => go_simp; with_reducible rfl
                  try simp only [Act.put, List.setIfInBounds_toArray, List.set_cons_zero, List.set_cons_succ]
                  refine region_take 13 134 (v := ?vze13) rfl rfl (by kernel_rfl) (by kernel_rfl) (by kernel_rfl) (fun _ _ _ h => h) (by rfl) (fun w' hS => ?hze13) ?rze13
                  case hze13 => (have e : w'.cell? ⟨tb, 0, none⟩ = some (.slice oa n oc) := (HB6.out.ext (hP6.trans hS (fun _ _ => id)) id).cell 0; go_simp; with_reducible rfl)
                  try simp only [Act.put, List.setIfInBounds_toArray, List.set_cons_zero, List.set_cons_succ]
                  refine region_take 14 135 (v := ?vze14) rfl rfl (by kernel_rfl) (by kernel_rfl) (by kernel_rfl) (fun _ _ _ h => h) (by rfl) (fun w' hS => ?hze14) ?rze14
                  case hze14 => go_simp; with_reducible rfl
                  try simp only [Act.put, List.setIfInBounds_toArray, List.set_cons_zero, List.set_cons_succ]
                  refine region_take 15 136 (v := ?vze15) rfl rfl (by kernel_rfl) (by kernel_rfl) (by kernel_rfl) (fun _ _ _ h => h) (by rfl) (fun w' hS => ?hze15) ?rze15
                  case hze15 => (have e := HYd.out; go_simp; with_reducible rfl)
                  try simp only [Act.put, List.setIfInBounds_toArray, List.set_cons_zero, List.set_cons_succ]
                  refine region_take 16 137 (v := ?vze16) rfl rfl (by kernel_rfl) (by kernel_rfl) (by kernel_rfl) (fun _ _ _ h => h) (by rfl) (fun w' hS => ?hze16) ?rze16
                  case hze16 => go_simp; with_reducible rfl
                  try simp only [Act.put, List.setIfInBounds_toArray, List.set_cons_zero, List.set_cons_succ]
                  refine region_take 17 138 (v := ?vze17) rfl rfl (by kernel_rfl) (by kernel_rfl) (by kernel_rfl) (fun _ _ _ h => h) (by rfl) (fun w' hS => ?hze17) ?rze17
                  case hze17 => go_simp; with_reducible rfl
                  try simp only [Act.put, List.setIfInBounds_toArray, List.set_cons_zero, List.set_cons_succ]
                  refine region_take 18 139 (v := ?vze18) rfl rfl (by kernel_rfl) (by kernel_rfl) (by kernel_rfl) (fun _ _ _ h => h) (by rfl) (fun w' hS => ?hze18) ?rze18
                  case hze18 => go_simp; with_reducible rfl
                  try simp only [Act.put, List.setIfInBounds_toArray, List.set_cons_zero, List.set_cons_succ]
                  refine region_take 19 140 (v := ?vze19) rfl rfl (by kernel_rfl) (by kernel_rfl) (by kernel_rfl) (fun _ _ _ h => h) (by rfl) (fun w' hS => ?hze19) ?rze19
                  case hze19 => (have e : w'.cell? ⟨t3, 0, none⟩ = some (.slice na nn nc) := (HT6.out.ext (hP6.trans hS (fun _ _ => id)) id).cell 0; go_simp; with_reducible rfl)
                  try simp only [Act.put, List.setIfInBounds_toArray, List.set_cons_zero, List.set_cons_succ]
                  refine region_take 20 141 (v := ?vze20) rfl rfl (by kernel_rfl) (by kernel_rfl) (by kernel_rfl) (fun _ _ _ h => h) (by rfl) (fun w' hS => ?hze20) ?rze20
                  case hze20 => go_simp; with_reducible rfl
                  try simp only [Act.put, List.setIfInBounds_toArray, List.set_cons_zero, List.set_cons_succ]
                  refine region_take 21 142 (v := ?vze21) rfl rfl (by kernel_rfl) (by kernel_rfl) (by kernel_rfl) (fun _ _ _ h => h) (by rfl) (fun w' hS => ?hze21) ?rze21
                  case hze21 => go_simp; with_reducible rfl
                  try simp only [Act.put, List.setIfInBounds_toArray, List.set_cons_zero, List.set_cons_succ]
                  refine region_take 22 143 (v := ?vze22) rfl rfl (by kernel_rfl) (by kernel_rfl) (by kernel_rfl) (fun _ _ _ h => h) (by rfl) (fun w' hS => ?hze22) ?rze22
                  case hze22 => go_simp; with_reducible rfl
                  try simp only [Act.put, List.setIfInBounds_toArray, List.set_cons_zero, List.set_cons_succ]
                  refine region_take 23 144 (v := ?vze23) rfl rfl (by kernel_rfl) (by kernel_rfl) (by kernel_rfl) (fun _ _ _ h => h) (by rfl) (fun w' hS => ?hze23) ?rze23
                  case hze23 => (have e : w'.cell? ⟨qb, qo + i, none⟩ = some (.int .i64 y) := (hP8.trans hS (fun _ _ => id)).cell_some HQc.out id; go_simp; with_reducible rfl)
                  try simp only [Act.put, List.setIfInBounds_toArray, List.set_cons_zero, List.set_cons_succ]
                  refine wpAnyH_ready (rs := [24]) (by kernel_rfl) (by simp) (AllReadyH.cons rfl (fun K hK => ?_) AllReadyH.nil)
                  go_simp
                  refine (HHn.out _ hP6).mono ?_
                  rintro e wa ⟨rfl, hP⟩
                  have hP6 := hP6.pure hP
                  have hP8 := hP8.pure hP
                  refine hK.out _ _ (hP) (fun hHeld => ?_)
                  clear hK K hHeld
                  refine region_now (hP) ?_
                  try simp only [Act.put, List.setIfInBounds_toArray, List.set_cons_zero, List.set_cons_succ]
                  refine region_take 25 146 (v := ?vze25) rfl rfl (by kernel_rfl) (by kernel_rfl) (by kernel_rfl) (fun _ _ _ h => h) (by rfl) (fun w' hS => ?hze25) ?rze25
                  case hze25 => go_simp; with_reducible rfl
                  try simp only [Act.put, List.setIfInBounds_toArray, List.set_cons_zero, List.set_cons_succ]
                  refine region_take 26 147 (v := ?vze26) rfl rfl (by kernel_rfl) (by kernel_rfl) (by kernel_rfl) (fun _ _ _ h => h) (by rfl) (fun w' hS => ?hze26) ?rze26
                  case hze26 => go_simp; with_reducible rfl
                  try simp only [Act.put, List.setIfInBounds_toArray, List.set_cons_zero, List.set_cons_succ]
                  refine region_take 27 148 (v := ?vze27) rfl rfl (by kernel_rfl) (by kernel_rfl) (by kernel_rfl) (fun _ _ _ h => h) (by rfl) (fun w' hS => ?hze27) ?rze27
                  case hze27 => go_simp; with_reducible rfl
                  try simp only [Act.put, List.setIfInBounds_toArray, List.set_cons_zero, List.set_cons_succ]
                  refine region_take 28 149 (v := ?vze28) rfl rfl (by kernel_rfl) (by kernel_rfl) (by kernel_rfl) (fun _ _ _ h => h) (by rfl) (fun w' hS => ?hze28) ?rze28
                  case hze28 => (have e : w'.cell? ⟨t3, 1, none⟩ = some (.slice (some ⟨pb, po, none⟩) pn pc) := (HT6.out.ext (hP6.trans hS (fun _ _ => id)) id).cell 1; go_simp; with_reducible rfl)
                  try simp only [Act.put, List.setIfInBounds_toArray, List.set_cons_zero, List.set_cons_succ]
                  refine region_take 29 150 (v := ?vze29) rfl rfl (by kernel_rfl) (by kernel_rfl) (by kernel_rfl) (fun _ _ _ h => h) (by rfl) (fun w' hS => ?hze29) ?rze29
                  case hze29 => go_simp; with_reducible rfl
                  try simp only [Act.put, List.setIfInBounds_toArray, List.set_cons_zero, List.set_cons_succ]
                  refine region_take 30 151 (v := ?vze30) rfl rfl (by kernel_rfl) (by kernel_rfl) (by kernel_rfl) (fun _ _ _ h => h) (by rfl) (fun w' hS => ?hze30) ?rze30
                  case hze30 => go_simp; with_reducible rfl
                  try simp only [Act.put, List.setIfInBounds_toArray, List.set_cons_zero, List.set_cons_succ]
                  refine region_take 31 152 (v := ?vze31) rfl rfl (by kernel_rfl) (by kernel_rfl) (by kernel_rfl) (fun _ _ _ h => h) (by rfl) (fun w' hS => ?hze31) ?rze31
                  case hze31 => go_simp; with_reducible rfl
                  try simp only [Act.put, List.setIfInBounds_toArray, List.set_cons_zero, List.set_cons_succ]
                  refine region_take 32 153 (v := ?vze32) rfl rfl (by kernel_rfl) (by kernel_rfl) (by kernel_rfl) (fun _ _ _ h => h) (by rfl) (fun w' hS => ?hze32) ?rze32
                  case hze32 => (have e : w'.cell? ⟨qb, qo + i, none⟩ = some (.int .i64 y) := (hP8.trans hS (fun _ _ => id)).cell_some HQc.out id; go_simp; with_reducible rfl)
                  try simp only [Act.put, List.setIfInBounds_toArray, List.set_cons_zero, List.set_cons_succ]
                  refine wpAnyH_ready (rs := [33]) (by kernel_rfl) (by simp) (AllReadyH.cons rfl (fun K hK => ?_) AllReadyH.nil)
                  go_simp
                  refine (HHp.out _ hP6).mono ?_
                  rintro e wa ⟨rfl, hP⟩
                  have hP6 := hP6.pure hP
                  have hP8 := hP8.pure hP
                  refine hK.out _ _ (hP) (fun hHeld => ?_)
                  clear hK K hHeld
                  refine region_now (hP) ?_
                  try simp only [Act.put, List.setIfInBounds_toArray, List.set_cons_zero, List.set_cons_succ]
                  refine region_take 34 155 (v := ?vze34) rfl rfl (by kernel_rfl) (by kernel_rfl) (by kernel_rfl) (fun _ _ _ h => h) (by rfl) (fun w' hS => ?hze34) ?rze34
                  case hze34 => go_simp; with_reducible rfl
                  try simp only [Act.put, List.setIfInBounds_toArray, List.set_cons_zero, List.set_cons_succ]
                  refine wpAnyH_done (by kernel_rfl) ?_ _
                  go_simp
                  try simp only [Act.put, List.setIfInBounds_toArray, List.set_cons_zero, List.set_cons_succ]
                  have HPj := Lib.hid hP8
                  clear hP8 hP6
                  go_wp2_with fail
                  go_roundw
                  case rel => exact ⟨i + 1, by omega, by omega, by go_num, HPj⟩
                  case measure => simp [intOf]; omega
                · have hii : ¬ (i : Int) < (m : Int) := by omega
                  have HPk := Lib.hid (HP9.out.pure HPi.out)
                  go_wp2_with fail
                  go_roundw
                  case rel => exact ⟨k + 1, by omega, by go_num, HPk⟩
                  case measure => simp [intOf]; omega
        · have hki : ¬ (k : Int) < (pn : Int) := by omega
          go_wp2_with fail
          refine (works_any _).mono ?_
          rintro e wz ⟨rfl, hPz⟩
          go_wp2_with fail
          go_ret
          exact ⟨rfl, ((HP6.out.pure HPr.out).pure hPz).below⟩
    · have hEb : (E == 0) = false := by simpa using hE
      clear HWk HLvs HZ
      go_enter Try.func6, Try.ntmps6
      go_wp2_with fail
      rw [HWo.out, ← HTb.out]
      go_wp2_with fail
      refine (HFw.out wo HPwo.out).mono ?_
      rintro e w1 ⟨rfl, hPf⟩
      have HP1 := Lib.hid (HPwo.out.pure hPf)
      have HB1 := Lib.hid (HBd.out.ext hPf id)
      clear hPf
      have e0 : w1.cell? ⟨tb, 0, none⟩ = some (.slice oa n oc) := HB1.out.cell 0
      have e1 : w1.cell? ⟨tb, 1, none⟩ = some (.int .i64 root) := HB1.out.cell 1
      have hb1 : tb < w1.heap.size := World.block_lt_of_cell? w1 _ e0
      go_wp2_with fail
      refine (HDc.out w1 HP1.out).mono ?_
      rintro e w2 ⟨rfl, hPf⟩
      have HP2 := Lib.hid (HP1.out.pure hPf)
      clear hPf
      go_wp2_with fail
      refine (works_any _).mono ?_
      rintro e wz ⟨rfl, hPz⟩
      go_wp2_with fail
      go_ret
      exact ⟨rfl, (HP2.out.pure hPz).below⟩

set_option maxRecDepth 100000 in
theorem lifted (os : Os) (started : os.Started) (H : Type) (enc : TypeId × Value → H) :
    ReturnsInHanded {} Try.checked os 6 .any (Rows.checkPagesSpec.pre6 enc Try.prog Try.f6 Rows.checkPagesRow.domain false) (Rows.checkPagesSpec.post enc Try.prog Try.f6 false true false false) := by
  refine returnsInHanded_of_change (C := Try.checked) own started (by kernel_rfl) Try.func6
    (ChangeSpec.witness6 (enc := enc) (C := Try.checked) false ⟨#[], #[.agg #[.slice none 0 0, .int .i64 0]], []⟩ 8 (by kernel_rfl) (by kernel_rfl) (by kernel_rfl) (by kernel_rfl)) ?_
  intro W base args ds gs before hval0 hW hcnd _
  have hval : ∀ (j : Nat) t v, Try.f6.params[j]? = some t → args[j]? = some v → Value.okWide Try.prog W .any base t v := hval0
  have hW' := hW
  obtain ⟨p, q, hA0, hV, rfl, hfz, hnd⟩ := hW
  have hA : DataW.TrodAll enc Try.prog W 0 (fun _ => true) true Try.f6.params.toList args.toList ds p := hA0
  rw [Try.params6] at hA hval
  obtain ⟨v0, vs0, d0, ds0, p0, q0, hargs, rfl, rfl, h0, r0⟩ := trodAll_cons hA
  obtain ⟨rfl, rfl, rfl⟩ := trodAll_nil r0
  obtain rfl : args = #[v0] := by cases args; simp_all
  obtain ⟨rfl, rfl⟩ := trodVars_none hV
  have k0 := h0
  have lt0 : ∀ x ∈ p0, x.block < W.heap.size := by obtain ⟨m, hm⟩ := k0; exact DataW.trod_lt m _ _ _ hm
  obtain ⟨F0, objs, oa, oc, rows, root, rfl, hOK0, hoc0, hcm0, hwf0, _, hr0⟩ := open_doc (hval 0 24 v0 rfl rfl) h0
  clear hA0 hval0
  refine (walk F0 objs oa oc rows root W hOK0 hoc0 hcm0 hwf0 hr0).mono fun e W' ⟨he, bel⟩ => ?_
  subst he
  exact ⟨_, rfl, _, _, _, [], _, [], hW', trodAll_mk1 (shut_bool Try.underlying4 _), (trodAll_cons_mk (Below.trod laidOut (by kernel_rfl) (of_decide_eq_true (by kernel_rfl)) k0 bel lt0) trodAll_mk0), rfl, bel.frame _, fun h => by cases h⟩

theorem proved : Rows.CheckPagesSaid :=
  OpenClaim.holds_of_wide 6 Try.f6 rfl rfl rfl rfl rfl rfl rfl ⟨rfl, rfl, rfl, rfl, rfl⟩ rfl rfl rfl rfl rfl (by kernel_rfl) Try.func6 (by kernel_rfl)
    (of_decide_eq_true (by kernel_rfl)) (by unfold Func.isWrapper; first | (rw [if_pos (by decide +kernel)]; kernel_rfl) | (rw [if_neg (by decide +kernel)]; exact ⟨rfl, rfl⟩))
    (fun os started H enc _ => lifted os started H enc)
#print axioms proved
end Go.Proofs.Ytkkmppalifjgnaa.checkPages
