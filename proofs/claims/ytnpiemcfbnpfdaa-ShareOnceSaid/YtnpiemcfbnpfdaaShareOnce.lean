/-
  ShareOnce: of a Doc that may be written each number is in just one part, once; the first part begins with a page, and so does each page's own. No condition.
-/
import Derived.Test.YtnpiemcfbnpfdaaOnceW
import Derived.Test.YtnpiemcfbnpfdaaOpenS
import Derived.OwnWalk
namespace Go.Proofs.Ytnpiemcfbnpfdaa.shareOnce
open Go.ChangeShapes Go.WideShapes Go.ChangeAt Go.RowKit Go.Proofs.Ytnpiemcfbnpfdaa
set_option linter.unusedVariables false
set_option linter.unusedSimpArgs false

set_option maxHeartbeats 8000000 in
set_option maxRecDepth 100000 in
theorem walk (F0 : Nat) (objs : List Ob) (oa : Option Addr) (oc : Nat) (rows : List (List Value)) (root : Int) (w : World)
    (hOK : OKids w F0 objs oa rows) (hoc : objs.length ≤ oc) (hcm : oc ≤ maxLen) (hwf : ∀ u ∈ objs, u.data.size ≤ maxLen ∧ u.v.wf) (hr : (Lit.int .i64 root).wf = true) :
    Calls Try.prog 4 #[.agg #[.slice oa objs.length oc, .int .i64 root]] w fun e w' => e = .returned (.bool true) ∧ Below w.heap.size w w' := by
  have HFw := Lib.hid (fun W (hP : Pure w W) => fewo_any F0 objs oa oc rows 40 W (hOK.pure hP) hoc hcm)
  have h80 : fewO objs 40 = true → fewO objs 80 = true := fun hf => by
    unfold fewO at hf ⊢
    rw [Bool.and_eq_true, decide_eq_true_eq] at hf ⊢
    exact ⟨by omega, hf.2⟩
  have HDok := Lib.hid (fun (hf : fewO objs 40 = true) => few_docok hOK hwf hr (h80 hf))
  have HSz := Lib.hid (fun (hf : fewO objs 40 = true) => few_sizes (h80 hf))
  have HDs := Lib.hid (fun u hu => (hwf u hu).1)
  obtain ⟨n, hn⟩ : ∃ z, z = objs.length := ⟨_, rfl⟩
  obtain ⟨fw, hfw⟩ : ∃ z, z = fewO objs 40 := ⟨_, rfl⟩
  rw [← hn, ← hfw] at HFw
  rw [← hfw] at HDok HSz
  rw [← hn]
  have HN := Lib.hid hn
  clear hOK hwf hn hfw hoc hcm hr h80
  obtain ⟨wo, hwo⟩ : ∃ z, z = w.alloc (.cells #[.slice oa n oc, .int .i64 root] 38) := ⟨_, rfl⟩
  obtain ⟨tb, htb⟩ : ∃ z, z = w.heap.size := ⟨_, rfl⟩
  have HPwo : Hid (Pure w wo) := Lib.hid (by rw [hwo]; exact ext_alloc w _)
  have HBd : Hid (BlockIs wo tb [.slice oa n oc, .int .i64 root] 38) := Lib.hid (by rw [hwo, htb]; exact BlockIs.new w [.slice oa n oc, .int .i64 root] 38)
  have HWo : Hid (w.alloc (.cells #[.slice oa n oc, .int .i64 root] 38) = wo) := Lib.hid hwo.symm
  have HTb := Lib.hid htb
  have d0 : wo.cell? ⟨tb, 0, none⟩ = some (.slice oa n oc) := HBd.out.cell 0
  clear hwo htb
  cases fw with
  | false =>
    clear HDok HSz
    go_enter Try.func4, Try.ntmps4
    go_wp2_with fail
    rw [HWo.out, ← HTb.out]
    go_wp2_with fail
    refine (HFw.out wo HPwo.out).mono ?_
    rintro e wf ⟨rfl, hPf⟩
    have HPf := Lib.hid (HPwo.out.pure hPf)
    clear hPf
    go_wp2_with fail
    refine (works_any _).mono ?_
    rintro e wz ⟨rfl, hPz⟩
    go_wp2_with fail
    go_ret
    exact ⟨rfl, (HPf.out.pure hPz).below⟩
  | true =>
    have HD := Lib.hid (HDok.out rfl)
    have HZ := Lib.hid (HSz.out rfl)
    have HDc := Lib.hid (fun W (hP : Pure w W) => doc_any F0 objs oa oc rows root W (HD.out.pure hP) HDs.out)
    have HGd := Lib.hid (fun (hE : docE objs root = 0) => good_doc hE HZ.out (fun i => HD.out.at_wf i))
    have HSp0 := Lib.hid (fun (hE : docE objs root = 0) T n0 kids q Rs (hG : GoodW objs root T n0 kids q Rs) W (hP : Pure w W) => splitg_any (oc := oc) (HD.out.pure hP) HDs.out hE hG)
    have HWk0 := Lib.hid (fun W (hP : Pure w W) => walk_docs F0 objs oa oc rows root W (HD.out.pure hP))
    obtain ⟨E, hE⟩ : ∃ z, z = docE objs root := ⟨_, rfl⟩
    rw [← hE] at HDc
    rw [← HN.out] at HDc
    rw [← hE] at HGd HSp0
    rw [← HN.out] at HSp0
    rw [← HN.out] at HWk0
    clear HDok HSz HDs hE
    by_cases hE : E = 0
    · subst hE
      obtain ⟨T, n0, kids, q, Rs, hG⟩ := HGd.out rfl
      have HSp := Lib.hid (HSp0.out rfl T n0 kids q Rs hG)
      rw [hG.walk] at HWk0
      have HG := Lib.hid hG
      obtain ⟨p, hp⟩ : ∃ z, z = partsP n T.nodes root (rowsL objs Rs) := ⟨_, rfl⟩
      rw [← hp] at HSp
      have hn4 : n ≤ 4094 := by rw [HN.out]; exact hG.good.len
      have HMem : Hid (∀ x, x ∈ p.all ↔ 1 ≤ x ∧ x ≤ (n : Int)) := Lib.hid (fun x => by rw [hp, HN.out]; exact hG.good.mem x)
      have HNd : Hid (p.all.Nodup) := Lib.hid (by rw [hp, HN.out]; exact hG.good.nodup)
      have HOw : Hid (∀ k, k + 1 < Rs.length → ∃ zs hq, p.own[k]? = some (T.pages[k + 1]'hq :: zs)) := Lib.hid (fun k hk => by rw [hp, HN.out]; exact hG.good.own k hk)
      have HFi : Hid (∃ zs hq, p.first = T.pages[0]'hq :: zs) := Lib.hid (by rw [hp, HN.out]; exact hG.good.first)
      have HOl : Hid (p.own.length + 1 = T.pages.length) := Lib.hid (by rw [hp, HN.out]; exact hG.good.own_len)
      have HRp := Lib.hid hG.good.pages
      unfold WkTo at HWk0
      unfold SplitTo at HSp
      simp only at HWk0
      obtain ⟨tn, htn⟩ : ∃ z, z = T.nodes.length := ⟨_, rfl⟩
      obtain ⟨pn, hpn⟩ : ∃ z, z = T.pages.length := ⟨_, rfl⟩
      rw [← htn, ← hpn] at HWk0
      rw [← hpn] at HOl HRp
      have HPn := Lib.hid hpn
      have hpn5 : pn ≤ n := by have h1 := hG.good.fine.tok.len; rw [← HN.out, ← hpn] at h1; omega
      have HAl : Hid (p.all.length ≤ n) := Lib.hid (by
        have h1 := nodup_sub (ys := (List.range n).map (fun i : Nat => (i : Int) + 1)) HNd.out (fun x hx => by
          have := (HMem.out x).1 hx
          exact List.mem_map.2 ⟨(x - 1).toNat, List.mem_range.2 (by omega), by omega⟩)
        rwa [List.length_map, List.length_range] at h1)
      clear hG hp htn hpn HGd HSp0
      go_enter Try.func4, Try.ntmps4
      go_wp2_with fail
      rw [HWo.out, ← HTb.out]
      go_wp2_with fail
      refine (HFw.out wo HPwo.out).mono ?_
      rintro e w1 ⟨rfl, hPf⟩
      have HP1 := Lib.hid (HPwo.out.pure hPf)
      have HB1 := Lib.hid (HBd.out.ext hPf id)
      clear hPf
      have e0 : w1.cell? ⟨tb, 0, none⟩ = some (.slice oa n oc) := HB1.out.cell 0
      have e1 : w1.cell? ⟨tb, 1, none⟩ = some (.int .i64 root) := HB1.out.cell 1
      have hb1 : tb < w1.heap.size := HB1.out.lt
      go_wp2_with fail
      refine (HDc.out w1 HP1.out).mono ?_
      rintro e w2 ⟨rfl, hPf⟩
      have HP2 := Lib.hid (HP1.out.pure hPf)
      have HB2 := Lib.hid (HB1.out.ext hPf id)
      clear hPf e0 e1 hb1
      have e0 : w2.cell? ⟨tb, 0, none⟩ = some (.slice oa n oc) := HB2.out.cell 0
      have e1 : w2.cell? ⟨tb, 1, none⟩ = some (.int .i64 root) := HB2.out.cell 1
      have hb1 : tb < w2.heap.size := HB2.out.lt
      go_wp2_with fail
      refine (HSp.out w2 HP2.out).mono ?_
      rintro e w3 ⟨a0, a1, a2, a3, a4, m0, m1, m2, m3, m4, c0, c1, c2, c3, c4, rfl, H, hPf⟩
      have HP3 := Lib.hid (HP2.out.pure hPf)
      have HB3 := Lib.hid (HB2.out.ext hPf id)
      clear hPf e0 e1 hb1
      obtain ⟨w4, hw4⟩ : ∃ z, z = w3.alloc (.cells #[.slice a0 m0 c0, .slice a1 m1 c1, .slice a2 m2 c2, .slice a3 m3 c3, .slice a4 m4 c4] 26) := ⟨_, rfl⟩
      have hP4 : Pure w3 w4 := by rw [hw4]; exact ext_alloc w3 _
      have HS4 : Hid (BlockIs w4 w3.heap.size [.slice a0 m0 c0, .slice a1 m1 c1, .slice a2 m2 c2, .slice a3 m3 c3, .slice a4 m4 c4] 26) := Lib.hid (by rw [hw4]; exact BlockIs.new w3 _ _)
      have HP4 := Lib.hid (HP3.out.pure hP4)
      have HB4 := Lib.hid (HB3.out.ext hP4 id)
      have HH4 := Lib.hid (H.pure hP4)
      have HW4 : Hid (w3.alloc (.cells #[.slice a0 m0 c0, .slice a1 m1 c1, .slice a2 m2 c2, .slice a3 m3 c3, .slice a4 m4 c4] 26) = w4) := Lib.hid hw4.symm
      obtain ⟨sb, hsb⟩ : ∃ z, z = w3.heap.size := ⟨_, rfl⟩
      rw [← hsb] at HS4
      have HSb := Lib.hid hsb.symm
      clear hw4 hP4 H hsb HB3
      have e0 : w4.cell? ⟨tb, 0, none⟩ = some (.slice oa n oc) := HB4.out.cell 0
      have e1 : w4.cell? ⟨tb, 1, none⟩ = some (.int .i64 root) := HB4.out.cell 1
      have hb1 : tb < w4.heap.size := HB4.out.lt
      go_upto_region 4 with (fail)
      rw [HW4.out, HSb.out]
      go_wp2_with fail
      refine (HWk0.out w4 HP4.out).mono ?_
      rintro e w5 ⟨na, nc, pa, pc, rfl, hPf, hRn, hRp, _, _, _, hpn0, _, _, hpc, hpcm⟩
      have HP5 := Lib.hid (HP4.out.pure hPf)
      have HB5 := Lib.hid (HB4.out.ext hPf id)
      have HS5 := Lib.hid (HS4.out.ext hPf id)
      have HH5 := Lib.hid (HH4.out.pure hPf)
      have HRp5 := Lib.hid hRp
      clear hPf hRn hRp hpn0 hpc hpcm e0 e1 hb1
      obtain ⟨w6, hw6⟩ : ∃ z, z = w5.alloc (.cells #[.slice na tn nc, .slice pa pn pc] 29) := ⟨_, rfl⟩
      have hP6 : Pure w5 w6 := by rw [hw6]; exact ext_alloc w5 _
      have HT6 : Hid (BlockIs w6 w5.heap.size [.slice na tn nc, .slice pa pn pc] 29) := Lib.hid (by rw [hw6]; exact BlockIs.new w5 _ _)
      have HP6 := Lib.hid (HP5.out.pure hP6)
      have HB6 := Lib.hid (HB5.out.ext hP6 id)
      have HS6 := Lib.hid (HS5.out.ext hP6 id)
      have HO6 := Lib.hid (HH5.out.pure hP6).opened
      have HRp6 := Lib.hid (HRp5.out.ext hP6 (fun _ _ => id))
      have HW6 : Hid (w5.alloc (.cells #[.slice na tn nc, .slice pa pn pc] 29) = w6) := Lib.hid hw6.symm
      obtain ⟨kb, hkb⟩ : ∃ z, z = w5.heap.size := ⟨_, rfl⟩
      rw [← hkb] at HT6
      have HKb := Lib.hid hkb.symm
      clear hw6 hP6 hkb HB4 HB5 HS4 HS5 HH4 HH5 HRp5
      go_upto_region 5 with (fail)
      rw [HW6.out, HKb.out]
      obtain ⟨⟨hm0, ht⟩, ⟨hm1, hf⟩, ⟨rs, hm2, hl, hrw, hq⟩, ⟨hm3, hs⟩, ⟨hm4, hh⟩⟩ := HO6.out
      have hpm : pn = m2 + 1 := by rw [hm2, ← lsR_len, hl]; exact HOl.out.symm
      subst hpm
      obtain ⟨fz, hfq, hfe⟩ := HFi.out
      have hm1p : 0 < m1 := by rw [hm1, hfe]; simp
      have hm1z : ((m1 : Int) == 0) = false := beq_eq_false_iff_ne.2 (by omega)
      have hpp : 0 < m2 + 1 := Nat.succ_pos _
      obtain ⟨fb, fo, rfl, hfc⟩ := hf.1 0 (.int .i64 (T.pages[0]'hfq)) (by rw [hfe]; rfl)
      obtain ⟨pb, po, rfl, hpc⟩ := HRp6.out 0 (.int .i64 (T.pages[0]'hfq)) (intsV_get hfq)
      obtain ⟨x0, hx0⟩ : ∃ z, z = T.pages[0]'hfq := ⟨_, rfl⟩
      rw [← hx0] at hfc hpc
      rw [Nat.add_zero] at hfc hpc
      have HFs := Lib.hid (And.intro hm1 hf)
      have HTr := Lib.hid (And.intro hm0 ht)
      have HSh := Lib.hid (And.intro hm3 hs)
      have HOt := Lib.hid (And.intro hm4 hh)
      have HRs := Lib.hid (And.intro hm2 (And.intro hl (And.intro hrw hq)))
      have HM : Hid (m0 ≤ n ∧ m1 ≤ n ∧ m2 ≤ n ∧ m3 ≤ n ∧ m4 ≤ n) := Lib.hid (by
        have h := HAl.out
        unfold PartsP.all at h
        simp only [List.length_append] at h
        exact ⟨by omega, by omega, by omega, by omega, by omega⟩)
      clear hm0 ht hm1 hf hm2 hl hrw hq hm3 hs hm4 hh hfe hfq hx0 fz HO6
      have s0 : w6.cell? ⟨sb, 0, none⟩ = some (.slice a0 m0 c0) := HS6.out.cell 0
      have s1 : w6.cell? ⟨sb, 1, none⟩ = some (.slice (some ⟨fb, fo, none⟩) m1 c1) := HS6.out.cell 1
      have s2 : w6.cell? ⟨sb, 2, none⟩ = some (.slice a2 m2 c2) := HS6.out.cell 2
      have k1 : w6.cell? ⟨kb, 1, none⟩ = some (.slice (some ⟨pb, po, none⟩) (m2 + 1) pc) := HT6.out.cell 1
      go_quiet (fail)
      obtain ⟨w7, hw7⟩ : ∃ z, z = w6.drewN nq := ⟨_, rfl⟩
      have hP67 : Pure w6 w7 := by rw [hw7]; exact (Ext.refl _ _).drewN _
      rw [← hw7]
      clear hw7
      obtain ⟨wd, hwd⟩ : ∃ z, z = w7.drew := ⟨_, rfl⟩
      have hP6d : Pure w6 wd := by rw [hwd]; exact hP67.drew
      obtain ⟨R, hR⟩ : ∃ z, z = wd.heap.size := ⟨_, rfl⟩
      have HRz := Lib.hid hR
      have HLe : Hid (R ≤ wd.heap.size) := Lib.hid (by rw [hR]; exact Nat.le_refl _)
      have HSd := Lib.hid (HS6.out.ext hP6d id)
      have HTd := Lib.hid (HT6.out.ext hP6d id)
      have HBd2 := Lib.hid (HB6.out.ext hP6d id)
      have HPd := Lib.hid (HP6.out.pure hP6d)
      have HPd6 := Lib.hid hP6d
      have HLt : Hid (¬ R ≤ sb ∧ ¬ R ≤ kb ∧ ∀ i, i < wd.heap.size → R ≤ i → False) := Lib.hid ⟨by have := HSd.out.lt; omega, by have := HTd.out.lt; omega, fun i h1 h2 => by omega⟩
      have HO0 : Hid ((wd.alloc (.cells #[] 3)).ownsRow R 3 1 (.slice (some ⟨wd.heap.size, 0, none⟩) 0 0) 0 []) := Lib.hid (own_new (cs := []) rfl (Nat.zero_le _) _ HLe.out)
      have HA0 := Lib.hid (HTr.out.2.app HTr.out.1)
      have HA1 := Lib.hid (HFs.out.2.app HFs.out.1)
      have HR0 : Hid (RowOf (wd.alloc (.cells #[] 3)) a0 (intsV p.tree)) := Lib.hid ((HTr.out.2.pure (hP6d.pure (ext_alloc wd _))).1)
      have HRf : Hid (∀ W, Pure wd W → RowOf W (some ⟨fb, fo, none⟩) (intsV p.first)) := Lib.hid (fun W hP => (HFs.out.2.pure (hP6d.pure hP)).1)
      have HR00 : Hid (R ≤ (wd.alloc (.cells #[] 3)).heap.size) := Lib.hid (by rw [World.size_alloc]; have := HLe.out; omega)
      have HY0 : Hid (m0 * 8 ≤ 140737488355328 ∧ m0 ≤ maxLen) := Lib.hid (by have := HM.out; unfold maxLen; omega)
      have HY1 : Hid ((m0 + m1) * 8 ≤ 140737488355328 ∧ m0 + m1 ≤ maxLen) := Lib.hid (by have := HM.out; unfold maxLen; omega)
      have HRsd : Hid (∀ W, Pure wd W → Rws W a2 rs) := Lib.hid (fun W hP => HRs.out.2.2.1.pure (hP6d.pure hP))
      have HPgd : Hid (∀ W, Pure wd W → RowOf W (some ⟨pb, po, none⟩) (intsV T.pages)) := Lib.hid (fun W hP => HRp6.out.ext (hP6d.pure hP) (fun _ _ => id))
      clear hR hP67 hP6d s0 s1 s2 k1 hfc hpc
      go_upto_region 7 with (fail)
      refine region_start (fun b => R ≤ b) (by kernel_rfl) ?_
      try simp only [Act.put, List.setIfInBounds_toArray, List.set_cons_zero, List.set_cons_succ]
      rw [← hwd]
      clear hwd
      refine region_take 1 62 (v := ?vaa1) rfl rfl (by kernel_rfl) (by kernel_rfl) (by kernel_rfl) (fun _ _ _ h => h) (by rfl) (fun w' hS => ?haa1) ?raa1
      case haa1 => go_simp; with_reducible rfl
      try simp only [Act.put, List.setIfInBounds_toArray, List.set_cons_zero, List.set_cons_succ]
      refine region_take 2 63 (v := ?vaa2) rfl rfl (by kernel_rfl) (by kernel_rfl) (by kernel_rfl) (fun _ _ _ h => h) (by rfl) (fun w' hS => ?haa2) ?raa2
      case haa2 => (have e : w'.cell? ⟨sb, 0, none⟩ = some (.slice a0 m0 c0) := (HSd.out.ext hS HLt.out.1).cell 0; go_simp; with_reducible rfl)
      try simp only [Act.put, List.setIfInBounds_toArray, List.set_cons_zero, List.set_cons_succ]
      refine region_take 4 65 (v := ?vaa4) rfl rfl (by kernel_rfl) (by kernel_rfl) (by kernel_rfl) (fun _ _ _ h => h) (by rfl) (fun w' hS => ?haa4) ?raa4
      case haa4 => go_simp; with_reducible rfl
      try simp only [Act.put, List.setIfInBounds_toArray, List.set_cons_zero, List.set_cons_succ]
      refine region_take 5 66 (v := ?vaa5) rfl rfl (by kernel_rfl) (by kernel_rfl) (by kernel_rfl) (fun _ _ _ h => h) (by rfl) (fun w' hS => ?haa5) ?raa5
      case haa5 => (have e : w'.cell? ⟨sb, 1, none⟩ = some (.slice (some ⟨fb, fo, none⟩) m1 c1) := (HSd.out.ext hS HLt.out.1).cell 1; go_simp; with_reducible rfl)
      try simp only [Act.put, List.setIfInBounds_toArray, List.set_cons_zero, List.set_cons_succ]
      refine wpAnyH_ready (rs := [0]) (by kernel_rfl) (by simp) (AllReadyH.cons rfl (fun K hK => ?_) AllReadyH.nil)
      go_simp
      refine hK.out _ _ ((Ext.refl _ _).alloc _) (fun hHeld => ?_)
      clear hK K hHeld
      refine region_now ((Ext.refl _ _).alloc _) ?_
      try simp only [Act.put, List.setIfInBounds_toArray, List.set_cons_zero, List.set_cons_succ]
      refine wpAnyH_ready (rs := [3]) (by kernel_rfl) (by simp) (AllReadyH.cons rfl (fun K hK => ?_) AllReadyH.nil)
      refine step_of_list ?_
      refine wpList_append_fresh rfl (.tmp 61) (.tmp 63) 22 rfl R 3 (.int .i64 0) 1 8 Try.underlying22 infoI rfl (by decide) (.slice (some ⟨wd.heap.size, 0, none⟩) 0 0) 0 [] rfl HO0.out a0 m0 c0 (intsV p.tree) rfl HA0.out.1 HA0.out.2.1 HR0.out HA0.out.2.2 m0 (Nat.zero_add m0) (intsV p.tree) rfl HY0.out.1 HY0.out.2 HR00.out ?_
      intro a7 c7 W7 hO7 hg7 hf7
      have hX7 : Ext (fun b => R ≤ b) (wd.alloc (.cells #[] 3)) W7 := (ext_of_grown hg7).mono (fun i _ e => (HO0.out.lt i e).1)
      have hP7 : Pure wd W7 := ((ext_alloc wd (.cells #[] 3)).trans hX7 (fun i hi e => HLt.out.2.2 i hi e))
      have HR1 := Lib.hid (HRf.out W7 hP7)
      refine hK.out _ _ (hX7) (fun hHeld => ?_)
      clear hK K hHeld
      refine region_now (hX7) ?_
      try simp only [Act.put, List.setIfInBounds_toArray, List.set_cons_zero, List.set_cons_succ]
      refine wpAnyH_ready (rs := [6]) (by kernel_rfl) (by simp) (AllReadyH.cons rfl (fun K hK => ?_) AllReadyH.nil)
      refine step_of_list ?_
      refine wpList_append_fresh rfl (.tmp 64) (.tmp 66) 22 rfl R 3 (.int .i64 0) 1 8 Try.underlying22 infoI rfl (by decide) (.slice a7 m0 c7) m0 (intsV p.tree) rfl hO7 (some ⟨fb, fo, none⟩) m1 c1 (intsV p.first) rfl HA1.out.1 HA1.out.2.1 HR1.out HA1.out.2.2 (m0 + m1) rfl (intsV p.tree ++ intsV p.first) rfl HY1.out.1 HY1.out.2 (Nat.le_trans HLe.out hP7.size) ?_
      intro a8 c8 W8 hO8 hg8 hf8
      have hX8 : Ext (fun b => R ≤ b) W7 W8 := (ext_of_grown hg8).mono (fun i _ e => (hO7.lt i e).1)
      have hP8 : Pure wd W8 := hP7.trans hX8 (fun i hi e => HLt.out.2.2 i hi e)
      refine hK.out _ _ (hX8) (fun hHeld => ?_)
      clear hK K hHeld
      refine region_now (hX8) ?_
      try simp only [Act.put, List.setIfInBounds_toArray, List.set_cons_zero, List.set_cons_succ]
      refine region_take 7 7 (v := ?vaa7) rfl rfl (by kernel_rfl) (by kernel_rfl) (by kernel_rfl) (fun _ _ _ h => h) (by rfl) (fun w' hS => ?haa7) ?raa7
      case haa7 => go_simp; with_reducible rfl
      try simp only [Act.put, List.setIfInBounds_toArray, List.set_cons_zero, List.set_cons_succ]
      refine wpAnyH_done (by kernel_rfl) ?_ _
      have HO8 : Hid (W8.ownsRow R 3 1 (.slice a8 (m0 + m1) c8) (m0 + m1) (intsV (p.tree ++ p.first ++ (p.own.take 0).flatten))) := Lib.hid (by
        have e : intsV (p.tree ++ p.first ++ (p.own.take 0).flatten) = intsV p.tree ++ intsV p.first := by simp [intsV]
        rw [e]; exact hO8)
      have HP8 := Lib.hid hP8
      have HL8 : Hid (m0 + m1 = (p.tree ++ p.first ++ (p.own.take 0).flatten).length) := Lib.hid (by rw [HTr.out.1, HFs.out.1]; simp)
      clear hO8 hg8 hf8 hX8 hP8 hO7 hg7 hf7 hX7 hP7 HR1
      go_wp2_with fail
      go_loopw [8, 7] (fun i v W => ∃ (k : Nat) (a : Option Addr) (c m : Nat), k ≤ m2 ∧ i = .int .i64 k ∧ v = .slice a m c ∧ Hid (m = (p.tree ++ p.first ++ (p.own.take k).flatten).length) ∧ Hid (W.ownsRow R 3 1 (.slice a m c) m (intsV (p.tree ++ p.first ++ (p.own.take k).flatten))) ∧ Hid (Pure wd W)) (fun i _ _ => m2 - (intOf i).toNat)
      case atStart => exact ⟨0, a8, c8, m0 + m1, Nat.zero_le _, rfl, rfl, HL8, HO8, HP8⟩
      case round =>
        clear HL8 HO8 HP8
        obtain ⟨k, a, c, m, hk, rfl, rfl, HMl, HO, HP⟩ := hrel
        have s2 : wr.cell? ⟨sb, 2, none⟩ = some (.slice a2 m2 c2) := (HSd.out.ext HP.out id).cell 2
        by_cases hlt : k < m2
        · have hki : (k : Int) < (m2 : Int) := by omega
          have hk0 : (0 : Int) ≤ (k : Int) := by omega
          have hkr : k < rs.length := by rw [← HRs.out.1]; exact hlt
          obtain ⟨ab, ao, rfl, hc⟩ := (HRsd.out wr HP.out).get hkr
          have hlk : rs[k].l = p.own[k]'(by rw [← HRs.out.2.1, lsR_len]; exact hkr) := by
            have h1 := lsR_get hkr
            have h2 := HRs.out.2.1
            have h3 : (lsR rs)[k]? = p.own[k]? := by rw [h2]
            rw [List.getElem?_eq_getElem (by rw [lsR_len]; exact hkr), List.getElem?_eq_getElem (by rw [← HRs.out.2.1, lsR_len]; exact hkr)] at h3
            rw [← h1]
            exact Option.some.inj h3
          have hkR : k + 1 < Rs.length := by rw [HRp.out]; omega
          obtain ⟨zs, hqk, hzs⟩ := HOw.out k hkR
          have hok : p.own[k]'(by rw [← HRs.out.2.1, lsR_len]; exact hkr) = T.pages[k + 1]'hqk :: zs := by
            rw [List.getElem?_eq_getElem (by rw [← HRs.out.2.1, lsR_len]; exact hkr)] at hzs
            exact Option.some.inj hzs
          have hrk := hlk.trans hok
          have hqr : CRow.ok wr rs[k] := (HRs.out.2.2.2 rs[k] (List.getElem_mem hkr)).pure (HPd6.out.pure HP.out)
          have HTk : Hid ((p.own.take (k + 1)).flatten = (p.own.take k).flatten ++ rs[k].l) := Lib.hid (by
            rw [List.take_succ_eq_append_getElem (by rw [← HRs.out.2.1, lsR_len]; exact hkr), List.flatten_append, ← hlk]
            simp)
          obtain ⟨q, hqe⟩ : ∃ z, z = rs[k] := ⟨_, rfl⟩
          rw [← hqe] at hc hrk hqr HTk
          obtain ⟨qa, qc, ql⟩ := q
          obtain ⟨hq1, hq2, hq3⟩ := hqr
          simp only at hc hrk hq1 hq2 hq3 HTk
          obtain ⟨qb, qo, rfl, hqc⟩ := hq1 0 (.int .i64 (T.pages[k + 1]'hqk)) (by rw [hrk]; rfl)
          obtain ⟨pb', po', hpe, hpc⟩ := (HPgd.out wr HP.out) (k + 1) (.int .i64 (T.pages[k + 1]'hqk)) (intsV_get hqk)
          cases hpe
          rw [Nat.add_zero] at hqc
          obtain ⟨x, hx⟩ : ∃ z, z = T.pages[k + 1]'hqk := ⟨_, rfl⟩
          rw [← hx] at hqc hpc
          obtain ⟨qn, hqn⟩ : ∃ z, z = ql.length := ⟨_, rfl⟩
          have hqp : 0 < qn := by rw [hqn, hrk]; simp
          have hqz : ((qn : Int) == 0) = false := beq_eq_false_iff_ne.2 (by omega)
          rw [← hqn] at hc
          have HQok : Hid (CRow.ok wr ⟨some ⟨qb, qo, none⟩, qc, ql⟩) := Lib.hid ⟨hq1, hq2, hq3⟩
          have HAq := Lib.hid (HQok.out.app hqn)
          have HLn : Hid (m + qn = (p.tree ++ p.first ++ (p.own.take (k + 1)).flatten).length) := Lib.hid (by
            rw [HTk.out, List.length_append, List.length_append, HMl.out, hqn, List.length_append]
            simp only [List.length_append]
            omega)
          have HIn : Hid (intsV (p.tree ++ p.first ++ (p.own.take (k + 1)).flatten) = intsV (p.tree ++ p.first ++ (p.own.take k).flatten) ++ intsV ql) := Lib.hid (by rw [HTk.out, ← List.append_assoc]; simp [intsV])
          have hmq : m + qn ≤ n := by
            have h1 := HAl.out
            have h2 := HLn.out
            have h3 : (p.own.take (k + 1)).flatten.length ≤ p.own.flatten.length := by
              have h4 : p.own.flatten = ((p.own.take (k + 1)) ++ (p.own.drop (k + 1))).flatten := by rw [List.take_append_drop]
              rw [h4, List.flatten_append, List.length_append]
              exact Nat.le_add_right _ _
            unfold PartsP.all at h1
            simp only [List.length_append] at h1 h2
            omega
          have hsbl : sb < wr.heap.size := (HSd.out.ext HP.out id).lt
          have k1 : wr.cell? ⟨kb, 1, none⟩ = some (.slice (some ⟨pb, po, none⟩) (m2 + 1) pc) := (HTd.out.ext HP.out id).cell 1
          have hk1m : k + 1 < m2 + 1 := by omega
          have hki1 : (k : Int) + 1 < (m2 : Int) + 1 := by omega
          have hki0 : (0 : Int) ≤ (k : Int) + 1 := by omega
          clear hlk hzs hok hrk hqe hq1 hq2 hq3 hx hqn hkr hkR zs
          go_upto_region 11 with (fail)
          go_quiet (fail)
          go_upto_region 13 with (fail)
          obtain ⟨w9, hw9⟩ : ∃ z, z = wr.drewN nq := ⟨_, rfl⟩
          have hP9 : Pure wr w9 := by rw [hw9]; exact (Ext.refl _ _).drewN _
          rw [← hw9]
          have s2 : w9.cell? ⟨sb, 2, none⟩ = some (.slice (some ⟨ab, ao, none⟩) m2 c2) := hP9.cell_some s2 id
          have hc9 := hP9.cell_some hc id
          have HO9 : Hid (w9.ownsRow R 3 1 (.slice a m c) m (intsV (p.tree ++ p.first ++ (p.own.take k).flatten))) := Lib.hid (own_ext HO.out hP9 (fun _ _ => id))
          have HRq : Hid (RowOf w9 (some ⟨qb, qo, none⟩) (intsV ql)) := Lib.hid ((HQok.out.pure hP9).1)
          have HP9 := Lib.hid (HP.out.pure hP9)
          have HB1 : Hid ((m + qn) * 8 ≤ 140737488355328) := Lib.hid (by omega)
          have HB2 : Hid (m + qn ≤ maxLen) := Lib.hid (by unfold maxLen; omega)
          have HR9 : Hid (R ≤ w9.heap.size) := Lib.hid (Nat.le_trans HLe.out HP9.out.size)
          clear hw9 hP9 hc hqc hpc k1
          go_wp2_with (at_builtin; refine wpList_append_fresh rfl (.tmp 98) (.tmp 103) 22 rfl R 3 (.int .i64 0) 1 8 Try.underlying22 infoI rfl (by decide) (.slice a m c) m (intsV (p.tree ++ p.first ++ (p.own.take k).flatten)) rfl HO9.out (some ⟨qb, qo, none⟩) qn qc (intsV ql) rfl HAq.out.1 HAq.out.2.1 HRq.out HAq.out.2.2 (m + qn) rfl (intsV (p.tree ++ p.first ++ (p.own.take k).flatten) ++ intsV ql) rfl HB1.out HB2.out HR9.out ?_; intro a7 c7 W7 hO7 hg7 hf7)
          have HO7 : Hid (W7.ownsRow R 3 1 (.slice a7 (m + qn) c7) (m + qn) (intsV (p.tree ++ p.first ++ (p.own.take (k + 1)).flatten))) := Lib.hid (by rw [HIn.out]; exact hO7)
          have HP7 : Hid (Pure wd W7) := Lib.hid (HP9.out.trans (ext_of_grown hg7) (fun i hi e => HLt.out.2.2 i hi (HO9.out.lt i e).1))
          clear hO7 hg7 hf7
          go_roundw
          case rel => exact ⟨k + 1, a7, c7, m + qn, by omega, by go_num, rfl, HLn, HO7, HP7⟩
          case measure => simp [intOf]; omega
        · have hki : ¬ (k : Int) < (m2 : Int) := by omega
          obtain rfl : k = m2 := by omega
          have HTk : Hid (p.own.take k = p.own) := Lib.hid (List.take_of_length_le (by rw [← HRs.out.2.1, lsR_len, ← HRs.out.1]; exact Nat.le_refl _))
          obtain ⟨A0, hA0⟩ : ∃ z, z = p.tree ++ p.first ++ (p.own.take k).flatten := ⟨_, rfl⟩
          rw [← hA0] at HMl HO
          have HAll : Hid (p.all = A0 ++ p.shared ++ p.others) := Lib.hid (by rw [hA0, HTk.out]; rfl)
          clear hA0
          obtain ⟨we, hwe⟩ : ∃ z, z = wr.drew := ⟨_, rfl⟩
          have hPre : Pure wr we := by rw [hwe]; exact (Ext.refl _ wr).drew
          have HPe := Lib.hid (HP.out.pure hPre)
          have HOe : Hid (we.ownsRow R 3 1 (.slice a m c) m (intsV A0)) := Lib.hid (own_ext HO.out hPre (fun _ _ => id))
          have HA3 := Lib.hid (HSh.out.2.app HSh.out.1)
          have HA4 := Lib.hid (HOt.out.2.app HOt.out.1)
          have HR3 : Hid (∀ W, Pure wd W → RowOf W a3 (intsV p.shared)) := Lib.hid (fun W hP => (HSh.out.2.pure (HPd6.out.pure hP)).1)
          have HR4 : Hid (∀ W, Pure wd W → RowOf W a4 (intsV p.others)) := Lib.hid (fun W hP => (HOt.out.2.pure (HPd6.out.pure hP)).1)
          have hmm : m + m3 + m4 = p.all.length := by rw [HAll.out, List.length_append, List.length_append, ← HMl.out, ← HSh.out.1, ← HOt.out.1]
          have hmn : m + m3 + m4 ≤ n := by rw [hmm]; exact HAl.out
          have HMa := Lib.hid hmm
          have HY3 : Hid ((m + m3) * 8 ≤ 140737488355328 ∧ m + m3 ≤ maxLen) := Lib.hid (by unfold maxLen; omega)
          have HY4 : Hid ((m + m3 + m4) * 8 ≤ 140737488355328 ∧ m + m3 + m4 ≤ maxLen) := Lib.hid (by unfold maxLen; omega)
          clear hmm hPre
          go_upto_region 14 with (fail)
          refine region_start (fun b => R ≤ b) (by kernel_rfl) ?_
          try simp only [Act.put, List.setIfInBounds_toArray, List.set_cons_zero, List.set_cons_succ]
          refine region_take 0 105 (v := ?vbb0) rfl rfl (by kernel_rfl) (by kernel_rfl) (by kernel_rfl) (fun _ _ _ h => h) (by rfl) (fun w' hS => ?hbb0) ?rbb0
          case hbb0 => go_simp; with_reducible rfl
          try simp only [Act.put, List.setIfInBounds_toArray, List.set_cons_zero, List.set_cons_succ]
          rw [← hwe]
          clear hwe
          refine region_take 1 106 (v := ?vbb1) rfl rfl (by kernel_rfl) (by kernel_rfl) (by kernel_rfl) (fun _ _ _ h => h) (by rfl) (fun w' hS => ?hbb1) ?rbb1
          case hbb1 => go_simp; with_reducible rfl
          try simp only [Act.put, List.setIfInBounds_toArray, List.set_cons_zero, List.set_cons_succ]
          refine region_take 2 107 (v := ?vbb2) rfl rfl (by kernel_rfl) (by kernel_rfl) (by kernel_rfl) (fun _ _ _ h => h) (by rfl) (fun w' hS => ?hbb2) ?rbb2
          case hbb2 => (have e : w'.cell? ⟨sb, 3, none⟩ = some (.slice a3 m3 c3) := ((HSd.out.ext HPe.out id).ext hS HLt.out.1).cell 3; go_simp; with_reducible rfl)
          try simp only [Act.put, List.setIfInBounds_toArray, List.set_cons_zero, List.set_cons_succ]
          refine region_take 4 109 (v := ?vbb4) rfl rfl (by kernel_rfl) (by kernel_rfl) (by kernel_rfl) (fun _ _ _ h => h) (by rfl) (fun w' hS => ?hbb4) ?rbb4
          case hbb4 => go_simp; with_reducible rfl
          try simp only [Act.put, List.setIfInBounds_toArray, List.set_cons_zero, List.set_cons_succ]
          refine region_take 5 110 (v := ?vbb5) rfl rfl (by kernel_rfl) (by kernel_rfl) (by kernel_rfl) (fun _ _ _ h => h) (by rfl) (fun w' hS => ?hbb5) ?rbb5
          case hbb5 => (have e : w'.cell? ⟨sb, 4, none⟩ = some (.slice a4 m4 c4) := ((HSd.out.ext HPe.out id).ext hS HLt.out.1).cell 4; go_simp; with_reducible rfl)
          try simp only [Act.put, List.setIfInBounds_toArray, List.set_cons_zero, List.set_cons_succ]
          refine wpAnyH_ready (rs := [3]) (by kernel_rfl) (by simp) (AllReadyH.cons rfl (fun K hK => ?_) AllReadyH.nil)
          refine step_of_list ?_
          refine wpList_append_fresh rfl (.tmp 105) (.tmp 107) 22 rfl R 3 (.int .i64 0) 1 8 Try.underlying22 infoI rfl (by decide) (.slice a m c) m (intsV A0) rfl HOe.out a3 m3 c3 (intsV p.shared) rfl HA3.out.1 HA3.out.2.1 (HR3.out we HPe.out) HA3.out.2.2 (m + m3) rfl (intsV A0 ++ intsV p.shared) rfl HY3.out.1 HY3.out.2 (Nat.le_trans HLe.out HPe.out.size) ?_
          intro a9 c9 W9 hO9 hg9 hf9
          have hX9 : Ext (fun b => R ≤ b) we W9 := (ext_of_grown hg9).mono (fun i _ e => (HOe.out.lt i e).1)
          have hP9 : Pure wd W9 := HPe.out.trans hX9 (fun i hi e => HLt.out.2.2 i hi e)
          refine hK.out _ _ (hX9) (fun hHeld => ?_)
          clear hK K hHeld
          refine region_now (hX9) ?_
          try simp only [Act.put, List.setIfInBounds_toArray, List.set_cons_zero, List.set_cons_succ]
          refine wpAnyH_ready (rs := [6]) (by kernel_rfl) (by simp) (AllReadyH.cons rfl (fun K hK => ?_) AllReadyH.nil)
          refine step_of_list ?_
          refine wpList_append_fresh rfl (.tmp 108) (.tmp 110) 22 rfl R 3 (.int .i64 0) 1 8 Try.underlying22 infoI rfl (by decide) (.slice a9 (m + m3) c9) (m + m3) (intsV A0 ++ intsV p.shared) rfl hO9 a4 m4 c4 (intsV p.others) rfl HA4.out.1 HA4.out.2.1 (HR4.out W9 hP9) HA4.out.2.2 (m + m3 + m4) rfl (intsV A0 ++ intsV p.shared ++ intsV p.others) rfl HY4.out.1 HY4.out.2 (Nat.le_trans HLe.out hP9.size) ?_
          intro aA cA WA hOA hgA hfA
          have hXA : Ext (fun b => R ≤ b) W9 WA := (ext_of_grown hgA).mono (fun i _ e => (hO9.lt i e).1)
          have hPA : Pure wd WA := hP9.trans hXA (fun i hi e => HLt.out.2.2 i hi e)
          refine hK.out _ _ (hXA) (fun hHeld => ?_)
          clear hK K hHeld
          refine region_now (hXA) ?_
          try simp only [Act.put, List.setIfInBounds_toArray, List.set_cons_zero, List.set_cons_succ]
          refine region_take 7 7 (v := ?vbb7) rfl rfl (by kernel_rfl) (by kernel_rfl) (by kernel_rfl) (fun _ _ _ h => h) (by rfl) (fun w' hS => ?hbb7) ?rbb7
          case hbb7 => go_simp; with_reducible rfl
          try simp only [Act.put, List.setIfInBounds_toArray, List.set_cons_zero, List.set_cons_succ]
          refine wpAnyH_done (by kernel_rfl) ?_ _
          have HOA : Hid (WA.ownsRow R 3 1 (.slice aA (m + m3 + m4) cA) (m + m3 + m4) (intsV p.all)) := Lib.hid (by
            have e : intsV p.all = intsV A0 ++ intsV p.shared ++ intsV p.others := by rw [HAll.out]; simp [intsV]
            rw [e]; exact hOA)
          have HPA := Lib.hid hPA
          clear hOA hgA hfA hXA hPA hO9 hg9 hf9 hX9 hP9 s2
          obtain ⟨ii, hi, hz, hsize, hby⟩ := info_parts infoI
          have HI := Lib.hid hi
          have HZi := Lib.hid hz
          have HSi := Lib.hid hsize
          have HBy : Hid (ii.bytes * n ≤ 281474976710656) := Lib.hid (by rw [hby]; omega)
          have HMx : Hid (n ≤ 9223372036854775807) := Lib.hid (by omega)
          clear hi hz hsize hby
          obtain ⟨W1, hW1⟩ : ∃ z, z = WA.alloc (.cells (intsV (List.replicate n 0)).toArray 3) := ⟨_, rfl⟩
          obtain ⟨mk, hmk⟩ : ∃ z, z = WA.heap.size := ⟨_, rfl⟩
          have HW1 : Hid (WA.alloc (.cells (madeCells #[.int .i64 0] n) 3) = W1) := Lib.hid (by rw [hW1]; exact rep_ints n _ WA)
          have HMk := Lib.hid hmk
          have HB1 : Hid (BlockIs W1 mk (intsV (metP n (p.all.take 0))) 3) := Lib.hid (by rw [List.take_zero, metP_nil, hW1, hmk]; exact BlockIs.new WA _ _)
          have HPA1 : Hid (Pure WA W1) := Lib.hid (by rw [hW1]; exact ext_alloc _ _)
          have HOA1 : Hid (W1.ownsRow R 3 1 (.slice aA (m + m3 + m4) cA) (m + m3 + m4) (intsV p.all)) := Lib.hid (own_ext HOA.out HPA1.out (fun _ _ => id))
          have HNe : Hid (∀ x, aA = some x → ¬ x.block = mk) := Lib.hid (fun x hx e => by have := (HOA.out.lt x.block (by rw [hx]; rfl)).2; omega)
          have HLm : Hid (wd.heap.size ≤ mk) := Lib.hid (by rw [hmk]; exact HPA.out.size)
          have t0 : WA.cell? ⟨tb, 0, none⟩ = some (.slice oa n oc) := (HBd2.out.ext HPA.out id).cell 0
          obtain ⟨M, hMe⟩ : ∃ z, z = m + m3 + m4 := ⟨_, rfl⟩
          have HMt := Lib.hid hMe.symm
          rw [← hMe] at HOA1 hmn HMa
          clear hW1 hmk hMe
          go_wp2_with (rw [HMt.out]; refine wpList_make_row _ rfl (.tmp 114) (.tmp 114) 22 rfl 3 ii (.int .i64 0) Try.underlying22 HI.out HZi.out HSi.out rfl .i64 .i64 n rfl rfl HBy.out HMx.out ?_; rw [HW1.out, ← HMk.out])
          clear t0
          go_loopw [10] (fun i wr => ∃ j : Nat, j ≤ M ∧ i = .int .i64 j ∧ Hid (BlockIs wr mk (intsV (metP n (p.all.take j))) 3) ∧ Hid (Ext (fun b => b = mk) W1 wr)) (fun i _ => M - (intOf i).toNat)
          case atStart => exact ⟨0, Nat.zero_le _, rfl, HB1, Lib.hid (Ext.refl _ _)⟩
          case round =>
            obtain ⟨j, hj, rfl, HB, HE⟩ := hrel
            by_cases hltj : j < M
            · have hkj : (j : Int) < (M : Int) := by omega
              have hj0 : (0 : Int) ≤ (j : Int) := by omega
              have hja : j < p.all.length := by rw [← HMa.out]; exact hltj
              obtain ⟨xb, xo, rfl, hxc⟩ := ((own_row HOA1.out).ext HE.out (fun x hx => HNe.out x hx)) j _ (intsV_get hja)
              obtain ⟨x, hx⟩ : ∃ z, z = p.all[j] := ⟨_, rfl⟩
              have hxm := (HMem.out x).1 (by rw [hx]; exact List.getElem_mem hja)
              have hxn : x ∉ p.all.take j := by
                intro hh
                obtain ⟨i2, hi2, he2⟩ := List.mem_iff_getElem.1 hh
                rw [List.length_take] at hi2
                rw [List.getElem_take, hx] at he2
                have := (List.getElem_inj HNd.out).1 he2
                omega
              have HTk : Hid (p.all.take (j + 1) = p.all.take j ++ [x]) := Lib.hid (by rw [List.take_succ_eq_append_getElem hja, hx])
              rw [← hx] at hxc
              clear hx
              obtain ⟨y, rfl⟩ : ∃ y : Nat, x = (y : Int) + 1 := ⟨(x - 1).toNat, by omega⟩
              have hyn : y < n := by omega
              have hyi : (y : Int) < (n : Int) := by omega
              have hx1 : ¬ (y : Int) + 1 < 1 := by omega
              have hx2 : ¬ (n : Int) < (y : Int) + 1 := by omega
              have hy0 : (0 : Int) ≤ (y : Int) := by omega
              have c0 : wr.cell? ⟨mk, y, none⟩ = some (.int .i64 0) := by
                rw [HB.out.cell, intsV, List.getElem?_map, metP_get hyn, if_neg hxn]
                rfl
              have z0 : wr.frozen? ⟨mk, y, none⟩ = false := HB.out.free y
              have HB2 : Hid (BlockIs (wr.setCell ⟨mk, y, none⟩ (.int .i64 1)) mk (intsV (metP n (p.all.take (j + 1)))) 3) := Lib.hid (by
                have h := HB.out.set y (.int .i64 1)
                rw [intsV_set', metP_set _ hyn, ← HTk.out] at h
                exact h)
              have HE2 : Hid (Ext (fun b => b = mk) W1 (wr.setCell ⟨mk, y, none⟩ (.int .i64 1))) := Lib.hid (HE.out.setCell (p := ⟨mk, y, none⟩) (fun _ => rfl) _)
              clear hxm hxn
              go_wp2_with fail
              go_roundw
              case rel => exact ⟨j + 1, by omega, by go_num, HB2, HE2⟩
              case measure => simp [intOf]; omega
            · have hkj : ¬ (j : Int) < (M : Int) := by omega
              have HBf : Hid (BlockIs wr mk (intsV (metP n p.all)) 3) := Lib.hid (by
                have h := HB.out
                rwa [List.take_of_length_le (by rw [← HMa.out]; omega)] at h)
              go_wp2_with fail
              obtain ⟨wz, hwz⟩ : ∃ wz : World, wz = wr := ⟨_, rfl⟩
              have HBz : Hid (BlockIs wz mk (intsV (metP n p.all)) 3) := Lib.hid (by rw [hwz]; exact HBf.out)
              have HPz : Hid (Pure w wz) := Lib.hid (by
                rw [hwz]
                have h1 := HPd.out.pure (HPA.out.pure HPA1.out)
                exact h1.trans HE.out (fun i hi e => by have h2 := HLm.out; have h3 := HPd.out.size; have e2 : i = mk := e; omega))
              have HRf2 : Hid (Pure wz wr) := Lib.hid (by rw [hwz]; exact Ext.refl _ _)
              clear hwz HB HBf HE HB1
              go_loopw [11] (fun i wq => ∃ k : Nat, k ≤ n ∧ i = .int .i64 k ∧ Hid (Pure wz wq)) (fun i _ => n - (intOf i).toNat)
              case atStart => exact ⟨0, Nat.zero_le _, rfl, HRf2⟩
              case round =>
                obtain ⟨k, hk, rfl, HPq⟩ := hrel
                by_cases hltk : k < n
                · have hkk : (k : Int) < (n : Int) := by omega
                  have hk0 : (0 : Int) ≤ (k : Int) := by omega
                  have c1 := ((HBz.out.ext HPq.out id).cell k)
                  rw [intsV, List.getElem?_map, metP_get hltk, if_pos ((HMem.out _).2 (by omega))] at c1
                  go_wp2_with fail
                  go_roundw
                  case rel => exact ⟨k + 1, by omega, by go_num, HPq⟩
                  case measure => simp [intOf]; omega
                · have hkk : ¬ (k : Int) < (n : Int) := by omega
                  go_wp2_with fail
                  refine (works_any _).mono ?_
                  rintro e wy ⟨rfl, hPy⟩
                  go_wp2_with fail
                  go_ret
                  exact ⟨rfl, (HPz.out.pure (HPq.out.pure hPy)).below⟩
    · have hEb : (E != 0) = true := by simpa using hE
      clear HGd HSp0 HWk0 hE
      go_enter Try.func4, Try.ntmps4
      go_wp2_with fail
      rw [HWo.out, ← HTb.out]
      go_wp2_with fail
      refine (HFw.out wo HPwo.out).mono ?_
      rintro e w1 ⟨rfl, hPf⟩
      have HP1 := Lib.hid (HPwo.out.pure hPf)
      have HB1 := Lib.hid (HBd.out.ext hPf id)
      clear hPf
      have e0 : w1.cell? ⟨tb, 0, none⟩ = some (.slice oa n oc) := HB1.out.cell 0
      have e1 : w1.cell? ⟨tb, 1, none⟩ = some (.int .i64 root) := HB1.out.cell 1
      have hb1 : tb < w1.heap.size := HB1.out.lt
      go_wp2_with fail
      refine (HDc.out w1 HP1.out).mono ?_
      rintro e w2 ⟨rfl, hPf⟩
      have HP2 := Lib.hid (HP1.out.pure hPf)
      clear hPf e0 e1 hb1
      go_wp2_with fail
      refine (works_any _).mono ?_
      rintro e wz ⟨rfl, hPz⟩
      go_wp2_with fail
      go_ret
      exact ⟨rfl, (HP2.out.pure hPz).below⟩

set_option maxRecDepth 100000 in
theorem lifted (os : Os) (started : os.Started) (H : Type) (enc : TypeId × Value → H) :
    ReturnsInHanded {} Try.checked os 4 .any (Rows.shareOnceSpec.pre6 enc Try.prog Try.f4 Rows.shareOnceRow.domain false) (Rows.shareOnceSpec.post enc Try.prog Try.f4 false true false false) := by
  refine returnsInHanded_of_change (C := Try.checked) own started (by kernel_rfl) Try.func4
    (ChangeSpec.witness6 (enc := enc) (C := Try.checked) false ⟨#[], #[.agg #[.slice none 0 0, .int .i64 0]], []⟩ 8 (by kernel_rfl) (by kernel_rfl) (by kernel_rfl) (by kernel_rfl)) ?_
  intro W base args ds gs before hval0 hW hcnd _
  have hval : ∀ (j : Nat) t v, Try.f4.params[j]? = some t → args[j]? = some v → Value.okWide Try.prog W .any base t v := hval0
  have hW' := hW
  obtain ⟨p, q, hA0, hV, rfl, hfz, hnd⟩ := hW
  have hA : DataW.TrodAll enc Try.prog W 0 (fun _ => true) true Try.f4.params.toList args.toList ds p := hA0
  rw [Try.params4] at hA hval
  obtain ⟨v0, vs0, d0, ds0, p0, q0, hargs, rfl, rfl, h0, r0⟩ := trodAll_cons hA
  obtain ⟨rfl, rfl, rfl⟩ := trodAll_nil r0
  obtain rfl : args = #[v0] := by cases args; simp_all
  obtain ⟨rfl, rfl⟩ := trodVars_none hV
  have k0 := h0
  have lt0 : ∀ x ∈ p0, x.block < W.heap.size := by obtain ⟨m, hm⟩ := k0; exact DataW.trod_lt m _ _ _ hm
  obtain ⟨F0, objs, oa, oc, rows, root, rfl, hOK0, hoc0, hcm0, hwf0, _, hr0⟩ := open_doc (hval 0 38 v0 rfl rfl) h0
  clear hA0 hval0
  refine (walk F0 objs oa oc rows root W hOK0 hoc0 hcm0 hwf0 hr0).mono fun e W' ⟨he, bel⟩ => ?_
  subst he
  exact ⟨_, rfl, _, _, _, [], _, [], hW', trodAll_mk1 (shut_bool Try.underlying4 _), (trodAll_cons_mk (Below.trod laidOut (by kernel_rfl) (of_decide_eq_true (by kernel_rfl)) k0 bel lt0) trodAll_mk0), rfl, bel.frame _, fun h => by cases h⟩

theorem proved : Rows.ShareOnceSaid :=
  OpenClaim.holds_of_wide 4 Try.f4 rfl rfl rfl rfl rfl rfl rfl ⟨rfl, rfl, rfl, rfl, rfl⟩ rfl rfl rfl rfl rfl (by kernel_rfl) Try.func4 (by kernel_rfl)
    (of_decide_eq_true (by kernel_rfl)) (by unfold Func.isWrapper; first | (rw [if_pos (by decide +kernel)]; kernel_rfl) | (rw [if_neg (by decide +kernel)]; exact ⟨rfl, rfl⟩))
    (fun os started H enc _ => lifted os started H enc)
#print axioms proved
end Go.Proofs.Ytnpiemcfbnpfdaa.shareOnce
