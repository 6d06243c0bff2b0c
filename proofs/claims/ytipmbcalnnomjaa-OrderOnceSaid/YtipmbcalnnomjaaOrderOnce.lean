/-
  OrderOnce: of a Doc that may be written each number has a new one, all unlike; the root's is the one behind the dictionary's, the first page's the one behind the hints'. No condition.
-/
import Derived.Test.YtipmbcalnnomjaaWorks25
import Derived.Test.YtipmbcalnnomjaaOpenS
import Derived.OwnWalk
import Derived.Deep.OwnRows
namespace Go.Proofs.Ytipmbcalnnomjaa.orderOnce
open Go.ChangeShapes Go.WideShapes Go.ChangeAt Go.RowKit Go.Proofs.Ytipmbcalnnomjaa
set_option linter.unusedVariables false
set_option linter.unusedSimpArgs false

theorem order_nums {p : PartsP} {n : Nat} (h : PartsN p n) (hn : 1 ≤ n) : (orderP p).nums = p.new n := by
  show toP (seqP p.main p.tree p.first) (mostP (p.main ++ p.tree ++ p.first)) = _
  rw [h.most hn]
  rfl
set_option maxHeartbeats 8000000 in
set_option maxRecDepth 100000 in
theorem walk (F0 : Nat) (objs : List Ob) (oa : Option Addr) (oc : Nat) (rows : List (List Value)) (root : Int) (w : World)
    (hOK : OKids w F0 objs oa rows) (hoc : objs.length ≤ oc) (hcm : oc ≤ maxLen) (hwf : ∀ u ∈ objs, u.data.size ≤ maxLen ∧ u.v.wf) (hr : (Lit.int .i64 root).wf = true) :
    Calls Try.prog 4 #[.agg #[.slice oa objs.length oc, .int .i64 root]] w fun e w' => e = .returned (.bool true) ∧ Below w.heap.size w w' := by
  have HFw := Lib.hid (fun W (hP : Pure w W) => fewo_any F0 objs oa oc rows 40 W (hOK.pure hP) hoc hcm)
  have h80 : fewO objs 40 = true → fewO objs 80 = true := fun hf => by
    unfold fewO at hf ⊢
    rw [Bool.and_eq_true, decide_eq_true_eq] at hf ⊢
    exact ⟨by omega, hf.2⟩
  have HDok := Lib.hid (fun (hf : fewO objs 40 = true) => few_docok hOK hwf hr (h80 hf))
  have HSz := Lib.hid (fun (hf : fewO objs 40 = true) => few_sizes (h80 hf))
  have HDs := Lib.hid (fun u hu => (hwf u hu).1)
  obtain ⟨n, hn⟩ : ∃ z, z = objs.length := ⟨_, rfl⟩
  obtain ⟨fw, hfw⟩ : ∃ z, z = fewO objs 40 := ⟨_, rfl⟩
  rw [← hn, ← hfw] at HFw
  rw [← hfw] at HDok HSz
  rw [← hn]
  have HN := Lib.hid hn
  clear hOK hwf hn hfw hoc hcm hr h80
  obtain ⟨wo, hwo⟩ : ∃ z, z = w.alloc (.cells #[.slice oa n oc, .int .i64 root] 38) := ⟨_, rfl⟩
  obtain ⟨tb, htb⟩ : ∃ z, z = w.heap.size := ⟨_, rfl⟩
  have HPwo : Hid (Pure w wo) := Lib.hid (by rw [hwo]; exact ext_alloc w _)
  have HBd : Hid (BlockIs wo tb [.slice oa n oc, .int .i64 root] 38) := Lib.hid (by rw [hwo, htb]; exact BlockIs.new w [.slice oa n oc, .int .i64 root] 38)
  have HWo : Hid (w.alloc (.cells #[.slice oa n oc, .int .i64 root] 38) = wo) := Lib.hid hwo.symm
  have HTb := Lib.hid htb
  have d0 : wo.cell? ⟨tb, 0, none⟩ = some (.slice oa n oc) := HBd.out.cell 0
  clear hwo htb
  cases fw with
  | false =>
    clear HDok HSz
    go_enter Try.func4, Try.ntmps4
    go_wp2_with fail
    rw [HWo.out, ← HTb.out]
    go_wp2_with fail
    refine (HFw.out wo HPwo.out).mono ?_
    rintro e wf ⟨rfl, hPf⟩
    have HPf := Lib.hid (HPwo.out.pure hPf)
    clear hPf
    go_wp2_with fail
    refine (works_any _).mono ?_
    rintro e wz ⟨rfl, hPz⟩
    go_wp2_with fail
    go_ret
    exact ⟨rfl, (HPf.out.pure hPz).below⟩
  | true =>
    have HD := Lib.hid (HDok.out rfl)
    have HZ := Lib.hid (HSz.out rfl)
    have HDc := Lib.hid (fun W (hP : Pure w W) => doc_any F0 objs oa oc rows root W (HD.out.pure hP) HDs.out)
    have HGd := Lib.hid (fun (hE : docE objs root = 0) => good_doc hE HZ.out (fun i => HD.out.at_wf i))
    have HSp0 := Lib.hid (fun (hE : docE objs root = 0) T n0 kids q Rs (hG : GoodW objs root T n0 kids q Rs) W (hP : Pure w W) => splitg_any (oc := oc) (HD.out.pure hP) HDs.out hE hG)
    have HWk0 := Lib.hid (fun W (hP : Pure w W) => walk_docs F0 objs oa oc rows root W (HD.out.pure hP))
    obtain ⟨E, hE⟩ : ∃ z, z = docE objs root := ⟨_, rfl⟩
    rw [← hE] at HDc
    rw [← HN.out] at HDc
    rw [← hE] at HGd HSp0
    rw [← HN.out] at HSp0
    rw [← HN.out] at HWk0
    clear HDok HSz HDs hE
    by_cases hE : E = 0
    · subst hE
      obtain ⟨T, n0, kids, q, Rs, hG⟩ := HGd.out rfl
      have HSp := Lib.hid (HSp0.out rfl T n0 kids q Rs hG)
      rw [hG.walk] at HWk0
      have HG := Lib.hid hG
      obtain ⟨p, hp⟩ : ∃ z, z = partsP n T.nodes root (rowsL objs Rs) := ⟨_, rfl⟩
      rw [← hp] at HSp
      have hn4 : n ≤ 4094 := by rw [HN.out]; exact hG.good.len
      have HMem : Hid (∀ x, x ∈ p.all ↔ 1 ≤ x ∧ x ≤ (n : Int)) := Lib.hid (fun x => by rw [hp, HN.out]; exact hG.good.mem x)
      have HNd : Hid (p.all.Nodup) := Lib.hid (by rw [hp, HN.out]; exact hG.good.nodup)
      have HOw : Hid (∀ k, k + 1 < Rs.length → ∃ zs hq, p.own[k]? = some (T.pages[k + 1]'hq :: zs)) := Lib.hid (fun k hk => by rw [hp, HN.out]; exact hG.good.own k hk)
      have HFi : Hid (∃ zs hq, p.first = T.pages[0]'hq :: zs) := Lib.hid (by rw [hp, HN.out]; exact hG.good.first)
      have HOl : Hid (p.own.length + 1 = T.pages.length) := Lib.hid (by rw [hp, HN.out]; exact hG.good.own_len)
      have HRp := Lib.hid hG.good.pages
      unfold WkTo at HWk0
      unfold SplitTo at HSp
      simp only at HWk0
      obtain ⟨tn, htn⟩ : ∃ z, z = T.nodes.length := ⟨_, rfl⟩
      obtain ⟨pn, hpn⟩ : ∃ z, z = T.pages.length := ⟨_, rfl⟩
      rw [← htn, ← hpn] at HWk0
      rw [← hpn] at HOl HRp
      have HPn := Lib.hid hpn
      have hpn5 : pn ≤ n := by have h1 := hG.good.fine.tok.len; rw [← HN.out, ← hpn] at h1; omega
      have HAl : Hid (p.all.length ≤ n) := Lib.hid (by
        have h1 := nodup_sub (ys := (List.range n).map (fun i : Nat => (i : Int) + 1)) HNd.out (fun x hx => by
          have := (HMem.out x).1 hx
          exact List.mem_map.2 ⟨(x - 1).toNat, List.mem_range.2 (by omega), by omega⟩)
        rwa [List.length_map, List.length_range] at h1)
      have HPt : Hid (p.tree = root :: T.nodes) := Lib.hid (by rw [hp]; rfl)
      have hPN : PartsN p n := ⟨HMem.out, HNd.out, hn4⟩
      have hroot := (hPN.split root).2 (Or.inr (Or.inl (by rw [HPt.out]; exact List.mem_cons_self)))
      obtain ⟨fz, hfq, hfe⟩ := HFi.out
      have hpage := (hPN.split (T.pages[0]'hfq)).2 (Or.inr (Or.inr (by rw [hfe]; exact List.mem_cons_self)))
      have hn1 : 1 ≤ n := by omega
      have hlen := hPN.len
      obtain ⟨hun, hub⟩ := hPN.unlike
      have hnl : (p.new n).length = n := toP_len _ _
      obtain ⟨ri, hri⟩ : ∃ z : Nat, root = (z : Int) + 1 := ⟨(root - 1).toNat, by omega⟩
      obtain ⟨pi, hpi⟩ : ∃ z : Nat, T.pages[0]'hfq = (z : Int) + 1 := ⟨(T.pages[0]'hfq - 1).toNat, by omega⟩
      have hat1 := hPN.first_tree HPt.out ri (by omega) hri
      have hat2 := hPN.first_page hfe pi (by omega) hpi
      obtain ⟨m1, hm1⟩ : ∃ z, z = p.main.length := ⟨_, rfl⟩
      obtain ⟨h1, hh1⟩ : ∃ z, z = p.main.length + p.tree.length + 1 := ⟨_, rfl⟩
      obtain ⟨u, hu⟩ : ∃ z, z = p.main.length + 2 := ⟨_, rfl⟩
      obtain ⟨v, hv⟩ : ∃ z, z = p.main.length + p.tree.length + 3 := ⟨_, rfl⟩
      rw [← hu] at hat1
      rw [← hv] at hat2
      have HP0 := Lib.hid (intsV_get hfq)
      rw [hpi] at HP0
      have HNw : Hid (∀ W, Pure w W → Calls Try.prog 13 #[.agg #[.slice oa n oc, .int .i64 root]] W (NewTo (orderP p) W)) := Lib.hid (fun W hP => ordernew_any (p := p) (fun W' hP' => HSp.out W' (hP.pure hP')) (by have := HOl.out; omega))
      have HOrd := Lib.hid (order_nums hPN hn1)
      obtain ⟨nw, hnw⟩ : ∃ z, z = p.new n := ⟨_, rfl⟩
      rw [← hnw] at HOrd hat1 hat2 hun hub hnl
      have hun2 : ([(m1 : Int) + 1, (h1 : Int) + 1] ++ nw).Nodup := by
        have e1 : ((p.main.length + 1 : Nat) : Int) = (m1 : Int) + 1 := by omega
        have e2 : ((p.main.length + p.tree.length + 2 : Nat) : Int) = (h1 : Int) + 1 := by omega
        rw [e1, e2] at hun
        exact hun
      have HUn := Lib.hid hun2
      have HUb := Lib.hid hub
      have HNl := Lib.hid hnl
      have HA1 := Lib.hid hat1
      have HA2 := Lib.hid hat2
      have HL1 : Hid ((((orderP p).main.length + 1 : Nat) : Int) = (m1 : Int) + 1) := Lib.hid (by show ((p.main.length + 1 : Nat) : Int) = _; omega)
      have HL2 : Hid ((((orderP p).main.length + (orderP p).head.length + 2 : Nat) : Int) = (h1 : Int) + 1) := Lib.hid (by show ((p.main.length + p.tree.length + 2 : Nat) : Int) = _; omega)
      have HLm : Hid ((orderP p).main.length = p.main.length ∧ (orderP p).head.length = p.tree.length ∧ (orderP p).first.length = p.first.length) := Lib.hid ⟨rfl, rfl, rfl⟩
      have HSum := Lib.hid hlen
      have hm1n : m1 < n + 2 := by omega
      have hh1n : h1 < n + 2 := by omega
      have hmh : m1 < h1 := by omega
      have hrin : ri < n := by omega
      have hpin : pi < n := by omega
      have hun' : u = m1 + 2 := by omega
      have hvn' : v = h1 + 2 := by omega
      have HMm := Lib.hid hm1
      have hpn0 : 0 < pn := by omega
      have HRi := Lib.hid hri
      clear hG hp htn hpn HGd HSp0 hPN hfe hpage hroot hlen hun hub hnl hat1 hat2 hm1 hh1 hu hv hri hpi hnw hun2 HSp HMem HNd HOw HFi HAl HOl HRp HPt
      go_enter Try.func4, Try.ntmps4
      go_wp2_with fail
      rw [HWo.out, ← HTb.out]
      go_wp2_with fail
      refine (HFw.out wo HPwo.out).mono ?_
      rintro e w1 ⟨rfl, hPf⟩
      have HP1 := Lib.hid (HPwo.out.pure hPf)
      have HB1 := Lib.hid (HBd.out.ext hPf id)
      clear hPf
      have e0 : w1.cell? ⟨tb, 0, none⟩ = some (.slice oa n oc) := HB1.out.cell 0
      have e1 : w1.cell? ⟨tb, 1, none⟩ = some (.int .i64 root) := HB1.out.cell 1
      have hb1 : tb < w1.heap.size := HB1.out.lt
      go_wp2_with fail
      refine (HDc.out w1 HP1.out).mono ?_
      rintro e w2 ⟨rfl, hPf⟩
      have HP2 := Lib.hid (HP1.out.pure hPf)
      have HB2 := Lib.hid (HB1.out.ext hPf id)
      clear hPf e0 e1 hb1
      have e0 : w2.cell? ⟨tb, 0, none⟩ = some (.slice oa n oc) := HB2.out.cell 0
      have e1 : w2.cell? ⟨tb, 1, none⟩ = some (.int .i64 root) := HB2.out.cell 1
      have hb1 : tb < w2.heap.size := HB2.out.lt
      go_wp2_with fail
      refine (HNw.out w2 HP2.out).mono ?_
      rintro e w3 ⟨a0, a1, a2, a3, z0, z1, z2, z3, c0, c1, c2, c3, rfl, hO, hPf⟩
      have HP3 := Lib.hid (HP2.out.pure hPf)
      have HB3 := Lib.hid (HB2.out.ext hPf id)
      rw [HL1.out, HL2.out]
      have hOn := hO.now
      obtain ⟨⟨hz0, q0⟩, ⟨hz1, _⟩, ⟨hz2, _⟩, ⟨hz3, _⟩⟩ := hOn.opened
      rw [HOrd.out, HNl.out] at hz0
      rw [HOrd.out] at q0
      rw [HLm.out.1] at hz1
      rw [HLm.out.2.1] at hz2
      rw [HLm.out.2.2] at hz3
      subst hz0
      have hsum : z1 + z2 + z3 = z0 := by have := HSum.out; omega
      obtain ⟨z12, hz12⟩ : ∃ z, z = z1 + z2 := ⟨_, rfl⟩
      have hs12 : (z1 : Int) + (z2 : Int) = (z12 : Int) := by omega
      have hs3 : (z12 : Int) + (z3 : Int) = (z0 : Int) := by omega
      clear hO hOn hPf e0 e1 hb1 hz1 hz2 hz3 hsum hz12
      obtain ⟨w4, hw4⟩ : ∃ z, z = w3.alloc (.cells #[.slice a0 z0 c0, .slice a1 z1 c1, .slice a2 z2 c2, .slice a3 z3 c3, .int .i64 ((m1 : Int) + 1), .int .i64 ((h1 : Int) + 1)] 29) := ⟨_, rfl⟩
      have hP4 : Pure w3 w4 := by rw [hw4]; exact ext_alloc w3 _
      have HS4 : Hid (BlockIs w4 w3.heap.size [.slice a0 z0 c0, .slice a1 z1 c1, .slice a2 z2 c2, .slice a3 z3 c3, .int .i64 ((m1 : Int) + 1), .int .i64 ((h1 : Int) + 1)] 29) := Lib.hid (by rw [hw4]; exact BlockIs.new w3 _ _)
      have HP4 := Lib.hid (HP3.out.pure hP4)
      have HB4 := Lib.hid (HB3.out.ext hP4 id)
      have HQ4 := Lib.hid (q0.pure hP4)
      have HW4 : Hid (w3.alloc (.cells #[.slice a0 z0 c0, .slice a1 z1 c1, .slice a2 z2 c2, .slice a3 z3 c3, .int .i64 ((m1 : Int) + 1), .int .i64 ((h1 : Int) + 1)] 29) = w4) := Lib.hid hw4.symm
      obtain ⟨sb, hsb⟩ : ∃ z, z = w3.heap.size := ⟨_, rfl⟩
      rw [← hsb] at HS4
      have HSb := Lib.hid hsb.symm
      clear hw4 hP4 hsb HB3 q0
      have e0 : w4.cell? ⟨tb, 0, none⟩ = some (.slice oa z0 oc) := HB4.out.cell 0
      have s0 : w4.cell? ⟨sb, 0, none⟩ = some (.slice a0 z0 c0) := HS4.out.cell 0
      have s1 : w4.cell? ⟨sb, 1, none⟩ = some (.slice a1 z1 c1) := HS4.out.cell 1
      have s2 : w4.cell? ⟨sb, 2, none⟩ = some (.slice a2 z2 c2) := HS4.out.cell 2
      have s3 : w4.cell? ⟨sb, 3, none⟩ = some (.slice a3 z3 c3) := HS4.out.cell 3
      have s4 : w4.cell? ⟨sb, 4, none⟩ = some (.int .i64 ((m1 : Int) + 1)) := HS4.out.cell 4
      have s5 : w4.cell? ⟨sb, 5, none⟩ = some (.int .i64 ((h1 : Int) + 1)) := HS4.out.cell 5
      have hb1 : tb < w4.heap.size := HB4.out.lt
      have hb2 : sb < w4.heap.size := HS4.out.lt
      have g1 : ¬ (m1 : Int) + 1 < 1 := by omega
      have g2 : ¬ (h1 : Int) ≤ (m1 : Int) := by omega
      have g3 : ¬ (z0 : Int) + 2 < (h1 : Int) + 1 := by omega
      obtain ⟨N2, hN2⟩ : ∃ z, z = z0 + 2 := ⟨_, rfl⟩
      obtain ⟨ii, hi, hz, hsize, hby⟩ := info_parts infoI
      have HI := Lib.hid hi
      have HZi := Lib.hid hz
      have HSi := Lib.hid hsize
      have HBy : Hid (ii.bytes * N2 ≤ 281474976710656) := Lib.hid (by rw [hby]; omega)
      have HMx : Hid (N2 ≤ 9223372036854775807) := Lib.hid (by omega)
      have HN2 : Hid ((z0 : Int) + 2 = (N2 : Int)) := Lib.hid (by omega)
      clear hi hz hsize hby
      obtain ⟨W1, hW1⟩ : ∃ z, z = w4.alloc (.cells (intsV (List.replicate N2 0)).toArray 3) := ⟨_, rfl⟩
      obtain ⟨mk, hmk⟩ : ∃ z, z = w4.heap.size := ⟨_, rfl⟩
      have HW1 : Hid (w4.alloc (.cells (madeCells #[.int .i64 0] N2) 3) = W1) := Lib.hid (by rw [hW1]; exact rep_ints N2 _ w4)
      have HMk := Lib.hid hmk
      have hB1 : BlockIs W1 mk (intsV (metP N2 [])) 3 := by rw [metP_nil, hW1, hmk]; exact BlockIs.new w4 _ _
      have hPA1 : Pure w4 W1 := by rw [hW1]; exact ext_alloc _ _
      have r4 : W1.cell? ⟨sb, 4, none⟩ = some (.int .i64 ((m1 : Int) + 1)) := hPA1.cell_some s4 id
      have c1 : W1.cell? ⟨mk, m1, none⟩ = some (.int .i64 0) := by rw [hB1.cell, intsV, List.getElem?_map, metP_get (by omega)]; rfl
      have f1 : W1.frozen? ⟨mk, m1, none⟩ = false := hB1.free m1
      obtain ⟨W2, hW2⟩ : ∃ z, z = W1.setCell ⟨mk, m1, none⟩ (.int .i64 1) := ⟨_, rfl⟩
      have hB2' : BlockIs W2 mk (intsV (metP N2 [(m1 : Int) + 1])) 3 := by
        rw [hW2]
        have h := hB1.set m1 (.int .i64 1)
        rw [intsV_set', metP_set _ (by omega)] at h
        exact h
      have hX2 : Ext (fun b => b = mk) W1 W2 := by rw [hW2]; exact Ext.setCell (S := fun b => b = mk) (Ext.refl _ _) (p := ⟨mk, m1, none⟩) (fun _ => rfl) _
      have hsm : sb ≠ mk := by omega
      have r5 : W2.cell? ⟨sb, 5, none⟩ = some (.int .i64 ((h1 : Int) + 1)) := hX2.cell_some (hPA1.cell_some s5 id) (fun e => hsm e)
      have c2 : W2.cell? ⟨mk, h1, none⟩ = some (.int .i64 0) := by
        rw [hB2'.cell, intsV, List.getElem?_map, metP_get (by omega), if_neg (by rw [List.mem_singleton]; omega)]
        rfl
      have f2 : W2.frozen? ⟨mk, h1, none⟩ = false := hB2'.free h1
      obtain ⟨W3, hW3⟩ : ∃ z, z = W2.setCell ⟨mk, h1, none⟩ (.int .i64 1) := ⟨_, rfl⟩
      have HB3' : Hid (BlockIs W3 mk (intsV (metP N2 ([(m1 : Int) + 1, (h1 : Int) + 1] ++ nw.take 0))) 3) := Lib.hid (by
        rw [hW3]
        have h := hB2'.set h1 (.int .i64 1)
        rw [intsV_set', metP_set _ (by omega)] at h
        exact h)
      have hX3 : Ext (fun b => b = mk) W2 W3 := by rw [hW3]; exact Ext.setCell (S := fun b => b = mk) (Ext.refl _ _) (p := ⟨mk, h1, none⟩) (fun _ => rfl) _
      have HX3 : Hid (Ext (fun b => b = mk) W1 W3) := Lib.hid (hX2.trans hX3 (fun _ _ e => e))
      have HPA1 := Lib.hid hPA1
      have HW2 : Hid (W1.setCell ⟨mk, m1, none⟩ (.int .i64 1) = W2) := Lib.hid hW2.symm
      have HW3 : Hid (W2.setCell ⟨mk, h1, none⟩ (.int .i64 1) = W3) := Lib.hid hW3.symm
      have hm1i : (m1 : Int) + 1 - 1 = (m1 : Int) := by omega
      have hh1i : (h1 : Int) + 1 - 1 = (h1 : Int) := by omega
      have hm1N : (m1 : Int) < (N2 : Int) := by omega
      have hh1N : (h1 : Int) < (N2 : Int) := by omega
      have hm10 : (0 : Int) ≤ (m1 : Int) := by omega
      have hh10 : (0 : Int) ≤ (h1 : Int) := by omega
      have HNe := Lib.hid hN2
      clear hW1 hmk hB1 hPA1 hW2 hB2' hX2 hW3 hX3 hN2
      go_upto_region 4 with (fail)
      rw [HW4.out, HSb.out]
      go_upto_region 9 with (rw [HN2.out]; refine wpList_make_row _ rfl (.tmp 73) (.tmp 73) 22 rfl 3 ii (.int .i64 0) Try.underlying22 HI.out HZi.out HSi.out rfl .i64 .i64 N2 rfl rfl HBy.out HMx.out ?_; rw [HW1.out, ← HMk.out])
      rw [HW2.out]
      go_upto_region 10 with (fail)
      rw [HW3.out]
      go_wp2_with fail
      clear e0 s0 s1 s2 s3 s4 s5 r4 r5 c1 f1 c2 f2 hb1 hb2 g1 g2 g3
      obtain ⟨Wb, hWb⟩ : ∃ z, z = W3 := ⟨_, rfl⟩
      go_loopw [7] (fun i wr => ∃ j : Nat, j ≤ z0 ∧ i = .int .i64 j ∧ Hid (BlockIs wr mk (intsV (metP N2 ([(m1 : Int) + 1, (h1 : Int) + 1] ++ nw.take j))) 3) ∧ Hid (Ext (fun b => b = mk) W1 wr)) (fun i _ => z0 - (intOf i).toNat)
      case atStart => exact ⟨0, Nat.zero_le _, rfl, HB3', HX3⟩
      case round =>
        obtain ⟨j, hj, rfl, HB, HE⟩ := hrel
        have HSr := Lib.hid ((HS4.out.ext HPA1.out id).ext HE.out (fun e => hsm e))
        have HQr := Lib.hid ((HQ4.out.pure HPA1.out).1)
        by_cases hltj : j < z0
        · have hkj : (j : Int) < (z0 : Int) := by omega
          have hj0 : (0 : Int) ≤ (j : Int) := by omega
          have hja : j < nw.length := by rw [HNl.out]; exact hltj
          obtain ⟨xb, xo, rfl, hxc0⟩ := HQ4.out.1 j _ (intsV_get hja)
          obtain ⟨x, hx⟩ : ∃ z, z = nw[j] := ⟨_, rfl⟩
          have hxm := HUb.out x (by rw [hx]; exact List.getElem_mem hja)
          have hxn : x ∉ [(m1 : Int) + 1, (h1 : Int) + 1] ++ nw.take j := fun hh => by
            have hnd := HUn.out
            rw [List.nodup_append] at hnd
            rcases List.mem_append.1 hh with hh | hh
            · exact hnd.2.2 x hh x (by rw [hx]; exact List.getElem_mem hja) rfl
            · obtain ⟨i2, hi2, he2⟩ := List.mem_iff_getElem.1 hh
              rw [List.length_take] at hi2
              rw [List.getElem_take, hx] at he2
              have := (List.getElem_inj hnd.2.1).1 he2
              omega
          have HTk : Hid (nw.take (j + 1) = nw.take j ++ [x]) := Lib.hid (by rw [List.take_succ_eq_append_getElem hja, hx])
          rw [← hx] at hxc0
          clear hx
          have hxbm : xb ≠ mk := by have := World.block_lt_of_cell? w4 _ hxc0; have := HMk.out; simp only at *; omega
          have hxc := HE.out.cell_some (HPA1.out.cell_some hxc0 id) (fun e => hxbm e)
          obtain ⟨y, rfl⟩ : ∃ y : Nat, x = (y : Int) + 1 := ⟨(x - 1).toNat, by omega⟩
          have hyn : y < N2 := by have := HNe.out; omega
          have hyi : (y : Int) < (N2 : Int) := by omega
          have hx1 : ¬ (y : Int) + 1 < 1 := by omega
          have hx2 : ¬ (N2 : Int) < (y : Int) + 1 := by have := HNe.out; omega
          have hx3 : ¬ (z0 : Int) + 2 < (y : Int) + 1 := by omega
          have hy0 : (0 : Int) ≤ (y : Int) := by omega
          have hy1 : (y : Int) + 1 - 1 = (y : Int) := by omega
          have c0z : wr.cell? ⟨mk, y, none⟩ = some (.int .i64 0) := by
            rw [HB.out.cell, intsV, List.getElem?_map, metP_get hyn, if_neg hxn]
            rfl
          have f0 : wr.frozen? ⟨mk, y, none⟩ = false := HB.out.free y
          have HB2 : Hid (BlockIs (wr.setCell ⟨mk, y, none⟩ (.int .i64 1)) mk (intsV (metP N2 ([(m1 : Int) + 1, (h1 : Int) + 1] ++ nw.take (j + 1)))) 3) := Lib.hid (by
            have h := HB.out.set y (.int .i64 1)
            rw [intsV_set', metP_set _ hyn, List.append_assoc, ← HTk.out] at h
            exact h)
          have HE2 : Hid (Ext (fun b => b = mk) W1 (wr.setCell ⟨mk, y, none⟩ (.int .i64 1))) := Lib.hid (HE.out.setCell (p := ⟨mk, y, none⟩) (fun _ => rfl) _)
          have s0 : wr.cell? ⟨sb, 0, none⟩ = some (.slice (some ⟨xb, xo, none⟩) z0 c0) := HSr.out.cell 0
          clear hxm hxn hxc0
          go_wp2_with fail
          go_roundw
          case rel => exact ⟨j + 1, by omega, by go_num, HB2, HE2⟩
          case measure => simp [intOf]; omega
        · have hkj : ¬ (j : Int) < (z0 : Int) := by omega
          clear HB
          have HPr : Hid (Pure w wr) := Lib.hid ((HP4.out.pure HPA1.out).trans HE.out (fun i hi e => by have h1 := HMk.out; have h2 := HP4.out.size; have e2 : i = mk := e; omega))
          have HBr := Lib.hid ((HB4.out.ext HPA1.out id).ext HE.out (fun e => by have h1 := HB4.out.lt; have h2 := HMk.out; have e2 : tb = mk := e; omega))
          have e0 : wr.cell? ⟨tb, 0, none⟩ = some (.slice oa z0 oc) := HBr.out.cell 0
          have e1 : wr.cell? ⟨tb, 0 + 1, none⟩ = some (.int .i64 root) := HBr.out.cell 1
          go_wp2_with fail
          refine (HWk0.out wr HPr.out).mono ?_
          rintro e w5 ⟨na, nc, pa, pc, rfl, hPf, hRn, hRp, _, _, _, hpn0', _, _, hpc, hpcm⟩
          obtain ⟨w6, hw6⟩ : ∃ z, z = w5.alloc (.cells #[.slice na tn nc, .slice pa pn pc] 45) := ⟨_, rfl⟩
          have hPr6 : Pure wr w6 := by rw [hw6]; exact hPf.pure (ext_alloc w5 _)
          have hP46 : Pure w4 w6 := (HPA1.out.trans HE.out (fun i hi e => by have h2 := HMk.out; have e2 : i = mk := e; omega) : Pure w4 wr).pure hPr6
          have HT6 : Hid (BlockIs w6 w5.heap.size [.slice na tn nc, .slice pa pn pc] 45) := Lib.hid (by rw [hw6]; exact BlockIs.new w5 _ _)
          have HW6 := Lib.hid hw6.symm
          have HB6 := Lib.hid (HB4.out.ext hP46 id)
          have HS6 := Lib.hid (HS4.out.ext hP46 id)
          have HP6 := Lib.hid (HP4.out.pure hP46)
          obtain ⟨pb, po, rfl, hpc0⟩ := (hRp.ext (show Pure w5 w6 by rw [hw6]; exact ext_alloc w5 _) (fun _ _ => id)) 0 _ HP0.out
          rw [Nat.add_zero] at hpc0
          obtain ⟨xb, xo, rfl, hc1⟩ := (HQ4.out.1.ext hP46 (fun _ _ => id)) ri (.int .i64 (u : Int)) (by rw [intsV, List.getElem?_map, HA1.out]; rfl)
          obtain ⟨xb2, xo2, hxe, hc2⟩ := (HQ4.out.1.ext hP46 (fun _ _ => id)) pi (.int .i64 (v : Int)) (by rw [intsV, List.getElem?_map, HA2.out]; rfl)
          cases hxe
          obtain ⟨kb, hkb⟩ : ∃ z, z = w5.heap.size := ⟨_, rfl⟩
          rw [← hkb] at HT6
          have HKb := Lib.hid hkb.symm
          have hroot1 : root - 1 = (ri : Int) := by have := HRi.out; omega
          have hwri : IntKind.i64.wrap (ri : Int) = (ri : Int) := by rw [IntKind.wrap_i64]; omega
          have hpi1 : (pi : Int) + 1 - 1 = (pi : Int) := by omega
          have hwpi : IntKind.i64.wrap (pi : Int) = (pi : Int) := by rw [IntKind.wrap_i64]; omega
          have hwu : IntKind.i64.wrap ((m1 : Int) + 1 + 1) = (u : Int) := by rw [IntKind.wrap_i64]; omega
          have hwv : IntKind.i64.wrap ((h1 : Int) + 1 + 1) = (v : Int) := by rw [IntKind.wrap_i64]; omega
          have hrii : (ri : Int) < (z0 : Int) := by omega
          have hri0 : (0 : Int) ≤ (ri : Int) := by omega
          have hpii : (pi : Int) < (z0 : Int) := by omega
          have hpi0 : (0 : Int) ≤ (pi : Int) := by omega
          have hpn0i : (0 : Int) < (pn : Int) := by omega
          have hC1 := Lib.hid hc1
          have hC2 := Lib.hid hc2
          have hC3 := Lib.hid hpc0
          clear hw6 hPr6 hP46 hPf hRn hRp hpn0' hpc hpcm hkb e0 e1 hc1 hc2 hpc0 hun' hvn' hs12 hs3 hm1i hh1i hm1N hh1N hm10 hh10
          go_upto_region 18 with (fail)
          rw [HW6.out, HKb.out]
          have hBd := HB6.out.drew
          have hSd := HS6.out.drew
          have hTd := HT6.out.drew
          have hPw := HP6.out.drew
          have hPd : Pure w6 w6.drew := (Ext.refl _ w6).drew
          refine region_start (fun _ => False) (by kernel_rfl) ?_
          try simp only [Act.put, List.setIfInBounds_toArray, List.set_cons_zero, List.set_cons_succ]
          refine region_take 0 120 (v := ?vzz0) rfl rfl (by kernel_rfl) (by kernel_rfl) (by kernel_rfl) (fun _ _ _ h => h) (by rfl) (fun w' hS => ?hzz0) ?rzz0
          case hzz0 => go_simp; with_reducible rfl
          try simp only [Act.put, List.setIfInBounds_toArray, List.set_cons_zero, List.set_cons_succ]
          refine region_take 1 121 (v := ?vzz1) rfl rfl (by kernel_rfl) (by kernel_rfl) (by kernel_rfl) (fun _ _ _ h => h) (by rfl) (fun w' hS => ?hzz1) ?rzz1
          case hzz1 => (have e : w'.cell? ⟨sb, 0, none⟩ = some (.slice (some ⟨xb, xo, none⟩) z0 c0) := (hSd.ext hS id).cell 0; go_simp; with_reducible rfl)
          try simp only [Act.put, List.setIfInBounds_toArray, List.set_cons_zero, List.set_cons_succ]
          refine region_take 2 122 (v := ?vzz2) rfl rfl (by kernel_rfl) (by kernel_rfl) (by kernel_rfl) (fun _ _ _ h => h) (by rfl) (fun w' hS => ?hzz2) ?rzz2
          case hzz2 => go_simp; with_reducible rfl
          try simp only [Act.put, List.setIfInBounds_toArray, List.set_cons_zero, List.set_cons_succ]
          refine region_take 3 123 (v := ?vzz3) rfl rfl (by kernel_rfl) (by kernel_rfl) (by kernel_rfl) (fun _ _ _ h => h) (by rfl) (fun w' hS => ?hzz3) ?rzz3
          case hzz3 => (have e : w'.cell? ⟨tb, 1, none⟩ = some (.int .i64 root) := (hBd.ext hS id).cell 1; go_simp; with_reducible rfl)
          try simp only [Act.put, List.setIfInBounds_toArray, List.set_cons_zero, List.set_cons_succ]
          refine region_take 4 124 (v := ?vzz4) rfl rfl (by kernel_rfl) (by kernel_rfl) (by kernel_rfl) (fun _ _ _ h => h) (by rfl) (fun w' hS => ?hzz4) ?rzz4
          case hzz4 => go_simp; with_reducible rfl
          try simp only [Act.put, List.setIfInBounds_toArray, List.set_cons_zero, List.set_cons_succ]
          refine region_take 5 125 (v := ?vzz5) rfl rfl (by kernel_rfl) (by kernel_rfl) (by kernel_rfl) (fun _ _ _ h => h) (by rfl) (fun w' hS => ?hzz5) ?rzz5
          case hzz5 => go_simp; with_reducible rfl
          try simp only [Act.put, List.setIfInBounds_toArray, List.set_cons_zero, List.set_cons_succ]
          refine region_take 6 126 (v := ?vzz6) rfl rfl (by kernel_rfl) (by kernel_rfl) (by kernel_rfl) (fun _ _ _ h => h) (by rfl) (fun w' hS => ?hzz6) ?rzz6
          case hzz6 => (have e : w'.cell? ⟨xb, xo + ri, none⟩ = some (.int .i64 (u : Int)) := (hPd.pure hS).cell_some hC1.out id; go_simp; with_reducible rfl)
          try simp only [Act.put, List.setIfInBounds_toArray, List.set_cons_zero, List.set_cons_succ]
          refine region_take 7 127 (v := ?vzz7) rfl rfl (by kernel_rfl) (by kernel_rfl) (by kernel_rfl) (fun _ _ _ h => h) (by rfl) (fun w' hS => ?hzz7) ?rzz7
          case hzz7 => go_simp; with_reducible rfl
          try simp only [Act.put, List.setIfInBounds_toArray, List.set_cons_zero, List.set_cons_succ]
          refine region_take 8 128 (v := ?vzz8) rfl rfl (by kernel_rfl) (by kernel_rfl) (by kernel_rfl) (fun _ _ _ h => h) (by rfl) (fun w' hS => ?hzz8) ?rzz8
          case hzz8 => (have e : w'.cell? ⟨sb, 4, none⟩ = some (.int .i64 ((m1 : Int) + 1)) := (hSd.ext hS id).cell 4; go_simp; with_reducible rfl)
          try simp only [Act.put, List.setIfInBounds_toArray, List.set_cons_zero, List.set_cons_succ]
          refine region_take 9 129 (v := ?vzz9) rfl rfl (by kernel_rfl) (by kernel_rfl) (by kernel_rfl) (fun _ _ _ h => h) (by rfl) (fun w' hS => ?hzz9) ?rzz9
          case hzz9 => go_simp; with_reducible rfl
          try simp only [Act.put, List.setIfInBounds_toArray, List.set_cons_zero, List.set_cons_succ]
          refine region_take 10 130 (v := ?vzz10) rfl rfl (by kernel_rfl) (by kernel_rfl) (by kernel_rfl) (fun _ _ _ h => h) (by rfl) (fun w' hS => ?hzz10) ?rzz10
          case hzz10 => go_simp; with_reducible rfl
          try simp only [Act.put, List.setIfInBounds_toArray, List.set_cons_zero, List.set_cons_succ]
          refine region_take 11 131 (v := ?vzz11) rfl rfl (by kernel_rfl) (by kernel_rfl) (by kernel_rfl) (fun _ _ _ h => h) (by rfl) (fun w' hS => ?hzz11) ?rzz11
          case hzz11 => go_simp; with_reducible rfl
          try simp only [Act.put, List.setIfInBounds_toArray, List.set_cons_zero, List.set_cons_succ]
          refine region_take 12 132 (v := ?vzz12) rfl rfl (by kernel_rfl) (by kernel_rfl) (by kernel_rfl) (fun _ _ _ h => h) (by rfl) (fun w' hS => ?hzz12) ?rzz12
          case hzz12 => go_simp; with_reducible rfl
          try simp only [Act.put, List.setIfInBounds_toArray, List.set_cons_zero, List.set_cons_succ]
          refine region_take 13 133 (v := ?vzz13) rfl rfl (by kernel_rfl) (by kernel_rfl) (by kernel_rfl) (fun _ _ _ h => h) (by rfl) (fun w' hS => ?hzz13) ?rzz13
          case hzz13 => (have e : w'.cell? ⟨kb, 1, none⟩ = some (.slice (some ⟨pb, po, none⟩) pn pc) := (hTd.ext hS id).cell 1; go_simp; with_reducible rfl)
          try simp only [Act.put, List.setIfInBounds_toArray, List.set_cons_zero, List.set_cons_succ]
          refine region_take 14 134 (v := ?vzz14) rfl rfl (by kernel_rfl) (by kernel_rfl) (by kernel_rfl) (fun _ _ _ h => h) (by rfl) (fun w' hS => ?hzz14) ?rzz14
          case hzz14 => go_simp; with_reducible rfl
          try simp only [Act.put, List.setIfInBounds_toArray, List.set_cons_zero, List.set_cons_succ]
          refine region_take 15 135 (v := ?vzz15) rfl rfl (by kernel_rfl) (by kernel_rfl) (by kernel_rfl) (fun _ _ _ h => h) (by rfl) (fun w' hS => ?hzz15) ?rzz15
          case hzz15 => go_simp; with_reducible rfl
          try simp only [Act.put, List.setIfInBounds_toArray, List.set_cons_zero, List.set_cons_succ]
          refine region_take 16 136 (v := ?vzz16) rfl rfl (by kernel_rfl) (by kernel_rfl) (by kernel_rfl) (fun _ _ _ h => h) (by rfl) (fun w' hS => ?hzz16) ?rzz16
          case hzz16 => go_simp; with_reducible rfl
          try simp only [Act.put, List.setIfInBounds_toArray, List.set_cons_zero, List.set_cons_succ]
          refine region_take 17 137 (v := ?vzz17) rfl rfl (by kernel_rfl) (by kernel_rfl) (by kernel_rfl) (fun _ _ _ h => h) (by rfl) (fun w' hS => ?hzz17) ?rzz17
          case hzz17 => go_simp; with_reducible rfl
          try simp only [Act.put, List.setIfInBounds_toArray, List.set_cons_zero, List.set_cons_succ]
          refine region_take 18 138 (v := ?vzz18) rfl rfl (by kernel_rfl) (by kernel_rfl) (by kernel_rfl) (fun _ _ _ h => h) (by rfl) (fun w' hS => ?hzz18) ?rzz18
          case hzz18 => go_simp; with_reducible rfl
          try simp only [Act.put, List.setIfInBounds_toArray, List.set_cons_zero, List.set_cons_succ]
          refine region_take 19 139 (v := ?vzz19) rfl rfl (by kernel_rfl) (by kernel_rfl) (by kernel_rfl) (fun _ _ _ h => h) (by rfl) (fun w' hS => ?hzz19) ?rzz19
          case hzz19 => (have e : w'.cell? ⟨sb, 0, none⟩ = some (.slice (some ⟨xb, xo, none⟩) z0 c0) := (hSd.ext hS id).cell 0; go_simp; with_reducible rfl)
          try simp only [Act.put, List.setIfInBounds_toArray, List.set_cons_zero, List.set_cons_succ]
          refine region_take 20 140 (v := ?vzz20) rfl rfl (by kernel_rfl) (by kernel_rfl) (by kernel_rfl) (fun _ _ _ h => h) (by rfl) (fun w' hS => ?hzz20) ?rzz20
          case hzz20 => go_simp; with_reducible rfl
          try simp only [Act.put, List.setIfInBounds_toArray, List.set_cons_zero, List.set_cons_succ]
          refine region_take 21 141 (v := ?vzz21) rfl rfl (by kernel_rfl) (by kernel_rfl) (by kernel_rfl) (fun _ _ _ h => h) (by rfl) (fun w' hS => ?hzz21) ?rzz21
          case hzz21 => (have e : w'.cell? ⟨kb, 1, none⟩ = some (.slice (some ⟨pb, po, none⟩) pn pc) := (hTd.ext hS id).cell 1; go_simp; with_reducible rfl)
          try simp only [Act.put, List.setIfInBounds_toArray, List.set_cons_zero, List.set_cons_succ]
          refine region_take 22 142 (v := ?vzz22) rfl rfl (by kernel_rfl) (by kernel_rfl) (by kernel_rfl) (fun _ _ _ h => h) (by rfl) (fun w' hS => ?hzz22) ?rzz22
          case hzz22 => go_simp; with_reducible rfl
          try simp only [Act.put, List.setIfInBounds_toArray, List.set_cons_zero, List.set_cons_succ]
          refine region_take 23 143 (v := ?vzz23) rfl rfl (by kernel_rfl) (by kernel_rfl) (by kernel_rfl) (fun _ _ _ h => h) (by rfl) (fun w' hS => ?hzz23) ?rzz23
          case hzz23 => (have e : w'.cell? ⟨pb, po, none⟩ = some (.int .i64 ((pi : Int) + 1)) := (hPd.pure hS).cell_some hC3.out id; go_simp; with_reducible rfl)
          try simp only [Act.put, List.setIfInBounds_toArray, List.set_cons_zero, List.set_cons_succ]
          refine region_take 24 144 (v := ?vzz24) rfl rfl (by kernel_rfl) (by kernel_rfl) (by kernel_rfl) (fun _ _ _ h => h) (by rfl) (fun w' hS => ?hzz24) ?rzz24
          case hzz24 => go_simp; with_reducible rfl
          try simp only [Act.put, List.setIfInBounds_toArray, List.set_cons_zero, List.set_cons_succ]
          refine region_take 25 145 (v := ?vzz25) rfl rfl (by kernel_rfl) (by kernel_rfl) (by kernel_rfl) (fun _ _ _ h => h) (by rfl) (fun w' hS => ?hzz25) ?rzz25
          case hzz25 => go_simp; with_reducible rfl
          try simp only [Act.put, List.setIfInBounds_toArray, List.set_cons_zero, List.set_cons_succ]
          refine region_take 26 146 (v := ?vzz26) rfl rfl (by kernel_rfl) (by kernel_rfl) (by kernel_rfl) (fun _ _ _ h => h) (by rfl) (fun w' hS => ?hzz26) ?rzz26
          case hzz26 => (have e : w'.cell? ⟨xb, xo + pi, none⟩ = some (.int .i64 (v : Int)) := (hPd.pure hS).cell_some hC2.out id; go_simp; with_reducible rfl)
          try simp only [Act.put, List.setIfInBounds_toArray, List.set_cons_zero, List.set_cons_succ]
          refine region_take 27 147 (v := ?vzz27) rfl rfl (by kernel_rfl) (by kernel_rfl) (by kernel_rfl) (fun _ _ _ h => h) (by rfl) (fun w' hS => ?hzz27) ?rzz27
          case hzz27 => go_simp; with_reducible rfl
          try simp only [Act.put, List.setIfInBounds_toArray, List.set_cons_zero, List.set_cons_succ]
          refine region_take 28 148 (v := ?vzz28) rfl rfl (by kernel_rfl) (by kernel_rfl) (by kernel_rfl) (fun _ _ _ h => h) (by rfl) (fun w' hS => ?hzz28) ?rzz28
          case hzz28 => (have e : w'.cell? ⟨sb, 5, none⟩ = some (.int .i64 ((h1 : Int) + 1)) := (hSd.ext hS id).cell 5; go_simp; with_reducible rfl)
          try simp only [Act.put, List.setIfInBounds_toArray, List.set_cons_zero, List.set_cons_succ]
          refine region_take 29 149 (v := ?vzz29) rfl rfl (by kernel_rfl) (by kernel_rfl) (by kernel_rfl) (fun _ _ _ h => h) (by rfl) (fun w' hS => ?hzz29) ?rzz29
          case hzz29 => go_simp; with_reducible rfl
          try simp only [Act.put, List.setIfInBounds_toArray, List.set_cons_zero, List.set_cons_succ]
          refine region_take 30 150 (v := ?vzz30) rfl rfl (by kernel_rfl) (by kernel_rfl) (by kernel_rfl) (fun _ _ _ h => h) (by rfl) (fun w' hS => ?hzz30) ?rzz30
          case hzz30 => go_simp; with_reducible rfl
          try simp only [Act.put, List.setIfInBounds_toArray, List.set_cons_zero, List.set_cons_succ]
          refine region_take 31 151 (v := ?vzz31) rfl rfl (by kernel_rfl) (by kernel_rfl) (by kernel_rfl) (fun _ _ _ h => h) (by rfl) (fun w' hS => ?hzz31) ?rzz31
          case hzz31 => go_simp; with_reducible rfl
          try simp only [Act.put, List.setIfInBounds_toArray, List.set_cons_zero, List.set_cons_succ]
          refine region_take 32 152 (v := ?vzz32) rfl rfl (by kernel_rfl) (by kernel_rfl) (by kernel_rfl) (fun _ _ _ h => h) (by rfl) (fun w' hS => ?hzz32) ?rzz32
          case hzz32 => go_simp; with_reducible rfl
          try simp only [Act.put, List.setIfInBounds_toArray, List.set_cons_zero, List.set_cons_succ]
          refine wpAnyH_ready (rs := [33]) (by kernel_rfl) (by simp) (AllReadyH.cons rfl (fun K hK => ?_) AllReadyH.nil)
          go_simp
          refine (works_any _).mono ?_
          rintro e wv ⟨rfl, hP⟩
          have hPw := hPw.pure hP
          refine hK.out _ _ (hP) (fun hHeld => ?_)
          clear hK K hHeld
          refine region_now (hP) ?_
          try simp only [Act.put, List.setIfInBounds_toArray, List.set_cons_zero, List.set_cons_succ]
          refine region_take 34 154 (v := ?vzz34) rfl rfl (by kernel_rfl) (by kernel_rfl) (by kernel_rfl) (fun _ _ _ h => h) (by rfl) (fun w' hS => ?hzz34) ?rzz34
          case hzz34 => go_simp; with_reducible rfl
          try simp only [Act.put, List.setIfInBounds_toArray, List.set_cons_zero, List.set_cons_succ]
          refine region_take 35 2 (v := ?vzz35) rfl rfl (by kernel_rfl) (by kernel_rfl) (by kernel_rfl) (fun _ _ _ h => h) (by rfl) (fun w' hS => ?hzz35) ?rzz35
          case hzz35 => go_simp; with_reducible rfl
          try simp only [Act.put, List.setIfInBounds_toArray, List.set_cons_zero, List.set_cons_succ]
          refine wpAnyH_done (by kernel_rfl) ?_ _
          go_simp
          try simp only [Act.put, List.setIfInBounds_toArray, List.set_cons_zero, List.set_cons_succ]
          go_wp2_with fail
          go_ret
          exact ⟨rfl, hPw.below⟩
    · have hEb : (E != 0) = true := by simpa using hE
      clear HGd HSp0 HWk0 hE
      go_enter Try.func4, Try.ntmps4
      go_wp2_with fail
      rw [HWo.out, ← HTb.out]
      go_wp2_with fail
      refine (HFw.out wo HPwo.out).mono ?_
      rintro e w1 ⟨rfl, hPf⟩
      have HP1 := Lib.hid (HPwo.out.pure hPf)
      have HB1 := Lib.hid (HBd.out.ext hPf id)
      clear hPf
      have e0 : w1.cell? ⟨tb, 0, none⟩ = some (.slice oa n oc) := HB1.out.cell 0
      have e1 : w1.cell? ⟨tb, 1, none⟩ = some (.int .i64 root) := HB1.out.cell 1
      have hb1 : tb < w1.heap.size := HB1.out.lt
      go_wp2_with fail
      refine (HDc.out w1 HP1.out).mono ?_
      rintro e w2 ⟨rfl, hPf⟩
      have HP2 := Lib.hid (HP1.out.pure hPf)
      clear hPf e0 e1 hb1
      go_wp2_with fail
      refine (works_any _).mono ?_
      rintro e wz ⟨rfl, hPz⟩
      go_wp2_with fail
      go_ret
      exact ⟨rfl, (HP2.out.pure hPz).below⟩

set_option maxRecDepth 100000 in
theorem lifted (os : Os) (started : os.Started) (H : Type) (enc : TypeId × Value → H) :
    ReturnsInHanded {} Try.checked os 4 .any (Rows.orderOnceSpec.pre6 enc Try.prog Try.f4 Rows.orderOnceRow.domain false) (Rows.orderOnceSpec.post enc Try.prog Try.f4 false true false false) := by
  refine returnsInHanded_of_change (C := Try.checked) own started (by kernel_rfl) Try.func4
    (ChangeSpec.witness6 (enc := enc) (C := Try.checked) false ⟨#[], #[.agg #[.slice none 0 0, .int .i64 0]], []⟩ 8 (by kernel_rfl) (by kernel_rfl) (by kernel_rfl) (by kernel_rfl)) ?_
  intro W base args ds gs before hval0 hW hcnd _
  have hval : ∀ (j : Nat) t v, Try.f4.params[j]? = some t → args[j]? = some v → Value.okWide Try.prog W .any base t v := hval0
  have hW' := hW
  obtain ⟨p, q, hA0, hV, rfl, hfz, hnd⟩ := hW
  have hA : DataW.TrodAll enc Try.prog W 0 (fun _ => true) true Try.f4.params.toList args.toList ds p := hA0
  rw [Try.params4] at hA hval
  obtain ⟨v0, vs0, d0, ds0, p0, q0, hargs, rfl, rfl, h0, r0⟩ := trodAll_cons hA
  obtain ⟨rfl, rfl, rfl⟩ := trodAll_nil r0
  obtain rfl : args = #[v0] := by cases args; simp_all
  obtain ⟨rfl, rfl⟩ := trodVars_none hV
  have k0 := h0
  have lt0 : ∀ x ∈ p0, x.block < W.heap.size := by obtain ⟨m, hm⟩ := k0; exact DataW.trod_lt m _ _ _ hm
  obtain ⟨F0, objs, oa, oc, rows, root, rfl, hOK0, hoc0, hcm0, hwf0, _, hr0⟩ := open_doc (hval 0 38 v0 rfl rfl) h0
  clear hA0 hval0
  refine (walk F0 objs oa oc rows root W hOK0 hoc0 hcm0 hwf0 hr0).mono fun e W' ⟨he, bel⟩ => ?_
  subst he
  exact ⟨_, rfl, _, _, _, [], _, [], hW', trodAll_mk1 (shut_bool Try.underlying4 _), (trodAll_cons_mk (Below.trod laidOut (by kernel_rfl) (of_decide_eq_true (by kernel_rfl)) k0 bel lt0) trodAll_mk0), rfl, bel.frame _, fun h => by cases h⟩

theorem proved : Rows.OrderOnceSaid :=
  OpenClaim.holds_of_wide 4 Try.f4 rfl rfl rfl rfl rfl rfl rfl ⟨rfl, rfl, rfl, rfl, rfl⟩ rfl rfl rfl rfl rfl (by kernel_rfl) Try.func4 (by kernel_rfl)
    (of_decide_eq_true (by kernel_rfl)) (by unfold Func.isWrapper; first | (rw [if_pos (by decide +kernel)]; kernel_rfl) | (rw [if_neg (by decide +kernel)]; exact ⟨rfl, rfl⟩))
    (fun os started H enc _ => lifted os started H enc)
#print axioms proved
end Go.Proofs.Ytipmbcalnnomjaa.orderOnce
