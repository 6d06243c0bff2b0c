import Derived.Test.YtnpiemcfbnpfdaaGreatDocDSp
import Derived.Test.YtnpiemcfbnpfdaaGreatDropPSp
import Derived.Test.YtnpiemcfbnpfdaaGreatRefsRSp
import Derived.Test.YtnpiemcfbnpfdaaGreatSqSp
set_option linter.unusedVariables false
set_option linter.unusedSimpArgs false
set_option maxRecDepth 100000
namespace Go.Proofs.YtnpiemcfbnpfdaaGreat
open Go.RowKit Go.Maps
set_option maxHeartbeats 1000000 in
theorem refhas_any (x : Int) (a : Option Addr) (c : Nat) (S : List Int) (w : World) (hR : RowOf w a (intsV S)) (hl : S.length ≤ 1000000) :
 Calls Tryz.prog 76 #[.slice a S.length c, .int .i64 x] w (fun e w' => e = .returned (.bool (decide (x ∈ S))) ∧ w' = w) := by
 obtain ⟨n, hn⟩ : ∃ n, n = S.length := ⟨_, rfl⟩;obtain ⟨B, hB⟩ : ∃ B, B = decide (x ∈ S) := ⟨_, rfl⟩;rw [← hn, ← hB];rw [← hn] at hl;have HN := qh hn;have HB := qh hB;have HR := qh hR;clear hn hB hR
 go_enter Tryz.func76, Tryz.ntmps76
 go_wp2_with fail
 go_loop [5] (fun i => ∃ k : Nat, k ≤ n ∧ i = .int .i64 k ∧ Hid (∀ y ∈ S.take k, y ≠ x)) (fun i => n - (intOf i).toNat)
 case atStart => exact ⟨0, Nat.zero_le _, rfl, qh (by simp)⟩
 case round =>
  obtain ⟨k, hk, rfl, HT⟩ := hrel
  by_cases hlt : k < n
  ·have hki : (k : Int) < (n : Int) := by omega
   have hkS : k < S.length := by rw [← HN.out]; exact hlt
   obtain ⟨b, o, rfl, hc⟩ := HR.out k _ (intsV_get hkS);obtain ⟨y, hy⟩ : ∃ y, y = S[k] := ⟨_, rfl⟩;rw [← hy] at hc;have HY := qh hy;clear hy
   by_cases hyx : y = x
   ·subst hyx
    have HBy : Hid (B = true) := qh (by rw [HB.out, HY.out]; simp)
    go_wp2_with fail
    go_ret;exact ⟨by rw [HBy.out]; rfl, rfl⟩
   ·have HT2 : Hid (∀ z ∈ S.take (k + 1), z ≠ x) := qh (fun z hz => by
     rw [List.take_succ_eq_append_getElem hkS, List.mem_append, List.mem_singleton] at hz
     rcases hz with hz | hz
     ·exact HT.out z hz
     ·rw [hz, ← HY.out]; exact hyx)
    go_wp2_with fail
    go_round
    case rel => exact ⟨k + 1, by omega, by go_num, HT2⟩
    case measure => simp [intOf]; omega
  ·have hki : ¬ (k : Int) < (n : Int) := by omega
   have HBy : Hid (B = false) := qh (by
    rw [HB.out];refine decide_eq_false (fun h => HT.out x ?_ rfl)
    rwa [List.take_of_length_le (by rw [← HN.out]; omega)])
   go_wp2_with fail
   go_ret;exact ⟨by rw [HBy.out]; rfl, rfl⟩
theorem cutR_eq (root : Int) (t : Tr) (n : Int) (v : V) : cutR root t n v =
 (if (n ∈ t.nodes ∧ n ∈ t.pages) then (if (n ∈ t.nodes ∨ n ∈ t.pages) then (if n ∈ t.nodes then (if n = root then v.dropped ⟨#[80, 97, 103, 101, 115]⟩ else v).dropped ⟨#[75, 105, 100, 115]⟩ else (if n = root then v.dropped ⟨#[80, 97, 103, 101, 115]⟩ else v)).dropped ⟨#[80, 97, 114, 101, 110, 116]⟩ else (if n ∈ t.nodes then (if n = root then v.dropped ⟨#[80, 97, 103, 101, 115]⟩ else v).dropped ⟨#[75, 105, 100, 115]⟩ else (if n = root then v.dropped ⟨#[80, 97, 103, 101, 115]⟩ else v))).dropped ⟨#[80, 97, 114, 101, 110, 116]⟩
  else (if (n ∈ t.nodes ∨ n ∈ t.pages) then (if n ∈ t.nodes then (if n = root then v.dropped ⟨#[80, 97, 103, 101, 115]⟩ else v).dropped ⟨#[75, 105, 100, 115]⟩ else (if n = root then v.dropped ⟨#[80, 97, 103, 101, 115]⟩ else v)).dropped ⟨#[80, 97, 114, 101, 110, 116]⟩ else (if n ∈ t.nodes then (if n = root then v.dropped ⟨#[80, 97, 103, 101, 115]⟩ else v).dropped ⟨#[75, 105, 100, 115]⟩ else (if n = root then v.dropped ⟨#[80, 97, 103, 101, 115]⟩ else v)))) := by
 rw [k_pages, k_kids, k_parent]
 rfl
set_option maxHeartbeats 8000000 in
theorem refstray_any (d : Nat) (l : List Ob) (oa : Option Addr) (oc : Nat) (rows : List (List Value)) (root : Int) (t : Tr) (a1 a2 : Option Addr) (x1 x2 : Nat) (w : World) (hD : DocOk w d l oa rows root)
 (h1 : RowOf w a1 (intsV t.nodes)) (h2 : RowOf w a2 (intsV t.pages)) (hl1 : t.nodes.length ≤ 5000) (hl2 : t.pages.length ≤ 5000) :
 Calls Tryz.prog 38 #[.agg #[.slice oa l.length oc, .int .i64 root], .agg #[.slice a1 t.nodes.length x1, .slice a2 t.pages.length x2]] w (BoolTo (strayP l root t) w) := by
 obtain ⟨F, hF⟩ : ∃ z, z = strayP l root t := ⟨_, rfl⟩;rw [← hF];unfold strayP at hF;obtain ⟨n, hn⟩ : ∃ z, z = l.length := ⟨_, rfl⟩;rw [← hn] at hF ⊢;have hn5 : n ≤ 5000 := by rw [hn]; exact hD.len
 obtain ⟨S, hS⟩ : ∃ z, z = t.nodes ++ t.pages := ⟨_, rfl⟩;have HC0 := qh (fun x W (hP : Pure w W) => refhas_any x a1 x1 t.nodes W (h1.ext hP (fun _ _ => id)) (by omega));have HC1 := qh (fun x W (hP : Pure w W) => refhas_any x a2 x2 t.pages W (h2.ext hP (fun _ _ => id)) (by omega));obtain ⟨an, han⟩ : ∃ z, z = t.nodes.length := ⟨_, rfl⟩;obtain ⟨bn, hbn⟩ : ∃ z, z = t.pages.length := ⟨_, rfl⟩;rw [← han] at HC0 ⊢;rw [← hbn] at HC1 ⊢;have HN := qh hn;have HF := qh hF;have HD := qh hD;have HSe := qh hS;have HLd : Hid (∀ v, leadsB root t v = (v.more []).any (inP root S)) := qh (fun v => by
  unfold leadsB inP Tr.has
  congr 1
  funext x
  exact decide_eq_decide.2 (by rw [hS, List.mem_append]))
 obtain ⟨wo, hwo⟩ : ∃ z, z = (w.alloc (.cells #[.slice oa n oc, .int .i64 root] 24)).alloc (.cells #[.slice a1 an x1, .slice a2 bn x2] 76) := ⟨_, rfl⟩;obtain ⟨tb, htb⟩ : ∃ z, z = w.heap.size := ⟨_, rfl⟩;have HPwo : Hid (Pure w wo) := qh (by rw [hwo]; exact (ext_alloc w _).pure (ext_alloc _ _));have HBd : Hid (BlockIs wo tb [.slice oa n oc, .int .i64 root] 24) := qh (by rw [hwo, htb]; exact (BlockIs.new w [.slice oa n oc, .int .i64 root] 24).alloc _);have HBt : Hid (BlockIs wo (tb + 1) [.slice a1 an x1, .slice a2 bn x2] 76) := qh (by
  have h := BlockIs.new (w.alloc (.cells #[.slice oa n oc, .int .i64 root] 24)) [.slice a1 an x1, .slice a2 bn x2] 76;rw [World.size_alloc, ← htb] at h;rw [hwo]; exact h)
 have HWo : Hid ((w.alloc (.cells #[.slice oa n oc, .int .i64 root] 24)).alloc (.cells #[.slice a1 an x1, .slice a2 bn x2] 76) = wo) := qh hwo.symm;have HTb := qh htb;clear h1 h2 hl1 hl2 hS hn hF han hbn hwo htb hD
 go_enter Tryz.func38, Tryz.ntmps38
 go_wp2_with fail
 rw [HWo.out, ← HTb.out]
 go_loopw [5] (fun i wr => ∃ k : Nat, k ≤ n ∧ i = .int .i64 k ∧ Hid ((List.range k).any (fun k => leadsB root t (cutP root t ((k : Int) + 1) (l.getD k noOb).v)) = false) ∧ Hid (Pure wo wr)) (fun i _ => n - (intOf i).toNat)
 case atStart => exact ⟨0, Nat.zero_le _, rfl, qh rfl, qh (Ext.refl _ _)⟩
 case round =>
  obtain ⟨k, hk, rfl, HNo, HE⟩ := hrel;have d0 : wr.cell? ⟨tb, 0, none⟩ = some (.slice oa n oc) := (HBd.out.ext HE.out id).cell 0
  by_cases hlt : k < n
  ·have hki : (k : Int) < (n : Int) := by omega
   obtain ⟨u, hu⟩ : ∃ u, l[k]? = some u := ⟨_, List.getElem?_eq_getElem (by rw [← HN.out]; exact hlt)⟩;have hum := List.mem_of_getElem? hu;have HStep := qh (stray_step hu root t);obtain ⟨b, o, cs, hoab, hr0, hl4, hL, _⟩ := HD.out.ok.at k u hu;subst hoab;have hPwr := HPwo.out.pure HE.out;obtain ⟨va, vc, urows, hcs, _⟩ := hL.kids;have hbw : b < w.heap.size := by
    have h := hr0 0 cs[0] (List.getElem?_eq_getElem (by omega));exact World.block_lt_of_cell? w _ h
   rw [hcs] at hL hr0;have HL := qh hL;have HUz := qh (HD.out.size u hum);have HUf := qh (HD.out.wf u hum);have HPwr := qh hPwr;have HR0 := qh hr0;have HBw := qh hbw;clear hcs hl4 hr0 hu hum hPwr hL;obtain ⟨uv, huv⟩ : ∃ z, z = u.v := ⟨_, rfl⟩;rw [← huv] at HL HUz HUf HStep HR0;generalize uv.l.length = vm at *;generalize uv.kind = vk at *;generalize uv.n = vn at *;generalize uv.s = vs at *;clear huv;have hki1 : (k : Int) + 1 ≤ 5001 := by omega
   have hk0 : (0 : Int) ≤ (k : Int) := by omega
   have hwk : IntKind.i64.wrap ((k : Int) + 1) = (k : Int) + 1 := by rw [IntKind.wrap_i64]; omega
   obtain ⟨bv, hbv⟩ : ∃ z, z = wr.heap.size := ⟨_, rfl⟩;have d0 : wr.cell? ⟨tb, 0, none⟩ = some (.slice (some ⟨b, o, none⟩) n oc) := (HBd.out.ext HE.out id).cell 0;have hBd4 := (HBd.out.ext HE.out id).drew;have hbne : ¬ b = bv := by have h1 := HPwr.out.size; have h2 := HBw.out; omega
   have hbnt : ¬ tb = bv := by have h1 := HPwr.out.size; have h2 := hBd4.lt; have h3 : tb < wr.heap.size := h2; omega
   have HRg : Hid (∀ W : World, (∀ i, i < wr.drew.heap.size → ¬ (i = bv) → W.heap[i]? = wr.drew.heap[i]?) → W.rangeAt b (o + k * 6) [.int .i64 vk, .int .i64 vn, .string vs, .slice va vm vc]) := qh (fun W hW j v hv => by
    have h1 := HPwr.out.cell_some (HR0.out j v hv) id;have h2 : W.heap[b]? = wr.heap[b]? := hW b (Nat.lt_of_lt_of_le HBw.out HPwr.out.size) hbne;rw [← h1];unfold World.cell?;simp only;rw [h2])
   obtain ⟨wB, hwB⟩ : ∃ z, z = (wr.alloc (.cells #[.int .i64 0, .int .i64 0, .string ⟨#[]⟩, .slice none 0 0] 48)).drew := ⟨_, rfl⟩;obtain ⟨wE, hwE⟩ : ∃ z, z = wB.setCells bv 0 [.int .i64 vk, .int .i64 vn, .string vs, .slice va vm vc] := ⟨_, rfl⟩;have hBv : BlockIs wB bv zeroCs 48 := by rw [hwB, hbv]; exact (BlockIs.new wr zeroCs 48).drew
   have hXb : Ext (fun k => k = bv) wr.drew wB := by rw [hwB]; have hE := ((Ext.refl (fun k => k = bv) wr).alloc (.cells #[.int .i64 0, .int .i64 0, .string ⟨#[]⟩, .slice none 0 0] 48)).drew; exact ⟨hE.os, hE.tape, hE.output, hE.size, hE.block⟩
   have hXe : Ext (fun k => k = bv) wB wE := by rw [hwE]; exact Ext.setCells _ 0 _ (Ext.refl _ _) (fun _ => rfl)
   have hBe : BlockIs wE bv [.int .i64 vk, .int .i64 vn, .string vs, .slice va vm vc] 48 := by rw [hwE]; exact hBv.setAll [.int .i64 vk, .int .i64 vn, .string vs, .slice va vm vc] rfl
   have hPE : Pure wr wE := ((Ext.refl _ wr).drew.trans (hXb.trans hXe (fun _ _ e => e)) (fun i hi e => by omega));have HwB : Hid ((wr.alloc (.cells #[.int .i64 0, .int .i64 0, .string ⟨#[]⟩, .slice none 0 0] 48)).drew = wB) := qh hwB.symm;have HwE : Hid (wB.setCells bv 0 (#[.int .i64 vk, .int .i64 vn, .string vs, .slice va vm vc] : Array Value).toList = wE) := qh (by rw [hwE]);have HTh : Hid (wB.there bv 0 (#[.int .i64 vk, .int .i64 vn, .string vs, .slice va vm vc] : Array Value).size) := qh (hBv.there 4 rfl);have HSi : Hid ((Tryz.prog.info? 48).map (·.size) = some (#[.int .i64 vk, .int .i64 vn, .string vs, .slice va vm vc] : Array Value).size) := qh size24;have HOn : Hid (((#[.int .i64 vk, .int .i64 vn, .string vs, .slice va vm vc] : Array Value).all fun u => u.oneCell') = true) := qh HL.out.one
   have HBve : Hid (bv = wr.heap.size) := qh hbv;have HLo : Hid (wo.heap.size ≤ bv) := qh (by have := HE.out.size; omega);obtain ⟨v0, hv⟩ : ∃ z, z = uv := ⟨_, rfl⟩;have HV0e : Hid (uv = v0) := qh hv.symm;have HS0 : Hid (StrayV w wo d bv v0 wE) := qh ⟨_, VAt.init (by rw [hv]; exact HL.out) (HPwr.out.pure hPE) hBe (Nat.le_trans HPwo.out.size HLo.out), by rw [hv]; exact HUz.out, by rw [hv]; exact HUf.out, HE.out.pure hPE⟩;clear hv hbv hBe hPE hwB hwE hBv d0
   go_upto_region 4 with (fail)
   refine region_start (fun k => k = bv) (by kernel_rfl) ?_
   try simp only [Act.put, sA, sZ, sS]
   refine rT 0 17 ?_;refine rT 1 18 ?_;refine rT 2 19 ?_;refine rU 3 20 (v := ?vrr3) (fun w' hS => ?hrr3) ?rrr3
   case hrr3 => (have e : w'.cell? ⟨tb, 0, none⟩ = some (.slice (some ⟨b, o, none⟩) n oc) := (hBd4.ext hS (by omega)).cell 0; go_simp; with_reducible rfl)
   try simp only [Act.put, sA, sZ, sS]
   refine rT 4 21 ?_;refine rT 5 22 ?_;refine rT 6 23 ?_;refine rU 7 24 (v := ?vrr7) (fun w' hS => ?hrr7) ?rrr7
   case hrr7 => (refine exec_load_r (x := .tmp 23) (o := o + k * 6) ?_ ?_ (HRg.out w' (fun i hi hn => hS.block i hi hn)) rfl <;> rfl)
   try simp only [Act.put, sA, sZ, sS]
   refine rR 8 (fun K hK => ?_)
   go_simp
   rw [HwB.out, ← HBve.out];refine hK.out _ _ (hXb) (fun hHeld => ?_);clear hK K hHeld;refine region_now (hXb) ?_
   try simp only [Act.put, sA, sZ, sS]
   refine rT 9 6 ?_;refine rR 10 (fun K hK => ?_);refine step_of_list ?_;refine wpList_store_mid rfl 48 (.tmp 7) (.tmp 24) rfl bv 0 #[.int .i64 vk, .int .i64 vn, .string vs, .slice va vm vc] rfl rfl HTh.out HSi.out HOn.out ?_;rw [HwE.out];refine hK.out _ _ (hXe) (fun hHeld => ?_);clear hK K hHeld;refine region_now (hXe) ?_
   try simp only [Act.put, sA, sZ, sS]
   refine wpAnyH_done (by kernel_rfl) ?_ _
   go_simp
   try simp only [Act.put, sA, sZ, sS]
   have d1 : wE.cell? ⟨tb, 1, none⟩ = some (.int .i64 root) := (HBd.out.ext HS0.out.base id).cell 1
   go_upto_if 28 with (fail)
   go_cut [6] (fun x W => x = .int .i64 ((k : Int) + 1) ∧ Hid (StrayV w wo d bv (if ((k : Int) + 1) = root then v0.dropped ⟨#[80, 97, 103, 101, 115]⟩ else v0) W))
   case first =>
    by_cases hc : ((k : Int) + 1) = root
    ·have HC := qh hc
     skip
     obtain ⟨cs, hV, hz, hf, hQ0⟩ := HS0.out;obtain ⟨va, vc, _, hcs, _⟩ := hV.top.parts;rw [hcs] at hV;have HCl := qh (fun key W' (hP : Pure wE W') => refdrop_top w d v0 _ key W' (hV.base.pure hP) (hV.top.pure hP) (Nat.le_trans (V.len_size v0) hz));have HV := qh hV;have HZ := qh hz;have HFf := qh hf;have HQ1 := qh hQ0;have HLv := qh (hV.top.lies hV.base);clear hcs hV hz hf hQ0;generalize v0.l.length = vm at *;generalize v0.kind = vk at *;generalize v0.n = vn at *;generalize v0.s = vs at *;have g0 : wE.cell? ⟨bv, 0, none⟩ = some (.int .i64 vk) := HV.out.blk.cell 0;have g1 : wE.cell? ⟨bv, 1, none⟩ = some (.int .i64 vn) := HV.out.blk.cell 1;have g2 : wE.cell? ⟨bv, 2, none⟩ = some (.string vs) := HV.out.blk.cell 2;have g3 : wE.cell? ⟨bv, 3, none⟩ = some (.slice va vm vc) := HV.out.blk.cell 3
     go_wp2_with fail
     refine (HCl.out ⟨#[80, 97, 103, 101, 115]⟩ wE (Ext.refl _ _)).mono ?_;rintro e W1 ⟨cs1, rfl, hT1, hQ1, hO1⟩;have HTh := qh (show W1.there bv 0 cs1.toArray.size by rw [show cs1.toArray.size = 4 by simpa using hT1.len]; exact (HV.out.blk.ext hQ1 id).there 4 rfl);have HSi : Hid ((Tryz.prog.info? 48).map (·.size) = some cs1.toArray.size) := qh (by rw [List.size_toArray, hT1.len]; exact size24);have HOn := qh hT1.one;obtain ⟨Ws, hws⟩ : ∃ z, z = W1.setCells bv 0 cs1 := ⟨_, rfl⟩;have HWs : Hid (W1.setCells bv 0 cs1.toArray.toList = Ws) := qh (by rw [hws]);have HNew : Hid (StrayV w wo d bv (if ((k : Int) + 1) = root then v0.dropped ⟨#[80, 97, 103, 101, 115]⟩ else v0) Ws) := qh (by rw [if_pos HC.out, hws]; exact StrayV.drop HV.out HZ.out HFf.out HQ1.out HLo.out hT1 hQ1 hO1)
     clear hT1 hQ1 hO1 hws g0 g1 g2 g3 HCl HLv
     go_wp2_with (with_reducible refine at_store 48 (.tmp 7) (.tmp 30) ?_; refine wpList_store_mid rfl 48 (.tmp 7) (.tmp 30) rfl bv 0 cs1.toArray rfl rfl HTh.out HSi.out HOn.out ?_; rw [HWs.out])
     go_meet
     exact ⟨by first | rfl | rw [HC.out], HNew⟩
    ·have HNew : Hid (StrayV w wo d bv (if ((k : Int) + 1) = root then v0.dropped ⟨#[80, 97, 103, 101, 115]⟩ else v0) wE) := qh (by rw [if_neg hc]; exact HS0.out)
     skip
     go_wp2_with fail
     go_meet
     exact ⟨rfl, HNew⟩
   case rest =>
    obtain ⟨rfl, HS1⟩ := hcut;obtain ⟨wc1, rfl⟩ : ∃ z : World, z = wc := ⟨_, rfl⟩;obtain ⟨v1, hvn⟩ : ∃ z, z = (if ((k : Int) + 1) = root then v0.dropped ⟨#[80, 97, 103, 101, 115]⟩ else v0) := ⟨_, rfl⟩
    rw [← hvn] at HS1;have HVn1 := qh hvn;clear hvn HS0;have q0 : wc1.cell? ⟨tb + 1, 0, none⟩ = some (.slice a1 an x1) := (HBt.out.ext HS1.out.base id).cell 0
    go_wp2_with fail
    refine (HC0.out ((k : Int) + 1) wc1 (HPwo.out.pure HS1.out.base)).mono ?_;rintro e W' ⟨rfl, hw'⟩;obtain rfl := hw'.symm
    go_upto_if 34 with (fail)
    go_cut [6] (fun x W => x = .int .i64 ((k : Int) + 1) ∧ Hid (StrayV w wo d bv (if ((k : Int) + 1) ∈ t.nodes then v1.dropped ⟨#[75, 105, 100, 115]⟩ else v1) W))
    case first =>
     by_cases hc : ((k : Int) + 1) ∈ t.nodes
     ·have HC := qh hc
      have hcb : decide (((k : Int) + 1) ∈ t.nodes) = true := decide_eq_true hc;obtain ⟨cs, hV, hz, hf, hQ0⟩ := HS1.out;obtain ⟨va, vc, _, hcs, _⟩ := hV.top.parts;rw [hcs] at hV;have HCl := qh (fun key W' (hP : Pure wc1 W') => refdrop_top w d v1 _ key W' (hV.base.pure hP) (hV.top.pure hP) (Nat.le_trans (V.len_size v1) hz));have HV := qh hV;have HZ := qh hz;have HFf := qh hf;have HQ1 := qh hQ0;have HLv := qh (hV.top.lies hV.base);clear hcs hV hz hf hQ0;generalize v1.l.length = vm at *;generalize v1.kind = vk at *;generalize v1.n = vn at *;generalize v1.s = vs at *;have g0 : wc1.cell? ⟨bv, 0, none⟩ = some (.int .i64 vk) := HV.out.blk.cell 0;have g1 : wc1.cell? ⟨bv, 1, none⟩ = some (.int .i64 vn) := HV.out.blk.cell 1;have g2 : wc1.cell? ⟨bv, 2, none⟩ = some (.string vs) := HV.out.blk.cell 2;have g3 : wc1.cell? ⟨bv, 3, none⟩ = some (.slice va vm vc) := HV.out.blk.cell 3
      go_wp2_with fail
      refine (HCl.out ⟨#[75, 105, 100, 115]⟩ wc1 (Ext.refl _ _)).mono ?_;rintro e W1 ⟨cs1, rfl, hT1, hQ1, hO1⟩;have HTh := qh (show W1.there bv 0 cs1.toArray.size by rw [show cs1.toArray.size = 4 by simpa using hT1.len]; exact (HV.out.blk.ext hQ1 id).there 4 rfl);have HSi : Hid ((Tryz.prog.info? 48).map (·.size) = some cs1.toArray.size) := qh (by rw [List.size_toArray, hT1.len]; exact size24);have HOn := qh hT1.one;obtain ⟨Ws, hws⟩ : ∃ z, z = W1.setCells bv 0 cs1 := ⟨_, rfl⟩;have HWs : Hid (W1.setCells bv 0 cs1.toArray.toList = Ws) := qh (by rw [hws]);have HNew : Hid (StrayV w wo d bv (if ((k : Int) + 1) ∈ t.nodes then v1.dropped ⟨#[75, 105, 100, 115]⟩ else v1) Ws) := qh (by rw [if_pos HC.out, hws]; exact StrayV.drop HV.out HZ.out HFf.out HQ1.out HLo.out hT1 hQ1 hO1)
      clear hT1 hQ1 hO1 hws g0 g1 g2 g3 HCl HLv
      go_wp2_with (with_reducible refine at_store 48 (.tmp 7) (.tmp 36) ?_; refine wpList_store_mid rfl 48 (.tmp 7) (.tmp 36) rfl bv 0 cs1.toArray rfl rfl HTh.out HSi.out HOn.out ?_; rw [HWs.out])
      go_meet
      exact ⟨by first | rfl | rw [HC.out], HNew⟩
     ·have HNew : Hid (StrayV w wo d bv (if ((k : Int) + 1) ∈ t.nodes then v1.dropped ⟨#[75, 105, 100, 115]⟩ else v1) wc1) := qh (by rw [if_neg hc]; exact HS1.out)
      have hcb : decide (((k : Int) + 1) ∈ t.nodes) = false := decide_eq_false hc
      go_wp2_with fail
      go_meet
      exact ⟨rfl, HNew⟩
    case rest =>
     obtain ⟨rfl, HS2⟩ := hcut;obtain ⟨wc2, rfl⟩ : ∃ z : World, z = wc := ⟨_, rfl⟩;obtain ⟨v2, hvn⟩ : ∃ z, z = (if ((k : Int) + 1) ∈ t.nodes then v1.dropped ⟨#[75, 105, 100, 115]⟩ else v1) := ⟨_, rfl⟩
     rw [← hvn] at HS2;have HVn2 := qh hvn;clear hvn HS1
     go_upto_region 9 with (fail)
     go_cut [46] (fun x W => x = .bool (decide (((k : Int) + 1) ∈ t.nodes ∨ ((k : Int) + 1) ∈ t.pages)) ∧ W = wc2)
     case first =>
      have q0 : wc2.cell? ⟨tb + 1, 0, none⟩ = some (.slice a1 an x1) := (HBt.out.ext HS2.out.base id).cell 0;have q1 : wc2.cell? ⟨tb + 1, 1, none⟩ = some (.slice a2 bn x2) := (HBt.out.ext HS2.out.base id).cell 1
      by_cases hn0 : ((k : Int) + 1) ∈ t.nodes
      ·have hcb : decide (((k : Int) + 1) ∈ t.nodes) = true := decide_eq_true hn0
       go_wp2_with fail
       refine (HC0.out ((k : Int) + 1) wc2 (HPwo.out.pure HS2.out.base)).mono ?_;rintro e W' ⟨rfl, hw'⟩;obtain rfl := hw'.symm
       go_wp2_with fail
       go_meet
       exact ⟨by rw [decide_eq_true (show (((k : Int) + 1) ∈ t.nodes ∨ ((k : Int) + 1) ∈ t.pages) from Or.inl hn0)], rfl⟩
      ·have hcb : decide (((k : Int) + 1) ∈ t.nodes) = false := decide_eq_false hn0
       go_wp2_with fail
       refine (HC0.out ((k : Int) + 1) wc2 (HPwo.out.pure HS2.out.base)).mono ?_;rintro e W' ⟨rfl, hw'⟩;obtain rfl := hw'.symm
       go_wp2_with fail
       refine (HC1.out ((k : Int) + 1) wc2 (HPwo.out.pure HS2.out.base)).mono ?_;rintro e W' ⟨rfl, hw'⟩;obtain rfl := hw'.symm
       go_wp2_with fail
       go_meet
       refine ⟨?_, rfl⟩
       by_cases hp : ((k : Int) + 1) ∈ t.pages
       ·rw [decide_eq_true hp, decide_eq_true (show (((k : Int) + 1) ∈ t.nodes ∨ ((k : Int) + 1) ∈ t.pages) from Or.inr hp)]
       ·rw [decide_eq_false hp, decide_eq_false (show ¬ (((k : Int) + 1) ∈ t.nodes ∨ ((k : Int) + 1) ∈ t.pages) from fun h => h.elim hn0 hp)]
     case rest =>
      obtain ⟨rfl, hwx⟩ := hcut;obtain rfl := hwx.symm
      go_upto_if 46 with (fail)
      go_cut [6] (fun x W => x = .int .i64 ((k : Int) + 1) ∧ Hid (StrayV w wo d bv (if (((k : Int) + 1) ∈ t.nodes ∨ ((k : Int) + 1) ∈ t.pages) then v2.dropped ⟨#[80, 97, 114, 101, 110, 116]⟩ else v2) W))
      case first =>
       by_cases hc : (((k : Int) + 1) ∈ t.nodes ∨ ((k : Int) + 1) ∈ t.pages)
       ·have HC := qh hc
        have hcb : decide (((k : Int) + 1) ∈ t.nodes ∨ ((k : Int) + 1) ∈ t.pages) = true := decide_eq_true hc;obtain ⟨cs, hV, hz, hf, hQ0⟩ := HS2.out;obtain ⟨va, vc, _, hcs, _⟩ := hV.top.parts;rw [hcs] at hV;have HCl := qh (fun key W' (hP : Pure wc2 W') => refdrop_top w d v2 _ key W' (hV.base.pure hP) (hV.top.pure hP) (Nat.le_trans (V.len_size v2) hz));have HV := qh hV;have HZ := qh hz;have HFf := qh hf;have HQ1 := qh hQ0;have HLv := qh (hV.top.lies hV.base);clear hcs hV hz hf hQ0;generalize v2.l.length = vm at *;generalize v2.kind = vk at *;generalize v2.n = vn at *;generalize v2.s = vs at *;have g0 : wc2.cell? ⟨bv, 0, none⟩ = some (.int .i64 vk) := HV.out.blk.cell 0;have g1 : wc2.cell? ⟨bv, 1, none⟩ = some (.int .i64 vn) := HV.out.blk.cell 1;have g2 : wc2.cell? ⟨bv, 2, none⟩ = some (.string vs) := HV.out.blk.cell 2;have g3 : wc2.cell? ⟨bv, 3, none⟩ = some (.slice va vm vc) := HV.out.blk.cell 3
        go_wp2_with fail
        refine (HCl.out ⟨#[80, 97, 114, 101, 110, 116]⟩ wc2 (Ext.refl _ _)).mono ?_;rintro e W1 ⟨cs1, rfl, hT1, hQ1, hO1⟩;have HTh := qh (show W1.there bv 0 cs1.toArray.size by rw [show cs1.toArray.size = 4 by simpa using hT1.len]; exact (HV.out.blk.ext hQ1 id).there 4 rfl);have HSi : Hid ((Tryz.prog.info? 48).map (·.size) = some cs1.toArray.size) := qh (by rw [List.size_toArray, hT1.len]; exact size24);have HOn := qh hT1.one;obtain ⟨Ws, hws⟩ : ∃ z, z = W1.setCells bv 0 cs1 := ⟨_, rfl⟩;have HWs : Hid (W1.setCells bv 0 cs1.toArray.toList = Ws) := qh (by rw [hws]);have HNew : Hid (StrayV w wo d bv (if (((k : Int) + 1) ∈ t.nodes ∨ ((k : Int) + 1) ∈ t.pages) then v2.dropped ⟨#[80, 97, 114, 101, 110, 116]⟩ else v2) Ws) := qh (by rw [if_pos HC.out, hws]; exact StrayV.drop HV.out HZ.out HFf.out HQ1.out HLo.out hT1 hQ1 hO1)
        clear hT1 hQ1 hO1 hws g0 g1 g2 g3 HCl HLv
        go_wp2_with (with_reducible refine at_store 48 (.tmp 7) (.tmp 48) ?_; refine wpList_store_mid rfl 48 (.tmp 7) (.tmp 48) rfl bv 0 cs1.toArray rfl rfl HTh.out HSi.out HOn.out ?_; rw [HWs.out])
        go_meet
        exact ⟨by first | rfl | rw [HC.out], HNew⟩
       ·have HNew : Hid (StrayV w wo d bv (if (((k : Int) + 1) ∈ t.nodes ∨ ((k : Int) + 1) ∈ t.pages) then v2.dropped ⟨#[80, 97, 114, 101, 110, 116]⟩ else v2) wc2) := qh (by rw [if_neg hc]; exact HS2.out)
        have hcb : decide (((k : Int) + 1) ∈ t.nodes ∨ ((k : Int) + 1) ∈ t.pages) = false := decide_eq_false hc
        go_wp2_with fail
        go_meet
        exact ⟨rfl, HNew⟩
      case rest =>
       obtain ⟨rfl, HS3⟩ := hcut;obtain ⟨wc3, rfl⟩ : ∃ z : World, z = wc := ⟨_, rfl⟩;obtain ⟨v3, hvn⟩ : ∃ z, z = (if (((k : Int) + 1) ∈ t.nodes ∨ ((k : Int) + 1) ∈ t.pages) then v2.dropped ⟨#[80, 97, 114, 101, 110, 116]⟩ else v2) := ⟨_, rfl⟩
       rw [← hvn] at HS3;have HVn3 := qh hvn;clear hvn HS2
       go_upto_region 11 with (fail)
       go_cut [58] (fun x W => x = .bool (decide (((k : Int) + 1) ∈ t.nodes ∧ ((k : Int) + 1) ∈ t.pages)) ∧ W = wc3)
       case first =>
        have q0 : wc3.cell? ⟨tb + 1, 0, none⟩ = some (.slice a1 an x1) := (HBt.out.ext HS3.out.base id).cell 0;have q1 : wc3.cell? ⟨tb + 1, 1, none⟩ = some (.slice a2 bn x2) := (HBt.out.ext HS3.out.base id).cell 1
        by_cases hn0 : ((k : Int) + 1) ∈ t.nodes
        ·have hcb : decide (((k : Int) + 1) ∈ t.nodes) = true := decide_eq_true hn0
         go_wp2_with fail
         refine (HC0.out ((k : Int) + 1) wc3 (HPwo.out.pure HS3.out.base)).mono ?_;rintro e W' ⟨rfl, hw'⟩;obtain rfl := hw'.symm
         go_wp2_with fail
         refine (HC1.out ((k : Int) + 1) wc3 (HPwo.out.pure HS3.out.base)).mono ?_;rintro e W' ⟨rfl, hw'⟩;obtain rfl := hw'.symm
         go_wp2_with fail
         go_meet
         refine ⟨?_, rfl⟩
         by_cases hp : ((k : Int) + 1) ∈ t.pages
         ·rw [decide_eq_true hp, decide_eq_true (show (((k : Int) + 1) ∈ t.nodes ∧ ((k : Int) + 1) ∈ t.pages) from ⟨hn0, hp⟩)]
         ·rw [decide_eq_false hp, decide_eq_false (show ¬ (((k : Int) + 1) ∈ t.nodes ∧ ((k : Int) + 1) ∈ t.pages) from fun h => hp h.2)]
        ·have hcb : decide (((k : Int) + 1) ∈ t.nodes) = false := decide_eq_false hn0
         go_wp2_with fail
         refine (HC0.out ((k : Int) + 1) wc3 (HPwo.out.pure HS3.out.base)).mono ?_;rintro e W' ⟨rfl, hw'⟩;obtain rfl := hw'.symm
         go_wp2_with fail
         go_meet
         exact ⟨by rw [decide_eq_false (show ¬ (((k : Int) + 1) ∈ t.nodes ∧ ((k : Int) + 1) ∈ t.pages) from fun h => hn0 h.1)], rfl⟩
       case rest =>
        obtain ⟨rfl, hwx⟩ := hcut;obtain rfl := hwx.symm
        go_upto_if 58 with (fail)
        go_cut [6] (fun x W => x = .int .i64 ((k : Int) + 1) ∧ Hid (StrayV w wo d bv (if (((k : Int) + 1) ∈ t.nodes ∧ ((k : Int) + 1) ∈ t.pages) then v3.dropped ⟨#[80, 97, 114, 101, 110, 116]⟩ else v3) W))
        case first =>
         by_cases hc : (((k : Int) + 1) ∈ t.nodes ∧ ((k : Int) + 1) ∈ t.pages)
         ·have HC := qh hc
          have hcb : decide (((k : Int) + 1) ∈ t.nodes ∧ ((k : Int) + 1) ∈ t.pages) = true := decide_eq_true hc;obtain ⟨cs, hV, hz, hf, hQ0⟩ := HS3.out;obtain ⟨va, vc, _, hcs, _⟩ := hV.top.parts;rw [hcs] at hV;have HCl := qh (fun key W' (hP : Pure wc3 W') => refdrop_top w d v3 _ key W' (hV.base.pure hP) (hV.top.pure hP) (Nat.le_trans (V.len_size v3) hz));have HV := qh hV;have HZ := qh hz;have HFf := qh hf;have HQ1 := qh hQ0;have HLv := qh (hV.top.lies hV.base);clear hcs hV hz hf hQ0;generalize v3.l.length = vm at *;generalize v3.kind = vk at *;generalize v3.n = vn at *;generalize v3.s = vs at *;have g0 : wc3.cell? ⟨bv, 0, none⟩ = some (.int .i64 vk) := HV.out.blk.cell 0;have g1 : wc3.cell? ⟨bv, 1, none⟩ = some (.int .i64 vn) := HV.out.blk.cell 1;have g2 : wc3.cell? ⟨bv, 2, none⟩ = some (.string vs) := HV.out.blk.cell 2;have g3 : wc3.cell? ⟨bv, 3, none⟩ = some (.slice va vm vc) := HV.out.blk.cell 3
          go_wp2_with fail
          refine (HCl.out ⟨#[80, 97, 114, 101, 110, 116]⟩ wc3 (Ext.refl _ _)).mono ?_;rintro e W1 ⟨cs1, rfl, hT1, hQ1, hO1⟩;have HTh := qh (show W1.there bv 0 cs1.toArray.size by rw [show cs1.toArray.size = 4 by simpa using hT1.len]; exact (HV.out.blk.ext hQ1 id).there 4 rfl);have HSi : Hid ((Tryz.prog.info? 48).map (·.size) = some cs1.toArray.size) := qh (by rw [List.size_toArray, hT1.len]; exact size24);have HOn := qh hT1.one;obtain ⟨Ws, hws⟩ : ∃ z, z = W1.setCells bv 0 cs1 := ⟨_, rfl⟩;have HWs : Hid (W1.setCells bv 0 cs1.toArray.toList = Ws) := qh (by rw [hws]);have HNew : Hid (StrayV w wo d bv (if (((k : Int) + 1) ∈ t.nodes ∧ ((k : Int) + 1) ∈ t.pages) then v3.dropped ⟨#[80, 97, 114, 101, 110, 116]⟩ else v3) Ws) := qh (by rw [if_pos HC.out, hws]; exact StrayV.drop HV.out HZ.out HFf.out HQ1.out HLo.out hT1 hQ1 hO1)
          clear hT1 hQ1 hO1 hws g0 g1 g2 g3 HCl HLv
          go_wp2_with (with_reducible refine at_store 48 (.tmp 7) (.tmp 60) ?_; refine wpList_store_mid rfl 48 (.tmp 7) (.tmp 60) rfl bv 0 cs1.toArray rfl rfl HTh.out HSi.out HOn.out ?_; rw [HWs.out])
          go_meet
          exact ⟨by first | rfl | rw [HC.out], HNew⟩
         ·have HNew : Hid (StrayV w wo d bv (if (((k : Int) + 1) ∈ t.nodes ∧ ((k : Int) + 1) ∈ t.pages) then v3.dropped ⟨#[80, 97, 114, 101, 110, 116]⟩ else v3) wc3) := qh (by rw [if_neg hc]; exact HS3.out)
          have hcb : decide (((k : Int) + 1) ∈ t.nodes ∧ ((k : Int) + 1) ∈ t.pages) = false := decide_eq_false hc
          go_wp2_with fail
          go_meet
          exact ⟨rfl, HNew⟩
        case rest =>
         obtain ⟨rfl, HS4⟩ := hcut;obtain ⟨wc4, rfl⟩ : ∃ z : World, z = wc := ⟨_, rfl⟩;obtain ⟨v4, hvn⟩ : ∃ z, z = (if (((k : Int) + 1) ∈ t.nodes ∧ ((k : Int) + 1) ∈ t.pages) then v3.dropped ⟨#[80, 97, 114, 101, 110, 116]⟩ else v3) := ⟨_, rfl⟩
         rw [← hvn] at HS4;have HVn4 := qh hvn;clear hvn HS3;obtain ⟨cs, hV, hz, hf, hQ0⟩ := HS4.out;obtain ⟨va, vc, _, hcs, _⟩ := hV.top.parts;rw [hcs] at hV;have HCl := qh (fun key W' (hP : Pure wc4 W') => refdrop_top w d v4 _ key W' (hV.base.pure hP) (hV.top.pure hP) (Nat.le_trans (V.len_size v4) hz));have HV := qh hV;have HZ := qh hz;have HFf := qh hf;have HQ1 := qh hQ0;have HLv := qh (hV.top.lies hV.base);clear hcs hV hz hf hQ0;generalize v4.l.length = vm at *;generalize v4.kind = vk at *;generalize v4.n = vn at *;generalize v4.s = vs at *;have g0 : wc4.cell? ⟨bv, 0, none⟩ = some (.int .i64 vk) := HV.out.blk.cell 0;have g1 : wc4.cell? ⟨bv, 1, none⟩ = some (.int .i64 vn) := HV.out.blk.cell 1;have g2 : wc4.cell? ⟨bv, 2, none⟩ = some (.string vs) := HV.out.blk.cell 2;have g3 : wc4.cell? ⟨bv, 3, none⟩ = some (.slice va vm vc) := HV.out.blk.cell 3;have HVe : Hid (cutP root t ((k : Int) + 1) uv = v4) := qh (by rw [cut_eq, cutR_eq, HV0e.out, ← HVn1.out, ← HVn2.out, ← HVn3.out, ← HVn4.out]);have HRf := qh (fun W (hP : Pure wc4 W) => refrefs_any (d + 1) v4 _ W (HLv.out.pure hP) HZ.out);have HMl : Hid ((v4.more []).length ≤ 100000) := qh (Nat.le_trans (more_len v4) HZ.out);obtain ⟨M, hM⟩ : ∃ z, z = v4.more [] := ⟨_, rfl⟩;rw [← hM] at HRf HMl;clear HCl
         go_wp2_with fail
         refine (HRf.out wc4 (Ext.refl _ _)).mono ?_;rintro e W4 ⟨ra, rc, rfl, _, _, _, hRow, hP4⟩;have HRow : Hid (RowOf W4 ra (intsV M)) := qh hRow;have HQ4 := qh (HQ1.out.pure hP4);have HT : Hid (leadsB root t v4 = M.any (inP root S)) := qh (by rw [HLd.out, hM]);obtain ⟨mn, hmn⟩ : ∃ z, z = M.length := ⟨_, rfl⟩;have hmn5 : mn ≤ 100000 := by rw [hmn]; exact HMl.out
         have HMn := qh hmn;rw [← hmn];clear hRow hP4 hM hmn g0 g1 g2 g3 HLv HRf HS4;have HAny : Hid ((List.range (k + 1)).any (fun k => leadsB root t (cutP root t ((k : Int) + 1) (l.getD k noOb).v)) = M.any (inP root S)) := qh (by
          rw [HStep.out, HNo.out, Bool.false_or, HVe.out];exact HT.out)
         go_wp2_with fail
         go_loopw [9] (fun i wr => ∃ j : Nat, j ≤ mn ∧ i = .int .i64 j ∧ Hid ((M.take j).any (inP root S) = false) ∧ Hid (Pure W4 wr)) (fun i _ => mn - (intOf i).toNat)
         case atStart => exact ⟨0, Nat.zero_le _, rfl, qh rfl, qh (Ext.refl _ _)⟩
         case round =>
          obtain ⟨j, hj, rfl, HNj, HEj⟩ := hrel;obtain ⟨wj, rfl⟩ : ∃ z : World, z = wr := ⟨_, rfl⟩
          by_cases hjl : j < mn
          ·have hji : (j : Int) < (mn : Int) := by omega
           have hj0 : (0 : Int) ≤ (j : Int) := by omega
           have hjM : j < M.length := by rw [← HMn.out]; exact hjl
           obtain ⟨yb, yo, hra, hc⟩ := (HRow.out.ext HEj.out (fun _ _ => id)) j _ (intsV_get hjM);obtain ⟨y, hy⟩ : ∃ z, z = M[j] := ⟨_, rfl⟩;rw [← hy] at hc;have HTk : Hid ((M.take (j + 1)).any (inP root S) = inP root S y) := qh (by rw [any_take_s _ _ _ hjM, HNj.out, Bool.false_or, hy]);have HMy : Hid (inP root S y = true → M.any (inP root S) = true) := qh (fun h => List.any_eq_true.2 ⟨y, by rw [hy]; exact List.getElem_mem hjM, h⟩);subst hra;have HPj := qh ((HPwo.out.pure HQ4.out).pure HEj.out);have d1 : wj.cell? ⟨tb, 1, none⟩ = some (.int .i64 root) := ((HBd.out.ext HQ4.out id).ext HEj.out id).cell 1;have q0 : wj.cell? ⟨tb + 1, 0, none⟩ = some (.slice a1 an x1) := ((HBt.out.ext HQ4.out id).ext HEj.out id).cell 0;have q1 : wj.cell? ⟨tb + 1, 1, none⟩ = some (.slice a2 bn x2) := ((HBt.out.ext HQ4.out id).ext HEj.out id).cell 1;have HIn : Hid (inP root S y = decide (y = root ∨ y ∈ t.nodes ∨ y ∈ t.pages)) := qh (by unfold inP; rw [HSe.out]; exact decide_eq_decide.2 (by rw [List.mem_append]));clear hy hjM
           go_upto_region 17 with (fail)
           go_cut [93] (fun x W => x = .bool (inP root S y) ∧ Hid (Pure wj W))
           case first =>
            by_cases hr1 : y = root
            ·have HV1 : Hid (inP root S y = true) := qh (by rw [HIn.out]; exact decide_eq_true (Or.inl hr1))
             have hrb : (y == root) = true := by simpa using hr1
             go_quiet (fail)
             go_wp2_with fail
             go_meet
             exact ⟨by rw [HV1.out], qh ((Ext.refl _ _).drewN _)⟩
            ·have hrb : (y == root) = false := by simpa using hr1
             by_cases hn1 : y ∈ t.nodes
             ·have HV1 : Hid (inP root S y = true) := qh (by rw [HIn.out]; exact decide_eq_true (Or.inr (Or.inl hn1)))
              have HQa : Hid (∀ W, Pure w W → Calls Tryz.prog 76 #[.slice a1 an x1, .int .i64 y] W (fun e w' => e = .returned (.bool true) ∧ w' = W)) := qh (fun W hP => decide_eq_true hn1 ▸ HC0.out y W hP);clear hr1
              go_quiet ((go_at_call 76; exact Calls.quiet_of_same (HQa.out _ (HPj.out.drewN _))))
              go_wp2_with fail
              go_meet
              exact ⟨by rw [HV1.out], qh ((Ext.refl _ _).drewN _)⟩
             ·have HQa : Hid (∀ W, Pure w W → Calls Tryz.prog 76 #[.slice a1 an x1, .int .i64 y] W (fun e w' => e = .returned (.bool false) ∧ w' = W)) := qh (fun W hP => by have h := HC0.out y W hP; rwa [decide_eq_false hn1] at h)
              by_cases hp1 : y ∈ t.pages
              ·have HV1 : Hid (inP root S y = true) := qh (by rw [HIn.out]; exact decide_eq_true (Or.inr (Or.inr hp1)))
               have HQb : Hid (∀ W, Pure w W → Calls Tryz.prog 76 #[.slice a2 bn x2, .int .i64 y] W (fun e w' => e = .returned (.bool true) ∧ w' = W)) := qh (fun W hP => by have h := HC1.out y W hP; rwa [decide_eq_true hp1] at h);clear hr1
               go_quiet ((go_at_call 76; first | with_reducible exact Calls.quiet_of_same (HQa.out _ (HPj.out.drewN _)) | with_reducible exact Calls.quiet_of_same (HQb.out _ (HPj.out.drewN _))))
               go_wp2_with fail
               go_meet
               exact ⟨by rw [HV1.out], qh ((Ext.refl _ _).drewN _)⟩
              ·have HV1 : Hid (inP root S y = false) := qh (by rw [HIn.out]; exact decide_eq_false (fun h => h.elim hr1 (fun h => h.elim hn1 hp1)))
               have HQb : Hid (∀ W, Pure w W → Calls Tryz.prog 76 #[.slice a2 bn x2, .int .i64 y] W (fun e w' => e = .returned (.bool false) ∧ w' = W)) := qh (fun W hP => by have h := HC1.out y W hP; rwa [decide_eq_false hp1] at h);clear hr1
               go_quiet ((go_at_call 76; first | with_reducible exact Calls.quiet_of_same (HQa.out _ (HPj.out.drewN _)) | with_reducible exact Calls.quiet_of_same (HQb.out _ (HPj.out.drewN _))))
               go_wp2_with fail
               go_meet
               exact ⟨by rw [HV1.out], qh ((Ext.refl _ _).drewN _)⟩
           case rest =>
            obtain ⟨rfl, HEc⟩ := hcut;obtain ⟨wq, rfl⟩ : ∃ z : World, z = wc := ⟨_, rfl⟩;have HEq := qh (HEj.out.pure HEc.out);obtain ⟨B, hB⟩ : ∃ z, z = inP root S y := ⟨_, rfl⟩;rw [← hB] at HMy HTk ⊢;clear hB HIn;cases B with
            | true =>
              have HFr : Hid (F = true) := qh (by
               have h1 := HAny.out;rw [HMy.out rfl, List.any_eq_true] at h1;obtain ⟨j, hj, hp⟩ := h1;rw [HF.out, List.any_eq_true];exact ⟨j, List.mem_range.2 (by have := List.mem_range.1 hj; omega), hp⟩)
              go_wp2_with fail
              go_ret;exact ⟨by rw [HFr.out]; rfl, HPwo.out.pure (HQ4.out.pure HEq.out)⟩
            | false =>
              go_wp2_with fail
              go_roundw
              case rel => exact ⟨j + 1, by omega, by go_num, HTk, HEq⟩
              case measure => simp [intOf]; omega
          ·have hji : ¬ (j : Int) < (mn : Int) := by omega
           have HF2 : Hid ((List.range (k + 1)).any (fun k => leadsB root t (cutP root t ((k : Int) + 1) (l.getD k noOb).v)) = false) := qh (by
            have h := HNj.out;rw [List.take_of_length_le (by rw [← HMn.out]; omega)] at h;rw [HAny.out, h])
           go_wp2_with fail
           go_roundw
           case rel => exact ⟨k + 1, by omega, by go_num, HF2, qh (HQ4.out.pure HEj.out)⟩
           case measure => simp [intOf]; omega
  ·have hki : ¬ (k : Int) < (n : Int) := by omega
   obtain rfl : k = n := by omega
   have HFr : Hid (F = false) := qh (by rw [HF.out]; exact HNo.out)
   go_wp2_with fail
   go_ret;exact ⟨by rw [HFr.out]; rfl, HPwo.out.pure HE.out⟩
