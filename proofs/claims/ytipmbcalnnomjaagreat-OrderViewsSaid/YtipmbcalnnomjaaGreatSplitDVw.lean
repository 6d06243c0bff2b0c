import Derived.Test.YtipmbcalnnomjaaGreatShareOfVw
import Derived.Test.YtipmbcalnnomjaaGreatClosVw
import Derived.Test.YtipmbcalnnomjaaGreatPagesPlVw
import Derived.Deep.OwnRows
import Derived.Test.YtipmbcalnnomjaaGreatSqVw
set_option linter.unusedVariables false
set_option linter.unusedSimpArgs false
set_option maxRecDepth 100000
namespace Go.Proofs.YtipmbcalnnomjaaGreat
open Go.RowKit Go.Maps
theorem rows_bad (d : Nat) (l : List Ob) (oa : Option Addr) (oc : Nat) (rws : List (List Value)) (root E : Int) (w : World) (hD : DocOk w d l oa rws root) (hds : ∀ u ∈ l, u.data.size ≤ maxLen) (hE : docE l root = E) (h0 : E ≠ 0) :
 Calls Tryz.prog 71 #[.agg #[.slice oa l.length oc, .int .i64 root]] w (fun e w' => e = .returned (.tuple #[.slice none 0 0, .int .i64 E]) ∧ Pure w w') := by
 have HDo := qh (fun W (hP : Pure w W) => (hE ▸ doc_any d l oa oc rws root W (hD.pure hP) hds : Calls Tryz.prog 13 #[.agg #[.slice oa l.length oc, .int .i64 root]] W (IntTo E W)))
 obtain ⟨n, hn⟩ : ∃ z, z = l.length := ⟨_, rfl⟩
 rw [← hn] at HDo ⊢
 obtain ⟨w1, hw1⟩ : ∃ z, z = w.alloc (.cells #[.slice oa n oc, .int .i64 root] 24) := ⟨_, rfl⟩
 have HP1 : Hid (Pure w w1) := qh (by rw [hw1]; exact ext_alloc w _)
 have HW1 := qh hw1.symm
 have hb : (E != 0) = true := by simpa using h0
 clear hw1 hn hD hds hE
 go_enter Tryz.func71, Tryz.ntmps71
 go_wp2_with fail
 rw [HW1.out]
 refine (HDo.out w1 HP1.out).mono ?_
 rintro e w2 ⟨rfl, hP2⟩
 go_wp2_with fail
 go_ret2
 exact ⟨rfl, HP1.out.pure hP2⟩
set_option maxHeartbeats 2000000 in
theorem split_bad (d : Nat) (l : List Ob) (oa : Option Addr) (oc : Nat) (rws : List (List Value)) (root E : Int) (w : World) (hD : DocOk w d l oa rws root) (hds : ∀ u ∈ l, u.data.size ≤ maxLen) (hE : docE l root = E) (h0 : E ≠ 0) :
 Calls Tryz.prog 38 #[.agg #[.slice oa l.length oc, .int .i64 root]] w (fun e w' => e = .returned (.tuple #[.agg #[.slice none 0 0, .slice none 0 0, .slice none 0 0, .slice none 0 0, .slice none 0 0], .int .i64 E]) ∧ Pure w w') := by
 have HDo := qh (fun W (hP : Pure w W) => rows_bad d l oa oc rws root E W (hD.pure hP) hds hE h0)
 obtain ⟨n, hn⟩ : ∃ z, z = l.length := ⟨_, rfl⟩
 rw [← hn] at HDo ⊢
 obtain ⟨w1, hw1⟩ : ∃ z, z = (w.alloc (.cells #[.slice oa n oc, .int .i64 root] 24)).alloc (.cells #[.slice none 0 0, .slice none 0 0, .slice none 0 0, .slice none 0 0, .slice none 0 0] 36) := ⟨_, rfl⟩
 have HP1 : Hid (Pure w w1) := qh (by rw [hw1]; exact (ext_alloc w _).pure (ext_alloc _ _))
 have HB1 : Hid (BlockIs w1 (w.heap.size + 1) [.slice none 0 0, .slice none 0 0, .slice none 0 0, .slice none 0 0, .slice none 0 0] 36) := qh (by
  have := BlockIs.new (w.alloc (.cells #[.slice oa n oc, .int .i64 root] 24)) [.slice none 0 0, .slice none 0 0, .slice none 0 0, .slice none 0 0, .slice none 0 0] 36
  rw [World.size_alloc] at this
  rw [hw1]; exact this)
 have HW1 := qh hw1.symm
 obtain ⟨R, hR⟩ : ∃ z, z = w.heap.size := ⟨_, rfl⟩
 rw [← hR] at HB1
 have HR := qh hR.symm
 have hb : (E != 0) = true := by simpa using h0
 clear hw1 hn hD hds hE hR
 go_enter Tryz.func38, Tryz.ntmps38
 go_wp2_with fail
 rw [HW1.out, HR.out]
 refine (HDo.out w1 HP1.out).mono ?_
 rintro e w2 ⟨rfl, hP2⟩
 have HB2 := qh (HB1.out.ext hP2 id)
 have HP2 := qh (HP1.out.pure hP2)
 have HTh : Hid (w2.there (R + 1) 0 (#[Value.slice none 0 0, .slice none 0 0, .slice none 0 0, .slice none 0 0, .slice none 0 0] : Array Value).size) := qh (HB2.out.there 5 rfl)
 have HSi : Hid ((Tryz.prog.info? 36).map (·.size) = some (#[Value.slice none 0 0, .slice none 0 0, .slice none 0 0, .slice none 0 0, .slice none 0 0] : Array Value).size) := qh sizeSP
 have HOn : Hid (((#[Value.slice none 0 0, .slice none 0 0, .slice none 0 0, .slice none 0 0, .slice none 0 0] : Array Value).all fun u => u.oneCell') = true) := qh (all_oneCell_toArray (by intro u hu; simp only [List.mem_cons, List.not_mem_nil, or_false] at hu; rcases hu with rfl | rfl | rfl | rfl | rfl <;> rfl))
 clear hP2
 go_wp2_with (with_reducible refine at_store 36 (.tmp 2) (.tmp 15) ?_; refine wpList_store_mid rfl 36 (.tmp 2) (.tmp 15) rfl (R + 1) 0 #[.slice none 0 0, .slice none 0 0, .slice none 0 0, .slice none 0 0, .slice none 0 0] rfl rfl HTh.out HSi.out HOn.out ?_)
 have hB := HB2.out.setAll [.slice none 0 0, .slice none 0 0, .slice none 0 0, .slice none 0 0, .slice none 0 0] rfl
 refine bodyPost_ret (results_row2 rfl _ _ (R + 1) _ [.slice none 0 0, .slice none 0 0, .slice none 0 0, .slice none 0 0, .slice none 0 0] _ rfl hB Tryz.underlying36 rfl sizeSP) rfl ?_
 exact ⟨rfl, Ext.setCells _ 0 _ HP2.out (b := R + 1) (fun h => by have := HR.out; omega)⟩
theorem split_none (w : World) : Calls Tryz.prog 38 #[.agg #[.slice none 0 0, .int .i64 0]] w (fun e w' => e = .returned (.tuple #[.agg #[.slice none 0 0, .slice none 0 0, .slice none 0 0, .slice none 0 0, .slice none 0 0], .int .i64 23]) ∧ Pure w w') :=
 split_bad 3 [] none 0 [] 0 23 w ⟨⟨rfl, fun r hr => (by cases hr), fun i u hu => (by simp at hu), fun i o r ho => (by cases ho)⟩, by decide, fun u hu => (by cases hu), fun u hu => (by cases hu), by decide⟩ (fun u hu => by cases hu) (by decide +kernel) (by decide)
theorem six_at {W : World} {a : Option Addr} {rows : List (List Value)} (h6 : ∀ r ∈ rows, r.length = 6) (hR : RowOf W a (rows.flatMap id)) {k : Nat} (hk : k < rows.length) : ∃ b o, a = some ⟨b, o, none⟩ ∧ ∀ j u, rows[k][j]? = some u → W.cell? ⟨b, o + k * 6 + j, none⟩ = some u := by
 have hl := h6 _ (List.getElem_mem hk)
 have hg : ∀ j, j < 6 → (rows.flatMap id)[k * 6 + j]? = rows[k][j]? := fun j hj => flat_get id rows (fun r hr => h6 r hr) k hk j hj
 obtain ⟨b, o, ha, _⟩ := hR (k * 6 + 0) _ ((hg 0 (by omega)).trans (List.getElem?_eq_getElem (by omega)))
 refine ⟨b, o, ha, fun j u hu => ?_⟩
 have hj : j < 6 := by have := (List.getElem?_eq_some_iff.1 hu).1; omega
 obtain ⟨b', o', ha', hc⟩ := hR (k * 6 + j) u ((hg j hj).trans hu)
 rw [ha] at ha'
 cases ha'
 rw [Nat.add_assoc]; exact hc
def rowsL (l : List Ob) (Rs : List (Int × List Int × V)) : List (List Int) := Rs.map fun R => closP l R.1 R.2.2
theorem rowsL_get (l : List Ob) (Rs : List (Int × List Int × V)) (k : Nat) (h : k < Rs.length) : (rowsL l Rs).take (k + 1) = (rowsL l Rs).take k ++ [closP l Rs[k].1 Rs[k].2.2] := by
 unfold rowsL
 rw [List.take_succ_eq_append_getElem (by rw [List.length_map]; exact h), List.getElem_map]
theorem num_wf {y : Int} (h1 : 1 ≤ y) (h2 : y ≤ 1000000) : (Lit.int .i64 y).wf = true := by
 unfold Lit.wf
 simp [IntKind.min, IntKind.max, IntKind.bits, IntKind.signed]
 omega
def RwsTo (L : List (List Int)) (w : World) (e : Ending) (w' : World) : Prop :=
 ∃ (a : Option Addr) (c : Nat) (rs : List CRow), e = .returned (.slice a rs.length c) ∧ lsR rs = L ∧ Rws w' a rs ∧ (∀ q ∈ rs, q.ok w') ∧ (a = none → c = 0) ∧ rs.length ≤ c ∧ Pure w w'
set_option maxHeartbeats 4000000 in
theorem rowsd_any (d : Nat) (l : List Ob) (oa : Option Addr) (oc : Nat) (rows : List (List Value)) (root : Int) (w : World) (hD : DocOk w d l oa rows root)
 (T : Tr) (n0 : Int) (kids : List Int) (q : Int) (Rs : List (Int × List Int × V)) (hDF : DocFine l root T) (hTop : TopOk l root n0 kids q) (hRq : (Rs.length : Int) = q) (hRT : Rs.length = T.pages.length)
 (hRs : ∀ (p : Nat) (hp : p < Rs.length), findP l 64 n0 kids q (p : Int) [] emptyV = some Rs[p] ∧ LeafGood l root T (p : Int) Rs[p]) :
 Calls Tryz.prog 101 #[.agg #[.slice oa l.length oc, .int .i64 root]] w (RwsTo (rowsL l Rs) w) := by
 have HLv := qh (fun fb db W (hP : Pure w W) hF => leaves_any d l oa oc root rows fb db n0 w W hP hD hF kids q hTop Rs hRq (fun p hp => (hRs p hp).1))
 have HCl := qh (fun fb db W (hP : Pure w W) (hF : FileAt W fb db oa l.length oc root) (x : Int) pa pm pc g gcs (hg : Lies W (d + 1 + 1) g gcs) hgz hgw hx => closure_any d (d + 1) l oa oc root rows fb db x pa pm pc g gcs w W hP hD.ok (by have := hD.len; omega) hF hg hgz hgw (fun i => hD.at_size i) (fun i => hD.at_wf i) hx)
 have HOf := qh (fun W => of_any oa l.length oc root W)
 have hq2 : Rs.length ≤ 2048 := by have := (node_typed hTop.node).2.2.2; omega
 have HLn : Hid (l.length ≤ 5000) := qh hD.len
 obtain ⟨n, hn⟩ : ∃ z, z = l.length := ⟨_, rfl⟩
 rw [← hn] at HOf HCl ⊢
 have HN := qh hn
 obtain ⟨pn, hpn⟩ : ∃ z, z = Rs.length := ⟨_, rfl⟩
 have HPn := qh hpn
 unfold LeavesTo at HLv
 rw [← hpn] at HLv hq2
 rw [← hn] at HLv
 have HRs := qh hRs
 have HRT := qh hRT
 have HDF := qh hDF
 clear hn hpn hRs hRT hDF hTop hRq hD
 obtain ⟨w1, hw1⟩ : ∃ z, z = w.alloc (.cells #[.slice oa n oc, .int .i64 root] 24) := ⟨_, rfl⟩
 have HP1 : Hid (Pure w w1) := qh (by rw [hw1]; exact ext_alloc w _)
 have HW1 := qh hw1.symm
 clear hw1
 go_enter Tryz.func101, Tryz.ntmps101
 go_wp2_with fail
 rw [HW1.out]
 refine (HOf.out w1).mono ?_
 rintro e w5 ⟨fb, db, rfl, _, _, hFa, hPf⟩
 have HP5 := qh (HP1.out.pure hPf)
 have HFa := qh hFa
 clear hPf hFa
 go_wp2_with fail
 refine (HLv.out fb db w5 HP5.out HFa.out).mono ?_
 rintro e w6 ⟨la, lc, rws, rfl, hRw, hrl, hrow, hPf⟩
 have HP6 := qh (HP5.out.pure hPf)
 have HF6 := qh (HFa.out.ext hPf id id)
 have HRw := qh hRw
 have HRl := qh hrl
 have HRo := qh hrow
 clear hPf hRw hrl hrow HFa HLv
 obtain ⟨R, hR⟩ : ∃ z, z = w6.heap.size := ⟨_, rfl⟩
 have HRz := qh hR
 clear hR
 go_wp2_with fail
 go_loopw [24, 7] (fun x v wr => ∃ (k : Nat) (κ : Nat → Nat) (a : Option Addr) (c : Nat) (rs : List CRow), k ≤ pn ∧ x = .int .i64 k ∧ v = .slice a k c ∧ Hid (rs.length = k ∧ lsR rs = (rowsL l Rs).take k) ∧ Hid (OwnC κ R 3 25 wr a c (rs.map CRow.v)) ∧ Hid (RwC κ R wr rs) ∧ Hid (∀ b, b < R → κ b = 0) ∧ Hid (Pure w6 wr)) (fun x _ _ => pn - (intOf x).toNat)
 case atStart => exact ⟨0, fun _ => 0, none, 0, [], Nat.zero_le _, rfl, rfl, qh ⟨rfl, rfl⟩, qh (OwnC.nil _ _ _ _ _), qh (fun i q hq => by cases hq), qh (fun _ _ => rfl), qh (Ext.refl _ _)⟩
 case round =>
  obtain ⟨k, κ, a, c, rs, hk, rfl, rfl, HL, HO, HRc, HK, HPr⟩ := hrel
  by_cases hlt : k < pn
  ·have hki : (k : Int) < (pn : Int) := by omega
   have hk0 : (0 : Int) ≤ (k : Int) := by omega
   have hkR : k < Rs.length := by rw [← HPn.out]; exact hlt
   have hkr : k < rws.length := by rw [HRl.out]; exact hlt
   have h6 : ∀ r ∈ rws, r.length = 6 := fun r hr => by
    obtain ⟨i, hi, rfl⟩ := List.getElem_of_mem hr
    exact (HRo.out i _ _ (List.getElem?_eq_getElem (by rw [← HPn.out, ← HRl.out]; exact hi)) (List.getElem?_eq_getElem hi)).len
   obtain ⟨lb, lo, rfl, hcell⟩ := six_at h6 HRw.out hkr
   have hL := HRo.out k _ _ (List.getElem?_eq_getElem hkR) (List.getElem?_eq_getElem hkr)
   have hG := (HRs.out k hkR).2
   have HTk := qh (rowsL_get l Rs k hkR)
   obtain ⟨rw6, hrw6⟩ : ∃ z, z = rws[k] := ⟨_, rfl⟩
   obtain ⟨Rk, hRe⟩ : ∃ z, z = Rs[k] := ⟨_, rfl⟩
   rw [← hrw6] at hcell hL
   rw [← hRe] at hL hG HTk
   clear hrw6 hRe h6 hkr
   obtain ⟨Rn, Rp, Rg⟩ := Rk
   obtain ⟨hPg, hPt, hGd, hRpl⟩ := hG
   simp only at hPg hPt hGd hRpl
   obtain ⟨pta, ptc, gcs, rfl, hPath, hTp⟩ := hL
   have hLg : Lies w6 (d + 1 + 1) Rg gcs := hTp.lies HP6.out
   simp only at hPath hcell hLg HTk
   have hkp : k < T.pages.length := by rw [← HRT.out]; exact hkR
   have hPk : T.pages[k] = Rn := by
    rw [Int.toNat_natCast, List.getElem?_eq_getElem hkp] at hPg
    exact Option.some.inj hPg
   have HRnW : Hid ((Lit.int .i64 Rn).wf = true) := qh (by
    have h1 := HDF.out.tok.lo Rn (Or.inr (by rw [← hPk]; exact List.getElem_mem hkp))
    have h2 := HLn.out
    exact num_wf (by omega) (by omega))
   obtain ⟨ca, cc, crows, hcc, _⟩ := hLg.kids
   have HClo := qh (fun W (hP : Pure w6 W) => HCl.out fb db W (HP6.out.pure hP) (HF6.out.ext hP id id) Rn pta Rp.length ptc Rg gcs (hLg.pure hP) hGd.size hGd.wf HRnW.out)
   rw [hcc] at hcell HClo
   clear hPg hPk hkp hLg hPath hPt hGd hTp hcc hkR HCl
   obtain ⟨pl, hpl⟩ : ∃ z, z = Rp.length := ⟨_, rfl⟩
   rw [← hpl] at hcell HClo
   obtain ⟨L, hLe⟩ : ∃ z, z = closP l Rn Rg := ⟨_, rfl⟩
   rw [← hLe] at HTk HClo
   obtain ⟨fl, hfl⟩ : ∃ z, z = Rg.l.length := ⟨_, rfl⟩
   rw [← hfl] at hcell HClo
   generalize Rg.kind = gk at *
   generalize Rg.n = gn at *
   generalize Rg.s = gs at *
   clear hpl hLe hfl
   have hr : wr.rangeAt lb (lo + k * 6) [.int .i64 Rn, .slice pta pl ptc, .int .i64 gk, .int .i64 gn, .string gs, .slice ca fl cc] := fun j v hv => by
    exact HPr.out.cell_some (hcell j v hv) id
   have HSz : Hid ((Tryz.prog.info? 92).map (·.size) = some [Value.int .i64 Rn, .slice pta pl ptc, .int .i64 gk, .int .i64 gn, .string gs, .slice ca fl cc].length) := qh size55
   have HSg : Hid (R ≤ wr.heap.size) := qh (by rw [HRz.out]; exact HPr.out.size)
   clear hcell hRpl
   go_wp2_with (with_reducible refine at_load 92 (.tmp 26) ?_; refine wpList_load_mid rfl 92 (.tmp 26) rfl lb (lo + k * 6) rfl [.int .i64 Rn, .slice pta pl ptc, .int .i64 gk, .int .i64 gn, .string gs, .slice ca fl cc] _ hr Tryz.underlying92 rfl HSz.out ?_)
   obtain ⟨W2, hW2⟩ : ∃ z, z = wr.alloc (.cells #[.int .i64 Rn, .slice pta pl ptc, .int .i64 gk, .int .i64 gn, .string gs, .slice ca fl cc] 92) := ⟨_, rfl⟩
   have HP2 : Hid (Pure wr W2) := qh (by rw [hW2]; exact ext_alloc wr _)
   rw [← hW2]
   clear hW2 hr
   refine (HClo.out W2 (HPr.out.pure HP2.out)).mono ?_
   rintro e W3 ⟨ra, rc, oa3, oc3, rws3, rfl, hO3, _, _, _, hP3⟩
   have HP3 := qh (HP2.out.pure hP3)
   have HO3 := qh hO3
   have hSg2 := HP2.out.size
   obtain ⟨ln, hln⟩ : ∃ z, z = L.length := ⟨_, rfl⟩
   rw [← hln] at HO3 ⊢
   have HLn2 := qh hln
   obtain ⟨W4, hW4⟩ : ∃ z, z = W3.alloc (.cells #[.slice ra ln rc] 25) := ⟨_, rfl⟩
   have HPa : Hid (Pure W3 W4) := qh (by rw [hW4]; exact ext_alloc _ _)
   have HRw1 : Hid (RowOf W4 (some ⟨W3.heap.size, 0, none⟩) [.slice ra ln rc]) := qh (by rw [hW4]; exact row_at _ rfl rfl)
   have HW4 : Hid (W3.alloc (.cells #[.slice ra ln rc] 25) = W4) := qh hW4.symm
   have HRs4 : Hid (R ≤ W4.heap.size) := qh (Nat.le_trans HSg.out (Nat.le_trans HP3.out.size HPa.out.size))
   obtain ⟨κ2, hκ2⟩ : ∃ z, z = paint wr κ (20 + rs.length) := ⟨_, rfl⟩
   have hag : Agree wr κ κ2 := by rw [hκ2]; exact paint_agree wr κ _
   have HOr : Hid (OwnC κ2 R (20 + rs.length) 3 W4 ra rc (intsV L)) := qh ⟨by
    rw [intsV_len, ← HLn2.out]
    exact own_ext (own_base HO3.out (Nat.le_trans HSg.out hSg2)) HPa.out (fun _ _ => id), fun x hx => by
    rw [hκ2]
    exact paint_new (Nat.le_trans hSg2 (HO3.out.lt x.block (by rw [hx]; rfl)).1)⟩
   have HOo : Hid (OwnC κ2 R 3 25 W4 a c (rs.map CRow.v)) := qh ((HO.out.keep (HP3.out.pure HPa.out) (fun _ _ => id) hag))
   have HRc4 : Hid (RwC κ2 R W4 rs) := qh (HRc.out.keep (HP3.out.pure HPa.out) (fun _ _ => id) hag)
   have HK2 : Hid (∀ b, b < R → κ2 b = 0) := qh (fun b hb => (hag b (Nat.lt_of_lt_of_le hb HSg.out)).trans (HK.out b hb))
   have HOs : Hid (W4.ownsRow R 25 1 (.slice a k c) k (rs.map CRow.v)) := qh (by
    have h := HOo.out.row
    rw [List.length_map, HL.out.1] at h
    exact h)
   have HP64 : Hid (Pure w6 W4) := qh (HPr.out.pure (HP3.out.pure HPa.out))
   clear hW4 hκ2 hag hO3 hP3 hln hSg2
   go_wp2_with (at_builtin; rw [HW4.out]; refine wpList_append_fresh rfl (.tmp 36) (.tmp 38) 26 rfl R 25 (.slice none 0 0) 1 24 Tryz.underlying26 infoR rfl (by decide) (.slice a k c) k (rs.map CRow.v) rfl HOs.out (some ⟨W3.heap.size, 0, none⟩) 1 1 [.slice ra ln rc] rfl (fun e => by cases e) rfl HRw1.out (fun u hu => by simp at hu; subst hu; rfl) (k + 1) rfl (rs.map CRow.v ++ [.slice ra ln rc]) rfl (by omega) (by unfold maxLen; omega) HRs4.out ?_; intro a7 c7 W7 hO7 hg7 hf7)
   have hgr := HOo.out.grow (a2 := a7) (c2 := c7) (u := .slice ra ln rc) (Ext.refl _ _) (by rw [List.length_map, HL.out.1]; exact hg7) (by rw [List.length_map, HL.out.1]; exact hO7) (by rw [List.length_map, HL.out.1]; exact hf7)
   have hag7 := paint_agree W4 κ2 3
   have HOo7 : Hid (OwnC (paint W4 κ2 3) R 3 25 W7 a7 c7 ((rs ++ [CRow.mk ra rc L]).map CRow.v)) := qh (by
    rw [List.map_append]
    show OwnC (paint W4 κ2 3) R 3 25 W7 a7 c7 (rs.map CRow.v ++ [.slice ra L.length rc])
    rw [← HLn2.out]
    exact hgr.1)
   have HRc7 : Hid (RwC (paint W4 κ2 3) R W7 (rs ++ [CRow.mk ra rc L])) := qh ((HRc4.out.keep hgr.2 (fun b hb e => by omega) hag7).snoc (HOr.out.keep hgr.2 (fun b hb e => by omega) hag7))
   have HK7 : Hid (∀ b, b < R → paint W4 κ2 3 b = 0) := qh (fun b hb => (hag7 b (Nat.lt_of_lt_of_le hb HRs4.out)).trans (HK2.out b hb))
   have HP67 : Hid (Pure w6 W7) := qh (pure_old HP64.out hgr.2 (fun b hb => HK2.out b (by rw [HRz.out]; exact hb)) (fun b e => by omega))
   have HL7 : Hid ((rs ++ [CRow.mk ra rc L]).length = k + 1 ∧ lsR (rs ++ [CRow.mk ra rc L]) = (rowsL l Rs).take (k + 1)) := qh ⟨by rw [List.length_append, HL.out.1]; rfl, by
    have e : lsR (rs ++ [CRow.mk ra rc L]) = lsR rs ++ [L] := by unfold lsR; rw [List.map_append]; rfl
    rw [e, HL.out.2, HTk.out]⟩
   clear hgr hag7 hO7 hg7 hf7
   go_roundw
   case rel => exact ⟨k + 1, _, a7, c7, _, by omega, by go_num, rfl, HL7, HOo7, HRc7, HK7, HP67⟩
   case measure => simp [intOf]; omega
  ·have hki : ¬ (k : Int) < (pn : Int) := by omega
   obtain rfl : k = pn := by omega
   have HLf : Hid (lsR rs = rowsL l Rs) := qh (by rw [HL.out.2, List.take_of_length_le (by unfold rowsL; rw [List.length_map, ← HPn.out]; exact Nat.le_refl _)])
   go_wp2_with fail
   go_ret
   have hok : ∀ q ∈ rs, q.ok wr := fun q hq => by
    obtain ⟨i, hi, rfl⟩ := List.mem_iff_getElem.1 hq
    exact (HRc.out i _ (List.getElem?_eq_getElem hi)).ok
   obtain ⟨q1, q2, q3⟩ := HO.out.read
   exact ⟨a, c, rs, by rw [HL.out.1]; rfl, HLf.out, ⟨q1, fun q hq => (hok q hq).1⟩, hok, q2, by rw [List.length_map] at q3; exact q3, HP6.out.pure HPr.out⟩
end Go.Proofs.YtipmbcalnnomjaaGreat
namespace Go.Proofs.YtipmbcalnnomjaaGreat
open Go.RowKit
theorem closR_lim (l : List Ob) (g : V) (n : Int) : ∀ (f : Nat) (row : List Int) (k : Nat), Lim n row → Lim n (closR l g f row k)
 | 0, row, _, h => h
 | f + 1, row, k, h => by
   unfold closR
   split
   ·refine closR_lim l g n f _ (k + 1) (h.on ?_)
    split
    ·exact firstR_in
    ·exact nextR_in
   ·exact h
theorem closP_lim (l : List Ob) (n : Int) (g : V) : Lim n (closP l n g) := closR_lim l g n 5000 [n] 0 ⟨by simp, fun x hx => Or.inl (List.mem_singleton.1 hx)⟩
structure GoodD (l : List Ob) (root : Int) (T : Tr) (Rs : List (Int × List Int × V)) : Prop where
 fine : DocFine l root T
 len : l.length ≤ 4094
 rin : 1 ≤ root ∧ root ≤ l.length
 pages : Rs.length = T.pages.length
 one : 1 ≤ Rs.length
 at_ : ∀ (p : Nat) (hp : p < Rs.length), LeafGood l root T (p : Int) Rs[p]
structure RowGood (l : List Ob) (root : Int) (T : Tr) (n : Int) (r : List Int) : Prop where
 head : ∃ zs, r = n :: zs
 nd : r.Nodup
 page : n ∈ T.pages
 lo : ∀ x ∈ r, 1 ≤ x ∧ x ≤ l.length
 good : ∀ x ∈ r, x ≠ root ∧ x ∉ T.nodes ∧ (x ∈ T.pages → x = n)
section
variable {l : List Ob} {root : Int} {T : Tr} {Rs : List (Int × List Int × V)}
theorem rowsL_len (l : List Ob) (Rs : List (Int × List Int × V)) : (rowsL l Rs).length = Rs.length := by unfold rowsL; rw [List.length_map]
theorem GoodD.page (h : GoodD l root T Rs) {p : Nat} (hp : p < Rs.length) : ∃ hq : p < T.pages.length, T.pages[p] = Rs[p].1 := by
 have hq : p < T.pages.length := by rw [← h.pages]; exact hp
 refine ⟨hq, ?_⟩
 have h1 := (h.at_ p hp).1
 rw [Int.toNat_natCast, List.getElem?_eq_getElem hq] at h1
 exact Option.some.inj h1
theorem GoodD.row (h : GoodD l root T Rs) {p : Nat} (hp : p < (rowsL l Rs).length) : ∃ hq : p < T.pages.length, RowGood l root T T.pages[p] (rowsL l Rs)[p] := by
 have hp' : p < Rs.length := by rw [← rowsL_len l Rs]; exact hp
 obtain ⟨hq, he⟩ := h.page hp'
 refine ⟨hq, ?_⟩
 have e : (rowsL l Rs)[p] = closP l Rs[p].1 Rs[p].2.2 := by simp only [rowsL, List.getElem_map]
 rw [e, he]
 have hm : Rs[p].1 ∈ T.pages := by rw [← he]; exact List.getElem_mem hq
 obtain ⟨zs, h1, h2⟩ := closP_good h.fine hm (h.at_ p hp').2.2.1.good
 have hl := closP_lim l Rs[p].1 Rs[p].2.2
 have hn := h.fine.tok.lo _ (Or.inr hm)
 have hnd := h.fine.tok.nd
 rw [List.nodup_append] at hnd
 refine ⟨⟨zs, h1⟩, hl.1, hm, fun x hx => ?_, fun x hx => ?_⟩
 ·rcases hl.2 x hx with e | e
  ·rw [e]; exact hn
  ·refine ⟨e.1, ?_⟩
   rw [h1] at hx
   rcases List.mem_cons.1 hx with rfl | hx
   ·exact hn.2
   ·exact (h2 x hx).2.2
 ·rw [h1] at hx
  rcases List.mem_cons.1 hx with rfl | hx
  ·refine ⟨fun e => h.fine.nroot (Or.inr (e ▸ hm)), fun e => hnd.2.2 _ e _ hm rfl, fun _ => rfl⟩
  ·obtain ⟨g1, g2, g3⟩ := h2 x hx
   exact ⟨g1, fun e => g2 (Or.inl e), fun e => absurd (Or.inr e) g2⟩
def PartsP.all (p : PartsP) : List Int := p.tree ++ p.first ++ p.own.flatten ++ p.shared ++ p.others
theorem mem_sh {rows : List (List Int)} {p : Nat} {x : Int} (h : x ∈ shP rows p) : condS rows x = true ∧ ∃ (i : Nat) (hi : i < rows.length), 0 < i ∧ x ∈ rows[i] := by
 have h2 := (onP_mem.1 h).resolve_left (by simp)
 obtain ⟨h3, h4⟩ := List.mem_filter.1 h2
 refine ⟨h4, ?_⟩
 obtain ⟨r, hr, hx⟩ := List.mem_flatten.1 h3
 obtain ⟨i, hi, rfl⟩ := List.mem_iff_getElem.1 hr
 rw [List.length_drop, List.length_take] at hi
 refine ⟨1 + i, by omega, by omega, ?_⟩
 rw [List.getElem_drop, List.getElem_take] at hx
 exact hx
theorem mem_owns {rows : List (List Int)} {x : Int} (h : x ∈ (ownsP rows rows.length).flatten) : manyP rows x = 1 ∧ ∃ (i : Nat) (hi : i < rows.length), 0 < i ∧ x ∈ rows[i] := by
 obtain ⟨o, ho, hx⟩ := List.mem_flatten.1 h
 obtain ⟨r, hr, rfl⟩ := List.mem_map.1 (show o ∈ ((rows.take rows.length).drop 1).map (ownP rows) from ho)
 obtain ⟨i, hi, rfl⟩ := List.mem_iff_getElem.1 hr
 rw [List.length_drop, List.length_take] at hi
 obtain ⟨h3, h4⟩ := List.mem_filter.1 hx
 refine ⟨of_decide_eq_true h4, 1 + i, by omega, by omega, ?_⟩
 rw [List.getElem_drop, List.getElem_take] at h3
 exact (onP_mem.1 h3).resolve_left (by simp)
theorem many_ex {rows : List (List Int)} {x : Int} (h : 0 < manyP rows x) : ∃ (i : Nat) (hi : i < rows.length), x ∈ rows[i] := by
 unfold manyP at h
 obtain ⟨r, hr⟩ := List.exists_mem_of_length_pos h
 obtain ⟨h1, h2⟩ := List.mem_filter.1 hr
 obtain ⟨i, hi, rfl⟩ := List.mem_iff_getElem.1 h1
 exact ⟨i, hi, of_decide_eq_true h2⟩
theorem ownsP_get (rows : List (List Int)) (k : Nat) (hk : k + 1 < rows.length) : (ownsP rows rows.length)[k]? = some (ownP rows rows[k + 1]) := by
 unfold ownsP
 rw [List.getElem?_map, List.getElem?_drop, List.getElem?_take, if_pos (by omega), List.getElem?_eq_getElem (by omega)]
 simp only [Option.map_some]
 congr 3
 omega
theorem flat_nodup {rows : List (List Int)} (h1 : ∀ r ∈ rows, r.Nodup) (h2 : ∀ (i j : Nat) (hi : i < rows.length) (hj : j < rows.length) (x : Int), i < j → x ∈ rows[i] → x ∉ rows[j]) : rows.flatten.Nodup := by
 induction rows with
 | nil => simp
 | cons r rows ih =>
   rw [List.flatten_cons, List.nodup_append]
   refine ⟨h1 r (by simp), ih (fun q hq => h1 q (by simp [hq])) (fun i j hi hj x hij hx => ?_), fun a ha b hb e => ?_⟩
   ·exact h2 (i + 1) (j + 1) (by simp; omega) (by simp; omega) x (by omega) hx
   ·subst e
    obtain ⟨q, hq, haq⟩ := List.mem_flatten.1 hb
    obtain ⟨j, hj, rfl⟩ := List.mem_iff_getElem.1 hq
    exact h2 0 (j + 1) (by simp) (by simp; omega) a (by omega) ha haq
theorem range_nodup (k : Nat) : ((List.range k).map fun i : Nat => (i : Int) + 1).Nodup := by
 induction k with
 | zero => simp
 | succ k ih =>
   rw [List.range_succ, List.map_append, List.nodup_append]
   refine ⟨ih, by simp, fun a ha b hb e => ?_⟩
   obtain ⟨i, hi, rfl⟩ := List.mem_map.1 ha
   rw [List.mem_range] at hi
   simp only [List.map_cons, List.map_nil, List.mem_singleton] at hb
   omega
theorem oth_mem {rows : List (List Int)} {tree : List Int} {k : Nat} {x : Int} : x ∈ othP rows tree k ↔ 1 ≤ x ∧ x ≤ k ∧ manyP rows x = 0 ∧ x ∉ tree := by
 unfold othP
 rw [List.mem_filter, List.mem_map]
 constructor
 ·rintro ⟨⟨i, hi, rfl⟩, h⟩
  rw [List.mem_range] at hi
  have := of_decide_eq_true h
  exact ⟨by omega, by omega, this⟩
 ·rintro ⟨h1, h2, h3⟩
  exact ⟨⟨(x - 1).toNat, by rw [List.mem_range]; omega, by omega⟩, decide_eq_true h3⟩
theorem GoodD.last (h : GoodD l root T Rs) : lastP (l.length : Int) = l.length := by
 have := h.len
 unfold lastP
 omega
theorem GoodD.mem (h : GoodD l root T Rs) (x : Int) : x ∈ (partsP l.length T.nodes root (rowsL l Rs)).all ↔ 1 ≤ x ∧ x ≤ l.length := by
 obtain ⟨rows, hrows⟩ : ∃ z, z = rowsL l Rs := ⟨_, rfl⟩
 have hrow : ∀ (p : Nat) (hp : p < rows.length), ∃ hq : p < T.pages.length, RowGood l root T T.pages[p] rows[p] := by subst hrows; exact fun p hp => h.row hp
 have hone : 1 ≤ rows.length := by rw [hrows, rowsL_len]; exact h.one
 rw [← hrows]
 show x ∈ (root :: T.nodes) ++ rows.headD [] ++ (ownsP rows rows.length).flatten ++ shP rows rows.length ++ othP rows (root :: T.nodes) (lastP l.length) ↔ _
 rw [h.last]
 simp only [List.mem_append]
 constructor
 ·rintro ((((h1 | h1) | h1) | h1) | h1)
  ·rcases List.mem_cons.1 h1 with rfl | h1
   ·exact h.rin
   ·exact h.fine.tok.lo x (Or.inl h1)
  ·rw [head_at rows hone] at h1
   exact (hrow 0 hone).2.lo x h1
  ·obtain ⟨_, i, hi, _, hx⟩ := mem_owns h1
   exact (hrow i hi).2.lo x hx
  ·obtain ⟨_, i, hi, _, hx⟩ := mem_sh h1
   exact (hrow i hi).2.lo x hx
  ·have := oth_mem.1 h1
   exact ⟨this.1, this.2.1⟩
 ·rintro ⟨h1, h2⟩
  by_cases ht : x ∈ (root :: T.nodes)
  ·exact Or.inl (Or.inl (Or.inl (Or.inl ht)))
  ·by_cases hm : manyP rows x = 0
   ·exact Or.inr (oth_mem.2 ⟨h1, h2, hm, ht⟩)
   ·by_cases hf : x ∈ rows.headD []
    ·exact Or.inl (Or.inl (Or.inl (Or.inr hf)))
    ·obtain ⟨i, hi, hx⟩ := many_ex (Nat.pos_of_ne_zero hm)
     have hi0 : i ≠ 0 := by
      rintro rfl
      exact hf (by rw [head_at rows hi]; exact hx)
     have hmem : rows[i] ∈ (rows.take rows.length).drop 1 := by
      rw [List.take_length, List.mem_iff_getElem]
      refine ⟨i - 1, by rw [List.length_drop]; omega, ?_⟩
      rw [List.getElem_drop]
      congr 1
      omega
     by_cases h1m : manyP rows x = 1
     ·refine Or.inl (Or.inl (Or.inr (List.mem_flatten.2 ⟨ownP rows rows[i], ?_, ?_⟩)))
      ·exact List.mem_map.2 ⟨rows[i], hmem, rfl⟩
      ·exact List.mem_filter.2 ⟨onP_mem.2 (Or.inr hx), decide_eq_true h1m⟩
     ·refine Or.inl (Or.inr ?_)
      unfold shP
      exact onP_mem.2 (Or.inr (List.mem_filter.2 ⟨List.mem_flatten.2 ⟨rows[i], hmem, hx⟩, decide_eq_true ⟨by omega, hf⟩⟩))
theorem GoodD.nodup (h : GoodD l root T Rs) : (partsP l.length T.nodes root (rowsL l Rs)).all.Nodup := by
 obtain ⟨rows, hrows⟩ : ∃ z, z = rowsL l Rs := ⟨_, rfl⟩
 have hrow : ∀ (p : Nat) (hp : p < rows.length), ∃ hq : p < T.pages.length, RowGood l root T T.pages[p] rows[p] := by subst hrows; exact fun p hp => h.row hp
 have hone : 1 ≤ rows.length := by rw [hrows, rowsL_len]; exact h.one
 rw [← hrows]
 show ((root :: T.nodes) ++ rows.headD [] ++ (ownsP rows rows.length).flatten ++ shP rows rows.length ++ othP rows (root :: T.nodes) (lastP l.length)).Nodup
 have hnd := h.fine.tok.nd
 rw [List.nodup_append] at hnd
 have hno : ∀ (i : Nat) (hi : i < rows.length), ∀ x ∈ rows[i], x ∉ (root :: T.nodes) := fun i hi x hx hm => by
  have hg := (hrow i hi).2.good x hx
  rcases List.mem_cons.1 hm with e | e
  ·exact hg.1 e
  ·exact hg.2.1 e
 rw [List.nodup_append]
 refine ⟨?_, (range_nodup _).filter _, fun a ha b hb e => ?_⟩
 ·rw [List.nodup_append]
  refine ⟨?_, onP_nodup List.nodup_nil, fun a ha b hb e => ?_⟩
  ·rw [List.nodup_append]
   refine ⟨?_, ?_, fun a ha b hb e => ?_⟩
   ·rw [List.nodup_append]
    refine ⟨?_, ?_, fun a ha b hb e => ?_⟩
    ·rw [List.nodup_cons]
     exact ⟨fun e => h.fine.nroot (Or.inl e), hnd.1⟩
    ·rw [head_at rows hone]
     exact (hrow 0 hone).2.nd
    ·subst e
     rw [head_at rows hone] at hb
     exact hno 0 hone a hb ha
   ·refine flat_nodup (fun r hr => ?_) (fun i j hi hj x hij hx hx2 => ?_)
    ·obtain ⟨q, hq, rfl⟩ := List.mem_map.1 (show r ∈ ((rows.take rows.length).drop 1).map (ownP rows) from hr)
     exact (onP_nodup List.nodup_nil).filter _
    ·rw [ownsP_len rows rows.length (Nat.le_refl _)] at hi hj
     have e1 := ownsP_get rows i (by omega)
     have e2 := ownsP_get rows j (by omega)
     rw [List.getElem?_eq_getElem (by rw [ownsP_len rows rows.length (Nat.le_refl _)]; omega)] at e1 e2
     rw [Option.some.inj e1] at hx
     rw [Option.some.inj e2] at hx2
     obtain ⟨h3, h4⟩ := List.mem_filter.1 hx
     obtain ⟨h5, _⟩ := List.mem_filter.1 hx2
     have := many_two rows (i + 1) (j + 1) (by omega) (by omega) ((onP_mem.1 h3).resolve_left (by simp)) ((onP_mem.1 h5).resolve_left (by simp))
     have := of_decide_eq_true h4
     omega
   ·subst e
    obtain ⟨h3, i, hi, hi0, hx⟩ := mem_owns hb
    rcases List.mem_append.1 ha with ha | ha
    ·exact hno i hi a hx ha
    ·rw [head_at rows hone] at ha
     have := many_two rows 0 i hi0 hi ha hx
     omega
  ·subst e
   obtain ⟨hc, i, hi, hi0, hx⟩ := mem_sh hb
   have hc := of_decide_eq_true hc
   rcases List.mem_append.1 ha with ha | ha
   ·rcases List.mem_append.1 ha with ha | ha
    ·exact hno i hi a hx ha
    ·exact hc.2 ha
   ·have := (mem_owns ha).1
    omega
 ·subst e
  obtain ⟨_, _, h3, h4⟩ := oth_mem.1 hb
  rcases List.mem_append.1 ha with ha | ha
  ·rcases List.mem_append.1 ha with ha | ha
   ·rcases List.mem_append.1 ha with ha | ha
    ·exact h4 ha
    ·rw [head_at rows hone] at ha
     have := many_pos rows 0 hone ha
     omega
   ·obtain ⟨h5, _⟩ := mem_owns ha
    omega
  ·obtain ⟨hc, i, hi, _, hx⟩ := mem_sh ha
   have := many_pos rows i hi hx
   omega
theorem GoodD.own (h : GoodD l root T Rs) (k : Nat) (hk : k + 1 < Rs.length) : ∃ zs hq, (partsP l.length T.nodes root (rowsL l Rs)).own[k]? = some (T.pages[k + 1]'hq :: zs) := by
 have hk' : k + 1 < (rowsL l Rs).length := by rw [rowsL_len]; exact hk
 obtain ⟨hq, hr⟩ := h.row hk'
 obtain ⟨zs, hz⟩ := hr.head
 have h1 : manyP (rowsL l Rs) T.pages[k + 1] = 1 := by
  have h2 := many_pos (rowsL l Rs) (k + 1) hk' (show T.pages[k + 1] ∈ (rowsL l Rs)[k + 1] by rw [hz]; exact List.mem_cons_self)
  by_cases h3 : manyP (rowsL l Rs) T.pages[k + 1] = 1
  ·exact h3
  ·exfalso
   have h4 : 2 ≤ manyP (rowsL l Rs) T.pages[k + 1] := by omega
   obtain ⟨i, hi, hik, hx⟩ : ∃ (i : Nat) (hi : i < (rowsL l Rs).length), i ≠ k + 1 ∧ T.pages[k + 1] ∈ (rowsL l Rs)[i] := by
    apply Classical.byContradiction
    intro hno
    have h5 : ∀ (rows : List (List Int)) (k : Nat) (x : Int), (∀ (i : Nat) (hi : i < rows.length), i ≠ k → x ∉ rows[i]) → manyP rows x ≤ 1 := by
     intro rows
     induction rows with
     | nil => intro k x _; exact Nat.zero_le _
     | cons r rows ih =>
       intro k x hh
       unfold manyP
       rw [List.filter_cons]
       cases k with
       | zero =>
         have h6 : rows.filter (fun r => decide (x ∈ r)) = [] := by
          rw [List.filter_eq_nil_iff]
          intro q hq
          obtain ⟨j, hj, rfl⟩ := List.mem_iff_getElem.1 hq
          have := hh (j + 1) (by simp; omega) (by omega)
          simpa using this
         rw [h6]
         split <;> simp
       | succ k =>
         have h7 := hh 0 (by simp) (by omega)
         rw [if_neg (by simpa using h7)]
         exact ih k x (fun i hi hne => by have := hh (i + 1) (by simp; omega) (by omega); simpa using this)
    have := h5 (rowsL l Rs) (k + 1) T.pages[k + 1] (fun i hi hne hx => hno ⟨i, hi, hne, hx⟩)
    omega
   obtain ⟨hq2, hr2⟩ := h.row hi
   have h6 := (hr2.good _ hx).2.2 (List.getElem_mem hq)
   have hnd := h.fine.tok.nd
   rw [List.nodup_append] at hnd
   exact hik ((List.getElem_inj hnd.2.1).1 h6).symm
 have h8 : ∀ (a : Int) (ys : List Int), ∃ us, onP [] (a :: ys) = a :: us := fun a ys => by
  have h9 : onP [] (a :: ys) = onP [a] ys := rfl
  rw [h9]
  clear h9
  induction ys using snocInd with
  | nil => exact ⟨[], rfl⟩
  | app ys y ih =>
    obtain ⟨us, hu⟩ := ih
    rw [onP_snoc]
    split
    ·exact ⟨us, hu⟩
    ·rw [hu]; exact ⟨us ++ [y], rfl⟩
 obtain ⟨us, hu⟩ := h8 T.pages[k + 1] zs
 refine ⟨us.filter (fun x => decide (manyP (rowsL l Rs) x = 1)), hq, ?_⟩
 show (ownsP (rowsL l Rs) (rowsL l Rs).length)[k]? = _
 rw [ownsP_get _ k hk']
 unfold ownP
 rw [hz, hu, List.filter_cons, if_pos (by simpa using h1)]
theorem GoodD.own_len (h : GoodD l root T Rs) : (partsP l.length T.nodes root (rowsL l Rs)).own.length + 1 = T.pages.length := by
 show (ownsP (rowsL l Rs) (rowsL l Rs).length).length + 1 = _
 rw [ownsP_len _ _ (Nat.le_refl _), rowsL_len, ← h.pages]
 have := h.one
 omega
end
end Go.Proofs.YtipmbcalnnomjaaGreat
namespace Go.Proofs.YtipmbcalnnomjaaGreat
open Go.RowKit Go.Maps
structure GoodW (l : List Ob) (root : Int) (T : Tr) (n0 : Int) (kids : List Int) (q : Int) (Rs : List (Int × List Int × V)) : Prop where
 good : GoodD l root T Rs
 walk : walkP l root = (T, 0)
 top : TopOk l root n0 kids q
 cnt : (Rs.length : Int) = q
 find : ∀ (p : Nat) (hp : p < Rs.length), findP l 64 n0 kids q (p : Int) [] emptyV = some Rs[p]
theorem good_doc {l : List Ob} {root : Int} (h : docE l root = 0) (hz : ∀ n, (obAt l n).v.size ≤ 300) (hw : ∀ n, (obAt l n).v.wf) : ∃ T n0 kids q Rs, GoodW l root T n0 kids q Rs := by
 obtain ⟨T, n0, kids, q, Rs, h1, h2, h3, h4, h5, h6, h7⟩ := doc_leaves h hz hw
 have hl : l.length ≤ 4094 := by
  unfold docE at h
  split at h
  ·cases h
  ·omega
 have hr : 1 ≤ root ∧ root ≤ l.length := by
  have h8 := h3.root
  unfold rootO at h8
  split at h8
  ·rename_i hc
   rw [Bool.and_eq_true] at hc
   exact typed_in hc.1
  ·cases h8
 exact ⟨T, n0, kids, q, Rs, ⟨h2, hl, hr, h5, h6, fun p hp => (h7 p hp).2⟩, h1, h3, h4, fun p hp => (h7 p hp).1⟩
theorem rowsL_small {l : List Ob} {root : Int} {T : Tr} {n0 : Int} {kids : List Int} {q : Int} {Rs : List (Int × List Int × V)} (h : GoodW l root T n0 kids q Rs) :
 (rowsL l Rs).length ≤ 2048 ∧ (∀ r ∈ rowsL l Rs, r.length ≤ 4097 ∧ ∀ x ∈ r, (Lit.int .i64 x).wf = true) ∧ (rowsL l Rs).flatten.length ≤ 100000000 := by
 have h1 : (rowsL l Rs).length ≤ 2048 := by
  rw [rowsL_len]
  have := (node_typed h.top.node).2.2.2
  have := h.cnt
  omega
 have h2 : ∀ r ∈ rowsL l Rs, r.length ≤ 4097 ∧ ∀ x ∈ r, (Lit.int .i64 x).wf = true := fun r hr => by
  obtain ⟨p, hp, rfl⟩ := List.mem_iff_getElem.1 hr
  obtain ⟨_, hg⟩ := h.good.row hp
  obtain ⟨R, hR, e⟩ := List.mem_map.1 hr
  refine ⟨by rw [← e]; exact (closP_lim l R.1 R.2.2).len, fun x hx => ?_⟩
  have h3 := hg.lo x hx
  have h4 := h.good.len
  exact num_wf h3.1 (by omega)
 refine ⟨h1, h2, ?_⟩
 have h5 : ∀ (rows : List (List Int)), (∀ r ∈ rows, r.length ≤ 4097) → rows.flatten.length ≤ rows.length * 4097 := by
  intro rows
  induction rows with
  | nil => intro _; simp
  | cons r rows ih =>
    intro hh
    rw [List.flatten_cons, List.length_append, List.length_cons, Nat.add_mul]
    have h1 := hh r (by simp)
    have h2 := ih (fun q hq => hh q (by simp [hq]))
    omega
 have h6 := h5 _ (fun r hr => (h2 r hr).1)
 have h7 : (rowsL l Rs).length * 4097 ≤ 2048 * 4097 := Nat.mul_le_mul_right _ h1
 omega
def RwsTo2 (L : List (List Int)) (w : World) (e : Ending) (w' : World) : Prop :=
 ∃ (a : Option Addr) (c : Nat) (rs : List CRow), e = .returned (.tuple #[.slice a rs.length c, .int .i64 0]) ∧ lsR rs = L ∧ Rws w' a rs ∧ (∀ q ∈ rs, q.ok w') ∧ (a = none → c = 0) ∧ rs.length ≤ c ∧ Pure w w'
section
variable {d : Nat} {l : List Ob} {oa : Option Addr} {oc : Nat} {rows : List (List Value)} {root : Int} {w : World} {T : Tr} {n0 : Int} {kids : List Int} {q : Int} {Rs : List (Int × List Int × V)}
theorem rowsg_any (hD : DocOk w d l oa rows root) (hds : ∀ u ∈ l, u.data.size ≤ maxLen) (hE : docE l root = 0) (hG : GoodW l root T n0 kids q Rs) :
 Calls Tryz.prog 71 #[.agg #[.slice oa l.length oc, .int .i64 root]] w (RwsTo2 (rowsL l Rs) w) := by
 have HDo := qh (fun W (hP : Pure w W) => (hE ▸ doc_any d l oa oc rows root W (hD.pure hP) hds : Calls Tryz.prog 13 #[.agg #[.slice oa l.length oc, .int .i64 root]] W (IntTo 0 W)))
 have HRo := qh (fun W (hP : Pure w W) => rowsd_any d l oa oc rows root W (hD.pure hP) T n0 kids q Rs hG.good.fine hG.top hG.cnt hG.good.pages (fun p hp => ⟨hG.find p hp, hG.good.at_ p hp⟩))
 obtain ⟨n, hn⟩ : ∃ z, z = l.length := ⟨_, rfl⟩
 rw [← hn] at HDo HRo ⊢
 obtain ⟨w1, hw1⟩ : ∃ z, z = w.alloc (.cells #[.slice oa n oc, .int .i64 root] 24) := ⟨_, rfl⟩
 have HP1 : Hid (Pure w w1) := qh (by rw [hw1]; exact ext_alloc w _)
 have HB1 : Hid (BlockIs w1 w.heap.size [.slice oa n oc, .int .i64 root] 24) := qh (by rw [hw1]; exact BlockIs.new w _ _)
 have HW1 := qh hw1.symm
 obtain ⟨tb, htb⟩ : ∃ z, z = w.heap.size := ⟨_, rfl⟩
 rw [← htb] at HB1
 have HTb := qh htb.symm
 clear hw1 hn hD hds hE hG htb
 go_enter Tryz.func71, Tryz.ntmps71
 go_wp2_with fail
 rw [HW1.out, HTb.out]
 refine (HDo.out w1 HP1.out).mono ?_
 rintro e w2 ⟨rfl, hP2⟩
 have hB2 := HB1.out.ext hP2 id
 have e0 : w2.cell? ⟨tb, 0, none⟩ = some (.slice oa n oc) := hB2.cell 0
 have e1 : w2.cell? ⟨tb, 1, none⟩ = some (.int .i64 root) := hB2.cell 1
 have hl : tb < w2.heap.size := hB2.lt
 have HP2 := qh (HP1.out.pure hP2)
 clear hP2 hB2
 go_wp2_with fail
 refine (HRo.out w2 HP2.out).mono ?_
 rintro e w3 ⟨a, c, rs, rfl, h1, h2, h3, h4, h5, hP3⟩
 have HH := qh (And.intro h1 (And.intro h2 (And.intro h3 (And.intro h4 h5))))
 have HP3 := qh (HP2.out.pure hP3)
 clear h1 h2 h3 h4 h5 hP3 e0 e1 hl
 obtain ⟨rn, hrn⟩ : ∃ z, z = rs.length := ⟨_, rfl⟩
 have HRn := qh hrn
 rw [← hrn]
 clear hrn
 go_wp2_with fail
 go_ret2
 obtain ⟨h1, h2, h3, h4, h5⟩ := HH.out
 exact ⟨a, c, rs, by rw [← HRn.out]; rfl, h1, h2, h3, h4, h5, HP3.out⟩
def SplitTo (p : PartsP) (w : World) (e : Ending) (w' : World) : Prop :=
 ∃ (a0 a1 a2 a3 a4 : Option Addr) (n0 n1 n2 n3 n4 c0 c1 c2 c3 c4 : Nat), e = .returned (.tuple #[.agg #[.slice a0 n0 c0, .slice a1 n1 c1, .slice a2 n2 c2, .slice a3 n3 c3, .slice a4 n4 c4], .int .i64 0]) ∧
   PAt p (.slice a0 n0 c0) (.slice a1 n1 c1) (.slice a2 n2 c2) (.slice a3 n3 c3) (.slice a4 n4 c4) w' ∧ Pure w w'
theorem row_keep {W W' : World} {b : Nat} {T : TypeId} {cs : List Value} (hB : BlockIs W b cs T) (hz : ∀ u ∈ cs, u = .slice none 0 0) (hE : Ext (fun k => k = b) W W') {a : Option Addr} {xs : List Value} (h : RowOf W a xs) (hx : ∀ u ∈ xs, u ≠ .slice none 0 0) : RowOf W' a xs := by
 intro i u hu
 obtain ⟨b', o', ha, hc⟩ := h i u hu
 refine ⟨b', o', ha, hE.cell_some hc (fun e => ?_)⟩
 have e2 : b' = b := e
 subst e2
 rw [hB.cell (o' + i)] at hc
 exact hx u (List.mem_of_getElem? hu) (hz u (List.mem_of_getElem? hc))
theorem ints_ne {l : List Int} : ∀ u ∈ intsV l, u ≠ .slice none 0 0 := fun u hu => by
 obtain ⟨x, _, rfl⟩ := List.mem_map.1 hu
 exact fun e => by cases e
theorem CRow.ok.res {q : CRow} {W W' : World} {b : Nat} {T : TypeId} {cs : List Value} (h : q.ok W) (hB : BlockIs W b cs T) (hz : ∀ u ∈ cs, u = .slice none 0 0) (hE : Ext (fun k => k = b) W W') : q.ok W' := ⟨row_keep hB hz hE h.1 ints_ne, h.2⟩
theorem PAt.res {p : PartsP} {v0 v1 v2 v3 v4 : Value} {W W' : World} {b : Nat} {T : TypeId} {cs : List Value} (h : PAt p v0 v1 v2 v3 v4 W) (hB : BlockIs W b cs T) (hz : ∀ u ∈ cs, u = .slice none 0 0) (hE : Ext (fun k => k = b) W W') (hne : ∀ r ∈ p.own, r ≠ []) : PAt p v0 v1 v2 v3 v4 W' := by
 obtain ⟨t, f, s, o, a, c, rs, H, e⟩ := h
 have hne2 : ∀ q ∈ rs, q.l ≠ [] := fun q hq => hne _ (by rw [← H.lo]; exact List.mem_map.2 ⟨q, hq, rfl⟩)
 refine ⟨t, f, s, o, a, c, rs, ⟨H.lt, H.lf, H.lo, H.ls, H.lh, H.t.res hB hz hE, H.f.res hB hz hE, ⟨row_keep hB hz hE H.o.row (fun u hu => ?_), fun q hq => ((H.oq q hq).res hB hz hE).1⟩, H.on, fun q hq => (H.oq q hq).res hB hz hE, H.s.res hB hz hE, H.h.res hB hz hE⟩, e⟩
 obtain ⟨q, hq, rfl⟩ := List.mem_map.1 hu
 intro e
 unfold CRow.v at e
 injection e with e1 e2 e3
 exact hne2 q hq (List.length_eq_zero_iff.1 e2)
set_option maxHeartbeats 4000000 in
theorem splitg_any (hD : DocOk w d l oa rows root) (hds : ∀ u ∈ l, u.data.size ≤ maxLen) (hE : docE l root = 0) (hG : GoodW l root T n0 kids q Rs) :
 Calls Tryz.prog 38 #[.agg #[.slice oa l.length oc, .int .i64 root]] w (SplitTo (partsP l.length T.nodes root (rowsL l Rs)) w) := by
 have HRo := qh (fun W (hP : Pure w W) => rowsg_any (oc := oc) (hD.pure hP) hds hE hG)
 have HWk := qh (fun W (hP : Pure w W) => walk_docs d l oa oc rows root W (hD.pure hP))
 rw [hG.walk] at HWk
 obtain ⟨z1, z2, z3⟩ := rowsL_small hG
 have HZ := qh (And.intro z1 (And.intro z2 z3))
 have HTn : Hid (T.nodes.length ≤ 5000) := qh (by have := hG.good.fine.tok.len; have := hG.good.len; omega)
 have HNe : Hid (∀ r ∈ (partsP l.length T.nodes root (rowsL l Rs)).own, r ≠ []) := qh (fun r hr => by
  obtain ⟨k, hk, rfl⟩ := List.mem_iff_getElem.1 hr
  have h1 := hG.good.own_len
  have h2 := hG.good.pages
  obtain ⟨zs, hq, h3⟩ := hG.good.own k (by omega)
  rw [List.getElem?_eq_getElem hk] at h3
  rw [Option.some.inj h3]
  exact fun e => by cases e)
 have HOf := qh (fun (na pa : Option Addr) (nc pn pc : Nat) (a : Option Addr) (c : Nat) (rs : List CRow) (W : World) (h1 : CRow.ok W ⟨na, nc, T.nodes⟩) (h2 : Rws W a rs) (h3 : ∀ q ∈ rs, q.ok W) (h4 : lsR rs = rowsL l Rs) =>
  (h4 ▸ shareof_any l.length root na pa nc pn pc T.nodes rs a c W h1 (by have := HTn.out; omega) h2 h3 (fun q hq => (HZ.out.2.1 _ (by rw [← h4]; exact List.mem_map.2 ⟨q, hq, rfl⟩)).2) (by have := congrArg List.length h4; rw [lsR_len] at this; have := HZ.out.1; omega) (fun q hq => by have := (HZ.out.2.1 _ (by rw [← h4]; exact List.mem_map.2 ⟨q, hq, rfl⟩)).1; omega) (by rw [h4]; exact HZ.out.2.2) : Calls Tryz.prog 72 #[.int .i64 l.length, .agg #[.slice na T.nodes.length nc, .slice pa pn pc], .int .i64 root, .slice a rs.length c] W (PartsTo (partsP l.length T.nodes root (rowsL l Rs)) W)))
 obtain ⟨p, hp⟩ : ∃ z, z = partsP l.length T.nodes root (rowsL l Rs) := ⟨_, rfl⟩
 rw [← hp] at HOf HNe ⊢
 unfold WkTo at HWk
 simp only at HWk
 obtain ⟨n, hn⟩ : ∃ z, z = l.length := ⟨_, rfl⟩
 obtain ⟨nn, hnn⟩ : ∃ z, z = T.nodes.length := ⟨_, rfl⟩
 obtain ⟨pn, hpn⟩ : ∃ z, z = T.pages.length := ⟨_, rfl⟩
 rw [← hn] at HRo HWk HOf ⊢
 rw [← hnn, ← hpn] at HWk
 rw [← hnn] at HOf HTn
 have HNn := qh hnn
 have HLn : Hid (n ≤ 4094) := qh (by rw [hn]; exact hG.good.len)
 obtain ⟨w1, hw1⟩ : ∃ z, z = (w.alloc (.cells #[.slice oa n oc, .int .i64 root] 24)).alloc (.cells #[.slice none 0 0, .slice none 0 0, .slice none 0 0, .slice none 0 0, .slice none 0 0] 36) := ⟨_, rfl⟩
 have HP1 : Hid (Pure w w1) := qh (by rw [hw1]; exact (ext_alloc w _).pure (ext_alloc _ _))
 have HB1 : Hid (BlockIs w1 w.heap.size [.slice oa n oc, .int .i64 root] 24) := qh (by rw [hw1]; exact (BlockIs.new w _ _).alloc _)
 have HR1 : Hid (BlockIs w1 (w.heap.size + 1) [.slice none 0 0, .slice none 0 0, .slice none 0 0, .slice none 0 0, .slice none 0 0] 36) := qh (by
  have := BlockIs.new (w.alloc (.cells #[.slice oa n oc, .int .i64 root] 24)) [.slice none 0 0, .slice none 0 0, .slice none 0 0, .slice none 0 0, .slice none 0 0] 36
  rw [World.size_alloc] at this
  rw [hw1]; exact this)
 have HW1 := qh hw1.symm
 obtain ⟨tb, htb⟩ : ∃ z, z = w.heap.size := ⟨_, rfl⟩
 rw [← htb] at HB1 HR1
 have HTb := qh htb.symm
 clear hw1 hn hD hds hE hG htb hp hnn hpn z1 z2 z3 HZ
 go_enter Tryz.func38, Tryz.ntmps38
 go_wp2_with fail
 rw [HW1.out, HTb.out]
 refine (HRo.out w1 HP1.out).mono ?_
 rintro e w2 ⟨a, c, rs, rfl, h1, h2, h3, h4, h5, hP2⟩
 have hB2 := HB1.out.ext hP2 id
 have e0 : w2.cell? ⟨tb, 0, none⟩ = some (.slice oa n oc) := hB2.cell 0
 have e1 : w2.cell? ⟨tb, 1, none⟩ = some (.int .i64 root) := hB2.cell 1
 have hl : tb < w2.heap.size := hB2.lt
 have HB2 := qh hB2
 have HR2 := qh (HR1.out.ext hP2 id)
 have HP2 := qh (HP1.out.pure hP2)
 have HH2 := qh (And.intro h1 (And.intro h2 h3))
 clear h1 h2 h3 h4 h5 hP2 hB2
 obtain ⟨rn, hrn⟩ : ∃ z, z = rs.length := ⟨_, rfl⟩
 have HRn := qh hrn
 rw [← hrn]
 clear hrn
 go_wp2_with fail
 refine (HWk.out w2 HP2.out).mono ?_
 rintro e w3 ⟨na, nc, pa, pc, rfl, hP3, hRn, hRp, hn5, _, hnn0, _, hnc, hncm, hpc, hpcm⟩
 have hB3 := HB2.out.ext hP3 id
 have e0 : w3.cell? ⟨tb, 0, none⟩ = some (.slice oa n oc) := hB3.cell 0
 have e1 : w3.cell? ⟨tb, 1, none⟩ = some (.int .i64 root) := hB3.cell 1
 have hl : tb < w3.heap.size := hB3.lt
 have HN3 : Hid (CRow.ok w3 ⟨na, nc, T.nodes⟩) := qh ⟨hRn, hnn0, by rw [← HNn.out]; exact hnc⟩
 have HR3 := qh (HR2.out.ext hP3 id)
 have HP23 := qh hP3
 have HP3 := qh (HP2.out.pure hP3)
 clear hP3 hRn hRp hn5 hnn0 hnc hncm hpc hpcm hB3
 obtain ⟨w4, hw4⟩ : ∃ z, z = w3.alloc (.cells #[.slice na nn nc, .slice pa pn pc] 85) := ⟨_, rfl⟩
 have hP34 : Pure w3 w4 := by rw [hw4]; exact ext_alloc _ _
 have HP4 := qh (HP3.out.pure hP34)
 have HR4 := qh (HR3.out.ext hP34 id)
 have HN4 := qh (HN3.out.pure hP34)
 have HP24 := qh (HP23.out.pure hP34)
 have HW4 : Hid (w3.alloc (.cells #[.slice na nn nc, .slice pa pn pc] 85) = w4) := qh hw4.symm
 clear hw4 hP34
 go_wp2_with fail
 rw [HW4.out]
 have hof := HOf.out na pa nc pn pc a c rs w4 HN4.out (HH2.out.2.1.pure HP24.out) (fun q hq => (HH2.out.2.2 q hq).pure HP24.out) HH2.out.1
 rw [← HRn.out] at hof
 refine hof.mono ?_
 rintro e w5 hE5
 obtain ⟨a0, a1, a2, a3, a4, m0, m1, m2, m3, m4, c0, c1, c2, c3, c4, rfl, H, hP5⟩ := hE5.two
 have hR5 := HR4.out.ext hP5 id
 have HP5 := qh (HP4.out.pure hP5)
 have HH5 := qh H
 have HTh : Hid (w5.there (tb + 1) 0 (#[Value.slice a0 m0 c0, .slice a1 m1 c1, .slice a2 m2 c2, .slice a3 m3 c3, .slice a4 m4 c4] : Array Value).size) := qh (hR5.there 5 rfl)
 have HSi : Hid ((Tryz.prog.info? 36).map (·.size) = some (#[Value.slice a0 m0 c0, .slice a1 m1 c1, .slice a2 m2 c2, .slice a3 m3 c3, .slice a4 m4 c4] : Array Value).size) := qh sizeSP
 have HOn : Hid (((#[Value.slice a0 m0 c0, .slice a1 m1 c1, .slice a2 m2 c2, .slice a3 m3 c3, .slice a4 m4 c4] : Array Value).all fun u => u.oneCell') = true) := qh (all_oneCell_toArray (by intro u hu; simp only [List.mem_cons, List.not_mem_nil, or_false] at hu; rcases hu with rfl | rfl | rfl | rfl | rfl <;> rfl))
 have HR5 := qh hR5
 clear hP5 hR5 H hE5 hof e0 e1 hl
 go_wp2_with (with_reducible refine at_store 36 (.tmp 2) (.tmp 29) ?_; refine wpList_store_mid rfl 36 (.tmp 2) (.tmp 29) rfl (tb + 1) 0 #[.slice a0 m0 c0, .slice a1 m1 c1, .slice a2 m2 c2, .slice a3 m3 c3, .slice a4 m4 c4] rfl rfl HTh.out HSi.out HOn.out ?_)
 have hB := HR5.out.setAll [.slice a0 m0 c0, .slice a1 m1 c1, .slice a2 m2 c2, .slice a3 m3 c3, .slice a4 m4 c4] rfl
 have hX : Ext (fun k => k = tb + 1) w5 (w5.setCells (tb + 1) 0 [.slice a0 m0 c0, .slice a1 m1 c1, .slice a2 m2 c2, .slice a3 m3 c3, .slice a4 m4 c4]) := Ext.setCells (S := fun k => k = tb + 1) _ 0 _ (Ext.refl _ _) (b := tb + 1) (fun _ => rfl)
 refine bodyPost_ret (results_row2 rfl _ _ (tb + 1) _ [.slice a0 m0 c0, .slice a1 m1 c1, .slice a2 m2 c2, .slice a3 m3 c3, .slice a4 m4 c4] _ rfl hB Tryz.underlying36 rfl sizeSP) rfl ?_
 exact ⟨a0, a1, a2, a3, a4, m0, m1, m2, m3, m4, c0, c1, c2, c3, c4, rfl, HH5.out.res HR5.out (fun u hu => by simp only [List.mem_cons, List.not_mem_nil, or_false] at hu; rcases hu with rfl | rfl | rfl | rfl | rfl <;> rfl) hX HNe.out, HP5.out.trans hX (fun i hi e => by have := HTb.out; have e2 : i = tb + 1 := e; omega)⟩
end
end Go.Proofs.YtipmbcalnnomjaaGreat
namespace Go.Proofs.YtipmbcalnnomjaaGreat
open Go.RowKit
theorem PAt.opened {p : PartsP} {a0 a1 a2 a3 a4 : Option Addr} {n0 n1 n2 n3 n4 c0 c1 c2 c3 c4 : Nat} {W : World} (h : PAt p (.slice a0 n0 c0) (.slice a1 n1 c1) (.slice a2 n2 c2) (.slice a3 n3 c3) (.slice a4 n4 c4) W) :
 (n0 = p.tree.length ∧ CRow.ok W ⟨a0, c0, p.tree⟩) ∧ (n1 = p.first.length ∧ CRow.ok W ⟨a1, c1, p.first⟩) ∧ (∃ rs : List CRow, n2 = rs.length ∧ lsR rs = p.own ∧ Rws W a2 rs ∧ ∀ q ∈ rs, q.ok W) ∧ (n3 = p.shared.length ∧ CRow.ok W ⟨a3, c3, p.shared⟩) ∧ (n4 = p.others.length ∧ CRow.ok W ⟨a4, c4, p.others⟩) := by
 obtain ⟨⟨ta, tc, tl⟩, ⟨fa, fc, fl⟩, ⟨sa, sc, sl⟩, ⟨ha, hc, hl⟩, a, c, rs, H, e0, e1, e2, e3, e4⟩ := h
 obtain rfl : tl = p.tree := H.lt
 obtain rfl : fl = p.first := H.lf
 obtain rfl : sl = p.shared := H.ls
 obtain rfl : hl = p.others := H.lh
 cases e0
 cases e1
 cases e2
 cases e3
 cases e4
 exact ⟨⟨rfl, H.t⟩, ⟨rfl, H.f⟩, ⟨rs, rfl, H.lo, H.o, H.oq⟩, ⟨rfl, H.s⟩, ⟨rfl, H.h⟩⟩
def metP (n : Nat) (xs : List Int) : List Int := (List.range n).map fun i : Nat => if ((i : Int) + 1) ∈ xs then 1 else 0
theorem metP_len (n : Nat) (xs : List Int) : (metP n xs).length = n := by unfold metP; rw [List.length_map, List.length_range]
theorem metP_get {n : Nat} {xs : List Int} {i : Nat} (hi : i < n) : (metP n xs)[i]? = some (if ((i : Int) + 1) ∈ xs then 1 else 0) := by
 unfold metP
 rw [List.getElem?_map, List.getElem?_range hi]
 rfl
theorem metP_nil (n : Nat) : metP n [] = List.replicate n 0 := by
 apply List.ext_getElem?
 intro i
 by_cases hi : i < n
 ·rw [metP_get hi, List.getElem?_replicate, if_pos hi, if_neg (by simp)]
 ·rw [List.getElem?_eq_none (by rw [metP_len]; omega), List.getElem?_eq_none (by rw [List.length_replicate]; omega)]
theorem rep_ints (n : Nat) (T : TypeId) (w : World) : w.alloc (.cells (madeCells #[.int .i64 0] n) T) = w.alloc (.cells (intsV (List.replicate n 0)).toArray T) := by
 refine congrArg (fun c => w.alloc (.cells c T)) ?_
 apply Array.ext'
 apply List.ext_getElem?
 intro j
 by_cases hj : j < n
 ·simp [madeCells, intsV, hj, Nat.mod_one]
 ·rw [List.getElem?_eq_none (by simp [madeCells]; omega), List.getElem?_eq_none (by simp [intsV]; omega)]
theorem few_sizes {l : List Ob} (hf : fewO l 80 = true) (n : Int) : (obAt l n).v.size ≤ 300 := by
 rcases obAt_cases l n with h | h
 ·unfold fewO at hf
  rw [Bool.and_eq_true, List.all_eq_true] at hf
  have h1 := hf.2 _ h
  unfold Ob.few at h1
  rw [Bool.and_eq_true, Bool.and_eq_true] at h1
  have h2 := of_decide_eq_true h1.1.1
  rw [V.few_size _ _ (by omega)] at h2
  split at h2 <;> omega
 ·rw [h]
  decide +kernel
