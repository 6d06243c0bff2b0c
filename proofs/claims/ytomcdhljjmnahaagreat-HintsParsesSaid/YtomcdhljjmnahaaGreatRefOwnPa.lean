import Derived.Test.YtomcdhljjmnahaaGreatTabHPa
import Derived.Test.YtomcdhljjmnahaaGreatPieceRPa
import Derived.Test.YtomcdhljjmnahaaGreatSqPa
set_option linter.unusedVariables false
set_option linter.unusedSimpArgs false
set_option maxRecDepth 100000
namespace Go.Proofs.YtomcdhljjmnahaaGreat
open Go.RowKit
structure Hs (w W : World) (tb : Nat) (cs ds : List Value) : Prop where
 b1 : BlockIs W tb cs 25
 b2 : BlockIs W (tb + 1) ds 40
 b3 : BlockIs W (tb + 2) [.int .i64 0, .int .i64 0] 55
 p : Pure w W
 sz : tb + 3 ≤ W.heap.size
 lo : w.heap.size = tb
theorem Hs.new (w : World) (cs ds : List Value) : Hs w (((w.alloc (.cells cs.toArray 25)).alloc (.cells ds.toArray 40)).alloc (.cells #[.int .i64 0, .int .i64 0] 55)) w.heap.size cs ds := by
 have h2 := BlockIs.new (w.alloc (.cells cs.toArray 25)) ds 40
 rw [World.size_alloc] at h2
 have h3 := BlockIs.new ((w.alloc (.cells cs.toArray 25)).alloc (.cells ds.toArray 40)) [.int .i64 0, .int .i64 0] 55
 rw [World.size_alloc, World.size_alloc] at h3
 exact ⟨((BlockIs.new w cs 25).alloc _).alloc _, h2.alloc _, h3, ((show Pure w (w.alloc (.cells cs.toArray 25)) from ext_alloc w _).pure (ext_alloc _ _)).pure (ext_alloc _ _), by rw [World.size_alloc, World.size_alloc, World.size_alloc]; omega, rfl⟩
theorem Hs.ext {S : Nat → Prop} {w W W' : World} {tb : Nat} {cs ds : List Value} (h : Hs w W tb cs ds) (e : Ext S W W') (hS : ∀ i, S i → tb + 3 ≤ i) : Hs w W' tb cs ds :=
 ⟨h.b1.ext e (fun hs => by have := hS _ hs; omega), h.b2.ext e (fun hs => by have := hS _ hs; omega), h.b3.ext e (fun hs => by have := hS _ hs; omega), h.p.trans e (fun i hi hs => by have := hS _ hs; have := h.lo; omega), by have := e.size; have := h.sz; omega, h.lo⟩
theorem Hs.pure {w W W' : World} {tb : Nat} {cs ds : List Value} (h : Hs w W tb cs ds) (e : Pure W W') : Hs w W' tb cs ds := h.ext e (fun _ hs => hs.elim)
theorem Hs.size (w : World) (cs ds : List Value) : ((((w.alloc (.cells cs.toArray 25)).alloc (.cells ds.toArray 40)).alloc (.cells #[.int .i64 0, .int .i64 0] 55))).heap.size = w.heap.size + 1 + 1 + 1 := by rw [World.size_alloc, World.size_alloc, World.size_alloc]
structure Hg (w W : World) (tb : Nat) (cs : List Value) : Prop where
 b1 : BlockIs W tb cs 25
 b3 : BlockIs W (tb + 1) [.int .i64 0, .int .i64 0] 55
 p : Pure w W
 sz : tb + 2 ≤ W.heap.size
 lo : w.heap.size = tb
theorem Hg.new (w : World) (cs : List Value) : Hg w ((w.alloc (.cells cs.toArray 25)).alloc (.cells #[.int .i64 0, .int .i64 0] 55)) w.heap.size cs := by
 have h3 := BlockIs.new (w.alloc (.cells cs.toArray 25)) [.int .i64 0, .int .i64 0] 55
 rw [World.size_alloc] at h3
 exact ⟨(BlockIs.new w cs 25).alloc _, h3, (show Pure w (w.alloc (.cells cs.toArray 25)) from ext_alloc w _).pure (ext_alloc _ _), by rw [World.size_alloc, World.size_alloc]; omega, rfl⟩
theorem Hg.size (w : World) (cs : List Value) : (((w.alloc (.cells cs.toArray 25)).alloc (.cells #[.int .i64 0, .int .i64 0] 55))).heap.size = w.heap.size + 1 + 1 := by rw [World.size_alloc, World.size_alloc]
theorem Hg.ext {S : Nat → Prop} {w W W' : World} {tb : Nat} {cs : List Value} (h : Hg w W tb cs) (e : Ext S W W') (hS : ∀ i, S i → tb + 2 ≤ i) : Hg w W' tb cs :=
 ⟨h.b1.ext e (fun hs => by have := hS _ hs; omega), h.b3.ext e (fun hs => by have := hS _ hs; omega), h.p.trans e (fun i hi hs => by have := hS _ hs; have := h.lo; omega), by have := e.size; have := h.sz; omega, h.lo⟩
theorem Hg.pure {w W W' : World} {tb : Nat} {cs : List Value} (h : Hg w W tb cs) (e : Pure W W') : Hg w W' tb cs := h.ext e (fun _ hs => hs.elim)
set_option maxHeartbeats 4000000 in
theorem refown_any (h : HT) (l : LT) (p : Int) (pa la : Option Addr) (pc lc : Nat) (w : World) (H : HMem w h pa pc la lc) :
 Calls Tryz.prog 39 #[.agg (hC h pa pc la lc).toArray, .agg (lC l).toArray, .int .i64 p] w (SpanIs (ownP h l p) w) := by
 obtain ⟨F, hF⟩ : ∃ F, F = ownP h l p := ⟨_, rfl⟩
 rw [← hF]
 unfold ownP at hF
 have HMm := qh H
 have hpn := H.pn
 obtain ⟨cs, hcs⟩ : ∃ z, z = hC h pa pc la lc := ⟨_, rfl⟩
 obtain ⟨ds, hds⟩ : ∃ z, z = lC l := ⟨_, rfl⟩
 have HL7 : Hid (cs.length = 7) := qh (by rw [hcs]; rfl)
 have HM7 : Hid (ds.length = 7) := qh (by rw [hds]; rfl)
 have HCs := qh hcs
 have HSs := qh hds
 rw [← hcs, ← hds]
 have hD0 := Hs.new w cs ds
 obtain ⟨w2, hw2⟩ : ∃ z, z = (((w.alloc (.cells cs.toArray 25)).alloc (.cells ds.toArray 40)).alloc (.cells #[.int .i64 0, .int .i64 0] 55)) := ⟨_, rfl⟩
 obtain ⟨tb, htb⟩ : ∃ z, z = w.heap.size := ⟨_, rfl⟩
 rw [← hw2, ← htb] at hD0
 have HW : Hid ((((w.alloc (.cells cs.toArray 25)).alloc (.cells ds.toArray 40)).alloc (.cells #[.int .i64 0, .int .i64 0] 55)) = w2) := qh hw2.symm
 have HTb := qh htb
 have HS := qh hD0
 clear hcs hds hw2 htb hD0
 have HDs2 : Hid (ds[4]? = some (.int .i64 l.fe)) := qh (by rw [HSs.out]; rfl)
 have HC1 : Hid (cs[1]? = some (.int .i64 h.fa)) := qh (by rw [HCs.out]; rfl)
 have HC2 : Hid (cs[2]? = some (.slice pa h.ps.length pc)) := qh (by rw [HCs.out]; rfl)
 have c2 : (((w.alloc (.cells cs.toArray 25)).alloc (.cells ds.toArray 40)).alloc (.cells #[.int .i64 0, .int .i64 0] 55)).cell? ⟨w.heap.size, 2, none⟩ = some (.slice pa h.ps.length pc) := by rw [HW.out, ← HTb.out, HS.out.b1.cell 2]; exact HC2.out
 obtain ⟨pn, hpN⟩ : ∃ z, z = h.ps.length := ⟨_, rfl⟩
 have HN := qh hpN
 rw [← hpN] at hF hpn HC2 c2
 clear H hpN
 by_cases hp0 : p < 0
 ·clear HC1
  have HFr : Hid (F = none) := qh (by rw [hF, if_neg (by omega)])
  clear hF HCs HSs
  go_enter Tryz.func39, Tryz.ntmps39
  have HTh : Hid (w2.there (tb + 2) 0 (#[.int .i64 0, .int .i64 0] : Array Value).size) := qh (HS.out.b3.there 2 rfl)
  have HSi : Hid ((Tryz.prog.info? 55).map (·.size) = some (#[.int .i64 0, .int .i64 0] : Array Value).size) := qh sizeSp
  have HP8 : Hid (Pure w (w2.setCells (tb + 2) 0 [.int .i64 0, .int .i64 0])) := qh (Ext.setCells _ 0 w2 HS.out.p (b := (tb + 2)) (fun h => by have := HS.out.lo; omega))
  have HB9 : Hid (BlockIs (w2.setCells (tb + 2) 0 [.int .i64 0, .int .i64 0]) (tb + 2) [.int .i64 0, .int .i64 0] 55) := qh (HS.out.b3.setAll [.int .i64 0, .int .i64 0] rfl)
  go_wp2_with (with_reducible refine V11.at_store 55 (.tmp 6) (.tmp 19) ?_; rw [HW.out, ← HTb.out]; refine wpList_store_mid rfl 55 (.tmp 6) (.tmp 19) rfl (tb + 2) 0 #[.int .i64 0, .int .i64 0] rfl rfl HTh.out HSi.out (one2 _ _) ?_)
  refine bodyPost_ret (V11.results_row2 rfl _ _ (tb + 2) _ [.int .i64 0, .int .i64 0] _ rfl HB9.out Tryz.underlying55 rfl sizeSp) rfl ?_
  exact ⟨by rw [HFr.out]; rfl, HP8.out⟩
 obtain ⟨k, rfl⟩ : ∃ k : Nat, p = (k : Int) := ⟨p.toNat, by omega⟩
 by_cases hk : (pn : Int) ≤ (k : Int)
 ·clear HC1
  have HFr : Hid (F = none) := qh (by rw [hF, if_neg (by omega)])
  clear hF HCs HSs
  go_enter Tryz.func39, Tryz.ntmps39
  have HTh : Hid (w2.there (tb + 2) 0 (#[.int .i64 0, .int .i64 0] : Array Value).size) := qh (HS.out.b3.there 2 rfl)
  have HSi : Hid ((Tryz.prog.info? 55).map (·.size) = some (#[.int .i64 0, .int .i64 0] : Array Value).size) := qh sizeSp
  have HP8 : Hid (Pure w (w2.setCells (tb + 2) 0 [.int .i64 0, .int .i64 0])) := qh (Ext.setCells _ 0 w2 HS.out.p (b := (tb + 2)) (fun h => by have := HS.out.lo; omega))
  have HB9 : Hid (BlockIs (w2.setCells (tb + 2) 0 [.int .i64 0, .int .i64 0]) (tb + 2) [.int .i64 0, .int .i64 0] 55) := qh (HS.out.b3.setAll [.int .i64 0, .int .i64 0] rfl)
  go_wp2_with (with_reducible refine V11.at_store 55 (.tmp 6) (.tmp 19) ?_; rw [HW.out, ← HTb.out]; refine wpList_store_mid rfl 55 (.tmp 6) (.tmp 19) rfl (tb + 2) 0 #[.int .i64 0, .int .i64 0] rfl rfl HTh.out HSi.out (one2 _ _) ?_)
  refine bodyPost_ret (V11.results_row2 rfl _ _ (tb + 2) _ [.int .i64 0, .int .i64 0] _ rfl HB9.out Tryz.underlying55 rfl sizeSp) rfl ?_
  exact ⟨by rw [HFr.out]; rfl, HP8.out⟩
 have hkn : k < h.ps.length := by rw [← HN.out]; omega
 obtain ⟨b, o, rfl, hpg⟩ := (HMm.out.pure HS.out.p).page k hkn
 have hln : (lensP h.ps)[(k : Int).toNat]?.getD 0 = h.ps[k].l := lensP_get hkn
 obtain ⟨ln, hLn⟩ : ∃ z, z = h.ps[k].l := ⟨_, rfl⟩
 rw [← hLn] at hpg hln
 have HLn : Hid (h.ps[k].l = ln) := qh hLn.symm
 have hFk : F = (if k = 0 then pieceP [h.fa] ln else pieceP (l.fe :: ((lensP h.ps).take k).drop 1) ln) := by
  rw [hF, if_pos (by omega)]
  by_cases h0 : k = 0
  ·subst h0
   rw [if_pos (show ((0 : Nat) : Int) = 0 from rfl), if_pos rfl]
   rw [show (lensP h.ps)[0]?.getD 0 = ln from hln]
  ·rw [if_neg (by omega), if_neg h0, hln]
   rfl
 have HFk := qh hFk
 have hl1 : w2.cell? ⟨b, o + k * 3 + 1, none⟩ = some (.int .i64 ln) := hpg 1 _ rfl
 have HTake : Hid (∀ j (hj : j < h.ps.length), (lensP h.ps).take (j + 1) = (lensP h.ps).take j ++ [h.ps[j].l]) := qh (fun j hj => by
  rw [List.take_succ_eq_append_getElem (by rw [lensP_len]; exact hj)]
  congr 2
  unfold lensP
  rw [List.getElem_map])
 have HLt : Hid (b < tb) := qh (by
  have h0 := (HMm.out.page k hkn)
  obtain ⟨b', o', e, hp'⟩ := h0
  cases e
  have := World.block_lt_of_cell? w _ (hp' 0 _ rfl)
  rw [HTb.out]; exact this)
 clear hF hFk hLn hln hpg HCs HSs
 by_cases hk0 : k = 0
 ·subst hk0
  have HFp : Hid (F = pieceP [h.fa] ln) := qh (by rw [HFk.out, if_pos rfl])
  obtain ⟨G, hG⟩ : ∃ G, G = pieceP [h.fa] ln := ⟨_, rfl⟩
  have HG := qh hG
  have HFr : Hid (F = G) := qh (by rw [HFp.out, hG])
  obtain ⟨gx, hgx⟩ : ∃ z, z = (G.getD (0, 0)).1 := ⟨_, rfl⟩
  obtain ⟨gy, hgy⟩ : ∃ z, z = (G.getD (0, 0)).2 := ⟨_, rfl⟩
  obtain ⟨gi, hgi⟩ : ∃ z, z = G.isSome := ⟨_, rfl⟩
  have HGx := qh hgx
  have HGy := qh hgy
  have HGi := qh hgi
  have hi0 : (0 : Int) < (pn : Int) := by omega
  obtain ⟨w3, hw3⟩ : ∃ z, z = w2 := ⟨_, rfl⟩
  rw [← hw3] at HS HW hl1
  have e1 : w3.drew.cell? ⟨tb, 1, none⟩ = some (.int .i64 h.fa) := by rw [HS.out.b1.drew.cell 1]; exact HC1.out
  have e2 : w3.drew.cell? ⟨tb, 2, none⟩ = some (.slice (some ⟨b, o, none⟩) pn pc) := by rw [HS.out.b1.drew.cell 2]; exact HC2.out
  have e3 : w3.drew.cell? ⟨b, o + 1, none⟩ = some (.int .i64 ln) := by have h := hl1; simpa using h
  clear hG HFk HTake HFp hl1 hw3 hgx hgy hgi
  go_enter Tryz.func39, Tryz.ntmps39
  go_wp2_with fail
  rw [HW.out, ← HTb.out]
  clear c2
  refine region_start (fun k => k = tb + 2) (by kernel_rfl) ?_
  try simp only [Act.put, sA, sZ, sS]
  refine region_take 0 22 (v := ?vro0) rfl rfl (by kernel_rfl) (by kernel_rfl) (by kernel_rfl) (fun _ _ _ h => h) (by rfl) (fun w' hS => ?hro0) ?rro0
  case hro0 => go_simp; with_reducible rfl
  try simp only [Act.put, sA, sZ, sS]
  refine region_take 1 23 (v := ?vro1) rfl rfl (by kernel_rfl) (by kernel_rfl) (by kernel_rfl) (fun _ _ _ h => h) (by rfl) (fun w' hS => ?hro1) ?rro1
  case hro1 => (have e := hS.cell_some e1 (fun e => by have e' : tb = tb + 2 := e; omega); go_simp; with_reducible rfl)
  try simp only [Act.put, sA, sZ, sS]
  refine region_take 3 25 (v := ?vro3) rfl rfl (by kernel_rfl) (by kernel_rfl) (by kernel_rfl) (fun _ _ _ h => h) (by rfl) (fun w' hS => ?hro3) ?rro3
  case hro3 => go_simp; with_reducible rfl
  try simp only [Act.put, sA, sZ, sS]
  refine region_take 4 26 (v := ?vro4) rfl rfl (by kernel_rfl) (by kernel_rfl) (by kernel_rfl) (fun _ _ _ h => h) (by rfl) (fun w' hS => ?hro4) ?rro4
  case hro4 => (have e := hS.cell_some e2 (fun e => by have e' : tb = tb + 2 := e; omega); go_simp; with_reducible rfl)
  try simp only [Act.put, sA, sZ, sS]
  refine region_take 5 27 (v := ?vro5) rfl rfl (by kernel_rfl) (by kernel_rfl) (by kernel_rfl) (fun _ _ _ h => h) (by rfl) (fun w' hS => ?hro5) ?rro5
  case hro5 => (have hn0 : 0 < pn := (by omega); go_simp; with_reducible rfl)
  try simp only [Act.put, sA, sZ, sS]
  refine region_take 6 28 (v := ?vro6) rfl rfl (by kernel_rfl) (by kernel_rfl) (by kernel_rfl) (fun _ _ _ h => h) (by rfl) (fun w' hS => ?hro6) ?rro6
  case hro6 => go_simp; with_reducible rfl
  try simp only [Act.put, sA, sZ, sS]
  refine region_take 7 29 (v := ?vro7) rfl rfl (by kernel_rfl) (by kernel_rfl) (by kernel_rfl) (fun _ _ _ h => h) (by rfl) (fun w' hS => ?hro7) ?rro7
  case hro7 => (have e := hS.cell_some e3 (fun e => by have h1 := HLt.out; have e' : b = tb + 2 := e; omega); go_simp; with_reducible rfl)
  try simp only [Act.put, sA, sZ, sS]
  refine wpAnyH_ready (rs := [2]) (by kernel_rfl) (by simp) (AllReadyH.cons rfl (fun K hK => ?_) AllReadyH.nil)
  go_simp
  obtain ⟨wa, hwa⟩ : ∃ z, z = (w3.alloc (.cells #[.int .i64 h.fa] 3)).drew := ⟨_, rfl⟩
  obtain ⟨sb, hsb⟩ : ∃ z, z = w3.heap.size := ⟨_, rfl⟩
  have hXa : Ext (fun k => k = tb + 2) w3.drew wa := by rw [hwa]; exact (ext_alloc w3.drew _).mono (fun _ _ e => e.elim)
  have hPa : Pure w3 wa := by rw [hwa]; exact (ext_alloc w3 _).drew
  have hSa := HS.out.pure hPa
  have HRa : Hid (RowOf wa (some ⟨sb, 0, none⟩) ([h.fa].map zV)) := qh (by rw [hwa, hsb]; exact (row_at ([h.fa].map zV) rfl rfl : RowOf (w3.alloc _) _ _).ext (Ext.refl (fun _ => False) _).drew (fun _ _ => id))
  have hCp := refpiece_any [h.fa] ln (some ⟨sb, 0, none⟩) 1 wa HRa.out (fun e => by cases e) (by simp)
  unfold SpanIs spanV at hCp
  rw [show [h.fa].length = 1 from rfl] at hCp
  rw [← HG.out] at hCp
  rw [← HGx.out, ← HGy.out, ← HGi.out] at hCp
  have HCp := qh hCp
  rw [← hwa, ← hsb]
  clear hCp hwa hPa hsb
  refine hK.out _ _ (hXa) (fun hHeld => ?_)
  clear hK K hHeld
  refine region_now (hXa) ?_
  try simp only [Act.put, sA, sZ, sS]
  refine wpAnyH_ready (rs := [8]) (by kernel_rfl) (by simp) (AllReadyH.cons rfl (fun K hK => ?_) AllReadyH.nil)
  go_simp
  refine HCp.out.mono ?_
  rintro e wb ⟨rfl, hPb⟩
  have hSb := hSa.pure hPb
  clear HCp
  refine hK.out _ _ ((hPb.mono (fun _ _ e => e.elim))) (fun hHeld => ?_)
  clear hK K hHeld
  refine region_now ((hPb.mono (fun _ _ e => e.elim))) ?_
  try simp only [Act.put, sA, sZ, sS]
  refine region_take 9 31 (v := ?vro9) rfl rfl (by kernel_rfl) (by kernel_rfl) (by kernel_rfl) (fun _ _ _ h => h) (by rfl) (fun w' hS => ?hro9) ?rro9
  case hro9 => go_simp; with_reducible rfl
  try simp only [Act.put, sA, sZ, sS]
  refine region_take 10 32 (v := ?vro10) rfl rfl (by kernel_rfl) (by kernel_rfl) (by kernel_rfl) (fun _ _ _ h => h) (by rfl) (fun w' hS => ?hro10) ?rro10
  case hro10 => go_simp; with_reducible rfl
  try simp only [Act.put, sA, sZ, sS]
  refine wpAnyH_ready (rs := [11]) (by kernel_rfl) (by simp) (AllReadyH.cons rfl (fun K hK => ?_) AllReadyH.nil)
  refine step_of_list ?_
  have hTh := qh (hSb.b3.there 2 rfl)
  obtain ⟨wE, hwE⟩ : ∃ z, z = wb.setCells (tb + 2) 0 [.int .i64 gx, .int .i64 gy] := ⟨_, rfl⟩
  have hX : Ext (fun k => k = tb + 2) wb wE := hwE ▸ Ext.setCells _ 0 _ (Ext.refl _ _) (fun _ => rfl)
  have hP : Pure w wE := hwE ▸ Ext.setCells _ 0 _ hSb.p (b := tb + 2) (fun h => by have h2 := hSb.lo; omega)
  have hBr : BlockIs wE (tb + 2) [.int .i64 gx, .int .i64 gy] 55 := hwE ▸ hSb.b3.setAll [.int .i64 gx, .int .i64 gy] rfl
  refine wpList_store_mid rfl 55 (.tmp 6) (.tmp 31) rfl (tb + 2) 0 #[.int .i64 gx, .int .i64 gy] rfl rfl hTh.out (by exact sizeSp) (one2 _ _) ?_
  have HwE : Hid (wb.setCells (tb + 2) 0 (#[.int .i64 gx, .int .i64 gy] : Array Value).toList = wE) := qh (by rw [hwE])
  rw [HwE.out]
  clear hwE
  refine hK.out _ _ (hX) (fun hHeld => ?_)
  clear hK K hHeld
  refine region_now (hX) ?_
  try simp only [Act.put, sA, sZ, sS]
  refine region_take 12 7 (v := ?vro12) rfl rfl (by kernel_rfl) (by kernel_rfl) (by kernel_rfl) (fun _ _ _ h => h) (by rfl) (fun w' hS => ?hro12) ?rro12
  case hro12 => go_simp; with_reducible rfl
  try simp only [Act.put, sA, sZ, sS]
  refine wpAnyH_done (by kernel_rfl) ?_ _
  go_simp
  try simp only [Act.put, sA, sZ, sS]
  go_wp2_with fail
  refine bodyPost_ret (V11.results_row2 rfl _ _ (tb + 2) _ [.int .i64 gx, .int .i64 gy] _ rfl hBr Tryz.underlying55 rfl sizeSp) rfl ?_
  exact ⟨by rw [HFr.out, HGx.out, HGy.out, HGi.out]; rfl, hP⟩
 ·have HFp : Hid (F = pieceP (l.fe :: ((lensP h.ps).take k).drop 1) ln) := qh (by rw [HFk.out, if_neg hk0])
  have hk1 : 1 ≤ k := by omega
  have e0 : ((k : Int) == 0) = false := by simpa using (by omega : ¬ (k : Int) = 0)
  have hw0 : ¬ (k : Int) = 0 := by omega
  have d4 : (((w.alloc (.cells cs.toArray 25)).alloc (.cells ds.toArray 40)).alloc (.cells #[.int .i64 0, .int .i64 0] 55)).cell? ⟨w.heap.size + 1, 4, none⟩ = some (.int .i64 l.fe) := by rw [HW.out, ← HTb.out, HS.out.b2.cell 4]; exact HDs2.out
  have hz2 : w2.heap.size = tb + 1 + 1 + 1 := by rw [← HW.out, HTb.out]; exact Hs.size w cs ds
  obtain ⟨w5, hw5⟩ : ∃ z, z = w2.alloc (.cells #[.int .i64 l.fe] 3) := ⟨_, rfl⟩
  have hE5 : Pure w2 w5 := hw5 ▸ ext_alloc w2 _
  have HS5 := qh (HS.out.pure hE5)
  have HO5 : Hid (OwnZ w5 (tb + 3) (some ⟨tb + 1 + 1 + 1, 0, none⟩) 1 1 [l.fe]) := qh (by
   have hh := OwnZ.new w2 [.int .i64 l.fe] [l.fe] rfl 1 rfl (by unfold maxLen; decide) (tb + 3) HS.out.sz
   rw [hz2] at hh
   rw [hw5]
   exact hh)
  have HW5 : Hid (w2.alloc (.cells #[.int .i64 l.fe] 3) = w5) := qh hw5.symm
  clear HFk hw5 hE5 hl1 hk0 hz2
  go_enter Tryz.func39, Tryz.ntmps39
  go_wp2_with fail
  rw [HW.out, HW5.out, ← HTb.out]
  clear c2 d4
  go_loopw [8, 9] (fun s i W => ∃ (j : Nat) (a' : Option Addr) (c' : Nat), 1 ≤ j ∧ j ≤ k ∧ i = .int .i64 j ∧ s = .slice a' j c' ∧ Hid (OwnZ W (tb + 3) a' j c' (l.fe :: ((lensP h.ps).take j).drop 1)) ∧ Hid (Hs w W tb cs ds)) (fun _ i _ => k - (intOf i).toNat)
  case atStart =>
   refine ⟨1, _, _, Nat.le_refl _, hk1, rfl, rfl, qh ?_, HS5⟩
   have : ((lensP h.ps).take 1).drop 1 = [] := by rw [List.drop_eq_nil_iff]; simp; omega
   rw [this]
   exact HO5.out
  case round =>
   obtain ⟨j, a', c', hj1, hjk, rfl, rfl, HO, HS⟩ := hrel
   have c2 : wr.cell? ⟨tb, 2, none⟩ = some (.slice (some ⟨b, o, none⟩) pn pc) := by rw [HS.out.b1.cell 2]; exact HC2.out
   by_cases hlt : j < k
   ·have hji : (j : Int) < (k : Int) := by omega
    have hjp : (j : Int) < (pn : Int) := by omega
    have hjl : j < h.ps.length := by omega
    obtain ⟨b', o', hbo, hpg⟩ := (HMm.out.pure HS.out.p).page j hjl
    cases hbo
    have hT := HTake.out j hjl
    generalize h.ps[j].l = pl at *
    have hl1 : wr.cell? ⟨b, o + j * 3 + 1, none⟩ = some (.int .i64 pl) := hpg 1 _ rfl
    have HL : Hid ((l.fe :: ((lensP h.ps).take j).drop 1) ++ [pl] = l.fe :: ((lensP h.ps).take (j + 1)).drop 1) := qh (by
     rw [hT, List.drop_append_of_le_length (by rw [List.length_take, lensP_len]; omega)]; rfl)
    obtain ⟨w6, hw6⟩ : ∃ z, z = wr.alloc (.cells #[.int .i64 pl] 3) := ⟨_, rfl⟩
    have hP6 : Pure wr w6 := hw6 ▸ ext_alloc wr _
    have HRow : Hid (RowOf w6 (some ⟨wr.heap.size, 0, none⟩) ([pl].map zV)) := qh (hw6 ▸ row_at _ rfl rfl)
    have HO6 := qh (HO.out.pure hP6)
    have HS6 := qh (HS.out.pure hP6)
    have HW6 := qh hw6
    have HB6 : Hid (tb + 3 ≤ w6.heap.size) := qh HS6.out.sz
    have HJ : Hid (j + 1 ≤ 1000000000) := qh (by omega)
    clear hT hw6 hP6 hjl hpg
    go_wp2_with (at_builtin; rw [← HW6.out]; refine wpList_append_int rfl (.tmp 41) (.tmp 48) rfl (tb + 3) a' j c' _ rfl HO6.out (some ⟨wr.heap.size, 0, none⟩) 1 1 [pl] rfl rfl (fun e => by cases e) HRow.out HJ.out HB6.out ?_; intro a7 c7 w7 hO7 hE7)
    rw [HL.out] at hO7
    have HO7 := qh hO7
    have HS7 := qh (HS6.out.ext hE7 (fun _ e => e))
    clear hO7 hE7 c2 hl1
    go_wp2_with fail
    go_roundw
    case rel => exact ⟨j + 1, a7, c7, by omega, by omega, by go_num, rfl, HO7, HS7⟩
    case measure => simp [intOf]; omega
   ·have hji : ¬ (j : Int) < (k : Int) := by omega
    obtain rfl : k = j := by omega
    obtain ⟨L, hL⟩ : ∃ z, z = l.fe :: ((lensP h.ps).take k).drop 1 := ⟨_, rfl⟩
    have hLl : L.length = k := by rw [hL, List.length_cons, List.length_drop, List.length_take, lensP_len]; omega
    rw [← hL] at HO HFp
    have hCp := refpiece_any L ln a' c' wr HO.out.row (OwnZ.nil HO.out) (by omega)
    obtain ⟨G, hG⟩ : ∃ G, G = pieceP L ln := ⟨_, rfl⟩
    rw [hLl] at hCp
    rw [← hG] at hCp HFp
    unfold SpanIs spanV at hCp
    have HCp := qh hCp
    obtain ⟨b', o', hbo, hpg⟩ := (HMm.out.pure HS.out.p).page k hkn
    cases hbo
    rw [show h.ps[k].l = ln from HLn.out] at hpg
    have hl1 : wr.cell? ⟨b, o + k * 3 + 1, none⟩ = some (.int .i64 ln) := hpg 1 _ rfl
    have hjp : (k : Int) < (pn : Int) := by omega
    have HFr := HFp
    clear hL hLl hCp hG hpg HFp HTake
    go_wp2_with fail
    refine HCp.out.mono ?_
    rintro e w6 ⟨rfl, hP6⟩
    have HS6 := qh (HS.out.pure hP6)
    clear hP6 HCp c2 hl1
    have HTh : Hid (w6.there (tb + 2) 0 (#[.int .i64 (G.getD (0, 0)).1, .int .i64 (G.getD (0, 0)).2] : Array Value).size) := qh (HS6.out.b3.there 2 rfl)
    have HSi : Hid ((Tryz.prog.info? 55).map (·.size) = some (#[.int .i64 (G.getD (0, 0)).1, .int .i64 (G.getD (0, 0)).2] : Array Value).size) := qh sizeSp
    have HP8 : Hid (Pure w (w6.setCells (tb + 2) 0 [.int .i64 (G.getD (0, 0)).1, .int .i64 (G.getD (0, 0)).2])) := qh (Ext.setCells _ 0 w6 HS6.out.p (b := (tb + 2)) (fun h => by have := HS6.out.lo; omega))
    have HB9 : Hid (BlockIs (w6.setCells (tb + 2) 0 [.int .i64 (G.getD (0, 0)).1, .int .i64 (G.getD (0, 0)).2]) (tb + 2) [.int .i64 (G.getD (0, 0)).1, .int .i64 (G.getD (0, 0)).2] 55) := qh (HS6.out.b3.setAll [.int .i64 (G.getD (0, 0)).1, .int .i64 (G.getD (0, 0)).2] rfl)
    go_wp2_with (with_reducible refine V11.at_store 55 (.tmp 6) (.tmp 58) ?_; refine wpList_store_mid rfl 55 (.tmp 6) (.tmp 58) rfl (tb + 2) 0 #[.int .i64 (G.getD (0, 0)).1, .int .i64 (G.getD (0, 0)).2] rfl rfl HTh.out HSi.out (one2 _ _) ?_)
    refine bodyPost_ret (V11.results_row2 rfl _ _ (tb + 2) _ [.int .i64 (G.getD (0, 0)).1, .int .i64 (G.getD (0, 0)).2] _ rfl HB9.out Tryz.underlying55 rfl sizeSp) rfl ?_
    exact ⟨by rw [HFr.out]; rfl, HP8.out⟩
set_option maxHeartbeats 4000000 in
theorem refgroup_any (h : HT) (p : Int) (pa la : Option Addr) (pc lc : Nat) (w : World) (H : HMem w h pa pc la lc) :
 Calls Tryz.prog 41 #[.agg (hC h pa pc la lc).toArray, .int .i64 p] w (SpanIs (groupP h p) w) := by
 obtain ⟨F, hF⟩ : ∃ F, F = groupP h p := ⟨_, rfl⟩
 rw [← hF]
 unfold groupP at hF
 have HMm := qh H
 have hsn := H.sn
 have hlc := H.lcap
 obtain ⟨cs, hcs⟩ : ∃ z, z = hC h pa pc la lc := ⟨_, rfl⟩
 have HL7 : Hid (cs.length = 7) := qh (by rw [hcs]; rfl)
 have HCs := qh hcs
 rw [← hcs]
 have hS0 := Hg.new w cs
 obtain ⟨w2, hw2⟩ : ∃ z, z = ((w.alloc (.cells cs.toArray 25)).alloc (.cells #[.int .i64 0, .int .i64 0] 55)) := ⟨_, rfl⟩
 obtain ⟨tb, htb⟩ : ∃ z, z = w.heap.size := ⟨_, rfl⟩
 rw [← hw2, ← htb] at hS0
 have HW : Hid (((w.alloc (.cells cs.toArray 25)).alloc (.cells #[.int .i64 0, .int .i64 0] 55)) = w2) := qh hw2.symm
 have HTb := qh htb
 have HS := qh hS0
 clear hcs hw2 htb hS0
 have HC6 : Hid (cs[6]? = some (.slice la h.sh.length lc)) := qh (by rw [HCs.out]; rfl)
 have HC5 : Hid (cs[5]? = some (.int .i64 h.sf)) := qh (by rw [HCs.out]; rfl)
 have HC4 : Hid (cs[4]? = some (.int .i64 h.sa)) := qh (by rw [HCs.out]; rfl)
 have HC1 : Hid (cs[1]? = some (.int .i64 h.fa)) := qh (by rw [HCs.out]; rfl)
 have r6 : ((w.alloc (.cells cs.toArray 25)).alloc (.cells #[.int .i64 0, .int .i64 0] 55)).cell? ⟨w.heap.size, 6, none⟩ = some (.slice la h.sh.length lc) := by rw [HW.out, ← HTb.out, HS.out.b1.cell 6]; exact HC6.out
 have r5 : ((w.alloc (.cells cs.toArray 25)).alloc (.cells #[.int .i64 0, .int .i64 0] 55)).cell? ⟨w.heap.size, 5, none⟩ = some (.int .i64 h.sf) := by rw [HW.out, ← HTb.out, HS.out.b1.cell 5]; exact HC5.out
 have r4 : ((w.alloc (.cells cs.toArray 25)).alloc (.cells #[.int .i64 0, .int .i64 0] 55)).cell? ⟨w.heap.size, 4, none⟩ = some (.int .i64 h.sa) := by rw [HW.out, ← HTb.out, HS.out.b1.cell 4]; exact HC4.out
 have r1 : ((w.alloc (.cells cs.toArray 25)).alloc (.cells #[.int .i64 0, .int .i64 0] 55)).cell? ⟨w.heap.size, 1, none⟩ = some (.int .i64 h.fa) := by rw [HW.out, ← HTb.out, HS.out.b1.cell 1]; exact HC1.out
 obtain ⟨sn, hsN⟩ : ∃ z, z = h.sh.length := ⟨_, rfl⟩
 have HsN := qh hsN
 obtain ⟨sf, hsf⟩ : ∃ z, z = h.sf := ⟨_, rfl⟩
 rw [← hsN, ← hsf] at hF
 rw [← hsN] at hsn hlc HC6 r6
 rw [← hsf] at r5 HC5
 clear H hsN hsf
 by_cases hp0 : p < 0
 ·skip
  have HFr : Hid (F = none) := qh (by rw [hF, if_neg (by omega)])
  clear hF HCs
  go_enter Tryz.func41, Tryz.ntmps41
  have HTh : Hid (w2.there (tb + 1) 0 (#[.int .i64 0, .int .i64 0] : Array Value).size) := qh (HS.out.b3.there 2 rfl)
  have HSi : Hid ((Tryz.prog.info? 55).map (·.size) = some (#[.int .i64 0, .int .i64 0] : Array Value).size) := qh sizeSp
  have HP8 : Hid (Pure w (w2.setCells (tb + 1) 0 [.int .i64 0, .int .i64 0])) := qh (Ext.setCells _ 0 w2 HS.out.p (b := (tb + 1)) (fun h => by have := HS.out.lo; omega))
  have HB9 : Hid (BlockIs (w2.setCells (tb + 1) 0 [.int .i64 0, .int .i64 0]) (tb + 1) [.int .i64 0, .int .i64 0] 55) := qh (HS.out.b3.setAll [.int .i64 0, .int .i64 0] rfl)
  go_wp2_with (with_reducible refine V11.at_store 55 (.tmp 4) (.tmp 31) ?_; rw [HW.out, ← HTb.out]; refine wpList_store_mid rfl 55 (.tmp 4) (.tmp 31) rfl (tb + 1) 0 #[.int .i64 0, .int .i64 0] rfl rfl HTh.out HSi.out (one2 _ _) ?_)
  refine bodyPost_ret (V11.results_row2 rfl _ _ (tb + 1) _ [.int .i64 0, .int .i64 0] _ rfl HB9.out Tryz.underlying55 rfl sizeSp) rfl ?_
  exact ⟨by rw [HFr.out]; rfl, HP8.out⟩
 obtain ⟨k, rfl⟩ : ∃ k : Nat, p = (k : Int) := ⟨p.toNat, by omega⟩
 by_cases hk : (sn : Int) ≤ (k : Int)
 ·skip
  have HFr : Hid (F = none) := qh (by rw [hF, if_neg (by omega)])
  clear hF HCs
  go_enter Tryz.func41, Tryz.ntmps41
  have HTh : Hid (w2.there (tb + 1) 0 (#[.int .i64 0, .int .i64 0] : Array Value).size) := qh (HS.out.b3.there 2 rfl)
  have HSi : Hid ((Tryz.prog.info? 55).map (·.size) = some (#[.int .i64 0, .int .i64 0] : Array Value).size) := qh sizeSp
  have HP8 : Hid (Pure w (w2.setCells (tb + 1) 0 [.int .i64 0, .int .i64 0])) := qh (Ext.setCells _ 0 w2 HS.out.p (b := (tb + 1)) (fun h => by have := HS.out.lo; omega))
  have HB9 : Hid (BlockIs (w2.setCells (tb + 1) 0 [.int .i64 0, .int .i64 0]) (tb + 1) [.int .i64 0, .int .i64 0] 55) := qh (HS.out.b3.setAll [.int .i64 0, .int .i64 0] rfl)
  go_wp2_with (with_reducible refine V11.at_store 55 (.tmp 4) (.tmp 31) ?_; rw [HW.out, ← HTb.out]; refine wpList_store_mid rfl 55 (.tmp 4) (.tmp 31) rfl (tb + 1) 0 #[.int .i64 0, .int .i64 0] rfl rfl HTh.out HSi.out (one2 _ _) ?_)
  refine bodyPost_ret (V11.results_row2 rfl _ _ (tb + 1) _ [.int .i64 0, .int .i64 0] _ rfl HB9.out Tryz.underlying55 rfl sizeSp) rfl ?_
  exact ⟨by rw [HFr.out]; rfl, HP8.out⟩
 by_cases hf0 : sf < 0
 ·skip
  have HFr : Hid (F = none) := qh (by rw [hF, if_neg (by omega)])
  clear hF HCs
  go_enter Tryz.func41, Tryz.ntmps41
  have HTh : Hid (w2.there (tb + 1) 0 (#[.int .i64 0, .int .i64 0] : Array Value).size) := qh (HS.out.b3.there 2 rfl)
  have HSi : Hid ((Tryz.prog.info? 55).map (·.size) = some (#[.int .i64 0, .int .i64 0] : Array Value).size) := qh sizeSp
  have HP8 : Hid (Pure w (w2.setCells (tb + 1) 0 [.int .i64 0, .int .i64 0])) := qh (Ext.setCells _ 0 w2 HS.out.p (b := (tb + 1)) (fun h => by have := HS.out.lo; omega))
  have HB9 : Hid (BlockIs (w2.setCells (tb + 1) 0 [.int .i64 0, .int .i64 0]) (tb + 1) [.int .i64 0, .int .i64 0] 55) := qh (HS.out.b3.setAll [.int .i64 0, .int .i64 0] rfl)
  go_wp2_with (with_reducible refine V11.at_store 55 (.tmp 4) (.tmp 31) ?_; rw [HW.out, ← HTb.out]; refine wpList_store_mid rfl 55 (.tmp 4) (.tmp 31) rfl (tb + 1) 0 #[.int .i64 0, .int .i64 0] rfl rfl HTh.out HSi.out (one2 _ _) ?_)
  refine bodyPost_ret (V11.results_row2 rfl _ _ (tb + 1) _ [.int .i64 0, .int .i64 0] _ rfl HB9.out Tryz.underlying55 rfl sizeSp) rfl ?_
  exact ⟨by rw [HFr.out]; rfl, HP8.out⟩
 obtain ⟨f, rfl⟩ : ∃ f : Nat, sf = (f : Int) := ⟨sf.toNat, by omega⟩
 by_cases hfn : (sn : Int) < (f : Int)
 ·skip
  have HFr : Hid (F = none) := qh (by rw [hF, if_neg (by omega)])
  clear hF HCs
  go_enter Tryz.func41, Tryz.ntmps41
  have HTh : Hid (w2.there (tb + 1) 0 (#[.int .i64 0, .int .i64 0] : Array Value).size) := qh (HS.out.b3.there 2 rfl)
  have HSi : Hid ((Tryz.prog.info? 55).map (·.size) = some (#[.int .i64 0, .int .i64 0] : Array Value).size) := qh sizeSp
  have HP8 : Hid (Pure w (w2.setCells (tb + 1) 0 [.int .i64 0, .int .i64 0])) := qh (Ext.setCells _ 0 w2 HS.out.p (b := (tb + 1)) (fun h => by have := HS.out.lo; omega))
  have HB9 : Hid (BlockIs (w2.setCells (tb + 1) 0 [.int .i64 0, .int .i64 0]) (tb + 1) [.int .i64 0, .int .i64 0] 55) := qh (HS.out.b3.setAll [.int .i64 0, .int .i64 0] rfl)
  go_wp2_with (with_reducible refine V11.at_store 55 (.tmp 4) (.tmp 31) ?_; rw [HW.out, ← HTb.out]; refine wpList_store_mid rfl 55 (.tmp 4) (.tmp 31) rfl (tb + 1) 0 #[.int .i64 0, .int .i64 0] rfl rfl HTh.out HSi.out (one2 _ _) ?_)
  refine bodyPost_ret (V11.results_row2 rfl _ _ (tb + 1) _ [.int .i64 0, .int .i64 0] _ rfl HB9.out Tryz.underlying55 rfl sizeSp) rfl ?_
  exact ⟨by rw [HFr.out]; rfl, HP8.out⟩
 have hks : k < h.sh.length := by rw [← HsN.out]; omega
 obtain ⟨b, o, rfl, hx0⟩ := zV_at HMm.out.share k hks
 obtain ⟨x, hx⟩ : ∃ z, z = h.sh[k] := ⟨_, rfl⟩
 have hxg : h.sh[(k : Int).toNat]?.getD 0 = x := by
  rw [hx, show ((k : Nat) : Int).toNat = k from rfl, List.getElem?_eq_getElem hks]; rfl
 have HX : Hid (∀ W, Pure w W → W.cell? ⟨b, o + k, none⟩ = some (.int .i64 x)) := qh (fun W hP => by rw [hx]; exact hP.cell_some hx0 id)
 have hFk : F = (if f ≤ k then pieceP (h.sa :: (h.sh.take k).drop f) x else pieceP (h.fa :: h.sh.take k) x) := by
  rw [hF, if_pos (by omega), hxg]
  by_cases hc : f ≤ k
  ·rw [if_pos (by omega), if_pos hc]; rfl
  ·rw [if_neg (by omega), if_neg hc]; rfl
 have hki : (k : Int) < (sn : Int) := by omega
 have hfi : (f : Int) ≤ (sn : Int) := by omega
 have hk0 : decide ((k : Int) < 0) = false := decide_eq_false hp0
 have hf0' : decide ((f : Int) < 0) = false := decide_eq_false hf0
 clear hF hx0 hx hxg hk hfn HCs
 have hz2 : w2.heap.size = tb + 1 + 1 := by rw [← HW.out, HTb.out]; exact Hg.size w cs
 obtain ⟨w4, hw4⟩ : ∃ z, z = w2.alloc (.cells #[.int .i64 h.fa] 3) := ⟨_, rfl⟩
 have hz4 : w4.heap.size = tb + 1 + 1 + 1 := by rw [hw4, World.size_alloc, hz2]
 have hE4 : Pure w2 w4 := hw4 ▸ ext_alloc w2 _
 have HS4 := qh (HS.out.pure hE4)
 have HW4 : Hid (w2.alloc (.cells #[.int .i64 h.fa] 3) = w4) := qh hw4.symm
 have k5 : (((w.alloc (.cells cs.toArray 25)).alloc (.cells #[.int .i64 0, .int .i64 0] 55)).alloc (.cells #[.int .i64 h.fa] 3)).cell? ⟨w.heap.size, 5, none⟩ = some (.int .i64 (f : Int)) := by rw [HW.out, HW4.out, ← HTb.out, HS4.out.b1.cell 5]; exact HC5.out
 have k4 : (((w.alloc (.cells cs.toArray 25)).alloc (.cells #[.int .i64 0, .int .i64 0] 55)).alloc (.cells #[.int .i64 h.fa] 3)).cell? ⟨w.heap.size, 4, none⟩ = some (.int .i64 h.sa) := by rw [HW.out, HW4.out, ← HTb.out, HS4.out.b1.cell 4]; exact HC4.out
 by_cases hfk : f ≤ k
 ·have hfki : (f : Int) ≤ (k : Int) := by omega
  have HFp : Hid (F = pieceP (h.sa :: (h.sh.take k).drop f) x) := qh (by rw [hFk, if_pos hfk])
  obtain ⟨w5, hw5⟩ : ∃ z, z = w4.alloc (.cells #[.int .i64 h.sa] 3) := ⟨_, rfl⟩
  have hE5 : Pure w4 w5 := hw5 ▸ ext_alloc w4 _
  have HS5 := qh (HS4.out.pure hE5)
  have HO5 : Hid (OwnZ w5 (tb + 2) (some ⟨tb + 1 + 1 + 1, 0, none⟩) 1 1 [h.sa]) := qh (by
   have hh := OwnZ.new w4 [.int .i64 h.sa] [h.sa] rfl 1 rfl (by unfold maxLen; decide) (tb + 2) HS4.out.sz
   rw [hz4] at hh
   rw [hw5]
   exact hh)
  have HW5 : Hid (w4.alloc (.cells #[.int .i64 h.sa] 3) = w5) := qh hw5.symm
  have j5 : ((((w.alloc (.cells cs.toArray 25)).alloc (.cells #[.int .i64 0, .int .i64 0] 55)).alloc (.cells #[.int .i64 h.fa] 3)).alloc (.cells #[.int .i64 h.sa] 3)).cell? ⟨w.heap.size, 5, none⟩ = some (.int .i64 (f : Int)) := by rw [HW.out, HW4.out, HW5.out, ← HTb.out, HS5.out.b1.cell 5]; exact HC5.out
  clear hFk hw4 hw5 hE4 hE5 hz2 hz4
  go_enter Tryz.func41, Tryz.ntmps41
  go_wp2_with fail
  rw [HW.out, HW4.out, HW5.out, ← HTb.out]
  clear k5 k4 r6 r5 r4 r1 j5
  go_loopw [6, 8] (fun s i W => ∃ (j : Nat) (a' : Option Addr) (c' : Nat), f ≤ j ∧ j ≤ k ∧ i = .int .i64 j ∧ s = .slice a' (1 + (j - f)) c' ∧ Hid (OwnZ W (tb + 2) a' (1 + (j - f)) c' (h.sa :: (h.sh.take j).drop f)) ∧ Hid (Hg w W tb cs)) (fun _ i _ => k - (intOf i).toNat)
  case atStart =>
   refine ⟨f, some ⟨tb + 1 + 1 + 1, 0, none⟩, 1, Nat.le_refl _, by omega, by go_num, by simp, qh ?_, HS5⟩
   have : (h.sh.take f).drop f = [] := by rw [List.drop_eq_nil_iff]; simp <;> omega
   rw [this, Nat.sub_self]
   exact HO5.out
  case round =>
   obtain ⟨j, a', c', hj1, hjk, rfl, rfl, HO, HS⟩ := hrel
   have c6 : wr.cell? ⟨tb, 6, none⟩ = some (.slice (some ⟨b, o, none⟩) sn lc) := by rw [HS.out.b1.cell 6]; exact HC6.out
   by_cases hlt : j < k
   ·have hji : (j : Int) < (k : Int) := by omega
    have hjp : (j : Int) < (sn : Int) := by omega
    have hjl : j < h.sh.length := by rw [← HsN.out]; omega
    obtain ⟨b', o', hbo, hx1⟩ := zV_at (HMm.out.pure HS.out.p).share j hjl
    cases hbo
    have hT : h.sh.take (j + 1) = h.sh.take j ++ [h.sh[j]] := List.take_succ_eq_append_getElem hjl
    generalize h.sh[j] = pl at *
    have HL : Hid ((h.sa :: (h.sh.take j).drop f) ++ [pl] = h.sa :: (h.sh.take (j + 1)).drop f) := qh (by
     rw [hT, List.drop_append_of_le_length (by rw [List.length_take]; omega)]; rfl)
    obtain ⟨w6, hw6⟩ : ∃ z, z = wr.alloc (.cells #[.int .i64 pl] 3) := ⟨_, rfl⟩
    have hP6 : Pure wr w6 := hw6 ▸ ext_alloc wr _
    have HRow : Hid (RowOf w6 (some ⟨wr.heap.size, 0, none⟩) ([pl].map zV)) := qh (hw6 ▸ row_at _ rfl rfl)
    have HO6 := qh (HO.out.pure hP6)
    have HS6 := qh (HS.out.pure hP6)
    have HW6 := qh hw6
    have HB6 : Hid (tb + 2 ≤ w6.heap.size) := qh HS6.out.sz
    obtain ⟨m, hm⟩ : ∃ z, z = 1 + (j - f) := ⟨_, rfl⟩
    have HM1 : Hid (1 + (j + 1 - f) = m + 1) := qh (by omega)
    have HJ : Hid (m + 1 ≤ 1000000000) := qh (by omega)
    rw [← hm] at HO6 ⊢
    clear hT hw6 hP6 hjl hm
    go_wp2_with (at_builtin; rw [← HW6.out]; refine wpList_append_int rfl (.tmp 50) (.tmp 56) rfl (tb + 2) a' m c' _ rfl HO6.out (some ⟨wr.heap.size, 0, none⟩) 1 1 [pl] rfl rfl (fun e => by cases e) HRow.out HJ.out HB6.out ?_; intro a7 c7 w7 hO7 hE7)
    rw [HL.out] at hO7
    have HO7 : Hid (OwnZ w7 (tb + 2) a7 (1 + (j + 1 - f)) c7 (h.sa :: (h.sh.take (j + 1)).drop f)) := qh (by rw [HM1.out]; exact hO7)
    have HS7 := qh (HS6.out.ext hE7 (fun _ e => e))
    clear hO7 hE7 c6 hx1
    go_wp2_with fail
    go_roundw
    case rel => exact ⟨j + 1, a7, c7, by omega, by omega, by go_num, by rw [HM1.out], HO7, HS7⟩
    case measure => simp [intOf]; omega
   ·have hji : ¬ (j : Int) < (k : Int) := by omega
    obtain rfl : k = j := by omega
    obtain ⟨L, hL⟩ : ∃ z, z = h.sa :: (h.sh.take k).drop f := ⟨_, rfl⟩
    have hLl : L.length = 1 + (k - f) := by have := HsN.out; rw [hL, List.length_cons, List.length_drop, List.length_take]; omega
    rw [← hL] at HO HFp
    have hCp := refpiece_any L x a' c' wr HO.out.row (OwnZ.nil HO.out) (by omega)
    obtain ⟨G, hG⟩ : ∃ G, G = pieceP L x := ⟨_, rfl⟩
    rw [hLl] at hCp
    rw [← hG] at hCp HFp
    unfold SpanIs spanV at hCp
    have HCp := qh hCp
    have hl1 : wr.cell? ⟨b, o + k, none⟩ = some (.int .i64 x) := HX.out wr HS.out.p
    have hjp : (k : Int) < (sn : Int) := by omega
    have HFr := HFp
    clear hL hLl hCp hG HFp
    go_wp2_with fail
    refine HCp.out.mono ?_
    rintro e w6 ⟨rfl, hP6⟩
    have HS6 := qh (HS.out.pure hP6)
    clear hP6 HCp c6 hl1
    have HTh : Hid (w6.there (tb + 1) 0 (#[.int .i64 (G.getD (0, 0)).1, .int .i64 (G.getD (0, 0)).2] : Array Value).size) := qh (HS6.out.b3.there 2 rfl)
    have HSi : Hid ((Tryz.prog.info? 55).map (·.size) = some (#[.int .i64 (G.getD (0, 0)).1, .int .i64 (G.getD (0, 0)).2] : Array Value).size) := qh sizeSp
    have HP8 : Hid (Pure w (w6.setCells (tb + 1) 0 [.int .i64 (G.getD (0, 0)).1, .int .i64 (G.getD (0, 0)).2])) := qh (Ext.setCells _ 0 w6 HS6.out.p (b := (tb + 1)) (fun h => by have := HS6.out.lo; omega))
    have HB9 : Hid (BlockIs (w6.setCells (tb + 1) 0 [.int .i64 (G.getD (0, 0)).1, .int .i64 (G.getD (0, 0)).2]) (tb + 1) [.int .i64 (G.getD (0, 0)).1, .int .i64 (G.getD (0, 0)).2] 55) := qh (HS6.out.b3.setAll [.int .i64 (G.getD (0, 0)).1, .int .i64 (G.getD (0, 0)).2] rfl)
    go_wp2_with (with_reducible refine V11.at_store 55 (.tmp 4) (.tmp 65) ?_; refine wpList_store_mid rfl 55 (.tmp 4) (.tmp 65) rfl (tb + 1) 0 #[.int .i64 (G.getD (0, 0)).1, .int .i64 (G.getD (0, 0)).2] rfl rfl HTh.out HSi.out (one2 _ _) ?_)
    refine bodyPost_ret (V11.results_row2 rfl _ _ (tb + 1) _ [.int .i64 (G.getD (0, 0)).1, .int .i64 (G.getD (0, 0)).2] _ rfl HB9.out Tryz.underlying55 rfl sizeSp) rfl ?_
    exact ⟨by rw [HFr.out]; rfl, HP8.out⟩
 ·have hfki : ¬ (f : Int) ≤ (k : Int) := by omega
  have HFp : Hid (F = pieceP (h.fa :: (h.sh.take k).drop 0) x) := qh (by rw [hFk, if_neg hfk]; rfl)
  have HS5 := HS4
  have HO5 : Hid (OwnZ w4 (tb + 2) (some ⟨tb + 1 + 1, 0, none⟩) 1 1 [h.fa]) := qh (by
   have hh := OwnZ.new w2 [.int .i64 h.fa] [h.fa] rfl 1 rfl (by unfold maxLen; decide) (tb + 2) HS.out.sz
   rw [hz2] at hh
   rw [hw4]
   exact hh)
  clear hFk hw4 hE4 hz2 hz4
  go_enter Tryz.func41, Tryz.ntmps41
  go_wp2_with fail
  rw [HW.out, HW4.out, ← HTb.out]
  clear k5 k4 r6 r5 r4 r1
  go_loopw [6, 8] (fun s i W => ∃ (j : Nat) (a' : Option Addr) (c' : Nat), 0 ≤ j ∧ j ≤ k ∧ i = .int .i64 j ∧ s = .slice a' (1 + (j - 0)) c' ∧ Hid (OwnZ W (tb + 2) a' (1 + (j - 0)) c' (h.fa :: (h.sh.take j).drop 0)) ∧ Hid (Hg w W tb cs)) (fun _ i _ => k - (intOf i).toNat)
  case atStart =>
   refine ⟨0, some ⟨tb + 1 + 1, 0, none⟩, 1, Nat.le_refl _, by omega, by go_num, by simp, qh ?_, HS5⟩
   have : (h.sh.take 0).drop 0 = [] := by rw [List.drop_eq_nil_iff]; simp <;> omega
   rw [this, Nat.sub_self]
   exact HO5.out
  case round =>
   obtain ⟨j, a', c', hj1, hjk, rfl, rfl, HO, HS⟩ := hrel
   have c6 : wr.cell? ⟨tb, 6, none⟩ = some (.slice (some ⟨b, o, none⟩) sn lc) := by rw [HS.out.b1.cell 6]; exact HC6.out
   by_cases hlt : j < k
   ·have hji : (j : Int) < (k : Int) := by omega
    have hjp : (j : Int) < (sn : Int) := by omega
    have hjl : j < h.sh.length := by rw [← HsN.out]; omega
    obtain ⟨b', o', hbo, hx1⟩ := zV_at (HMm.out.pure HS.out.p).share j hjl
    cases hbo
    have hT : h.sh.take (j + 1) = h.sh.take j ++ [h.sh[j]] := List.take_succ_eq_append_getElem hjl
    generalize h.sh[j] = pl at *
    have HL : Hid ((h.fa :: (h.sh.take j).drop 0) ++ [pl] = h.fa :: (h.sh.take (j + 1)).drop 0) := qh (by
     rw [hT, List.drop_append_of_le_length (by rw [List.length_take]; omega)]; rfl)
    obtain ⟨w6, hw6⟩ : ∃ z, z = wr.alloc (.cells #[.int .i64 pl] 3) := ⟨_, rfl⟩
    have hP6 : Pure wr w6 := hw6 ▸ ext_alloc wr _
    have HRow : Hid (RowOf w6 (some ⟨wr.heap.size, 0, none⟩) ([pl].map zV)) := qh (hw6 ▸ row_at _ rfl rfl)
    have HO6 := qh (HO.out.pure hP6)
    have HS6 := qh (HS.out.pure hP6)
    have HW6 := qh hw6
    have HB6 : Hid (tb + 2 ≤ w6.heap.size) := qh HS6.out.sz
    obtain ⟨m, hm⟩ : ∃ z, z = 1 + (j - 0) := ⟨_, rfl⟩
    have HM1 : Hid (1 + (j + 1 - 0) = m + 1) := qh (by omega)
    have HJ : Hid (m + 1 ≤ 1000000000) := qh (by omega)
    rw [← hm] at HO6 ⊢
    clear hT hw6 hP6 hjl hm
    go_wp2_with (at_builtin; rw [← HW6.out]; refine wpList_append_int rfl (.tmp 50) (.tmp 56) rfl (tb + 2) a' m c' _ rfl HO6.out (some ⟨wr.heap.size, 0, none⟩) 1 1 [pl] rfl rfl (fun e => by cases e) HRow.out HJ.out HB6.out ?_; intro a7 c7 w7 hO7 hE7)
    rw [HL.out] at hO7
    have HO7 : Hid (OwnZ w7 (tb + 2) a7 (1 + (j + 1 - 0)) c7 (h.fa :: (h.sh.take (j + 1)).drop 0)) := qh (by rw [HM1.out]; exact hO7)
    have HS7 := qh (HS6.out.ext hE7 (fun _ e => e))
    clear hO7 hE7 c6 hx1
    go_wp2_with fail
    go_roundw
    case rel => exact ⟨j + 1, a7, c7, by omega, by omega, by go_num, by rw [HM1.out], HO7, HS7⟩
    case measure => simp [intOf]; omega
   ·have hji : ¬ (j : Int) < (k : Int) := by omega
    obtain rfl : k = j := by omega
    obtain ⟨L, hL⟩ : ∃ z, z = h.fa :: (h.sh.take k).drop 0 := ⟨_, rfl⟩
    have hLl : L.length = 1 + (k - 0) := by have := HsN.out; rw [hL, List.length_cons, List.length_drop, List.length_take]; omega
    rw [← hL] at HO HFp
    have hCp := refpiece_any L x a' c' wr HO.out.row (OwnZ.nil HO.out) (by omega)
    obtain ⟨G, hG⟩ : ∃ G, G = pieceP L x := ⟨_, rfl⟩
    rw [hLl] at hCp
    rw [← hG] at hCp HFp
    unfold SpanIs spanV at hCp
    have HCp := qh hCp
    have hl1 : wr.cell? ⟨b, o + k, none⟩ = some (.int .i64 x) := HX.out wr HS.out.p
    have hjp : (k : Int) < (sn : Int) := by omega
    have HFr := HFp
    clear hL hLl hCp hG HFp
    go_wp2_with fail
    refine HCp.out.mono ?_
    rintro e w6 ⟨rfl, hP6⟩
    have HS6 := qh (HS.out.pure hP6)
    clear hP6 HCp c6 hl1
    have HTh : Hid (w6.there (tb + 1) 0 (#[.int .i64 (G.getD (0, 0)).1, .int .i64 (G.getD (0, 0)).2] : Array Value).size) := qh (HS6.out.b3.there 2 rfl)
    have HSi : Hid ((Tryz.prog.info? 55).map (·.size) = some (#[.int .i64 (G.getD (0, 0)).1, .int .i64 (G.getD (0, 0)).2] : Array Value).size) := qh sizeSp
    have HP8 : Hid (Pure w (w6.setCells (tb + 1) 0 [.int .i64 (G.getD (0, 0)).1, .int .i64 (G.getD (0, 0)).2])) := qh (Ext.setCells _ 0 w6 HS6.out.p (b := (tb + 1)) (fun h => by have := HS6.out.lo; omega))
    have HB9 : Hid (BlockIs (w6.setCells (tb + 1) 0 [.int .i64 (G.getD (0, 0)).1, .int .i64 (G.getD (0, 0)).2]) (tb + 1) [.int .i64 (G.getD (0, 0)).1, .int .i64 (G.getD (0, 0)).2] 55) := qh (HS6.out.b3.setAll [.int .i64 (G.getD (0, 0)).1, .int .i64 (G.getD (0, 0)).2] rfl)
    go_wp2_with (with_reducible refine V11.at_store 55 (.tmp 4) (.tmp 65) ?_; refine wpList_store_mid rfl 55 (.tmp 4) (.tmp 65) rfl (tb + 1) 0 #[.int .i64 (G.getD (0, 0)).1, .int .i64 (G.getD (0, 0)).2] rfl rfl HTh.out HSi.out (one2 _ _) ?_)
    refine bodyPost_ret (V11.results_row2 rfl _ _ (tb + 1) _ [.int .i64 (G.getD (0, 0)).1, .int .i64 (G.getD (0, 0)).2] _ rfl HB9.out Tryz.underlying55 rfl sizeSp) rfl ?_
    exact ⟨by rw [HFr.out]; rfl, HP8.out⟩
