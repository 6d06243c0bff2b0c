import Derived.Test.YtomcdhljjmnahaaGreatHMemPa
import Derived.Test.YtomcdhljjmnahaaGreatSqPa
set_option linter.unusedVariables false
set_option linter.unusedSimpArgs false
set_option maxRecDepth 100000
namespace Go.Proofs.YtomcdhljjmnahaaGreat
open Go.RowKit
set_option maxHeartbeats 4000000 in
theorem own_any (h : HT) (l : LT) (p : Int) (pa la : Option Addr) (pc lc : Nat) (w : World) (H : HMem w h pa pc la lc) (hpc0 : p ≤ 0 ∨ h.ps.length ≤ pc) :
 Calls Tryz.prog 18 #[.agg (hC h pa pc la lc).toArray, .agg (lC l).toArray, .int .i64 p] w (SpanIs (ownP h l p) w) := by
 obtain ⟨F, hF⟩ : ∃ F, F = ownP h l p := ⟨_, rfl⟩
 rw [← hF]
 unfold ownP at hF
 have HM := qh H
 have hpn := H.pn
 obtain ⟨pn, hpN⟩ : ∃ z, z = h.ps.length := ⟨_, rfl⟩
 have HpN := qh hpN
 unfold hC lC
 rw [← hpN] at hF hpn hpc0 ⊢
 obtain ⟨w1, hw1⟩ : ∃ z, z = w.alloc (.cells #[.int .i64 h.fo, .int .i64 h.fa, .slice pa pn pc, .int .i64 h.so, .int .i64 h.sa, .int .i64 h.sf, .slice la h.sh.length lc] 25) := ⟨_, rfl⟩
 obtain ⟨tb, htb⟩ : ∃ z, z = w.heap.size := ⟨_, rfl⟩
 have hB1 : BlockIs w1 tb [.int .i64 h.fo, .int .i64 h.fa, .slice pa pn pc, .int .i64 h.so, .int .i64 h.sa, .int .i64 h.sf, .slice la h.sh.length lc] 25 := by rw [htb, hw1]; exact BlockIs.new w _ _
 have hs1 : w1.heap.size = tb + 1 := by rw [hw1, World.size_alloc, htb]
 obtain ⟨w2, hw2⟩ : ∃ z, z = w1.alloc (.cells #[.int .i64 l.len, .int .i64 l.ha, .int .i64 l.hl, .int .i64 l.fo, .int .i64 l.fe, .int .i64 l.pg, .int .i64 l.main] 40) := ⟨_, rfl⟩
 have hB2 : BlockIs w2 (tb + 1) [.int .i64 l.len, .int .i64 l.ha, .int .i64 l.hl, .int .i64 l.fo, .int .i64 l.fe, .int .i64 l.pg, .int .i64 l.main] 40 := by rw [← hs1, hw2]; exact BlockIs.new w1 _ _
 have hs2 : w2.heap.size = tb + 2 := by rw [hw2, World.size_alloc, hs1]
 obtain ⟨w3, hw3⟩ : ∃ z, z = w2.alloc (.cells #[.int .i64 0, .int .i64 0] 55) := ⟨_, rfl⟩
 have hBr : BlockIs w3 (tb + 2) [.int .i64 0, .int .i64 0] 55 := by rw [← hs2, hw3]; exact BlockIs.new w2 _ _
 have hs3 : w3.heap.size = tb + 3 := by rw [hw3, World.size_alloc, hs2]
 have hP1 : Pure w w1 := hw1 ▸ ext_alloc w _
 have hP2 : Pure w1 w2 := hw2 ▸ ext_alloc w1 _
 have hP3 : Pure w2 w3 := hw3 ▸ ext_alloc w2 _
 have hB1 := (hB1.ext hP2 id).ext hP3 id
 have hB2 := hB2.ext hP3 id
 have hP := (hP1.pure hP2).pure hP3
 have HW : Hid (((w.alloc (.cells #[.int .i64 h.fo, .int .i64 h.fa, .slice pa pn pc, .int .i64 h.so, .int .i64 h.sa, .int .i64 h.sf, .slice la h.sh.length lc] 25)).alloc (.cells #[.int .i64 l.len, .int .i64 l.ha, .int .i64 l.hl, .int .i64 l.fo, .int .i64 l.fe, .int .i64 l.pg, .int .i64 l.main] 40)).alloc (.cells #[.int .i64 0, .int .i64 0] 55) = w3) := qh (by rw [hw3, hw2, hw1])
 have HTb := qh htb
 have HS3 := qh hs3
 have c2 : w3.cell? ⟨tb, 2, none⟩ = some (.slice pa pn pc) := hB1.cell 2
 have c2' := c2
 rw [← HW.out, htb] at c2'
 clear hw1 hw2 hw3 hs1 hs2 hs3 hP1 hP2 hP3 htb H hpN
 by_cases hp0 : p < 0
 ·have HFr : Hid (F = none) := qh (by rw [hF, if_neg (by omega)])
  clear hF hB1 hB2
  go_enter Tryz.func18, Tryz.ntmps18
  go_wp2_with fail
  rw [HW.out, ← HTb.out]
  clear c2 c2'
  refine bodyPost_ret (V11.results_row2 rfl _ _ (tb + 2) _ [.int .i64 0, .int .i64 0] _ rfl hBr Tryz.underlying55 rfl sizeSp) rfl ?_
  exact ⟨by rw [HFr.out]; rfl, hP⟩
 obtain ⟨k, rfl⟩ : ∃ k : Nat, p = (k : Int) := ⟨p.toNat, by omega⟩
 by_cases hk : (pn : Int) ≤ (k : Int)
 ·have HFr : Hid (F = none) := qh (by rw [hF, if_neg (by omega)])
  clear hF hB1 hB2
  go_enter Tryz.func18, Tryz.ntmps18
  go_wp2_with fail
  rw [HW.out, ← HTb.out]
  clear c2 c2'
  refine bodyPost_ret (V11.results_row2 rfl _ _ (tb + 2) _ [.int .i64 0, .int .i64 0] _ rfl hBr Tryz.underlying55 rfl sizeSp) rfl ?_
  exact ⟨by rw [HFr.out]; rfl, hP⟩
 have hkn : k < h.ps.length := by rw [← HpN.out]; omega
 obtain ⟨b, o, rfl, hpg⟩ := (HM.out.pure hP).page k hkn
 have hln : (lensP h.ps)[(k : Int).toNat]?.getD 0 = h.ps[k].l := lensP_get hkn
 obtain ⟨ln, hLn⟩ : ∃ z, z = h.ps[k].l := ⟨_, rfl⟩
 rw [← hLn] at hpg hln
 have hl1 : w3.cell? ⟨b, o + k * 3 + 1, none⟩ = some (.int .i64 ln) := hpg 1 _ rfl
 have hFk : F = (if k = 0 then pieceP [h.fa] ln else pieceP (l.fe :: ((lensP h.ps).take k).drop 1) ln) := by
  rw [hF, if_pos (by omega)]
  by_cases h0 : k = 0
  ·subst h0
   rw [if_pos (show ((0 : Nat) : Int) = 0 from rfl), if_pos rfl]
   rw [show (lensP h.ps)[0]?.getD 0 = ln from hln]
  ·rw [if_neg (by omega), if_neg h0, hln]
   rfl
 have HFk := qh hFk
 have HTake : Hid (∀ j (hj : j < h.ps.length), (lensP h.ps).take (j + 1) = (lensP h.ps).take j ++ [h.ps[j].l]) := qh (fun j hj => by
  rw [List.take_succ_eq_append_getElem (by rw [lensP_len]; exact hj)]
  congr 2
  unfold lensP
  rw [List.getElem_map])
 have c1 : w3.cell? ⟨tb, 1, none⟩ = some (.int .i64 h.fa) := hB1.cell 1
 have d4 : w3.cell? ⟨tb + 1, 4, none⟩ = some (.int .i64 l.fe) := hB2.cell 4
 obtain ⟨w4, hw4⟩ : ∃ z, z = w3.alloc (.cells #[.int .i64 h.fa] 3) := ⟨_, rfl⟩
 have hP4 : Pure w3 w4 := hw4 ▸ ext_alloc w3 _
 have hO : OwnZ w4 (tb + 3) (some ⟨tb + 3, 0, none⟩) 1 1 [h.fa] := by
  have := OwnZ.new w3 [.int .i64 h.fa] [h.fa] rfl 1 rfl (by unfold maxLen; decide) (tb + 3) (by rw [HS3.out]; exact Nat.le_refl _)
  rw [HS3.out] at this
  rw [hw4]
  exact this
 have hs4 : tb + 3 ≤ w4.heap.size := by have := HS3.out; have := hP4.size; omega
 have HLn : Hid (h.ps[k].l = ln) := qh hLn.symm
 clear hF hFk hLn hln hpg
 by_cases hk0 : k = 0
 ·subst hk0
  have HFp : Hid (F = pieceP [h.fa] ln) := qh (by rw [HFk.out, if_pos rfl])
  have HCp := qh (piece_any [h.fa] ln (some ⟨tb + 3, 0, none⟩) 1 w4 hO.row (by simp))
  have HW4 : Hid (w3.alloc (.cells #[.int .i64 h.fa] 3) = w4) := qh hw4.symm
  clear HFk HTake hw4 hB2 d4
  have hi0 : (0 : Int) < (pn : Int) := by omega
  have hl2 : ((((w.alloc (.cells #[.int .i64 h.fo, .int .i64 h.fa, .slice (some ⟨b, o, none⟩) pn pc, .int .i64 h.so, .int .i64 h.sa, .int .i64 h.sf, .slice la h.sh.length lc] 25)).alloc (.cells #[.int .i64 l.len, .int .i64 l.ha, .int .i64 l.hl, .int .i64 l.fo, .int .i64 l.fe, .int .i64 l.pg, .int .i64 l.main] 40)).alloc (.cells #[.int .i64 0, .int .i64 0] 55)).alloc (.cells #[.int .i64 h.fa] 3)).cell? ⟨b, o + 1, none⟩ = some (.int .i64 ln) := by
   rw [HW.out, HW4.out]
   have := hP4.cell_some hl1 id
   simpa using this
  go_enter Tryz.func18, Tryz.ntmps18
  go_wp2_with fail
  rw [HW.out, ← HTb.out]
  rw [HW4.out]
  refine HCp.out.mono ?_
  rintro e w5 ⟨rfl, hP5⟩
  obtain ⟨G, hG⟩ : ∃ z, z = pieceP [h.fa] ln := ⟨_, rfl⟩
  have HIs := qh (piece_is [h.fa] ln)
  rw [← hG] at HIs HFp ⊢
  unfold spanV
  have hBr := (hBr.ext hP4 id).ext hP5 id
  have hP := (hP.pure hP4).pure hP5
  have HFr := HFp
  clear hP4 hP5 hO HCp HFp hG c1 c2 c2' hl1 hl2 hB1
  obtain ⟨w9, hw9⟩ : ∃ z, z = w5.alloc (.cells #[.int .i64 (G.getD (0, 0)).1, .int .i64 (G.getD (0, 0)).2] 55) := ⟨_, rfl⟩
  obtain ⟨bs, hbs⟩ : ∃ z, z = w5.heap.size := ⟨_, rfl⟩
  have hBs : BlockIs w9 bs [.int .i64 (G.getD (0, 0)).1, .int .i64 (G.getD (0, 0)).2] 55 := by rw [hbs, hw9]; exact BlockIs.new _ _ _
  have hPx : Pure w5 w9 := hw9 ▸ ext_alloc w5 _
  have hlb := hBr.lt
  have hbt : tb + 2 < bs := by omega
  have hBr := hBr.ext hPx id
  have hP := hP.pure hPx
  have HW9 : Hid (w5.alloc (.cells #[.int .i64 (G.getD (0, 0)).1, .int .i64 (G.getD (0, 0)).2] 55) = w9) := qh hw9.symm
  have Hbs := qh hbs
  clear hw9 hPx hlb hbs
  go_wp2_with fail
  rw [HW9.out, ← Hbs.out]
  have hBs := hBs.drew
  have hBr := hBr.drew
  have hP := hP.drew
  refine region_start (fun k => k = (tb + 2)) (by kernel_rfl) ?_
  try simp only [Act.put, sA, sZ, sS]
  refine region_take 0 54 (v := ?voh00) rfl rfl (by kernel_rfl) (by kernel_rfl) (by kernel_rfl) (fun _ _ _ h => h) (by rfl) (fun w' hS => ?hoh00) ?roh00
  case hoh00 => (refine exec_loadSp (x := .tmp 11) ?_ ?_ (hBs.ext hS (fun e => by have e' : bs = (tb + 2) := e; omega)) rfl <;> rfl)
  try simp only [Act.put, sA, sZ, sS]
  refine region_take 1 55 (v := ?voh01) rfl rfl (by kernel_rfl) (by kernel_rfl) (by kernel_rfl) (fun _ _ _ h => h) (by rfl) (fun w' hS => ?hoh01) ?roh01
  case hoh01 => (refine exec_loadSp (x := .tmp 11) ?_ ?_ (hBs.ext hS (fun e => by have e' : bs = (tb + 2) := e; omega)) rfl <;> rfl)
  try simp only [Act.put, sA, sZ, sS]
  refine region_take 2 56 (v := ?voh02) rfl rfl (by kernel_rfl) (by kernel_rfl) (by kernel_rfl) (fun _ _ _ h => h) (by rfl) (fun w' hS => ?hoh02) ?roh02
  case hoh02 => go_simp; with_reducible rfl
  try simp only [Act.put, sA, sZ, sS]
  refine region_take 3 57 (v := ?voh03) rfl rfl (by kernel_rfl) (by kernel_rfl) (by kernel_rfl) (fun _ _ _ h => h) (by rfl) (fun w' hS => ?hoh03) ?roh03
  case hoh03 => (go_simp; exact ifsSp (fun b => Result.ok (Next.value (Value.bool b)) w') _ _ _ HIs.out)
  try simp only [Act.put, sA, sZ, sS]
  refine wpAnyH_ready (rs := [4]) (by kernel_rfl) (by simp) (AllReadyH.cons rfl (fun K hK => ?_) AllReadyH.nil)
  refine step_of_list ?_
  have hTh := qh (hBr.there 2 rfl)
  obtain ⟨wE, hwE⟩ : ∃ z, z = w9.drew.setCells (tb + 2) 0 [.int .i64 (G.getD (0, 0)).1, .int .i64 (G.getD (0, 0)).2] := ⟨_, rfl⟩
  have hX : Ext (fun k => k = (tb + 2)) w9.drew wE := hwE ▸ Ext.setCells _ 0 _ (Ext.refl _ _) (fun _ => rfl)
  have hP : Pure w wE := hwE ▸ Ext.setCells _ 0 _ hP (b := (tb + 2)) (fun h => by have h2 := HTb.out; have h3 : (tb + 2) < w.heap.size := h; omega)
  have hBr : BlockIs wE (tb + 2) [.int .i64 (G.getD (0, 0)).1, .int .i64 (G.getD (0, 0)).2] 55 := hwE ▸ hBr.setAll [.int .i64 (G.getD (0, 0)).1, .int .i64 (G.getD (0, 0)).2] rfl
  refine wpList_store_mid rfl 55 (.tmp 6) (.tmp 54) rfl (tb + 2) 0 #[.int .i64 (G.getD (0, 0)).1, .int .i64 (G.getD (0, 0)).2] rfl rfl hTh.out (by exact sizeSp) (one2 _ _) ?_
  have HwE : Hid (w9.drew.setCells (tb + 2) 0 (#[.int .i64 (G.getD (0, 0)).1, .int .i64 (G.getD (0, 0)).2] : Array Value).toList = wE) := qh (by rw [hwE])
  rw [HwE.out]
  clear hwE
  refine hK.out _ _ (hX) (fun hHeld => ?_)
  clear hK K hHeld
  refine region_now (hX) ?_
  try simp only [Act.put, sA, sZ, sS]
  refine region_take 5 7 (v := ?voh05) rfl rfl (by kernel_rfl) (by kernel_rfl) (by kernel_rfl) (fun _ _ _ h => h) (by rfl) (fun w' hS => ?hoh05) ?roh05
  case hoh05 => go_simp; with_reducible rfl
  try simp only [Act.put, sA, sZ, sS]
  refine wpAnyH_done (by kernel_rfl) ?_ _
  go_simp
  try simp only [Act.put, sA, sZ, sS]
  go_wp2_with fail
  refine bodyPost_ret (V11.results_row2 rfl _ _ (tb + 2) _ [.int .i64 (G.getD (0, 0)).1, .int .i64 (G.getD (0, 0)).2] _ rfl hBr Tryz.underlying55 rfl sizeSp) rfl ?_
  exact ⟨by rw [HFr.out]; rfl, hP⟩
 ·have HFp : Hid (F = pieceP (l.fe :: ((lensP h.ps).take k).drop 1) ln) := qh (by rw [HFk.out, if_neg hk0])
  have hk1 : 1 ≤ k := by omega
  have hpc : pn ≤ pc := by omega
  clear hpc0
  have hki : (0 : Int) < (k : Int) := by omega
  have hpc1 : ¬ pc = 1 := by omega
  have hkc : k ≤ pc := by omega
  obtain ⟨w5, hw5⟩ : ∃ z, z = w3.alloc (.cells #[.int .i64 l.fe] 3) := ⟨_, rfl⟩
  have hE5 : Ext (fun i => tb + 3 ≤ i) w3 w5 := hw5 ▸ (ext_alloc w3 _).mono (fun _ _ e => e.elim)
  have hO5 : OwnZ w5 (tb + 3) (some ⟨tb + 3, 0, none⟩) 1 1 [l.fe] := by
   have := OwnZ.new w3 [.int .i64 l.fe] [l.fe] rfl 1 rfl (by unfold maxLen; decide) (tb + 3) (by rw [HS3.out]; exact Nat.le_refl _)
   rw [HS3.out] at this
   rw [hw5]
   exact this
  have HW5 : Hid (w3.alloc (.cells #[.int .i64 l.fe] 3) = w5) := qh hw5.symm
  clear HFk hw4 hw5 hO hs4
  go_enter Tryz.func18, Tryz.ntmps18
  go_wp2_with fail
  rw [HW.out, ← HTb.out, HW5.out]
  have HB1 := qh hB1
  have HBr := qh hBr
  have HP := qh hP
  have HO5 := qh hO5
  have HE5 := qh hE5
  clear hB1 hBr hP hO5 hE5 c2 c2' c1 d4 hl1 hP4 hB2
  go_loopw [8, 36] (fun s i W => ∃ (j : Nat) (a' : Option Addr) (c' : Nat), j + 1 ≤ k ∧ i = .int .i64 j ∧ s = .slice a' (1 + j) c' ∧ Hid (OwnZ W (tb + 3) a' (1 + j) c' (l.fe :: ((lensP h.ps).take (j + 1)).drop 1)) ∧ Hid (Ext (fun i => tb + 3 ≤ i) w3 W)) (fun _ i _ => k - (intOf i).toNat)
  case atStart =>
   refine ⟨0, _, _, by omega, rfl, rfl, qh ?_, HE5⟩
   have : ((lensP h.ps).take (0 + 1)).drop 1 = [] := by rw [List.drop_eq_nil_iff]; simp; omega
   rw [this]
   exact HO5.out
  case round =>
   obtain ⟨j, a', c', hjk, rfl, rfl, HO, HE⟩ := hrel
   have hPw : Pure w wr := HP.out.trans HE.out (fun i hi e => by have h2 := HTb.out; have e' : tb + 3 ≤ i := e; omega)
   have hwr : tb + 3 ≤ wr.heap.size := by have := HS3.out; have := HE.out.size; omega
   by_cases hlt : j + 1 < k
   ·have hji : (j : Int) < ((k - 1 : Nat) : Int) := by omega
    have hjn : j < k - 1 := by omega
    have hjl : j + 1 < h.ps.length := by omega
    obtain ⟨b', o', hbo, hpg⟩ := (HM.out.pure hPw).page (j + 1) hjl
    cases hbo
    rw [show o + (j + 1) * 3 = o + 3 + j * 3 by omega] at hpg
    have hT := HTake.out (j + 1) hjl
    generalize h.ps[j + 1].o = po at *
    generalize h.ps[j + 1].sa = psa at *
    generalize h.ps[j + 1].sh.length = psn at *
    generalize h.ps[j + 1].sc = psc at *
    generalize h.ps[j + 1].l = pl at *
    have HL : Hid ((l.fe :: ((lensP h.ps).take (j + 1)).drop 1) ++ [pl] = l.fe :: ((lensP h.ps).take (j + 1 + 1)).drop 1) := qh (by
     rw [hT, List.drop_append_of_le_length (by rw [List.length_take, lensP_len]; omega)]; rfl)
    obtain ⟨w6, hw6⟩ : ∃ z, z = (wr.alloc (.cells #[.int .i64 po, .int .i64 pl, .slice psa psn psc] 53)).alloc (.cells #[.int .i64 pl] 3) := ⟨_, rfl⟩
    have hP6 : Pure wr w6 := hw6 ▸ (ext_alloc wr _).pure (ext_alloc _ _)
    have HRow : Hid (RowOf w6 (some ⟨wr.heap.size + 1, 0, none⟩) ([pl].map zV)) := qh (hw6 ▸ row_at _ (World.size_alloc _ _) rfl)
    have HO6 := qh (HO.out.pure hP6)
    have HE6 : Hid (Ext (fun i => tb + 3 ≤ i) w3 w6) := qh (HE.out.pure hP6)
    have HW6 := qh hw6
    have HB6 : Hid (tb + 3 ≤ w6.heap.size) := qh (by have := hP6.size; omega)
    have HJ : Hid (1 + j + 1 ≤ 1000000000) := qh (by omega)
    clear hT hw6 hP6 hPw hjl
    go_wp2_with (first
     | (with_reducible refine V11.at_load 53 (.tmp 38) ?_; refine wpList_load_mid rfl 53 (.tmp 38) rfl b (o + 3 + j * 3) rfl [.int .i64 po, .int .i64 pl, .slice psa psn psc] _ hpg Tryz.underlying53 rfl (szPg _ _ _) ?_)
     | (at_builtin; rw [← HW6.out]; refine wpList_append_int rfl (.tmp 40) (.tmp 43) rfl (tb + 3) a' (1 + j) c' _ rfl HO6.out (some ⟨wr.heap.size + 1, 0, none⟩) 1 1 [pl] rfl rfl (fun e => by cases e) HRow.out HJ.out HB6.out ?_; intro a7 c7 w7 hO7 hE7))
    rw [HL.out] at hO7
    have HO7 := qh hO7
    have HE7 : Hid (Ext (fun i => tb + 3 ≤ i) w3 w7) := qh (HE6.out.trans hE7 (fun _ _ e => e))
    clear hO7 hE7 hpg
    go_wp2_with fail
    go_roundw
    case rel => exact ⟨j + 1, a7, c7, by omega, by go_num, rfl, HO7, HE7⟩
    case measure => simp [intOf]; omega
   ·have hji : ¬ (j : Int) < ((k - 1 : Nat) : Int) := by omega
    have hjn : ¬ j < k - 1 := by omega
    obtain rfl : k = j + 1 := by omega
    obtain ⟨L, hL⟩ : ∃ z, z = l.fe :: ((lensP h.ps).take (j + 1)).drop 1 := ⟨_, rfl⟩
    have hLl : L.length = 1 + j := by rw [hL, List.length_cons, List.length_drop, List.length_take, lensP_len]; omega
    rw [← hL] at HO HFp
    have hCp := piece_any L ln a' c' wr HO.out.row (by omega)
    have HIs := qh (piece_is L ln)
    obtain ⟨G, hG⟩ : ∃ z, z = pieceP L ln := ⟨_, rfl⟩
    rw [hLl] at hCp
    rw [← hG] at hCp HIs HFp
    have HCp := qh hCp
    have hB1 := HB1.out.ext HE.out (fun e => by have e' : tb + 3 ≤ tb := e; omega)
    have hBr := HBr.out.ext HE.out (fun e => by have e' : tb + 3 ≤ tb + 2 := e; omega)
    have hP := hPw
    have c2 : wr.cell? ⟨tb, 2, none⟩ = some (.slice (some ⟨b, o, none⟩) pn pc) := hB1.cell 2
    obtain ⟨b', o', hbo, hpg⟩ := (HM.out.pure hPw).page (j + 1) hkn
    cases hbo
    rw [show h.ps[j + 1].l = ln from HLn.out] at hpg
    have hl1 : wr.cell? ⟨b, o + (j + 1) * 3 + 1, none⟩ = some (.int .i64 ln) := hpg 1 _ rfl
    have hjp : (j : Int) + 1 < (pn : Int) := by omega
    have HFr := HFp
    clear hL hLl hCp hG hB1 hpg hPw HFp HTake
    go_wp2_with fail
    refine HCp.out.mono ?_
    rintro e w5 ⟨rfl, hP5⟩
    unfold spanV
    have hBr := hBr.ext hP5 id
    have hP := hP.pure hP5
    clear hP5 HCp c2 hl1
    obtain ⟨w9, hw9⟩ : ∃ z, z = w5.alloc (.cells #[.int .i64 (G.getD (0, 0)).1, .int .i64 (G.getD (0, 0)).2] 55) := ⟨_, rfl⟩
    obtain ⟨bs, hbs⟩ : ∃ z, z = w5.heap.size := ⟨_, rfl⟩
    have hBs : BlockIs w9 bs [.int .i64 (G.getD (0, 0)).1, .int .i64 (G.getD (0, 0)).2] 55 := by rw [hbs, hw9]; exact BlockIs.new _ _ _
    have hPx : Pure w5 w9 := hw9 ▸ ext_alloc w5 _
    have hlb := hBr.lt
    have hbt : tb + 2 < bs := by omega
    have hBr := hBr.ext hPx id
    have hP := hP.pure hPx
    have HW9 : Hid (w5.alloc (.cells #[.int .i64 (G.getD (0, 0)).1, .int .i64 (G.getD (0, 0)).2] 55) = w9) := qh hw9.symm
    have Hbs := qh hbs
    clear hw9 hPx hlb hbs
    go_wp2_with fail
    rw [HW9.out, ← Hbs.out]
    have hBs := hBs.drew
    have hBr := hBr.drew
    have hP := hP.drew
    refine region_start (fun k => k = (tb + 2)) (by kernel_rfl) ?_
    try simp only [Act.put, sA, sZ, sS]
    refine region_take 0 54 (v := ?voh10) rfl rfl (by kernel_rfl) (by kernel_rfl) (by kernel_rfl) (fun _ _ _ h => h) (by rfl) (fun w' hS => ?hoh10) ?roh10
    case hoh10 => (refine exec_loadSp (x := .tmp 11) ?_ ?_ (hBs.ext hS (fun e => by have e' : bs = (tb + 2) := e; omega)) rfl <;> rfl)
    try simp only [Act.put, sA, sZ, sS]
    refine region_take 1 55 (v := ?voh11) rfl rfl (by kernel_rfl) (by kernel_rfl) (by kernel_rfl) (fun _ _ _ h => h) (by rfl) (fun w' hS => ?hoh11) ?roh11
    case hoh11 => (refine exec_loadSp (x := .tmp 11) ?_ ?_ (hBs.ext hS (fun e => by have e' : bs = (tb + 2) := e; omega)) rfl <;> rfl)
    try simp only [Act.put, sA, sZ, sS]
    refine region_take 2 56 (v := ?voh12) rfl rfl (by kernel_rfl) (by kernel_rfl) (by kernel_rfl) (fun _ _ _ h => h) (by rfl) (fun w' hS => ?hoh12) ?roh12
    case hoh12 => go_simp; with_reducible rfl
    try simp only [Act.put, sA, sZ, sS]
    refine region_take 3 57 (v := ?voh13) rfl rfl (by kernel_rfl) (by kernel_rfl) (by kernel_rfl) (fun _ _ _ h => h) (by rfl) (fun w' hS => ?hoh13) ?roh13
    case hoh13 => (go_simp; exact ifsSp (fun b => Result.ok (Next.value (Value.bool b)) w') _ _ _ HIs.out)
    try simp only [Act.put, sA, sZ, sS]
    refine wpAnyH_ready (rs := [4]) (by kernel_rfl) (by simp) (AllReadyH.cons rfl (fun K hK => ?_) AllReadyH.nil)
    refine step_of_list ?_
    have hTh := qh (hBr.there 2 rfl)
    obtain ⟨wE, hwE⟩ : ∃ z, z = w9.drew.setCells (tb + 2) 0 [.int .i64 (G.getD (0, 0)).1, .int .i64 (G.getD (0, 0)).2] := ⟨_, rfl⟩
    have hX : Ext (fun k => k = (tb + 2)) w9.drew wE := hwE ▸ Ext.setCells _ 0 _ (Ext.refl _ _) (fun _ => rfl)
    have hP : Pure w wE := hwE ▸ Ext.setCells _ 0 _ hP (b := (tb + 2)) (fun h => by have h2 := HTb.out; have h3 : (tb + 2) < w.heap.size := h; omega)
    have hBr : BlockIs wE (tb + 2) [.int .i64 (G.getD (0, 0)).1, .int .i64 (G.getD (0, 0)).2] 55 := hwE ▸ hBr.setAll [.int .i64 (G.getD (0, 0)).1, .int .i64 (G.getD (0, 0)).2] rfl
    refine wpList_store_mid rfl 55 (.tmp 6) (.tmp 54) rfl (tb + 2) 0 #[.int .i64 (G.getD (0, 0)).1, .int .i64 (G.getD (0, 0)).2] rfl rfl hTh.out (by exact sizeSp) (one2 _ _) ?_
    have HwE : Hid (w9.drew.setCells (tb + 2) 0 (#[.int .i64 (G.getD (0, 0)).1, .int .i64 (G.getD (0, 0)).2] : Array Value).toList = wE) := qh (by rw [hwE])
    rw [HwE.out]
    clear hwE
    refine hK.out _ _ (hX) (fun hHeld => ?_)
    clear hK K hHeld
    refine region_now (hX) ?_
    try simp only [Act.put, sA, sZ, sS]
    refine region_take 5 7 (v := ?voh15) rfl rfl (by kernel_rfl) (by kernel_rfl) (by kernel_rfl) (fun _ _ _ h => h) (by rfl) (fun w' hS => ?hoh15) ?roh15
    case hoh15 => go_simp; with_reducible rfl
    try simp only [Act.put, sA, sZ, sS]
    refine wpAnyH_done (by kernel_rfl) ?_ _
    go_simp
    try simp only [Act.put, sA, sZ, sS]
    go_wp2_with fail
    refine bodyPost_ret (V11.results_row2 rfl _ _ (tb + 2) _ [.int .i64 (G.getD (0, 0)).1, .int .i64 (G.getD (0, 0)).2] _ rfl hBr Tryz.underlying55 rfl sizeSp) rfl ?_
    exact ⟨by rw [HFr.out]; rfl, hP⟩
