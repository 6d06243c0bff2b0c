import Derived.Test.YtomcdhljjmnahaaGreatHMemPa
import Derived.Test.YtomcdhljjmnahaaGreatSqPa
set_option linter.unusedVariables false
set_option linter.unusedSimpArgs false
set_option maxRecDepth 100000
namespace Go.Proofs.YtomcdhljjmnahaaGreat
open Go.RowKit
set_option maxHeartbeats 4000000 in
theorem group_any (h : HT) (p : Int) (pa la : Option Addr) (pc lc : Nat) (w : World) (H : HMem w h pa pc la lc) :
 Calls Tryz.prog 19 #[.agg (hC h pa pc la lc).toArray, .int .i64 p] w (SpanIs (groupP h p) w) := by
 obtain ⟨F, hF⟩ : ∃ F, F = groupP h p := ⟨_, rfl⟩
 rw [← hF]
 unfold groupP at hF
 have HM := qh H
 have hsn := H.sn
 have hlc := H.lcap
 obtain ⟨sn, hsN⟩ : ∃ z, z = h.sh.length := ⟨_, rfl⟩
 have HsN := qh hsN
 unfold hC
 obtain ⟨sf, hsf⟩ : ∃ z, z = h.sf := ⟨_, rfl⟩
 rw [← hsN, ← hsf] at hF ⊢
 rw [← hsN] at hsn hlc
 obtain ⟨w1, hw1⟩ : ∃ z, z = w.alloc (.cells #[.int .i64 h.fo, .int .i64 h.fa, .slice pa h.ps.length pc, .int .i64 h.so, .int .i64 h.sa, .int .i64 sf, .slice la sn lc] 25) := ⟨_, rfl⟩
 obtain ⟨tb, htb⟩ : ∃ z, z = w.heap.size := ⟨_, rfl⟩
 have hB1 : BlockIs w1 tb [.int .i64 h.fo, .int .i64 h.fa, .slice pa h.ps.length pc, .int .i64 h.so, .int .i64 h.sa, .int .i64 sf, .slice la sn lc] 25 := by rw [htb, hw1]; exact BlockIs.new w _ _
 have hs1 : w1.heap.size = tb + 1 := by rw [hw1, World.size_alloc, htb]
 obtain ⟨w2, hw2⟩ : ∃ z, z = w1.alloc (.cells #[.int .i64 0, .int .i64 0] 55) := ⟨_, rfl⟩
 have hBr : BlockIs w2 (tb + 1) [.int .i64 0, .int .i64 0] 55 := by rw [← hs1, hw2]; exact BlockIs.new w1 _ _
 have hs2 : w2.heap.size = tb + 2 := by rw [hw2, World.size_alloc, hs1]
 have hP1 : Pure w w1 := hw1 ▸ ext_alloc w _
 have hP2 : Pure w1 w2 := hw2 ▸ ext_alloc w1 _
 have hB1 := hB1.ext hP2 id
 have hP := hP1.pure hP2
 have HW : Hid ((w.alloc (.cells #[.int .i64 h.fo, .int .i64 h.fa, .slice pa h.ps.length pc, .int .i64 h.so, .int .i64 h.sa, .int .i64 sf, .slice la sn lc] 25)).alloc (.cells #[.int .i64 0, .int .i64 0] 55) = w2) := qh (by rw [hw2, hw1])
 have HTb := qh htb
 have HSz : Hid (tb + 2 ≤ w2.drew.heap.size) := qh (by show tb + 2 ≤ w2.heap.size; omega)
 have c6 : w2.cell? ⟨tb, 6, none⟩ = some (.slice la sn lc) := hB1.cell 6
 have c5 : w2.cell? ⟨tb, 5, none⟩ = some (.int .i64 sf) := hB1.cell 5
 rw [← HW.out, htb] at c6 c5
 clear hw1 hw2 hs1 hs2 hP1 hP2 htb H hsN hsf
 by_cases hp0 : p < 0
 ·have HFr : Hid (F = none) := qh (by rw [hF, if_neg (by omega)])
  clear hF hB1
  go_enter Tryz.func19, Tryz.ntmps19
  go_wp2_with fail
  rw [HW.out, ← HTb.out]
  refine bodyPost_ret (V11.results_row2 rfl _ _ (tb + 1) _ [.int .i64 0, .int .i64 0] _ rfl hBr Tryz.underlying55 rfl sizeSp) rfl ?_
  exact ⟨by rw [HFr.out]; rfl, hP⟩
 obtain ⟨k, rfl⟩ : ∃ k : Nat, p = (k : Int) := ⟨p.toNat, by omega⟩
 by_cases hk : (sn : Int) ≤ (k : Int)
 ·have HFr : Hid (F = none) := qh (by rw [hF, if_neg (by omega)])
  clear hF hB1
  go_enter Tryz.func19, Tryz.ntmps19
  go_wp2_with fail
  rw [HW.out, ← HTb.out]
  refine bodyPost_ret (V11.results_row2 rfl _ _ (tb + 1) _ [.int .i64 0, .int .i64 0] _ rfl hBr Tryz.underlying55 rfl sizeSp) rfl ?_
  exact ⟨by rw [HFr.out]; rfl, hP⟩
 by_cases hf0 : sf < 0
 ·have HFr : Hid (F = none) := qh (by rw [hF, if_neg (by omega)])
  clear hF hB1
  go_enter Tryz.func19, Tryz.ntmps19
  go_wp2_with fail
  rw [HW.out, ← HTb.out]
  refine bodyPost_ret (V11.results_row2 rfl _ _ (tb + 1) _ [.int .i64 0, .int .i64 0] _ rfl hBr Tryz.underlying55 rfl sizeSp) rfl ?_
  exact ⟨by rw [HFr.out]; rfl, hP⟩
 obtain ⟨f, rfl⟩ : ∃ f : Nat, sf = (f : Int) := ⟨sf.toNat, by omega⟩
 by_cases hfn : (sn : Int) < (f : Int)
 ·have HFr : Hid (F = none) := qh (by rw [hF, if_neg (by omega)])
  clear hF hB1
  go_enter Tryz.func19, Tryz.ntmps19
  go_wp2_with fail
  rw [HW.out, ← HTb.out]
  refine bodyPost_ret (V11.results_row2 rfl _ _ (tb + 1) _ [.int .i64 0, .int .i64 0] _ rfl hBr Tryz.underlying55 rfl sizeSp) rfl ?_
  exact ⟨by rw [HFr.out]; rfl, hP⟩
 have hks : k < h.sh.length := by rw [← HsN.out]; omega
 obtain ⟨b, o, rfl, hx0⟩ := zV_at HM.out.share k hks
 have HLt : Hid (b < tb) := qh (by have := World.block_lt_of_cell? w _ hx0; rw [HTb.out]; exact this)
 have HRw := qh (HM.out.pure hP).share
 obtain ⟨x, hx⟩ : ∃ z, z = h.sh[k] := ⟨_, rfl⟩
 have hxg : h.sh[(k : Int).toNat]?.getD 0 = x := by
  rw [hx, show ((k : Nat) : Int).toNat = k from rfl, List.getElem?_eq_getElem hks]; rfl
 have HX : Hid (∀ W, Pure w W → W.cell? ⟨b, o + k, none⟩ = some (.int .i64 x)) := qh (fun W hP => by rw [hx]; exact hP.cell_some hx0 id)
 have hFk : F = (if f ≤ k then pieceP (h.sa :: (h.sh.take k).drop f) x else pieceP (h.fa :: h.sh.take k) x) := by
  rw [hF, if_pos (by omega), hxg]
  by_cases hc : f ≤ k
  ·rw [if_pos (by omega), if_pos hc]; rfl
  ·rw [if_neg (by omega), if_neg hc]; rfl
 have hki : (k : Int) < (sn : Int) := by omega
 have hfi : (f : Int) ≤ (sn : Int) := by omega
 have hkl : k < sn := by omega
 have hfl : f ≤ sn := by omega
 clear hF hx0 hx hxg hk hfn
 by_cases hfk : f ≤ k
 ·have hfki : (f : Int) ≤ (k : Int) := by omega
  have HFk : Hid (F = pieceP (h.sa :: (h.sh.take k).drop f) x) := qh (by rw [hFk, if_pos hfk])
  clear hFk
  have hmin : min (k : Int) (f : Int) = (f : Int) := by omega
  have HLen : Hid (f = (h.sh.take f).length) := qh (by have := HsN.out; rw [List.length_take]; omega)
  have HJ : Hid (1 + f ≤ 1000000000) := qh (by omega)
  have HRow : Hid (RowOf w2 (some ⟨b, o, none⟩) ((h.sh.take f).map zV)) := qh (by rw [List.map_take]; exact row_take HRw.out f)
  have hml : f ≤ lc := by omega
  have HEw : Hid (Ext (fun i => tb + 2 ≤ i) w2 w2.drew) := qh (Ext.refl _ w2).drew
  go_enter Tryz.func19, Tryz.ntmps19
  go_wp2_with fail
  rw [HW.out, ← HTb.out]
  have e1 : w2.drew.cell? ⟨tb, 1, none⟩ = some (.int .i64 h.fa) := hB1.cell 1
  have e6 : w2.drew.cell? ⟨tb, 6, none⟩ = some (.slice (some ⟨b, o, none⟩) sn lc) := hB1.cell 6
  have e5 : w2.drew.cell? ⟨tb, 5, none⟩ = some (.int .i64 (f : Int)) := hB1.cell 5
  refine region_start (fun i => tb + 2 ≤ i) (by kernel_rfl) ?_
  try simp only [Act.put, sA, sZ, sS]
  refine region_take 0 31 (v := ?vga0) rfl rfl (by kernel_rfl) (by kernel_rfl) (by kernel_rfl) (fun _ _ _ h => h) (by rfl) (fun w' hS => ?hga0) ?rga0
  case hga0 => go_simp; with_reducible rfl
  try simp only [Act.put, sA, sZ, sS]
  refine region_take 1 32 (v := ?vga1) rfl rfl (by kernel_rfl) (by kernel_rfl) (by kernel_rfl) (fun _ _ _ h => h) (by rfl) (fun w' hS => ?hga1) ?rga1
  case hga1 => (have e := hS.cell_some e1 (fun e => by have e' : tb + 2 ≤ tb := e; omega); go_simp; with_reducible rfl)
  try simp only [Act.put, sA, sZ, sS]
  refine region_take 3 34 (v := ?vga3) rfl rfl (by kernel_rfl) (by kernel_rfl) (by kernel_rfl) (fun _ _ _ h => h) (by rfl) (fun w' hS => ?hga3) ?rga3
  case hga3 => go_simp; with_reducible rfl
  try simp only [Act.put, sA, sZ, sS]
  refine region_take 4 35 (v := ?vga4) rfl rfl (by kernel_rfl) (by kernel_rfl) (by kernel_rfl) (fun _ _ _ h => h) (by rfl) (fun w' hS => ?hga4) ?rga4
  case hga4 => (have e := hS.cell_some e6 (fun e => by have e' : tb + 2 ≤ tb := e; omega); go_simp; with_reducible rfl)
  try simp only [Act.put, sA, sZ, sS]
  refine region_take 5 36 (v := ?vga5) rfl rfl (by kernel_rfl) (by kernel_rfl) (by kernel_rfl) (fun _ _ _ h => h) (by rfl) (fun w' hS => ?hga5) ?rga5
  case hga5 => go_simp; with_reducible rfl
  try simp only [Act.put, sA, sZ, sS]
  refine region_take 6 37 (v := ?vga6) rfl rfl (by kernel_rfl) (by kernel_rfl) (by kernel_rfl) (fun _ _ _ h => h) (by rfl) (fun w' hS => ?hga6) ?rga6
  case hga6 => go_simp; with_reducible rfl
  try simp only [Act.put, sA, sZ, sS]
  refine region_take 7 38 (v := ?vga7) rfl rfl (by kernel_rfl) (by kernel_rfl) (by kernel_rfl) (fun _ _ _ h => h) (by rfl) (fun w' hS => ?hga7) ?rga7
  case hga7 => (have e := hS.cell_some e5 (fun e => by have e' : tb + 2 ≤ tb := e; omega); go_simp; with_reducible rfl)
  try simp only [Act.put, sA, sZ, sS]
  refine region_take 8 39 (v := ?vga8) rfl rfl (by kernel_rfl) (by kernel_rfl) (by kernel_rfl) (fun _ _ _ h => h) (by rfl) (fun w' hS => ?hga8) ?rga8
  case hga8 => (go_simp; with_reducible rfl)
  try simp only [Act.put, sA, sZ, sS]
  refine region_take 9 40 (v := ?vga9) rfl rfl (by kernel_rfl) (by kernel_rfl) (by kernel_rfl) (fun _ _ _ h => h) (by rfl) (fun w' hS => ?hga9) ?rga9
  case hga9 => go_simp; with_reducible rfl
  try simp only [Act.put, sA, sZ, sS]
  refine wpAnyH_ready (rs := [2]) (by kernel_rfl) (by simp) (AllReadyH.cons rfl (fun K hK => ?_) AllReadyH.nil)
  go_simp
  obtain ⟨wa, hwa⟩ : ∃ z, z = (w2.alloc (.cells #[.int .i64 (h.fa)] 3)).drew := ⟨_, rfl⟩
  obtain ⟨sb, hsb⟩ : ∃ z, z = w2.heap.size := ⟨_, rfl⟩
  have HOa : Hid (OwnZ wa (tb + 2) (some ⟨sb, 0, none⟩) 1 1 [h.fa]) := qh (by rw [hsb, hwa]; exact OwnZ.new w2 [.int .i64 (h.fa)] [h.fa] rfl 1 rfl (by unfold maxLen; decide) (tb + 2) HSz.out)
  have hXa : Ext (fun i => tb + 2 ≤ i) w2.drew wa := by rw [hwa]; exact (ext_alloc w2.drew _).mono (fun _ _ e => e.elim)
  have HSa : Hid (tb + 2 ≤ wa.heap.size) := qh (by have h1 := HSz.out; have h2 := hXa.size; omega)
  have HEa : Hid (Ext (fun i => tb + 2 ≤ i) w2 wa) := qh (HEw.out.trans hXa (fun _ _ e => e))
  have HRa : Hid (RowOf wa (some ⟨b, o, none⟩) ((h.sh.take f).map zV)) := qh (HRow.out.ext HEa.out (fun g hg e => by cases hg; have h1 := HLt.out; have e' : tb + 2 ≤ b := e; omega))
  rw [← hwa, ← hsb]
  refine hK.out _ _ (hXa) (fun hHeld => ?_)
  clear hK K hHeld
  refine region_now (hXa) ?_
  try simp only [Act.put, sA, sZ, sS]
  refine wpAnyH_ready (rs := [10]) (by kernel_rfl) (by simp) (AllReadyH.cons rfl (fun K hK => ?_) AllReadyH.nil)
  refine step_of_list ?_
  refine wpList_append_int rfl (.tmp 33) (.tmp 40) rfl (tb + 2) (some ⟨sb, 0, none⟩) 1 1 [h.fa] rfl HOa.out (some ⟨b, o, none⟩) f lc (h.sh.take f) rfl HLen.out (fun e => by cases e) HRa.out HJ.out HSa.out ?_
  intro a7 c7 w7 hO7 hE7
  refine hK.out _ _ (hE7) (fun hHeld => ?_)
  clear hK K hHeld
  refine region_now (hE7) ?_
  try simp only [Act.put, sA, sZ, sS]
  refine region_take 11 6 (v := ?vga11) rfl rfl (by kernel_rfl) (by kernel_rfl) (by kernel_rfl) (fun _ _ _ h => h) (by rfl) (fun w' hS => ?hga11) ?rga11
  case hga11 => go_simp; with_reducible rfl
  try simp only [Act.put, sA, sZ, sS]
  refine wpAnyH_done (by kernel_rfl) ?_ _
  go_simp
  try simp only [Act.put, sA, sZ, sS]
  have hE2 : Ext (fun i => tb + 2 ≤ i) w2 w7 := HEa.out.trans hE7 (fun _ _ e => e)
  have hB1 := hB1.ext hE2 (fun e => by have e' : tb + 2 ≤ tb := e; omega)
  have hBr := hBr.ext hE2 (fun e => by have e' : tb + 2 ≤ tb + 1 := e; omega)
  have hP : Pure w w7 := hP.trans hE2 (fun i hi e => by have h2 := HTb.out; have e' : tb + 2 ≤ i := e; omega)
  have hz7 : tb + 2 ≤ w7.heap.size := by have h1 := HSa.out; have h2 := hE7.size; omega
  have e6 : w7.cell? ⟨tb, 6, none⟩ = some (.slice (some ⟨b, o, none⟩) sn lc) := hB1.cell 6
  have e5 : w7.cell? ⟨tb, 5, none⟩ = some (.int .i64 (f : Int)) := hB1.cell 5
  have r1 : w7.cell? ⟨b, o + k, none⟩ = some (.int .i64 x) := HX.out w7 hP
  clear hwa hXa e1 HOa HRa HEw hE7 HRow HLen HJ
  have hkk : k ≤ lc := by omega
  have hfc : ¬ f = lc := by omega
  obtain ⟨w8, hw8⟩ : ∃ z, z = w7 := ⟨_, rfl⟩
  rw [← hw8] at hE2 hB1 hBr hP hz7 e6 e5 r1 ⊢
  clear hw8 hO7 HEa HSa HSz
  have HSz : Hid (tb + 2 ≤ w8.drew.heap.size) := qh hz7
  have HEw : Hid (Ext (fun i => tb + 2 ≤ i) w2 w8.drew) := qh hE2.drew
  have HLen : Hid (k - f = ((h.sh.take k).drop f).length) := qh (by have := HsN.out; rw [List.length_drop, List.length_take]; omega)
  have HJ : Hid (1 + (k - f) ≤ 1000000000) := qh (by omega)
  have HRow : Hid (RowOf w2 (some ⟨b, o + f, none⟩) (((h.sh.take k).drop f).map zV)) := qh (by
   rw [List.map_drop, List.map_take]
   have := row_drop (row_take HRw.out k) f
   rwa [Option.map_some, addr_add] at this)
  go_wp2_with fail
  have e4 : w8.drew.cell? ⟨tb, 4, none⟩ = some (.int .i64 h.sa) := hB1.cell 4
  have e6 : w8.drew.cell? ⟨tb, 6, none⟩ = some (.slice (some ⟨b, o, none⟩) sn lc) := e6
  have e5 : w8.drew.cell? ⟨tb, 5, none⟩ = some (.int .i64 (f : Int)) := e5
  refine region_start (fun i => tb + 2 ≤ i) (by kernel_rfl) ?_
  try simp only [Act.put, sA, sZ, sS]
  refine region_take 0 46 (v := ?vgc0) rfl rfl (by kernel_rfl) (by kernel_rfl) (by kernel_rfl) (fun _ _ _ h => h) (by rfl) (fun w' hS => ?hgc0) ?rgc0
  case hgc0 => go_simp; with_reducible rfl
  try simp only [Act.put, sA, sZ, sS]
  refine region_take 1 47 (v := ?vgc1) rfl rfl (by kernel_rfl) (by kernel_rfl) (by kernel_rfl) (fun _ _ _ h => h) (by rfl) (fun w' hS => ?hgc1) ?rgc1
  case hgc1 => (have e := hS.cell_some e4 (fun e => by have e' : tb + 2 ≤ tb := e; omega); go_simp; with_reducible rfl)
  try simp only [Act.put, sA, sZ, sS]
  refine region_take 3 49 (v := ?vgc3) rfl rfl (by kernel_rfl) (by kernel_rfl) (by kernel_rfl) (fun _ _ _ h => h) (by rfl) (fun w' hS => ?hgc3) ?rgc3
  case hgc3 => go_simp; with_reducible rfl
  try simp only [Act.put, sA, sZ, sS]
  refine region_take 4 50 (v := ?vgc4) rfl rfl (by kernel_rfl) (by kernel_rfl) (by kernel_rfl) (fun _ _ _ h => h) (by rfl) (fun w' hS => ?hgc4) ?rgc4
  case hgc4 => (have e := hS.cell_some e6 (fun e => by have e' : tb + 2 ≤ tb := e; omega); go_simp; with_reducible rfl)
  try simp only [Act.put, sA, sZ, sS]
  refine region_take 5 51 (v := ?vgc5) rfl rfl (by kernel_rfl) (by kernel_rfl) (by kernel_rfl) (fun _ _ _ h => h) (by rfl) (fun w' hS => ?hgc5) ?rgc5
  case hgc5 => go_simp; with_reducible rfl
  try simp only [Act.put, sA, sZ, sS]
  refine region_take 6 52 (v := ?vgc6) rfl rfl (by kernel_rfl) (by kernel_rfl) (by kernel_rfl) (fun _ _ _ h => h) (by rfl) (fun w' hS => ?hgc6) ?rgc6
  case hgc6 => (have e := hS.cell_some e5 (fun e => by have e' : tb + 2 ≤ tb := e; omega); go_simp; with_reducible rfl)
  try simp only [Act.put, sA, sZ, sS]
  refine region_take 7 53 (v := ?vgc7) rfl rfl (by kernel_rfl) (by kernel_rfl) (by kernel_rfl) (fun _ _ _ h => h) (by rfl) (fun w' hS => ?hgc7) ?rgc7
  case hgc7 => go_simp; with_reducible rfl
  try simp only [Act.put, sA, sZ, sS]
  refine region_take 8 54 (v := ?vgc8) rfl rfl (by kernel_rfl) (by kernel_rfl) (by kernel_rfl) (fun _ _ _ h => h) (by rfl) (fun w' hS => ?hgc8) ?rgc8
  case hgc8 => (have q2 : ¬ lc = f := fun e => hfc e.symm; go_simp; with_reducible rfl)
  try simp only [Act.put, sA, sZ, sS]
  refine wpAnyH_ready (rs := [2]) (by kernel_rfl) (by simp) (AllReadyH.cons rfl (fun K hK => ?_) AllReadyH.nil)
  go_simp
  obtain ⟨wa, hwa⟩ : ∃ z, z = (w8.alloc (.cells #[.int .i64 (h.sa)] 3)).drew := ⟨_, rfl⟩
  obtain ⟨sb, hsb⟩ : ∃ z, z = w8.heap.size := ⟨_, rfl⟩
  have HOa : Hid (OwnZ wa (tb + 2) (some ⟨sb, 0, none⟩) 1 1 [h.sa]) := qh (by rw [hsb, hwa]; exact OwnZ.new w8 [.int .i64 (h.sa)] [h.sa] rfl 1 rfl (by unfold maxLen; decide) (tb + 2) HSz.out)
  have hXa : Ext (fun i => tb + 2 ≤ i) w8.drew wa := by rw [hwa]; exact (ext_alloc w8.drew _).mono (fun _ _ e => e.elim)
  have HSa : Hid (tb + 2 ≤ wa.heap.size) := qh (by have h1 := HSz.out; have h2 := hXa.size; omega)
  have HEa : Hid (Ext (fun i => tb + 2 ≤ i) w2 wa) := qh (HEw.out.trans hXa (fun _ _ e => e))
  have HRa : Hid (RowOf wa (some ⟨b, o + f, none⟩) (((h.sh.take k).drop f).map zV)) := qh (HRow.out.ext HEa.out (fun g hg e => by cases hg; have h1 := HLt.out; have e' : tb + 2 ≤ b := e; omega))
  rw [← hwa, ← hsb]
  refine hK.out _ _ (hXa) (fun hHeld => ?_)
  clear hK K hHeld
  refine region_now (hXa) ?_
  try simp only [Act.put, sA, sZ, sS]
  refine wpAnyH_ready (rs := [9]) (by kernel_rfl) (by simp) (AllReadyH.cons rfl (fun K hK => ?_) AllReadyH.nil)
  refine step_of_list ?_
  refine wpList_append_int rfl (.tmp 48) (.tmp 54) rfl (tb + 2) (some ⟨sb, 0, none⟩) 1 1 [h.sa] rfl HOa.out (some ⟨b, o + f, none⟩) (k - f) (lc - f) ((h.sh.take k).drop f) rfl HLen.out (fun e => by cases e) HRa.out HJ.out HSa.out ?_
  intro a7 c7 w7 hO7 hE7
  refine hK.out _ _ (hE7) (fun hHeld => ?_)
  clear hK K hHeld
  refine region_now (hE7) ?_
  try simp only [Act.put, sA, sZ, sS]
  refine region_take 10 6 (v := ?vgc10) rfl rfl (by kernel_rfl) (by kernel_rfl) (by kernel_rfl) (fun _ _ _ h => h) (by rfl) (fun w' hS => ?hgc10) ?rgc10
  case hgc10 => go_simp; with_reducible rfl
  try simp only [Act.put, sA, sZ, sS]
  refine wpAnyH_done (by kernel_rfl) ?_ _
  go_simp
  try simp only [Act.put, sA, sZ, sS]
  have hE2 : Ext (fun i => tb + 2 ≤ i) w2 w7 := HEa.out.trans hE7 (fun _ _ e => e)
  have hE8 : Ext (fun i => tb + 2 ≤ i) w8 w7 := ((Ext.refl _ w8).drew.trans hXa (fun _ _ e => e)).trans hE7 (fun _ _ e => e)
  have hB1 := hB1.ext hE8 (fun e => by have e' : tb + 2 ≤ tb := e; omega)
  have hBr := hBr.ext hE8 (fun e => by have e' : tb + 2 ≤ tb + 1 := e; omega)
  have hP : Pure w w7 := hP.trans hE8 (fun i hi e => by have h2 := HTb.out; have e' : tb + 2 ≤ i := e; omega)
  have e6 : w7.cell? ⟨tb, 6, none⟩ = some (.slice (some ⟨b, o, none⟩) sn lc) := hB1.cell 6
  have e5 : w7.cell? ⟨tb, 5, none⟩ = some (.int .i64 (f : Int)) := hB1.cell 5
  have r1 : w7.cell? ⟨b, o + k, none⟩ = some (.int .i64 x) := HX.out w7 hP
  clear hwa hXa e4 HOa HRa HEw hE7 HRow HLen HJ hE8 hE2
  obtain ⟨L, hL⟩ : ∃ z, z = h.sa :: (h.sh.take k).drop f := ⟨_, rfl⟩
  have hLl : L.length = 1 + (k - f) := by have := HsN.out; rw [hL]; simp; omega
  have hLr : RowOf w7 a7 (L.map zV) := by rw [hL]; exact hO7.row
  have hCp := piece_any L x a7 c7 w7 hLr (by omega)
  have HIs := qh (piece_is L x)
  obtain ⟨G, hG⟩ : ∃ z, z = pieceP L x := ⟨_, rfl⟩
  rw [hLl] at hCp
  have HFr : Hid (F = G) := qh (by rw [HFk.out, hG, hL])
  rw [← hG] at hCp HIs
  have HCp := qh hCp
  clear hL hLl hLr hCp hG hO7
  go_wp2_with fail
  refine HCp.out.mono ?_
  rintro e w5 ⟨rfl, hP5⟩
  unfold spanV
  have hBr := hBr.ext hP5 id
  have hP := hP.pure hP5
  clear hP5 HCp e6 e5 r1
  obtain ⟨w9, hw9⟩ : ∃ z, z = w5.alloc (.cells #[.int .i64 (G.getD (0, 0)).1, .int .i64 (G.getD (0, 0)).2] 55) := ⟨_, rfl⟩
  obtain ⟨bs, hbs⟩ : ∃ z, z = w5.heap.size := ⟨_, rfl⟩
  have hBs : BlockIs w9 bs [.int .i64 (G.getD (0, 0)).1, .int .i64 (G.getD (0, 0)).2] 55 := by rw [hbs, hw9]; exact BlockIs.new _ _ _
  have hPx : Pure w5 w9 := hw9 ▸ ext_alloc w5 _
  have hlb := hBr.lt
  have hbt : tb + 1 < bs := by omega
  have hBr := hBr.ext hPx id
  have hP := hP.pure hPx
  have HW9 : Hid (w5.alloc (.cells #[.int .i64 (G.getD (0, 0)).1, .int .i64 (G.getD (0, 0)).2] 55) = w9) := qh hw9.symm
  have Hbs := qh hbs
  clear hw9 hPx hlb hbs
  go_wp2_with fail
  rw [HW9.out, ← Hbs.out]
  have hBs := hBs.drew
  have hBr := hBr.drew
  have hP := hP.drew
  refine region_start (fun k => k = (tb + 1)) (by kernel_rfl) ?_
  try simp only [Act.put, sA, sZ, sS]
  refine region_take 0 63 (v := ?vgd0) rfl rfl (by kernel_rfl) (by kernel_rfl) (by kernel_rfl) (fun _ _ _ h => h) (by rfl) (fun w' hS => ?hgd0) ?rgd0
  case hgd0 => (refine exec_loadSp (x := .tmp 7) ?_ ?_ (hBs.ext hS (fun e => by have e' : bs = (tb + 1) := e; omega)) rfl <;> rfl)
  try simp only [Act.put, sA, sZ, sS]
  refine region_take 1 64 (v := ?vgd1) rfl rfl (by kernel_rfl) (by kernel_rfl) (by kernel_rfl) (fun _ _ _ h => h) (by rfl) (fun w' hS => ?hgd1) ?rgd1
  case hgd1 => (refine exec_loadSp (x := .tmp 7) ?_ ?_ (hBs.ext hS (fun e => by have e' : bs = (tb + 1) := e; omega)) rfl <;> rfl)
  try simp only [Act.put, sA, sZ, sS]
  refine region_take 2 65 (v := ?vgd2) rfl rfl (by kernel_rfl) (by kernel_rfl) (by kernel_rfl) (fun _ _ _ h => h) (by rfl) (fun w' hS => ?hgd2) ?rgd2
  case hgd2 => go_simp; with_reducible rfl
  try simp only [Act.put, sA, sZ, sS]
  refine region_take 3 66 (v := ?vgd3) rfl rfl (by kernel_rfl) (by kernel_rfl) (by kernel_rfl) (fun _ _ _ h => h) (by rfl) (fun w' hS => ?hgd3) ?rgd3
  case hgd3 => (go_simp; exact ifsSp (fun b => Result.ok (Next.value (Value.bool b)) w') _ _ _ HIs.out)
  try simp only [Act.put, sA, sZ, sS]
  refine wpAnyH_ready (rs := [4]) (by kernel_rfl) (by simp) (AllReadyH.cons rfl (fun K hK => ?_) AllReadyH.nil)
  refine step_of_list ?_
  have hTh := qh (hBr.there 2 rfl)
  obtain ⟨wE, hwE⟩ : ∃ z, z = w9.drew.setCells (tb + 1) 0 [.int .i64 (G.getD (0, 0)).1, .int .i64 (G.getD (0, 0)).2] := ⟨_, rfl⟩
  have hX : Ext (fun k => k = (tb + 1)) w9.drew wE := hwE ▸ Ext.setCells _ 0 _ (Ext.refl _ _) (fun _ => rfl)
  have hP : Pure w wE := hwE ▸ Ext.setCells _ 0 _ hP (b := (tb + 1)) (fun h => by have h2 := HTb.out; have h3 : (tb + 1) < w.heap.size := h; omega)
  have hBr : BlockIs wE (tb + 1) [.int .i64 (G.getD (0, 0)).1, .int .i64 (G.getD (0, 0)).2] 55 := hwE ▸ hBr.setAll [.int .i64 (G.getD (0, 0)).1, .int .i64 (G.getD (0, 0)).2] rfl
  refine wpList_store_mid rfl 55 (.tmp 4) (.tmp 63) rfl (tb + 1) 0 #[.int .i64 (G.getD (0, 0)).1, .int .i64 (G.getD (0, 0)).2] rfl rfl hTh.out (by exact sizeSp) (one2 _ _) ?_
  have HwE : Hid (w9.drew.setCells (tb + 1) 0 (#[.int .i64 (G.getD (0, 0)).1, .int .i64 (G.getD (0, 0)).2] : Array Value).toList = wE) := qh (by rw [hwE])
  rw [HwE.out]
  clear hwE
  refine hK.out _ _ (hX) (fun hHeld => ?_)
  clear hK K hHeld
  refine region_now (hX) ?_
  try simp only [Act.put, sA, sZ, sS]
  refine region_take 5 5 (v := ?vgd5) rfl rfl (by kernel_rfl) (by kernel_rfl) (by kernel_rfl) (fun _ _ _ h => h) (by rfl) (fun w' hS => ?hgd5) ?rgd5
  case hgd5 => go_simp; with_reducible rfl
  try simp only [Act.put, sA, sZ, sS]
  refine wpAnyH_done (by kernel_rfl) ?_ _
  go_simp
  try simp only [Act.put, sA, sZ, sS]
  go_wp2_with fail
  refine bodyPost_ret (V11.results_row2 rfl _ _ (tb + 1) _ [.int .i64 (G.getD (0, 0)).1, .int .i64 (G.getD (0, 0)).2] _ rfl hBr Tryz.underlying55 rfl sizeSp) rfl ?_
  exact ⟨by rw [HFr.out]; rfl, hP⟩
 ·have hfki : ¬ (f : Int) ≤ (k : Int) := by omega
  have HFk : Hid (F = pieceP (h.fa :: h.sh.take k) x) := qh (by rw [hFk, if_neg hfk])
  clear hFk
  have hmin : min (k : Int) (f : Int) = (k : Int) := by omega
  have HLen : Hid (k = (h.sh.take k).length) := qh (by have := HsN.out; rw [List.length_take]; omega)
  have HJ : Hid (1 + k ≤ 1000000000) := qh (by omega)
  have HRow : Hid (RowOf w2 (some ⟨b, o, none⟩) ((h.sh.take k).map zV)) := qh (by rw [List.map_take]; exact row_take HRw.out k)
  have hml : k ≤ lc := by omega
  have HEw : Hid (Ext (fun i => tb + 2 ≤ i) w2 w2.drew) := qh (Ext.refl _ w2).drew
  go_enter Tryz.func19, Tryz.ntmps19
  go_wp2_with fail
  rw [HW.out, ← HTb.out]
  have e1 : w2.drew.cell? ⟨tb, 1, none⟩ = some (.int .i64 h.fa) := hB1.cell 1
  have e6 : w2.drew.cell? ⟨tb, 6, none⟩ = some (.slice (some ⟨b, o, none⟩) sn lc) := hB1.cell 6
  have e5 : w2.drew.cell? ⟨tb, 5, none⟩ = some (.int .i64 (f : Int)) := hB1.cell 5
  refine region_start (fun i => tb + 2 ≤ i) (by kernel_rfl) ?_
  try simp only [Act.put, sA, sZ, sS]
  refine region_take 0 31 (v := ?vgb0) rfl rfl (by kernel_rfl) (by kernel_rfl) (by kernel_rfl) (fun _ _ _ h => h) (by rfl) (fun w' hS => ?hgb0) ?rgb0
  case hgb0 => go_simp; with_reducible rfl
  try simp only [Act.put, sA, sZ, sS]
  refine region_take 1 32 (v := ?vgb1) rfl rfl (by kernel_rfl) (by kernel_rfl) (by kernel_rfl) (fun _ _ _ h => h) (by rfl) (fun w' hS => ?hgb1) ?rgb1
  case hgb1 => (have e := hS.cell_some e1 (fun e => by have e' : tb + 2 ≤ tb := e; omega); go_simp; with_reducible rfl)
  try simp only [Act.put, sA, sZ, sS]
  refine region_take 3 34 (v := ?vgb3) rfl rfl (by kernel_rfl) (by kernel_rfl) (by kernel_rfl) (fun _ _ _ h => h) (by rfl) (fun w' hS => ?hgb3) ?rgb3
  case hgb3 => go_simp; with_reducible rfl
  try simp only [Act.put, sA, sZ, sS]
  refine region_take 4 35 (v := ?vgb4) rfl rfl (by kernel_rfl) (by kernel_rfl) (by kernel_rfl) (fun _ _ _ h => h) (by rfl) (fun w' hS => ?hgb4) ?rgb4
  case hgb4 => (have e := hS.cell_some e6 (fun e => by have e' : tb + 2 ≤ tb := e; omega); go_simp; with_reducible rfl)
  try simp only [Act.put, sA, sZ, sS]
  refine region_take 5 36 (v := ?vgb5) rfl rfl (by kernel_rfl) (by kernel_rfl) (by kernel_rfl) (fun _ _ _ h => h) (by rfl) (fun w' hS => ?hgb5) ?rgb5
  case hgb5 => go_simp; with_reducible rfl
  try simp only [Act.put, sA, sZ, sS]
  refine region_take 6 37 (v := ?vgb6) rfl rfl (by kernel_rfl) (by kernel_rfl) (by kernel_rfl) (fun _ _ _ h => h) (by rfl) (fun w' hS => ?hgb6) ?rgb6
  case hgb6 => go_simp; with_reducible rfl
  try simp only [Act.put, sA, sZ, sS]
  refine region_take 7 38 (v := ?vgb7) rfl rfl (by kernel_rfl) (by kernel_rfl) (by kernel_rfl) (fun _ _ _ h => h) (by rfl) (fun w' hS => ?hgb7) ?rgb7
  case hgb7 => (have e := hS.cell_some e5 (fun e => by have e' : tb + 2 ≤ tb := e; omega); go_simp; with_reducible rfl)
  try simp only [Act.put, sA, sZ, sS]
  refine region_take 8 39 (v := ?vgb8) rfl rfl (by kernel_rfl) (by kernel_rfl) (by kernel_rfl) (fun _ _ _ h => h) (by rfl) (fun w' hS => ?hgb8) ?rgb8
  case hgb8 => (go_simp; with_reducible rfl)
  try simp only [Act.put, sA, sZ, sS]
  refine region_take 9 40 (v := ?vgb9) rfl rfl (by kernel_rfl) (by kernel_rfl) (by kernel_rfl) (fun _ _ _ h => h) (by rfl) (fun w' hS => ?hgb9) ?rgb9
  case hgb9 => go_simp; with_reducible rfl
  try simp only [Act.put, sA, sZ, sS]
  refine wpAnyH_ready (rs := [2]) (by kernel_rfl) (by simp) (AllReadyH.cons rfl (fun K hK => ?_) AllReadyH.nil)
  go_simp
  obtain ⟨wa, hwa⟩ : ∃ z, z = (w2.alloc (.cells #[.int .i64 (h.fa)] 3)).drew := ⟨_, rfl⟩
  obtain ⟨sb, hsb⟩ : ∃ z, z = w2.heap.size := ⟨_, rfl⟩
  have HOa : Hid (OwnZ wa (tb + 2) (some ⟨sb, 0, none⟩) 1 1 [h.fa]) := qh (by rw [hsb, hwa]; exact OwnZ.new w2 [.int .i64 (h.fa)] [h.fa] rfl 1 rfl (by unfold maxLen; decide) (tb + 2) HSz.out)
  have hXa : Ext (fun i => tb + 2 ≤ i) w2.drew wa := by rw [hwa]; exact (ext_alloc w2.drew _).mono (fun _ _ e => e.elim)
  have HSa : Hid (tb + 2 ≤ wa.heap.size) := qh (by have h1 := HSz.out; have h2 := hXa.size; omega)
  have HEa : Hid (Ext (fun i => tb + 2 ≤ i) w2 wa) := qh (HEw.out.trans hXa (fun _ _ e => e))
  have HRa : Hid (RowOf wa (some ⟨b, o, none⟩) ((h.sh.take k).map zV)) := qh (HRow.out.ext HEa.out (fun g hg e => by cases hg; have h1 := HLt.out; have e' : tb + 2 ≤ b := e; omega))
  rw [← hwa, ← hsb]
  refine hK.out _ _ (hXa) (fun hHeld => ?_)
  clear hK K hHeld
  refine region_now (hXa) ?_
  try simp only [Act.put, sA, sZ, sS]
  refine wpAnyH_ready (rs := [10]) (by kernel_rfl) (by simp) (AllReadyH.cons rfl (fun K hK => ?_) AllReadyH.nil)
  refine step_of_list ?_
  refine wpList_append_int rfl (.tmp 33) (.tmp 40) rfl (tb + 2) (some ⟨sb, 0, none⟩) 1 1 [h.fa] rfl HOa.out (some ⟨b, o, none⟩) k lc (h.sh.take k) rfl HLen.out (fun e => by cases e) HRa.out HJ.out HSa.out ?_
  intro a7 c7 w7 hO7 hE7
  refine hK.out _ _ (hE7) (fun hHeld => ?_)
  clear hK K hHeld
  refine region_now (hE7) ?_
  try simp only [Act.put, sA, sZ, sS]
  refine region_take 11 6 (v := ?vgb11) rfl rfl (by kernel_rfl) (by kernel_rfl) (by kernel_rfl) (fun _ _ _ h => h) (by rfl) (fun w' hS => ?hgb11) ?rgb11
  case hgb11 => go_simp; with_reducible rfl
  try simp only [Act.put, sA, sZ, sS]
  refine wpAnyH_done (by kernel_rfl) ?_ _
  go_simp
  try simp only [Act.put, sA, sZ, sS]
  have hE2 : Ext (fun i => tb + 2 ≤ i) w2 w7 := HEa.out.trans hE7 (fun _ _ e => e)
  have hB1 := hB1.ext hE2 (fun e => by have e' : tb + 2 ≤ tb := e; omega)
  have hBr := hBr.ext hE2 (fun e => by have e' : tb + 2 ≤ tb + 1 := e; omega)
  have hP : Pure w w7 := hP.trans hE2 (fun i hi e => by have h2 := HTb.out; have e' : tb + 2 ≤ i := e; omega)
  have hz7 : tb + 2 ≤ w7.heap.size := by have h1 := HSa.out; have h2 := hE7.size; omega
  have e6 : w7.cell? ⟨tb, 6, none⟩ = some (.slice (some ⟨b, o, none⟩) sn lc) := hB1.cell 6
  have e5 : w7.cell? ⟨tb, 5, none⟩ = some (.int .i64 (f : Int)) := hB1.cell 5
  have r1 : w7.cell? ⟨b, o + k, none⟩ = some (.int .i64 x) := HX.out w7 hP
  clear hwa hXa e1 HOa HRa HEw hE7 HRow HLen HJ
  obtain ⟨L, hL⟩ : ∃ z, z = h.fa :: h.sh.take k := ⟨_, rfl⟩
  have hLl : L.length = 1 + k := by have := HsN.out; rw [hL]; simp; omega
  have hLr : RowOf w7 a7 (L.map zV) := by rw [hL]; exact hO7.row
  have hCp := piece_any L x a7 c7 w7 hLr (by omega)
  have HIs := qh (piece_is L x)
  obtain ⟨G, hG⟩ : ∃ z, z = pieceP L x := ⟨_, rfl⟩
  rw [hLl] at hCp
  have HFr : Hid (F = G) := qh (by rw [HFk.out, hG, hL])
  rw [← hG] at hCp HIs
  have HCp := qh hCp
  clear hL hLl hLr hCp hG hO7
  go_wp2_with fail
  refine HCp.out.mono ?_
  rintro e w5 ⟨rfl, hP5⟩
  unfold spanV
  have hBr := hBr.ext hP5 id
  have hP := hP.pure hP5
  clear hP5 HCp e6 e5 r1
  obtain ⟨w9, hw9⟩ : ∃ z, z = w5.alloc (.cells #[.int .i64 (G.getD (0, 0)).1, .int .i64 (G.getD (0, 0)).2] 55) := ⟨_, rfl⟩
  obtain ⟨bs, hbs⟩ : ∃ z, z = w5.heap.size := ⟨_, rfl⟩
  have hBs : BlockIs w9 bs [.int .i64 (G.getD (0, 0)).1, .int .i64 (G.getD (0, 0)).2] 55 := by rw [hbs, hw9]; exact BlockIs.new _ _ _
  have hPx : Pure w5 w9 := hw9 ▸ ext_alloc w5 _
  have hlb := hBr.lt
  have hbt : tb + 1 < bs := by omega
  have hBr := hBr.ext hPx id
  have hP := hP.pure hPx
  have HW9 : Hid (w5.alloc (.cells #[.int .i64 (G.getD (0, 0)).1, .int .i64 (G.getD (0, 0)).2] 55) = w9) := qh hw9.symm
  have Hbs := qh hbs
  clear hw9 hPx hlb hbs
  go_wp2_with fail
  rw [HW9.out, ← Hbs.out]
  have hBs := hBs.drew
  have hBr := hBr.drew
  have hP := hP.drew
  refine region_start (fun k => k = (tb + 1)) (by kernel_rfl) ?_
  try simp only [Act.put, sA, sZ, sS]
  refine region_take 0 63 (v := ?vge0) rfl rfl (by kernel_rfl) (by kernel_rfl) (by kernel_rfl) (fun _ _ _ h => h) (by rfl) (fun w' hS => ?hge0) ?rge0
  case hge0 => (refine exec_loadSp (x := .tmp 7) ?_ ?_ (hBs.ext hS (fun e => by have e' : bs = (tb + 1) := e; omega)) rfl <;> rfl)
  try simp only [Act.put, sA, sZ, sS]
  refine region_take 1 64 (v := ?vge1) rfl rfl (by kernel_rfl) (by kernel_rfl) (by kernel_rfl) (fun _ _ _ h => h) (by rfl) (fun w' hS => ?hge1) ?rge1
  case hge1 => (refine exec_loadSp (x := .tmp 7) ?_ ?_ (hBs.ext hS (fun e => by have e' : bs = (tb + 1) := e; omega)) rfl <;> rfl)
  try simp only [Act.put, sA, sZ, sS]
  refine region_take 2 65 (v := ?vge2) rfl rfl (by kernel_rfl) (by kernel_rfl) (by kernel_rfl) (fun _ _ _ h => h) (by rfl) (fun w' hS => ?hge2) ?rge2
  case hge2 => go_simp; with_reducible rfl
  try simp only [Act.put, sA, sZ, sS]
  refine region_take 3 66 (v := ?vge3) rfl rfl (by kernel_rfl) (by kernel_rfl) (by kernel_rfl) (fun _ _ _ h => h) (by rfl) (fun w' hS => ?hge3) ?rge3
  case hge3 => (go_simp; exact ifsSp (fun b => Result.ok (Next.value (Value.bool b)) w') _ _ _ HIs.out)
  try simp only [Act.put, sA, sZ, sS]
  refine wpAnyH_ready (rs := [4]) (by kernel_rfl) (by simp) (AllReadyH.cons rfl (fun K hK => ?_) AllReadyH.nil)
  refine step_of_list ?_
  have hTh := qh (hBr.there 2 rfl)
  obtain ⟨wE, hwE⟩ : ∃ z, z = w9.drew.setCells (tb + 1) 0 [.int .i64 (G.getD (0, 0)).1, .int .i64 (G.getD (0, 0)).2] := ⟨_, rfl⟩
  have hX : Ext (fun k => k = (tb + 1)) w9.drew wE := hwE ▸ Ext.setCells _ 0 _ (Ext.refl _ _) (fun _ => rfl)
  have hP : Pure w wE := hwE ▸ Ext.setCells _ 0 _ hP (b := (tb + 1)) (fun h => by have h2 := HTb.out; have h3 : (tb + 1) < w.heap.size := h; omega)
  have hBr : BlockIs wE (tb + 1) [.int .i64 (G.getD (0, 0)).1, .int .i64 (G.getD (0, 0)).2] 55 := hwE ▸ hBr.setAll [.int .i64 (G.getD (0, 0)).1, .int .i64 (G.getD (0, 0)).2] rfl
  refine wpList_store_mid rfl 55 (.tmp 4) (.tmp 63) rfl (tb + 1) 0 #[.int .i64 (G.getD (0, 0)).1, .int .i64 (G.getD (0, 0)).2] rfl rfl hTh.out (by exact sizeSp) (one2 _ _) ?_
  have HwE : Hid (w9.drew.setCells (tb + 1) 0 (#[.int .i64 (G.getD (0, 0)).1, .int .i64 (G.getD (0, 0)).2] : Array Value).toList = wE) := qh (by rw [hwE])
  rw [HwE.out]
  clear hwE
  refine hK.out _ _ (hX) (fun hHeld => ?_)
  clear hK K hHeld
  refine region_now (hX) ?_
  try simp only [Act.put, sA, sZ, sS]
  refine region_take 5 5 (v := ?vge5) rfl rfl (by kernel_rfl) (by kernel_rfl) (by kernel_rfl) (fun _ _ _ h => h) (by rfl) (fun w' hS => ?hge5) ?rge5
  case hge5 => go_simp; with_reducible rfl
  try simp only [Act.put, sA, sZ, sS]
  refine wpAnyH_done (by kernel_rfl) ?_ _
  go_simp
  try simp only [Act.put, sA, sZ, sS]
  go_wp2_with fail
  refine bodyPost_ret (V11.results_row2 rfl _ _ (tb + 1) _ [.int .i64 (G.getD (0, 0)).1, .int .i64 (G.getD (0, 0)).2] _ rfl hBr Tryz.underlying55 rfl sizeSp) rfl ?_
  exact ⟨by rw [HFr.out]; rfl, hP⟩
