/-
  Walked: the reference's Object; Same of objects that are one (printed by mkrobj.py).
-/
import Derived.Test.YtomcdhljjmnahaaGreatOpenHOb
import Derived.Test.YtomcdhljjmnahaaGreatRefChkOb
import Derived.Test.YtomcdhljjmnahaaGreatLibPDOb
import Derived.Test.YtomcdhljjmnahaaGreatLibSDOb
import Derived.Test.YtomcdhljjmnahaaGreatLibVAOb
namespace Go.Proofs.YtomcdhljjmnahaaGreat
open Go.RowKit
set_option linter.unusedVariables false
set_option linter.unusedSimpArgs false

set_option maxHeartbeats 4000000 in
set_option maxRecDepth 100000 in
theorem refobject_any (h : HT) (pa la : Option Addr) (pc lc : Nat) (w : World) (H : HMem w h pa pc la lc) (hm : P26.Mod h.ps) :
    Calls Tryz.prog 9 #[.agg (hC h pa pc la lc).toArray] w (ObjTo (objO h) (objE h) w) := by
  obtain ⟨E, hE⟩ : ∃ E, E = objE h := ⟨_, rfl⟩
  obtain ⟨O, hO⟩ : ∃ O, O = objO h := ⟨_, rfl⟩
  rw [← hE, ← hO]
  unfold objO at hO
  rw [← hE] at hO
  unfold objE at hE
  have HE1 := Lib.hid (fun W (hP : Pure w W) => P26.refencode_any h.fa pa pc h.ps W (H.pure hP).pages hm)
  have HE2 := Lib.hid (fun W (hP : Pure w W) => S27.refencode_any h.so h.sa h.sf la lc h.sh W (H.pure hP).share (by have := H.sn; omega))
  have HSh := Lib.hid (fun W => rshared_any h pa la pc lc W)
  obtain ⟨cs, hcs⟩ : ∃ z, z = hC h pa pc la lc := ⟨_, rfl⟩
  have HL7 : Hid (cs.length = 7) := Lib.hid (by rw [hcs]; rfl)
  have HCs := Lib.hid hcs
  rw [← hcs]
  obtain ⟨w2, hw2⟩ : ∃ z, z = ((w.alloc (.cells cs.toArray 25)).alloc (.cells #[.int .i64 0, .int .i64 0, .string ⟨#[]⟩, .slice none 0 0, .bool false, .string ⟨#[]⟩] 32)) := ⟨_, rfl⟩
  obtain ⟨tb, htb⟩ : ∃ z, z = w.heap.size := ⟨_, rfl⟩
  have HW : Hid (((w.alloc (.cells cs.toArray 25)).alloc (.cells #[.int .i64 0, .int .i64 0, .string ⟨#[]⟩, .slice none 0 0, .bool false, .string ⟨#[]⟩] 32)) = w2) := Lib.hid hw2.symm
  have HTb := Lib.hid htb
  rw [← HCs.out] at HSh
  have hRh : ((w.alloc (.cells cs.toArray 25)).alloc (.cells #[.int .i64 0, .int .i64 0, .string ⟨#[]⟩, .slice none 0 0, .bool false, .string ⟨#[]⟩] 32)).rangeAt w.heap.size 0 cs := ((BlockIs.new w cs 25).alloc _).range
  have r1 : ((w.alloc (.cells cs.toArray 25)).alloc (.cells #[.int .i64 0, .int .i64 0, .string ⟨#[]⟩, .slice none 0 0, .bool false, .string ⟨#[]⟩] 32)).cell? ⟨w.heap.size, 1, none⟩ = some (.int .i64 h.fa) := by
    have := ((BlockIs.new w cs 25).alloc (.cells #[.int .i64 0, .int .i64 0, .string ⟨#[]⟩, .slice none 0 0, .bool false, .string ⟨#[]⟩] 32)).cell 1
    rw [this, HCs.out]; rfl
  have r2 : ((w.alloc (.cells cs.toArray 25)).alloc (.cells #[.int .i64 0, .int .i64 0, .string ⟨#[]⟩, .slice none 0 0, .bool false, .string ⟨#[]⟩] 32)).cell? ⟨w.heap.size, 2, none⟩ = some (.slice pa h.ps.length pc) := by
    have := ((BlockIs.new w cs 25).alloc (.cells #[.int .i64 0, .int .i64 0, .string ⟨#[]⟩, .slice none 0 0, .bool false, .string ⟨#[]⟩] 32)).cell 2
    rw [this, HCs.out]; rfl
  have hP : Pure w w2 := by rw [← HW.out]; exact (show Pure w (w.alloc (.cells cs.toArray 25)) from ext_alloc w _).pure (ext_alloc _ _)
  have hBh : BlockIs w2 tb cs 25 := by rw [← HW.out, HTb.out]; exact (BlockIs.new w cs 25).alloc _
  have hBr : BlockIs w2 (tb + 1) [.int .i64 0, .int .i64 0, .string ⟨#[]⟩, .slice none 0 0, .bool false, .string ⟨#[]⟩] 32 := by
    have hh := BlockIs.new (w.alloc (.cells cs.toArray 25)) [.int .i64 0, .int .i64 0, .string ⟨#[]⟩, .slice none 0 0, .bool false, .string ⟨#[]⟩] 32
    rw [World.size_alloc] at hh
    rw [← HW.out, HTb.out]; exact hh
  have HLw := Lib.hid hBr.lt
  clear H HCs hcs hw2 htb hRh
  generalize h.ps.length = pn at *
  unfold P26.EncTo at HE1
  unfold S27.EncTo at HE2
  obtain ⟨c1, hc1⟩ : ∃ z, z = P26.chk h.fa h.ps := ⟨_, rfl⟩
  obtain ⟨c2, hc2⟩ : ∃ z, z = S27.encE h.so h.sa h.sf h.sh := ⟨_, rfl⟩
  have hsz1 := enc26_len (a := h.fa) hm
  have hsz2 := enc27_len h.so h.sa h.sf h.sh
  obtain ⟨A, hA⟩ : ∃ z, z = P26.encB h.fa h.ps := ⟨_, rfl⟩
  obtain ⟨B, hB⟩ : ∃ z, z = S27.encB h.so h.sa h.sf h.sh := ⟨_, rfl⟩
  rw [← hc1, ← hc2] at hE
  rw [← hA, ← hB] at hO
  rw [← hA] at hsz1
  rw [← hB] at hsz2
  have HSz := Lib.hid (And.intro hsz1 hsz2)
  rw [← hc1, ← hA] at HE1
  rw [← hc2, ← hB] at HE2
  clear hc1 hc2 hA hB hsz1 hsz2 hm
  obtain ⟨na, hna⟩ : ∃ z, z = A.length := ⟨_, rfl⟩
  obtain ⟨nb, hnb⟩ : ∃ z, z = B.length := ⟨_, rfl⟩
  have HAl := Lib.hid hna.symm
  have HBl := Lib.hid hnb.symm
  rw [← hna] at HE1 hO
  rw [← hnb] at HE2
  have HEr := Lib.hid hE
  have HOo := Lib.hid hO
  clear hE hO hna hnb
  go_enter Tryz.func9, Tryz.ntmps9
  go_wp2_with fail
  rw [HW.out, ← HTb.out]
  refine (HE1.out w2 hP).mono ?_
  rintro e w3 ⟨ra, rc, rfl, hN3⟩
  have hBh := hBh.ext hN3.ext id
  have hBr := hBr.ext hN3.ext id
  have hP := hP.pure hN3.ext
  have HBa := Lib.hid hN3.bytes
  have HLa : Hid (∀ g, ra = some g → tb + 1 < g.block) := Lib.hid (fun g hg => by have h1 := hN3.fresh g hg; have h2 := HLw.out; omega)
  clear hN3 HE1 r1 r2
  by_cases h1 : c1 = 0
  case neg =>
    have e1 : (c1 != 0) = true := by simpa using h1
    have HEr : Hid (E = c1) := Lib.hid (by rw [HEr.out, if_neg h1])
    have HOo : Hid (O = nullO) := Lib.hid (by rw [HOo.out, if_neg (by rw [HEr.out]; exact h1)])
    clear h1
    have HTh : Hid (w3.there (tb + 1) 0 (#[.int .i64 0, .int .i64 0, .string ⟨#[]⟩, .slice none 0 0, .bool false, .string ⟨#[]⟩] : Array Value).size) := Lib.hid (hBr.there 6 rfl)
    have HSi : Hid ((Tryz.prog.info? 32).map (·.size) = some (#[.int .i64 0, .int .i64 0, .string ⟨#[]⟩, .slice none 0 0, .bool false, .string ⟨#[]⟩] : Array Value).size) := Lib.hid size42
    have HP8 : Hid (Pure w (w3.setCells (tb + 1) 0 [.int .i64 0, .int .i64 0, .string ⟨#[]⟩, .slice none 0 0, .bool false, .string ⟨#[]⟩])) := Lib.hid (Ext.setCells _ 0 w3 hP (b := (tb + 1)) (fun h => by have := HTb.out; omega))
    have HB9 : Hid (BlockIs (w3.setCells (tb + 1) 0 [.int .i64 0, .int .i64 0, .string ⟨#[]⟩, .slice none 0 0, .bool false, .string ⟨#[]⟩]) (tb + 1) [.int .i64 0, .int .i64 0, .string ⟨#[]⟩, .slice none 0 0, .bool false, .string ⟨#[]⟩] 32) := Lib.hid (hBr.setAll [.int .i64 0, .int .i64 0, .string ⟨#[]⟩, .slice none 0 0, .bool false, .string ⟨#[]⟩] rfl)
    clear hBr hP
    go_wp2_with (with_reducible refine V11.at_store 32 (.tmp 2) (.tmp 19) ?_; refine wpList_store_mid rfl 32 (.tmp 2) (.tmp 19) rfl (tb + 1) 0 #[.int .i64 0, .int .i64 0, .string ⟨#[]⟩, .slice none 0 0, .bool false, .string ⟨#[]⟩] rfl rfl HTh.out HSi.out (one6 _ _ _ _ _ _ _ _) ?_)
    refine bodyPost_ret (V11.results_row2 rfl _ _ (tb + 1) _ [.int .i64 0, .int .i64 0, .string ⟨#[]⟩, .slice none 0 0, .bool false, .string ⟨#[]⟩] _ rfl HB9.out Tryz.underlying32 rfl size42) rfl ?_
    exact ⟨[.int .i64 0, .int .i64 0, .string ⟨#[]⟩, .slice none 0 0, .bool false, .string ⟨#[]⟩], by rw [HEr.out]; rfl, by rw [HOo.out]; exact ⟨_, rfl, null_lies _⟩, HP8.out⟩
  subst h1
  have HEr : Hid (E = c2) := Lib.hid (by rw [HEr.out, if_pos rfl])
  have hRh : w3.rangeAt tb 0 cs := hBh.range
  go_wp2_with (with_reducible refine V11.at_load 25 (.tmp 1) ?_; refine wpList_load_h rfl (.tmp 1) rfl tb 0 rfl cs hRh HL7.out ?_)
  refine (HSh.out w3).mono ?_
  rintro e w4 ⟨rfl, hP4⟩
  have hBr := hBr.ext hP4 id
  have hP := hP.pure hP4
  have HBa := Lib.hid (HBa.out.pure hP4)
  clear hRh hBh hP4 HSh
  unfold S27.tblV
  go_wp2_with fail
  refine (HE2.out w4 hP).mono ?_
  rintro e w5 ⟨rb, rd, rfl, hN5⟩
  have HL5 : Hid (tb + 1 < w5.heap.size) := Lib.hid (by have h1 := hBr.lt; have h2 := hN5.ext.size; omega)
  have HLb : Hid (∀ g, rb = some g → tb + 1 < g.block) := Lib.hid (fun g hg => by have h1 := hN5.fresh g hg; have h2 := hBr.lt; omega)
  have hBr := hBr.ext hN5.ext id
  have hP := hP.pure hN5.ext
  have HBa := Lib.hid (HBa.out.pure hN5.ext)
  have HBb := Lib.hid hN5.bytes
  clear hN5 HE2
  by_cases h2 : c2 = 0
  case neg =>
    have e1 : (c2 != 0) = true := by simpa using h2
    have HOo : Hid (O = nullO) := Lib.hid (by rw [HOo.out, if_neg (by rw [HEr.out]; exact h2)])
    clear h2
    have HTh : Hid (w5.there (tb + 1) 0 (#[.int .i64 0, .int .i64 0, .string ⟨#[]⟩, .slice none 0 0, .bool false, .string ⟨#[]⟩] : Array Value).size) := Lib.hid (hBr.there 6 rfl)
    have HSi : Hid ((Tryz.prog.info? 32).map (·.size) = some (#[.int .i64 0, .int .i64 0, .string ⟨#[]⟩, .slice none 0 0, .bool false, .string ⟨#[]⟩] : Array Value).size) := Lib.hid size42
    have HP8 : Hid (Pure w (w5.setCells (tb + 1) 0 [.int .i64 0, .int .i64 0, .string ⟨#[]⟩, .slice none 0 0, .bool false, .string ⟨#[]⟩])) := Lib.hid (Ext.setCells _ 0 w5 hP (b := (tb + 1)) (fun h => by have := HTb.out; omega))
    have HB9 : Hid (BlockIs (w5.setCells (tb + 1) 0 [.int .i64 0, .int .i64 0, .string ⟨#[]⟩, .slice none 0 0, .bool false, .string ⟨#[]⟩]) (tb + 1) [.int .i64 0, .int .i64 0, .string ⟨#[]⟩, .slice none 0 0, .bool false, .string ⟨#[]⟩] 32) := Lib.hid (hBr.setAll [.int .i64 0, .int .i64 0, .string ⟨#[]⟩, .slice none 0 0, .bool false, .string ⟨#[]⟩] rfl)
    clear hBr hP
    go_wp2_with (with_reducible refine V11.at_store 32 (.tmp 2) (.tmp 29) ?_; refine wpList_store_mid rfl 32 (.tmp 2) (.tmp 29) rfl (tb + 1) 0 #[.int .i64 0, .int .i64 0, .string ⟨#[]⟩, .slice none 0 0, .bool false, .string ⟨#[]⟩] rfl rfl HTh.out HSi.out (one6 _ _ _ _ _ _ _ _) ?_)
    refine bodyPost_ret (V11.results_row2 rfl _ _ (tb + 1) _ [.int .i64 0, .int .i64 0, .string ⟨#[]⟩, .slice none 0 0, .bool false, .string ⟨#[]⟩] _ rfl HB9.out Tryz.underlying32 rfl size42) rfl ?_
    exact ⟨[.int .i64 0, .int .i64 0, .string ⟨#[]⟩, .slice none 0 0, .bool false, .string ⟨#[]⟩], by rw [HEr.out]; rfl, by rw [HOo.out]; exact ⟨_, rfl, null_lies _⟩, HP8.out⟩
  subst h2
  have HE0 : Hid (E = 0) := Lib.hid (by have h := HEr.out; rw [h]; rfl)
  have HOo : Hid (O = ⟨objV (na : Int), true, strOf A ++ strOf B⟩) := Lib.hid (by rw [HOo.out, if_pos HE0.out])
  have hsz : ¬ 9223372036854775807 < (strOf A).size + (strOf B).size := by have h1 := HSz.out; rw [strOf_size, strOf_size]; omega
  obtain ⟨wc, hwc⟩ : ∃ z, z = w5.alloc (.cells #[.int .i64 5, .int .i64 0, .string ⟨#[83]⟩, .slice none 0 0, .int .i64 2, .int .i64 (na : Int), .string ⟨#[]⟩, .slice none 0 0] 30) := ⟨_, rfl⟩
  have hPc : Pure w5 wc := hwc ▸ ext_alloc w5 _
  have hRow : RowOf wc (some ⟨w5.heap.size, 0, none⟩) [.int .i64 5, .int .i64 0, .string ⟨#[83]⟩, .slice none 0 0, .int .i64 2, .int .i64 (na : Int), .string ⟨#[]⟩, .slice none 0 0] := hwc ▸ row_at _ rfl rfl
  have hzc : wc.heap.size = w5.heap.size + 1 := by rw [hwc, World.size_alloc]
  obtain ⟨wd, hwd⟩ : ∃ z, z = (wc.alloc (.cells #[.int .i64 0, .int .i64 0, .string ⟨#[]⟩, .slice none 0 0] 30)).setCells wc.heap.size 0 (#[.int .i64 7, .int .i64 0, .string ⟨#[]⟩, .slice (some ⟨w5.heap.size, 0, none⟩) 2 2] : Array Value).toList := ⟨_, rfl⟩
  have hPs : Pure wc wd := hwd ▸ (Ext.setCells _ 0 _ (ext_alloc wc _) (b := wc.heap.size) (fun h => by omega))
  have hB8 : BlockIs wd wc.heap.size [.int .i64 7, .int .i64 0, .string ⟨#[]⟩, .slice (some ⟨w5.heap.size, 0, none⟩) 2 2] 30 := hwd ▸ (BlockIs.new wc [.int .i64 0, .int .i64 0, .string ⟨#[]⟩, .slice none 0 0] 30).setAll [.int .i64 7, .int .i64 0, .string ⟨#[]⟩, .slice (some ⟨w5.heap.size, 0, none⟩) 2 2] rfl
  have HTh8 : Hid ((wc.alloc (.cells #[.int .i64 0, .int .i64 0, .string ⟨#[]⟩, .slice none 0 0] 30)).there wc.heap.size 0 (#[.int .i64 7, .int .i64 0, .string ⟨#[]⟩, .slice (some ⟨w5.heap.size, 0, none⟩) 2 2] : Array Value).size) := Lib.hid (BlockIs.there (BlockIs.new wc [.int .i64 0, .int .i64 0, .string ⟨#[]⟩, .slice none 0 0] 30) 4 rfl)
  have HSi8 : Hid ((Tryz.prog.info? 30).map (·.size) = some (#[.int .i64 7, .int .i64 0, .string ⟨#[]⟩, .slice (some ⟨w5.heap.size, 0, none⟩) 2 2] : Array Value).size) := Lib.hid V11.size24
  have HOn8 : Hid (((#[.int .i64 7, .int .i64 0, .string ⟨#[]⟩, .slice (some ⟨w5.heap.size, 0, none⟩) 2 2] : Array Value).all fun u => u.oneCell') = true) := Lib.hid (all_oneCell_toArray (by intro u hu; simp only [List.mem_cons, List.not_mem_nil, or_false] at hu; rcases hu with rfl | rfl | rfl | rfl <;> rfl))
  have HWc : Hid (w5.alloc (.cells #[.int .i64 5, .int .i64 0, .string ⟨#[83]⟩, .slice none 0 0, .int .i64 2, .int .i64 (na : Int), .string ⟨#[]⟩, .slice none 0 0] 30) = wc) := Lib.hid hwc.symm
  have HWd := Lib.hid hwd.symm
  rw [hzc] at hB8 HTh8 HWd
  have HR8 : Hid (wd.rangeAt (w5.heap.size + 1) 0 [.int .i64 7, .int .i64 0, .string ⟨#[]⟩, .slice (some ⟨w5.heap.size, 0, none⟩) 2 2]) := Lib.hid hB8.range
  have HL4 : Hid (([.int .i64 7, .int .i64 0, .string ⟨#[]⟩, .slice (some ⟨w5.heap.size, 0, none⟩) 2 2] : List Value).length = 4) := Lib.hid rfl
  have hBr := (hBr.ext hPc id).ext hPs id
  have hP := (hP.pure hPc).pure hPs
  have kc1 := conv_txt wd ra rc A ((HBa.out.pure hPc).pure hPs)
  have kc2 := conv_txt wd rb rd B ((HBb.out.pure hPc).pure hPs)
  rw [HAl.out] at kc1
  rw [HBl.out] at kc2
  have hLi : V11.Lies wc 2 (objV (na : Int)) [.int .i64 7, .int .i64 0, .string ⟨#[]⟩, .slice (some ⟨w5.heap.size, 0, none⟩) 2 2] := (dict_fit na wc).lies hRow 7 0 ⟨#[]⟩ 2 (Nat.le_refl _) (by unfold maxLen; decide) (fun e => by cases e) (by decide)
  have HTh : Hid (wd.there (tb + 1) 0 (#[.int .i64 7, .int .i64 0, .string ⟨#[]⟩, .slice (some ⟨w5.heap.size, 0, none⟩) 2 2, .bool true, .string (strOf A ++ strOf B)] : Array Value).size) := Lib.hid (hBr.there 6 rfl)
  have HSi : Hid ((Tryz.prog.info? 32).map (·.size) = some (#[.int .i64 7, .int .i64 0, .string ⟨#[]⟩, .slice (some ⟨w5.heap.size, 0, none⟩) 2 2, .bool true, .string (strOf A ++ strOf B)] : Array Value).size) := Lib.hid size42
  have HP8 : Hid (Pure w (wd.setCells (tb + 1) 0 [.int .i64 7, .int .i64 0, .string ⟨#[]⟩, .slice (some ⟨w5.heap.size, 0, none⟩) 2 2, .bool true, .string (strOf A ++ strOf B)])) := Lib.hid (Ext.setCells _ 0 wd hP (b := tb + 1) (fun h => by have := HTb.out; omega))
  have HB9 : Hid (BlockIs (wd.setCells (tb + 1) 0 [.int .i64 7, .int .i64 0, .string ⟨#[]⟩, .slice (some ⟨w5.heap.size, 0, none⟩) 2 2, .bool true, .string (strOf A ++ strOf B)]) (tb + 1) [.int .i64 7, .int .i64 0, .string ⟨#[]⟩, .slice (some ⟨w5.heap.size, 0, none⟩) 2 2, .bool true, .string (strOf A ++ strOf B)] 32) := Lib.hid (hBr.setAll [.int .i64 7, .int .i64 0, .string ⟨#[]⟩, .slice (some ⟨w5.heap.size, 0, none⟩) 2 2, .bool true, .string (strOf A ++ strOf B)] rfl)
  have hlt5 : tb + 1 < w5.heap.size := HL5.out
  have HLx : Hid (V11.Lies (wd.setCells (tb + 1) 0 [.int .i64 7, .int .i64 0, .string ⟨#[]⟩, .slice (some ⟨w5.heap.size, 0, none⟩) 2 2, .bool true, .string (strOf A ++ strOf B)]) 2 (objV (na : Int)) [.int .i64 7, .int .i64 0, .string ⟨#[]⟩, .slice (some ⟨w5.heap.size, 0, none⟩) 2 2]) := Lib.hid (by
    have hX : Ext (fun k => k = tb + 1) wd (wd.setCells (tb + 1) 0 [.int .i64 7, .int .i64 0, .string ⟨#[]⟩, .slice (some ⟨w5.heap.size, 0, none⟩) 2 2, .bool true, .string (strOf A ++ strOf B)]) := Ext.setCells _ 0 _ (Ext.refl _ _) (fun _ => rfl)
    have hRow2 : RowOf (wd.setCells (tb + 1) 0 [.int .i64 7, .int .i64 0, .string ⟨#[]⟩, .slice (some ⟨w5.heap.size, 0, none⟩) 2 2, .bool true, .string (strOf A ++ strOf B)]) (some ⟨w5.heap.size, 0, none⟩) [.int .i64 5, .int .i64 0, .string ⟨#[83]⟩, .slice none 0 0, .int .i64 2, .int .i64 (na : Int), .string ⟨#[]⟩, .slice none 0 0] := (hRow.ext hPs (fun _ _ => id)).ext hX (fun g hg e => by cases hg; have e' : w5.heap.size = tb + 1 := e; omega)
    exact (dict_fit na _).lies hRow2 7 0 ⟨#[]⟩ 2 (Nat.le_refl _) (by unfold maxLen; decide) (fun e => by cases e) (by decide))
  clear hwc hPc hRow hzc hwd hPs hB8 hLi hlt5 hBr hP
  go_wp2_with (first
    | (with_reducible refine V11.at_store 30 (.tmp 8) (.tmp 36) ?_; rw [HWc.out]; refine wpList_store_mid rfl 30 (.tmp 8) (.tmp 36) rfl (w5.heap.size + 1) 0 #[.int .i64 7, .int .i64 0, .string ⟨#[]⟩, .slice (some ⟨w5.heap.size, 0, none⟩) 2 2] rfl rfl HTh8.out HSi8.out HOn8.out ?_; rw [HWd.out])
    | (with_reducible refine V11.at_load 30 (.tmp 8) ?_; refine wpList_load_mid rfl 30 (.tmp 8) rfl (w5.heap.size + 1) 0 rfl [.int .i64 7, .int .i64 0, .string ⟨#[]⟩, .slice (some ⟨w5.heap.size, 0, none⟩) 2 2] _ HR8.out Tryz.underlying30 rfl (by rw [HL4.out]; exact V11.size24) ?_)
    | (with_reducible refine V11.at_store 32 (.tmp 2) (.tmp 43) ?_; refine wpList_store_mid rfl 32 (.tmp 2) (.tmp 43) rfl (tb + 1) 0 #[.int .i64 7, .int .i64 0, .string ⟨#[]⟩, .slice (some ⟨w5.heap.size, 0, none⟩) 2 2, .bool true, .string (strOf A ++ strOf B)] rfl rfl HTh.out HSi.out (one6 _ _ _ _ _ _ _ _) ?_))
  refine bodyPost_ret (V11.results_row2 rfl _ _ (tb + 1) _ [.int .i64 7, .int .i64 0, .string ⟨#[]⟩, .slice (some ⟨w5.heap.size, 0, none⟩) 2 2, .bool true, .string (strOf A ++ strOf B)] _ rfl HB9.out Tryz.underlying32 rfl size42) rfl ?_
  exact ⟨[.int .i64 7, .int .i64 0, .string ⟨#[]⟩, .slice (some ⟨w5.heap.size, 0, none⟩) 2 2, .bool true, .string (strOf A ++ strOf B)], by rw [HE0.out]; rfl, by rw [HOo.out]; exact ⟨_, rfl, HLx.out⟩, HP8.out⟩
set_option maxHeartbeats 2000000 in
set_option maxRecDepth 100000 in
theorem objsame_yes (d : Nat) (o : Ob) (os qs : List Value) (w : World) (h : ObjIs w d o os) (k : ObjIs w d o qs) (hsz : o.v.size ≤ 100000) (hself : o.v.cmp o.v = 0) :
    Calls Tryz.prog 10 #[.agg os.toArray, .agg qs.toArray] w (BoolTo true w) := by
  obtain ⟨vs, hos, hL⟩ := h
  obtain ⟨us, hqs, hM⟩ := k
  have h4 := hL.len
  have m4 := hM.len
  have HSm := Lib.hid (fun W (hP : Pure w W) => V11.refsame_any d o.v vs d o.v us W (hL.pure hP) (hM.pure hP) hsz hsz)
  rw [decide_eq_true hself] at HSm
  obtain ⟨w2, hw2⟩ : ∃ z, z = (w.alloc (.cells os.toArray 32)).alloc (.cells qs.toArray 32) := ⟨_, rfl⟩
  have hP : Pure w w2 := hw2 ▸ (show Pure w (w.alloc (.cells os.toArray 32)) from ext_alloc w _).pure (ext_alloc _ _)
  have hB1 : BlockIs w2 w.heap.size os 32 := hw2 ▸ (BlockIs.new w os 32).alloc _
  have hB2 : BlockIs w2 (w.heap.size + 1) qs 32 := by
    have hh := BlockIs.new (w.alloc (.cells os.toArray 32)) qs 32
    rw [World.size_alloc] at hh
    rw [hw2]; exact hh
  have HW : Hid ((w.alloc (.cells os.toArray 32)).alloc (.cells qs.toArray 32) = w2) := Lib.hid hw2.symm
  have hr1 : ((w.alloc (.cells os.toArray 32)).alloc (.cells qs.toArray 32)).rangeAt w.heap.size 0 vs := fun j v hv => by
    rw [HW.out, Nat.zero_add, hB1.cell j, hos, List.getElem?_append_left (List.getElem?_eq_some_iff.1 hv).1]; exact hv
  have hr2 : ((w.alloc (.cells os.toArray 32)).alloc (.cells qs.toArray 32)).rangeAt (w.heap.size + 1) 0 us := fun j v hv => by
    rw [HW.out, Nat.zero_add, hB2.cell j, hqs, List.getElem?_append_left (List.getElem?_eq_some_iff.1 hv).1]; exact hv
  have HR1 := Lib.hid hr1
  have HR2 := Lib.hid hr2
  have HV4 := Lib.hid h4
  have HU4 := Lib.hid m4
  have c4 : w2.cell? ⟨w.heap.size, 4, none⟩ = some (.bool o.st) := by rw [hB1.cell 4, hos, List.getElem?_append_right (by omega), h4]; rfl
  have c5 : w2.cell? ⟨w.heap.size, 5, none⟩ = some (.string o.data) := by rw [hB1.cell 5, hos, List.getElem?_append_right (by omega), h4]; rfl
  have d4 : w2.cell? ⟨w.heap.size + 1, 4, none⟩ = some (.bool o.st) := by rw [hB2.cell 4, hqs, List.getElem?_append_right (by omega), m4]; rfl
  have d5 : w2.cell? ⟨w.heap.size + 1, 5, none⟩ = some (.string o.data) := by rw [hB2.cell 5, hqs, List.getElem?_append_right (by omega), m4]; rfl
  have HC := Lib.hid (And.intro c4 (And.intro c5 (And.intro d4 d5)))
  generalize o.st = st at *
  generalize o.data = dt at *
  clear hos hqs hL hM h4 m4 hw2 hB1 hB2 hr1 hr2 c4 c5 d4 d5
  go_enter Tryz.func10, Tryz.ntmps10
  go_wp2_with (first
    | (with_reducible refine V11.at_load 30 (.tmp 5) ?_; refine wpList_load_mid rfl 30 (.tmp 5) rfl w.heap.size 0 rfl vs _ HR1.out Tryz.underlying30 rfl (by rw [HV4.out]; exact V11.size24) ?_)
    | (with_reducible refine V11.at_load 30 (.tmp 7) ?_; refine wpList_load_mid rfl 30 (.tmp 7) rfl (w.heap.size + 1) 0 rfl us _ HR2.out Tryz.underlying30 rfl (by rw [HU4.out]; exact V11.size24) ?_))
  rw [HW.out]
  refine (HSm.out w2 hP).mono ?_
  rintro e w3 ⟨rfl, hP3⟩
  obtain ⟨c4, c5, d4, d5⟩ := HC.out
  have c4 := hP3.cell_some c4 id
  have c5 := hP3.cell_some c5 id
  have d4 := hP3.cell_some d4 id
  have d5 := hP3.cell_some d5 id
  clear HC
  go_wp2_with fail
  go_ret
  exact ⟨rfl, hP.pure hP3⟩
end Go.Proofs.YtomcdhljjmnahaaGreat
