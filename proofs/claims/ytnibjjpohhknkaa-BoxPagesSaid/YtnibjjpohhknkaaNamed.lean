/-
  Walked: both nameds (printed by mknamed.py).
-/
import Derived.Test.YtnibjjpohhknkaaObs
import Derived.Test.YtnibjjpohhknkaaGetW
namespace Go.Proofs.Ytnibjjpohhknkaa
open Go.RowKit
set_option linter.unusedVariables false
set_option linter.unusedSimpArgs false

theorem sz24 {cs : List Value} (h : cs.length = 4) : (Try.prog.info? 24).map (·.size) = some cs.length := by rw [h]; exact size24
set_option maxHeartbeats 1000000 in
set_option maxRecDepth 100000 in
theorem named_any (d : Nat) (objs : List Ob) (oa : Option Addr) (oc : Nat) (rows : List (List Value)) (gv : V) (gcs : List Value) (key : ByteArray) (w0 w : World) (hP0 : Pure w0 w) (hOK : OKids w0 (d + 1) objs oa rows) (hG : Lies w0 (d + 1) gv gcs) (hne : 0 < objs.length) (hol : objs.length ≤ 1000000) (hvl : ∀ u ∈ objs, u.v.l.length ≤ 1000000) (hgl : gv.l.length ≤ 1000000) :
    Calls Try.prog 43 #[.agg (Value.slice oa objs.length oc :: gcs).toArray, .string key] w (GetW w0 (namedP objs gv key) d w) := by
  obtain ⟨u0, hu0⟩ : ∃ u, objs[0]? = some u := ⟨_, List.getElem?_eq_getElem hne⟩
  obtain ⟨F, hF⟩ : ∃ F, F = namedP objs gv key := ⟨_, rfl⟩
  have hFe : F = follow objs (if (u0.v.get key).2 = true then u0.v.get key else gv.get key) := by rw [hF]; unfold namedP; rw [hu0]; rfl
  rw [← hF]
  obtain ⟨ob, oo, ocs, rfl, hor, hol4, hoL, _⟩ := hOK.at 0 u0 hu0
  have hG1 := hvl u0 (List.mem_of_getElem? hu0)
  obtain ⟨on, hon⟩ : ∃ on, on = objs.length := ⟨_, rfl⟩
  rw [← hon] at hne hol ⊢
  rw [Nat.zero_mul, Nat.add_zero] at hor
  have hgl4 := hG.len
  obtain ⟨w1, hw1⟩ : ∃ z, z = w.alloc (.cells (Value.slice (some ⟨ob, oo, none⟩) on oc :: gcs).toArray 47) := ⟨_, rfl⟩
  obtain ⟨tb, htb⟩ : ∃ z, z = w.heap.size := ⟨_, rfl⟩
  have hB1 : BlockIs w1 tb (Value.slice (some ⟨ob, oo, none⟩) on oc :: gcs) 47 := by rw [htb, hw1]; exact BlockIs.new w _ _
  have hs1 : w1.heap.size = tb + 1 := by rw [hw1, World.size_alloc, htb]
  obtain ⟨w2, hw2⟩ : ∃ z, z = w1.alloc (.cells zeroCs.toArray 24) := ⟨_, rfl⟩
  have hs2 : w2.heap.size = tb + 2 := by rw [hw2, World.size_alloc, hs1]
  have hBt : BlockIs w2 tb (Value.slice (some ⟨ob, oo, none⟩) on oc :: gcs) 47 := hw2 ▸ hB1.alloc _
  have hBr : BlockIs w2 (tb + 1) zeroCs 24 := by rw [← hs1, hw2]; exact BlockIs.new w1 _ _
  have hP : Pure w w2 := (show Pure w w1 from hw1 ▸ ext_alloc w _).pure (hw2 ▸ ext_alloc w1 _)
  have HW : Hid ((w.alloc (.cells (Value.slice (some ⟨ob, oo, none⟩) on oc :: gcs).toArray 47)).alloc (.cells #[.int .i64 0, .int .i64 0, .string ⟨#[]⟩, .slice none 0 0] 24) = w2) := Lib.hid (by rw [hw2, hw1]; rfl)
  have HTb := Lib.hid htb
  have HS2 := Lib.hid hs2
  have t0 : ((w.alloc (.cells (Value.slice (some ⟨ob, oo, none⟩) on oc :: gcs).toArray 47)).alloc (.cells #[.int .i64 0, .int .i64 0, .string ⟨#[]⟩, .slice none 0 0] 24)).cell? ⟨w.heap.size, 0, none⟩ = some (.slice (some ⟨ob, oo, none⟩) on oc) := by rw [HW.out, ← htb]; exact hBt.cell 0
  have hor' : ((w.alloc (.cells (Value.slice (some ⟨ob, oo, none⟩) on oc :: gcs).toArray 47)).alloc (.cells #[.int .i64 0, .int .i64 0, .string ⟨#[]⟩, .slice none 0 0] 24)).rangeAt ob oo ocs := fun i x hx => by rw [HW.out]; exact (hP0.pure hP).cell_some (hor i x hx) id
  have hni : (0 : Int) < (on : Int) := by omega
  have HFe := Lib.hid hFe
  have HGet1 := Lib.hid (fun W (hP : Pure w W) => getw_any d u0.v ocs key w0 W (hP0.pure hP) hoL hG1)
  have HGet2 := Lib.hid (fun W (hP : Pure w W) => getw_any d gv gcs key w0 W (hP0.pure hP) hG hgl)
  have HOK := Lib.hid hOK
  have HOn := Lib.hid hon
  have HOl := Lib.hid hol4
  have HGl := Lib.hid hgl4
  clear hF hFe hw1 hw2 hs1 hs2 hB1 htb hu0 hOK hG hne hon hol4 hgl4 hvl hgl hoL hG1
  obtain ⟨G1, hG1⟩ : ∃ G, G = u0.v.get key := ⟨_, rfl⟩
  obtain ⟨G2, hG2⟩ : ∃ G, G = gv.get key := ⟨_, rfl⟩
  rw [← hG1] at HGet1 HFe
  rw [← hG2] at HGet2 HFe
  clear hG1 hG2
  go_enter Try.func43, Try.ntmps43
  go_wp2_with (first
    | (with_reducible refine at_load 24 (.tmp 12) ?_; refine wpList_load_mid rfl 24 (.tmp 12) rfl ob oo rfl ocs _ hor' Try.underlying24 rfl (sz24 HOl.out) ?_))
  rw [HW.out, ← HTb.out]
  clear t0 hor'
  refine (HGet1.out w2 hP).mono ?_
  rintro e w3 ⟨cb, rfl, hLc, hP3⟩
  have hBt := hBt.ext hP3 id
  have hBr := hBr.ext hP3 id
  have hP := hP.pure hP3
  have hb3 : tb + 2 ≤ w3.heap.size := by have := HS2.out; have := hP3.size; omega
  clear hP3
  obtain ⟨hth, hB6, hPx⟩ := put_new (W := w3) _ rfl (d := d + 1) (hLc.pure (hP0.pure hP))
  obtain ⟨w4, hwn⟩ : ∃ z, z = (w3.alloc (.cells zeroCs.toArray 24)).setCells w3.heap.size 0 cb := ⟨_, rfl⟩
  rw [← hwn] at hB6 hPx
  have hl6 := hLc.len
  have HThcb := Lib.hid (show (w3.alloc (.cells #[.int .i64 0, .int .i64 0, .string ⟨#[]⟩, .slice none 0 0] 24)).there w3.heap.size 0 cb.toArray.size by rw [show cb.toArray.size = 4 by simpa using hl6]; exact hth)
  have HSicb : Hid ((Try.prog.info? 24).map (·.size) = some cb.toArray.size) := Lib.hid (by rw [List.size_toArray, hl6]; exact size24)
  have HOncb := Lib.hid hLc.one
  have HWncb : Hid (w4 = (w3.alloc (.cells #[.int .i64 0, .int .i64 0, .string ⟨#[]⟩, .slice none 0 0] 24)).setCells w3.heap.size 0 cb.toArray.toList) := Lib.hid (by rw [hwn]; rfl)
  have hBt := hBt.ext hPx id
  have hBr := hBr.ext hPx id
  have hP := hP.pure hPx
  have hL6 := hLc
  clear hwn hth hPx hLc
  obtain ⟨is1, his1⟩ : ∃ z, z = G1.2 := ⟨_, rfl⟩
  rw [← his1]
  cases is1 with
  | true =>
    have hg2 : G1.2 = true := his1.symm
    have HFo : Hid (F = follow objs G1) := Lib.hid (by rw [HFe.out, if_pos hg2])
    obtain ⟨oa, hoa⟩ : ∃ z, z = (some ⟨ob, oo, none⟩ : Option Addr) := ⟨_, rfl⟩
    rw [← hoa] at hBt HOK
    clear hoa his1 HFe HGet1 HGet2
    obtain ⟨_, ya, ym, yc, hy⟩ : ∃ _ : Unit, ∃ ya ym yc, cb = [.int .i64 G1.1.kind, .int .i64 G1.1.n, .string G1.1.s, .slice ya ym yc] := by
      obtain ⟨a', c', _, he, _⟩ := hL6.kids
      exact ⟨(), _, _, _, he⟩
    have y0 : w4.cell? ⟨w3.heap.size, 0, none⟩ = some (.int .i64 G1.1.kind) := (hB6.cell 0).trans (by rw [hy]; rfl)
    have y1 : w4.cell? ⟨w3.heap.size, 1, none⟩ = some (.int .i64 G1.1.n) := (hB6.cell 1).trans (by rw [hy]; rfl)
    have t0 : w4.cell? ⟨tb, 0, none⟩ = some (.slice oa on oc) := hBt.cell 0
    clear hy
    by_cases hk8 : G1.1.kind = 8
    · rw [hk8] at y0
      obtain ⟨N, hN⟩ : ∃ N, N = G1.1.n := ⟨_, rfl⟩
      rw [← hN] at y1
      have HNN := Lib.hid hN
      have HK8 := Lib.hid hk8
      clear hN hk8
      go_wp2_with (first
        | (with_reducible refine at_store 24 (.tmp 6) (.tmp 16) ?_; refine wpList_store_mid rfl 24 (.tmp 6) (.tmp 16) rfl w3.heap.size 0 cb.toArray rfl rfl HThcb.out HSicb.out HOncb.out ?_; rw [← HWncb.out]))
      refine (within_any N 1 (on : Int) w4).mono ?_
      rintro e w9 ⟨rfl, hP9⟩
      have hBt := hBt.ext hP9 id
      have hBr := hBr.ext hP9 id
      have hB6 := hB6.ext hP9 id
      have hP := hP.pure hP9
      have y1 := hP9.cell_some y1 id
      have t0 := hP9.cell_some t0 id
      clear y0
      by_cases hin : 1 ≤ N ∧ N ≤ (on : Int)
      · obtain ⟨j, hj⟩ : ∃ j : Nat, N = (j : Int) + 1 := ⟨(N - 1).toNat, by omega⟩
        have hjl : j < on := by omega
        obtain ⟨u, hu⟩ : ∃ u, objs[j]? = some u := ⟨_, List.getElem?_eq_getElem (by rw [← HOn.out]; exact hjl)⟩
        obtain ⟨ub, uo, ucs, rfl, hur, hul, huL, _⟩ := HOK.out.at j u hu
        have HFr : Hid (F = (u.v, true)) := Lib.hid (by rw [HFo.out]; exact follow_yes hg2 HK8.out (by rw [← HNN.out]; exact hj) hu)
        have hur' : w9.rangeAt ub (uo + j * 6) ucs := fun i x hx => (hP0.pure hP).cell_some (hur i x hx) id
        rw [show decide (1 ≤ N ∧ N ≤ (on : Int)) = true by simp [hin]]
        rw [hj] at y1
        have hji2 : (1 : Int) ≤ (j : Int) + 1 := by omega
        have hji3 : (j : Int) + 1 ≤ (on : Int) := by omega
        have hjn : (j : Int) < (on : Int) := by omega
        have hj0 : (0 : Int) ≤ (j : Int) := by omega
        have hj1 : (j : Int) + 1 - 1 = (j : Int) := by omega
        clear hin hj
        have HThu : Hid (w9.there w3.heap.size 0 ucs.toArray.size) := Lib.hid (by rw [show ucs.toArray.size = 4 by simpa using hul]; exact hB6.there 4 hl6.symm)
        have HSiu : Hid ((Try.prog.info? 24).map (·.size) = some ucs.toArray.size) := Lib.hid (by rw [show ucs.toArray.size = 4 by simpa using hul]; exact size24)
        have HOnu := Lib.hid huL.one
        have HLu := Lib.hid hul
        obtain ⟨wv, hwv⟩ : ∃ z, z = w9.setCells w3.heap.size 0 ucs := ⟨_, rfl⟩
        have hXv : Ext (fun k => k = w3.heap.size) w9 wv := hwv ▸ Ext.setCells ucs 0 w9 (Ext.refl _ _) (fun _ => rfl)
        have hB6 : BlockIs wv w3.heap.size ucs 24 := hwv ▸ hB6.setAll ucs (by rw [hl6, hul])
        have hBt := hBt.ext hXv (fun e => by have e' : tb = w3.heap.size := e; omega)
        have hBr := hBr.ext hXv (fun e => by have e' : tb + 1 = w3.heap.size := e; omega)
        have hP : Pure w wv := hP.trans hXv (fun i hi e => by have e' : i = w3.heap.size := e; have := HTb.out; omega)
        have HWv : Hid (w9.setCells w3.heap.size 0 ucs.toArray.toList = wv) := Lib.hid (by rw [hwv])
        have hL6 := huL
        have hl6 := hul
        clear hwv hXv huL hul hu
        have HThz : Hid (wv.there (tb + 1) 0 ucs.toArray.size) := Lib.hid (by rw [List.size_toArray, hl6]; exact hBr.there 4 rfl)
        have HSiz : Hid ((Try.prog.info? 24).map (·.size) = some ucs.toArray.size) := Lib.hid (by rw [List.size_toArray, hl6]; exact size24)
        have HOnz := Lib.hid hL6.one
        have HLz := Lib.hid hl6
        have HBz := Lib.hid (hBr.setAll ucs hl6.symm)
        have HPz : Hid (Pure w (wv.setCells (tb + 1) 0 ucs)) := Lib.hid (Ext.setCells _ 0 wv hP (b := tb + 1) (fun h => by have := HTb.out; omega))
        have HLLz := Lib.hid hL6
        have hR6 := hB6.range
        clear hBr hBt hP hL6 hl6 hB6
        go_wp2_with (first
          | (with_reducible refine at_load 24 (.tmp 47) ?_; refine wpList_load_mid rfl 24 (.tmp 47) rfl ub (uo + j * 6) rfl ucs _ hur' Try.underlying24 rfl (sz24 HLu.out) ?_)
          | (with_reducible refine at_store 24 (.tmp 6) (.tmp 48) ?_; refine wpList_store_mid rfl 24 (.tmp 6) (.tmp 48) rfl w3.heap.size 0 ucs.toArray rfl rfl HThu.out HSiu.out HOnu.out ?_; rw [HWv.out])
          | (with_reducible refine at_load 24 (.tmp 6) ?_; refine wpList_load_mid rfl 24 (.tmp 6) rfl w3.heap.size 0 rfl ucs _ hR6 Try.underlying24 rfl (sz24 HLz.out) ?_)
          | (with_reducible refine at_store 24 (.tmp 4) (.tmp 49) ?_; refine wpList_store_mid rfl 24 (.tmp 4) (.tmp 49) rfl (tb + 1) 0 ucs.toArray rfl rfl HThz.out HSiz.out HOnz.out ?_))
        refine bodyPost_ret (results_row2 rfl _ _ (tb + 1) _ ucs _ rfl HBz.out Try.underlying24 rfl (by rw [HLz.out]; exact size24)) rfl ?_
        exact ⟨ucs, by rw [HFr.out]; rfl, by rw [HFr.out]; exact HLLz.out, HPz.out⟩
      · have HFr : Hid (F = G1) := Lib.hid (by rw [HFo.out]; exact follow_no (fun h => hin (by rw [HNN.out, HOn.out]; exact h.2.2)))
        rw [show decide (1 ≤ N ∧ N ≤ (on : Int)) = false by simp [hin]]
        clear hin
        have HThz : Hid (w9.there (tb + 1) 0 cb.toArray.size) := Lib.hid (by rw [List.size_toArray, hl6]; exact hBr.there 4 rfl)
        have HSiz : Hid ((Try.prog.info? 24).map (·.size) = some cb.toArray.size) := Lib.hid (by rw [List.size_toArray, hl6]; exact size24)
        have HOnz := Lib.hid hL6.one
        have HLz := Lib.hid hl6
        have HBz := Lib.hid (hBr.setAll cb hl6.symm)
        have HPz : Hid (Pure w (w9.setCells (tb + 1) 0 cb)) := Lib.hid (Ext.setCells _ 0 w9 hP (b := tb + 1) (fun h => by have := HTb.out; omega))
        have HLLz := Lib.hid hL6
        have hR6 := hB6.range
        clear hBr hBt hP hL6 hl6 hB6
        go_wp2_with (first
          | (with_reducible refine at_load 24 (.tmp 6) ?_; refine wpList_load_mid rfl 24 (.tmp 6) rfl w3.heap.size 0 rfl cb _ hR6 Try.underlying24 rfl (sz24 HLz.out) ?_)
          | (with_reducible refine at_store 24 (.tmp 4) (.tmp 49) ?_; refine wpList_store_mid rfl 24 (.tmp 4) (.tmp 49) rfl (tb + 1) 0 cb.toArray rfl rfl HThz.out HSiz.out HOnz.out ?_))
        refine bodyPost_ret (results_row2 rfl _ _ (tb + 1) _ cb _ rfl HBz.out Try.underlying24 rfl (by rw [HLz.out]; exact size24)) rfl ?_
        exact ⟨cb, by rw [HFr.out, hg2]; rfl, by rw [HFr.out]; exact HLLz.out, HPz.out⟩
    · have hk8' : (G1.1.kind == 8) = false := by simpa using hk8
      have HFr : Hid (F = G1) := Lib.hid (by rw [HFo.out]; exact follow_no (fun h => hk8 h.2.1))
      clear hk8
      have HThz : Hid (w4.there (tb + 1) 0 cb.toArray.size) := Lib.hid (by rw [List.size_toArray, hl6]; exact hBr.there 4 rfl)
      have HSiz : Hid ((Try.prog.info? 24).map (·.size) = some cb.toArray.size) := Lib.hid (by rw [List.size_toArray, hl6]; exact size24)
      have HOnz := Lib.hid hL6.one
      have HLz := Lib.hid hl6
      have HBz := Lib.hid (hBr.setAll cb hl6.symm)
      have HPz : Hid (Pure w (w4.setCells (tb + 1) 0 cb)) := Lib.hid (Ext.setCells _ 0 w4 hP (b := tb + 1) (fun h => by have := HTb.out; omega))
      have HLLz := Lib.hid hL6
      have hR6 := hB6.range
      clear hBr hBt hP hL6 hl6 hB6
      go_wp2_with (first
        | (with_reducible refine at_store 24 (.tmp 6) (.tmp 16) ?_; refine wpList_store_mid rfl 24 (.tmp 6) (.tmp 16) rfl w3.heap.size 0 cb.toArray rfl rfl HThcb.out HSicb.out HOncb.out ?_; rw [← HWncb.out])
        | (with_reducible refine at_load 24 (.tmp 6) ?_; refine wpList_load_mid rfl 24 (.tmp 6) rfl w3.heap.size 0 rfl cb _ hR6 Try.underlying24 rfl (sz24 HLz.out) ?_)
        | (with_reducible refine at_store 24 (.tmp 4) (.tmp 49) ?_; refine wpList_store_mid rfl 24 (.tmp 4) (.tmp 49) rfl (tb + 1) 0 cb.toArray rfl rfl HThz.out HSiz.out HOnz.out ?_))
      refine bodyPost_ret (results_row2 rfl _ _ (tb + 1) _ cb _ rfl HBz.out Try.underlying24 rfl (by rw [HLz.out]; exact size24)) rfl ?_
      exact ⟨cb, by rw [HFr.out, hg2]; rfl, by rw [HFr.out]; exact HLLz.out, HPz.out⟩
  | false =>
    have HI1 := Lib.hid his1
    clear his1
    have hRg : w4.rangeAt tb 1 gcs := fun i x hx => (hBt.cell (1 + i)).trans (by rw [Nat.add_comm, List.getElem?_cons_succ]; exact hx)
    go_wp2_with (first
      | (with_reducible refine at_store 24 (.tmp 6) (.tmp 16) ?_; refine wpList_store_mid rfl 24 (.tmp 6) (.tmp 16) rfl w3.heap.size 0 cb.toArray rfl rfl HThcb.out HSicb.out HOncb.out ?_; rw [← HWncb.out])
      | (with_reducible refine at_load 24 (.tmp 21) ?_; refine wpList_load_mid rfl 24 (.tmp 21) rfl tb 1 rfl gcs _ hRg Try.underlying24 rfl (sz24 HGl.out) ?_))
    refine (HGet2.out w4 hP).mono ?_
    rintro e w5 ⟨cc, rfl, hLc, hP5⟩
    have hBt := hBt.ext hP5 id
    have hBr := hBr.ext hP5 id
    have hB6 := hB6.ext hP5 id
    have hP := hP.pure hP5
    clear hP5 hRg HGet1 HGet2
    obtain ⟨bb, hbb⟩ : ∃ z, z = w3.heap.size := ⟨_, rfl⟩
    rw [← hbb] at hB6 hb3 ⊢
    have HBb := Lib.hid hbb
    clear hbb
    obtain ⟨oa, hoa⟩ : ∃ z, z = (some ⟨ob, oo, none⟩ : Option Addr) := ⟨_, rfl⟩
    rw [← hoa] at hBt HOK
    clear hoa
    have hcl := hLc.len
    have HThcc : Hid (w5.there bb 0 cc.toArray.size) := Lib.hid (by rw [show cc.toArray.size = 4 by simpa using hcl]; exact hB6.there 4 hl6.symm)
    have HSicc : Hid ((Try.prog.info? 24).map (·.size) = some cc.toArray.size) := Lib.hid (by rw [show cc.toArray.size = 4 by simpa using hcl]; exact size24)
    have HOncc := Lib.hid hLc.one
    obtain ⟨w6, hw6⟩ : ∃ z, z = w5.setCells bb 0 cc := ⟨_, rfl⟩
    have hX6 : Ext (fun k => k = bb) w5 w6 := hw6 ▸ Ext.setCells cc 0 w5 (Ext.refl _ _) (fun _ => rfl)
    have hB6 : BlockIs w6 bb cc 24 := hw6 ▸ hB6.setAll cc (by rw [hl6, hcl])
    have hBt := hBt.ext hX6 (fun e => by have e' : tb = bb := e; omega)
    have hBr := hBr.ext hX6 (fun e => by have e' : tb + 1 = bb := e; omega)
    have hP : Pure w w6 := hP.trans hX6 (fun i hi e => by have e' : i = bb := e; have := HTb.out; omega)
    have HWcc : Hid (w5.setCells bb 0 cc.toArray.toList = w6) := Lib.hid (by rw [hw6])
    have hl6 := hcl
    have hL6 := hLc
    clear hw6 hX6 hLc hcl
    obtain ⟨is2, his2⟩ : ∃ z, z = G2.2 := ⟨_, rfl⟩
    rw [← his2]
    cases is2 with
    | true =>
      have hg2 : G2.2 = true := his2.symm
      have HFo : Hid (F = follow objs G2) := Lib.hid (by rw [HFe.out, if_neg (by rw [← HI1.out]; decide)])
      clear his2 HFe
      obtain ⟨_, ya, ym, yc, hy⟩ : ∃ _ : Unit, ∃ ya ym yc, cc = [.int .i64 G2.1.kind, .int .i64 G2.1.n, .string G2.1.s, .slice ya ym yc] := by
        obtain ⟨a', c', _, he, _⟩ := hL6.kids
        exact ⟨(), _, _, _, he⟩
      have y0 : w6.cell? ⟨bb, 0, none⟩ = some (.int .i64 G2.1.kind) := (hB6.cell 0).trans (by rw [hy]; rfl)
      have y1 : w6.cell? ⟨bb, 1, none⟩ = some (.int .i64 G2.1.n) := (hB6.cell 1).trans (by rw [hy]; rfl)
      have t0 : w6.cell? ⟨tb, 0, none⟩ = some (.slice oa on oc) := hBt.cell 0
      clear hy
      by_cases hk8 : G2.1.kind = 8
      · rw [hk8] at y0
        obtain ⟨N, hN⟩ : ∃ N, N = G2.1.n := ⟨_, rfl⟩
        rw [← hN] at y1
        have HNN := Lib.hid hN
        have HK8 := Lib.hid hk8
        clear hN hk8
        go_wp2_with (first
          | (with_reducible refine at_store 24 (.tmp 6) (.tmp 25) ?_; refine wpList_store_mid rfl 24 (.tmp 6) (.tmp 25) rfl bb 0 cc.toArray rfl rfl HThcc.out HSicc.out HOncc.out ?_; rw [HWcc.out]))
        refine (within_any N 1 (on : Int) w6).mono ?_
        rintro e w9 ⟨rfl, hP9⟩
        have hBt := hBt.ext hP9 id
        have hBr := hBr.ext hP9 id
        have hB6 := hB6.ext hP9 id
        have hP := hP.pure hP9
        have y1 := hP9.cell_some y1 id
        have t0 := hP9.cell_some t0 id
        clear y0
        by_cases hin : 1 ≤ N ∧ N ≤ (on : Int)
        · obtain ⟨j, hj⟩ : ∃ j : Nat, N = (j : Int) + 1 := ⟨(N - 1).toNat, by omega⟩
          have hjl : j < on := by omega
          obtain ⟨u, hu⟩ : ∃ u, objs[j]? = some u := ⟨_, List.getElem?_eq_getElem (by rw [← HOn.out]; exact hjl)⟩
          obtain ⟨ub, uo, ucs, rfl, hur, hul, huL, _⟩ := HOK.out.at j u hu
          have HFr : Hid (F = (u.v, true)) := Lib.hid (by rw [HFo.out]; exact follow_yes hg2 HK8.out (by rw [← HNN.out]; exact hj) hu)
          have hur' : w9.rangeAt ub (uo + j * 6) ucs := fun i x hx => (hP0.pure hP).cell_some (hur i x hx) id
          rw [show decide (1 ≤ N ∧ N ≤ (on : Int)) = true by simp [hin]]
          rw [hj] at y1
          have hji2 : (1 : Int) ≤ (j : Int) + 1 := by omega
          have hji3 : (j : Int) + 1 ≤ (on : Int) := by omega
          have hjn : (j : Int) < (on : Int) := by omega
          have hj0 : (0 : Int) ≤ (j : Int) := by omega
          have hj1 : (j : Int) + 1 - 1 = (j : Int) := by omega
          clear hin hj
          have HThu : Hid (w9.there bb 0 ucs.toArray.size) := Lib.hid (by rw [show ucs.toArray.size = 4 by simpa using hul]; exact hB6.there 4 hl6.symm)
          have HSiu : Hid ((Try.prog.info? 24).map (·.size) = some ucs.toArray.size) := Lib.hid (by rw [show ucs.toArray.size = 4 by simpa using hul]; exact size24)
          have HOnu := Lib.hid huL.one
          have HLu := Lib.hid hul
          obtain ⟨wv, hwv⟩ : ∃ z, z = w9.setCells bb 0 ucs := ⟨_, rfl⟩
          have hXv : Ext (fun k => k = bb) w9 wv := hwv ▸ Ext.setCells ucs 0 w9 (Ext.refl _ _) (fun _ => rfl)
          have hB6 : BlockIs wv bb ucs 24 := hwv ▸ hB6.setAll ucs (by rw [hl6, hul])
          have hBt := hBt.ext hXv (fun e => by have e' : tb = bb := e; omega)
          have hBr := hBr.ext hXv (fun e => by have e' : tb + 1 = bb := e; omega)
          have hP : Pure w wv := hP.trans hXv (fun i hi e => by have e' : i = bb := e; have := HTb.out; omega)
          have HWv : Hid (w9.setCells bb 0 ucs.toArray.toList = wv) := Lib.hid (by rw [hwv])
          have hL6 := huL
          have hl6 := hul
          clear hwv hXv huL hul hu
          have HThz : Hid (wv.there (tb + 1) 0 ucs.toArray.size) := Lib.hid (by rw [List.size_toArray, hl6]; exact hBr.there 4 rfl)
          have HSiz : Hid ((Try.prog.info? 24).map (·.size) = some ucs.toArray.size) := Lib.hid (by rw [List.size_toArray, hl6]; exact size24)
          have HOnz := Lib.hid hL6.one
          have HLz := Lib.hid hl6
          have HBz := Lib.hid (hBr.setAll ucs hl6.symm)
          have HPz : Hid (Pure w (wv.setCells (tb + 1) 0 ucs)) := Lib.hid (Ext.setCells _ 0 wv hP (b := tb + 1) (fun h => by have := HTb.out; omega))
          have HLLz := Lib.hid hL6
          have hR6 := hB6.range
          clear hBr hBt hP hL6 hl6 hB6
          go_wp2_with (first
            | (with_reducible refine at_load 24 (.tmp 47) ?_; refine wpList_load_mid rfl 24 (.tmp 47) rfl ub (uo + j * 6) rfl ucs _ hur' Try.underlying24 rfl (sz24 HLu.out) ?_)
            | (with_reducible refine at_store 24 (.tmp 6) (.tmp 48) ?_; refine wpList_store_mid rfl 24 (.tmp 6) (.tmp 48) rfl bb 0 ucs.toArray rfl rfl HThu.out HSiu.out HOnu.out ?_; rw [HWv.out])
            | (with_reducible refine at_load 24 (.tmp 6) ?_; refine wpList_load_mid rfl 24 (.tmp 6) rfl bb 0 rfl ucs _ hR6 Try.underlying24 rfl (sz24 HLz.out) ?_)
            | (with_reducible refine at_store 24 (.tmp 4) (.tmp 49) ?_; refine wpList_store_mid rfl 24 (.tmp 4) (.tmp 49) rfl (tb + 1) 0 ucs.toArray rfl rfl HThz.out HSiz.out HOnz.out ?_))
          refine bodyPost_ret (results_row2 rfl _ _ (tb + 1) _ ucs _ rfl HBz.out Try.underlying24 rfl (by rw [HLz.out]; exact size24)) rfl ?_
          exact ⟨ucs, by rw [HFr.out]; rfl, by rw [HFr.out]; exact HLLz.out, HPz.out⟩
        · have HFr : Hid (F = G2) := Lib.hid (by rw [HFo.out]; exact follow_no (fun h => hin (by rw [HNN.out, HOn.out]; exact h.2.2)))
          rw [show decide (1 ≤ N ∧ N ≤ (on : Int)) = false by simp [hin]]
          clear hin
          have HThz : Hid (w9.there (tb + 1) 0 cc.toArray.size) := Lib.hid (by rw [List.size_toArray, hl6]; exact hBr.there 4 rfl)
          have HSiz : Hid ((Try.prog.info? 24).map (·.size) = some cc.toArray.size) := Lib.hid (by rw [List.size_toArray, hl6]; exact size24)
          have HOnz := Lib.hid hL6.one
          have HLz := Lib.hid hl6
          have HBz := Lib.hid (hBr.setAll cc hl6.symm)
          have HPz : Hid (Pure w (w9.setCells (tb + 1) 0 cc)) := Lib.hid (Ext.setCells _ 0 w9 hP (b := tb + 1) (fun h => by have := HTb.out; omega))
          have HLLz := Lib.hid hL6
          have hR6 := hB6.range
          clear hBr hBt hP hL6 hl6 hB6
          go_wp2_with (first
            | (with_reducible refine at_load 24 (.tmp 6) ?_; refine wpList_load_mid rfl 24 (.tmp 6) rfl bb 0 rfl cc _ hR6 Try.underlying24 rfl (sz24 HLz.out) ?_)
            | (with_reducible refine at_store 24 (.tmp 4) (.tmp 49) ?_; refine wpList_store_mid rfl 24 (.tmp 4) (.tmp 49) rfl (tb + 1) 0 cc.toArray rfl rfl HThz.out HSiz.out HOnz.out ?_))
          refine bodyPost_ret (results_row2 rfl _ _ (tb + 1) _ cc _ rfl HBz.out Try.underlying24 rfl (by rw [HLz.out]; exact size24)) rfl ?_
          exact ⟨cc, by rw [HFr.out, hg2]; rfl, by rw [HFr.out]; exact HLLz.out, HPz.out⟩
      · have hk8' : (G2.1.kind == 8) = false := by simpa using hk8
        have HFr : Hid (F = G2) := Lib.hid (by rw [HFo.out]; exact follow_no (fun h => hk8 h.2.1))
        clear hk8
        have HThz : Hid (w6.there (tb + 1) 0 cc.toArray.size) := Lib.hid (by rw [List.size_toArray, hl6]; exact hBr.there 4 rfl)
        have HSiz : Hid ((Try.prog.info? 24).map (·.size) = some cc.toArray.size) := Lib.hid (by rw [List.size_toArray, hl6]; exact size24)
        have HOnz := Lib.hid hL6.one
        have HLz := Lib.hid hl6
        have HBz := Lib.hid (hBr.setAll cc hl6.symm)
        have HPz : Hid (Pure w (w6.setCells (tb + 1) 0 cc)) := Lib.hid (Ext.setCells _ 0 w6 hP (b := tb + 1) (fun h => by have := HTb.out; omega))
        have HLLz := Lib.hid hL6
        have hR6 := hB6.range
        clear hBr hBt hP hL6 hl6 hB6
        go_wp2_with (first
          | (with_reducible refine at_store 24 (.tmp 6) (.tmp 25) ?_; refine wpList_store_mid rfl 24 (.tmp 6) (.tmp 25) rfl bb 0 cc.toArray rfl rfl HThcc.out HSicc.out HOncc.out ?_; rw [HWcc.out])
          | (with_reducible refine at_load 24 (.tmp 6) ?_; refine wpList_load_mid rfl 24 (.tmp 6) rfl bb 0 rfl cc _ hR6 Try.underlying24 rfl (sz24 HLz.out) ?_)
          | (with_reducible refine at_store 24 (.tmp 4) (.tmp 49) ?_; refine wpList_store_mid rfl 24 (.tmp 4) (.tmp 49) rfl (tb + 1) 0 cc.toArray rfl rfl HThz.out HSiz.out HOnz.out ?_))
        refine bodyPost_ret (results_row2 rfl _ _ (tb + 1) _ cc _ rfl HBz.out Try.underlying24 rfl (by rw [HLz.out]; exact size24)) rfl ?_
        exact ⟨cc, by rw [HFr.out, hg2]; rfl, by rw [HFr.out]; exact HLLz.out, HPz.out⟩
    | false =>
      have hg2 : G2.2 = false := his2.symm
      have HFr : Hid (F = G2) := Lib.hid (by rw [HFe.out, if_neg (by rw [← HI1.out]; decide)]; exact follow_no (fun h => by have := h.1; rw [hg2] at this; cases this))
      clear his2 HFe
      have HThz : Hid (w6.there (tb + 1) 0 cc.toArray.size) := Lib.hid (by rw [List.size_toArray, hl6]; exact hBr.there 4 rfl)
      have HSiz : Hid ((Try.prog.info? 24).map (·.size) = some cc.toArray.size) := Lib.hid (by rw [List.size_toArray, hl6]; exact size24)
      have HOnz := Lib.hid hL6.one
      have HLz := Lib.hid hl6
      have HBz := Lib.hid (hBr.setAll cc hl6.symm)
      have HPz : Hid (Pure w (w6.setCells (tb + 1) 0 cc)) := Lib.hid (Ext.setCells _ 0 w6 hP (b := tb + 1) (fun h => by have := HTb.out; omega))
      have HLLz := Lib.hid hL6
      have hR6 := hB6.range
      clear hBr hBt hP hL6 hl6 hB6
      go_wp2_with (first
        | (with_reducible refine at_store 24 (.tmp 6) (.tmp 25) ?_; refine wpList_store_mid rfl 24 (.tmp 6) (.tmp 25) rfl bb 0 cc.toArray rfl rfl HThcc.out HSicc.out HOncc.out ?_; rw [HWcc.out])
        | (with_reducible refine at_load 24 (.tmp 6) ?_; refine wpList_load_mid rfl 24 (.tmp 6) rfl bb 0 rfl cc _ hR6 Try.underlying24 rfl (sz24 HLz.out) ?_)
        | (with_reducible refine at_store 24 (.tmp 4) (.tmp 49) ?_; refine wpList_store_mid rfl 24 (.tmp 4) (.tmp 49) rfl (tb + 1) 0 cc.toArray rfl rfl HThz.out HSiz.out HOnz.out ?_))
      refine bodyPost_ret (results_row2 rfl _ _ (tb + 1) _ cc _ rfl HBz.out Try.underlying24 rfl (by rw [HLz.out]; exact size24)) rfl ?_
      exact ⟨cc, by rw [HFr.out, hg2]; rfl, by rw [HFr.out]; exact HLLz.out, HPz.out⟩
end Go.Proofs.Ytnibjjpohhknkaa
