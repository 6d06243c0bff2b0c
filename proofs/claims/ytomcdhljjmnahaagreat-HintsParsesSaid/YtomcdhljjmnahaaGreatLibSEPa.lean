import Derived.Test.YtomcdhljjmnahaaGreatLibSCPa
import Derived.Test.YtomcdhljjmnahaaGreatLibSDPa
import Derived.Test.YtomcdhljjmnahaaGreatLibBAPa
import Derived.Test.YtomcdhljjmnahaaGreatLibBBPa
import Derived.Test.YtomcdhljjmnahaaGreatLibSBPa
import Derived.Test.YtomcdhljjmnahaaGreatSqPa
set_option linter.unusedVariables false
set_option linter.unusedSimpArgs false
set_option maxRecDepth 100000
namespace Go.Proofs.YtomcdhljjmnahaaGreat.S27
open Go.RowKit C27
theorem ext4b (w : World) (n : Nat) : Ext (fun i => i = n) w ((((w.setCell ⟨n, 0, none⟩ (.int .i64 0)).setCell ⟨n, 1, none⟩ (.int .i64 0)).setCell ⟨n, 2, none⟩ (.int .i64 0)).setCell ⟨n, 3, none⟩ (.slice none 0 0)) := ((((Ext.refl (fun i => i = n) w).setCell (p := ⟨n, 0, none⟩) (fun _ => rfl) (.int .i64 0)).setCell (p := ⟨n, 1, none⟩) (fun _ => rfl) (.int .i64 0)).setCell (p := ⟨n, 2, none⟩) (fun _ => rfl) (.int .i64 0)).setCell (p := ⟨n, 3, none⟩) (fun _ => rfl) (.slice none 0 0)
set_option maxHeartbeats 8000000 in
theorem refdecode_any (bd : Option Addr) (bc : Nat) (bl : List UInt8) (w : World) (hb : Bytes w bd bl) (hnil : bd = none → bc = 0) (hle : bl.length ≤ bc) (hl : bl.length ≤ 10000000) :
 Calls Tryz.prog 49 #[.slice bd bl.length bc] w (DecRes (bitsOf true bl) w) := by
 obtain ⟨w1, hw1⟩ : ∃ w1, w1 = (w.alloc (.cells #[.int .i64 0, .int .i64 0, .int .i64 0, .slice none 0 0] 73)).alloc (.cells #[.int .i64 0, .int .i64 0, .int .i64 0, .slice none 0 0] 73) := ⟨_, rfl⟩
 obtain ⟨ub, hub⟩ : ∃ ub, ub = w.heap.size + 1 := ⟨_, rfl⟩
 have hT : BlockIs w1 w.heap.size [.int .i64 0, .int .i64 0, .int .i64 0, .slice none 0 0] 73 := hw1 ▸ (BlockIs.new w _ _).alloc _
 have hU : BlockIs w1 ub [.int .i64 0, .int .i64 0, .int .i64 0, .slice none 0 0] 73 := by
  have h := BlockIs.new (w.alloc (.cells #[.int .i64 0, .int .i64 0, .int .i64 0, .slice none 0 0] 73)) [.int .i64 0, .int .i64 0, .int .i64 0, .slice none 0 0] 73
  rw [World.size_alloc, ← hub] at h
  rw [hw1]; exact h
 have hP : Pure w w1 := hw1 ▸ (ext_alloc w _).alloc _
 have hz : w1.heap.size = w.heap.size + 2 := by rw [hw1, World.size_alloc, World.size_alloc]
 have HB := qh (refbits_any true bd bc bl w1 (hb.pure hP) hl)
 have HW1 := qh hw1
 have HUB := qh hub
 have hlt : w.heap.size < ub := by omega
 have hlt1 : ub < w1.heap.size := by omega
 clear hw1 hub
 go_enter Tryz.func49, Tryz.ntmps49
 go_wp2_with fail
 rw [← HW1.out]
 simp only [← HUB.out]
 refine HB.out.mono ?_
 obtain ⟨bs, hbs⟩ : ∃ bs, bs = bitsOf true bl := ⟨_, rfl⟩
 have hb8 : bs.length = 8 * bl.length := by rw [hbs]; exact bitsOf_length true bl
 rw [← hbs]
 clear HB
 have HBS := qh hbs
 clear hbs
 rintro e w2 ⟨a, c, rfl, hBR⟩
 obtain ⟨_, _, hh, hbc, _, hba, hbx⟩ := own_form hBR.own
 cases hh
 have hRow := own_row hBR.own
 have hbn : ∀ g, a = some g → ub < g.block := fun g hg => by have := (hbx g hg).1; omega
 have hT := hT.ext hBR.pure id
 have hU := hU.ext hBR.pure id
 have hP := hP.pure hBR.pure
 have hz2 := hBR.pure.size
 clear hBR hbx
 have hbl : bs.length ≤ 1000000000 := by omega
 have HB8 := qh hb8
 have hbl8 : bs.length ≤ 80000000 := by omega
 clear hb8
 by_cases hlen : (bs.length : Int) < 192
 ·have HTo : Hid (DecTo bs (dErr 10)) := qh (Or.inl ⟨by omega, rfl⟩)
  have t0 : w2.cell? ⟨w.heap.size, 0, none⟩ = some (.int .i64 0) := hT.cell 0
  have t1 : w2.cell? ⟨w.heap.size, 0 + 1, none⟩ = some (.int .i64 0) := hT.cell 1
  have t2 : w2.cell? ⟨w.heap.size, 0 + 2, none⟩ = some (.int .i64 0) := hT.cell 2
  have t3 : w2.cell? ⟨w.heap.size, 0 + 3, none⟩ = some (.slice none 0 0) := hT.cell 3
  have z0 : w2.frozen? ⟨w.heap.size, 0, none⟩ = false := hT.free 0
  have z1 : w2.frozen? ⟨w.heap.size, 0 + 1, none⟩ = false := hT.free 1
  have z2 : w2.frozen? ⟨w.heap.size, 0 + 2, none⟩ = false := hT.free 2
  have z3 : w2.frozen? ⟨w.heap.size, 0 + 3, none⟩ = false := hT.free 3
  go_wp2_with fail
  have hT9 := (((hT.set 0 (.int .i64 0)).set 1 (.int .i64 0)).set 2 (.int .i64 0)).set 3 (.slice none 0 0)
  have hP9 : Pure w _ := hP.trans (ext4b w2 w.heap.size) (fun i hi e => by have e' : i = w.heap.size := e; omega)
  obtain ⟨wZ, hwZ⟩ : ∃ wZ, wZ = (((w2.setCell ⟨w.heap.size, 0, none⟩ (.int .i64 0)).setCell ⟨w.heap.size, 1, none⟩ (.int .i64 0)).setCell ⟨w.heap.size, 2, none⟩ (.int .i64 0)).setCell ⟨w.heap.size, 3, none⟩ (.slice none 0 0) := ⟨_, rfl⟩
  rw [← hwZ] at hT9 hP9
  rw [← hwZ]
  clear hwZ
  simp only [sZ, sS] at hT9
  have y0 : wZ.cell? ⟨w.heap.size, 0, none⟩ = some (.int .i64 0) := hT9.cell 0
  have y1 : wZ.cell? ⟨w.heap.size, 1, none⟩ = some (.int .i64 0) := hT9.cell 1
  have y2 : wZ.cell? ⟨w.heap.size, 2, none⟩ = some (.int .i64 0) := hT9.cell 2
  have y3 : wZ.cell? ⟨w.heap.size, 3, none⟩ = some (.slice none 0 0) := hT9.cell 3
  refine bodyPost_ret (v := .tuple #[.agg #[.int .i64 0, .int .i64 0, .int .i64 0, .slice none 0 0], .int .i64 0, .int .i64 10]) (by simp [results, Tryz.results49, go_sem, y0, y1, y2, y3]) rfl ?_
  rw [← HBS.out]
  exact ⟨dErr 10, none, 0, rfl, HTo.out, (by intro i u hu; simp [dErr] at hu), fun _ => rfl, Nat.le_refl _, hP9⟩
 ·have HLen : Hid (192 ≤ bs.length) := qh (by omega)
  have hl192 : 192 ≤ bs.length := HLen.out
  go_wp2_with fail
  obtain ⟨v1, hv1⟩ : ∃ v, v = numAt bs 0 32 := ⟨_, rfl⟩
  have hG := refget_yes bs a c 0 32 w2 hRow hbc hba hbl (by omega) (by omega)
  rw [← hv1] at hG
  have lv1 : v1 < 4294967296 := hv1 ▸ numAt_lt32 bs 0 32 (by omega)
  have HV1 := qh hv1
  clear hv1
  refine hG.mono ?_
  clear hG
  rintro e wq ⟨rfl, hq⟩
  rw [hq]
  clear hq wq
  have u0 : w2.cell? ⟨ub, 0, none⟩ = some (.int .i64 0) := hU.cell 0
  have u1 : w2.frozen? ⟨ub, 0, none⟩ = false := hU.free 0
  go_wp2_with fail
  obtain ⟨w3, hWN⟩ : ∃ W, W = w2.setCell ⟨ub, 0, none⟩ (.int .i64 v1) := ⟨_, rfl⟩
  have hX : Ext (fun i => i = ub) w2 w3 := hWN ▸ (Ext.refl (fun i => i = ub) w2).setCell (p := ⟨ub, 0, none⟩) (fun _ => rfl) (.int .i64 v1)
  have hUn := hU.set 0 (.int .i64 v1)
  rw [← hWN] at hUn
  simp only [sZ, sS] at hUn
  rw [← hWN]
  have hRown := hRow.ext hX (fun g hg e => by have := hbn g hg; have e' : g.block = ub := e; omega)
  have hTn := hT.ext hX (fun e => by have e' : w.heap.size = ub := e; omega)
  have hPn := hP.trans hX (fun i hi e => by have e' : i = ub := e; omega)
  have hzn := hX.size
  clear hX hWN u0 u1 hRow hT hP hU
  have hRow := hRown
  have hT := hTn
  have hP := hPn
  have hU := hUn
  clear hRown hTn hPn hUn
  go_wp2_with fail
  obtain ⟨v2, hv2⟩ : ∃ v, v = numAt bs 32 32 := ⟨_, rfl⟩
  have hG := refget_yes bs a c 32 32 w3 hRow hbc hba hbl (by omega) (by omega)
  rw [← hv2] at hG
  have lv2 : v2 < 4294967296 := hv2 ▸ numAt_lt32 bs 32 32 (by omega)
  have HV2 := qh hv2
  clear hv2
  refine hG.mono ?_
  clear hG
  rintro e wq ⟨rfl, hq⟩
  rw [hq]
  clear hq wq
  have u0 : w3.cell? ⟨ub, 0 + 1, none⟩ = some (.int .i64 0) := hU.cell 1
  have u1 : w3.frozen? ⟨ub, 0 + 1, none⟩ = false := hU.free 1
  go_wp2_with fail
  obtain ⟨w4, hWN⟩ : ∃ W, W = w3.setCell ⟨ub, 1, none⟩ (.int .i64 v2) := ⟨_, rfl⟩
  have hX : Ext (fun i => i = ub) w3 w4 := hWN ▸ (Ext.refl (fun i => i = ub) w3).setCell (p := ⟨ub, 1, none⟩) (fun _ => rfl) (.int .i64 v2)
  have hUn := hU.set 1 (.int .i64 v2)
  rw [← hWN] at hUn
  simp only [sZ, sS] at hUn
  rw [← hWN]
  have hRown := hRow.ext hX (fun g hg e => by have := hbn g hg; have e' : g.block = ub := e; omega)
  have hTn := hT.ext hX (fun e => by have e' : w.heap.size = ub := e; omega)
  have hPn := hP.trans hX (fun i hi e => by have e' : i = ub := e; omega)
  have hzn := hX.size
  clear hX hWN u0 u1 hRow hT hP hU
  have hRow := hRown
  have hT := hTn
  have hP := hPn
  have hU := hUn
  clear hRown hTn hPn hUn
  go_wp2_with fail
  obtain ⟨v3, hv3⟩ : ∃ v, v = numAt bs 64 32 := ⟨_, rfl⟩
  have hG := refget_yes bs a c 64 32 w4 hRow hbc hba hbl (by omega) (by omega)
  rw [← hv3] at hG
  have lv3 : v3 < 4294967296 := hv3 ▸ numAt_lt32 bs 64 32 (by omega)
  have HV3 := qh hv3
  clear hv3
  refine hG.mono ?_
  clear hG
  rintro e wq ⟨rfl, hq⟩
  rw [hq]
  clear hq wq
  have u0 : w4.cell? ⟨ub, 0 + 2, none⟩ = some (.int .i64 0) := hU.cell 2
  have u1 : w4.frozen? ⟨ub, 0 + 2, none⟩ = false := hU.free 2
  go_wp2_with fail
  obtain ⟨w5, hWN⟩ : ∃ W, W = w4.setCell ⟨ub, 2, none⟩ (.int .i64 v3) := ⟨_, rfl⟩
  have hX : Ext (fun i => i = ub) w4 w5 := hWN ▸ (Ext.refl (fun i => i = ub) w4).setCell (p := ⟨ub, 2, none⟩) (fun _ => rfl) (.int .i64 v3)
  have hUn := hU.set 2 (.int .i64 v3)
  rw [← hWN] at hUn
  simp only [sZ, sS] at hUn
  rw [← hWN]
  have hRown := hRow.ext hX (fun g hg e => by have := hbn g hg; have e' : g.block = ub := e; omega)
  have hTn := hT.ext hX (fun e => by have e' : w.heap.size = ub := e; omega)
  have hPn := hP.trans hX (fun i hi e => by have e' : i = ub := e; omega)
  have hzn := hX.size
  clear hX hWN u0 u1 hRow hT hP hU
  have hRow := hRown
  have hT := hTn
  have hP := hPn
  have hU := hUn
  clear hRown hTn hPn hUn
  go_wp2_with fail
  obtain ⟨v4, hv4⟩ : ∃ v, v = numAt bs 96 32 := ⟨_, rfl⟩
  have hG := refget_yes bs a c 96 32 w5 hRow hbc hba hbl (by omega) (by omega)
  rw [← hv4] at hG
  have lv4 : v4 < 4294967296 := hv4 ▸ numAt_lt32 bs 96 32 (by omega)
  have HV4 := qh hv4
  clear hv4
  refine hG.mono ?_
  clear hG
  rintro e wq ⟨rfl, hq⟩
  rw [hq]
  clear hq wq
  go_wp2_with fail
  obtain ⟨v5, hv5⟩ : ∃ v, v = numAt bs 128 16 := ⟨_, rfl⟩
  have hG := refget_yes bs a c 128 16 w5 hRow hbc hba hbl (by omega) (by omega)
  rw [← hv5] at hG
  have lv5 : v5 < 4294967296 := hv5 ▸ numAt_lt32 bs 128 16 (by omega)
  have HV5 := qh hv5
  clear hv5
  refine hG.mono ?_
  clear hG
  rintro e wq ⟨rfl, hq⟩
  rw [hq]
  clear hq wq
  go_wp2_with fail
  obtain ⟨v6, hv6⟩ : ∃ v, v = numAt bs 144 32 := ⟨_, rfl⟩
  have hG := refget_yes bs a c 144 32 w5 hRow hbc hba hbl (by omega) (by omega)
  rw [← hv6] at hG
  have lv6 : v6 < 4294967296 := hv6 ▸ numAt_lt32 bs 144 32 (by omega)
  have HV6 := qh hv6
  clear hv6
  refine hG.mono ?_
  clear hG
  rintro e wq ⟨rfl, hq⟩
  rw [hq]
  clear hq wq
  go_wp2_with fail
  obtain ⟨v7, hv7⟩ : ∃ v, v = numAt bs 176 16 := ⟨_, rfl⟩
  have hG := refget_yes bs a c 176 16 w5 hRow hbc hba hbl (by omega) (by omega)
  rw [← hv7] at hG
  have lv7 : v7 < 4294967296 := hv7 ▸ numAt_lt32 bs 176 16 (by omega)
  have HV7 := qh hv7
  clear hv7
  refine hG.mono ?_
  clear hG
  rintro e wq ⟨rfl, hq⟩
  rw [hq]
  clear hq wq
  have u0 : w5.cell? ⟨ub, 0, none⟩ = some (.int .i64 v1) := hU.cell 0
  have u1 : w5.cell? ⟨ub, 0 + 1, none⟩ = some (.int .i64 v2) := hU.cell 1
  have u2 : w5.cell? ⟨ub, 0 + 2, none⟩ = some (.int .i64 v3) := hU.cell 2
  by_cases c1 : (4096 : Int) < ((v1 : Nat) : Int)
  ·
   have HTo : Hid (DecTo bs (dErr 27)) := qh (Or.inr ⟨HLen.out, Or.inl ⟨fun hk => by obtain ⟨h1, h2, h3, h4, h5, h6⟩ := hk; have q1 := HV1.out; have q2 := HV2.out; have q3 := HV3.out; have q4 := HV4.out; have q5 := HV5.out; have q7 := HV7.out; unfold hO at h1; unfold hA at h2; unfold hN at h3 h4; unfold hF at h4; unfold hG at h5; unfold hW at h6; omega, rfl⟩⟩)
   try have cD : decide ((32 : Int) < ((v7 : Nat) : Int)) = true := decide_eq_true (by omega)
   have t0 : w5.cell? ⟨w.heap.size, 0, none⟩ = some (.int .i64 0) := hT.cell 0
   have t1 : w5.cell? ⟨w.heap.size, 0 + 1, none⟩ = some (.int .i64 0) := hT.cell 1
   have t2 : w5.cell? ⟨w.heap.size, 0 + 2, none⟩ = some (.int .i64 0) := hT.cell 2
   have t3 : w5.cell? ⟨w.heap.size, 0 + 3, none⟩ = some (.slice none 0 0) := hT.cell 3
   have z0 : w5.frozen? ⟨w.heap.size, 0, none⟩ = false := hT.free 0
   have z1 : w5.frozen? ⟨w.heap.size, 0 + 1, none⟩ = false := hT.free 1
   have z2 : w5.frozen? ⟨w.heap.size, 0 + 2, none⟩ = false := hT.free 2
   have z3 : w5.frozen? ⟨w.heap.size, 0 + 3, none⟩ = false := hT.free 3
   go_wp2_with fail
   have hT9 := (((hT.set 0 (.int .i64 0)).set 1 (.int .i64 0)).set 2 (.int .i64 0)).set 3 (.slice none 0 0)
   have hP9 : Pure w _ := hP.trans (ext4b w5 w.heap.size) (fun i hi e => by have e' : i = w.heap.size := e; omega)
   obtain ⟨wZ, hwZ⟩ : ∃ wZ, wZ = (((w5.setCell ⟨w.heap.size, 0, none⟩ (.int .i64 0)).setCell ⟨w.heap.size, 1, none⟩ (.int .i64 0)).setCell ⟨w.heap.size, 2, none⟩ (.int .i64 0)).setCell ⟨w.heap.size, 3, none⟩ (.slice none 0 0) := ⟨_, rfl⟩
   rw [← hwZ] at hT9 hP9
   rw [← hwZ]
   clear hwZ
   simp only [sZ, sS] at hT9
   have y0 : wZ.cell? ⟨w.heap.size, 0, none⟩ = some (.int .i64 0) := hT9.cell 0
   have y1 : wZ.cell? ⟨w.heap.size, 1, none⟩ = some (.int .i64 0) := hT9.cell 1
   have y2 : wZ.cell? ⟨w.heap.size, 2, none⟩ = some (.int .i64 0) := hT9.cell 2
   have y3 : wZ.cell? ⟨w.heap.size, 3, none⟩ = some (.slice none 0 0) := hT9.cell 3
   refine bodyPost_ret (v := .tuple #[.agg #[.int .i64 0, .int .i64 0, .int .i64 0, .slice none 0 0], .int .i64 0, .int .i64 27]) (by simp [results, Tryz.results49, go_sem, y0, y1, y2, y3]) rfl ?_
   rw [← HBS.out]
   exact ⟨dErr 27, none, 0, rfl, HTo.out, (by intro i u hu; simp [dErr] at hu), fun _ => rfl, Nat.le_refl _, hP9⟩
  ·by_cases c2 : (2147483647 : Int) < ((v2 : Nat) : Int)
   ·
    have HTo : Hid (DecTo bs (dErr 27)) := qh (Or.inr ⟨HLen.out, Or.inl ⟨fun hk => by obtain ⟨h1, h2, h3, h4, h5, h6⟩ := hk; have q1 := HV1.out; have q2 := HV2.out; have q3 := HV3.out; have q4 := HV4.out; have q5 := HV5.out; have q7 := HV7.out; unfold hO at h1; unfold hA at h2; unfold hN at h3 h4; unfold hF at h4; unfold hG at h5; unfold hW at h6; omega, rfl⟩⟩)
    try have cD : decide ((32 : Int) < ((v7 : Nat) : Int)) = true := decide_eq_true (by omega)
    have t0 : w5.cell? ⟨w.heap.size, 0, none⟩ = some (.int .i64 0) := hT.cell 0
    have t1 : w5.cell? ⟨w.heap.size, 0 + 1, none⟩ = some (.int .i64 0) := hT.cell 1
    have t2 : w5.cell? ⟨w.heap.size, 0 + 2, none⟩ = some (.int .i64 0) := hT.cell 2
    have t3 : w5.cell? ⟨w.heap.size, 0 + 3, none⟩ = some (.slice none 0 0) := hT.cell 3
    have z0 : w5.frozen? ⟨w.heap.size, 0, none⟩ = false := hT.free 0
    have z1 : w5.frozen? ⟨w.heap.size, 0 + 1, none⟩ = false := hT.free 1
    have z2 : w5.frozen? ⟨w.heap.size, 0 + 2, none⟩ = false := hT.free 2
    have z3 : w5.frozen? ⟨w.heap.size, 0 + 3, none⟩ = false := hT.free 3
    go_wp2_with fail
    have hT9 := (((hT.set 0 (.int .i64 0)).set 1 (.int .i64 0)).set 2 (.int .i64 0)).set 3 (.slice none 0 0)
    have hP9 : Pure w _ := hP.trans (ext4b w5 w.heap.size) (fun i hi e => by have e' : i = w.heap.size := e; omega)
    obtain ⟨wZ, hwZ⟩ : ∃ wZ, wZ = (((w5.setCell ⟨w.heap.size, 0, none⟩ (.int .i64 0)).setCell ⟨w.heap.size, 1, none⟩ (.int .i64 0)).setCell ⟨w.heap.size, 2, none⟩ (.int .i64 0)).setCell ⟨w.heap.size, 3, none⟩ (.slice none 0 0) := ⟨_, rfl⟩
    rw [← hwZ] at hT9 hP9
    rw [← hwZ]
    clear hwZ
    simp only [sZ, sS] at hT9
    have y0 : wZ.cell? ⟨w.heap.size, 0, none⟩ = some (.int .i64 0) := hT9.cell 0
    have y1 : wZ.cell? ⟨w.heap.size, 1, none⟩ = some (.int .i64 0) := hT9.cell 1
    have y2 : wZ.cell? ⟨w.heap.size, 2, none⟩ = some (.int .i64 0) := hT9.cell 2
    have y3 : wZ.cell? ⟨w.heap.size, 3, none⟩ = some (.slice none 0 0) := hT9.cell 3
    refine bodyPost_ret (v := .tuple #[.agg #[.int .i64 0, .int .i64 0, .int .i64 0, .slice none 0 0], .int .i64 0, .int .i64 27]) (by simp [results, Tryz.results49, go_sem, y0, y1, y2, y3]) rfl ?_
    rw [← HBS.out]
    exact ⟨dErr 27, none, 0, rfl, HTo.out, (by intro i u hu; simp [dErr] at hu), fun _ => rfl, Nat.le_refl _, hP9⟩
   ·by_cases c3 : (4096 : Int) < ((v4 : Nat) : Int)
    ·
     have HTo : Hid (DecTo bs (dErr 27)) := qh (Or.inr ⟨HLen.out, Or.inl ⟨fun hk => by obtain ⟨h1, h2, h3, h4, h5, h6⟩ := hk; have q1 := HV1.out; have q2 := HV2.out; have q3 := HV3.out; have q4 := HV4.out; have q5 := HV5.out; have q7 := HV7.out; unfold hO at h1; unfold hA at h2; unfold hN at h3 h4; unfold hF at h4; unfold hG at h5; unfold hW at h6; omega, rfl⟩⟩)
     try have cD : decide ((32 : Int) < ((v7 : Nat) : Int)) = true := decide_eq_true (by omega)
     have t0 : w5.cell? ⟨w.heap.size, 0, none⟩ = some (.int .i64 0) := hT.cell 0
     have t1 : w5.cell? ⟨w.heap.size, 0 + 1, none⟩ = some (.int .i64 0) := hT.cell 1
     have t2 : w5.cell? ⟨w.heap.size, 0 + 2, none⟩ = some (.int .i64 0) := hT.cell 2
     have t3 : w5.cell? ⟨w.heap.size, 0 + 3, none⟩ = some (.slice none 0 0) := hT.cell 3
     have z0 : w5.frozen? ⟨w.heap.size, 0, none⟩ = false := hT.free 0
     have z1 : w5.frozen? ⟨w.heap.size, 0 + 1, none⟩ = false := hT.free 1
     have z2 : w5.frozen? ⟨w.heap.size, 0 + 2, none⟩ = false := hT.free 2
     have z3 : w5.frozen? ⟨w.heap.size, 0 + 3, none⟩ = false := hT.free 3
     go_wp2_with fail
     have hT9 := (((hT.set 0 (.int .i64 0)).set 1 (.int .i64 0)).set 2 (.int .i64 0)).set 3 (.slice none 0 0)
     have hP9 : Pure w _ := hP.trans (ext4b w5 w.heap.size) (fun i hi e => by have e' : i = w.heap.size := e; omega)
     obtain ⟨wZ, hwZ⟩ : ∃ wZ, wZ = (((w5.setCell ⟨w.heap.size, 0, none⟩ (.int .i64 0)).setCell ⟨w.heap.size, 1, none⟩ (.int .i64 0)).setCell ⟨w.heap.size, 2, none⟩ (.int .i64 0)).setCell ⟨w.heap.size, 3, none⟩ (.slice none 0 0) := ⟨_, rfl⟩
     rw [← hwZ] at hT9 hP9
     rw [← hwZ]
     clear hwZ
     simp only [sZ, sS] at hT9
     have y0 : wZ.cell? ⟨w.heap.size, 0, none⟩ = some (.int .i64 0) := hT9.cell 0
     have y1 : wZ.cell? ⟨w.heap.size, 1, none⟩ = some (.int .i64 0) := hT9.cell 1
     have y2 : wZ.cell? ⟨w.heap.size, 2, none⟩ = some (.int .i64 0) := hT9.cell 2
     have y3 : wZ.cell? ⟨w.heap.size, 3, none⟩ = some (.slice none 0 0) := hT9.cell 3
     refine bodyPost_ret (v := .tuple #[.agg #[.int .i64 0, .int .i64 0, .int .i64 0, .slice none 0 0], .int .i64 0, .int .i64 27]) (by simp [results, Tryz.results49, go_sem, y0, y1, y2, y3]) rfl ?_
     rw [← HBS.out]
     exact ⟨dErr 27, none, 0, rfl, HTo.out, (by intro i u hu; simp [dErr] at hu), fun _ => rfl, Nat.le_refl _, hP9⟩
    ·by_cases c4 : ((v4 : Nat) : Int) < ((v3 : Nat) : Int)
     ·
      have HTo : Hid (DecTo bs (dErr 27)) := qh (Or.inr ⟨HLen.out, Or.inl ⟨fun hk => by obtain ⟨h1, h2, h3, h4, h5, h6⟩ := hk; have q1 := HV1.out; have q2 := HV2.out; have q3 := HV3.out; have q4 := HV4.out; have q5 := HV5.out; have q7 := HV7.out; unfold hO at h1; unfold hA at h2; unfold hN at h3 h4; unfold hF at h4; unfold hG at h5; unfold hW at h6; omega, rfl⟩⟩)
      try have cD : decide ((32 : Int) < ((v7 : Nat) : Int)) = true := decide_eq_true (by omega)
      have t0 : w5.cell? ⟨w.heap.size, 0, none⟩ = some (.int .i64 0) := hT.cell 0
      have t1 : w5.cell? ⟨w.heap.size, 0 + 1, none⟩ = some (.int .i64 0) := hT.cell 1
      have t2 : w5.cell? ⟨w.heap.size, 0 + 2, none⟩ = some (.int .i64 0) := hT.cell 2
      have t3 : w5.cell? ⟨w.heap.size, 0 + 3, none⟩ = some (.slice none 0 0) := hT.cell 3
      have z0 : w5.frozen? ⟨w.heap.size, 0, none⟩ = false := hT.free 0
      have z1 : w5.frozen? ⟨w.heap.size, 0 + 1, none⟩ = false := hT.free 1
      have z2 : w5.frozen? ⟨w.heap.size, 0 + 2, none⟩ = false := hT.free 2
      have z3 : w5.frozen? ⟨w.heap.size, 0 + 3, none⟩ = false := hT.free 3
      go_wp2_with fail
      have hT9 := (((hT.set 0 (.int .i64 0)).set 1 (.int .i64 0)).set 2 (.int .i64 0)).set 3 (.slice none 0 0)
      have hP9 : Pure w _ := hP.trans (ext4b w5 w.heap.size) (fun i hi e => by have e' : i = w.heap.size := e; omega)
      obtain ⟨wZ, hwZ⟩ : ∃ wZ, wZ = (((w5.setCell ⟨w.heap.size, 0, none⟩ (.int .i64 0)).setCell ⟨w.heap.size, 1, none⟩ (.int .i64 0)).setCell ⟨w.heap.size, 2, none⟩ (.int .i64 0)).setCell ⟨w.heap.size, 3, none⟩ (.slice none 0 0) := ⟨_, rfl⟩
      rw [← hwZ] at hT9 hP9
      rw [← hwZ]
      clear hwZ
      simp only [sZ, sS] at hT9
      have y0 : wZ.cell? ⟨w.heap.size, 0, none⟩ = some (.int .i64 0) := hT9.cell 0
      have y1 : wZ.cell? ⟨w.heap.size, 1, none⟩ = some (.int .i64 0) := hT9.cell 1
      have y2 : wZ.cell? ⟨w.heap.size, 2, none⟩ = some (.int .i64 0) := hT9.cell 2
      have y3 : wZ.cell? ⟨w.heap.size, 3, none⟩ = some (.slice none 0 0) := hT9.cell 3
      refine bodyPost_ret (v := .tuple #[.agg #[.int .i64 0, .int .i64 0, .int .i64 0, .slice none 0 0], .int .i64 0, .int .i64 27]) (by simp [results, Tryz.results49, go_sem, y0, y1, y2, y3]) rfl ?_
      rw [← HBS.out]
      exact ⟨dErr 27, none, 0, rfl, HTo.out, (by intro i u hu; simp [dErr] at hu), fun _ => rfl, Nat.le_refl _, hP9⟩
     ·by_cases c5 : (32 : Int) < ((v5 : Nat) : Int)
      ·
       have HTo : Hid (DecTo bs (dErr 27)) := qh (Or.inr ⟨HLen.out, Or.inl ⟨fun hk => by obtain ⟨h1, h2, h3, h4, h5, h6⟩ := hk; have q1 := HV1.out; have q2 := HV2.out; have q3 := HV3.out; have q4 := HV4.out; have q5 := HV5.out; have q7 := HV7.out; unfold hO at h1; unfold hA at h2; unfold hN at h3 h4; unfold hF at h4; unfold hG at h5; unfold hW at h6; omega, rfl⟩⟩)
       try have cD : decide ((32 : Int) < ((v7 : Nat) : Int)) = true := decide_eq_true (by omega)
       have t0 : w5.cell? ⟨w.heap.size, 0, none⟩ = some (.int .i64 0) := hT.cell 0
       have t1 : w5.cell? ⟨w.heap.size, 0 + 1, none⟩ = some (.int .i64 0) := hT.cell 1
       have t2 : w5.cell? ⟨w.heap.size, 0 + 2, none⟩ = some (.int .i64 0) := hT.cell 2
       have t3 : w5.cell? ⟨w.heap.size, 0 + 3, none⟩ = some (.slice none 0 0) := hT.cell 3
       have z0 : w5.frozen? ⟨w.heap.size, 0, none⟩ = false := hT.free 0
       have z1 : w5.frozen? ⟨w.heap.size, 0 + 1, none⟩ = false := hT.free 1
       have z2 : w5.frozen? ⟨w.heap.size, 0 + 2, none⟩ = false := hT.free 2
       have z3 : w5.frozen? ⟨w.heap.size, 0 + 3, none⟩ = false := hT.free 3
       go_wp2_with fail
       have hT9 := (((hT.set 0 (.int .i64 0)).set 1 (.int .i64 0)).set 2 (.int .i64 0)).set 3 (.slice none 0 0)
       have hP9 : Pure w _ := hP.trans (ext4b w5 w.heap.size) (fun i hi e => by have e' : i = w.heap.size := e; omega)
       obtain ⟨wZ, hwZ⟩ : ∃ wZ, wZ = (((w5.setCell ⟨w.heap.size, 0, none⟩ (.int .i64 0)).setCell ⟨w.heap.size, 1, none⟩ (.int .i64 0)).setCell ⟨w.heap.size, 2, none⟩ (.int .i64 0)).setCell ⟨w.heap.size, 3, none⟩ (.slice none 0 0) := ⟨_, rfl⟩
       rw [← hwZ] at hT9 hP9
       rw [← hwZ]
       clear hwZ
       simp only [sZ, sS] at hT9
       have y0 : wZ.cell? ⟨w.heap.size, 0, none⟩ = some (.int .i64 0) := hT9.cell 0
       have y1 : wZ.cell? ⟨w.heap.size, 1, none⟩ = some (.int .i64 0) := hT9.cell 1
       have y2 : wZ.cell? ⟨w.heap.size, 2, none⟩ = some (.int .i64 0) := hT9.cell 2
       have y3 : wZ.cell? ⟨w.heap.size, 3, none⟩ = some (.slice none 0 0) := hT9.cell 3
       refine bodyPost_ret (v := .tuple #[.agg #[.int .i64 0, .int .i64 0, .int .i64 0, .slice none 0 0], .int .i64 0, .int .i64 27]) (by simp [results, Tryz.results49, go_sem, y0, y1, y2, y3]) rfl ?_
       rw [← HBS.out]
       exact ⟨dErr 27, none, 0, rfl, HTo.out, (by intro i u hu; simp [dErr] at hu), fun _ => rfl, Nat.le_refl _, hP9⟩
      ·by_cases c6 : (32 : Int) < ((v7 : Nat) : Int)
       ·
        have HTo : Hid (DecTo bs (dErr 27)) := qh (Or.inr ⟨HLen.out, Or.inl ⟨fun hk => by obtain ⟨h1, h2, h3, h4, h5, h6⟩ := hk; have q1 := HV1.out; have q2 := HV2.out; have q3 := HV3.out; have q4 := HV4.out; have q5 := HV5.out; have q7 := HV7.out; unfold hO at h1; unfold hA at h2; unfold hN at h3 h4; unfold hF at h4; unfold hG at h5; unfold hW at h6; omega, rfl⟩⟩)
        try have cD : decide ((32 : Int) < ((v7 : Nat) : Int)) = true := decide_eq_true (by omega)
        have t0 : w5.cell? ⟨w.heap.size, 0, none⟩ = some (.int .i64 0) := hT.cell 0
        have t1 : w5.cell? ⟨w.heap.size, 0 + 1, none⟩ = some (.int .i64 0) := hT.cell 1
        have t2 : w5.cell? ⟨w.heap.size, 0 + 2, none⟩ = some (.int .i64 0) := hT.cell 2
        have t3 : w5.cell? ⟨w.heap.size, 0 + 3, none⟩ = some (.slice none 0 0) := hT.cell 3
        have z0 : w5.frozen? ⟨w.heap.size, 0, none⟩ = false := hT.free 0
        have z1 : w5.frozen? ⟨w.heap.size, 0 + 1, none⟩ = false := hT.free 1
        have z2 : w5.frozen? ⟨w.heap.size, 0 + 2, none⟩ = false := hT.free 2
        have z3 : w5.frozen? ⟨w.heap.size, 0 + 3, none⟩ = false := hT.free 3
        go_wp2_with fail
        have hT9 := (((hT.set 0 (.int .i64 0)).set 1 (.int .i64 0)).set 2 (.int .i64 0)).set 3 (.slice none 0 0)
        have hP9 : Pure w _ := hP.trans (ext4b w5 w.heap.size) (fun i hi e => by have e' : i = w.heap.size := e; omega)
        obtain ⟨wZ, hwZ⟩ : ∃ wZ, wZ = (((w5.setCell ⟨w.heap.size, 0, none⟩ (.int .i64 0)).setCell ⟨w.heap.size, 1, none⟩ (.int .i64 0)).setCell ⟨w.heap.size, 2, none⟩ (.int .i64 0)).setCell ⟨w.heap.size, 3, none⟩ (.slice none 0 0) := ⟨_, rfl⟩
        rw [← hwZ] at hT9 hP9
        rw [← hwZ]
        clear hwZ
        simp only [sZ, sS] at hT9
        have y0 : wZ.cell? ⟨w.heap.size, 0, none⟩ = some (.int .i64 0) := hT9.cell 0
        have y1 : wZ.cell? ⟨w.heap.size, 1, none⟩ = some (.int .i64 0) := hT9.cell 1
        have y2 : wZ.cell? ⟨w.heap.size, 2, none⟩ = some (.int .i64 0) := hT9.cell 2
        have y3 : wZ.cell? ⟨w.heap.size, 3, none⟩ = some (.slice none 0 0) := hT9.cell 3
        refine bodyPost_ret (v := .tuple #[.agg #[.int .i64 0, .int .i64 0, .int .i64 0, .slice none 0 0], .int .i64 0, .int .i64 27]) (by simp [results, Tryz.results49, go_sem, y0, y1, y2, y3]) rfl ?_
        rw [← HBS.out]
        exact ⟨dErr 27, none, 0, rfl, HTo.out, (by intro i u hu; simp [dErr] at hu), fun _ => rfl, Nat.le_refl _, hP9⟩
       ·
        have HOK : Hid (HeadOk bs) := qh (by have q1 := HV1.out; have q2 := HV2.out; have q3 := HV3.out; have q4 := HV4.out; have q5 := HV5.out; have q7 := HV7.out; exact ⟨by unfold hO; omega, by unfold hA; omega, by unfold hN; omega, by unfold hF hN; omega, by unfold hG; omega, by unfold hW; omega⟩)
        go_wp2_with fail
        refine (refrow_any bs a c 192 v4 v7 w5 hRow hbc hba hbl (by omega) (by omega) (by omega)).mono ?_
        rintro e w6 ⟨K, xa, xc, hFit, rfl, hOx, hE6⟩
        obtain ⟨at2, hat2⟩ : ∃ z : Int, z = (if K = v4 then ((al8 (192 + v4 * v7) : Nat) : Int) else 0) := ⟨_, rfl⟩
        obtain ⟨is2, his2⟩ : ∃ z : Bool, z = decide (K = v4) := ⟨_, rfl⟩
        rw [← hat2, ← his2]
        have HAT := qh hat2
        have HIS := qh his2
        clear hat2 his2
        obtain ⟨_, _, hh, hxc, _, hxa, hxb⟩ := own_form hOx
        cases hh
        have hRx := own_row hOx
        have hxn : ∀ g, xa = some g → w5.heap.size ≤ g.block ∧ g.block < w6.heap.size := fun g hg => ⟨(hxb g hg).1, (hxb g hg).2.1⟩
        have hU6 := hU.ext hE6 id
        have hT6 := hT.ext hE6 id
        have hP6 := hP.pure hE6
        have hRow6 := hRow.ext hE6 (fun _ _ => id)
        have hz6 := hE6.size
        have hub5 := hU.lt
        have hKle := hFit.le
        clear u0 u1 u2 hU hT hP hRow hxb hOx hE6
        go_wp2_with fail
        go_loopw [18] (fun i wr => ∃ (k : Nat) (la : Option Addr) (lc : Nat), k ≤ K ∧ i = .int .i64 k ∧ Hid (∀ x ∈ vals bs 192 v7 k, okL v6 x = true) ∧ BlockIs wr ub [.int .i64 v1, .int .i64 v2, .int .i64 v3, .slice la k lc] 73 ∧ wr.ownsRow w6.heap.size 3 1 (.slice la k lc) k ((vals bs 192 v7 k).map (fun x => intV (v6 + x))) ∧ Ext (fun i => i = ub) w6 wr) (fun i _ => K - (intOf i).toNat)
        case atStart => exact ⟨0, none, 0, Nat.zero_le _, rfl, qh (fun x hx => by simp [vals] at hx), hU6, World.ownsRow_nil _ _ _ _, Ext.refl _ _⟩
        case round =>
         obtain ⟨k, la, lc, hk, rfl, HOKs, hUk, hOk, hEk⟩ := hrel
         clear hU6
         have hTk := hT6.ext hEk (fun e => by have e' : w.heap.size = ub := e; omega)
         have hPk := hP6.trans hEk (fun i hi e => by have e' : i = ub := e; omega)
         by_cases hlt : k < K
         ·have hki : (k : Int) < (K : Int) := by omega
          have hki4 : k < v4 := by omega
          obtain ⟨x, hx⟩ : ∃ x, x = numAt bs (192 + k * v7) v7 := ⟨_, rfl⟩
          have hx32 : x < 4294967296 := hx ▸ numAt_lt32 bs _ v7 (by omega)
          have hv7 : v7 ≤ 32 := by omega
          obtain ⟨xb, xo, rfl, hcx⟩ := hRx k (intV x) (by rw [List.getElem?_map, vals_at bs 192 v7 K k hlt, ← hx]; rfl)
          have hxbn : w5.heap.size ≤ xb := (hxn _ rfl).1
          have hxbm : xb < w6.heap.size := (hxn _ rfl).2
          have hcx2 : wr.cell? ⟨xb, xo + k, none⟩ = some (.int .i64 x) := hEk.cell_some hcx (fun e => by have e' : xb = ub := e; omega)
          have HX := qh hx
          clear hx hcx
          by_cases c7 : (v6 : Int) + (x : Int) < 1
          ·have HTo : Hid (DecTo bs (dErr 27)) := qh (dec_bad HLen.out HOK.out HV4.out HV6.out HV7.out hFit (by rw [HX.out]; exact vals_mem bs 192 v7 K k hlt) (okL_low c7))
           have hT := hTk
           have hP := hPk
           clear hUk hOk hTk hPk
           have t0 : wr.cell? ⟨w.heap.size, 0, none⟩ = some (.int .i64 0) := hT.cell 0
           have t1 : wr.cell? ⟨w.heap.size, 0 + 1, none⟩ = some (.int .i64 0) := hT.cell 1
           have t2 : wr.cell? ⟨w.heap.size, 0 + 2, none⟩ = some (.int .i64 0) := hT.cell 2
           have t3 : wr.cell? ⟨w.heap.size, 0 + 3, none⟩ = some (.slice none 0 0) := hT.cell 3
           have z0 : wr.frozen? ⟨w.heap.size, 0, none⟩ = false := hT.free 0
           have z1 : wr.frozen? ⟨w.heap.size, 0 + 1, none⟩ = false := hT.free 1
           have z2 : wr.frozen? ⟨w.heap.size, 0 + 2, none⟩ = false := hT.free 2
           have z3 : wr.frozen? ⟨w.heap.size, 0 + 3, none⟩ = false := hT.free 3
           go_wp2_with fail
           have hT9 := (((hT.set 0 (.int .i64 0)).set 1 (.int .i64 0)).set 2 (.int .i64 0)).set 3 (.slice none 0 0)
           have hP9 : Pure w _ := hP.trans (ext4b wr w.heap.size) (fun i hi e => by have e' : i = w.heap.size := e; omega)
           obtain ⟨wZ, hwZ⟩ : ∃ wZ, wZ = (((wr.setCell ⟨w.heap.size, 0, none⟩ (.int .i64 0)).setCell ⟨w.heap.size, 1, none⟩ (.int .i64 0)).setCell ⟨w.heap.size, 2, none⟩ (.int .i64 0)).setCell ⟨w.heap.size, 3, none⟩ (.slice none 0 0) := ⟨_, rfl⟩
           rw [← hwZ] at hT9 hP9
           rw [← hwZ]
           clear hwZ
           simp only [sZ, sS] at hT9
           have y0 : wZ.cell? ⟨w.heap.size, 0, none⟩ = some (.int .i64 0) := hT9.cell 0
           have y1 : wZ.cell? ⟨w.heap.size, 1, none⟩ = some (.int .i64 0) := hT9.cell 1
           have y2 : wZ.cell? ⟨w.heap.size, 2, none⟩ = some (.int .i64 0) := hT9.cell 2
           have y3 : wZ.cell? ⟨w.heap.size, 3, none⟩ = some (.slice none 0 0) := hT9.cell 3
           refine bodyPost_ret (v := .tuple #[.agg #[.int .i64 0, .int .i64 0, .int .i64 0, .slice none 0 0], .int .i64 0, .int .i64 27]) (by simp [results, Tryz.results49, go_sem, y0, y1, y2, y3]) rfl ?_
           rw [← HBS.out]
           exact ⟨dErr 27, none, 0, rfl, HTo.out, (by intro i u hu; simp [dErr] at hu), fun _ => rfl, Nat.le_refl _, hP9⟩
          ·by_cases c8 : (2147483647 : Int) < (v6 : Int) + (x : Int)
           ·have HTo : Hid (DecTo bs (dErr 27)) := qh (dec_bad HLen.out HOK.out HV4.out HV6.out HV7.out hFit (by rw [HX.out]; exact vals_mem bs 192 v7 K k hlt) (okL_high c8))
            have hT := hTk
            have hP := hPk
            clear hUk hOk hTk hPk
            have t0 : wr.cell? ⟨w.heap.size, 0, none⟩ = some (.int .i64 0) := hT.cell 0
            have t1 : wr.cell? ⟨w.heap.size, 0 + 1, none⟩ = some (.int .i64 0) := hT.cell 1
            have t2 : wr.cell? ⟨w.heap.size, 0 + 2, none⟩ = some (.int .i64 0) := hT.cell 2
            have t3 : wr.cell? ⟨w.heap.size, 0 + 3, none⟩ = some (.slice none 0 0) := hT.cell 3
            have z0 : wr.frozen? ⟨w.heap.size, 0, none⟩ = false := hT.free 0
            have z1 : wr.frozen? ⟨w.heap.size, 0 + 1, none⟩ = false := hT.free 1
            have z2 : wr.frozen? ⟨w.heap.size, 0 + 2, none⟩ = false := hT.free 2
            have z3 : wr.frozen? ⟨w.heap.size, 0 + 3, none⟩ = false := hT.free 3
            go_wp2_with fail
            have hT9 := (((hT.set 0 (.int .i64 0)).set 1 (.int .i64 0)).set 2 (.int .i64 0)).set 3 (.slice none 0 0)
            have hP9 : Pure w _ := hP.trans (ext4b wr w.heap.size) (fun i hi e => by have e' : i = w.heap.size := e; omega)
            obtain ⟨wZ, hwZ⟩ : ∃ wZ, wZ = (((wr.setCell ⟨w.heap.size, 0, none⟩ (.int .i64 0)).setCell ⟨w.heap.size, 1, none⟩ (.int .i64 0)).setCell ⟨w.heap.size, 2, none⟩ (.int .i64 0)).setCell ⟨w.heap.size, 3, none⟩ (.slice none 0 0) := ⟨_, rfl⟩
            rw [← hwZ] at hT9 hP9
            rw [← hwZ]
            clear hwZ
            simp only [sZ, sS] at hT9
            have y0 : wZ.cell? ⟨w.heap.size, 0, none⟩ = some (.int .i64 0) := hT9.cell 0
            have y1 : wZ.cell? ⟨w.heap.size, 1, none⟩ = some (.int .i64 0) := hT9.cell 1
            have y2 : wZ.cell? ⟨w.heap.size, 2, none⟩ = some (.int .i64 0) := hT9.cell 2
            have y3 : wZ.cell? ⟨w.heap.size, 3, none⟩ = some (.slice none 0 0) := hT9.cell 3
            refine bodyPost_ret (v := .tuple #[.agg #[.int .i64 0, .int .i64 0, .int .i64 0, .slice none 0 0], .int .i64 0, .int .i64 27]) (by simp [results, Tryz.results49, go_sem, y0, y1, y2, y3]) rfl ?_
            rw [← HBS.out]
            exact ⟨dErr 27, none, 0, rfl, HTo.out, (by intro i u hu; simp [dErr] at hu), fun _ => rfl, Nat.le_refl _, hP9⟩
           ·have HOKs2 : Hid (∀ x ∈ vals bs 192 v7 (k + 1), okL v6 x = true) := qh (all_succ HOKs.out (by rw [← HX.out]; exact okL_yes c7 c8))
            have HSU : Hid ((vals bs 192 v7 (k + 1)).map (fun x => intV (v6 + x)) = (vals bs 192 v7 k).map (fun x => intV (v6 + x)) ++ [intV (v6 + x)]) := qh (by rw [vals_succ, ← HX.out, List.map_append]; rfl)
            go_wp2_with fail
            have hUk3 : wr.drew.cell? ⟨ub, 0 + 3, none⟩ = some (.slice la k lc) := hUk.cell 3
            have hUk3' : (wr.alloc (.cells #[.int .i64 ((v6 : Int) + (x : Int))] 3)).drew.cell? ⟨ub, 0 + 3, none⟩ = some (.slice la k lc) := (hUk.alloc _).cell 3
            have hcx3 : wr.drew.cell? ⟨xb, xo + k, none⟩ = some (.int .i64 x) := hcx2
            have kx := fun w' (hS : Ext (fun i => i = ub ∨ w6.heap.size ≤ i) wr.drew w') => hS.cell_some hcx3 (fun e => by have e' : xb = ub ∨ w6.heap.size ≤ xb := e; omega)
            have hwk : IntKind.i64.wrap ((v6 : Int) + (x : Int)) = (v6 : Int) + (x : Int) := IntWalk.i64_in _ (by omega)
            have hzk := hEk.size
            have HXA : Hid (Ext (fun i => i = ub ∨ w6.heap.size ≤ i) wr.drew (wr.alloc (.cells #[.int .i64 ((v6 : Int) + (x : Int))] 3)).drew) := qh ((Ext.refl (fun i => i = ub ∨ w6.heap.size ≤ i) wr.drew).alloc (.cells #[.int .i64 ((v6 : Int) + (x : Int))] 3))
            have HLO : Hid (∀ g, (Value.slice la k lc).ownBlock = some g → w6.heap.size ≤ g) := qh (fun g hg => (hOk.lt g hg).1)
            refine region_start (fun i => i = ub ∨ w6.heap.size ≤ i) (by kernel_rfl) ?_
            try simp only [Act.put, sA, sZ, sS]
            refine region_take 0 123 (v := ?vrz0) rfl rfl (by kernel_rfl) (by kernel_rfl) (by kernel_rfl) (fun _ _ _ h => h) (by rfl) (fun w' hS => ?hrz0) ?rrz0
            case hrz0 => go_simp; with_reducible rfl
            try simp only [Act.put, sA, sZ, sS]
            refine region_take 2 125 (v := ?vrz2) rfl rfl (by kernel_rfl) (by kernel_rfl) (by kernel_rfl) (fun _ _ _ h => h) (by rfl) (fun w' hS => ?hrz2) ?rrz2
            case hrz2 => go_simp; with_reducible rfl
            try simp only [Act.put, sA, sZ, sS]
            refine region_take 3 126 (v := ?vrz3) rfl rfl (by kernel_rfl) (by kernel_rfl) (by kernel_rfl) (fun _ _ _ h => h) (by rfl) (fun w' hS => ?hrz3) ?rrz3
            case hrz3 => go_simp; with_reducible rfl
            try simp only [Act.put, sA, sZ, sS]
            refine region_take 4 127 (v := ?vrz4) rfl rfl (by kernel_rfl) (by kernel_rfl) (by kernel_rfl) (fun _ _ _ h => h) (by rfl) (fun w' hS => ?hrz4) ?rrz4
            case hrz4 => go_simp; with_reducible rfl
            try simp only [Act.put, sA, sZ, sS]
            refine region_take 5 128 (v := ?vrz5) rfl rfl (by kernel_rfl) (by kernel_rfl) (by kernel_rfl) (fun _ _ _ h => h) (by rfl) (fun w' hS => ?hrz5) ?rrz5
            case hrz5 => go_simp; with_reducible rfl
            try simp only [Act.put, sA, sZ, sS]
            refine region_take 6 129 (v := ?vrz6) rfl rfl (by kernel_rfl) (by kernel_rfl) (by kernel_rfl) (fun _ _ _ h => h) (by rfl) (fun w' hS => ?hrz6) ?rrz6
            case hrz6 => go_simp; with_reducible rfl
            try simp only [Act.put, sA, sZ, sS]
            refine region_take 7 130 (v := ?vrz7) rfl rfl (by kernel_rfl) (by kernel_rfl) (by kernel_rfl) (fun _ _ _ h => h) (by rfl) (fun w' hS => ?hrz7) ?rrz7
            case hrz7 => go_simp; with_reducible rfl
            try simp only [Act.put, sA, sZ, sS]
            refine wpAnyH_ready (rs := [1, 8]) (by kernel_rfl) (by simp) (AllReadyH.cons rfl (fun K hK => ?_) (AllReadyH.cons rfl (fun K hK => ?_) (AllReadyH.nil)))
            go_simp
            refine hK.out _ _ (Ext.refl _ _) (fun hHeld => ?_)
            clear hK K hHeld
            refine region_now (Ext.refl _ _) ?_
            try simp only [Act.put, sA, sZ, sS]
            refine wpAnyH_ready (rs := [8]) (by kernel_rfl) (by simp) (AllReadyH.cons rfl (fun K hK => ?_) AllReadyH.nil)
            go_simp
            refine hK.out _ _ (HXA.out) (fun hHeld => ?_)
            clear hK K hHeld
            refine region_now (HXA.out) ?_
            try simp only [Act.put, sA, sZ, sS]
            refine wpAnyH_ready (rs := [9]) (by kernel_rfl) (by simp) (AllReadyH.cons rfl (fun K hK => ?_) AllReadyH.nil)
            refine step_of_list ?_
            refine wpList_append_fresh rfl (.tmp 124) (.tmp 131) 23 rfl w6.heap.size 3 (.int .i64 0) 1 8 Tryz.underlying23 infoInt rfl (by decide) (.slice la k lc) k ((vals bs 192 v7 k).map (fun x => intV (v6 + x))) rfl (hOk.drew.alloc _) (some ⟨wr.heap.size, 0, none⟩) 1 1 [intV (v6 + x)] rfl (fun e => by cases e) rfl (row_at _ rfl rfl) (fun u hu => by simp at hu; subst hu; rfl) (k + 1) rfl ((vals bs 192 v7 (k + 1)).map (fun x => intV (v6 + x))) (by rw [HSU.out]) (by omega) (by unfold maxLen; omega) (by simp; omega) ?_
            intro a2 c2 w3 hO3 hg3 hfr3
            have hX3 := qh (Ext.grown (Ext.refl (fun i => i = ub ∨ w6.heap.size ≤ i) _) hg3 (fun g hg _ => Or.inr (HLO.out g hg)))
            have hUw := ((hUk.drew).alloc (.cells #[.int .i64 ((v6 : Int) + (x : Int))] 3)).ext (ext_of_grown hg3) (fun e => by have := HLO.out _ e; omega)
            have hUc : w3.cell? ⟨ub, 0 + 3, none⟩ = some (.slice la k lc) := hUw.cell 3
            have hUf : w3.frozen? ⟨ub, 0 + 3, none⟩ = false := hUw.free 3
            refine hK.out _ _ (hX3.out) (fun hHeld => ?_)
            clear hK K hHeld
            refine region_now (hX3.out) ?_
            try simp only [Act.put, sA, sZ, sS]
            refine region_take 10 133 (v := ?vrzq010) rfl rfl (by kernel_rfl) (by kernel_rfl) (by kernel_rfl) (fun _ _ _ h => h) (by rfl) (fun w' hS => ?hrzq010) ?rrzq010
            case hrzq010 => go_simp; with_reducible rfl
            try simp only [Act.put, sA, sZ, sS]
            refine wpAnyH_ready (rs := [11]) (by kernel_rfl) (by simp) (AllReadyH.cons rfl (fun K hK => ?_) AllReadyH.nil)
            go_simp
            refine hK.out _ _ ((Ext.refl (fun i => i = ub ∨ w6.heap.size ≤ i) w3).setCell (p := ⟨ub, 3, none⟩) (fun _ => Or.inl rfl) _) (fun hHeld => ?_)
            clear hK K hHeld
            refine region_now ((Ext.refl (fun i => i = ub ∨ w6.heap.size ≤ i) w3).setCell (p := ⟨ub, 3, none⟩) (fun _ => Or.inl rfl) _) ?_
            try simp only [Act.put, sA, sZ, sS]
            refine wpAnyH_done (by kernel_rfl) ?_ _
            rotate_left
            go_simp
            refine hK.out _ _ (HXA.out) (fun hHeld => ?_)
            clear hK K hHeld
            refine region_now (HXA.out) ?_
            try simp only [Act.put, sA, sZ, sS]
            refine wpAnyH_ready (rs := [1]) (by kernel_rfl) (by simp) (AllReadyH.cons rfl (fun K hK => ?_) AllReadyH.nil)
            go_simp
            refine hK.out _ _ (Ext.refl _ _) (fun hHeld => ?_)
            clear hK K hHeld
            refine region_now (Ext.refl _ _) ?_
            try simp only [Act.put, sA, sZ, sS]
            refine wpAnyH_ready (rs := [9]) (by kernel_rfl) (by simp) (AllReadyH.cons rfl (fun K hK => ?_) AllReadyH.nil)
            refine step_of_list ?_
            refine wpList_append_fresh rfl (.tmp 124) (.tmp 131) 23 rfl w6.heap.size 3 (.int .i64 0) 1 8 Tryz.underlying23 infoInt rfl (by decide) (.slice la k lc) k ((vals bs 192 v7 k).map (fun x => intV (v6 + x))) rfl (hOk.drew.alloc _) (some ⟨wr.heap.size, 0, none⟩) 1 1 [intV (v6 + x)] rfl (fun e => by cases e) rfl (row_at _ rfl rfl) (fun u hu => by simp at hu; subst hu; rfl) (k + 1) rfl ((vals bs 192 v7 (k + 1)).map (fun x => intV (v6 + x))) (by rw [HSU.out]) (by omega) (by unfold maxLen; omega) (by simp; omega) ?_
            intro a2 c2 w3 hO3 hg3 hfr3
            have hX3 := qh (Ext.grown (Ext.refl (fun i => i = ub ∨ w6.heap.size ≤ i) _) hg3 (fun g hg _ => Or.inr (HLO.out g hg)))
            have hUw := ((hUk.drew).alloc (.cells #[.int .i64 ((v6 : Int) + (x : Int))] 3)).ext (ext_of_grown hg3) (fun e => by have := HLO.out _ e; omega)
            have hUc : w3.cell? ⟨ub, 0 + 3, none⟩ = some (.slice la k lc) := hUw.cell 3
            have hUf : w3.frozen? ⟨ub, 0 + 3, none⟩ = false := hUw.free 3
            refine hK.out _ _ (hX3.out) (fun hHeld => ?_)
            clear hK K hHeld
            refine region_now (hX3.out) ?_
            try simp only [Act.put, sA, sZ, sS]
            refine region_take 10 133 (v := ?vrzq110) rfl rfl (by kernel_rfl) (by kernel_rfl) (by kernel_rfl) (fun _ _ _ h => h) (by rfl) (fun w' hS => ?hrzq110) ?rrzq110
            case hrzq110 => go_simp; with_reducible rfl
            try simp only [Act.put, sA, sZ, sS]
            refine wpAnyH_ready (rs := [11]) (by kernel_rfl) (by simp) (AllReadyH.cons rfl (fun K hK => ?_) AllReadyH.nil)
            go_simp
            refine hK.out _ _ ((Ext.refl (fun i => i = ub ∨ w6.heap.size ≤ i) w3).setCell (p := ⟨ub, 3, none⟩) (fun _ => Or.inl rfl) _) (fun hHeld => ?_)
            clear hK K hHeld
            refine region_now ((Ext.refl (fun i => i = ub ∨ w6.heap.size ≤ i) w3).setCell (p := ⟨ub, 3, none⟩) (fun _ => Or.inl rfl) _) ?_
            try simp only [Act.put, sA, sZ, sS]
            refine wpAnyH_done (by kernel_rfl) ?_ _
            rotate_left
            all_goals
             obtain ⟨wS, hwS⟩ : ∃ wS, wS = w3.setCell ⟨ub, 3, none⟩ (.slice a2 (k + 1) c2) := ⟨_, rfl⟩
             have hXS : Ext (fun i => i = ub) w3 wS := hwS ▸ (Ext.refl (fun i => i = ub) w3).setCell (p := ⟨ub, 3, none⟩) (fun _ => rfl) (.slice a2 (k + 1) c2)
             have hUS := hUw.set 3 (.slice a2 (k + 1) c2)
             rw [← hwS] at hUS
             simp only [sZ, sS] at hUS
             rw [← hwS]
             have hOS := own_ext hO3 hXS (fun g hg e => by have := (hO3.lt g hg).1; have e' : g = ub := e; omega)
             have hES : Ext (fun i => i = ub) w6 wS := (hEk.drew.trans (((Ext.refl (fun i => i = ub ∨ w6.heap.size ≤ i) wr.drew).alloc (.cells #[.int .i64 ((v6 : Int) + (x : Int))] 3)).trans hX3.out (fun _ _ e => e)) (fun i hi e => by have e' : i = ub ∨ w6.heap.size ≤ i := e; exact e'.resolve_right (by omega))).trans hXS (fun _ _ e => e)
             have hv1 : k + 1 ≤ K := by omega
             clear hwS hXS hUw hO3 hX3 hg3 hfr3 hUc hUf hUk hOk hEk hUk3 hUk3' hcx3 kx hwk HXA HLO hcx2 hTk hPk
             go_wp2_with fail
             go_roundw
             case rel => exact ⟨k + 1, a2, c2, hv1, by go_num, HOKs2, hUS, hOS, hES⟩
             case measure => simp [intOf]; omega
         ·have hki : ¬ (k : Int) < (K : Int) := by omega
          obtain rfl : K = k := by omega
          have hLa : (∀ g, la = some g → w6.heap.size ≤ g.block) ∧ K ≤ lc ∧ (la = none → lc = 0) := by
           obtain ⟨_, _, hh, h1, _, h2, h3⟩ := own_form hOk
           cases hh
           exact ⟨fun g hg => (h3 g hg).1, h1, h2⟩
          have hRl := own_row hOk
          have hRowk := hRow6.ext hEk (fun g hg e => by have := hbn g hg; have e' : g.block = ub := e; omega)
          have hzk := hEk.size
          clear hOk hEk hT6 hP6 hRow6 hRx hxn
          by_cases hKn : K = v4
          ·obtain rfl : v4 = K := hKn.symm
           obtain ⟨p1, hp1⟩ : ∃ p1, p1 = P1 192 v4 v7 := ⟨_, rfl⟩
           have hat : at2 = (p1 : Int) := by rw [HAT.out, if_pos rfl, hp1]; rfl
           have his : is2 = true := by rw [HIS.out]; exact decide_eq_true rfl
           have hp1l : p1 ≤ bs.length := by rw [hp1]; exact al8_le hFit.fits (by have := HB8.out; omega)
           have HP1 := qh hp1
           subst hat his
           clear hp1 HAT HIS hKn
           have hC2 := refrow_any bs a c p1 v4 1 wr hRowk hbc hba hbl (by omega) hp1l (by omega)
           go_wp2_with fail
           refine hC2.mono ?_
           clear hC2
           rintro e w7 ⟨K2, ya, yc, hFit2, rfl, hOy, hEy⟩
           obtain ⟨at3, hatt⟩ : ∃ z : Int, z = (if K2 = v4 then ((al8 (p1 + v4 * 1) : Nat) : Int) else 0) := ⟨_, rfl⟩
           obtain ⟨is3, hiss⟩ : ∃ z : Bool, z = decide (K2 = v4) := ⟨_, rfl⟩
           rw [← hatt, ← hiss]
           have HAT := qh hatt
           have HIS := qh hiss
           clear hatt hiss
           obtain ⟨_, _, hh, hyc, _, hya, hyb⟩ := own_form hOy
           cases hh
           have hRy := own_row hOy
           have hUn := hUk.ext hEy id
           have hTn := hTk.ext hEy id
           have hPn := hPk.pure hEy
           have hRn := hRowk.ext hEy (fun _ _ => id)
           have hLn := hRl.ext hEy (fun _ _ => id)
           have hzy := hEy.size
           clear hUk hTk hPk hRowk hRl hyb hOy hEy
           by_cases hK2 : K2 = v4
           ·obtain rfl : v4 = K2 := hK2.symm
            obtain ⟨p2, hp2⟩ : ∃ p2, p2 = P2 192 v4 v7 := ⟨_, rfl⟩
            have hat : at3 = (p2 : Int) := by rw [HAT.out, if_pos rfl, hp2, HP1.out]; rfl
            have his : is3 = true := by rw [HIS.out]; exact decide_eq_true rfl
            have hp2l : p2 ≤ bs.length := by rw [hp2]; unfold P2; rw [← HP1.out]; exact al8_le hFit2.fits (by have := HB8.out; omega)
            have HP2 := qh hp2
            subst hat his
            clear hp2 HAT HIS hK2
            have hyl : (0 : Nat) ≤ v4 := Nat.zero_le _
            go_wp2_with fail
            go_loop [19, 20] (fun t i => ∃ k : Nat, k ≤ v4 ∧ i = .int .i64 k ∧ t = .int .i64 ((vals bs p1 1 k).sum : Nat)) (fun _ i => v4 - (intOf i).toNat)
            case atStart => exact ⟨0, Nat.zero_le _, rfl, by simp [vals]⟩
            case round =>
             obtain ⟨k, hk, rfl, rfl⟩ := hrel
             obtain ⟨sg, hsg⟩ : ∃ sg, sg = (vals bs p1 1 k).sum := ⟨_, rfl⟩
             have hsk : sg ≤ k := hsg ▸ sum_ones bs p1 k
             rw [← hsg]
             have HSG := qh hsg
             clear hsg
             by_cases hlt : k < v4
             ·have hki : (k : Int) < (v4 : Int) := by omega
              obtain ⟨x, hx⟩ : ∃ x, x = numAt bs (p1 + k * 1) 1 := ⟨_, rfl⟩
              have hx1 : x < 2 := hx ▸ numAt_lt bs _ 1
              obtain ⟨xb, xo, rfl, hcx⟩ := hRy k (intV x) (by rw [List.getElem?_map, vals_at bs p1 1 v4 k hlt, ← hx]; rfl)
              have hcx2 : w7.cell? ⟨xb, xo + k, none⟩ = some (.int .i64 x) := hcx
              have HS1 : Hid ((vals bs p1 1 (k + 1)).sum = sg + x) := qh (by rw [vals_sum_succ, ← HSG.out, hx])
              clear hx hcx
              go_wp2_with fail
              go_round
              case rel => exact ⟨k + 1, by omega, by go_num, by rw [HS1.out]; go_num⟩
              case measure => simp [intOf]; omega
             ·have hki : ¬ (k : Int) < (v4 : Int) := by omega
              obtain rfl : v4 = k := by omega
              have HS2 : Hid (sg = sgn bs 192 v4 v7) := qh (by rw [HSG.out, HP1.out]; rfl)
              clear hRy
              have hC3 := refrow_any bs a c p2 (4 * sg) 32 w7 hRn hbc hba hbl (by omega) hp2l (by omega)
              rw [show ((4 * sg : Nat) : Int) = 4 * (sg : Int) from by omega] at hC3
              go_wp2_with fail
              refine hC3.mono ?_
              clear hC3
              have hUk := hUn
              have hTk := hTn
              have hPk := hPn
              have hRowk := hRn
              have hRl := hLn
              clear hUn hTn hPn hRn hLn
              rintro e w8 ⟨K3, ya3, yc3, hFit3, rfl, hOy, hEy⟩
              obtain ⟨at4, hatt⟩ : ∃ z : Int, z = (if K3 = 4 * sg then ((al8 (p2 + 4 * sg * 32) : Nat) : Int) else 0) := ⟨_, rfl⟩
              obtain ⟨is4, hiss⟩ : ∃ z : Bool, z = decide (K3 = 4 * sg) := ⟨_, rfl⟩
              rw [← hatt, ← hiss]
              have HAT := qh hatt
              have HIS := qh hiss
              clear hatt hiss
              obtain ⟨_, _, hh, hyc, _, hya, hyb⟩ := own_form hOy
              cases hh
              have hRy := own_row hOy
              have hUn := hUk.ext hEy id
              have hTn := hTk.ext hEy id
              have hPn := hPk.pure hEy
              have hRn := hRowk.ext hEy (fun _ _ => id)
              have hLn := hRl.ext hEy (fun _ _ => id)
              have hzy := hEy.size
              clear hUk hTk hPk hRowk hRl hyb hOy hEy
              by_cases hK3 : K3 = 4 * sg
              ·subst hK3
               obtain ⟨p3, hp3⟩ : ∃ p3, p3 = P3 bs 192 v4 v7 := ⟨_, rfl⟩
               have hat : at4 = (p3 : Int) := by rw [HAT.out, if_pos rfl, hp3, HP2.out, HS2.out]; rfl
               have his : is4 = true := by rw [HIS.out]; exact decide_eq_true rfl
               have hp3l : p3 ≤ bs.length := by rw [hp3]; unfold P3; rw [← HP2.out, ← HS2.out]; exact al8_le hFit3.fits (by have := HB8.out; omega)
               have HP3 := qh hp3
               subst hat his
               clear hp3 HAT HIS hRy
               have hC4 := refrow_any bs a c p3 v4 v5 w8 hRn hbc hba hbl (by omega) hp3l (by omega)
               go_wp2_with fail
               refine hC4.mono ?_
               clear hC4
               have hUk := hUn
               have hTk := hTn
               have hPk := hPn
               have hRowk := hRn
               have hRl := hLn
               clear hUn hTn hPn hRn hLn
               rintro e w9 ⟨K4, ya4, yc4, hFit4, rfl, hOy, hEy⟩
               obtain ⟨at5, hatt⟩ : ∃ z : Int, z = (if K4 = v4 then ((al8 (p3 + v4 * v5) : Nat) : Int) else 0) := ⟨_, rfl⟩
               obtain ⟨is5, hiss⟩ : ∃ z : Bool, z = decide (K4 = v4) := ⟨_, rfl⟩
               rw [← hatt, ← hiss]
               have HAT := qh hatt
               have HIS := qh hiss
               clear hatt hiss
               obtain ⟨_, _, hh, hyc, _, hya, hyb⟩ := own_form hOy
               cases hh
               have hRy := own_row hOy
               have hUn := hUk.ext hEy id
               have hTn := hTk.ext hEy id
               have hPn := hPk.pure hEy
               have hRn := hRowk.ext hEy (fun _ _ => id)
               have hLn := hRl.ext hEy (fun _ _ => id)
               have hzy := hEy.size
               clear hUk hTk hPk hRowk hRl hyb hOy hEy
               by_cases hK4 : K4 = v4
               ·obtain rfl : v4 = K4 := hK4.symm
                obtain ⟨p4, hp4⟩ : ∃ p4, p4 = P4 bs 192 v4 v7 v5 := ⟨_, rfl⟩
                have hat : at5 = (p4 : Int) := by rw [HAT.out, if_pos rfl, hp4, HP3.out]; rfl
                have his : is5 = true := by rw [HIS.out]; exact decide_eq_true rfl
                have hp4l : p4 ≤ bs.length := by rw [hp4]; unfold P4; rw [← HP3.out]; exact al8_le hFit4.fits (by have := HB8.out; omega)
                have HALL : Hid (AllFit bs 192 v4 v7 v5) := qh ⟨hFit.fits, by rw [← HP1.out]; exact hFit2.fits, by rw [← HP2.out, ← HS2.out]; exact hFit3.fits, by rw [← HP3.out]; exact hFit4.fits⟩
                have HP4 := qh hp4
                subst hat his
                clear hp4 HAT HIS hRy
                have t0 : w9.cell? ⟨w.heap.size, 0, none⟩ = some (.int .i64 0) := hTn.cell 0
                have t1 : w9.cell? ⟨w.heap.size, 0 + 1, none⟩ = some (.int .i64 0) := hTn.cell 1
                have t2 : w9.cell? ⟨w.heap.size, 0 + 2, none⟩ = some (.int .i64 0) := hTn.cell 2
                have t3 : w9.cell? ⟨w.heap.size, 0 + 3, none⟩ = some (.slice none 0 0) := hTn.cell 3
                have z0 : w9.frozen? ⟨w.heap.size, 0, none⟩ = false := hTn.free 0
                have z1 : w9.frozen? ⟨w.heap.size, 0 + 1, none⟩ = false := hTn.free 1
                have z2 : w9.frozen? ⟨w.heap.size, 0 + 2, none⟩ = false := hTn.free 2
                have z3 : w9.frozen? ⟨w.heap.size, 0 + 3, none⟩ = false := hTn.free 3
                have u0 : w9.cell? ⟨ub, 0, none⟩ = some (.int .i64 v1) := hUn.cell 0
                have u1 : w9.cell? ⟨ub, 0 + 1, none⟩ = some (.int .i64 v2) := hUn.cell 1
                have u2 : w9.cell? ⟨ub, 0 + 2, none⟩ = some (.int .i64 v3) := hUn.cell 2
                have u3 : w9.cell? ⟨ub, 0 + 3, none⟩ = some (.slice la v4 lc) := hUn.cell 3
                go_wp2_with fail
                have hT9 := (((hTn.set 0 (.int .i64 v1)).set 1 (.int .i64 v2)).set 2 (.int .i64 v3)).set 3 (.slice la v4 lc)
                have hX9 : Ext (fun i => i = w.heap.size) w9 _ := ((((Ext.refl (fun i => i = w.heap.size) w9).setCell (p := ⟨w.heap.size, 0, none⟩) (fun _ => rfl) (.int .i64 v1)).setCell (p := ⟨w.heap.size, 1, none⟩) (fun _ => rfl) (.int .i64 v2)).setCell (p := ⟨w.heap.size, 2, none⟩) (fun _ => rfl) (.int .i64 v3)).setCell (p := ⟨w.heap.size, 3, none⟩) (fun _ => rfl) (.slice la v4 lc)
                have hP9 : Pure w _ := hPn.trans hX9 (fun i hi e => by have e' : i = w.heap.size := e; omega)
                have hL9 := hLn.ext hX9 (fun g hg e => by have := hLa.1 g hg; have e' : g.block = w.heap.size := e; omega)
                obtain ⟨wZ, hwZ⟩ : ∃ wZ, wZ = (((w9.setCell ⟨w.heap.size, 0, none⟩ (.int .i64 v1)).setCell ⟨w.heap.size, 1, none⟩ (.int .i64 v2)).setCell ⟨w.heap.size, 2, none⟩ (.int .i64 v3)).setCell ⟨w.heap.size, 3, none⟩ (.slice la v4 lc) := ⟨_, rfl⟩
                rw [← hwZ] at hT9 hP9 hL9
                rw [← hwZ]
                clear hwZ hX9
                simp only [sZ, sS] at hT9
                have y0 : wZ.cell? ⟨w.heap.size, 0, none⟩ = some (.int .i64 v1) := hT9.cell 0
                have y1 : wZ.cell? ⟨w.heap.size, 1, none⟩ = some (.int .i64 v2) := hT9.cell 1
                have y2 : wZ.cell? ⟨w.heap.size, 2, none⟩ = some (.int .i64 v3) := hT9.cell 2
                have y3 : wZ.cell? ⟨w.heap.size, 3, none⟩ = some (.slice la v4 lc) := hT9.cell 3
                refine bodyPost_ret (v := .tuple #[.agg #[.int .i64 v1, .int .i64 v2, .int .i64 v3, .slice la v4 lc], .int .i64 ((p4 / 8 : Nat) : Int), .int .i64 0]) (by simp [results, Tryz.results49, go_sem, y0, y1, y2, y3]) rfl ?_
                rw [← HBS.out]
                exact ⟨⟨0, v1, v2, v3, (vals bs 192 v7 v4).map (fun x => v6 + x), p4 / 8⟩, la, lc, by simp only [tblV, List.length_map, vals_len], by rw [HP4.out]; exact dec_good HLen.out HOK.out HV1.out HV2.out HV3.out HV4.out HV5.out HV6.out HV7.out hFit HOKs.out HALL.out, by rw [List.map_map]; exact hL9, hLa.2.2, by simp only [List.length_map, vals_len]; exact hLa.2.1, hP9⟩
               ·have his : is5 = false := by rw [HIS.out]; exact decide_eq_false hK4
                subst his
                have HTo : Hid (DecTo bs (dErr 10)) := qh (dec_cut HLen.out HOK.out HV4.out HV5.out HV6.out HV7.out hFit HOKs.out (not_all4 (by rw [← HP3.out]; exact fit_lt hFit4 hK4)))
                have hT := hTn
                have hP := hPn
                clear hTn hPn hUn
                have t0 : w9.cell? ⟨w.heap.size, 0, none⟩ = some (.int .i64 0) := hT.cell 0
                have t1 : w9.cell? ⟨w.heap.size, 0 + 1, none⟩ = some (.int .i64 0) := hT.cell 1
                have t2 : w9.cell? ⟨w.heap.size, 0 + 2, none⟩ = some (.int .i64 0) := hT.cell 2
                have t3 : w9.cell? ⟨w.heap.size, 0 + 3, none⟩ = some (.slice none 0 0) := hT.cell 3
                have z0 : w9.frozen? ⟨w.heap.size, 0, none⟩ = false := hT.free 0
                have z1 : w9.frozen? ⟨w.heap.size, 0 + 1, none⟩ = false := hT.free 1
                have z2 : w9.frozen? ⟨w.heap.size, 0 + 2, none⟩ = false := hT.free 2
                have z3 : w9.frozen? ⟨w.heap.size, 0 + 3, none⟩ = false := hT.free 3
                go_wp2_with fail
                have hT9 := (((hT.set 0 (.int .i64 0)).set 1 (.int .i64 0)).set 2 (.int .i64 0)).set 3 (.slice none 0 0)
                have hP9 : Pure w _ := hP.trans (ext4b w9 w.heap.size) (fun i hi e => by have e' : i = w.heap.size := e; omega)
                obtain ⟨wZ, hwZ⟩ : ∃ wZ, wZ = (((w9.setCell ⟨w.heap.size, 0, none⟩ (.int .i64 0)).setCell ⟨w.heap.size, 1, none⟩ (.int .i64 0)).setCell ⟨w.heap.size, 2, none⟩ (.int .i64 0)).setCell ⟨w.heap.size, 3, none⟩ (.slice none 0 0) := ⟨_, rfl⟩
                rw [← hwZ] at hT9 hP9
                rw [← hwZ]
                clear hwZ
                simp only [sZ, sS] at hT9
                have y0 : wZ.cell? ⟨w.heap.size, 0, none⟩ = some (.int .i64 0) := hT9.cell 0
                have y1 : wZ.cell? ⟨w.heap.size, 1, none⟩ = some (.int .i64 0) := hT9.cell 1
                have y2 : wZ.cell? ⟨w.heap.size, 2, none⟩ = some (.int .i64 0) := hT9.cell 2
                have y3 : wZ.cell? ⟨w.heap.size, 3, none⟩ = some (.slice none 0 0) := hT9.cell 3
                refine bodyPost_ret (v := .tuple #[.agg #[.int .i64 0, .int .i64 0, .int .i64 0, .slice none 0 0], .int .i64 0, .int .i64 10]) (by simp [results, Tryz.results49, go_sem, y0, y1, y2, y3]) rfl ?_
                rw [← HBS.out]
                exact ⟨dErr 10, none, 0, rfl, HTo.out, (by intro i u hu; simp [dErr] at hu), fun _ => rfl, Nat.le_refl _, hP9⟩
              ·have his : is4 = false := by rw [HIS.out]; exact decide_eq_false hK3
               subst his
               have HTo : Hid (DecTo bs (dErr 10)) := qh (dec_cut HLen.out HOK.out HV4.out HV5.out HV6.out HV7.out hFit HOKs.out (not_all3 (by rw [← HP2.out, ← HS2.out]; exact fit_lt hFit3 hK3)))
               have hT := hTn
               have hP := hPn
               clear hTn hPn hUn
               have t0 : w8.cell? ⟨w.heap.size, 0, none⟩ = some (.int .i64 0) := hT.cell 0
               have t1 : w8.cell? ⟨w.heap.size, 0 + 1, none⟩ = some (.int .i64 0) := hT.cell 1
               have t2 : w8.cell? ⟨w.heap.size, 0 + 2, none⟩ = some (.int .i64 0) := hT.cell 2
               have t3 : w8.cell? ⟨w.heap.size, 0 + 3, none⟩ = some (.slice none 0 0) := hT.cell 3
               have z0 : w8.frozen? ⟨w.heap.size, 0, none⟩ = false := hT.free 0
               have z1 : w8.frozen? ⟨w.heap.size, 0 + 1, none⟩ = false := hT.free 1
               have z2 : w8.frozen? ⟨w.heap.size, 0 + 2, none⟩ = false := hT.free 2
               have z3 : w8.frozen? ⟨w.heap.size, 0 + 3, none⟩ = false := hT.free 3
               go_wp2_with fail
               have hT9 := (((hT.set 0 (.int .i64 0)).set 1 (.int .i64 0)).set 2 (.int .i64 0)).set 3 (.slice none 0 0)
               have hP9 : Pure w _ := hP.trans (ext4b w8 w.heap.size) (fun i hi e => by have e' : i = w.heap.size := e; omega)
               obtain ⟨wZ, hwZ⟩ : ∃ wZ, wZ = (((w8.setCell ⟨w.heap.size, 0, none⟩ (.int .i64 0)).setCell ⟨w.heap.size, 1, none⟩ (.int .i64 0)).setCell ⟨w.heap.size, 2, none⟩ (.int .i64 0)).setCell ⟨w.heap.size, 3, none⟩ (.slice none 0 0) := ⟨_, rfl⟩
               rw [← hwZ] at hT9 hP9
               rw [← hwZ]
               clear hwZ
               simp only [sZ, sS] at hT9
               have y0 : wZ.cell? ⟨w.heap.size, 0, none⟩ = some (.int .i64 0) := hT9.cell 0
               have y1 : wZ.cell? ⟨w.heap.size, 1, none⟩ = some (.int .i64 0) := hT9.cell 1
               have y2 : wZ.cell? ⟨w.heap.size, 2, none⟩ = some (.int .i64 0) := hT9.cell 2
               have y3 : wZ.cell? ⟨w.heap.size, 3, none⟩ = some (.slice none 0 0) := hT9.cell 3
               refine bodyPost_ret (v := .tuple #[.agg #[.int .i64 0, .int .i64 0, .int .i64 0, .slice none 0 0], .int .i64 0, .int .i64 10]) (by simp [results, Tryz.results49, go_sem, y0, y1, y2, y3]) rfl ?_
               rw [← HBS.out]
               exact ⟨dErr 10, none, 0, rfl, HTo.out, (by intro i u hu; simp [dErr] at hu), fun _ => rfl, Nat.le_refl _, hP9⟩
           ·have his : is3 = false := by rw [HIS.out]; exact decide_eq_false hK2
            subst his
            have HTo : Hid (DecTo bs (dErr 10)) := qh (dec_cut HLen.out HOK.out HV4.out HV5.out HV6.out HV7.out hFit HOKs.out (not_all2 (by rw [← HP1.out]; exact fit_lt hFit2 hK2)))
            have hT := hTn
            have hP := hPn
            clear hTn hPn hUn
            have t0 : w7.cell? ⟨w.heap.size, 0, none⟩ = some (.int .i64 0) := hT.cell 0
            have t1 : w7.cell? ⟨w.heap.size, 0 + 1, none⟩ = some (.int .i64 0) := hT.cell 1
            have t2 : w7.cell? ⟨w.heap.size, 0 + 2, none⟩ = some (.int .i64 0) := hT.cell 2
            have t3 : w7.cell? ⟨w.heap.size, 0 + 3, none⟩ = some (.slice none 0 0) := hT.cell 3
            have z0 : w7.frozen? ⟨w.heap.size, 0, none⟩ = false := hT.free 0
            have z1 : w7.frozen? ⟨w.heap.size, 0 + 1, none⟩ = false := hT.free 1
            have z2 : w7.frozen? ⟨w.heap.size, 0 + 2, none⟩ = false := hT.free 2
            have z3 : w7.frozen? ⟨w.heap.size, 0 + 3, none⟩ = false := hT.free 3
            go_wp2_with fail
            have hT9 := (((hT.set 0 (.int .i64 0)).set 1 (.int .i64 0)).set 2 (.int .i64 0)).set 3 (.slice none 0 0)
            have hP9 : Pure w _ := hP.trans (ext4b w7 w.heap.size) (fun i hi e => by have e' : i = w.heap.size := e; omega)
            obtain ⟨wZ, hwZ⟩ : ∃ wZ, wZ = (((w7.setCell ⟨w.heap.size, 0, none⟩ (.int .i64 0)).setCell ⟨w.heap.size, 1, none⟩ (.int .i64 0)).setCell ⟨w.heap.size, 2, none⟩ (.int .i64 0)).setCell ⟨w.heap.size, 3, none⟩ (.slice none 0 0) := ⟨_, rfl⟩
            rw [← hwZ] at hT9 hP9
            rw [← hwZ]
            clear hwZ
            simp only [sZ, sS] at hT9
            have y0 : wZ.cell? ⟨w.heap.size, 0, none⟩ = some (.int .i64 0) := hT9.cell 0
            have y1 : wZ.cell? ⟨w.heap.size, 1, none⟩ = some (.int .i64 0) := hT9.cell 1
            have y2 : wZ.cell? ⟨w.heap.size, 2, none⟩ = some (.int .i64 0) := hT9.cell 2
            have y3 : wZ.cell? ⟨w.heap.size, 3, none⟩ = some (.slice none 0 0) := hT9.cell 3
            refine bodyPost_ret (v := .tuple #[.agg #[.int .i64 0, .int .i64 0, .int .i64 0, .slice none 0 0], .int .i64 0, .int .i64 10]) (by simp [results, Tryz.results49, go_sem, y0, y1, y2, y3]) rfl ?_
            rw [← HBS.out]
            exact ⟨dErr 10, none, 0, rfl, HTo.out, (by intro i u hu; simp [dErr] at hu), fun _ => rfl, Nat.le_refl _, hP9⟩
          ·have his : is2 = false := by rw [HIS.out]; exact decide_eq_false hKn
           subst his
           have HTo : Hid (DecTo bs (dErr 10)) := qh (dec_cut HLen.out HOK.out HV4.out HV5.out HV6.out HV7.out hFit HOKs.out (not_all1 (fit_lt hFit hKn)))
           have hT := hTk
           have hP := hPk
           clear hUk hTk hPk
           have t0 : wr.cell? ⟨w.heap.size, 0, none⟩ = some (.int .i64 0) := hT.cell 0
           have t1 : wr.cell? ⟨w.heap.size, 0 + 1, none⟩ = some (.int .i64 0) := hT.cell 1
           have t2 : wr.cell? ⟨w.heap.size, 0 + 2, none⟩ = some (.int .i64 0) := hT.cell 2
           have t3 : wr.cell? ⟨w.heap.size, 0 + 3, none⟩ = some (.slice none 0 0) := hT.cell 3
           have z0 : wr.frozen? ⟨w.heap.size, 0, none⟩ = false := hT.free 0
           have z1 : wr.frozen? ⟨w.heap.size, 0 + 1, none⟩ = false := hT.free 1
           have z2 : wr.frozen? ⟨w.heap.size, 0 + 2, none⟩ = false := hT.free 2
           have z3 : wr.frozen? ⟨w.heap.size, 0 + 3, none⟩ = false := hT.free 3
           go_wp2_with fail
           have hT9 := (((hT.set 0 (.int .i64 0)).set 1 (.int .i64 0)).set 2 (.int .i64 0)).set 3 (.slice none 0 0)
           have hP9 : Pure w _ := hP.trans (ext4b wr w.heap.size) (fun i hi e => by have e' : i = w.heap.size := e; omega)
           obtain ⟨wZ, hwZ⟩ : ∃ wZ, wZ = (((wr.setCell ⟨w.heap.size, 0, none⟩ (.int .i64 0)).setCell ⟨w.heap.size, 1, none⟩ (.int .i64 0)).setCell ⟨w.heap.size, 2, none⟩ (.int .i64 0)).setCell ⟨w.heap.size, 3, none⟩ (.slice none 0 0) := ⟨_, rfl⟩
           rw [← hwZ] at hT9 hP9
           rw [← hwZ]
           clear hwZ
           simp only [sZ, sS] at hT9
           have y0 : wZ.cell? ⟨w.heap.size, 0, none⟩ = some (.int .i64 0) := hT9.cell 0
           have y1 : wZ.cell? ⟨w.heap.size, 1, none⟩ = some (.int .i64 0) := hT9.cell 1
           have y2 : wZ.cell? ⟨w.heap.size, 2, none⟩ = some (.int .i64 0) := hT9.cell 2
           have y3 : wZ.cell? ⟨w.heap.size, 3, none⟩ = some (.slice none 0 0) := hT9.cell 3
           refine bodyPost_ret (v := .tuple #[.agg #[.int .i64 0, .int .i64 0, .int .i64 0, .slice none 0 0], .int .i64 0, .int .i64 10]) (by simp [results, Tryz.results49, go_sem, y0, y1, y2, y3]) rfl ?_
           rw [← HBS.out]
           exact ⟨dErr 10, none, 0, rfl, HTo.out, (by intro i u hu; simp [dErr] at hu), fun _ => rfl, Nat.le_refl _, hP9⟩
