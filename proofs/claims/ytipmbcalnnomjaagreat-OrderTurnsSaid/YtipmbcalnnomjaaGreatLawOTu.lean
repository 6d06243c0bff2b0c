import Derived.Test.YtipmbcalnnomjaaGreatOrderOfTu
import Derived.Test.YtipmbcalnnomjaaGreatSqTu
set_option linter.unusedVariables false
set_option linter.unusedSimpArgs false
set_option maxRecDepth 100000
namespace Go.Proofs.YtipmbcalnnomjaaGreat
open Go.RowKit Go.Maps
set_option maxHeartbeats 2000000 in
theorem ordernew_none (w : World) : Calls Tryz.prog 14 #[.agg #[.slice none 0 0, .int .i64 0]] w (fun e w' => e = .returned (.tuple #[.agg #[.slice none 0 0, .slice none 0 0, .slice none 0 0, .slice none 0 0, .int .i64 0, .int .i64 0], .int .i64 23]) ∧ Pure w w') := by
 obtain ⟨w1, hw1⟩ : ∃ z, z = (w.alloc (.cells #[.slice none 0 0, .int .i64 0] 24)).alloc (.cells #[.slice none 0 0, .slice none 0 0, .slice none 0 0, .slice none 0 0, .int .i64 0, .int .i64 0] 34) := ⟨_, rfl⟩
 have HP1 : Hid (Pure w w1) := qh (by rw [hw1]; exact (ext_alloc w _).pure (ext_alloc _ _))
 have HB1 : Hid (BlockIs w1 (w.heap.size + 1) [.slice none 0 0, .slice none 0 0, .slice none 0 0, .slice none 0 0, .int .i64 0, .int .i64 0] 34) := qh (by
  have := BlockIs.new (w.alloc (.cells #[.slice none 0 0, .int .i64 0] 24)) [.slice none 0 0, .slice none 0 0, .slice none 0 0, .slice none 0 0, .int .i64 0, .int .i64 0] 34
  rw [World.size_alloc] at this
  rw [hw1]; exact this)
 have HW1 := qh hw1.symm
 obtain ⟨R, hR⟩ : ∃ z, z = w.heap.size := ⟨_, rfl⟩
 rw [← hR] at HB1
 have HR := qh hR.symm
 clear hw1 hR
 go_enter Tryz.func14, Tryz.ntmps14
 go_wp2_with fail
 rw [HW1.out, HR.out]
 refine (split_none w1).mono ?_
 rintro e w2 ⟨rfl, hP2⟩
 have HB2 := qh (HB1.out.ext hP2 id)
 have HP2 := qh (HP1.out.pure hP2)
 obtain ⟨w3, hw3⟩ : ∃ z, z = w2.alloc (.cells #[.slice none 0 0, .slice none 0 0, .slice none 0 0, .slice none 0 0, .slice none 0 0] 36) := ⟨_, rfl⟩
 have hP3 : Pure w2 w3 := by rw [hw3]; exact ext_alloc _ _
 have HP3 := qh (HP2.out.pure hP3)
 have HB3 := qh (HB2.out.ext hP3 id)
 have HW3 := qh hw3.symm
 have HTh : Hid (w3.there (R + 1) 0 (#[Value.slice none 0 0, .slice none 0 0, .slice none 0 0, .slice none 0 0, .int .i64 0, .int .i64 0] : Array Value).size) := qh (HB3.out.there 6 rfl)
 have HSi : Hid ((Tryz.prog.info? 34).map (·.size) = some (#[Value.slice none 0 0, .slice none 0 0, .slice none 0 0, .slice none 0 0, .int .i64 0, .int .i64 0] : Array Value).size) := qh sizeOr
 have HOn : Hid (((#[Value.slice none 0 0, .slice none 0 0, .slice none 0 0, .slice none 0 0, .int .i64 0, .int .i64 0] : Array Value).all fun u => u.oneCell') = true) := qh (all_oneCell_toArray (by intro u hu; simp only [List.mem_cons, List.not_mem_nil, or_false] at hu; rcases hu with rfl | rfl | rfl | rfl | rfl | rfl <;> rfl))
 clear hP2 hP3 hw3
 go_wp2_with (with_reducible refine at_store 34 (.tmp 2) (.tmp 13) ?_; rw [HW3.out]; refine wpList_store_mid rfl 34 (.tmp 2) (.tmp 13) rfl (R + 1) 0 #[.slice none 0 0, .slice none 0 0, .slice none 0 0, .slice none 0 0, .int .i64 0, .int .i64 0] rfl rfl HTh.out HSi.out HOn.out ?_)
 have hB := HB3.out.setAll [.slice none 0 0, .slice none 0 0, .slice none 0 0, .slice none 0 0, .int .i64 0, .int .i64 0] rfl
 refine bodyPost_ret (results_row2 rfl _ _ (R + 1) _ [.slice none 0 0, .slice none 0 0, .slice none 0 0, .slice none 0 0, .int .i64 0, .int .i64 0] _ rfl hB Tryz.underlying34 rfl sizeOr) rfl ?_
 exact ⟨rfl, Ext.setCells _ 0 _ HP3.out (b := R + 1) (fun h => by have := HR.out; omega)⟩
theorem sizeRO : (Tryz.prog.info? 38).map (·.size) = some 6 := by kernel_rfl
set_option maxHeartbeats 1000000 in
theorem lawof_any (a0 a1 a2 a3 : Option Addr) (n0 n1 n2 n3 c0 c1 c2 c3 : Nat) (x y : Int) (w : World) :
 Calls Tryz.prog 21 #[.agg #[.slice a0 n0 c0, .slice a1 n1 c1, .slice a2 n2 c2, .slice a3 n3 c3, .int .i64 x, .int .i64 y]] w
  (fun e w' => e = .returned (.agg #[.slice a0 n0 c0, .slice a1 n1 c1, .slice a2 n2 c2, .slice a3 n3 c3, .int .i64 x, .int .i64 y]) ∧ Pure w w') := by
 obtain ⟨w1, hw1⟩ : ∃ z, z = (w.alloc (.cells #[.slice a0 n0 c0, .slice a1 n1 c1, .slice a2 n2 c2, .slice a3 n3 c3, .int .i64 x, .int .i64 y] 34)).alloc (.cells #[.slice none 0 0, .slice none 0 0, .slice none 0 0, .slice none 0 0, .int .i64 0, .int .i64 0] 38) := ⟨_, rfl⟩
 have HP1 : Hid (Pure w w1) := qh (by rw [hw1]; exact (ext_alloc w _).pure (ext_alloc _ _))
 have HB0 : Hid (BlockIs w1 w.heap.size [.slice a0 n0 c0, .slice a1 n1 c1, .slice a2 n2 c2, .slice a3 n3 c3, .int .i64 x, .int .i64 y] 34) := qh (by rw [hw1]; exact (BlockIs.new w _ _).alloc _)
 have HB1 : Hid (BlockIs w1 (w.heap.size + 1) [.slice none 0 0, .slice none 0 0, .slice none 0 0, .slice none 0 0, .int .i64 0, .int .i64 0] 38) := qh (by
  have := BlockIs.new (w.alloc (.cells #[.slice a0 n0 c0, .slice a1 n1 c1, .slice a2 n2 c2, .slice a3 n3 c3, .int .i64 x, .int .i64 y] 34)) [.slice none 0 0, .slice none 0 0, .slice none 0 0, .slice none 0 0, .int .i64 0, .int .i64 0] 38
  rw [World.size_alloc] at this
  rw [hw1]; exact this)
 have HW1 := qh hw1.symm
 obtain ⟨R, hR⟩ : ∃ z, z = w.heap.size := ⟨_, rfl⟩
 rw [← hR] at HB1 HB0
 have HR := qh hR.symm
 have x0 : w1.cell? ⟨R, 0, none⟩ = some (.slice a0 n0 c0) := HB0.out.cell 0
 have x1 : w1.cell? ⟨R, 1, none⟩ = some (.slice a1 n1 c1) := HB0.out.cell 1
 have x2 : w1.cell? ⟨R, 2, none⟩ = some (.slice a2 n2 c2) := HB0.out.cell 2
 have x3 : w1.cell? ⟨R, 3, none⟩ = some (.slice a3 n3 c3) := HB0.out.cell 3
 have x4 : w1.cell? ⟨R, 4, none⟩ = some (.int .i64 x) := HB0.out.cell 4
 have x5 : w1.cell? ⟨R, 5, none⟩ = some (.int .i64 y) := HB0.out.cell 5
 have HTh : Hid (w1.there (R + 1) 0 (#[Value.slice a0 n0 c0, .slice a1 n1 c1, .slice a2 n2 c2, .slice a3 n3 c3, .int .i64 x, .int .i64 y] : Array Value).size) := qh (HB1.out.there 6 rfl)
 have HSi : Hid ((Tryz.prog.info? 38).map (·.size) = some (#[Value.slice a0 n0 c0, .slice a1 n1 c1, .slice a2 n2 c2, .slice a3 n3 c3, .int .i64 x, .int .i64 y] : Array Value).size) := qh sizeRO
 have HOn : Hid (((#[Value.slice a0 n0 c0, .slice a1 n1 c1, .slice a2 n2 c2, .slice a3 n3 c3, .int .i64 x, .int .i64 y] : Array Value).all fun u => u.oneCell') = true) := qh (all_oneCell_toArray (by intro u hu; simp only [List.mem_cons, List.not_mem_nil, or_false] at hu; rcases hu with rfl | rfl | rfl | rfl | rfl | rfl <;> rfl))
 clear hw1 hR
 go_enter Tryz.func21, Tryz.ntmps21
 go_upto_region 1 with (fail)
 rw [HW1.out, HR.out]
 go_wp2_with (with_reducible refine at_store 38 (.tmp 2) (.tmp 15) ?_; refine wpList_store_mid rfl 38 (.tmp 2) (.tmp 15) rfl (R + 1) 0 #[.slice a0 n0 c0, .slice a1 n1 c1, .slice a2 n2 c2, .slice a3 n3 c3, .int .i64 x, .int .i64 y] rfl rfl HTh.out HSi.out HOn.out ?_)
 have hB := HB1.out.setAll [.slice a0 n0 c0, .slice a1 n1 c1, .slice a2 n2 c2, .slice a3 n3 c3, .int .i64 x, .int .i64 y] rfl
 refine bodyPost_ret (results_row1 rfl _ _ (R + 1) _ [.slice a0 n0 c0, .slice a1 n1 c1, .slice a2 n2 c2, .slice a3 n3 c3, .int .i64 x, .int .i64 y] _ rfl hB Tryz.underlying38 rfl sizeRO) rfl ?_
 exact ⟨rfl, Ext.setCells _ 0 _ HP1.out (b := R + 1) (fun h => by have := HR.out; omega)⟩
theorem OAt.opened {o : OrderP} {a0 a1 a2 a3 : Option Addr} {n0 n1 n2 n3 c0 c1 c2 c3 : Nat} {W : World} (h : OAt o (.slice a0 n0 c0) (.slice a1 n1 c1) (.slice a2 n2 c2) (.slice a3 n3 c3) W) :
 (n0 = o.nums.length ∧ CRow.ok W ⟨a0, c0, o.nums⟩) ∧ (n1 = o.main.length ∧ CRow.ok W ⟨a1, c1, o.main⟩) ∧ (n2 = o.head.length ∧ CRow.ok W ⟨a2, c2, o.head⟩) ∧ (n3 = o.first.length ∧ CRow.ok W ⟨a3, c3, o.first⟩) := by
 obtain ⟨⟨ta, tc, tl⟩, ⟨ma, mc, ml⟩, ⟨ha, hc, hl⟩, ⟨fa, fc, fl⟩, e0, e1, e2, e3, l0, l1, l2, l3, k0, k1, k2, k3⟩ := h
 obtain rfl : tl = o.nums := l0
 obtain rfl : ml = o.main := l1
 obtain rfl : hl = o.head := l2
 obtain rfl : fl = o.first := l3
 cases e0
 cases e1
 cases e2
 cases e3
 exact ⟨⟨rfl, k0⟩, ⟨rfl, k1⟩, ⟨rfl, k2⟩, ⟨rfl, k3⟩⟩
set_option maxHeartbeats 1000000 in
theorem rosame_any {o : OrderP} {a0 a1 a2 a3 b0 b1 b2 b3 : Option Addr} {n0 n1 n2 n3 c0 c1 c2 c3 k0 k1 k2 k3 d0 d1 d2 d3 : Nat} {x y : Int} {w : World} (H : OAt o (.slice a0 n0 c0) (.slice a1 n1 c1) (.slice a2 n2 c2) (.slice a3 n3 c3) w)
 (H' : OAt o (.slice b0 k0 d0) (.slice b1 k1 d1) (.slice b2 k2 d2) (.slice b3 k3 d3) w) (hz : o.nums.length ≤ 1000000 ∧ o.main.length ≤ 1000000 ∧ o.head.length ≤ 1000000 ∧ o.first.length ≤ 1000000) :
 Calls Tryz.prog 20 #[.agg #[.slice a0 n0 c0, .slice a1 n1 c1, .slice a2 n2 c2, .slice a3 n3 c3, .int .i64 x, .int .i64 y], .agg #[.slice b0 k0 d0, .slice b1 k1 d1, .slice b2 k2 d2, .slice b3 k3 d3, .int .i64 x, .int .i64 y]] w (BoolTo true w) := by
 obtain ⟨⟨rfl, q0⟩, ⟨rfl, q1⟩, ⟨rfl, q2⟩, ⟨rfl, q3⟩⟩ := H.opened
 obtain ⟨⟨rfl, r0⟩, ⟨rfl, r1⟩, ⟨rfl, r2⟩, ⟨rfl, r3⟩⟩ := H'.opened
 obtain ⟨z0, z1, z2, z3⟩ := hz
 have K0 := qh (fun W (hP : Pure w W) => rsame_any o.nums a0 c0 b0 d0 W (q0.pure hP).1 (r0.pure hP).1 (by omega))
 have K1 := qh (fun W (hP : Pure w W) => rsame_any o.main a1 c1 b1 d1 W (q1.pure hP).1 (r1.pure hP).1 (by omega))
 have K2 := qh (fun W (hP : Pure w W) => rsame_any o.head a2 c2 b2 d2 W (q2.pure hP).1 (r2.pure hP).1 (by omega))
 have K3 := qh (fun W (hP : Pure w W) => rsame_any o.first a3 c3 b3 d3 W (q3.pure hP).1 (r3.pure hP).1 (by omega))
 generalize o.nums.length = m0 at *
 generalize o.main.length = m1 at *
 generalize o.head.length = m2 at *
 generalize o.first.length = m3 at *
 clear H H' q0 q1 q2 q3 r0 r1 r2 r3 z0 z1 z2 z3
 obtain ⟨w2, hw2⟩ : ∃ z, z = (w.alloc (.cells #[.slice a0 m0 c0, .slice a1 m1 c1, .slice a2 m2 c2, .slice a3 m3 c3, .int .i64 x, .int .i64 y] 38)).alloc (.cells #[.slice b0 m0 d0, .slice b1 m1 d1, .slice b2 m2 d2, .slice b3 m3 d3, .int .i64 x, .int .i64 y] 38) := ⟨_, rfl⟩
 have HP2 : Hid (Pure w w2) := qh (by rw [hw2]; exact (ext_alloc w _).pure (ext_alloc _ _))
 have HB1 : Hid (BlockIs w2 w.heap.size [.slice a0 m0 c0, .slice a1 m1 c1, .slice a2 m2 c2, .slice a3 m3 c3, .int .i64 x, .int .i64 y] 38) := qh (by rw [hw2]; exact (BlockIs.new w _ _).alloc _)
 have HB2 : Hid (BlockIs w2 (w.heap.size + 1) [.slice b0 m0 d0, .slice b1 m1 d1, .slice b2 m2 d2, .slice b3 m3 d3, .int .i64 x, .int .i64 y] 38) := qh (by
  have := BlockIs.new (w.alloc (.cells #[.slice a0 m0 c0, .slice a1 m1 c1, .slice a2 m2 c2, .slice a3 m3 c3, .int .i64 x, .int .i64 y] 38)) [.slice b0 m0 d0, .slice b1 m1 d1, .slice b2 m2 d2, .slice b3 m3 d3, .int .i64 x, .int .i64 y] 38
  rw [World.size_alloc] at this
  rw [hw2]; exact this)
 have HW2 := qh hw2.symm
 obtain ⟨tb, htb⟩ : ∃ z, z = w.heap.size := ⟨_, rfl⟩
 rw [← htb] at HB1 HB2
 have HTb := qh htb.symm
 clear hw2 htb
 go_enter Tryz.func20, Tryz.ntmps20
 go_wp2_with fail
 rw [HW2.out, HTb.out]
 refine (K0.out w2 HP2.out).mono ?_
 rintro e w3 ⟨rfl, hP⟩
 have HP3 := qh (HP2.out.pure hP)
 have HB1 := qh (HB1.out.ext hP id)
 have HB2 := qh (HB2.out.ext hP id)
 clear hP
 have x1 : w3.cell? ⟨tb, 1, none⟩ = some (.slice a1 m1 c1) := HB1.out.cell 1
 have y1 : w3.cell? ⟨tb + 1, 1, none⟩ = some (.slice b1 m1 d1) := HB2.out.cell 1
 go_wp2_with fail
 refine (K1.out w3 HP3.out).mono ?_
 rintro e w4 ⟨rfl, hP⟩
 have HP4 := qh (HP3.out.pure hP)
 have HB1 := qh (HB1.out.ext hP id)
 have HB2 := qh (HB2.out.ext hP id)
 clear hP x1 y1
 have x2 : w4.cell? ⟨tb, 2, none⟩ = some (.slice a2 m2 c2) := HB1.out.cell 2
 have y2 : w4.cell? ⟨tb + 1, 2, none⟩ = some (.slice b2 m2 d2) := HB2.out.cell 2
 go_wp2_with fail
 refine (K2.out w4 HP4.out).mono ?_
 rintro e w5 ⟨rfl, hP⟩
 have HP5 := qh (HP4.out.pure hP)
 have HB1 := qh (HB1.out.ext hP id)
 have HB2 := qh (HB2.out.ext hP id)
 clear hP x2 y2
 have x3 : w5.cell? ⟨tb, 3, none⟩ = some (.slice a3 m3 c3) := HB1.out.cell 3
 have y3 : w5.cell? ⟨tb + 1, 3, none⟩ = some (.slice b3 m3 d3) := HB2.out.cell 3
 go_wp2_with fail
 refine (K3.out w5 HP5.out).mono ?_
 rintro e w6 ⟨rfl, hP⟩
 have HP6 := qh (HP5.out.pure hP)
 have HB1 := qh (HB1.out.ext hP id)
 have HB2 := qh (HB2.out.ext hP id)
 clear hP x3 y3
 have x4 : w6.cell? ⟨tb, 4, none⟩ = some (.int .i64 x) := HB1.out.cell 4
 have x5 : w6.cell? ⟨tb, 5, none⟩ = some (.int .i64 y) := HB1.out.cell 5
 have y4 : w6.cell? ⟨tb + 1, 4, none⟩ = some (.int .i64 x) := HB2.out.cell 4
 have y5 : w6.cell? ⟨tb + 1, 5, none⟩ = some (.int .i64 y) := HB2.out.cell 5
 go_wp2_with fail
 go_ret
 exact ⟨by simp, HP6.out⟩
