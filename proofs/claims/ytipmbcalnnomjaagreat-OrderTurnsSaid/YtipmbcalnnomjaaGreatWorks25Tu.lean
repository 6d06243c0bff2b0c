import Derived.Test.YtipmbcalnnomjaaGreatTurnOTu
import Derived.Test.YtipmbcalnnomjaaGreatLawOTu
import Derived.Test.YtipmbcalnnomjaaGreatSqTu
set_option linter.unusedVariables false
set_option linter.unusedSimpArgs false
set_option maxRecDepth 100000
namespace Go.Proofs.YtipmbcalnnomjaaGreat
open Go.RowKit Go.Maps
def wkP25 : PartsP := ⟨[1, 2], [3], [[4]], [5], [6]⟩
def wkO : OrderP := ⟨[5, 6, 8, 1, 2, 3], [4, 5, 6], [1, 2], [3]⟩
theorem wk_nums : (orderP wkP25).nums = [5, 6, 8, 1, 2, 3] := by decide +kernel
theorem wk_order : orderP wkP25 = wkO := by
 have h : (orderP wkP25).nums = wkO.nums := wk_nums
 have e : orderP wkP25 = ⟨(orderP wkP25).nums, [4, 5, 6], [1, 2], [3]⟩ := rfl
 rw [e, h]
 rfl
theorem ok_new25 {W : World} {b : Nat} {l : List Int} {T : TypeId} (h : BlockIs W b (intsV l) T) : CRow.ok W ⟨some ⟨b, 0, none⟩, l.length, l⟩ :=
 ⟨fun i u hu => ⟨b, 0, rfl, by rw [Nat.zero_add, h.cell i]; exact hu⟩, fun e => (by cases e), Nat.le_refl _⟩
theorem field_doc (a : Option Addr) (n c : Nat) (r : Int) (w : World) : (Instr.field 24 (.agg #[.slice a n c, .int .i64 r]) 0).run Tryz.prog w = .ok (.slice a n c) w := by kernel_rfl
theorem no_objs (w : World) (d : Nat) : OKids w d [] none [] := ⟨rfl, (fun r hr => by cases hr), (fun i u hu => by simp at hu), (fun i o r ho => by simp at ho)⟩
set_option maxHeartbeats 4000000 in
theorem works_any (w : World) : Calls Tryz.prog 7 #[] w (BoolTo true w) := by
 obtain ⟨b, hb⟩ : ∃ z, z = w.heap.size := ⟨_, rfl⟩
 obtain ⟨w1, hw1⟩ : ∃ z, z = w.alloc (.cells #[.int .i64 1, .int .i64 2] 3) := ⟨_, rfl⟩
 obtain ⟨w2, hw2⟩ : ∃ z, z = w1.alloc (.cells #[.int .i64 3] 3) := ⟨_, rfl⟩
 obtain ⟨w3, hw3⟩ : ∃ z, z = w2.alloc (.cells #[.int .i64 4] 3) := ⟨_, rfl⟩
 obtain ⟨w4, hw4⟩ : ∃ z, z = w3.alloc (.cells #[.slice (some ⟨b + 1 + 1, 0, none⟩) 1 1] 25) := ⟨_, rfl⟩
 obtain ⟨w5, hw5⟩ : ∃ z, z = w4.alloc (.cells #[.int .i64 5] 3) := ⟨_, rfl⟩
 obtain ⟨w6, hw6⟩ : ∃ z, z = w5.alloc (.cells #[.int .i64 6] 3) := ⟨_, rfl⟩
 have s1 : w1.heap.size = b + 1 := by rw [hw1, World.size_alloc, hb]
 have s2 : w2.heap.size = b + 1 + 1 := by rw [hw2, World.size_alloc, s1]
 have s3 : w3.heap.size = b + 1 + 1 + 1 := by rw [hw3, World.size_alloc, s2]
 have s4 : w4.heap.size = b + 1 + 1 + 1 + 1 := by rw [hw4, World.size_alloc, s3]
 have s5 : w5.heap.size = b + 1 + 1 + 1 + 1 + 1 := by rw [hw5, World.size_alloc, s4]
 have B1 : BlockIs w6 b (intsV [1, 2]) 3 := by
  have h := BlockIs.new w [.int .i64 1, .int .i64 2] 3
  rw [hw6, hw5, hw4, hw3, hw2, hw1, hb]
  exact ((((h.alloc _).alloc _).alloc _).alloc _).alloc _
 have B2 : BlockIs w6 (b + 1) (intsV [3]) 3 := by
  have h := BlockIs.new w1 [.int .i64 3] 3
  rw [s1] at h
  rw [hw6, hw5, hw4, hw3, hw2]
  exact (((h.alloc _).alloc _).alloc _).alloc _
 have B3 : BlockIs w6 (b + 1 + 1) (intsV [4]) 3 := by
  have h := BlockIs.new w2 [.int .i64 4] 3
  rw [s2] at h
  rw [hw6, hw5, hw4, hw3]
  exact ((h.alloc _).alloc _).alloc _
 have B4 : BlockIs w6 (b + 1 + 1 + 1) ([(⟨some ⟨b + 1 + 1, 0, none⟩, 1, [4]⟩ : CRow)].map CRow.v) 25 := by
  have h := BlockIs.new w3 [.slice (some ⟨b + 1 + 1, 0, none⟩) 1 1] 25
  rw [s3] at h
  rw [hw6, hw5, hw4]
  exact (h.alloc _).alloc _
 have B5 : BlockIs w6 (b + 1 + 1 + 1 + 1) (intsV [5]) 3 := by
  have h := BlockIs.new w4 [.int .i64 5] 3
  rw [s4] at h
  rw [hw6, hw5]
  exact h.alloc _
 have B6 : BlockIs w6 (b + 1 + 1 + 1 + 1 + 1) (intsV [6]) 3 := by
  have h := BlockIs.new w5 [.int .i64 6] 3
  rw [s5] at h
  rw [hw6]
  exact h
 have hP : PAt wkP25 (.slice (some ⟨b, 0, none⟩) 2 2) (.slice (some ⟨b + 1, 0, none⟩) 1 1) (.slice (some ⟨b + 1 + 1 + 1, 0, none⟩) 1 1) (.slice (some ⟨b + 1 + 1 + 1 + 1, 0, none⟩) 1 1) (.slice (some ⟨b + 1 + 1 + 1 + 1 + 1, 0, none⟩) 1 1) w6 := by
  refine ⟨⟨some ⟨b, 0, none⟩, 2, [1, 2]⟩, ⟨some ⟨b + 1, 0, none⟩, 1, [3]⟩, ⟨some ⟨b + 1 + 1 + 1 + 1, 0, none⟩, 1, [5]⟩, ⟨some ⟨b + 1 + 1 + 1 + 1 + 1, 0, none⟩, 1, [6]⟩, some ⟨b + 1 + 1 + 1, 0, none⟩, 1, [⟨some ⟨b + 1 + 1, 0, none⟩, 1, [4]⟩], ⟨rfl, rfl, rfl, rfl, rfl, ok_new25 B1, ok_new25 B2, ?_, ⟨(fun e => by cases e), Nat.le_refl 1⟩, ?_, ok_new25 B5, ok_new25 B6⟩, rfl, rfl, rfl, rfl, rfl⟩
  ·refine ⟨row_blk B4, fun q hq => ?_⟩
   rw [List.mem_singleton.1 hq]
   exact (ok_new25 B3).1
  ·intro q hq
   rw [List.mem_singleton.1 hq]
   exact ok_new25 B3
 have hC := orderof_any hP (by decide)
 rw [wk_order] at hC
 have HC := qh hC
 have HP6 : Hid (Pure w w6) := qh (by rw [hw6, hw5, hw4, hw3, hw2, hw1]; exact (((((ext_alloc w _).pure (ext_alloc _ _)).pure (ext_alloc _ _)).pure (ext_alloc _ _)).pure (ext_alloc _ _)).pure (ext_alloc _ _))
 have HW6 : Hid ((((((w.alloc (.cells #[.int .i64 1, .int .i64 2] 3)).alloc (.cells #[.int .i64 3] 3)).alloc (.cells #[.int .i64 4] 3)).alloc (.cells #[.slice (some ⟨b + 1 + 1, 0, none⟩) 1 1] 25)).alloc (.cells #[.int .i64 5] 3)).alloc (.cells #[.int .i64 6] 3) = w6) := qh (by rw [hw6, hw5, hw4, hw3, hw2, hw1])
 have HB := qh hb.symm
 clear hw1 hw2 hw3 hw4 hw5 hw6 s1 s2 s3 s4 s5 B1 B2 B3 B4 B5 B6 hP hC hb
 go_enter Tryz.func7, Tryz.ntmps7
 go_wp2_with fail
 rw [HB.out, HW6.out]
 refine HC.out.mono ?_
 rintro e W6 ⟨a0, a1, a2, a3, n0, n1, n2, n3, c0, c1, c2, c3, rfl, hO, hP⟩
 obtain ⟨⟨e0, _⟩, ⟨e1, _⟩, ⟨e2, _⟩, ⟨e3, _⟩⟩ := hO.now.opened
 obtain rfl : n0 = 6 := e0
 obtain rfl : n1 = 3 := e1
 obtain rfl : n2 = 2 := e2
 obtain rfl : n3 = 1 := e3
 rw [show ((wkO.main.length + 1 : Nat) : Int) = 4 from rfl, show ((wkO.main.length + wkO.head.length + 2 : Nat) : Int) = 7 from rfl]
 have HO := qh hO.now
 have HP6 := qh (HP6.out.pure hP)
 clear hO hP HC HW6
 obtain ⟨W7, hW7⟩ : ∃ z, z = W6.alloc (.cells #[.slice a0 6 c0, .slice a1 3 c1, .slice a2 2 c2, .slice a3 1 c3, .int .i64 4, .int .i64 7] 34) := ⟨_, rfl⟩
 have HB7 : Hid (BlockIs W7 W6.heap.size [.slice a0 6 c0, .slice a1 3 c1, .slice a2 2 c2, .slice a3 1 c3, .int .i64 4, .int .i64 7] 34) := qh (by rw [hW7]; exact BlockIs.new W6 _ _)
 have HP7 : Hid (Pure w W7) := qh (by rw [hW7]; exact HP6.out.pure (ext_alloc W6 _))
 have HO7 : Hid (OAt wkO (.slice a0 6 c0) (.slice a1 3 c1) (.slice a2 2 c2) (.slice a3 1 c3) W7) := qh (by rw [hW7]; exact HO.out.pure (ext_alloc W6 _))
 have HW7 := qh hW7.symm
 obtain ⟨tb, htb⟩ : ∃ z, z = W6.heap.size := ⟨_, rfl⟩
 rw [← htb] at HB7
 have HTb := qh htb.symm
 clear hW7 htb
 go_wp2_with fail
 rw [HW7.out, HTb.out]
 refine (ordernew_none W7).mono ?_
 rintro e W8 ⟨rfl, hP8⟩
 obtain ⟨W9, hW9⟩ : ∃ z, z = W8.alloc (.cells #[.slice none 0 0, .slice none 0 0, .slice none 0 0, .slice none 0 0, .int .i64 0, .int .i64 0] 34) := ⟨_, rfl⟩
 have hP79 : Pure W7 W9 := by rw [hW9]; exact hP8.pure (ext_alloc W8 _)
 have HP9 := qh (HP7.out.pure hP79)
 have HB9 := qh (HB7.out.ext hP79 id)
 have HO9 := qh (HO7.out.pure hP79)
 have HW9 := qh hW9.symm
 have hlt : tb < W8.heap.size := (HB7.out.ext hP8 id).lt
 have x0 : W9.cell? ⟨tb, 0, none⟩ = some (.slice a0 6 c0) := HB9.out.cell 0
 have x1 : W9.cell? ⟨tb, 0 + 1, none⟩ = some (.slice a1 3 c1) := HB9.out.cell 1
 have x2 : W9.cell? ⟨tb, 0 + 2, none⟩ = some (.slice a2 2 c2) := HB9.out.cell 2
 have x3 : W9.cell? ⟨tb, 0 + 3, none⟩ = some (.slice a3 1 c3) := HB9.out.cell 3
 have x4 : W9.cell? ⟨tb, 0 + 4, none⟩ = some (.int .i64 4) := HB9.out.cell 4
 have x5 : W9.cell? ⟨tb, 0 + 5, none⟩ = some (.int .i64 7) := HB9.out.cell 5
 clear hW9 hP8 hP79 HB7 HO7
 go_upto_region 3 with (fail)
 rw [HW9.out]
 go_wp2_with fail
 refine (lawof_any a0 a1 a2 a3 6 3 2 1 c0 c1 c2 c3 4 7 W9).mono ?_
 rintro e V0 ⟨rfl, hP10⟩
 clear x0 x1 x2 x3 x4 x5
 obtain ⟨V1, hV1⟩ : ∃ z, z = V0.alloc (.cells #[.int .i64 5, .int .i64 6, .int .i64 8, .int .i64 1, .int .i64 2, .int .i64 3] 3) := ⟨_, rfl⟩
 obtain ⟨V2, hV2⟩ : ∃ z, z = V1.alloc (.cells #[.int .i64 4, .int .i64 5, .int .i64 6] 3) := ⟨_, rfl⟩
 obtain ⟨V3, hV3⟩ : ∃ z, z = V2.alloc (.cells #[.int .i64 1, .int .i64 2] 3) := ⟨_, rfl⟩
 obtain ⟨V4, hV4⟩ : ∃ z, z = V3.alloc (.cells #[.int .i64 3] 3) := ⟨_, rfl⟩
 obtain ⟨q, hq⟩ : ∃ z, z = V0.heap.size := ⟨_, rfl⟩
 have s1 : V1.heap.size = q + 1 := by rw [hV1, World.size_alloc, hq]
 have s2 : V2.heap.size = q + 1 + 1 := by rw [hV2, World.size_alloc, s1]
 have s3 : V3.heap.size = q + 1 + 1 + 1 := by rw [hV3, World.size_alloc, s2]
 have B1 : BlockIs V4 q (intsV [5, 6, 8, 1, 2, 3]) 3 := by
  have h := BlockIs.new V0 [.int .i64 5, .int .i64 6, .int .i64 8, .int .i64 1, .int .i64 2, .int .i64 3] 3
  rw [hV4, hV3, hV2, hV1, hq]
  exact ((h.alloc _).alloc _).alloc _
 have B2 : BlockIs V4 (q + 1) (intsV [4, 5, 6]) 3 := by
  have h := BlockIs.new V1 [.int .i64 4, .int .i64 5, .int .i64 6] 3
  rw [s1] at h
  rw [hV4, hV3, hV2]
  exact (h.alloc _).alloc _
 have B3 : BlockIs V4 (q + 1 + 1) (intsV [1, 2]) 3 := by
  have h := BlockIs.new V2 [.int .i64 1, .int .i64 2] 3
  rw [s2] at h
  rw [hV4, hV3]
  exact h.alloc _
 have B4 : BlockIs V4 (q + 1 + 1 + 1) (intsV [3]) 3 := by
  have h := BlockIs.new V3 [.int .i64 3] 3
  rw [s3] at h
  rw [hV4]
  exact h
 have hP94 : Pure W9 V4 := by rw [hV4, hV3, hV2, hV1]; exact (((hP10.pure (ext_alloc _ _)).pure (ext_alloc _ _)).pure (ext_alloc _ _)).pure (ext_alloc _ _)
 have hL : OAt wkO (.slice (some ⟨q, 0, none⟩) 6 6) (.slice (some ⟨q + 1, 0, none⟩) 3 3) (.slice (some ⟨q + 1 + 1, 0, none⟩) 2 2) (.slice (some ⟨q + 1 + 1 + 1, 0, none⟩) 1 1) V4 :=
  ⟨⟨some ⟨q, 0, none⟩, 6, [5, 6, 8, 1, 2, 3]⟩, ⟨some ⟨q + 1, 0, none⟩, 3, [4, 5, 6]⟩, ⟨some ⟨q + 1 + 1, 0, none⟩, 2, [1, 2]⟩, ⟨some ⟨q + 1 + 1 + 1, 0, none⟩, 1, [3]⟩, rfl, rfl, rfl, rfl, rfl, rfl, rfl, rfl, ok_new25 B1, ok_new25 B2, ok_new25 B3, ok_new25 B4⟩
 have HV4 : Hid ((((V0.alloc (.cells #[.int .i64 5, .int .i64 6, .int .i64 8, .int .i64 1, .int .i64 2, .int .i64 3] 3)).alloc (.cells #[.int .i64 4, .int .i64 5, .int .i64 6] 3)).alloc (.cells #[.int .i64 1, .int .i64 2] 3)).alloc (.cells #[.int .i64 3] 3) = V4) := qh (by rw [hV4, hV3, hV2, hV1])
 have HQ := qh hq.symm
 have HSm := qh (rosame_any (x := 4) (y := 7) (HO9.out.pure hP94) hL (by decide))
 have HP4 := qh (HP9.out.pure hP94)
 have HB4 := qh (HB9.out.ext hP94 id)
 have HO4 := qh (HO9.out.pure hP94)
 clear hP10 hV1 hV2 hV3 hV4 hq s1 s2 s3 B1 B2 B3 B4 hP94 hL
 go_wp2_with fail
 rw [HQ.out, HV4.out]
 refine HSm.out.mono ?_
 rintro e V5 ⟨rfl, hP5⟩
 have HP5 := qh (HP4.out.pure hP5)
 have hB5 := HB4.out.ext hP5 id
 have HO5 := qh (HO4.out.pure hP5)
 have x0 : V5.cell? ⟨tb, 0, none⟩ = some (.slice a0 6 c0) := hB5.cell 0
 have x1 : V5.cell? ⟨tb, 0 + 1, none⟩ = some (.slice a1 3 c1) := hB5.cell 1
 have x2 : V5.cell? ⟨tb, 0 + 2, none⟩ = some (.slice a2 2 c2) := hB5.cell 2
 have x3 : V5.cell? ⟨tb, 0 + 3, none⟩ = some (.slice a3 1 c3) := hB5.cell 3
 have x4 : V5.cell? ⟨tb, 0 + 4, none⟩ = some (.int .i64 4) := hB5.cell 4
 have x5 : V5.cell? ⟨tb, 0 + 5, none⟩ = some (.int .i64 7) := hB5.cell 5
 clear hP5 hB5
 go_wp2_with fail
 refine (turn_any 0 [] none 0 0 [] V5 (no_objs V5 1) (by decide) (fun o ho => by cases ho) HO5.out (by decide)).mono ?_
 rintro e V6 ⟨g, N, rws, rfl, hN, _, _, _, hP6⟩
 obtain rfl : N = 8 := by rw [hN, turnedP_len]; rfl
 have HP6 := qh (HP5.out.pure hP6)
 rw [show ((wkO.main.length + 2 : Nat) : Int) = 5 from rfl]
 have hfd := field_doc (some ⟨g, 0, none⟩) 8 8 5 V6
 clear hN hP6 x0 x1 x2 x3 x4 x5
 go_wp2_with fail
 go_ret
 exact ⟨rfl, HP6.out⟩
