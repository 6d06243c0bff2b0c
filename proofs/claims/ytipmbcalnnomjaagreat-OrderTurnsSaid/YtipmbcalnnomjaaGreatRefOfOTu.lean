import Derived.Test.YtipmbcalnnomjaaGreatLawOTu
import Derived.Test.YtipmbcalnnomjaaGreatSqTu
set_option linter.unusedVariables false
set_option linter.unusedSimpArgs false
set_option maxRecDepth 100000
namespace Go.Proofs.YtipmbcalnnomjaaGreat
open Go.RowKit Go.Maps
theorem one_int0 : ∀ u ∈ [Value.int .i64 0], u.oneCell' = true := fun u hu => by
 rw [List.mem_singleton] at hu
 subst hu
 rfl
set_option maxHeartbeats 2000000 in
theorem rall_any {main head first : List Int} {a0 a1 a2 a3 : Option Addr} {n0 n1 n2 n3 c0 c1 c2 c3 : Nat} {x y : Int} {w : World} (h1 : n1 = main.length ∧ CRow.ok w ⟨a1, c1, main⟩) (h2 : n2 = head.length ∧ CRow.ok w ⟨a2, c2, head⟩) (h3 : n3 = first.length ∧ CRow.ok w ⟨a3, c3, first⟩)
 (hz : n1 ≤ 1000000 ∧ n2 ≤ 1000000 ∧ n3 ≤ 1000000) :
 Calls Tryz.prog 30 #[.agg #[.slice a0 n0 c0, .slice a1 n1 c1, .slice a2 n2 c2, .slice a3 n3 c3, .int .i64 x, .int .i64 y]] w (OwnI (allO main head first) w) := by
 obtain ⟨z1, z2, z3⟩ := hz
 have HK1 := qh h1.2
 have HK2 := qh h2.2
 have HK3 := qh h3.2
 have HA1 := qh (h1.2.app h1.1)
 have HA2 := qh (h2.2.app h2.1)
 have HA3 := qh (h3.2.app h3.1)
 have HEq : Hid (((([] ++ intsV main) ++ [.int .i64 0]) ++ intsV head) ++ [.int .i64 0] ++ intsV first = intsV (allO main head first)) := qh (by unfold allO intsV; simp)
 have HLn : Hid ((allO main head first).length = n1 + 1 + n2 + 1 + n3) := qh (by unfold allO; simp only [List.length_append, List.length_singleton]; rw [h1.1, h2.1, h3.1])
 obtain ⟨w1, hw1⟩ : ∃ z, z = w.alloc (.cells #[.slice a0 n0 c0, .slice a1 n1 c1, .slice a2 n2 c2, .slice a3 n3 c3, .int .i64 x, .int .i64 y] 38) := ⟨_, rfl⟩
 have HP1 : Hid (Pure w w1) := qh (by rw [hw1]; exact ext_alloc w _)
 have HB1 : Hid (BlockIs w1 w.heap.size [.slice a0 n0 c0, .slice a1 n1 c1, .slice a2 n2 c2, .slice a3 n3 c3, .int .i64 x, .int .i64 y] 38) := qh (by rw [hw1]; exact BlockIs.new w _ _)
 have HW1 := qh hw1.symm
 obtain ⟨R, hR⟩ : ∃ z, z = w.heap.size := ⟨_, rfl⟩
 rw [← hR] at HB1
 have HR := qh hR.symm
 obtain ⟨B, hB⟩ : ∃ z, z = w1.heap.size := ⟨_, rfl⟩
 have HRB : Hid (R < B ∧ w.heap.size ≤ B) := qh ⟨by rw [hB]; exact HB1.out.lt, by rw [hB]; exact HP1.out.size⟩
 have HBw : Hid (w1.heap.size = B) := qh hB.symm
 have HQ1 : Hid (Pure w1 w1) := qh (Ext.refl _ _)
 clear hB hw1 hR h1 h2 h3
 go_enter Tryz.func30, Tryz.ntmps30
 go_upto_region 1 with (fail)
 rw [HW1.out, HR.out]
 obtain ⟨w2, hw⟩ : ∃ z, z = w1.alloc (.cells #[] 3) := ⟨_, rfl⟩
 have HPn : Hid (Pure w1 w2) := qh (by rw [hw]; exact ext_alloc _ _)
 have HO : Hid (w2.ownsRow B 3 1 (.slice (some ⟨w1.heap.size, 0, none⟩) 0 0) 0 []) := qh (by rw [hw]; exact own_new (cs := []) rfl (Nat.zero_le _) _ (Nat.le_of_eq HBw.out.symm))
 have HWn : Hid (w1.alloc (.cells #[] 3) = w2) := qh hw.symm
 have HP2 := qh (HP1.out.pure HPn.out)
 have HQ2 := qh (HQ1.out.pure HPn.out)
 have x1 : w1.cell? ⟨R, 1, none⟩ = some (.slice a1 n1 c1) := HB1.out.cell 1
 have y1 : R < w1.heap.size := HB1.out.lt
 have HB2 := qh (HB1.out.ext HPn.out id)
 clear hw
 have HRw : Hid (RowOf w2 a1 (intsV main)) := qh (HK1.out.pure HP2.out).1
 have HS2 : Hid (B ≤ w2.heap.size) := qh (by rw [← HBw.out]; exact HQ2.out.size)
 go_upto_region 2 with (at_builtin; rw [HWn.out]; refine wpList_append_any rfl (.tmp 4) (.tmp 6) 25 rfl B 3 (.int .i64 0) 1 8 Tryz.underlying25 infoI rfl (by decide) (.slice (some ⟨w1.heap.size, 0, none⟩) (0) 0) (0) ([]) rfl HO.out a1 n1 c1 (intsV main) rfl HA1.out.1 HA1.out.2.1 HRw.out HA1.out.2.2 (n1) (by omega) (([]) ++ intsV main) rfl (by omega) (by unfold maxLen; omega) HS2.out ?_; intro A3 C3 w3 hO3 hg3)
 have HQ3 : Hid (Pure w1 w3) := qh (Ext.own HQ2.out (HBw.out.symm ▸ HO.out) hg3)
 have HP3 : Hid (Pure w w3) := qh (HP1.out.pure HQ3.out)
 have HOn := qh hO3
 have HB3 := qh (HB2.out.ext (ext_of_grown hg3) (fun e => by have h1 := HO.out.lt _ e; have h2 := HRB.out; omega))
 clear hO3 hg3 x1 y1
 obtain ⟨w4, hw⟩ : ∃ z, z = w3.alloc (.cells #[.int .i64 0] 3) := ⟨_, rfl⟩
 have HPn : Hid (Pure w3 w4) := qh (by rw [hw]; exact ext_alloc _ _)
 have HRw : Hid (RowOf w4 (some ⟨w3.heap.size, 0, none⟩) [.int .i64 0]) := qh (by rw [hw]; exact row_at _ rfl rfl)
 have HO : Hid (w4.ownsRow B 3 1 (.slice A3 (n1) C3) (n1) (([]) ++ intsV main)) := qh (own_ext HOn.out HPn.out (fun _ _ => id))
 have HWn : Hid (w3.alloc (.cells #[.int .i64 0] 3) = w4) := qh hw.symm
 have HP4 := qh (HP3.out.pure HPn.out)
 have HQ4 := qh (HQ3.out.pure HPn.out)
 have HB4 := qh (HB3.out.ext HPn.out id)
 clear hw
 have HS4 : Hid (B ≤ w4.heap.size) := qh (by rw [← HBw.out]; exact HQ4.out.size)
 go_upto_region 3 with (at_builtin; rw [HWn.out]; refine wpList_append_any rfl (.tmp 8) (.tmp 9) 25 rfl B 3 (.int .i64 0) 1 8 Tryz.underlying25 infoI rfl (by decide) (.slice A3 (n1) C3) (n1) (([]) ++ intsV main) rfl HO.out (some ⟨w3.heap.size, 0, none⟩) 1 1 [.int .i64 0] rfl (fun e => by cases e) rfl HRw.out one_int0 (n1 + 1) (by omega) ((([]) ++ intsV main) ++ [.int .i64 0]) rfl (by omega) (by unfold maxLen; omega) HS4.out ?_; intro A5 C5 w5 hO3 hg3)
 have HQ5 : Hid (Pure w1 w5) := qh (Ext.own HQ4.out (HBw.out.symm ▸ HO.out) hg3)
 have HP5 : Hid (Pure w w5) := qh (HP1.out.pure HQ5.out)
 have HOn := qh hO3
 have HB5 := qh (HB4.out.ext (ext_of_grown hg3) (fun e => by have h1 := HO.out.lt _ e; have h2 := HRB.out; omega))
 clear hO3 hg3
 have x1 : w5.cell? ⟨R, 2, none⟩ = some (.slice a2 n2 c2) := HB5.out.cell 2
 have HO := HOn
 have HRw : Hid (RowOf w5 a2 (intsV head)) := qh (HK2.out.pure HP5.out).1
 have HS5 : Hid (B ≤ w5.heap.size) := qh (by rw [← HBw.out]; exact HQ5.out.size)
 go_upto_region 4 with (at_builtin; refine wpList_append_any rfl (.tmp 11) (.tmp 13) 25 rfl B 3 (.int .i64 0) 1 8 Tryz.underlying25 infoI rfl (by decide) (.slice A5 (n1 + 1) C5) (n1 + 1) ((([]) ++ intsV main) ++ [.int .i64 0]) rfl HO.out a2 n2 c2 (intsV head) rfl HA2.out.1 HA2.out.2.1 HRw.out HA2.out.2.2 (n1 + 1 + n2) (by omega) (((([]) ++ intsV main) ++ [.int .i64 0]) ++ intsV head) rfl (by omega) (by unfold maxLen; omega) HS5.out ?_; intro A6 C6 w6 hO3 hg3)
 have HQ6 : Hid (Pure w1 w6) := qh (Ext.own HQ5.out (HBw.out.symm ▸ HO.out) hg3)
 have HP6 : Hid (Pure w w6) := qh (HP1.out.pure HQ6.out)
 have HOn := qh hO3
 have HB6 := qh (HB5.out.ext (ext_of_grown hg3) (fun e => by have h1 := HO.out.lt _ e; have h2 := HRB.out; omega))
 clear hO3 hg3 x1
 obtain ⟨w7, hw⟩ : ∃ z, z = w6.alloc (.cells #[.int .i64 0] 3) := ⟨_, rfl⟩
 have HPn : Hid (Pure w6 w7) := qh (by rw [hw]; exact ext_alloc _ _)
 have HRw : Hid (RowOf w7 (some ⟨w6.heap.size, 0, none⟩) [.int .i64 0]) := qh (by rw [hw]; exact row_at _ rfl rfl)
 have HO : Hid (w7.ownsRow B 3 1 (.slice A6 (n1 + 1 + n2) C6) (n1 + 1 + n2) (((([]) ++ intsV main) ++ [.int .i64 0]) ++ intsV head)) := qh (own_ext HOn.out HPn.out (fun _ _ => id))
 have HWn : Hid (w6.alloc (.cells #[.int .i64 0] 3) = w7) := qh hw.symm
 have HP7 := qh (HP6.out.pure HPn.out)
 have HQ7 := qh (HQ6.out.pure HPn.out)
 have HB7 := qh (HB6.out.ext HPn.out id)
 clear hw
 have HS7 : Hid (B ≤ w7.heap.size) := qh (by rw [← HBw.out]; exact HQ7.out.size)
 go_upto_region 5 with (at_builtin; rw [HWn.out]; refine wpList_append_any rfl (.tmp 15) (.tmp 16) 25 rfl B 3 (.int .i64 0) 1 8 Tryz.underlying25 infoI rfl (by decide) (.slice A6 (n1 + 1 + n2) C6) (n1 + 1 + n2) (((([]) ++ intsV main) ++ [.int .i64 0]) ++ intsV head) rfl HO.out (some ⟨w6.heap.size, 0, none⟩) 1 1 [.int .i64 0] rfl (fun e => by cases e) rfl HRw.out one_int0 (n1 + 1 + n2 + 1) (by omega) ((((([]) ++ intsV main) ++ [.int .i64 0]) ++ intsV head) ++ [.int .i64 0]) rfl (by omega) (by unfold maxLen; omega) HS7.out ?_; intro A8 C8 w8 hO3 hg3)
 have HQ8 : Hid (Pure w1 w8) := qh (Ext.own HQ7.out (HBw.out.symm ▸ HO.out) hg3)
 have HP8 : Hid (Pure w w8) := qh (HP1.out.pure HQ8.out)
 have HOn := qh hO3
 have HB8 := qh (HB7.out.ext (ext_of_grown hg3) (fun e => by have h1 := HO.out.lt _ e; have h2 := HRB.out; omega))
 clear hO3 hg3
 have x1 : w8.cell? ⟨R, 3, none⟩ = some (.slice a3 n3 c3) := HB8.out.cell 3
 have HO := HOn
 have HRw : Hid (RowOf w8 a3 (intsV first)) := qh (HK3.out.pure HP8.out).1
 have HS8 : Hid (B ≤ w8.heap.size) := qh (by rw [← HBw.out]; exact HQ8.out.size)
 go_wp2_with (at_builtin; refine wpList_append_any rfl (.tmp 18) (.tmp 20) 25 rfl B 3 (.int .i64 0) 1 8 Tryz.underlying25 infoI rfl (by decide) (.slice A8 (n1 + 1 + n2 + 1) C8) (n1 + 1 + n2 + 1) ((((([]) ++ intsV main) ++ [.int .i64 0]) ++ intsV head) ++ [.int .i64 0]) rfl HO.out a3 n3 c3 (intsV first) rfl HA3.out.1 HA3.out.2.1 HRw.out HA3.out.2.2 (n1 + 1 + n2 + 1 + n3) (by omega) (((((([]) ++ intsV main) ++ [.int .i64 0]) ++ intsV head) ++ [.int .i64 0]) ++ intsV first) rfl (by omega) (by unfold maxLen; omega) HS8.out ?_; intro A9 C9 w9 hO3 hg3)
 have HQ9 : Hid (Pure w1 w9) := qh (Ext.own HQ8.out (HBw.out.symm ▸ HO.out) hg3)
 have HP9 : Hid (Pure w w9) := qh (HP1.out.pure HQ9.out)
 have HOn := qh hO3
 clear hO3 hg3 x1
 go_ret
 refine ⟨A9, C9, by rw [HLn.out]; rfl, ?_, HP9.out⟩
 rw [HLn.out, ← HEq.out]
 exact own_base HOn.out HRB.out.2
theorem flat_take {own : List (List Int)} {k : Nat} {r : List Int} (h : own[k]? = some r) : (own.take (k + 1)).flatten = (own.take k).flatten ++ r := by
 rw [List.take_add_one, h, Option.toList_some, List.flatten_append, List.flatten_singleton]
theorem flat_le (own : List (List Int)) (k : Nat) : (own.take k).flatten.length ≤ own.flatten.length := by
 have h : own.flatten = (own.take k).flatten ++ (own.drop k).flatten := by rw [← List.flatten_append, List.take_append_drop]
 rw [h, List.length_append]
 exact Nat.le_add_right _ _
theorem intsV_app (l r : List Int) : intsV (l ++ r) = intsV l ++ intsV r := by unfold intsV; exact List.map_append
theorem wpList_load_ro {ops : Array Oper} {Q : Exit → Act → World → Prop} {a : Act} {w : World} {rest : List Oper} {op : Oper} (hw : Region.wanted op (yielded ops a.tmps) = true) (x : Operand) (ho : op.op = .load 38 x)
 (b o : Nat) (hx : a.eval x = .pointer (some ⟨b, o, none⟩)) (cs : List Value) (hc : w.rangeAt b o cs) (hl : cs.length = 6)
 (h : wpList Tryz.prog ops Q rest (a.put op.dst (.agg cs.toArray)) w) : wpList Tryz.prog ops Q (op :: rest) a w :=
 wpList_wanted hw fun _ hK => wp_load_mid 38 x ho b o hx cs _ hc Tryz.underlying38 rfl (by rw [hl]; exact sizeRO) (hK _ _ h)
theorem wrap_in {n : Int} (h0 : 0 ≤ n) (h1 : n ≤ 1000000000) : IntKind.i64.wrap n = n := by
 simp [IntKind.wrap, IntKind.bits, IntKind.signed]
 omega
theorem grow_cell {w w' : World} {b B : Nat} {a : Option Addr} {c m : Nat} {xs cs : List Value} {e T : Nat} (hO : w.ownsRow B e 1 (.slice a m c) m xs) (hg : w.grownBy w' (Value.slice a m c).ownBlock) (hB : BlockIs w b cs T) (hb : b < B) : BlockIs w' b cs T :=
 hB.ext (ext_of_grown hg) (fun e => by have := hO.lt _ e; omega)
set_option maxHeartbeats 8000000 in
theorem rorderof_any {p : PartsP} {a0 a1 a2 a3 a4 : Option Addr} {n0 n1 n2 n3 n4 c0 c1 c2 c3 c4 : Nat} {w : World} (H : PAt p (.slice a0 n0 c0) (.slice a1 n1 c1) (.slice a2 n2 c2) (.slice a3 n3 c3) (.slice a4 n4 c4) w)
 (hz : p.main.length ≤ 1000000 ∧ p.tree.length ≤ 1000000 ∧ p.first.length ≤ 1000000 ∧ p.own.length ≤ 1000000) :
 Calls Tryz.prog 11 #[.agg #[.slice a0 n0 c0, .slice a1 n1 c1, .slice a2 n2 c2, .slice a3 n3 c3, .slice a4 n4 c4]] w (OrdTo (orderP p) w) := by
 obtain ⟨⟨hn0, ht⟩, ⟨hn1, hf⟩, ⟨rs, hn2, hrl, hrw, hrq⟩, ⟨hn3, hs⟩, ⟨hn4, hh⟩⟩ := H.opened
 obtain ⟨hz1, hz2, hz3, hz4⟩ := hz
 have hml : p.main.length = p.own.flatten.length + p.shared.length + p.others.length := by unfold PartsP.main; simp only [List.length_append]
 obtain ⟨w3, hw3⟩ : ∃ z, z = ((w.alloc (.cells #[.slice a0 n0 c0, .slice a1 n1 c1, .slice a2 n2 c2, .slice a3 n3 c3, .slice a4 n4 c4] 28)).alloc (.cells #[.slice none 0 0, .slice none 0 0, .slice none 0 0, .slice none 0 0, .int .i64 0, .int .i64 0] 38)).alloc (.cells #[.slice none 0 0, .slice none 0 0, .slice none 0 0, .slice none 0 0, .int .i64 0, .int .i64 0] 38) := ⟨_, rfl⟩
 have HP3 : Hid (Pure w w3) := qh (by rw [hw3]; exact ((ext_alloc w _).pure (ext_alloc _ _)).pure (ext_alloc _ _))
 have HBp3 : Hid (BlockIs w3 w.heap.size [.slice a0 n0 c0, .slice a1 n1 c1, .slice a2 n2 c2, .slice a3 n3 c3, .slice a4 n4 c4] 28) := qh (by rw [hw3]; exact ((BlockIs.new w _ _).alloc _).alloc _)
 have HBr3 : Hid (BlockIs w3 (w.heap.size + 1) [.slice none 0 0, .slice none 0 0, .slice none 0 0, .slice none 0 0, .int .i64 0, .int .i64 0] 38) := qh (by
  have := (BlockIs.new (w.alloc (.cells #[.slice a0 n0 c0, .slice a1 n1 c1, .slice a2 n2 c2, .slice a3 n3 c3, .slice a4 n4 c4] 28)) [.slice none 0 0, .slice none 0 0, .slice none 0 0, .slice none 0 0, .int .i64 0, .int .i64 0] 38).alloc (.cells #[.slice none 0 0, .slice none 0 0, .slice none 0 0, .slice none 0 0, .int .i64 0, .int .i64 0] 38)
  rw [World.size_alloc] at this
  rw [hw3]; exact this)
 have HBo3 : Hid (BlockIs w3 (w.heap.size + 2) [.slice none 0 0, .slice none 0 0, .slice none 0 0, .slice none 0 0, .int .i64 0, .int .i64 0] 38) := qh (by
  have := BlockIs.new ((w.alloc (.cells #[.slice a0 n0 c0, .slice a1 n1 c1, .slice a2 n2 c2, .slice a3 n3 c3, .slice a4 n4 c4] 28)).alloc (.cells #[.slice none 0 0, .slice none 0 0, .slice none 0 0, .slice none 0 0, .int .i64 0, .int .i64 0] 38)) [.slice none 0 0, .slice none 0 0, .slice none 0 0, .slice none 0 0, .int .i64 0, .int .i64 0] 38
  rw [World.size_alloc, World.size_alloc] at this
  rw [hw3]; exact this)
 have HW3 := qh hw3.symm
 have HSz : Hid (w3.heap.size = w.heap.size + 3) := qh (by rw [hw3]; simp only [World.size_alloc])
 obtain ⟨pb, hpb⟩ : ∃ z, z = w.heap.size := ⟨_, rfl⟩
 rw [← hpb] at HBp3 HBr3 HBo3 HSz
 have HPb := qh hpb.symm
 obtain ⟨on, hon⟩ : ∃ z, z = rs.length := ⟨_, rfl⟩
 have HRow : Hid (∀ W, Ext (fun b => pb + 2 ≤ b) w3 W → RowOf W a2 (rs.map CRow.v) ∧ (∀ q ∈ rs, q.ok W) ∧ CRow.ok W ⟨a3, c3, p.shared⟩ ∧ CRow.ok W ⟨a4, c4, p.others⟩ ∧ CRow.ok W ⟨a0, c0, p.tree⟩ ∧ CRow.ok W ⟨a1, c1, p.first⟩) := qh (fun W hE => by
  have hP : Pure w W := HP3.out.trans hE (fun i hi e => by have := HPb.out; omega)
  exact ⟨(hrw.pure hP).row, fun q hq => (hrq q hq).pure hP, hs.pure hP, hh.pure hP, ht.pure hP, hf.pure hP⟩)
 have hon4 : on ≤ 1000000 := by have := congrArg List.length hrl; rw [lsR_len] at this; omega
 have HRl := qh hrl
 have HOn := qh hon
 have HZ : Hid (p.own.flatten.length + p.shared.length + p.others.length ≤ 1000000) := qh (by omega)
 have HN : Hid (n2 = on) := qh (by rw [hon]; exact hn2)
 have HN3 := qh hn3
 have HN4 := qh hn4
 have HN0 := qh hn0
 have HN1 := qh hn1
 have hnz : n3 ≤ 1000000 ∧ n4 ≤ 1000000 ∧ n0 ≤ 1000000 ∧ n1 ≤ 1000000 := by omega
 obtain rfl : n2 = on := HN.out
 clear H hn0 ht hn1 hf hn2 hrl hrw hrq hn3 hs hn4 hh hz1 hz2 hz3 hz4 hml hw3 hpb hon HN
 go_enter Tryz.func11, Tryz.ntmps11
 go_wp2_with fail
 rw [HW3.out, HPb.out]
 obtain ⟨ob, hob⟩ : ∃ z, z = pb + 1 + 1 := ⟨_, rfl⟩
 rw [← hob]
 rw [show pb + 2 = ob from hob.symm] at HBo3 HRow
 obtain ⟨B, hB⟩ : ∃ z, z = pb + 3 := ⟨_, rfl⟩
 rw [← hB] at HSz
 have HOB : Hid (ob < B ∧ pb + 1 < ob ∧ pb < B) := qh (by omega)
 have HLp : Hid (¬ ob ≤ pb) := qh (by omega)
 have HBB := qh hB
 clear hob hB
 go_loopw [4] (fun i W => ∃ (k m : Nat) (A : Option Addr) (C : Nat), k ≤ n2 ∧ i = .int .i64 k ∧ Hid (m = (p.own.take k).flatten.length) ∧ Hid (W.ownsRow B 3 1 (.slice A m C) m (intsV (p.own.take k).flatten)) ∧ Hid (BlockIs W ob [.slice none 0 0, .slice A m C, .slice none 0 0, .slice none 0 0, .int .i64 0, .int .i64 0] 38) ∧ Hid (Ext (fun b => ob ≤ b) w3 W)) (fun i _ => n2 - (intOf i).toNat)
 case atStart => exact ⟨0, 0, none, 0, Nat.zero_le _, rfl, qh rfl, qh (World.ownsRow_nil _ _ _ _), HBo3, qh (Ext.refl _ _)⟩
 case round =>
  obtain ⟨k, m, A, C, hk, rfl, HM, HOr, HBo, HE⟩ := hrel
  have HBp := qh (HBp3.out.ext HE.out HLp.out)
  have x2 : wr.cell? ⟨pb, 2, none⟩ = some (.slice a2 n2 c2) := HBp.out.cell 2
  by_cases hlt : k < n2
  ·have hki : (k : Int) < (n2 : Int) := by omega
   have hk0 : (0 : Int) ≤ (k : Int) := by omega
   obtain ⟨q, hqk⟩ : ∃ u, rs[k]? = some u := ⟨_, List.getElem?_eq_getElem (by rw [← HOn.out]; exact hlt)⟩
   have hqo : p.own[k]? = some q.l := by rw [← HRl.out]; unfold lsR; rw [List.getElem?_map, hqk]; rfl
   have hP0 : Pure wr wr.drew := (Ext.refl _ wr).drew
   have HEd : Hid (Ext (fun b => ob ≤ b) w3 wr.drew) := qh (HE.out.trans (hP0.mono (fun _ _ e => e.elim)) (fun _ _ e => e))
   have HBpd := qh (HBp.out.ext hP0 id)
   have HBod := qh (HBo.out.ext hP0 id)
   have HOs := qh (own_ext HOr.out hP0 (fun _ _ => id))
   have k1 : wr.drew.cell? ⟨ob, 1, none⟩ = some (.slice A m C) := HBod.out.cell 1
   obtain ⟨b, o, rfl, _⟩ := (HRow.out _ HEd.out).1 k q.v (by rw [List.getElem?_map, hqk]; rfl)
   have HC0 : Hid (∀ W, Ext (fun b => ob ≤ b) wr.drew W → W.cell? ⟨b, o + k, none⟩ = some q.v) := qh (fun W hS => by
    obtain ⟨b', o', hbo, hc⟩ := (HRow.out W (HEd.out.trans hS (fun _ _ e => e))).1 k q.v (by rw [List.getElem?_map, hqk]; rfl)
    cases hbo
    exact hc)
   have hqk2 := (HRow.out _ HEd.out).2.1 q (List.mem_of_getElem? hqk)
   have HRq : Hid (RowOf wr.drew q.a (intsV q.l)) := qh hqk2.1
   obtain ⟨ql, hql⟩ : ∃ z, z = q.l.length := ⟨_, rfl⟩
   have HNil := qh (hqk2.app hql).1
   have HNl := qh (hqk2.app hql).2.1
   have HN1q := qh (hqk2.app hql).2.2
   have hft := flat_take hqo
   have hfl := flat_le p.own (k + 1)
   rw [hft, List.length_append, ← HM.out, ← hql] at hfl
   have hms : m + ql ≤ 1000000 := by have := HZ.out; omega
   have HFt := qh hft
   have HQl := qh hql
   have HRs : Hid (B ≤ wr.drew.heap.size) := qh (by rw [← HSz.out]; exact HEd.out.size)
   have HQ : Hid (∀ W7, wr.drew.grownBy W7 (Value.slice A m C).ownBlock → W7.cell? ⟨ob, 1, none⟩ = some (.slice A m C) ∧ W7.frozen? ⟨ob, 1, none⟩ = false ∧ Ext (fun b => ob ≤ b) wr.drew W7) := qh (fun W7 hg => by
    have hb := grow_cell HOs.out hg HBod.out HOB.out.1
    exact ⟨hb.cell 1, hb.free 1, (ext_of_grown hg).mono (fun i _ e => by have h1 := HOs.out.lt _ e; have h2 := HOB.out; omega)⟩)
   unfold CRow.v at HC0
   rw [← hql] at HC0
   clear hqk hqo hqk2 hft hfl hql
   generalize q.a = qa at *
   generalize q.c = qc at *
   go_upto_region 5 with (fail)
   refine region_start (fun b => ob ≤ b) (by kernel_rfl) ?_
   try simp only [Act.put, sA, sZ, sS]
   refine region_take 0 16 (v := ?vro0) rfl rfl (by kernel_rfl) (by kernel_rfl) (by kernel_rfl) (fun _ _ _ h => h) (by rfl) (fun w' hS => ?hro0) ?rro0
   case hro0 => go_simp; with_reducible rfl
   try simp only [Act.put, sA, sZ, sS]
   refine region_take 2 18 (v := ?vro2) rfl rfl (by kernel_rfl) (by kernel_rfl) (by kernel_rfl) (fun _ _ _ h => h) (by rfl) (fun w' hS => ?hro2) ?rro2
   case hro2 => go_simp; with_reducible rfl
   try simp only [Act.put, sA, sZ, sS]
   refine region_take 3 19 (v := ?vro3) rfl rfl (by kernel_rfl) (by kernel_rfl) (by kernel_rfl) (fun _ _ _ h => h) (by rfl) (fun w' hS => ?hro3) ?rro3
   case hro3 => (have e : w'.cell? ⟨pb, 2, none⟩ = some (.slice (some ⟨b, o, none⟩) n2 c2) := (HBpd.out.ext hS HLp.out).cell 2; go_simp; with_reducible rfl)
   try simp only [Act.put, sA, sZ, sS]
   refine region_take 4 20 (v := ?vro4) rfl rfl (by kernel_rfl) (by kernel_rfl) (by kernel_rfl) (fun _ _ _ h => h) (by rfl) (fun w' hS => ?hro4) ?rro4
   case hro4 => go_simp; with_reducible rfl
   try simp only [Act.put, sA, sZ, sS]
   refine region_take 5 21 (v := ?vro5) rfl rfl (by kernel_rfl) (by kernel_rfl) (by kernel_rfl) (fun _ _ _ h => h) (by rfl) (fun w' hS => ?hro5) ?rro5
   case hro5 => go_simp; with_reducible rfl
   try simp only [Act.put, sA, sZ, sS]
   refine region_take 6 22 (v := ?vro6) rfl rfl (by kernel_rfl) (by kernel_rfl) (by kernel_rfl) (fun _ _ _ h => h) (by rfl) (fun w' hS => ?hro6) ?rro6
   case hro6 => (have e := HC0.out w' hS; go_simp; with_reducible rfl)
   try simp only [Act.put, sA, sZ, sS]
   refine wpAnyH_ready (rs := [1]) (by kernel_rfl) (by simp) (AllReadyH.cons rfl (fun K hK => ?_) AllReadyH.nil)
   go_simp
   refine hK.out _ _ (Ext.refl _ _) (fun hHeld => ?_)
   clear hK K hHeld
   refine region_now (Ext.refl _ _) ?_
   try simp only [Act.put, sA, sZ, sS]
   refine wpAnyH_ready (rs := [7]) (by kernel_rfl) (by simp) (AllReadyH.cons rfl (fun K hK => ?_) AllReadyH.nil)
   refine step_of_list ?_
   refine wpList_append_any rfl (.tmp 17) (.tmp 22) 25 rfl B 3 (.int .i64 0) 1 8 Tryz.underlying25 infoI rfl (by decide) (.slice A m C) m (intsV (p.own.take k).flatten) rfl HOs.out qa ql qc (intsV q.l) rfl HNil.out HNl.out HRq.out HN1q.out (m + ql) rfl (intsV (p.own.take k).flatten ++ intsV q.l) rfl (by omega) (by unfold maxLen; omega) HRs.out ?_
   intro a7 c7 W7 hO7 hg7
   have r3 := (HQ.out W7 hg7).1
   have f3 := (HQ.out W7 hg7).2.1
   have hX7 := (HQ.out W7 hg7).2.2
   refine hK.out _ _ (hX7) (fun hHeld => ?_)
   clear hK K hHeld
   refine region_now (hX7) ?_
   try simp only [Act.put, sA, sZ, sS]
   refine region_take 8 24 (v := ?vro8) rfl rfl (by kernel_rfl) (by kernel_rfl) (by kernel_rfl) (fun _ _ _ h => h) (by rfl) (fun w' hS => ?hro8) ?rro8
   case hro8 => go_simp; with_reducible rfl
   try simp only [Act.put, sA, sZ, sS]
   refine wpAnyH_ready (rs := [9]) (by kernel_rfl) (by simp) (AllReadyH.cons rfl (fun K hK => ?_) AllReadyH.nil)
   go_simp
   refine hK.out _ _ (Ext.setCell (S := fun b => ob ≤ b) (Ext.refl _ _) (p := ⟨ob, 1, none⟩) (fun _ => Nat.le_refl _) _) (fun hHeld => ?_)
   clear hK K hHeld
   refine region_now (Ext.setCell (S := fun b => ob ≤ b) (Ext.refl _ _) (p := ⟨ob, 1, none⟩) (fun _ => Nat.le_refl _) _) ?_
   try simp only [Act.put, sA, sZ, sS]
   refine wpAnyH_done (by kernel_rfl) ?_ _
   have hb7 := grow_cell HOs.out hg7 HBod.out HOB.out.1
   obtain ⟨W8, hW8⟩ : ∃ z, z = W7.setCell ⟨ob, 1, none⟩ (.slice a7 (m + ql) c7) := ⟨_, rfl⟩
   rw [← hW8]
   have hE8 : Ext (fun b => b = ob) W7 W8 := by rw [hW8]; exact Ext.setCell (S := fun b => b = ob) (Ext.refl _ _) (p := ⟨ob, 1, none⟩) (fun _ => rfl) _
   have HBo8 : Hid (BlockIs W8 ob [.slice none 0 0, .slice a7 (m + ql) c7, .slice none 0 0, .slice none 0 0, .int .i64 0, .int .i64 0] 38) := qh (by rw [hW8]; exact hb7.set 1 _)
   have HOr8 : Hid (W8.ownsRow B 3 1 (.slice a7 (m + ql) c7) (m + ql) (intsV (p.own.take (k + 1)).flatten)) := qh (by
    rw [HFt.out, intsV_app]
    exact own_ext hO7 hE8 (fun g hg e => by have h1 := hO7.lt g hg; have h2 := HOB.out; omega))
   have HE8 : Hid (Ext (fun b => ob ≤ b) w3 W8) := qh ((HEd.out.trans hX7 (fun _ _ e => e)).trans (hE8.mono (fun b _ e => Nat.le_of_eq e.symm)) (fun _ _ e => e))
   have HM8 : Hid (m + ql = (p.own.take (k + 1)).flatten.length) := qh (by rw [HFt.out, List.length_append, ← HM.out, ← HQl.out])
   clear hW8 hE8 hb7 hO7 hg7 r3 f3 hX7 k1 hP0 x2
   go_wp2_with fail
   go_roundw
   case rel => exact ⟨k + 1, m + ql, a7, c7, by omega, by go_num, HM8, HOr8, HBo8, HE8⟩
   case measure => simp [intOf]; omega
  ·have hki : ¬ (k : Int) < (n2 : Int) := by omega
   have HTk : Hid (p.own.take k = p.own) := qh (List.take_of_length_le (by have := congrArg List.length HRl.out; rw [lsR_len] at this; have := HOn.out; omega))
   rw [HTk.out] at HM HOr
   have hP0 : Pure wr wr.drew := (Ext.refl _ wr).drew
   have HEd : Hid (Ext (fun b => ob ≤ b) w3 wr.drew) := qh (HE.out.trans (hP0.mono (fun _ _ e => e.elim)) (fun _ _ e => e))
   have HBpd := qh (HBp.out.ext hP0 id)
   have HBod := qh (HBo.out.ext hP0 id)
   have HOs := qh (own_ext HOr.out hP0 (fun _ _ => id))
   have k1 : wr.drew.cell? ⟨ob, 1, none⟩ = some (.slice A m C) := HBod.out.cell 1
   have hrw := HRow.out wr.drew HEd.out
   have HApn3 := qh (hrw.2.2.1.app HN3.out)
   have HApn4 := qh (hrw.2.2.2.1.app HN4.out)
   have HRqn3 : Hid (RowOf wr.drew a3 (intsV p.shared)) := qh hrw.2.2.1.1
   have HRs : Hid (B ≤ wr.drew.heap.size) := qh (by rw [← HSz.out]; exact HEd.out.size)
   have HGr : Hid (∀ (W W7 : World) (a : Option Addr) (n c : Nat) (xs : List Value), W.ownsRow B 3 1 (.slice a n c) n xs → W.grownBy W7 (Value.slice a n c).ownBlock → Ext (fun b => ob ≤ b) W W7) := qh (fun W W7 a n c xs hO hg => (ext_of_grown hg).mono (fun i _ e => by have h1 := hO.lt _ e; have h2 := HOB.out; omega))
   have hmm : m + n3 + n4 ≤ 1000000 := by have h1 := HZ.out; have h2 := HM.out; have h3 := HN3.out; have h4 := HN4.out; omega
   clear hrw
   go_upto_region 6 with (fail)
   refine region_start (fun b => ob ≤ b) (by kernel_rfl) ?_
   try simp only [Act.put, sA, sZ, sS]
   refine region_take 0 25 (v := ?vrp0) rfl rfl (by kernel_rfl) (by kernel_rfl) (by kernel_rfl) (fun _ _ _ h => h) (by rfl) (fun w' hS => ?hrp0) ?rrp0
   case hrp0 => go_simp; with_reducible rfl
   try simp only [Act.put, sA, sZ, sS]
   refine region_take 2 27 (v := ?vrp2) rfl rfl (by kernel_rfl) (by kernel_rfl) (by kernel_rfl) (fun _ _ _ h => h) (by rfl) (fun w' hS => ?hrp2) ?rrp2
   case hrp2 => go_simp; with_reducible rfl
   try simp only [Act.put, sA, sZ, sS]
   refine region_take 3 28 (v := ?vrp3) rfl rfl (by kernel_rfl) (by kernel_rfl) (by kernel_rfl) (fun _ _ _ h => h) (by rfl) (fun w' hS => ?hrp3) ?rrp3
   case hrp3 => (have e : w'.cell? ⟨pb, 3, none⟩ = some (.slice a3 n3 c3) := (HBpd.out.ext hS HLp.out).cell 3; go_simp; with_reducible rfl)
   try simp only [Act.put, sA, sZ, sS]
   refine region_take 5 30 (v := ?vrp5) rfl rfl (by kernel_rfl) (by kernel_rfl) (by kernel_rfl) (fun _ _ _ h => h) (by rfl) (fun w' hS => ?hrp5) ?rrp5
   case hrp5 => go_simp; with_reducible rfl
   try simp only [Act.put, sA, sZ, sS]
   refine region_take 6 31 (v := ?vrp6) rfl rfl (by kernel_rfl) (by kernel_rfl) (by kernel_rfl) (fun _ _ _ h => h) (by rfl) (fun w' hS => ?hrp6) ?rrp6
   case hrp6 => (have e : w'.cell? ⟨pb, 4, none⟩ = some (.slice a4 n4 c4) := (HBpd.out.ext hS HLp.out).cell 4; go_simp; with_reducible rfl)
   try simp only [Act.put, sA, sZ, sS]
   refine wpAnyH_ready (rs := [1]) (by kernel_rfl) (by simp) (AllReadyH.cons rfl (fun K hK => ?_) AllReadyH.nil)
   go_simp
   refine hK.out _ _ (Ext.refl _ _) (fun hHeld => ?_)
   clear hK K hHeld
   refine region_now (Ext.refl _ _) ?_
   try simp only [Act.put, sA, sZ, sS]
   refine wpAnyH_ready (rs := [4]) (by kernel_rfl) (by simp) (AllReadyH.cons rfl (fun K hK => ?_) AllReadyH.nil)
   refine step_of_list ?_
   refine wpList_append_any rfl (.tmp 26) (.tmp 28) 25 rfl B 3 (.int .i64 0) 1 8 Tryz.underlying25 infoI rfl (by decide) (.slice A (m) C) (m) (intsV p.own.flatten) rfl HOs.out a3 n3 c3 (intsV p.shared) rfl HApn3.out.1 HApn3.out.2.1 HRqn3.out HApn3.out.2.2 (m + n3) rfl (intsV p.own.flatten ++ intsV p.shared) rfl (by omega) (by unfold maxLen; omega) HRs.out ?_
   intro a5 c5 W5 hO5 hg5
   have hX5 : Ext (fun b => ob ≤ b) wr.drew W5 := HGr.out wr.drew W5 _ _ _ _ HOs.out hg5
   have hb5 := grow_cell HOs.out hg5 HBod.out HOB.out.1
   have HRqn4 : Hid (RowOf W5 a4 (intsV p.others)) := qh ((HRow.out W5 (HEd.out.trans hX5 (fun _ _ e => e))).2.2.2.1).1
   have HRs5 : Hid (B ≤ W5.heap.size) := qh (Nat.le_trans HRs.out hX5.size)
   have HO5 := qh hO5
   refine hK.out _ _ (hX5) (fun hHeld => ?_)
   clear hK K hHeld
   refine region_now (hX5) ?_
   try simp only [Act.put, sA, sZ, sS]
   refine wpAnyH_ready (rs := [7]) (by kernel_rfl) (by simp) (AllReadyH.cons rfl (fun K hK => ?_) AllReadyH.nil)
   refine step_of_list ?_
   refine wpList_append_any rfl (.tmp 29) (.tmp 31) 25 rfl B 3 (.int .i64 0) 1 8 Tryz.underlying25 infoI rfl (by decide) (.slice a5 (m + n3) c5) (m + n3) (intsV p.own.flatten ++ intsV p.shared) rfl HO5.out a4 n4 c4 (intsV p.others) rfl HApn4.out.1 HApn4.out.2.1 HRqn4.out HApn4.out.2.2 (m + n3 + n4) rfl (intsV p.own.flatten ++ intsV p.shared ++ intsV p.others) rfl (by omega) (by unfold maxLen; omega) HRs5.out ?_
   intro a7 c7 W7 hO7 hg7
   have hX7 : Ext (fun b => ob ≤ b) W5 W7 := HGr.out W5 W7 _ _ _ _ hO5 hg7
   have hb7 := grow_cell hO5 hg7 hb5 HOB.out.1
   have r3 := hb7.cell 1
   have f3 := hb7.free 1
   refine hK.out _ _ (hX7) (fun hHeld => ?_)
   clear hK K hHeld
   refine region_now (hX7) ?_
   try simp only [Act.put, sA, sZ, sS]
   refine region_take 8 33 (v := ?vrp8) rfl rfl (by kernel_rfl) (by kernel_rfl) (by kernel_rfl) (fun _ _ _ h => h) (by rfl) (fun w' hS => ?hrp8) ?rrp8
   case hrp8 => go_simp; with_reducible rfl
   try simp only [Act.put, sA, sZ, sS]
   refine wpAnyH_ready (rs := [9]) (by kernel_rfl) (by simp) (AllReadyH.cons rfl (fun K hK => ?_) AllReadyH.nil)
   go_simp
   refine hK.out _ _ (Ext.setCell (S := fun b => ob ≤ b) (Ext.refl _ _) (p := ⟨ob, 1, none⟩) (fun _ => Nat.le_refl _) _) (fun hHeld => ?_)
   clear hK K hHeld
   refine region_now (Ext.setCell (S := fun b => ob ≤ b) (Ext.refl _ _) (p := ⟨ob, 1, none⟩) (fun _ => Nat.le_refl _) _) ?_
   try simp only [Act.put, sA, sZ, sS]
   refine wpAnyH_done (by kernel_rfl) ?_ _
   obtain ⟨W8, hW8⟩ : ∃ z, z = W7.setCell ⟨ob, 1, none⟩ (.slice a7 (m + n3 + n4) c7) := ⟨_, rfl⟩
   rw [← hW8]
   have hE8 : Ext (fun b => b = ob) W7 W8 := by rw [hW8]; exact Ext.setCell (S := fun b => b = ob) (Ext.refl _ _) (p := ⟨ob, 1, none⟩) (fun _ => rfl) _
   have HBo8 : Hid (BlockIs W8 ob [.slice none 0 0, .slice a7 (m + n3 + n4) c7, .slice none 0 0, .slice none 0 0, .int .i64 0, .int .i64 0] 38) := qh (by rw [hW8]; exact hb7.set 1 _)
   have HM8 : Hid (W8.ownsRow B 3 1 (.slice a7 (m + n3 + n4) c7) (m + n3 + n4) (intsV p.main)) := qh (by
    unfold PartsP.main
    rw [intsV_app, intsV_app]
    exact own_ext hO7 hE8 (fun g hg e => by have h1 := hO7.lt g hg; have h2 := HOB.out; omega))
   have HE8 : Hid (Ext (fun b => ob ≤ b) w3 W8) := qh (((HEd.out.trans hX5 (fun _ _ e => e)).trans hX7 (fun _ _ e => e)).trans (hE8.mono (fun b _ e => Nat.le_of_eq e.symm)) (fun _ _ e => e))
   have HMl : Hid (m + n3 + n4 = p.main.length) := qh (by unfold PartsP.main; rw [List.length_append, List.length_append, ← HM.out, ← HN3.out, ← HN4.out])
   obtain ⟨M, hM⟩ : ∃ z, z = m + n3 + n4 := ⟨_, rfl⟩
   rw [← hM] at HBo8 HM8 HMl hmm
   rw [← hM]
   clear hW8 hE8 hb7 hb5 hO5 hg5 hO7 hg7 r3 f3 hX5 hX7 k1 hP0 x2 hM
   have x1 : W8.cell? ⟨ob, 2, none⟩ = some (.slice none 0 0) := HBo8.out.cell 2
   have x2 : W8.cell? ⟨pb, 0, none⟩ = some (.slice a0 n0 c0) := (HBp3.out.ext HE8.out HLp.out).cell 0
   have hr7 := (HRow.out W8 HE8.out).2.2.2.2.1
   have HAp7 := qh (hr7.app HN0.out)
   have HRq7 : Hid (RowOf W8 a0 (intsV p.tree)) := qh hr7.1
   have HRs7 : Hid (B ≤ W8.heap.size) := qh (by rw [← HSz.out]; exact HE8.out.size)
   have HQ7 : Hid (∀ W9, W8.grownBy W9 (Value.slice none 0 0).ownBlock → W9.cell? ⟨ob, 2, none⟩ = some (.slice none 0 0) ∧ W9.frozen? ⟨ob, 2, none⟩ = false ∧ Pure W8 W9) := qh (fun W9 hg => by
    have hp : Pure W8 W9 := (ext_of_grown hg).mono (fun i _ e => by cases e)
    have hb := HBo8.out.ext hp id
    exact ⟨hb.cell 2, hb.free 2, hp⟩)
   clear hr7
   go_upto_region 8 with (at_builtin; refine wpList_append_any rfl (.tmp 35) (.tmp 37) 25 rfl B 3 (.int .i64 0) 1 8 Tryz.underlying25 infoI rfl (by decide) (.slice none 0 0) 0 [] rfl (World.ownsRow_nil _ _ _ _) a0 n0 c0 (intsV p.tree) rfl HAp7.out.1 HAp7.out.2.1 HRq7.out HAp7.out.2.2 n0 (by omega) ([] ++ intsV p.tree) rfl (by omega) (by unfold maxLen; omega) HRs7.out ?_; intro a9 q9 W9 hO9 hg9; have r9 := (HQ7.out W9 hg9).1; have f9 := (HQ7.out W9 hg9).2.1; have hX9 := (HQ7.out W9 hg9).2.2)
   obtain ⟨W10, hW10⟩ : ∃ z, z = W9.setCell ⟨ob, 2, none⟩ (.slice a9 n0 q9) := ⟨_, rfl⟩
   rw [← hW10]
   have hE10 : Ext (fun b => b = ob) W9 W10 := by rw [hW10]; exact Ext.setCell (S := fun b => b = ob) (Ext.refl _ _) (p := ⟨ob, 2, none⟩) (fun _ => rfl) _
   have HBo10 : Hid (BlockIs W10 ob [.slice none 0 0, .slice a7 M c7, .slice a9 n0 q9, .slice none 0 0, .int .i64 0, .int .i64 0] 38) := qh (by rw [hW10]; exact (HBo8.out.ext hX9 id).set 2 _)
   have HM10 : Hid (W10.ownsRow B 3 1 (.slice a7 M c7) M (intsV p.main)) := qh (own_ext (own_ext HM8.out hX9 (fun _ _ => id)) hE10 (fun g hg e => by have h1 := HM8.out.lt g hg; have h2 := HOB.out; omega))
   have HT10 : Hid (W10.ownsRow B 3 1 (.slice a9 n0 q9) n0 (intsV p.tree)) := qh (own_ext hO9 hE10 (fun g hg e => by have h1 := hO9.lt g hg; have h2 := HOB.out; omega))
   have HE10 : Hid (Ext (fun b => ob ≤ b) w3 W10) := qh ((HE8.out.trans (hX9.mono (fun _ _ e => e.elim)) (fun _ _ e => e)).trans (hE10.mono (fun b _ e => Nat.le_of_eq e.symm)) (fun _ _ e => e))
   clear hW10 hE10 hX9 r9 f9 hO9 hg9 x1 x2
   have x1 : W10.cell? ⟨ob, 3, none⟩ = some (.slice none 0 0) := HBo10.out.cell 3
   have x2 : W10.cell? ⟨pb, 1, none⟩ = some (.slice a1 n1 c1) := (HBp3.out.ext HE10.out HLp.out).cell 1
   have hr8 := (HRow.out W10 HE10.out).2.2.2.2.2
   have HAp8 := qh (hr8.app HN1.out)
   have HRq8 : Hid (RowOf W10 a1 (intsV p.first)) := qh hr8.1
   have HRs8 : Hid (B ≤ W10.heap.size) := qh (by rw [← HSz.out]; exact HE10.out.size)
   have HQ8 : Hid (∀ W9, W10.grownBy W9 (Value.slice none 0 0).ownBlock → W9.cell? ⟨ob, 3, none⟩ = some (.slice none 0 0) ∧ W9.frozen? ⟨ob, 3, none⟩ = false ∧ Pure W10 W9) := qh (fun W9 hg => by
    have hp : Pure W10 W9 := (ext_of_grown hg).mono (fun i _ e => by cases e)
    have hb := HBo10.out.ext hp id
    exact ⟨hb.cell 3, hb.free 3, hp⟩)
   clear hr8
   go_upto_region 9 with (at_builtin; refine wpList_append_any rfl (.tmp 41) (.tmp 43) 25 rfl B 3 (.int .i64 0) 1 8 Tryz.underlying25 infoI rfl (by decide) (.slice none 0 0) 0 [] rfl (World.ownsRow_nil _ _ _ _) a1 n1 c1 (intsV p.first) rfl HAp8.out.1 HAp8.out.2.1 HRq8.out HAp8.out.2.2 n1 (by omega) ([] ++ intsV p.first) rfl (by omega) (by unfold maxLen; omega) HRs8.out ?_; intro a11 q11 W11 hO9 hg9; have r9 := (HQ8.out W11 hg9).1; have f9 := (HQ8.out W11 hg9).2.1; have hX9 := (HQ8.out W11 hg9).2.2)
   obtain ⟨W12, hW10⟩ : ∃ z, z = W11.setCell ⟨ob, 3, none⟩ (.slice a11 n1 q11) := ⟨_, rfl⟩
   rw [← hW10]
   have hE10 : Ext (fun b => b = ob) W11 W12 := by rw [hW10]; exact Ext.setCell (S := fun b => b = ob) (Ext.refl _ _) (p := ⟨ob, 3, none⟩) (fun _ => rfl) _
   have HBo12 : Hid (BlockIs W12 ob [.slice none 0 0, .slice a7 M c7, .slice a9 n0 q9, .slice a11 n1 q11, .int .i64 0, .int .i64 0] 38) := qh (by rw [hW10]; exact (HBo10.out.ext hX9 id).set 3 _)
   have HM12 : Hid (W12.ownsRow B 3 1 (.slice a7 M c7) M (intsV p.main)) := qh (own_ext (own_ext HM10.out hX9 (fun _ _ => id)) hE10 (fun g hg e => by have h1 := HM10.out.lt g hg; have h2 := HOB.out; omega))
   have HT12 : Hid (W12.ownsRow B 3 1 (.slice a9 n0 q9) n0 (intsV p.tree)) := qh (own_ext (own_ext HT10.out hX9 (fun _ _ => id)) hE10 (fun g hg e => by have h1 := HT10.out.lt g hg; have h2 := HOB.out; omega))
   have HF12 : Hid (W12.ownsRow B 3 1 (.slice a11 n1 q11) n1 (intsV p.first)) := qh (own_ext hO9 hE10 (fun g hg e => by have h1 := hO9.lt g hg; have h2 := HOB.out; omega))
   have HE12 : Hid (Ext (fun b => ob ≤ b) w3 W12) := qh ((HE10.out.trans (hX9.mono (fun _ _ e => e.elim)) (fun _ _ e => e)).trans (hE10.mono (fun b _ e => Nat.le_of_eq e.symm)) (fun _ _ e => e))
   clear hW10 hE10 hX9 r9 f9 hO9 hg9 x1 x2
   have x1 : W12.cell? ⟨ob, 1, none⟩ = some (.slice a7 M c7) := HBo12.out.cell 1
   have x2 : W12.cell? ⟨ob, 2, none⟩ = some (.slice a9 n0 q9) := HBo12.out.cell 2
   have x4 : W12.cell? ⟨ob, 4, none⟩ = some (.int .i64 0) := HBo12.out.cell 4
   have x5 : W12.cell? ⟨ob, 5, none⟩ = some (.int .i64 0) := HBo12.out.cell 5
   have z4 : W12.frozen? ⟨ob, 4, none⟩ = false := HBo12.out.free 4
   have z5 : W12.frozen? ⟨ob, 5, none⟩ = false := HBo12.out.free 5
   go_upto_region 11 with (fail)
   obtain ⟨W13, hW13⟩ : ∃ z, z = (W12.setCell ⟨ob, 4, none⟩ (.int .i64 ((M : Int) + 1))).setCell ⟨ob, 5, none⟩ (.int .i64 ((M : Int) + 1 + (n0 : Int) + 1)) := ⟨_, rfl⟩
   rw [← hW13]
   have hE13 : Ext (fun b => b = ob) W12 W13 := by rw [hW13]; exact Ext.setCell (S := fun b => b = ob) (Ext.setCell (S := fun b => b = ob) (Ext.refl _ _) (p := ⟨ob, 4, none⟩) (fun _ => rfl) _) (p := ⟨ob, 5, none⟩) (fun _ => rfl) _
   have HBo13 : Hid (BlockIs W13 ob [.slice none 0 0, .slice a7 M c7, .slice a9 n0 q9, .slice a11 n1 q11, .int .i64 ((M : Int) + 1), .int .i64 ((M : Int) + 1 + (n0 : Int) + 1)] 38) := qh (by rw [hW13]; exact (HBo12.out.set 4 _).set 5 _)
   have HM13 := qh (own_ext HM12.out hE13 (fun g hg e => by have h1 := HM12.out.lt g hg; have h2 := HOB.out; omega))
   have HT13 := qh (own_ext HT12.out hE13 (fun g hg e => by have h1 := HT12.out.lt g hg; have h2 := HOB.out; omega))
   have HF13 := qh (own_ext HF12.out hE13 (fun g hg e => by have h1 := HF12.out.lt g hg; have h2 := HOB.out; omega))
   have HE13 : Hid (Ext (fun b => ob ≤ b) w3 W13) := qh (HE12.out.trans (hE13.mono (fun b _ e => Nat.le_of_eq e.symm)) (fun _ _ e => e))
   have HAl := qh (rall_any (a0 := none) (n0 := 0) (c0 := 0) (x := (M : Int) + 1) (y := (M : Int) + 1 + (n0 : Int) + 1) ⟨HMl.out, own_ok HM13.out HMl.out⟩ ⟨HN0.out, own_ok HT13.out HN0.out⟩ ⟨HN1.out, own_ok HF13.out HN1.out⟩ ⟨hmm, hnz.2.2.1, hnz.2.2.2⟩)
   clear hW13 hE13 x1 x2 x4 x5 z4 z5
   go_wp2_with (with_reducible refine at_load 38 (.tmp 3) ?_; refine wpList_load_ro rfl (.tmp 3) rfl ob 0 rfl _ HBo13.out.range rfl ?_)
   refine HAl.out.mono ?_
   rintro e W14 ⟨a14, c14, rfl, hO14, hP14⟩
   obtain ⟨al, hal⟩ : ∃ z, z = allO p.main p.tree p.first := ⟨_, rfl⟩
   rw [← hal] at hO14 ⊢
   have hll : al.length ≤ 4000000 := by rw [hal]; unfold allO; simp only [List.length_append, List.length_singleton]; rw [← HMl.out, ← HN0.out, ← HN1.out]; omega
   obtain ⟨L, hL⟩ : ∃ z, z = al.length := ⟨_, rfl⟩
   rw [← hL] at hO14 hll ⊢
   have HLl := qh hL
   have HAL := qh hal
   have HO14 := qh hO14
   have HBo14 := qh (HBo13.out.ext hP14 id)
   have HM14 := qh (own_ext HM13.out hP14 (fun _ _ => id))
   have HT14 := qh (own_ext HT13.out hP14 (fun _ _ => id))
   have HF14 := qh (own_ext HF13.out hP14 (fun _ _ => id))
   have HE14 : Hid (Ext (fun b => ob ≤ b) w3 W14) := qh (HE13.out.trans (hP14.mono (fun _ _ e => e.elim)) (fun _ _ e => e))
   have HRo14 := qh (own_row hO14)
   clear hL hal hO14 hP14
   go_wp2_with fail
   go_loopw [6, 7] (fun mv i W => ∃ k : Nat, k ≤ L ∧ i = .int .i64 k ∧ mv = .int .i64 ((mostP (al.take k) : Nat) : Int) ∧ W = W14) (fun _ i _ => L - (intOf i).toNat)
   case atStart => exact ⟨0, Nat.zero_le _, rfl, rfl, rfl⟩
   case round =>
    obtain ⟨j, hj, rfl, rfl, rfl⟩ := hrel
    obtain ⟨mn, hmn⟩ : ∃ z, z = mostP (al.take j) := ⟨_, rfl⟩
    rw [← hmn]
    by_cases hlj : j < L
    ·have hji : (j : Int) < (L : Int) := by omega
     have hj0 : (0 : Int) ≤ (j : Int) := by omega
     obtain ⟨x, hx⟩ : ∃ u, al[j]? = some u := ⟨_, List.getElem?_eq_getElem (by rw [← HLl.out]; exact hlj)⟩
     obtain ⟨b, o, rfl, hc⟩ := HRo14.out j (.int .i64 x) (by unfold intsV; rw [List.getElem?_map, hx]; rfl)
     have HNx : Hid (mostP (al.take (j + 1)) = if x ≤ 4096 then max mn x.toNat else mn) := qh (by rw [List.take_add_one, hx, Option.toList_some, mostP_snoc, ← hmn])
     clear hx hmn
     by_cases hx1 : (mn : Int) < x
     ·by_cases hx2 : x ≤ 4096
      ·go_wp2_with fail
       go_roundw
       case rel => exact ⟨j + 1, by omega, by go_num, by rw [HNx.out, if_pos hx2, show ((max mn x.toNat : Nat) : Int) = x by omega], trivial⟩
       case measure => simp [intOf]; omega
      ·go_wp2_with fail
       go_roundw
       case rel => exact ⟨j + 1, by omega, by go_num, by rw [HNx.out, if_neg (by omega)], trivial⟩
       case measure => simp [intOf]; omega
     ·have HMn : Hid (mostP (al.take (j + 1)) = mn) := qh (by rw [HNx.out]; split <;> omega)
      go_wp2_with fail
      go_roundw
      case rel => exact ⟨j + 1, by omega, by go_num, by rw [HMn.out], trivial⟩
      case measure => simp [intOf]; omega
    ·have hji : ¬ (j : Int) < (L : Int) := by omega
     have hmo : mn = mostP al := by rw [hmn, List.take_of_length_le (by rw [← HLl.out]; omega)]
     have hmo4 : mn ≤ 4096 := by rw [hmo]; exact mostP_le _
     have HMo := qh hmo
     clear hmn hmo
     obtain ⟨wo, rfl⟩ : ∃ wo : World, wo = wr := ⟨_, rfl⟩
     obtain ⟨w15, hw15⟩ : ∃ z, z = wo.alloc (.cells (intsV (List.replicate mn 0)).toArray 3) := ⟨_, rfl⟩
     obtain ⟨kb, hkb⟩ : ∃ z, z = wo.heap.size := ⟨_, rfl⟩
     have HKb := qh hkb
     have HW15 : Hid (wo.alloc (.cells (madeCells #[.int .i64 0] mn) 3) = w15) := qh (by rw [hw15]; exact rep_ints mn _ wo)
     have hP15 : Pure wo w15 := by rw [hw15]; exact ext_alloc _ _
     have HK15 : Hid (BlockIs w15 kb (intsV (List.replicate mn 0)) 3) := qh (by rw [hw15, hkb]; exact BlockIs.new wo _ _)
     have HBo15 := qh (HBo14.out.ext hP15 id)
     have y0 : w15.cell? ⟨ob, 0, none⟩ = some (.slice none 0 0) := HBo15.out.cell 0
     have z0 : w15.frozen? ⟨ob, 0, none⟩ = false := HBo15.out.free 0
     obtain ⟨ii, hi, hzi, hsize, hby⟩ := info_parts infoI
     have HI := qh hi
     have HZi := qh hzi
     have HSi := qh hsize
     have HBy : Hid (ii.bytes * mn ≤ 281474976710656) := qh (by rw [hby]; omega)
     have HMx : Hid (mn ≤ 9223372036854775807) := qh (by omega)
     have HP15 := qh hP15
     clear hi hzi hsize hby hw15 hkb hP15
     go_upto_region 19 with (refine wpList_make_row _ rfl (.tmp 84) (.tmp 84) 25 rfl 3 ii (.int .i64 0) Tryz.underlying25 HI.out HZi.out HSi.out rfl .i64 .i64 mn rfl rfl HBy.out HMx.out ?_; rw [HW15.out, ← HKb.out])
     obtain ⟨W16, hW16⟩ : ∃ z, z = w15.setCell ⟨ob, 0, none⟩ (.slice (some ⟨kb, 0, none⟩) mn mn) := ⟨_, rfl⟩
     rw [← hW16]
     have hE16 : Ext (fun b => b = ob) w15 W16 := by rw [hW16]; exact Ext.setCell (S := fun b => b = ob) (Ext.refl _ _) (p := ⟨ob, 0, none⟩) (fun _ => rfl) _
     have HBo16 : Hid (BlockIs W16 ob [.slice (some ⟨kb, 0, none⟩) mn mn, .slice a7 M c7, .slice a9 n0 q9, .slice a11 n1 q11, .int .i64 ((M : Int) + 1), .int .i64 ((M : Int) + 1 + (n0 : Int) + 1)] 38) := qh (by rw [hW16]; exact HBo15.out.set 0 _)
     have HKo : Hid (¬ ob = kb) := qh (by have h1 := HKb.out; have h2 := HBo14.out.lt; omega)
     have HK16 := qh (HK15.out.ext hE16 (fun e => HKo.out e.symm))
     have HO16 := qh (own_ext (own_ext HO14.out HP15.out (fun _ _ => id)) hE16 (fun g hg e => by have h1 := HO14.out.lt g hg; have h2 := HBo13.out.lt; omega))
     have HOk : Hid (∀ g, (Value.slice a14 L c14).ownBlock = some g → ¬ g = kb) := qh (fun g hg e => by have h1 := HO14.out.lt g hg; have h2 := HKb.out; omega)
     have HX16 := qh hE16
     have HE16 : Hid (Ext (fun b => ob ≤ b) w3 W16) := qh ((HE14.out.trans (HP15.out.mono (fun _ _ e => e.elim)) (fun _ _ e => e)).trans (hE16.mono (fun b _ e => Nat.le_of_eq e.symm)) (fun _ _ e => e))
     clear hW16 hE16 y0 z0
     go_wp2_with fail
     go_loopw [8] (fun i W => ∃ (k : Nat) (z : Int), k ≤ L ∧ i = .int .i64 z ∧ Hid (z + 1 = (k : Int)) ∧ Hid (BlockIs W kb (intsV (toP ((al.zipIdx 1).drop k) mn)) 3) ∧ Hid (Ext (fun b => b = kb) W16 W)) (fun i _ => (intOf i + 1).toNat)
     case atStart => exact ⟨L, (L : Int) - 1, Nat.le_refl _, rfl, qh (by omega), qh (by rw [List.drop_of_length_le (by rw [List.length_zipIdx, ← HLl.out]; exact Nat.le_refl _), toP_nil]; exact HK16.out), qh (Ext.refl _ _)⟩
     case round =>
      obtain ⟨k2, z, hk2, rfl, HZ2, HK, HEk⟩ := hrel
      have hz2 := HZ2.out
      by_cases hk0 : k2 = 0
      ·subst hk0
       obtain rfl : z = -1 := by omega
       have HBo17 := qh (HBo16.out.ext HEk.out HKo.out)
       have HE17 : Hid (Ext (fun b => ob ≤ b) w3 wr) := qh (HE16.out.trans (HEk.out.mono (fun b _ e => by have h1 := HKb.out; have h2 := HBo14.out.lt; omega)) (fun _ _ e => e))
       have HBr17 := qh (HBr3.out.ext HE17.out (fun e => by have := HOB.out; omega))
       have HTh : Hid (wr.there (pb + 1) 0 (#[Value.slice (some ⟨kb, 0, none⟩) mn mn, .slice a7 M c7, .slice a9 n0 q9, .slice a11 n1 q11, .int .i64 ((M : Int) + 1), .int .i64 ((M : Int) + 1 + (n0 : Int) + 1)] : Array Value).size) := qh (HBr17.out.there 6 rfl)
       have HSx : Hid ((Tryz.prog.info? 38).map (·.size) = some (#[Value.slice (some ⟨kb, 0, none⟩) mn mn, .slice a7 M c7, .slice a9 n0 q9, .slice a11 n1 q11, .int .i64 ((M : Int) + 1), .int .i64 ((M : Int) + 1 + (n0 : Int) + 1)] : Array Value).size) := qh sizeRO
       have HOx : Hid (((#[Value.slice (some ⟨kb, 0, none⟩) mn mn, .slice a7 M c7, .slice a9 n0 q9, .slice a11 n1 q11, .int .i64 ((M : Int) + 1), .int .i64 ((M : Int) + 1 + (n0 : Int) + 1)] : Array Value).all fun u => u.oneCell') = true) := qh (all_oneCell_toArray (by intro u hu; simp only [List.mem_cons, List.not_mem_nil, or_false] at hu; rcases hu with rfl | rfl | rfl | rfl | rfl | rfl <;> rfl))
       go_wp2_with first
        | (with_reducible refine at_load 38 (.tmp 3) ?_; refine wpList_load_ro rfl (.tmp 3) rfl ob 0 rfl _ HBo17.out.range rfl ?_)
        | (with_reducible refine at_store 38 (.tmp 2) (.tmp 117) ?_; refine wpList_store_mid rfl 38 (.tmp 2) (.tmp 117) rfl (pb + 1) 0 #[.slice (some ⟨kb, 0, none⟩) mn mn, .slice a7 M c7, .slice a9 n0 q9, .slice a11 n1 q11, .int .i64 ((M : Int) + 1), .int .i64 ((M : Int) + 1 + (n0 : Int) + 1)] rfl rfl HTh.out HSx.out HOx.out ?_)
       have hB := HBr17.out.setAll [.slice (some ⟨kb, 0, none⟩) mn mn, .slice a7 M c7, .slice a9 n0 q9, .slice a11 n1 q11, .int .i64 ((M : Int) + 1), .int .i64 ((M : Int) + 1 + (n0 : Int) + 1)] rfl
       have hE : Ext (fun b => b = pb + 1) wr (wr.setCells (pb + 1) 0 [.slice (some ⟨kb, 0, none⟩) mn mn, .slice a7 M c7, .slice a9 n0 q9, .slice a11 n1 q11, .int .i64 ((M : Int) + 1), .int .i64 ((M : Int) + 1 + (n0 : Int) + 1)]) := Ext.setCells (S := fun b => b = pb + 1) _ 0 _ (Ext.refl _ _) (b := pb + 1) (fun _ => rfl)
       refine bodyPost_ret (results_row1 rfl _ _ (pb + 1) _ [.slice (some ⟨kb, 0, none⟩) mn mn, .slice a7 M c7, .slice a9 n0 q9, .slice a11 n1 q11, .int .i64 ((M : Int) + 1), .int .i64 ((M : Int) + 1 + (n0 : Int) + 1)] _ rfl hB Tryz.underlying38 rfl sizeRO) rfl ?_
       refine ⟨some ⟨kb, 0, none⟩, a7, a9, a11, mn, M, n0, n1, mn, c7, q9, q11, ?_, fun S W hS hSb => ?_, ?_⟩
       ·have e1 : (orderP p).main.length = M := HMl.out.symm
        have e2 : (orderP p).head.length = n0 := HN0.out.symm
        rw [e1, e2, show ((M + n0 + 2 : Nat) : Int) = (M : Int) + 1 + (n0 : Int) + 1 by omega]
        rfl
       ·have f : ∀ {m : Nat} {a : Option Addr} {c : Nat} {l : List Int}, wo.ownsRow B 3 1 (.slice a m c) m (intsV l) → m = l.length → CRow.ok W ⟨a, c, l⟩ := fun {m a c l} h hm => own_ok (own_ext (own_ext (own_ext (own_ext (own_ext h HP15.out (fun _ _ => id)) HX16.out (fun g hg e => by have h1 := h.lt g hg; have h2 := HOB.out; omega)) HEk.out (fun g hg e => by have h1 := h.lt g hg; have h2 := HKb.out; omega)) hE (fun g hg e => by have h1 := h.lt g hg; have h2 := HOB.out; omega)) hS (fun g hg e => by have h1 := h.lt g hg; have h2 := HOB.out; have h3 := hSb g e; have h4 := HPb.out; omega)) hm
        have hk := (HK.out.ext hE (fun e => by have h1 := HKb.out; have h2 := HBo14.out.lt; have h3 := HOB.out; omega)).ext hS (fun e => by have h0 := hSb _ e; have h1 := HKb.out; have h2 := HBo14.out.lt; have h3 := HOB.out; have h4 := HPb.out; omega)
        rw [List.drop_zero] at hk
        have hmo : mn = mostP (p.main ++ p.tree ++ p.first) := by
         rw [HMo.out, HAL.out]
         exact mostP_zero (fun x hx => by unfold allO; simp [hx])
        have hto : toP (al.zipIdx 1) mn = (orderP p).nums := by
         rw [HAL.out, seqP_all, hmo]
         rfl
        rw [hto] at hk
        exact ⟨⟨some ⟨kb, 0, none⟩, mn, (orderP p).nums⟩, ⟨a7, c7, p.main⟩, ⟨a9, q9, p.tree⟩, ⟨a11, q11, p.first⟩, by unfold CRow.v; rw [← hto, toP_len], by unfold CRow.v; rw [← HMl.out], by unfold CRow.v; rw [← HN0.out], by unfold CRow.v; rw [← HN1.out], rfl, rfl, rfl, rfl, ⟨row_blk hk, fun h => (by cases h), by show (orderP p).nums.length ≤ mn; rw [← hto, toP_len]; exact Nat.le_refl _⟩, f HM14.out HMl.out, f HT14.out HN0.out, f HF14.out HN1.out⟩
       ·exact ((HP3.out.trans HE17.out (fun i hi e => by have h1 := HPb.out; have h2 := HOB.out; omega)).trans hE (fun i hi e => by have h1 := HPb.out; omega))
      ·obtain ⟨j2, rfl⟩ : ∃ y, k2 = y + 1 := ⟨k2 - 1, by omega⟩
       obtain rfl : z = (j2 : Int) := by omega
       clear hz2
       have hlj : j2 < L := by omega
       have hji : (j2 : Int) < (L : Int) := by omega
       have hj0 : (0 : Int) ≤ (j2 : Int) := by omega
       obtain ⟨x, hx⟩ : ∃ u, al[j2]? = some u := ⟨_, List.getElem?_eq_getElem (by rw [← HLl.out]; exact hlj)⟩
       have hxv : (intsV al)[j2]? = some (.int .i64 x) := by unfold intsV; rw [List.getElem?_map, hx]; rfl
       have HRx : Hid (∀ W, Ext (fun b => b = kb) wr W → RowOf W a14 (intsV al)) := qh (fun W hE => own_row (own_ext (own_ext HO16.out HEk.out HOk.out) hE HOk.out))
       obtain ⟨b, o, rfl, hc⟩ := HRx.out wr (Ext.refl _ _) j2 _ hxv
       have HCx : Hid (∀ W, Ext (fun b => b = kb) wr.drew W → W.cell? ⟨b, o + j2, none⟩ = some (.int .i64 x)) := qh (fun W hE => by
        obtain ⟨b', o', hbo, h⟩ := HRx.out W (((Ext.refl _ wr).drew.mono (fun _ _ e => by exact False.elim e)).trans hE (fun _ _ e => e)) j2 _ hxv
        cases hbo
        exact h)
       have hdr : (al.zipIdx 1).drop j2 = (x, j2 + 1) :: (al.zipIdx 1).drop (j2 + 1) := by
        rw [List.drop_eq_getElem_cons (by rw [List.length_zipIdx, ← HLl.out]; exact hlj)]
        congr 1
        have h := List.getElem?_eq_getElem (l := al.zipIdx 1) (i := j2) (by rw [List.length_zipIdx, ← HLl.out]; exact hlj)
        rw [List.getElem?_zipIdx, hx] at h
        have h2 := (Option.some.inj h).symm
        rw [h2, Nat.add_comm]
       have hT := toP_cons ((al.zipIdx 1).drop (j2 + 1)) mn x (j2 + 1)
       rw [← hdr] at hT
       clear hx hxv hdr
       by_cases hx1 : 1 ≤ x
       ·by_cases hx2 : x ≤ (mn : Int)
        ·obtain ⟨i, rfl⟩ : ∃ i : Nat, x = (i : Int) + 1 := ⟨(x - 1).toNat, by omega⟩
         have hi : i < mn := by omega
         have hii : (i : Int) < (mn : Int) := by omega
         have hi0 : (0 : Int) ≤ (i : Int) := by omega
         have hwr : IntKind.i64.wrap (i : Int) = (i : Int) := wrap_in hi0 (by omega)
         have hwj : IntKind.i64.wrap ((j2 : Int) + 1) = (j2 : Int) + 1 := wrap_in (by omega) (by omega)
         have HTs := qh (hT.1 i hi rfl)
         have hP0 : Pure wr wr.drew := (Ext.refl _ wr).drew
         have HBod := qh ((HBo16.out.ext HEk.out HKo.out).ext hP0 id)
         have HKd := qh (HK.out.ext hP0 id)
         obtain ⟨v, hv⟩ : ∃ v, (toP ((al.zipIdx 1).drop (j2 + 1)) mn)[i]? = some v := ⟨_, toP_get _ hi⟩
         have q1 : wr.drew.cell? ⟨kb, i, none⟩ = some (.int .i64 v) := by rw [HKd.out.cell, intsV, List.getElem?_map, hv]; rfl
         have z1 : wr.drew.frozen? ⟨kb, i, none⟩ = false := HKd.out.free i
         clear hT hv
         go_upto_region 23 with (fail)
         refine region_start (fun b => b = kb) (by kernel_rfl) ?_
         try simp only [Act.put, sA, sZ, sS]
         refine region_take 0 107 (v := ?vrt0) rfl rfl (by kernel_rfl) (by kernel_rfl) (by kernel_rfl) (fun _ _ _ h => h) (by rfl) (fun w' hS => ?hrt0) ?rrt0
         case hrt0 => go_simp; with_reducible rfl
         try simp only [Act.put, sA, sZ, sS]
         refine region_take 1 108 (v := ?vrt1) rfl rfl (by kernel_rfl) (by kernel_rfl) (by kernel_rfl) (fun _ _ _ h => h) (by rfl) (fun w' hS => ?hrt1) ?rrt1
         case hrt1 => (have e : w'.cell? ⟨ob, 0, none⟩ = some (.slice (some ⟨kb, 0, none⟩) mn mn) := (HBod.out.ext hS HKo.out).cell 0; go_simp; with_reducible rfl)
         try simp only [Act.put, sA, sZ, sS]
         refine region_take 2 109 (v := ?vrt2) rfl rfl (by kernel_rfl) (by kernel_rfl) (by kernel_rfl) (fun _ _ _ h => h) (by rfl) (fun w' hS => ?hrt2) ?rrt2
         case hrt2 => go_simp; with_reducible rfl
         try simp only [Act.put, sA, sZ, sS]
         refine region_take 3 110 (v := ?vrt3) rfl rfl (by kernel_rfl) (by kernel_rfl) (by kernel_rfl) (fun _ _ _ h => h) (by rfl) (fun w' hS => ?hrt3) ?rrt3
         case hrt3 => go_simp; with_reducible rfl
         try simp only [Act.put, sA, sZ, sS]
         refine region_take 4 111 (v := ?vrt4) rfl rfl (by kernel_rfl) (by kernel_rfl) (by kernel_rfl) (fun _ _ _ h => h) (by rfl) (fun w' hS => ?hrt4) ?rrt4
         case hrt4 => go_simp; with_reducible rfl
         try simp only [Act.put, sA, sZ, sS]
         refine region_take 5 112 (v := ?vrt5) rfl rfl (by kernel_rfl) (by kernel_rfl) (by kernel_rfl) (fun _ _ _ h => h) (by rfl) (fun w' hS => ?hrt5) ?rrt5
         case hrt5 => (have e := HCx.out w' hS; go_simp; with_reducible rfl)
         try simp only [Act.put, sA, sZ, sS]
         refine region_take 6 113 (v := ?vrt6) rfl rfl (by kernel_rfl) (by kernel_rfl) (by kernel_rfl) (fun _ _ _ h => h) (by rfl) (fun w' hS => ?hrt6) ?rrt6
         case hrt6 => go_simp; with_reducible rfl
         try simp only [Act.put, sA, sZ, sS]
         refine region_take 7 114 (v := ?vrt7) rfl rfl (by kernel_rfl) (by kernel_rfl) (by kernel_rfl) (fun _ _ _ h => h) (by rfl) (fun w' hS => ?hrt7) ?rrt7
         case hrt7 => go_simp; with_reducible rfl
         try simp only [Act.put, sA, sZ, sS]
         refine region_take 8 115 (v := ?vrt8) rfl rfl (by kernel_rfl) (by kernel_rfl) (by kernel_rfl) (fun _ _ _ h => h) (by rfl) (fun w' hS => ?hrt8) ?rrt8
         case hrt8 => go_simp; with_reducible rfl
         try simp only [Act.put, sA, sZ, sS]
         refine region_take 9 116 (v := ?vrt9) rfl rfl (by kernel_rfl) (by kernel_rfl) (by kernel_rfl) (fun _ _ _ h => h) (by rfl) (fun w' hS => ?hrt9) ?rrt9
         case hrt9 => go_simp; with_reducible rfl
         try simp only [Act.put, sA, sZ, sS]
         refine wpAnyH_ready (rs := [10]) (by kernel_rfl) (by simp) (AllReadyH.cons rfl (fun K hK => ?_) AllReadyH.nil)
         go_simp
         refine hK.out _ _ (Ext.setCell (S := fun b => b = kb) (Ext.refl _ _) (p := ⟨kb, i, none⟩) (fun _ => rfl) _) (fun hHeld => ?_)
         clear hK K hHeld
         refine region_now (Ext.setCell (S := fun b => b = kb) (Ext.refl _ _) (p := ⟨kb, i, none⟩) (fun _ => rfl) _) ?_
         try simp only [Act.put, sA, sZ, sS]
         refine wpAnyH_done (by kernel_rfl) ?_ _
         obtain ⟨W18, hW18⟩ : ∃ z, z = (wr.setCell ⟨kb, i, none⟩ (.int .i64 ((j2 : Int) + 1))).drew := ⟨_, rfl⟩
         rw [← hW18]
         have hS1 : Ext (fun b => b = kb) wr (wr.setCell ⟨kb, i, none⟩ (.int .i64 ((j2 : Int) + 1))) := Ext.setCell (S := fun b => b = kb) (Ext.refl _ _) (p := ⟨kb, i, none⟩) (fun _ => rfl) _
         have hD : Pure (wr.setCell ⟨kb, i, none⟩ (.int .i64 ((j2 : Int) + 1))) W18 := by rw [hW18]; exact (Ext.refl _ _).drew
         have HK18 : Hid (BlockIs W18 kb (intsV (toP ((al.zipIdx 1).drop j2) mn)) 3) := qh (by
          rw [HTs.out, ← intsV_set', show ((j2 + 1 : Nat) : Int) = (j2 : Int) + 1 by omega]
          exact (HK.out.set i _).ext hD id)
         have HE18 : Hid (Ext (fun b => b = kb) W16 W18) := qh ((HEk.out.trans hS1 (fun _ _ e => e)).trans (hD.mono (fun _ _ e => e.elim)) (fun _ _ e => e))
         clear hW18 hS1 hD q1 z1 hP0
         go_wp2_with fail
         go_roundw
         case rel => exact ⟨j2, (j2 : Int) - 1, by omega, by go_num, qh (by omega), HK18, HE18⟩
         case measure => first | (simp [intOf]; done) | (simp [intOf]; omega)
        ·have HTs := qh (hT.2 (fun h => hx2 h.2))
         clear hT
         go_wp2_with fail
         go_roundw
         case rel => exact ⟨j2, (j2 : Int) - 1, by omega, by go_num, qh (by omega), by rw [HTs.out]; exact HK, HEk⟩
         case measure => first | (simp [intOf]; done) | (simp [intOf]; omega)
       ·have HTs := qh (hT.2 (fun h => hx1 h.1))
        clear hT
        go_wp2_with fail
        go_roundw
        case rel => exact ⟨j2, (j2 : Int) - 1, by omega, by go_num, qh (by omega), by rw [HTs.out]; exact HK, HEk⟩
        case measure => first | (simp [intOf]; done) | (simp [intOf]; omega)
