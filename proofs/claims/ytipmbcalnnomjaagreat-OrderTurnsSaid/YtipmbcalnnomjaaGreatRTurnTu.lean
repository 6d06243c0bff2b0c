import Derived.Test.YtipmbcalnnomjaaGreatTurnITu
import Derived.Deep.CutRange
import Derived.Deep.DeepCutAuto
import Derived.OwnWalk
import Derived.Deep.OwnRows
import Derived.Test.YtipmbcalnnomjaaGreatSqTu
set_option linter.unusedVariables false
set_option linter.unusedSimpArgs false
set_option maxRecDepth 100000
namespace Go.Proofs.YtipmbcalnnomjaaGreat
open Go.RowKit Go.Maps
theorem gap_no {K n1 n2 m12 m13 : Nat} (h1 : m12 = n1 + n2) (h2 : m13 = m12 + 1) (h3 : n1 ≤ 1000000) (h4 : n2 ≤ 1000000) (hK : K ≠ m13) : ((K : Int) == wrap64 (wrap64 (m12 : Int) + 1)) = false := by
 have e1 : wrap64 (m12 : Int) = (m12 : Int) := by clear h2 hK; unfold wrap64; omega
 have e2 : wrap64 ((m12 : Int) + 1) = (m13 : Int) := by clear hK e1; unfold wrap64; omega
 rw [e1, e2]
 simp
 omega
set_option maxHeartbeats 8000000 in
theorem rturn_any (d : Nat) (l : List Ob) (oa : Option Addr) (oc : Nat) (root : Int) (rws : List (List Value)) (w : World) (hD : DocOk w d l oa rws root)
 {o : OrderP} {a0 a1 a2 a3 : Option Addr} {n0 n1 n2 n3 c0 c1 c2 c3 : Nat} {x y : Int} (H : OAt o (.slice a0 n0 c0) (.slice a1 n1 c1) (.slice a2 n2 c2) (.slice a3 n3 c3) w)
 (hz : o.nums.length ≤ 1000000 ∧ o.main.length ≤ 1000000 ∧ o.head.length ≤ 1000000 ∧ o.first.length ≤ 1000000) :
 Calls Tryz.prog 10 #[.agg #[.slice oa l.length oc, .int .i64 root], .agg #[.slice a0 n0 c0, .slice a1 n1 c1, .slice a2 n2 c2, .slice a3 n3 c3, .int .i64 x, .int .i64 y]] w
  (DocTo (turnedP (fun n => turnOb o.nums (obAt l n)) o.main o.head o.first) d ((o.main.length + 2 : Nat) : Int) w) := by
 obtain ⟨⟨e0, q0⟩, ⟨e1, q1⟩, ⟨e2, q2⟩, ⟨e3, q3⟩⟩ := H.opened
 have hAll := fun W (hP : Pure w W) => rall_any (x := x) (y := y) (n0 := n0) (a0 := a0) (c0 := c0) ⟨e1, q1.pure hP⟩ ⟨e2, q2.pure hP⟩ ⟨e3, q3.pure hP⟩ (by omega)
 have HAll := qh hAll
 have HTo : Hid (RowOf w a0 (intsV o.nums)) := qh q0.1
 have HTl : Hid (o.nums.length = n0 ∧ n0 ≤ 1000000) := qh ⟨e0.symm, by omega⟩
 have HGet := qh (fun k W (hP : Pure w W) => refgetdoc_any d l oa oc rws root k w W hP hD)
 have HOf := qh (fun W => refof_any oa l.length oc root W)
 have HSz := qh (fun k => hD.at_size k)
 obtain ⟨on, hon⟩ : ∃ z, z = l.length := ⟨_, rfl⟩
 rw [← hon] at HGet HOf ⊢
 have HAg : Hid (∀ (k : Nat) (z : Int), (allO o.main o.head o.first)[k]? = some z → (turnedP (fun n => turnOb o.nums (obAt l n)) o.main o.head o.first)[k]? = some (if k = o.main.length ∨ k = o.main.length + o.head.length + 1 then noOb else turnOb o.nums (obAt l z))) := qh (fun k z h => all_get _ h)
 have hLl : (turnedP (fun n => turnOb o.nums (obAt l n)) o.main o.head o.first).length = (allO o.main o.head o.first).length := by rw [turnedP_len, all_len]
 obtain ⟨L, hL⟩ : ∃ z, z = turnedP (fun n => turnOb o.nums (obAt l n)) o.main o.head o.first := ⟨_, rfl⟩
 obtain ⟨AL, hAL⟩ : ∃ z, z = allO o.main o.head o.first := ⟨_, rfl⟩
 have hAl := all_len o.main o.head o.first
 rw [← hL] at hLl HAg ⊢
 rw [← hAL] at hLl HAg HAll hAl
 obtain ⟨tu, htu⟩ : ∃ z, z = o.nums := ⟨_, rfl⟩
 rw [← htu] at HTo HTl HAg
 obtain ⟨n, hn⟩ : ∃ z, z = AL.length := ⟨_, rfl⟩
 rw [← e1, ← e2] at HAg
 rw [← e1]
 obtain ⟨m12, hm12⟩ : ∃ z, z = n1 + n2 := ⟨_, rfl⟩
 obtain ⟨m13, hm13⟩ : ∃ z, z = m12 + 1 := ⟨_, rfl⟩
 obtain ⟨r2, hr2⟩ : ∃ z, z = n1 + 2 := ⟨_, rfl⟩
 have hs12 : (n1 : Int) + (n2 : Int) = (m12 : Int) := by omega
 have hs13 : (m12 : Int) + 1 = (m13 : Int) := by omega
 have hs2 : (n1 : Int) + 2 = (r2 : Int) := by omega
 have HM : Hid (m12 = n1 + n2 ∧ m13 = m12 + 1 ∧ r2 = n1 + 2) := qh ⟨hm12, hm13, hr2⟩
 have hn9 : n ≤ 5000000 := by omega
 have HN : Hid (n = AL.length ∧ L.length = n) := qh ⟨hn, by omega⟩
 rw [← hr2]
 unfold OwnI at HAll
 rw [← hn] at HAll
 obtain ⟨tb, htb⟩ : ∃ z, z = w.heap.size := ⟨_, rfl⟩
 obtain ⟨w1, hw1⟩ : ∃ z, z = ((w.alloc (.cells #[.slice oa on oc, .int .i64 root] 24)).alloc (.cells #[.slice a0 n0 c0, .slice a1 n1 c1, .slice a2 n2 c2, .slice a3 n3 c3, .int .i64 x, .int .i64 y] 38)).alloc (.cells #[.slice none 0 0, .int .i64 0] 24) := ⟨_, rfl⟩
 have HW1 : Hid (((w.alloc (.cells #[.slice oa on oc, .int .i64 root] 24)).alloc (.cells #[.slice a0 n0 c0, .slice a1 n1 c1, .slice a2 n2 c2, .slice a3 n3 c3, .int .i64 x, .int .i64 y] 38)).alloc (.cells #[.slice none 0 0, .int .i64 0] 24) = w1) := qh hw1.symm
 have HP1 : Hid (Pure w w1) := qh (by rw [hw1]; exact ((ext_alloc w _).pure (ext_alloc _ _)).pure (ext_alloc _ _))
 have HB0 : Hid (BlockIs w1 tb [.slice oa on oc, .int .i64 root] 24) := qh (by rw [hw1, htb]; exact ((BlockIs.new w _ _).alloc _).alloc _)
 have HB1 : Hid (BlockIs w1 (tb + 1) [.slice a0 n0 c0, .slice a1 n1 c1, .slice a2 n2 c2, .slice a3 n3 c3, .int .i64 x, .int .i64 y] 38) := qh (by rw [hw1, htb]; exact (blk_alloc w _ _ _).alloc _)
 have HS1 : Hid (w1.heap.size = tb + 3) := qh (by rw [hw1, World.size_alloc, World.size_alloc, World.size_alloc, htb])
 have HB2 : Hid (BlockIs w1 (tb + 2) [.slice none 0 0, .int .i64 0] 24) := qh (by
  have := blk_alloc (w.alloc (.cells #[.slice oa on oc, .int .i64 root] 24)) (.cells #[.slice a0 n0 c0, .slice a1 n1 c1, .slice a2 n2 c2, .slice a3 n3 c3, .int .i64 x, .int .i64 y] 38) [.slice none 0 0, .int .i64 0] 24
  rw [World.size_alloc] at this
  rw [hw1, htb]; exact this)
 have HTb := qh htb
 have HN1 : Hid (n1 ≤ 1000000 ∧ n2 ≤ 1000000) := qh (by omega)
 clear hD H hz e0 q0 e1 q1 e2 q2 e3 q3 hAll hon hL hAL hAl hLl htu hn hm12 hm13 hr2 htb hw1
 go_enter Tryz.func10, Tryz.ntmps10
 go_upto_region 1 with (fail)
 rw [HW1.out, ← HTb.out]
 have x0 : w1.cell? ⟨tb + 1, 0, none⟩ = some (.slice a0 n0 c0) := HB1.out.cell 0
 have x1 : w1.cell? ⟨tb + 1, 1, none⟩ = some (.slice a1 n1 c1) := HB1.out.cell 1
 have x2 : w1.cell? ⟨tb + 1, 2, none⟩ = some (.slice a2 n2 c2) := HB1.out.cell 2
 have x3 : w1.cell? ⟨tb + 1, 3, none⟩ = some (.slice a3 n3 c3) := HB1.out.cell 3
 have x4 : w1.cell? ⟨tb + 1, 4, none⟩ = some (.int .i64 x) := HB1.out.cell 4
 have x5 : w1.cell? ⟨tb + 1, 5, none⟩ = some (.int .i64 y) := HB1.out.cell 5
 have hxl := HB1.out.lt
 go_wp2_with fail
 refine (HAll.out w1 HP1.out).mono ?_
 rintro e W2 ⟨aa, ac, rfl, hOA, hP2⟩
 have HRa := qh (own_row hOA)
 have HP2 := qh (HP1.out.pure hP2)
 have HB02 := qh (HB0.out.ext hP2 id)
 have HB12 := qh (HB1.out.ext hP2 id)
 have HB22 := qh (HB2.out.ext hP2 id)
 clear hOA hP2 x0 x1 x2 x3 x4 x5 hxl HB0 HB1 HB2 HW1 HAll
 go_upto_region 3 with (fail)
 obtain ⟨qb, hqb⟩ : ∃ z, z = W2.heap.size := ⟨_, rfl⟩
 obtain ⟨W4, hW4⟩ : ∃ z, z = W2.alloc (.cells #[.slice none 0 0, .int .i64 0] 24) := ⟨_, rfl⟩
 have HW4 : Hid (W2.alloc (.cells #[.slice none 0 0, .int .i64 0] 24) = W4) := qh hW4.symm
 have hP4 : Pure W2 W4 := by rw [hW4]; exact ext_alloc _ _
 have HP4 := qh (HP2.out.pure hP4)
 have HQb := qh hqb
 have hq4 : W4.heap.size = qb + 1 := by rw [hW4, World.size_alloc, hqb]
 have HQl : Hid (w.heap.size ≤ qb ∧ tb + 2 < qb ∧ qb < W4.heap.size) := qh ⟨by have := HP2.out.size; omega, by have := HB22.out.lt; omega, by omega⟩
 have HB04 := qh (HB02.out.ext hP4 id)
 have HB14 := qh (HB12.out.ext hP4 id)
 have HB24 := qh (HB22.out.ext hP4 id)
 have HRa4 := qh (HRa.out.ext hP4 (fun _ _ => id))
 have HRl : Hid (∀ z, aa = some z → AL ≠ [] → z.block ≠ qb) := qh (fun z hz hne e => by
  have hpos : 0 < AL.length := List.length_pos_iff.2 hne
  obtain ⟨b, o, hb, hc⟩ := HRa.out 0 _ (intsV_get hpos)
  rw [hz] at hb
  cases hb
  have := World.block_lt_of_cell? W2 _ hc
  simp only at this e
  omega)
 have HI0 : Hid (TurnI w W4 d qb (L.take 0) [.int .i64 0] none 0 [] W4) := qh (by
  rw [List.take_zero]
  exact ⟨by rw [hW4, hqb]; exact BlockIs.new W2 [.slice none 0 0, .int .i64 0] _, World.ownsRow_nil _ _ _ _, ⟨rfl, (fun r hr => by cases hr), (fun i o r ho => by simp at ho)⟩, Ext.refl _ _, HQl.out.1, HQl.out.2.2⟩)
 rw [HW4.out, ← HQb.out]
 clear hqb hW4 hP4 hq4 HB02 HB12 HB22 HRa
 go_wp2_with fail
 go_loopw [7, 8, 9, 10] (fun i _ _ _ W => ∃ (K : Nat) (ao : Option Addr) (co : Nat) (rows : List (List Value)), K ≤ n ∧ i = .int .i64 K ∧ Hid (TurnI w W4 d qb (L.take K) [.int .i64 0] ao co rows W)) (fun i _ _ _ _ => n - (intOf i).toNat)
 case atStart => exact ⟨0, none, 0, [], Nat.zero_le _, rfl, HI0⟩
 case round =>
  obtain ⟨K, ao, co, rows, hkn, rfl, HRi⟩ := hrel
  have HLj : Hid ((L.take K).length = K) := qh (by have := HN.out; rw [List.length_take]; omega)
  have hE := HRi.out.ext
  have hPj : Pure w wr := HP4.out.trans hE (fun i hi e => by have := HQl.out.1; have e2 : i = qb := e; omega)
  have HPj := qh hPj
  have hB1r := HB14.out.ext hE (fun e => by have := HQl.out; have e2 : tb + 1 = qb := e; omega)
  have y0 : wr.cell? ⟨tb + 1, 0, none⟩ = some (.slice a0 n0 c0) := hB1r.cell 0
  have y1 : wr.cell? ⟨tb + 1, 1, none⟩ = some (.slice a1 n1 c1) := hB1r.cell 1
  have y2 : wr.cell? ⟨tb + 1, 2, none⟩ = some (.slice a2 n2 c2) := hB1r.cell 2
  have hyl := hB1r.lt
  have HB1r := qh hB1r
  have HB0r := qh (HB04.out.ext hE (fun e => by have := HQl.out; have e2 : tb = qb := e; omega))
  clear hE hPj hB1r
  by_cases hlt : K < n
  ·have hki : (K : Int) < (n : Int) := by omega
   have hk0 : (0 : Int) ≤ (K : Int) := by omega
   have hkA : K < AL.length := by have := HN.out.1; omega
   obtain ⟨z, hz⟩ : ∃ z, AL[K]? = some z := ⟨_, List.getElem?_eq_getElem hkA⟩
   have hg := HAg.out K z hz
   by_cases hgap : K = n1 ∨ K = n1 + n2 + 1
   ·have HTk : Hid (L.take (K + 1) = L.take K ++ [noOb]) := qh (take_behind (by rw [hg, if_pos hgap]))
    have hPo : Pure wr wr := Ext.refl _ _
    have hway : (K = n1) ∨ (¬ K = n1 ∧ K = m13) := by have := HM.out; omega
    clear hz hg hgap hkA
    rcases hway with rfl | ⟨hk1, rfl⟩
    ·obtain ⟨W7, hW7⟩ : ∃ z, z = wr.alloc (.cells #[.int .i64 0, .int .i64 0, .string ⟨#[]⟩, .slice none 0 0, .bool false, .string ⟨#[]⟩] 61) := ⟨_, rfl⟩
     have HW7 : Hid (wr.alloc (.cells #[.int .i64 0, .int .i64 0, .string ⟨#[]⟩, .slice none 0 0, .bool false, .string ⟨#[]⟩] 61) = W7) := qh hW7.symm
     have hP7 : Pure wr W7 := by rw [hW7]; exact ext_alloc _ _
     have hR7 := HRi.out.pure (hPo.pure hP7)
     have HR7 := qh hR7
     have HL7 := qh (LiesIn.pure hP7 (LiesIn.leaf (fun b => b < w.heap.size ∨ (W4.heap.size ≤ b ∧ ∀ x, ao = some x → x.block ≠ b)) wr d 0 0 ⟨#[]⟩ (by decide)))
     have p0 : wr.cell? ⟨qb, 0, none⟩ = some (.slice ao K co) := by have := (HRi.out.pure hPo).blk.cell 0; rw [HLj.out] at this; exact this
     have HO7 : Hid (W7.ownsRow W4.heap.size 61 6 (.slice ao K co) K (rows.flatMap id)) := qh (by have h := hR7.row; rw [HLj.out] at h; exact h)
     have HRw : Hid (RowOf W7 (some ⟨wr.heap.size, 0, none⟩) [.int .i64 0, .int .i64 0, .string ⟨#[]⟩, .slice none 0 0, .bool false, .string ⟨#[]⟩]) := qh (fun i u hu => ⟨wr.heap.size, 0, rfl, by rw [hW7, (BlockIs.new wr [.int .i64 0, .int .i64 0, .string ⟨#[]⟩, .slice none 0 0, .bool false, .string ⟨#[]⟩] 61).cell, Nat.zero_add]; exact hu⟩)
     have HOne : Hid (∀ u ∈ ([.int .i64 0, .int .i64 0, .string ⟨#[]⟩, .slice none 0 0, .bool false, .string ⟨#[]⟩] : List Value), u.oneCell' = true) := qh (by intro u hu; simp only [List.mem_cons, List.not_mem_nil, or_false] at hu; rcases hu with rfl | rfl | rfl | rfl | rfl | rfl <;> rfl)
     have HB1' : Hid ((K + 1) * 80 ≤ 140737488355328) := qh (by omega)
     have HB2' : Hid (K + 1 ≤ maxLen) := qh (by unfold maxLen; omega)
     have HRs : Hid (W4.heap.size ≤ W7.heap.size) := qh (by have := hPo.size; have := hP7.size; have := HRi.out.ext.size; omega)
     have HK8 : Hid (∀ W8, W7.grownBy W8 (Value.slice ao K co).ownBlock → W8.cell? ⟨qb, 0, none⟩ = some (.slice ao K co) ∧ W8.frozen? ⟨qb, 0, none⟩ = false ∧ qb < W8.heap.size) := qh (fun W8 hg => by
      have hb := hR7.blk.ext (ext_of_grown hg) (fun e => by have := (HO7.out.lt qb e).1; have := HRi.out.lo; omega)
      have h0 := hb.cell 0
      rw [HLj.out] at h0
      exact ⟨h0, hb.free 0, hb.lt⟩)
     clear hW7 hP7 hR7 hPo
     go_wp2_with (first
      | (at_builtin; rw [HW7.out]; refine wpList_append_fresh rfl (.tmp 37) (.tmp 39) 22 rfl W4.heap.size 61 (.agg #[.int .i64 0, .int .i64 0, .string ⟨#[]⟩, .slice none 0 0, .bool false, .string ⟨#[]⟩]) 6 80 Tryz.underlying22 infoO rfl (by decide) (.slice ao K co) K (rows.flatMap id) rfl HO7.out (some ⟨wr.heap.size, 0, none⟩) 1 1 [.int .i64 0, .int .i64 0, .string ⟨#[]⟩, .slice none 0 0, .bool false, .string ⟨#[]⟩] rfl (fun e => by cases e) rfl HRw.out HOne.out (K + 1) rfl (rows.flatMap id ++ [.int .i64 0, .int .i64 0, .string ⟨#[]⟩, .slice none 0 0, .bool false, .string ⟨#[]⟩]) rfl HB1'.out HB2'.out HRs.out ?_; intro a8 c8 W8 hO8 hg8 hf8; obtain ⟨q0, q1, q2⟩ := HK8.out _ hg8))
     have HNew : Hid (TurnI w W4 d qb (L.take (K + 1)) [.int .i64 0] a8 c8 (rows ++ [[.int .i64 0, .int .i64 0, .string ⟨#[]⟩, .slice none 0 0, .bool false, .string ⟨#[]⟩]]) (W8.setCell ⟨qb, 0, none⟩ (.slice a8 (K + 1) c8))) := qh (by
      have h := HR7.out.step (o := noOb) (cs := [.int .i64 0, .int .i64 0, .string ⟨#[]⟩, .slice none 0 0]) HL7.out (W6 := W8) (a6 := a8) (c6 := c8) (by rw [HLj.out]; exact hO8) (by rw [HLj.out]; exact hg8) (by rw [HLj.out]; exact hf8)
      rw [HLj.out, ← HTk.out] at h
      exact h)
     go_roundw
     case rel => exact ⟨K + 1, a8, c8, _, by omega, by go_num, HNew⟩
     case measure => simp [intOf]; omega
    ·obtain ⟨W7, hW7⟩ : ∃ z, z = wr.alloc (.cells #[.int .i64 0, .int .i64 0, .string ⟨#[]⟩, .slice none 0 0, .bool false, .string ⟨#[]⟩] 61) := ⟨_, rfl⟩
     have HW7 : Hid (wr.alloc (.cells #[.int .i64 0, .int .i64 0, .string ⟨#[]⟩, .slice none 0 0, .bool false, .string ⟨#[]⟩] 61) = W7) := qh hW7.symm
     have hP7 : Pure wr W7 := by rw [hW7]; exact ext_alloc _ _
     have hR7 := HRi.out.pure (hPo.pure hP7)
     have HR7 := qh hR7
     have HL7 := qh (LiesIn.pure hP7 (LiesIn.leaf (fun b => b < w.heap.size ∨ (W4.heap.size ≤ b ∧ ∀ x, ao = some x → x.block ≠ b)) wr d 0 0 ⟨#[]⟩ (by decide)))
     have p0 : wr.cell? ⟨qb, 0, none⟩ = some (.slice ao K co) := by have := (HRi.out.pure hPo).blk.cell 0; rw [HLj.out] at this; exact this
     have HO7 : Hid (W7.ownsRow W4.heap.size 61 6 (.slice ao K co) K (rows.flatMap id)) := qh (by have h := hR7.row; rw [HLj.out] at h; exact h)
     have HRw : Hid (RowOf W7 (some ⟨wr.heap.size, 0, none⟩) [.int .i64 0, .int .i64 0, .string ⟨#[]⟩, .slice none 0 0, .bool false, .string ⟨#[]⟩]) := qh (fun i u hu => ⟨wr.heap.size, 0, rfl, by rw [hW7, (BlockIs.new wr [.int .i64 0, .int .i64 0, .string ⟨#[]⟩, .slice none 0 0, .bool false, .string ⟨#[]⟩] 61).cell, Nat.zero_add]; exact hu⟩)
     have HOne : Hid (∀ u ∈ ([.int .i64 0, .int .i64 0, .string ⟨#[]⟩, .slice none 0 0, .bool false, .string ⟨#[]⟩] : List Value), u.oneCell' = true) := qh (by intro u hu; simp only [List.mem_cons, List.not_mem_nil, or_false] at hu; rcases hu with rfl | rfl | rfl | rfl | rfl | rfl <;> rfl)
     have HB1' : Hid ((K + 1) * 80 ≤ 140737488355328) := qh (by omega)
     have HB2' : Hid (K + 1 ≤ maxLen) := qh (by unfold maxLen; omega)
     have HRs : Hid (W4.heap.size ≤ W7.heap.size) := qh (by have := hPo.size; have := hP7.size; have := HRi.out.ext.size; omega)
     have HK8 : Hid (∀ W8, W7.grownBy W8 (Value.slice ao K co).ownBlock → W8.cell? ⟨qb, 0, none⟩ = some (.slice ao K co) ∧ W8.frozen? ⟨qb, 0, none⟩ = false ∧ qb < W8.heap.size) := qh (fun W8 hg => by
      have hb := hR7.blk.ext (ext_of_grown hg) (fun e => by have := (HO7.out.lt qb e).1; have := HRi.out.lo; omega)
      have h0 := hb.cell 0
      rw [HLj.out] at h0
      exact ⟨h0, hb.free 0, hb.lt⟩)
     clear hW7 hP7 hR7 hPo
     go_wp2_with (first
      | (at_builtin; rw [HW7.out]; refine wpList_append_fresh rfl (.tmp 37) (.tmp 39) 22 rfl W4.heap.size 61 (.agg #[.int .i64 0, .int .i64 0, .string ⟨#[]⟩, .slice none 0 0, .bool false, .string ⟨#[]⟩]) 6 80 Tryz.underlying22 infoO rfl (by decide) (.slice ao K co) K (rows.flatMap id) rfl HO7.out (some ⟨wr.heap.size, 0, none⟩) 1 1 [.int .i64 0, .int .i64 0, .string ⟨#[]⟩, .slice none 0 0, .bool false, .string ⟨#[]⟩] rfl (fun e => by cases e) rfl HRw.out HOne.out (K + 1) rfl (rows.flatMap id ++ [.int .i64 0, .int .i64 0, .string ⟨#[]⟩, .slice none 0 0, .bool false, .string ⟨#[]⟩]) rfl HB1'.out HB2'.out HRs.out ?_; intro a8 c8 W8 hO8 hg8 hf8; obtain ⟨q0, q1, q2⟩ := HK8.out _ hg8))
     have HNew : Hid (TurnI w W4 d qb (L.take (K + 1)) [.int .i64 0] a8 c8 (rows ++ [[.int .i64 0, .int .i64 0, .string ⟨#[]⟩, .slice none 0 0, .bool false, .string ⟨#[]⟩]]) (W8.setCell ⟨qb, 0, none⟩ (.slice a8 (K + 1) c8))) := qh (by
      have h := HR7.out.step (o := noOb) (cs := [.int .i64 0, .int .i64 0, .string ⟨#[]⟩, .slice none 0 0]) HL7.out (W6 := W8) (a6 := a8) (c6 := c8) (by rw [HLj.out]; exact hO8) (by rw [HLj.out]; exact hg8) (by rw [HLj.out]; exact hf8)
      rw [HLj.out, ← HTk.out] at h
      exact h)
     go_roundw
     case rel => exact ⟨K + 1, a8, c8, _, by omega, by go_num, HNew⟩
     case measure => simp [intOf]; omega
   ·have HTk0 : Hid (L.take (K + 1) = L.take K ++ [turnOb tu (obAt l z)]) := qh (take_behind (by rw [hg, if_neg hgap]))
    have hk1 : ((K : Int) == (n1 : Int)) = false := by simp; omega
    have HK2 : Hid (((K : Int) == wrap64 (wrap64 (m12 : Int) + 1)) = false) := qh (gap_no HM.out.1 HM.out.2.1 HN1.out.1 HN1.out.2 (by have := HM.out; omega))
    obtain ⟨kb, ko, rfl, hkc0⟩ := HRa4.out K (.int .i64 z) (by rw [intsV, List.getElem?_map, hz]; rfl)
    have hkb : kb ≠ qb := HRl.out _ rfl (fun e => by rw [e] at hkA; simp at hkA)
    have hkc := HRi.out.ext.cell_some hkc0 (fun e => hkb e)
    have HKc := qh hkc
    obtain ⟨y0', hy0'⟩ : ∃ y, y = z := ⟨_, rfl⟩
    clear hz hg hgap hkA hkc0 hkb hkc
    subst hy0'
    obtain ⟨u, hu⟩ : ∃ u, u = obAt l y0' := ⟨_, rfl⟩
    have HGy := qh (HGet.out y0')
    have HUs := qh (HSz.out y0')
    rw [← hu] at HGy HTk0 HUs
    obtain ⟨st, hst⟩ : ∃ s, s = u.st := ⟨_, rfl⟩
    obtain ⟨dt, hdt⟩ : ∃ s, s = u.data := ⟨_, rfl⟩
    have HTk : Hid (L.take (K + 1) = L.take K ++ [⟨u.v.turn tu, st, dt⟩]) := qh (by rw [HTk0.out, hst, hdt]; rfl)
    unfold ObW at HGy
    rw [← hst, ← hdt] at HGy
    obtain ⟨y0, hyy⟩ : ∃ s, s = y0' := ⟨_, rfl⟩
    rw [← hyy] at HGy HKc
    have HPr := HPj
    clear hu hst hdt hyy
    go_upto_if 35 with (fail)
    rw [HK2.out]
    clear HK2 hk1
    go_upto_region 8 with (fail)
    go_cut [8, 9, 10] from 42 to 52 (fun v t1 t2 W => ∃ (vb : Nat) (us : List Value), v = .pointer (some ⟨vb, 0, none⟩) ∧ t1 = .int .i64 0 ∧ t2 = .int .i64 0 ∧ Hid (BlockIs W vb (us ++ [.bool st, .string dt]) 61) ∧ Hid (Lies w (d + 1) u.v us) ∧ Hid (wr.heap.size ≤ vb) ∧ Hid (Pure wr W))
    case first =>
     rename_i J0 K0 hJ0 hK0
     obtain ⟨wd, hwd⟩ : ∃ z, z = wr.drew := ⟨_, rfl⟩
     have hPd : Pure wr wd := by rw [hwd]; exact (Ext.refl _ wr).drew
     have HSd : Hid (wr.heap.size ≤ wd.heap.size) := qh hPd.size
     have HBdd := qh (HB0r.out.ext hPd id)
     have HKd : Hid (wd.cell? ⟨kb, ko + K, none⟩ = some (.int .i64 y0)) := qh (hPd.cell_some HKc.out id)
     have HLt : Hid (¬ wd.heap.size ≤ tb ∧ ¬ wd.heap.size ≤ kb) := qh ⟨by have := HBdd.out.lt; omega, by have := World.block_lt_of_cell? wd _ HKd.out; simp only at this; omega⟩
     have hPw : Pure wd wd := Ext.refl _ _
     refine region_start (fun b => wd.heap.size ≤ b) (by kernel_rfl) ?_
     try simp only [Act.put, sA, sZ, sS]
     rw [← hwd]
     clear hwd
     refine region_take 0 43 (v := ?vrt80) rfl rfl (by kernel_rfl) (by kernel_rfl) (by kernel_rfl) (fun _ _ _ h => h) (by rfl) (fun w' hS => ?hrt80) ?rrt80
     case hrt80 => (refine exec_loadDc (x := .tmp 2) ?_ ?_ (HBdd.out.ext hS HLt.out.1) sizeDo <;> rfl)
     try simp only [Act.put, sA, sZ, sS]
     refine region_take 2 45 (v := ?vrt82) rfl rfl (by kernel_rfl) (by kernel_rfl) (by kernel_rfl) (fun _ _ _ h => h) (by rfl) (fun w' hS => ?hrt82) ?rrt82
     case hrt82 => go_simp; with_reducible rfl
     try simp only [Act.put, sA, sZ, sS]
     refine region_take 3 46 (v := ?vrt83) rfl rfl (by kernel_rfl) (by kernel_rfl) (by kernel_rfl) (fun _ _ _ h => h) (by rfl) (fun w' hS => ?hrt83) ?rrt83
     case hrt83 => go_simp; with_reducible rfl
     try simp only [Act.put, sA, sZ, sS]
     refine region_take 4 47 (v := ?vrt84) rfl rfl (by kernel_rfl) (by kernel_rfl) (by kernel_rfl) (fun _ _ _ h => h) (by rfl) (fun w' hS => ?hrt84) ?rrt84
     case hrt84 => go_simp; with_reducible rfl
     try simp only [Act.put, sA, sZ, sS]
     refine region_take 5 48 (v := ?vrt85) rfl rfl (by kernel_rfl) (by kernel_rfl) (by kernel_rfl) (fun _ _ _ h => h) (by rfl) (fun w' hS => ?hrt85) ?rrt85
     case hrt85 => (have e : w'.cell? ⟨kb, ko + K, none⟩ = some (.int .i64 y0) := hS.cell_some HKd.out HLt.out.2; go_simp; with_reducible rfl)
     try simp only [Act.put, sA, sZ, sS]
     refine wpAnyH_ready (rs := [1, 11]) (by kernel_rfl) (by simp) (AllReadyH.cons rfl (fun K hK => ?_) (AllReadyH.cons rfl (fun K hK => ?_) (AllReadyH.nil)))
     go_simp
     refine (HOf.out wd).mono ?_
     rintro e V1 ⟨rfl, hP⟩
     have hPw := hPw.pure hP
     refine hK.out _ _ (hP.mono (fun _ _ e => e.elim)) (fun hHeld => ?_)
     clear hK K hHeld
     refine region_now (hP.mono (fun _ _ e => e.elim)) ?_
     try simp only [Act.put, sA, sZ, sS]
     refine wpAnyH_ready (rs := [6, 11]) (by kernel_rfl) (by simp) (AllReadyH.cons rfl (fun K hK => ?_) (AllReadyH.cons rfl (fun K hK => ?_) (AllReadyH.nil)))
     go_simp
     refine (HGy.out V1 (HPr.out.pure (hPd.pure hPw))).mono ?_
     rintro e V2 ⟨us, rfl, hL, hP⟩
     obtain ⟨uk, un, ust, ua, um, uc, hus⟩ := hL.form
     subst hus
     have HLf := qh hL
     have hPw := hPw.pure hP
     clear hL
     refine hK.out _ _ (hP.mono (fun _ _ e => e.elim)) (fun hHeld => ?_)
     clear hK K hHeld
     refine region_now (hP.mono (fun _ _ e => e.elim)) ?_
     try simp only [Act.put, sA, sZ, sS]
     refine region_take 7 42 (v := ?vrt8q0q07) rfl rfl (by kernel_rfl) (by kernel_rfl) (by kernel_rfl) (fun _ _ _ h => h) (by rfl) (fun w' hS => ?hrt8q0q07) ?rrt8q0q07
     case hrt8q0q07 => go_simp; with_reducible rfl
     try simp only [Act.put, sA, sZ, sS]
     refine region_take 8 50 (v := ?vrt8q0q08) rfl rfl (by kernel_rfl) (by kernel_rfl) (by kernel_rfl) (fun _ _ _ h => h) (by rfl) (fun w' hS => ?hrt8q0q08) ?rrt8q0q08
     case hrt8q0q08 => go_simp; with_reducible rfl
     try simp only [Act.put, sA, sZ, sS]
     refine region_take 9 51 (v := ?vrt8q0q09) rfl rfl (by kernel_rfl) (by kernel_rfl) (by kernel_rfl) (fun _ _ _ h => h) (by rfl) (fun w' hS => ?hrt8q0q09) ?rrt8q0q09
     case hrt8q0q09 => go_simp; with_reducible rfl
     try simp only [Act.put, sA, sZ, sS]
     refine region_take 10 52 (v := ?vrt8q0q010) rfl rfl (by kernel_rfl) (by kernel_rfl) (by kernel_rfl) (fun _ _ _ h => h) (by rfl) (fun w' hS => ?hrt8q0q010) ?rrt8q0q010
     case hrt8q0q010 => go_simp; with_reducible rfl
     try simp only [Act.put, sA, sZ, sS]
     refine wpAnyH_ready (rs := [11]) (by kernel_rfl) (by simp) (AllReadyH.cons rfl (fun K hK => ?_) AllReadyH.nil)
     go_simp
     obtain ⟨V3, hwn⟩ : ∃ z, z = V2.alloc (.cells #[.int .i64 0, .int .i64 0, .string ⟨#[]⟩, .slice none 0 0, .bool false, .string ⟨#[]⟩] 61) := ⟨_, rfl⟩
     have hP : Pure V2 V3 := by rw [hwn]; exact ext_alloc _ _
     have hBv : BlockIs V3 V2.heap.size [.int .i64 0, .int .i64 0, .string ⟨#[]⟩, .slice none 0 0, .bool false, .string ⟨#[]⟩] 61 := by rw [hwn]; exact BlockIs.new _ _ _
     rw [← hwn]
     obtain ⟨vb, hvb⟩ : ∃ z, z = V2.heap.size := ⟨_, rfl⟩
     rw [← hvb] at hBv ⊢
     have hvd : wd.heap.size ≤ vb := by rw [hvb]; exact hPw.size
     have hPw := hPw.pure hP
     clear hwn hvb
     refine hK.out _ _ (hP.mono (fun _ _ e => e.elim)) (fun hHeld => ?_)
     clear hK K hHeld
     refine region_now (hP.mono (fun _ _ e => e.elim)) ?_
     try simp only [Act.put, sA, sZ, sS]
     refine wpAnyH_ready (rs := [12]) (by kernel_rfl) (by simp) (AllReadyH.cons rfl (fun K hK => ?_) AllReadyH.nil)
     have hTh : V3.there vb 0 (#[.int .i64 uk, .int .i64 un, .string ust, .slice ua um uc, .bool st, .string dt] : Array Value).size := hBv.there 6 rfl
     have hSi : (Tryz.prog.info? 61).map (·.size) = some (#[.int .i64 uk, .int .i64 un, .string ust, .slice ua um uc, .bool st, .string dt] : Array Value).size := size43
     have hOn : (#[.int .i64 uk, .int .i64 un, .string ust, .slice ua um uc, .bool st, .string dt] : Array Value).all (fun u => u.oneCell') = true := one_obj HLf.out.one
     obtain ⟨V4, hV4⟩ : ∃ z, z = V3.setCells vb 0 [.int .i64 uk, .int .i64 un, .string ust, .slice ua um uc, .bool st, .string dt] := ⟨_, rfl⟩
     have hX : Ext (fun b => wd.heap.size ≤ b) V3 V4 := by rw [hV4]; exact Ext.setCells (S := fun b => wd.heap.size ≤ b) _ 0 _ (Ext.refl _ _) (b := vb) (fun _ => hvd)
     have HBf0 : Hid (BlockIs V4 vb ([.int .i64 uk, .int .i64 un, .string ust, .slice ua um uc] ++ [.bool st, .string dt]) 61) := qh (by rw [hV4]; exact hBv.setAll _ rfl)
     have HPf0 : Hid (Pure wr V4) := qh (hPd.pure (hPw.trans hX (fun i hi e => by omega)))
     have HVf : Hid (wr.heap.size ≤ vb) := qh (by have := HSd.out; omega)
     have HV4 : Hid (V3.setCells vb 0 (#[.int .i64 uk, .int .i64 un, .string ust, .slice ua um uc, .bool st, .string dt] : Array Value).toList = V4) := qh (by rw [hV4])
     clear hV4
     refine step_of_list ?_
     refine wpList_store_mid rfl 61 (.tmp 8) (.tmp 50) rfl vb 0 #[.int .i64 uk, .int .i64 un, .string ust, .slice ua um uc, .bool st, .string dt] rfl rfl hTh hSi hOn ?_
     rw [HV4.out]
     refine hK.out _ _ (hX) (fun hHeld => ?_)
     clear hK K hHeld
     refine region_now (hX) ?_
     try simp only [Act.put, sA, sZ, sS]
     refine region_take 13 9 (v := ?vrt8q0q013) rfl rfl (by kernel_rfl) (by kernel_rfl) (by kernel_rfl) (fun _ _ _ h => h) (by rfl) (fun w' hS => ?hrt8q0q013) ?rrt8q0q013
     case hrt8q0q013 => go_simp; with_reducible rfl
     try simp only [Act.put, sA, sZ, sS]
     refine region_take 14 10 (v := ?vrt8q0q014) rfl rfl (by kernel_rfl) (by kernel_rfl) (by kernel_rfl) (fun _ _ _ h => h) (by rfl) (fun w' hS => ?hrt8q0q014) ?rrt8q0q014
     case hrt8q0q014 => go_simp; with_reducible rfl
     try simp only [Act.put, sA, sZ, sS]
     refine wpAnyH_done (by kernel_rfl) ?_ _
     rotate_left
     go_simp
     obtain ⟨V2, hwn⟩ : ∃ z, z = V1.alloc (.cells #[.int .i64 0, .int .i64 0, .string ⟨#[]⟩, .slice none 0 0, .bool false, .string ⟨#[]⟩] 61) := ⟨_, rfl⟩
     have hP : Pure V1 V2 := by rw [hwn]; exact ext_alloc _ _
     have hBv : BlockIs V2 V1.heap.size [.int .i64 0, .int .i64 0, .string ⟨#[]⟩, .slice none 0 0, .bool false, .string ⟨#[]⟩] 61 := by rw [hwn]; exact BlockIs.new _ _ _
     rw [← hwn]
     obtain ⟨vb, hvb⟩ : ∃ z, z = V1.heap.size := ⟨_, rfl⟩
     rw [← hvb] at hBv ⊢
     have hvd : wd.heap.size ≤ vb := by rw [hvb]; exact hPw.size
     have hPw := hPw.pure hP
     clear hwn hvb
     refine hK.out _ _ (hP.mono (fun _ _ e => e.elim)) (fun hHeld => ?_)
     clear hK K hHeld
     refine region_now (hP.mono (fun _ _ e => e.elim)) ?_
     try simp only [Act.put, sA, sZ, sS]
     refine wpAnyH_ready (rs := [6]) (by kernel_rfl) (by simp) (AllReadyH.cons rfl (fun K hK => ?_) AllReadyH.nil)
     go_simp
     refine (HGy.out V2 (HPr.out.pure (hPd.pure hPw))).mono ?_
     rintro e V3 ⟨us, rfl, hL, hP⟩
     obtain ⟨uk, un, ust, ua, um, uc, hus⟩ := hL.form
     subst hus
     have HLf := qh hL
     have hBv := hBv.ext hP id
     have hPw := hPw.pure hP
     clear hL
     refine hK.out _ _ (hP.mono (fun _ _ e => e.elim)) (fun hHeld => ?_)
     clear hK K hHeld
     refine region_now (hP.mono (fun _ _ e => e.elim)) ?_
     try simp only [Act.put, sA, sZ, sS]
     refine region_take 7 42 (v := ?vrt8q0q17) rfl rfl (by kernel_rfl) (by kernel_rfl) (by kernel_rfl) (fun _ _ _ h => h) (by rfl) (fun w' hS => ?hrt8q0q17) ?rrt8q0q17
     case hrt8q0q17 => go_simp; with_reducible rfl
     try simp only [Act.put, sA, sZ, sS]
     refine region_take 8 50 (v := ?vrt8q0q18) rfl rfl (by kernel_rfl) (by kernel_rfl) (by kernel_rfl) (fun _ _ _ h => h) (by rfl) (fun w' hS => ?hrt8q0q18) ?rrt8q0q18
     case hrt8q0q18 => go_simp; with_reducible rfl
     try simp only [Act.put, sA, sZ, sS]
     refine region_take 9 51 (v := ?vrt8q0q19) rfl rfl (by kernel_rfl) (by kernel_rfl) (by kernel_rfl) (fun _ _ _ h => h) (by rfl) (fun w' hS => ?hrt8q0q19) ?rrt8q0q19
     case hrt8q0q19 => go_simp; with_reducible rfl
     try simp only [Act.put, sA, sZ, sS]
     refine region_take 10 52 (v := ?vrt8q0q110) rfl rfl (by kernel_rfl) (by kernel_rfl) (by kernel_rfl) (fun _ _ _ h => h) (by rfl) (fun w' hS => ?hrt8q0q110) ?rrt8q0q110
     case hrt8q0q110 => go_simp; with_reducible rfl
     try simp only [Act.put, sA, sZ, sS]
     refine wpAnyH_ready (rs := [12]) (by kernel_rfl) (by simp) (AllReadyH.cons rfl (fun K hK => ?_) AllReadyH.nil)
     have hTh : V3.there vb 0 (#[.int .i64 uk, .int .i64 un, .string ust, .slice ua um uc, .bool st, .string dt] : Array Value).size := hBv.there 6 rfl
     have hSi : (Tryz.prog.info? 61).map (·.size) = some (#[.int .i64 uk, .int .i64 un, .string ust, .slice ua um uc, .bool st, .string dt] : Array Value).size := size43
     have hOn : (#[.int .i64 uk, .int .i64 un, .string ust, .slice ua um uc, .bool st, .string dt] : Array Value).all (fun u => u.oneCell') = true := one_obj HLf.out.one
     obtain ⟨V4, hV4⟩ : ∃ z, z = V3.setCells vb 0 [.int .i64 uk, .int .i64 un, .string ust, .slice ua um uc, .bool st, .string dt] := ⟨_, rfl⟩
     have hX : Ext (fun b => wd.heap.size ≤ b) V3 V4 := by rw [hV4]; exact Ext.setCells (S := fun b => wd.heap.size ≤ b) _ 0 _ (Ext.refl _ _) (b := vb) (fun _ => hvd)
     have HBf0 : Hid (BlockIs V4 vb ([.int .i64 uk, .int .i64 un, .string ust, .slice ua um uc] ++ [.bool st, .string dt]) 61) := qh (by rw [hV4]; exact hBv.setAll _ rfl)
     have HPf0 : Hid (Pure wr V4) := qh (hPd.pure (hPw.trans hX (fun i hi e => by omega)))
     have HVf : Hid (wr.heap.size ≤ vb) := qh (by have := HSd.out; omega)
     have HV4 : Hid (V3.setCells vb 0 (#[.int .i64 uk, .int .i64 un, .string ust, .slice ua um uc, .bool st, .string dt] : Array Value).toList = V4) := qh (by rw [hV4])
     clear hV4
     refine step_of_list ?_
     refine wpList_store_mid rfl 61 (.tmp 8) (.tmp 50) rfl vb 0 #[.int .i64 uk, .int .i64 un, .string ust, .slice ua um uc, .bool st, .string dt] rfl rfl hTh hSi hOn ?_
     rw [HV4.out]
     refine hK.out _ _ (hX) (fun hHeld => ?_)
     clear hK K hHeld
     refine region_now (hX) ?_
     try simp only [Act.put, sA, sZ, sS]
     refine region_take 13 9 (v := ?vrt8q0q113) rfl rfl (by kernel_rfl) (by kernel_rfl) (by kernel_rfl) (fun _ _ _ h => h) (by rfl) (fun w' hS => ?hrt8q0q113) ?rrt8q0q113
     case hrt8q0q113 => go_simp; with_reducible rfl
     try simp only [Act.put, sA, sZ, sS]
     refine region_take 14 10 (v := ?vrt8q0q114) rfl rfl (by kernel_rfl) (by kernel_rfl) (by kernel_rfl) (fun _ _ _ h => h) (by rfl) (fun w' hS => ?hrt8q0q114) ?rrt8q0q114
     case hrt8q0q114 => go_simp; with_reducible rfl
     try simp only [Act.put, sA, sZ, sS]
     refine wpAnyH_done (by kernel_rfl) ?_ _
     rotate_left
     go_simp
     obtain ⟨V1, hwn⟩ : ∃ z, z = wd.alloc (.cells #[.int .i64 0, .int .i64 0, .string ⟨#[]⟩, .slice none 0 0, .bool false, .string ⟨#[]⟩] 61) := ⟨_, rfl⟩
     have hP : Pure wd V1 := by rw [hwn]; exact ext_alloc _ _
     have hBv : BlockIs V1 wd.heap.size [.int .i64 0, .int .i64 0, .string ⟨#[]⟩, .slice none 0 0, .bool false, .string ⟨#[]⟩] 61 := by rw [hwn]; exact BlockIs.new _ _ _
     rw [← hwn]
     obtain ⟨vb, hvb⟩ : ∃ z, z = wd.heap.size := ⟨_, rfl⟩
     rw [← hvb] at hBv ⊢
     have hvd : wd.heap.size ≤ vb := by rw [hvb]; exact hPw.size
     have hPw := hPw.pure hP
     clear hwn hvb
     refine hK.out _ _ (hP.mono (fun _ _ e => e.elim)) (fun hHeld => ?_)
     clear hK K hHeld
     refine region_now (hP.mono (fun _ _ e => e.elim)) ?_
     try simp only [Act.put, sA, sZ, sS]
     refine wpAnyH_ready (rs := [1]) (by kernel_rfl) (by simp) (AllReadyH.cons rfl (fun K hK => ?_) AllReadyH.nil)
     go_simp
     refine (HOf.out V1).mono ?_
     rintro e V2 ⟨rfl, hP⟩
     have hBv := hBv.ext hP id
     have hPw := hPw.pure hP
     refine hK.out _ _ (hP.mono (fun _ _ e => e.elim)) (fun hHeld => ?_)
     clear hK K hHeld
     refine region_now (hP.mono (fun _ _ e => e.elim)) ?_
     try simp only [Act.put, sA, sZ, sS]
     refine wpAnyH_ready (rs := [6]) (by kernel_rfl) (by simp) (AllReadyH.cons rfl (fun K hK => ?_) AllReadyH.nil)
     go_simp
     refine (HGy.out V2 (HPr.out.pure (hPd.pure hPw))).mono ?_
     rintro e V3 ⟨us, rfl, hL, hP⟩
     obtain ⟨uk, un, ust, ua, um, uc, hus⟩ := hL.form
     subst hus
     have HLf := qh hL
     have hBv := hBv.ext hP id
     have hPw := hPw.pure hP
     clear hL
     refine hK.out _ _ (hP.mono (fun _ _ e => e.elim)) (fun hHeld => ?_)
     clear hK K hHeld
     refine region_now (hP.mono (fun _ _ e => e.elim)) ?_
     try simp only [Act.put, sA, sZ, sS]
     refine region_take 7 42 (v := ?vrt8q17) rfl rfl (by kernel_rfl) (by kernel_rfl) (by kernel_rfl) (fun _ _ _ h => h) (by rfl) (fun w' hS => ?hrt8q17) ?rrt8q17
     case hrt8q17 => go_simp; with_reducible rfl
     try simp only [Act.put, sA, sZ, sS]
     refine region_take 8 50 (v := ?vrt8q18) rfl rfl (by kernel_rfl) (by kernel_rfl) (by kernel_rfl) (fun _ _ _ h => h) (by rfl) (fun w' hS => ?hrt8q18) ?rrt8q18
     case hrt8q18 => go_simp; with_reducible rfl
     try simp only [Act.put, sA, sZ, sS]
     refine region_take 9 51 (v := ?vrt8q19) rfl rfl (by kernel_rfl) (by kernel_rfl) (by kernel_rfl) (fun _ _ _ h => h) (by rfl) (fun w' hS => ?hrt8q19) ?rrt8q19
     case hrt8q19 => go_simp; with_reducible rfl
     try simp only [Act.put, sA, sZ, sS]
     refine region_take 10 52 (v := ?vrt8q110) rfl rfl (by kernel_rfl) (by kernel_rfl) (by kernel_rfl) (fun _ _ _ h => h) (by rfl) (fun w' hS => ?hrt8q110) ?rrt8q110
     case hrt8q110 => go_simp; with_reducible rfl
     try simp only [Act.put, sA, sZ, sS]
     refine wpAnyH_ready (rs := [12]) (by kernel_rfl) (by simp) (AllReadyH.cons rfl (fun K hK => ?_) AllReadyH.nil)
     have hTh : V3.there vb 0 (#[.int .i64 uk, .int .i64 un, .string ust, .slice ua um uc, .bool st, .string dt] : Array Value).size := hBv.there 6 rfl
     have hSi : (Tryz.prog.info? 61).map (·.size) = some (#[.int .i64 uk, .int .i64 un, .string ust, .slice ua um uc, .bool st, .string dt] : Array Value).size := size43
     have hOn : (#[.int .i64 uk, .int .i64 un, .string ust, .slice ua um uc, .bool st, .string dt] : Array Value).all (fun u => u.oneCell') = true := one_obj HLf.out.one
     obtain ⟨V4, hV4⟩ : ∃ z, z = V3.setCells vb 0 [.int .i64 uk, .int .i64 un, .string ust, .slice ua um uc, .bool st, .string dt] := ⟨_, rfl⟩
     have hX : Ext (fun b => wd.heap.size ≤ b) V3 V4 := by rw [hV4]; exact Ext.setCells (S := fun b => wd.heap.size ≤ b) _ 0 _ (Ext.refl _ _) (b := vb) (fun _ => hvd)
     have HBf0 : Hid (BlockIs V4 vb ([.int .i64 uk, .int .i64 un, .string ust, .slice ua um uc] ++ [.bool st, .string dt]) 61) := qh (by rw [hV4]; exact hBv.setAll _ rfl)
     have HPf0 : Hid (Pure wr V4) := qh (hPd.pure (hPw.trans hX (fun i hi e => by omega)))
     have HVf : Hid (wr.heap.size ≤ vb) := qh (by have := HSd.out; omega)
     have HV4 : Hid (V3.setCells vb 0 (#[.int .i64 uk, .int .i64 un, .string ust, .slice ua um uc, .bool st, .string dt] : Array Value).toList = V4) := qh (by rw [hV4])
     clear hV4
     refine step_of_list ?_
     refine wpList_store_mid rfl 61 (.tmp 8) (.tmp 50) rfl vb 0 #[.int .i64 uk, .int .i64 un, .string ust, .slice ua um uc, .bool st, .string dt] rfl rfl hTh hSi hOn ?_
     rw [HV4.out]
     refine hK.out _ _ (hX) (fun hHeld => ?_)
     clear hK K hHeld
     refine region_now (hX) ?_
     try simp only [Act.put, sA, sZ, sS]
     refine region_take 13 9 (v := ?vrt8q113) rfl rfl (by kernel_rfl) (by kernel_rfl) (by kernel_rfl) (fun _ _ _ h => h) (by rfl) (fun w' hS => ?hrt8q113) ?rrt8q113
     case hrt8q113 => go_simp; with_reducible rfl
     try simp only [Act.put, sA, sZ, sS]
     refine region_take 14 10 (v := ?vrt8q114) rfl rfl (by kernel_rfl) (by kernel_rfl) (by kernel_rfl) (fun _ _ _ h => h) (by rfl) (fun w' hS => ?hrt8q114) ?rrt8q114
     case hrt8q114 => go_simp; with_reducible rfl
     try simp only [Act.put, sA, sZ, sS]
     refine wpAnyH_done (by kernel_rfl) ?_ _
     rotate_left
     all_goals
      go_simp
      try simp only [Act.put, sA, sZ, sS]
      refine hK0 _ _ ?_
      go_meet
      exact ⟨_, _, rfl, rfl, rfl, HBf0, HLf, HVf, HPf0⟩
    case rest =>
     obtain ⟨vb, us, rfl, rfl, rfl, HBx, HLx, HVb, HPv⟩ := hcut
     obtain ⟨Wt, rfl⟩ : ∃ z : World, z = wc := ⟨_, rfl⟩
     obtain ⟨k1, n1', s1, a1', m1, c1', hus⟩ := HLx.out.form
     subst hus
     have HBx : Hid (BlockIs Wt vb [.int .i64 k1, .int .i64 n1', .string s1, .slice a1' m1 c1', .bool st, .string dt] 61) := HBx
     have g0 : Wt.cell? ⟨vb, 0, none⟩ = some (.int .i64 k1) := HBx.out.cell 0
     have g1 : Wt.cell? ⟨vb, 1, none⟩ = some (.int .i64 n1') := HBx.out.cell 1
     have g2 : Wt.cell? ⟨vb, 2, none⟩ = some (.string s1) := HBx.out.cell 2
     have g3 : Wt.cell? ⟨vb, 3, none⟩ = some (.slice a1' m1 c1') := HBx.out.cell 3
     have hvl := HBx.out.lt
     have hBo := HB1r.out.ext HPv.out id
     have h0 : Wt.cell? ⟨tb + 1, 0, none⟩ = some (.slice a0 n0 c0) := hBo.cell 0
     have hol := hBo.lt
     have hC := refmap_any w tu a0 c0 HTo.out (by have := HTl.out; omega) (d + 1) u.v _ Wt HLx.out (HPj.out.pure HPv.out) HUs.out
     rw [HTl.out.1] at hC
     have HC := qh hC
     clear hC hBo y1 y2 hyl
     go_wp2_with fail
     refine HC.out.mono ?_
     rintro e W5 ⟨cs5, rfl, hL5, hP5⟩
     obtain ⟨k5, n5, s5, a5, m5, c5, rfl⟩ := hL5.lies.form
     have hB5 := HBx.out.ext hP5 id
     obtain ⟨W6, hW6⟩ : ∃ z, z = W5.setCells vb 0 [.int .i64 k5, .int .i64 n5, .string s5, .slice a5 m5 c5] := ⟨_, rfl⟩
     have HW6 : Hid (W5.setCells vb 0 (#[.int .i64 k5, .int .i64 n5, .string s5, .slice a5 m5 c5] : Array Value).toList = W6) := qh (by rw [hW6])
     have hX6 : Ext (fun b => b = vb) W5 W6 := by rw [hW6]; exact Ext.setCells (S := fun b => b = vb) _ _ _ (Ext.refl _ _) (fun _ => rfl)
     have hB6 : BlockIs W6 vb [.int .i64 k5, .int .i64 n5, .string s5, .slice a5 m5 c5, .bool st, .string dt] 61 := by rw [hW6]; exact BlockIs.setMid (post := [.bool st, .string dt]) [.int .i64 k5, .int .i64 n5, .string s5, .slice a5 m5 c5] [] [.int .i64 k1, .int .i64 n1', .string s1, .slice a1' m1 c1'] W5 hB5 rfl
     have hb1 := HVb.out
     have hb2 := HPv.out.size
     have hb3 := HRi.out.ext.size
     have hb4 := HPj.out.size
     have hb5 := HRi.out.lo
     have hb6 := HBx.out.lt
     have hPo : Pure wr W6 := (HPv.out.pure hP5).trans hX6 (fun i hi e => by have e2 : i = vb := e; omega)
     have hL6 : LiesIn (fun b => b < w.heap.size ∨ (W4.heap.size ≤ b ∧ ∀ x, ao = some x → x.block ≠ b)) W6 (d + 1) (u.v.turn tu) [.int .i64 k5, .int .i64 n5, .string s5, .slice a5 m5 c5] := (hL5.ext hX6 (fun b hb e => by have e2 : b = vb := e; omega)).mono (fun b hb h => by
      by_cases hbw : b < w.heap.size
      ·exact Or.inl hbw
      ·refine Or.inr ⟨by omega, fun x hx e => ?_⟩
       have := (HRi.out.row.lt x.block (by rw [hx]; rfl)).2
       omega)
     have z0 : W6.cell? ⟨vb, 0, none⟩ = some (.int .i64 k5) := hB6.cell 0
     have z1 : W6.cell? ⟨vb, 1, none⟩ = some (.int .i64 n5) := hB6.cell 1
     have z2 : W6.cell? ⟨vb, 2, none⟩ = some (.string s5) := hB6.cell 2
     have z3 : W6.cell? ⟨vb, 3, none⟩ = some (.slice a5 m5 c5) := hB6.cell 3
     have z4 : W6.cell? ⟨vb, 4, none⟩ = some (.bool st) := hB6.cell 4
     have z5 : W6.cell? ⟨vb, 5, none⟩ = some (.string dt) := hB6.cell 5
     have hbl6 := hB6.lt
     have HTh : Hid (W5.there vb 0 (#[.int .i64 k5, .int .i64 n5, .string s5, .slice a5 m5 c5] : Array Value).size) := qh (fun j hj => hB5.there 6 rfl j (by have : j < 4 := hj; omega))
     have HSi : Hid ((Tryz.prog.info? 48).map (·.size) = some (#[.int .i64 k5, .int .i64 n5, .string s5, .slice a5 m5 c5] : Array Value).size) := qh size24
     have HOn : Hid (((#[.int .i64 k5, .int .i64 n5, .string s5, .slice a5 m5 c5] : Array Value).all fun u => u.oneCell') = true) := qh hL5.lies.one
     clear hL5 hP5 hB5 hW6 hX6 hB6 hb1 hb2 hb3 hb4 hb5 hb6 g0 g1 g2 g3 hvl h0 hol HC
     obtain ⟨W7, hW7⟩ : ∃ z, z = W6.alloc (.cells #[.int .i64 k5, .int .i64 n5, .string s5, .slice a5 m5 c5, .bool st, .string dt] 61) := ⟨_, rfl⟩
     have HW7 : Hid (W6.alloc (.cells #[.int .i64 k5, .int .i64 n5, .string s5, .slice a5 m5 c5, .bool st, .string dt] 61) = W7) := qh hW7.symm
     have hP7 : Pure W6 W7 := by rw [hW7]; exact ext_alloc _ _
     have hR7 := HRi.out.pure (hPo.pure hP7)
     have HR7 := qh hR7
     have HL7 := qh (LiesIn.pure hP7 hL6)
     have p0 : W6.cell? ⟨qb, 0, none⟩ = some (.slice ao K co) := by have := (HRi.out.pure hPo).blk.cell 0; rw [HLj.out] at this; exact this
     have HO7 : Hid (W7.ownsRow W4.heap.size 61 6 (.slice ao K co) K (rows.flatMap id)) := qh (by have h := hR7.row; rw [HLj.out] at h; exact h)
     have HRw : Hid (RowOf W7 (some ⟨W6.heap.size, 0, none⟩) [.int .i64 k5, .int .i64 n5, .string s5, .slice a5 m5 c5, .bool st, .string dt]) := qh (fun i u hu => ⟨W6.heap.size, 0, rfl, by rw [hW7, (BlockIs.new W6 [.int .i64 k5, .int .i64 n5, .string s5, .slice a5 m5 c5, .bool st, .string dt] 61).cell, Nat.zero_add]; exact hu⟩)
     have HOne : Hid (∀ u ∈ ([.int .i64 k5, .int .i64 n5, .string s5, .slice a5 m5 c5, .bool st, .string dt] : List Value), u.oneCell' = true) := qh (by intro u hu; simp only [List.mem_cons, List.not_mem_nil, or_false] at hu; rcases hu with rfl | rfl | rfl | rfl | rfl | rfl <;> rfl)
     have HB1' : Hid ((K + 1) * 80 ≤ 140737488355328) := qh (by omega)
     have HB2' : Hid (K + 1 ≤ maxLen) := qh (by unfold maxLen; omega)
     have HRs : Hid (W4.heap.size ≤ W7.heap.size) := qh (by have := hPo.size; have := hP7.size; have := HRi.out.ext.size; omega)
     have HK8 : Hid (∀ W8, W7.grownBy W8 (Value.slice ao K co).ownBlock → W8.cell? ⟨qb, 0, none⟩ = some (.slice ao K co) ∧ W8.frozen? ⟨qb, 0, none⟩ = false ∧ qb < W8.heap.size) := qh (fun W8 hg => by
      have hb := hR7.blk.ext (ext_of_grown hg) (fun e => by have := (HO7.out.lt qb e).1; have := HRi.out.lo; omega)
      have h0 := hb.cell 0
      rw [HLj.out] at h0
      exact ⟨h0, hb.free 0, hb.lt⟩)
     clear hW7 hP7 hR7 hPo
     go_wp2_with (first
      | (with_reducible refine at_store 48 (.tmp 58) (.tmp 57) ?_; refine wpList_store_mid rfl 48 (.tmp 58) (.tmp 57) rfl vb 0 #[.int .i64 k5, .int .i64 n5, .string s5, .slice a5 m5 c5] rfl rfl HTh.out HSi.out HOn.out ?_; rw [HW6.out])
      | (at_builtin; rw [HW7.out]; refine wpList_append_fresh rfl (.tmp 60) (.tmp 62) 22 rfl W4.heap.size 61 (.agg #[.int .i64 0, .int .i64 0, .string ⟨#[]⟩, .slice none 0 0, .bool false, .string ⟨#[]⟩]) 6 80 Tryz.underlying22 infoO rfl (by decide) (.slice ao K co) K (rows.flatMap id) rfl HO7.out (some ⟨W6.heap.size, 0, none⟩) 1 1 [.int .i64 k5, .int .i64 n5, .string s5, .slice a5 m5 c5, .bool st, .string dt] rfl (fun e => by cases e) rfl HRw.out HOne.out (K + 1) rfl (rows.flatMap id ++ [.int .i64 k5, .int .i64 n5, .string s5, .slice a5 m5 c5, .bool st, .string dt]) rfl HB1'.out HB2'.out HRs.out ?_; intro a8 c8 W8 hO8 hg8 hf8; obtain ⟨q0, q1, q2⟩ := HK8.out _ hg8))
     have HNew : Hid (TurnI w W4 d qb (L.take (K + 1)) [.int .i64 0] a8 c8 (rows ++ [[.int .i64 k5, .int .i64 n5, .string s5, .slice a5 m5 c5, .bool st, .string dt]]) (W8.setCell ⟨qb, 0, none⟩ (.slice a8 (K + 1) c8))) := qh (by
      have h := HR7.out.step (o := ⟨u.v.turn tu, st, dt⟩) (cs := [.int .i64 k5, .int .i64 n5, .string s5, .slice a5 m5 c5]) HL7.out (W6 := W8) (a6 := a8) (c6 := c8) (by rw [HLj.out]; exact hO8) (by rw [HLj.out]; exact hg8) (by rw [HLj.out]; exact hf8)
      rw [HLj.out, ← HTk.out] at h
      exact h)
     go_roundw
     case rel => exact ⟨K + 1, a8, c8, _, by omega, by go_num, HNew⟩
     case measure => simp [intOf]; omega
  ·have hki : ¬ (K : Int) < (n : Int) := by omega
   obtain rfl : K = n := by omega
   have HRz : Hid (TurnI w W4 d qb L [.int .i64 0] ao co rows wr) := qh (by
    have h := HRi.out
    rwa [List.take_of_length_le (by have := HN.out.2; omega)] at h)
   have hLn := HN.out.2
   have hw2 : wrap64 (r2 : Int) = (r2 : Int) := by have := HN1.out; have := HM.out; unfold wrap64; omega
   obtain ⟨W5, hW5⟩ : ∃ z, z = wr.setCell ⟨qb, 1, none⟩ (.int .i64 (r2 : Int)) := ⟨_, rfl⟩
   have HW5 : Hid (wr.setCell ⟨qb, 1, none⟩ (.int .i64 (r2 : Int)) = W5) := qh hW5.symm
   have hbq := HRz.out.blk
   rw [hLn] at hbq
   have c1q : wr.cell? ⟨qb, 1, none⟩ = some (.int .i64 0) := hbq.cell 1
   have f1q : wr.frozen? ⟨qb, 1, none⟩ = false := hbq.free 1
   have hql := hbq.lt
   have hb5 : BlockIs W5 qb [.slice ao K co, .int .i64 (r2 : Int)] 24 := by rw [hW5]; exact hbq.set 1 (.int .i64 (r2 : Int))
   have hX5 : Ext (fun b => b = qb) wr W5 := by rw [hW5]; exact Ext.setCell (S := fun b => b = qb) (Ext.refl _ _) (p := ⟨qb, 1, none⟩) (fun _ => rfl) _
   have z0 : W5.cell? ⟨qb, 0, none⟩ = some (.slice ao K co) := hb5.cell 0
   have z1 : W5.cell? ⟨qb, 1, none⟩ = some (.int .i64 (r2 : Int)) := hb5.cell 1
   have hq5 := hb5.lt
   have hE5 := HRz.out.ext.trans hX5 (fun _ _ e => e)
   have hB25 := HB24.out.ext hE5 (fun e => by have := HQl.out; have e2 : tb + 2 = qb := e; omega)
   have HTh : Hid (W5.there (tb + 2) 0 (#[Value.slice ao K co, .int .i64 (r2 : Int)] : Array Value).size) := qh (hB25.there 2 rfl)
   have HSi : Hid ((Tryz.prog.info? 24).map (·.size) = some (#[Value.slice ao K co, .int .i64 (r2 : Int)] : Array Value).size) := qh sizeDo
   have HOn := qh (one_do ao K co (r2 : Int))
   have HBz := qh (hB25.setAll [.slice ao K co, .int .i64 (r2 : Int)] rfl)
   have HX5 := qh hX5
   clear hLn hW5 hbq hb5 hX5 hE5 hB25
   go_upto_region 12 with (fail)
   rw [HW5.out]
   go_wp2_with (with_reducible refine at_store 24 (.tmp 4) (.tmp 70) ?_; refine wpList_store_mid rfl 24 (.tmp 4) (.tmp 70) rfl (tb + 2) 0 #[.slice ao K co, .int .i64 (r2 : Int)] rfl rfl HTh.out HSi.out HOn.out ?_)
   refine bodyPost_ret (results_row1 rfl _ _ (tb + 2) _ [.slice ao K co, .int .i64 (r2 : Int)] _ rfl HBz.out Tryz.underlying24 rfl sizeDo) rfl ?_
   have hXs : Ext (fun b => b = tb + 2) W5 (W5.setCells (tb + 2) 0 [.slice ao K co, .int .i64 (r2 : Int)]) := Ext.setCells (S := fun b => b = tb + 2) _ 0 _ (Ext.refl _ _) (fun _ => rfl)
   have hE : Ext (fun b => b = qb ∨ b = tb + 2) wr (W5.setCells (tb + 2) 0 [.slice ao K co, .int .i64 (r2 : Int)]) := (HX5.out.mono (fun _ _ e => Or.inl e)).trans (hXs.mono (fun _ _ e => Or.inr e)) (fun _ _ e => e)
   have hq := HQl.out
   have htb := HTb.out
   have hlo := HRz.out.lo
   have hob := HRz.out.obs.ext hE (fun b hb e => by rcases e with e | e <;> rcases hb with hb | hb <;> omega)
   refine ⟨ao, K, co, rows, rfl, by have := HN.out.2; omega, ⟨hob.len, hob.six, own_row (own_ext HRz.out.row hE (fun g hg e => by have := (HRz.out.row.lt g hg).1; rcases e with e | e <;> omega)), fun i o r ho hr => ?_⟩, HPj.out.trans hE (fun i hi e => by rcases e with e | e <;> omega)⟩
   obtain ⟨cs, h1, h2⟩ := hob.lies i o r ho hr
   exact ⟨cs, h1, h2.lies⟩
