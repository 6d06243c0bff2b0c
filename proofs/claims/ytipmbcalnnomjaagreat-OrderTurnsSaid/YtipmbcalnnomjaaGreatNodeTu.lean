import Derived.Test.YtipmbcalnnomjaaGreatGetTu
import Derived.Test.YtipmbcalnnomjaaGreatObjsETu
import Derived.Test.YtipmbcalnnomjaaGreatDocOkTu
import Derived.Test.YtipmbcalnnomjaaGreatRegListTu
import Derived.Test.YtipmbcalnnomjaaGreatSqTu
set_option linter.unusedVariables false
set_option linter.unusedSimpArgs false
set_option maxRecDepth 100000
namespace Go.Proofs.YtipmbcalnnomjaaGreat
open Go.RowKit
def GetW (w0 : World) (F : V × Bool) (d : Nat) (w : World) (e : Ending) (w' : World) : Prop :=
 ∃ cs, e = .returned (.tuple #[.agg cs.toArray, .bool F.2]) ∧ Lies w0 (d + 1) F.1 cs ∧ Pure w w'
set_option maxHeartbeats 1000000 in
theorem getw_any (d : Nat) (v : V) (cs : List Value) (key : ByteArray) (w0 w : World) (hP0 : Pure w0 w) (h : Lies w0 (d + 1) v cs) (hl : v.l.length ≤ 1000000) :
 Calls Tryz.prog 95 #[.agg cs.toArray, .string key] w (GetW w0 (v.get key) d w) := by
 have h4 := h.len
 have HF := qh (fun W (hP : Pure w W) => find_any d v cs key W ((h.pure hP0).pure hP) hl)
 obtain ⟨w1, hw1⟩ : ∃ w1, w1 = w.alloc (.cells cs.toArray 48) := ⟨_, rfl⟩
 have hB1 : BlockIs w1 w.heap.size cs 48 := hw1 ▸ BlockIs.new w _ _
 have hP1 : Pure w w1 := hw1 ▸ ext_alloc w _
 obtain ⟨tb, htb⟩ : ∃ tb, tb = w.heap.size := ⟨_, rfl⟩
 have hs1 : w1.heap.size = tb + 1 := by rw [hw1, World.size_alloc, htb]
 have htw : w.heap.size ≤ tb := by omega
 rw [← htb] at hB1
 obtain ⟨w2, hw2⟩ : ∃ w2, w2 = w1.alloc (.cells zeroCs.toArray 48) := ⟨_, rfl⟩
 have hB1' : BlockIs w2 tb cs 48 := hw2 ▸ hB1.alloc _
 have hB2 : BlockIs w2 (tb + 1) zeroCs 48 := by rw [← hs1, hw2]; exact BlockIs.new w1 _ _
 have hP2 : Pure w w2 := hP1.pure (hw2 ▸ ext_alloc w1 _)
 have hR := hB1'.range
 have HW1 := qh hw1
 have HW2 := qh (show w2 = w1.alloc (.cells #[.int .i64 0, .int .i64 0, .string ⟨#[]⟩, .slice none 0 0] 48) from hw2)
 have HTb := qh htb
 have HS1 := qh hs1
 have HTw := qh htw
 have HL := qh h
 have HP0 := qh hP0
 have HCs := qh (show cs.length = 4 from h4)
 clear hw1 htb hw2 hs1 h htw hP0
 obtain ⟨F, hF⟩ : ∃ F, F = v.get key := ⟨_, rfl⟩
 rw [← hF]
 unfold V.get at hF
 have hlt := fun i => find_lt (v := v) (key := key) (i := i)
 obtain ⟨p, hp⟩ : ∃ p, p = v.find key := ⟨_, rfl⟩
 rw [← hp] at hF hlt HF
 have HFF := qh hF
 have HLt := qh hlt
 clear hF hp hlt
 obtain ⟨a, c, rows, hcs0, hlc, hcm, hnil, hK, hs⟩ := HL.out.kids
 have hcs := qh hcs0
 clear hcs0
 go_enter Tryz.func95, Tryz.ntmps95
 go_wp2_with (refine wpList_load_mid rfl 48 (.tmp 2) rfl tb 0 (by rw [HTb.out]; rfl) cs _ (by rw [← HW1.out, ← HW2.out]; exact hR) Tryz.underlying48 rfl (by rw [HCs.out]; kernel_rfl) ?_)
 rw [← HW1.out, ← HTb.out, ← HW2.out]
 refine (HF.out w2 hP2).mono ?_
 rintro e w3 ⟨rfl, hP3⟩
 have hB23 := hB2.ext hP3 id
 have hB13 := hB1'.ext hP3 id
 have hP03 := hP2.pure hP3
 have HTh := qh (hB23.there 4 rfl)
 clear HF hR hB1 hB2 hB1'
 cases p with
 | none =>
   have HFN : Hid (F = (nullV, false)) := qh HFF.out
   have hB3 := hB23.setAll zeroCs rfl
   have hP4 := Ext.setCells zeroCs 0 w3 hP03 (b := tb + 1) (fun h => by have := HTw.out; omega)
   have HB3 := qh hB3
   have HP4 := qh hP4
   clear hB3 hP4 hB23 hB13 hP03
   go_wp2_with (refine wpList_store_mid rfl 48 (.tmp 4) (.tmp 13) rfl (tb + 1) 0 zeroCs.toArray rfl rfl HTh.out size24 one_zero ?_; try simp only [List.toArray_toList])
   refine bodyPost_ret (results_row2 rfl _ _ (tb + 1) _ zeroCs _ rfl HB3.out Tryz.underlying48 rfl size24) rfl ?_
   exact ⟨zeroCs, by rw [HFN.out]; rfl, by rw [HFN.out]; exact lies_null _ _, HP4.out⟩
 | some i =>
   have HFN : Hid (F = (v.l[i + 1]?.getD nullV, true)) := qh HFF.out
   have hi := HLt.out i rfl
   obtain rfl := hcs.out
   have c3 : w3.cell? ⟨tb, 3, none⟩ = some (.slice a v.l.length c) := hB13.cell 3
   obtain ⟨l, hll⟩ : ∃ l, l = v.l := ⟨_, rfl⟩
   rw [← hll] at hi hl HFN hK c3
   obtain ⟨n, hn⟩ : ∃ n, n = l.length := ⟨_, rfl⟩
   rw [← hn] at hi hl c3
   have HN := qh hn
   have HFF2 := qh HFN.out
   by_cases he : i + 1 = n
   ·have HF3 : Hid (F = (nullV, true)) := qh (by rw [HFN.out, List.getElem?_eq_none (by rw [← HN.out]; omega)]; rfl)
    have hie : (i : Int) + 1 = (n : Int) := by omega
    have hB3 := hB23.setAll zeroCs rfl
    have hP4 := Ext.setCells zeroCs 0 w3 hP03 (b := tb + 1) (fun h => by have := HTw.out; omega)
    have HB3 := qh hB3
    have HP4 := qh hP4
    clear hB3 hP4 hB23 hB13 hP03 hll hn HFN HFF2 HFF he
    simp only [optI]
    go_wp2_with (refine wpList_store_mid rfl 48 (.tmp 4) (.tmp 21) rfl (tb + 1) 0 zeroCs.toArray rfl rfl HTh.out size24 one_zero ?_; try simp only [List.toArray_toList])
    refine bodyPost_ret (results_row2 rfl _ _ (tb + 1) _ zeroCs _ rfl HB3.out Tryz.underlying48 rfl size24) rfl ?_
    exact ⟨zeroCs, by rw [HF3.out]; rfl, by rw [HF3.out]; exact lies_null _ _, HP4.out⟩
   ·obtain ⟨u, hu⟩ : ∃ u, l[i + 1]? = some u := ⟨_, List.getElem?_eq_getElem (by rw [← HN.out]; omega)⟩
    have HF3 : Hid (F = (u, true)) := qh (by rw [HFN.out, hu]; rfl)
    obtain ⟨b, o, r, rfl, hr0, hr4, hL0⟩ := hK.at (i + 1) u hu
    have hr : w3.rangeAt b (o + (i + 1) * 4) r := fun j v hv => (HP0.out.pure hP03).cell_some (hr0 j v hv) id
    have hL := hL0.pure (HP0.out.pure hP03)
    have HL0 := qh hL0
    have hie : ¬ (i : Int) + 1 = (n : Int) := by omega
    have hie2 : (i : Int) + 1 < (n : Int) := by omega
    have hone := hL.one
    have hP4 := Ext.setCells r 0 w3 hP03 (b := tb + 1) (fun h => by have := HTw.out; omega)
    have hP34 := Ext.setCells r 0 w3 (Ext.refl (fun k => k = tb + 1) w3) (b := tb + 1) (fun h => rfl)
    have hB3 := hB23.setAll r (by rw [hr4]; rfl)
    have hLL := hK
    have HB3 := qh hB3
    have HP4 := qh hP4
    have HOne := qh hone
    have HR4 := qh hr4
    have HSi : Hid ((Tryz.prog.info? 48).map (·.size) = some r.toArray.size) := qh (by rw [List.size_toArray, hr4]; exact size24)
    have HTh' : Hid (w3.there (tb + 1) 0 r.toArray.size) := qh (by rw [List.size_toArray, hr4]; exact HTh.out)
    have HKid := qh hK
    have HU := qh hu
    have hr' : w3.rangeAt b (o + (i + 1) * 4) r := hr
    clear hB3 hP4 hB23 hB13 hll hn HFN HFF2 HFF he hone hr4 hL hL0 hr0 hu hr hK hLL
    simp only [optI]
    go_wp2_with (first
     | (refine wpList_load_mid rfl 48 (.tmp 26) rfl b (o + (i + 1) * 4) rfl r _ hr' Tryz.underlying48 rfl (by rw [HR4.out]; kernel_rfl) ?_)
     | (refine wpList_store_mid rfl 48 (.tmp 4) (.tmp 27) rfl (tb + 1) 0 r.toArray rfl rfl HTh'.out HSi.out HOne.out ?_; try simp only [List.toArray_toList]))
    refine bodyPost_ret (results_row2 rfl _ _ (tb + 1) _ r _ rfl HB3.out Tryz.underlying48 rfl (by rw [HR4.out]; exact size24)) rfl ?_
    refine ⟨r, by rw [HF3.out]; rfl, ?_, HP4.out⟩
    rw [HF3.out]
    exact HL0.out.more
theorem k_kids : (⟨#[75, 105, 100, 115]⟩ : ByteArray) = "Kids".toUTF8 := by decide +kernel
theorem k_count : (⟨#[67, 111, 117, 110, 116]⟩ : ByteArray) = "Count".toUTF8 := by decide +kernel
theorem size105 : (Tryz.prog.info? 101).map (·.size) = some 7 := by kernel_rfl
theorem one7 (n k x : Int) (s : ByteArray) (a : Option Addr) (m c : Nat) (b : Option Addr) (q r : Nat) (y : Int) : ((#[Value.int .i64 n, .int .i64 k, .int .i64 x, .string s, .slice a m c, .slice b q r, .int .i64 y] : Array Value).all fun u => u.oneCell') = true := all_oneCell_toArray (by intro u hu; simp only [List.mem_cons, List.not_mem_nil, or_false] at hu; rcases hu with rfl | rfl | rfl | rfl | rfl | rfl | rfl <;> rfl)
def NodeTo (n : Int) (o : Ob) (cs : List Value) (w : World) (e : Ending) (w' : World) : Prop :=
 ∃ a m cap c, e = .returned (.tuple #[.agg (Value.int .i64 n :: (cs ++ [Value.slice a m cap, Value.int .i64 c])).toArray, .bool (nodeO o).isSome]) ∧ Pure w w' ∧
   ∀ kids q, nodeO o = some (kids, q) → m = kids.length ∧ c = q ∧ w'.ownsRow w.heap.size 3 1 (.slice a m cap) m (intsV kids)
structure NodeI (w : World) (tb b7 b9 R : Nat) (n vk vn : Int) (vs : ByteArray) (a : Option Addr) (m c : Nat) (kc cc : List Value) (nums : List Int) (k : Nat) (xa : Option Addr) (cap : Nat) (W : World) : Prop where
 len : nums.length = k
 base : Pure w W
 res : BlockIs W (tb + 1) [.int .i64 0, .int .i64 0, .int .i64 0, .string ⟨#[]⟩, .slice none 0 0, .slice none 0 0, .int .i64 0] 101
 xb : BlockIs W (tb + 1 + 1) [.int .i64 n, .int .i64 vk, .int .i64 vn, .string vs, .slice a m c, .slice xa k cap, .int .i64 0] 101
 row : W.ownsRow R 3 1 (.slice xa k cap) k (intsV nums)
 kids : BlockIs W b7 kc 48
 cnt : BlockIs W b9 cc 48
 rs : R ≤ W.heap.size
theorem exec_load105 {oi : Oper} {ev : Operand → Value} {w : World} {x : Operand} {b : Nat} {cs : List Value} {T : TypeId} (ho : oi.op = .load 101 x) (hx : ev x = .pointer (some ⟨b, 0, none⟩)) (hB : BlockIs w b cs T) (hl : cs.length = 7) :
 (execOp ev oi).run Tryz.prog w = .ok (.value (.agg cs.toArray)) w := by
 unfold execOp
 simp only [ho, hx, Instr.loadAt, Instr.sureAddr, Sem.run_bind, Sem.run_pure, Result.andThen_ok, run_loadVar_mid w b 0 101 cs _ hB.range Tryz.underlying101 rfl (by rw [hl]; exact size105)]
theorem NodeI.step {w wr w5 w7 : World} {tb b7 b9 R : Nat} {n vk vn un : Int} {vs : ByteArray} {a : Option Addr} {m c : Nat} {kc cc : List Value} {nums : List Int} {k : Nat} {xa a3 : Option Addr} {cap c3 : Nat}
 (h : NodeI w tb b7 b9 R n vk vn vs a m c kc cc nums k xa cap wr) (hP5 : Pure wr w5) (hO5 : w5.ownsRow R 3 1 (.slice xa k cap) k (intsV nums)) (hg7 : w5.grownBy w7 (Value.slice xa k cap).ownBlock)
 (hB7 : BlockIs w7 (tb + 1 + 1) [.int .i64 n, .int .i64 vk, .int .i64 vn, .string vs, .slice a m c, .slice xa k cap, .int .i64 0] 101) (hO7 : w7.ownsRow R 3 1 (.slice a3 (k + 1) c3) (k + 1) (intsV nums ++ [.int .i64 un]))
 (hw : w.heap.size ≤ tb) (h1 : tb + 1 + 1 < R) (h2 : tb + 1 + 1 < b7) (h3 : b7 < b9) (h4 : b9 < R) :
 NodeI w tb b7 b9 R n vk vn vs a m c kc cc (nums ++ [un]) (k + 1) a3 c3 (w7.setCell ⟨tb + 1 + 1, 5, none⟩ (.slice a3 (k + 1) c3)) := by
 have hX : Ext (fun i => i = tb + 1 + 1) w7 (w7.setCell ⟨tb + 1 + 1, 5, none⟩ (.slice a3 (k + 1) c3)) := Ext.setCell (S := fun i => i = tb + 1 + 1) (Ext.refl _ _) (p := ⟨tb + 1 + 1, 5, none⟩) (fun _ => rfl) _
 have hG := ext_of_grown hg7
 have hn : ∀ i, i < R → ¬ ((Value.slice xa k cap).ownBlock = some i) := fun i hi e => by have := (hO5.lt i e).1; omega
 refine ⟨by rw [List.length_append, h.len]; rfl, ?_, ((h.res.ext hP5 id).ext hG (hn _ (by omega))).ext hX (by omega), hB7.set 5 _, ?_, ((h.kids.ext hP5 id).ext hG (hn _ (by omega))).ext hX (by omega), ((h.cnt.ext hP5 id).ext hG (hn _ (by omega))).ext hX (by omega), ?_⟩
 ·refine (((h.base.pure hP5).trans hG (fun i hi e => hn i (by omega) e)).trans hX (fun i hi e => by omega))
 ·rw [intsV_snoc]; exact own_ext hO7 hX (fun g hg e => by have := (hO7.lt g hg).1; omega)
 ·exact Nat.le_trans (Nat.le_trans h.rs hP5.size) (Nat.le_trans hG.size hX.size)
set_option maxHeartbeats 4000000 in
theorem nodeof_any (d : Nat) (n : Int) (o : Ob) (cs : List Value) (w0 w : World) (hP0 : Pure w0 w) (h : Lies w0 (d + 1) o.v cs) (hsz : o.v.size ≤ 100000) :
 Calls Tryz.prog 76 #[.int .i64 n, .agg (cs ++ [Value.bool o.st, Value.string o.data]).toArray] w (NodeTo n o cs w) := by
 have hl : o.v.l.length ≤ 1000000 := by have := V.len_size o.v; omega
 have HT := qh (fun W (hP : Pure w W) => typed_any d o cs "Pages".toUTF8 W (h.pure (hP0.pure hP)) hl)
 have HG := qh (fun W (hP : Pure w W) => getw_any d o.v cs "Kids".toUTF8 w0 W (hP0.pure hP) h hl)
 have HC := qh (fun W (hP : Pure w W) => getw_any d o.v cs "Count".toUTF8 w0 W (hP0.pure hP) h hl)
 obtain ⟨F, hF⟩ : ∃ z, z = nodeO o := ⟨_, rfl⟩
 unfold NodeTo
 rw [← hF]
 unfold nodeO at hF
 obtain ⟨G, hG⟩ : ∃ z, z = o.v.get "Kids".toUTF8 := ⟨_, rfl⟩
 obtain ⟨C, hC⟩ : ∃ z, z = o.v.get "Count".toUTF8 := ⟨_, rfl⟩
 obtain ⟨T, hT⟩ : ∃ z, z = typedO o "Pages".toUTF8 := ⟨_, rfl⟩
 have HSz := qh (show G.1.size ≤ 100000 by rw [hG]; exact get_size hsz (by decide) _)
 rw [← hG, ← hC, ← hT] at hF
 rw [← hT] at HT
 rw [← hG] at HG
 rw [← hC] at HC
 rw [← k_kids] at HG
 rw [← k_count] at HC
 rw [← k_pages] at HT
 have HK := qh hF
 obtain ⟨a, c, rows, hcs, _⟩ := h.kids
 rw [hcs] at HG HT HC ⊢
 have HP0 := qh hP0
 clear hcs h hl hF hG hT hC hsz hP0
 generalize o.v.l.length = m at *
 generalize o.v.kind = vk at *
 generalize o.v.n = vn at *
 generalize o.v.s = vs at *
 generalize o.st = st at *
 generalize o.data = dt at *
 simp only [List.cons_append, List.nil_append] at HG HT HC ⊢
 go_enter Tryz.func76, Tryz.ntmps76
 go_wp2_with fail
 obtain ⟨w1, hw1⟩ : ∃ z, z = (((w.alloc (.cells #[.int .i64 vk, .int .i64 vn, .string vs, .slice a m c, .bool st, .string dt] 61)).alloc (.cells #[.int .i64 0, .int .i64 0, .int .i64 0, .string ⟨#[]⟩, .slice none 0 0, .slice none 0 0, .int .i64 0] 101)).alloc (.cells #[.int .i64 n, .int .i64 vk, .int .i64 vn, .string vs, .slice a m c, .slice none 0 0, .int .i64 0] 101)) := ⟨_, rfl⟩
 obtain ⟨tb, htb⟩ : ∃ z, z = w.heap.size := ⟨_, rfl⟩
 have hP1 : Pure w w1 := by rw [hw1]; exact ((ext_alloc w _).pure (ext_alloc _ _)).pure (ext_alloc _ _)
 have hB3 : BlockIs w1 tb [.int .i64 vk, .int .i64 vn, .string vs, .slice a m c, .bool st, .string dt] 61 := by rw [hw1, htb]; exact ((BlockIs.new w [.int .i64 vk, .int .i64 vn, .string vs, .slice a m c, .bool st, .string dt] 61).alloc _).alloc _
 have hB4 : BlockIs w1 (tb + 1) [.int .i64 0, .int .i64 0, .int .i64 0, .string ⟨#[]⟩, .slice none 0 0, .slice none 0 0, .int .i64 0] 101 := by rw [hw1, htb]; have h := (BlockIs.new (w.alloc (.cells #[.int .i64 vk, .int .i64 vn, .string vs, .slice a m c, .bool st, .string dt] 61)) [.int .i64 0, .int .i64 0, .int .i64 0, .string ⟨#[]⟩, .slice none 0 0, .slice none 0 0, .int .i64 0] 101).alloc (.cells #[.int .i64 n, .int .i64 vk, .int .i64 vn, .string vs, .slice a m c, .slice none 0 0, .int .i64 0] 101); rwa [World.size_alloc] at h
 have hB6 : BlockIs w1 (tb + 1 + 1) [.int .i64 n, .int .i64 vk, .int .i64 vn, .string vs, .slice a m c, .slice none 0 0, .int .i64 0] 101 := by rw [hw1, htb]; have h := BlockIs.new ((w.alloc (.cells #[.int .i64 vk, .int .i64 vn, .string vs, .slice a m c, .bool st, .string dt] 61)).alloc (.cells #[.int .i64 0, .int .i64 0, .int .i64 0, .string ⟨#[]⟩, .slice none 0 0, .slice none 0 0, .int .i64 0] 101)) [.int .i64 n, .int .i64 vk, .int .i64 vn, .string vs, .slice a m c, .slice none 0 0, .int .i64 0] 101; rwa [World.size_alloc, World.size_alloc] at h
 rw [← hw1, ← htb]
 have HTb := qh htb
 clear hw1 htb
 refine (HG.out w1 hP1).mono ?_
 rintro e w2 ⟨cs, rfl, hL, hP⟩
 obtain ⟨ga, gc, grows, rfl, _, _, _, hKd, _⟩ := hL.kids
 have HKd := qh hKd
 have hB3 := hB3.ext hP id
 have hB4 := hB4.ext hP id
 have hB6 := hB6.ext hP id
 have hP := hP1.pure hP
 have hlt : tb < w2.heap.size := hB3.lt
 have HLt6 : Hid (tb + 1 + 1 < w2.heap.size) := qh hB6.lt
 have c0 : w2.cell? ⟨tb, 0, none⟩ = some (.int .i64 vk) := hB3.cell 0
 have c1 : w2.cell? ⟨tb, 1, none⟩ = some (.int .i64 vn) := hB3.cell 1
 have c2 : w2.cell? ⟨tb, 2, none⟩ = some (.string vs) := hB3.cell 2
 have c3 : w2.cell? ⟨tb, 3, none⟩ = some (.slice a m c) := hB3.cell 3
 have HB3 := qh hB3
 have HB4 := qh hB4
 have HB6 := qh hB6
 have HP := qh hP
 obtain ⟨⟨gk, gn, gs, gl⟩, gi⟩ := G
 simp only [V.kind, V.n, V.s, V.l] at HKd ⊢
 obtain ⟨gm, hgm⟩ : ∃ z, z = gl.length := ⟨_, rfl⟩
 rw [← hgm]
 have HGm := qh hgm
 clear hL hP HG hB3 hB4 hB6 hgm hP1 hKd
 go_wp2_with fail
 have HB7 := qh (BlockIs.new w2 [.int .i64 gk, .int .i64 gn, .string gs, .slice ga gm gc] 48)
 refine (HC.out _ (HP.out.pure (ext_alloc w2 _))).mono ?_
 rintro e w3 ⟨cs, rfl, hL, hP⟩
 obtain ⟨ca, cc, crows, rfl, _⟩ := hL.kids
 have hPx := (ext_alloc w2 (.cells #[.int .i64 gk, .int .i64 gn, .string gs, .slice ga gm gc] 48)).pure hP
 have hB3 := HB3.out.ext hPx id
 have HB4 := qh (HB4.out.ext hPx id)
 have HB6 := qh (HB6.out.ext hPx id)
 have HB7 := qh (HB7.out.ext hP id)
 have HLt7 : Hid (w2.heap.size < w3.heap.size) := qh HB7.out.lt
 have HP := qh (HP.out.pure hPx)
 have hlt : tb < w3.heap.size := hB3.lt
 have c0 : w3.cell? ⟨tb, 0, none⟩ = some (.int .i64 vk) := hB3.cell 0
 have c1 : w3.cell? ⟨tb, 1, none⟩ = some (.int .i64 vn) := hB3.cell 1
 have c2 : w3.cell? ⟨tb, 2, none⟩ = some (.string vs) := hB3.cell 2
 have c3 : w3.cell? ⟨tb, 3, none⟩ = some (.slice a m c) := hB3.cell 3
 have c4 : w3.cell? ⟨tb, 4, none⟩ = some (.bool st) := hB3.cell 4
 have c5 : w3.cell? ⟨tb, 5, none⟩ = some (.string dt) := hB3.cell 5
 obtain ⟨⟨ck, cn, cs, cl⟩, ci⟩ := C
 simp only [V.kind, V.n, V.s, V.l]
 generalize cl.length = cm at *
 clear hL hP hPx HC hB3 HB3
 obtain ⟨b7, hb7⟩ : ∃ z, z = w2.heap.size := ⟨_, rfl⟩
 have HB7e := qh hb7
 rw [← hb7] at HB7 ⊢
 clear hb7
 go_wp2_with fail
 have HB9 := qh (BlockIs.new w3 [.int .i64 ck, .int .i64 cn, .string cs, .slice ca cm cc] 48)
 refine (HT.out _ (HP.out.pure (ext_alloc w3 _))).mono ?_
 rintro e w4 ⟨rfl, hP⟩
 have hPx := (ext_alloc w3 (.cells #[.int .i64 ck, .int .i64 cn, .string cs, .slice ca cm cc] 48)).pure hP
 have hB4 := HB4.out.ext hPx id
 have hB6 := HB6.out.ext hPx id
 have hB7 := HB7.out.ext hPx id
 have hB9 := HB9.out.ext hP id
 replace hP := HP.out.pure hPx
 obtain ⟨b9, hb9⟩ : ∃ z, z = w3.heap.size := ⟨_, rfl⟩
 have HB9e := qh hb9
 rw [← hb9] at hB9 ⊢
 clear hPx HB4 HB6 HB7 HB9 HP HT hb9 c0 c1 c2 c3 c4 c5 hlt
 have g0 : w4.cell? ⟨b7, 0, none⟩ = some (.int .i64 gk) := hB7.cell 0
 have g3 : w4.cell? ⟨b7, 3, none⟩ = some (.slice ga gm gc) := hB7.cell 3
 have q0 : w4.cell? ⟨b9, 0, none⟩ = some (.int .i64 ck) := hB9.cell 0
 by_cases hbad : T = false ∨ (T = true ∧ (¬ gk = 6 ∨ (gk = 6 ∧ (gm = 0 ∨ (¬ (gm : Int) = 0 ∧ ¬ ck = 2)))))
 ·have HF : Hid (F = none) := qh (by
   have hz := HGm.out
   rw [HK.out]
   refine if_neg (fun h => ?_)
   rw [Bool.and_eq_true, Bool.and_eq_true, Bool.and_eq_true, Bool.and_eq_true, Bool.and_eq_true, Bool.and_eq_true] at h
   obtain ⟨⟨⟨⟨⟨⟨h1, h2⟩, h3⟩, h4⟩, h5⟩, h6⟩, h7⟩ := h
   have h2 := of_decide_eq_true h2
   have h3 := of_decide_eq_true h3
   have h4 := of_decide_eq_true h4
   rcases hbad with hb | ⟨_, hb | ⟨_, hb | ⟨_, hb⟩⟩⟩
   ·rw [hb] at h1; cases h1
   ·exact hb h2
   ·exact h3 (List.eq_nil_of_length_eq_zero (hz.symm.trans hb))
   ·exact hb h4)
  have hbad2 : T = false ∨ (T = true ∧ (¬ gk = 6 ∨ (gk = 6 ∧ (gm = 0 ∨ (((gm : Int) == 0) = false ∧ ¬ gm = 0 ∧ (ck != 2) = true))))) := by
   rcases hbad with hb | ⟨ht, hb | ⟨h6, hb | ⟨hg, hb⟩⟩⟩
   ·exact Or.inl hb
   ·exact Or.inr ⟨ht, Or.inl hb⟩
   ·exact Or.inr ⟨ht, Or.inr ⟨h6, Or.inl hb⟩⟩
   ·exact Or.inr ⟨ht, Or.inr ⟨h6, Or.inr ⟨by simpa using hg, by omega, by simpa using hb⟩⟩⟩
  clear hbad
  rcases hbad2 with rfl | ⟨rfl, hb | ⟨rfl, rfl | ⟨hg2, hg3, hb⟩⟩⟩
  all_goals
   have hR6 := hB6.range
   have HTh : Hid (w4.there (tb + 1) 0 (#[.int .i64 n, .int .i64 vk, .int .i64 vn, .string vs, .slice a m c, .slice none 0 0, .int .i64 0] : Array Value).size) := qh (hB4.there 7 rfl)
   have HSi : Hid ((Tryz.prog.info? 101).map (·.size) = some (#[.int .i64 n, .int .i64 vk, .int .i64 vn, .string vs, .slice a m c, .slice none 0 0, .int .i64 0] : Array Value).size) := qh size105
   have HOn : Hid (((#[.int .i64 n, .int .i64 vk, .int .i64 vn, .string vs, .slice a m c, .slice none 0 0, .int .i64 0] : Array Value).all fun u => u.oneCell') = true) := qh (one7 _ _ _ _ _ _ _ _ _ _ _)
   have HSzz : Hid ((Tryz.prog.info? 101).map (·.size) = some ([.int .i64 n, .int .i64 vk, .int .i64 vn, .string vs, .slice a m c, .slice none 0 0, .int .i64 0] : List Value).length) := qh size105
   have HB9 := qh (hB4.setAll [.int .i64 n, .int .i64 vk, .int .i64 vn, .string vs, .slice a m c, .slice none 0 0, .int .i64 0] rfl)
   have HP9 : Hid (Pure w (w4.setCells (tb + 1) 0 [.int .i64 n, .int .i64 vk, .int .i64 vn, .string vs, .slice a m c, .slice none 0 0, .int .i64 0])) := qh (Ext.setCells _ 0 w4 hP (b := tb + 1) (fun h => by have := HTb.out; omega))
   clear hB4 hB6 hP hB7 hB9
   go_wp2_with (first
    | (with_reducible refine at_load 101 (.tmp 6) ?_; refine wpList_load_mid rfl 101 (.tmp 6) rfl (tb + 1 + 1) 0 rfl [.int .i64 n, .int .i64 vk, .int .i64 vn, .string vs, .slice a m c, .slice none 0 0, .int .i64 0] _ hR6 Tryz.underlying101 rfl HSzz.out ?_)
    | (with_reducible refine at_store 101 (.tmp 4) (.tmp 48) ?_; refine wpList_store_mid rfl 101 (.tmp 4) (.tmp 48) rfl (tb + 1) 0 #[.int .i64 n, .int .i64 vk, .int .i64 vn, .string vs, .slice a m c, .slice none 0 0, .int .i64 0] rfl rfl HTh.out HSi.out HOn.out ?_))
   refine bodyPost_ret (results_row2 rfl _ _ (tb + 1) _ [.int .i64 n, .int .i64 vk, .int .i64 vn, .string vs, .slice a m c, .slice none 0 0, .int .i64 0] _ rfl HB9.out Tryz.underlying101 rfl size105) rfl ?_
   exact ⟨_, _, _, _, by rw [HF.out]; rfl, HP9.out, fun kids q hq => by rw [HF.out] at hq; cases hq⟩
 ·have hT : T = true := by
   cases T with
   | true => rfl
   | false => exact absurd (Or.inl rfl) hbad
  subst hT
  have hgk : gk = 6 := Decidable.byContradiction fun h => hbad (Or.inr ⟨rfl, Or.inl h⟩)
  subst hgk
  have hgm : ¬ (gm : Int) = 0 := fun h => hbad (Or.inr ⟨rfl, Or.inr ⟨rfl, Or.inl (by omega)⟩⟩)
  have hck : ck = 2 := Decidable.byContradiction fun h => hbad (Or.inr ⟨rfl, Or.inr ⟨rfl, Or.inr ⟨hgm, h⟩⟩⟩)
  subst hck
  have hg2 : ((gm : Int) == 0) = false := by simpa using hgm
  have hg3 : ¬ gm = 0 := by omega
  clear hbad hgm
  go_wp2_with fail
  have HSzG := HSz.out
  have hgl : gm ≤ 100000 := by have := V.len_size (.mk 6 gn gs gl); have := HGm.out; have e : (V.mk 6 gn gs gl).l.length = gl.length := rfl; omega
  clear g0 q0 HSzG HSz g3
  have hI0 : NodeI w tb b7 b9 w4.heap.size n vk vn vs a m c [.int .i64 6, .int .i64 gn, .string gs, .slice ga gm gc] [.int .i64 2, .int .i64 cn, .string cs, .slice ca cm cc] [] 0 none 0 w4 := ⟨rfl, hP, hB4, hB6, World.ownsRow_nil _ _ _ _, hB7, hB9, Nat.le_refl _⟩
  have HI0 := qh hI0
  have hR4 : tb + 1 + 1 < w4.heap.size := hB6.lt
  have hR7 : b7 < w4.heap.size := hB7.lt
  have hR9 : b9 < w4.heap.size := hB9.lt
  obtain ⟨R, hRe⟩ : ∃ z, z = w4.heap.size := ⟨_, rfl⟩
  rw [← hRe] at HI0 hR4 hR7 hR9
  have h79 : tb + 1 + 1 < b7 := by rw [HB7e.out]; exact HLt6.out
  have h99 : b7 < b9 := by rw [HB7e.out, HB9e.out]; exact HLt7.out
  clear hI0 hP hB4 hB6 hB7 hB9 hRe
  go_loopw [52] (fun i wr => ∃ (k : Nat) (xa : Option Addr) (cap : Nat), k ≤ gm ∧ i = .int .i64 k ∧ Hid ((gl.take k).all (fun u => decide (u.kind = 8)) = true) ∧ Hid (NodeI w tb b7 b9 R n vk vn vs a m c [.int .i64 6, .int .i64 gn, .string gs, .slice ga gm gc] [.int .i64 2, .int .i64 cn, .string cs, .slice ca cm cc] ((gl.take k).map V.n) k xa cap wr)) (fun i _ => gm - (intOf i).toNat)
  case atStart => exact ⟨0, none, 0, Nat.zero_le _, rfl, qh (by rw [List.take_zero]; rfl), qh (by rw [List.take_zero]; exact HI0.out)⟩
  case round =>
   obtain ⟨k, xa, cap, hk, rfl, HA, HI⟩ := hrel
   have hP := HI.out.base
   have hB4 := HI.out.res
   have hB6 := HI.out.xb
   have hlw : tb + 1 + 1 < wr.heap.size := hB6.lt
   by_cases hlt : k < gm
   ·have hki : (k : Int) < (gm : Int) := by omega
    obtain ⟨u, hu⟩ : ∃ u, gl[k]? = some u := ⟨_, List.getElem?_eq_getElem (by rw [← HGm.out]; exact hlt)⟩
    obtain ⟨b, o, r, rfl, hr0, hr4, hLu⟩ := HKd.out.at k u hu
    obtain ⟨ua, uc, urows, rfl, _⟩ := (hLu.mono (Nat.le_succ d)).kids
    have HAk : Hid ((gl.take (k + 1)).all (fun u => decide (u.kind = 8)) = decide (u.kind = 8)) := qh (by
     obtain ⟨hkl, rfl⟩ := List.getElem?_eq_some_iff.1 hu
     rw [List.take_succ_eq_append_getElem hkl, List.all_append, HA.out]; simp)
    have HNk : Hid ((gl.take (k + 1)).map V.n = (gl.take k).map V.n ++ [u.n]) := qh (by
     obtain ⟨hkl, rfl⟩ := List.getElem?_eq_some_iff.1 hu
     rw [List.take_succ_eq_append_getElem hkl, List.map_append]; rfl)
    have HAl : Hid (gl.all (fun u => decide (u.kind = 8)) = true → (gl.take (k + 1)).all (fun u => decide (u.kind = 8)) = true) := qh (fun h => by
     rw [← List.take_append_drop (k + 1) gl, List.all_append, Bool.and_eq_true] at h
     exact h.1)
    have hr : wr.rangeAt b (o + k * 4) [.int .i64 u.kind, .int .i64 u.n, .string u.s, .slice ua u.l.length uc] := fun j v hv => (HP0.out.pure hP).cell_some (hr0 j v hv) id
    have HSz4 : Hid ((Tryz.prog.info? 48).map (·.size) = some ([.int .i64 u.kind, .int .i64 u.n, .string u.s, .slice ua u.l.length uc] : List Value).length) := qh size24
    clear hu hr0 hr4 hLu hk
    obtain ⟨uk, un, us, ul⟩ := u
    simp only [V.kind, V.n, V.s, V.l] at hr HSz4
    generalize ul.length = um at *
    by_cases hu8 : uk = 8
    ·subst hu8
     clear hB4
     have cx5 : wr.cell? ⟨tb + 1 + 1, 5, none⟩ = some (.slice xa k cap) := hB6.cell 5
     obtain ⟨w5, hw5⟩ : ∃ z, z = (wr.alloc (.cells #[.int .i64 8, .int .i64 un, .string us, .slice ua um uc] 48)).alloc (.cells #[.int .i64 un] 3) := ⟨_, rfl⟩
     have hP5 : Pure wr w5 := by rw [hw5]; exact (ext_alloc wr _).pure (ext_alloc _ _)
     have HO5 : Hid (w5.ownsRow R 3 1 (.slice xa k cap) k (intsV ((gl.take k).map V.n))) := qh (own_ext HI.out.row hP5 (fun _ _ => id))
     have HRw : Hid (RowOf w5 (some ⟨wr.heap.size + 1, 0, none⟩) [.int .i64 un]) := qh (by rw [hw5]; exact row_at _ (World.size_alloc _ _) rfl)
     have HRs : Hid (R ≤ w5.heap.size) := qh (Nat.le_trans HI.out.rs hP5.size)
     have HB65 : Hid (BlockIs w5 (tb + 1 + 1) [.int .i64 n, .int .i64 vk, .int .i64 vn, .string vs, .slice a m c, .slice xa k cap, .int .i64 0] 101) := qh (hB6.ext hP5 id)
     have HW5 : Hid ((wr.alloc (.cells #[.int .i64 8, .int .i64 un, .string us, .slice ua um uc] 48)).alloc (.cells #[.int .i64 un] 3) = w5) := qh hw5.symm
     have HP5 := qh hP5
     clear hw5 hP5 hB6
     go_wp2_with (first
      | (with_reducible refine at_load 48 (.tmp 54) ?_; refine wpList_load_mid rfl 48 (.tmp 54) rfl b (o + k * 4) rfl [.int .i64 8, .int .i64 un, .string us, .slice ua um uc] _ hr Tryz.underlying48 rfl HSz4.out ?_)
      | (at_builtin; rw [HW5.out]; refine wpList_append_fresh rfl (.tmp 61) (.tmp 64) 25 rfl R 3 (.int .i64 0) 1 8 Tryz.underlying25 infoI rfl (by decide) (.slice xa k cap) k (intsV ((gl.take k).map V.n)) rfl HO5.out (some ⟨wr.heap.size + 1, 0, none⟩) 1 1 [.int .i64 un] rfl (fun e => by cases e) rfl HRw.out (fun u hu => by simp at hu; subst hu; rfl) (k + 1) rfl (intsV ((gl.take k).map V.n) ++ [.int .i64 un]) rfl (by omega) (by unfold maxLen; omega) HRs.out ?_; intro a3 c3 w7 hO7 hg7 hf7; have hB7 : BlockIs w7 (tb + 1 + 1) [.int .i64 n, .int .i64 vk, .int .i64 vn, .string vs, .slice a m c, .slice xa k cap, .int .i64 0] 101 := HB65.out.ext (ext_of_grown hg7) (fun e => by have := (HO5.out.lt (tb + 1 + 1) e).1; omega); have cS7 : w7.cell? ⟨tb + 1 + 1, 5, none⟩ = some (.slice xa k cap) := hB7.cell 5; have fS7 : w7.frozen? ⟨tb + 1 + 1, 5, none⟩ = false := hB7.free 5))
     go_roundw
     case rel =>
      refine ⟨k + 1, a3, c3, by omega, by go_num, qh (by rw [HAk.out]; rfl), qh ?_⟩
      rw [HNk.out]
      exact HI.out.step HP5.out HO5.out hg7 hB7 hO7 (by have := HTb.out; omega) (by omega) (by omega) (by omega) (by omega)
     case measure => simp [intOf]; omega
    ·have HF : Hid (F = none) := qh (by
      rw [HK.out]
      refine if_neg (fun h => ?_)
      rw [Bool.and_eq_true, Bool.and_eq_true, Bool.and_eq_true] at h
      have h1 := HAl.out h.1.1.2
      rw [HAk.out] at h1
      exact hu8 (of_decide_eq_true h1))
     have hun : (uk != 8) = true := by simpa using hu8
     have hB4 := hB4.alloc (.cells #[.int .i64 uk, .int .i64 un, .string us, .slice ua um uc] 48)
     have hB6 := hB6.alloc (.cells #[.int .i64 uk, .int .i64 un, .string us, .slice ua um uc] 48)
     have hP := hP.alloc (.cells #[.int .i64 uk, .int .i64 un, .string us, .slice ua um uc] 48)
     have hR6 := hB6.range
     have HSzz : Hid ((Tryz.prog.info? 101).map (·.size) = some ([.int .i64 n, .int .i64 vk, .int .i64 vn, .string vs, .slice a m c, .slice xa k cap, .int .i64 0] : List Value).length) := qh size105
     have HTh : Hid ((wr.alloc (.cells #[.int .i64 uk, .int .i64 un, .string us, .slice ua um uc] 48)).there (tb + 1) 0 (#[.int .i64 n, .int .i64 vk, .int .i64 vn, .string vs, .slice a m c, .slice xa k cap, .int .i64 0] : Array Value).size) := qh (hB4.there 7 rfl)
     have HSi : Hid ((Tryz.prog.info? 101).map (·.size) = some (#[.int .i64 n, .int .i64 vk, .int .i64 vn, .string vs, .slice a m c, .slice xa k cap, .int .i64 0] : Array Value).size) := qh size105
     have HOn : Hid (((#[.int .i64 n, .int .i64 vk, .int .i64 vn, .string vs, .slice a m c, .slice xa k cap, .int .i64 0] : Array Value).all fun u => u.oneCell') = true) := qh (one7 _ _ _ _ _ _ _ _ _ _ _)
     have HB9 := qh (hB4.setAll [.int .i64 n, .int .i64 vk, .int .i64 vn, .string vs, .slice a m c, .slice xa k cap, .int .i64 0] rfl)
     have HP9 : Hid (Pure w ((wr.alloc (.cells #[.int .i64 uk, .int .i64 un, .string us, .slice ua um uc] 48)).setCells (tb + 1) 0 [.int .i64 n, .int .i64 vk, .int .i64 vn, .string vs, .slice a m c, .slice xa k cap, .int .i64 0])) := qh (Ext.setCells _ 0 _ hP (b := tb + 1) (fun h => by have := HTb.out; omega))
     clear hB4 hB6 hP
     clear HI HA HAk HNk HAl
     go_wp2_with (first
      | (with_reducible refine at_load 48 (.tmp 54) ?_; refine wpList_load_mid rfl 48 (.tmp 54) rfl b (o + k * 4) rfl [.int .i64 uk, .int .i64 un, .string us, .slice ua um uc] _ hr Tryz.underlying48 rfl HSz4.out ?_)
      | (with_reducible refine at_load 101 (.tmp 6) ?_; refine wpList_load_mid rfl 101 (.tmp 6) rfl (tb + 1 + 1) 0 rfl [.int .i64 n, .int .i64 vk, .int .i64 vn, .string vs, .slice a m c, .slice xa k cap, .int .i64 0] _ hR6 Tryz.underlying101 rfl HSzz.out ?_)
      | (with_reducible refine at_store 101 (.tmp 4) (.tmp 59) ?_; refine wpList_store_mid rfl 101 (.tmp 4) (.tmp 59) rfl (tb + 1) 0 #[.int .i64 n, .int .i64 vk, .int .i64 vn, .string vs, .slice a m c, .slice xa k cap, .int .i64 0] rfl rfl HTh.out HSi.out HOn.out ?_))
     refine bodyPost_ret (results_row2 rfl _ _ (tb + 1) _ [.int .i64 n, .int .i64 vk, .int .i64 vn, .string vs, .slice a m c, .slice xa k cap, .int .i64 0] _ rfl HB9.out Tryz.underlying101 rfl size105) rfl ?_
     exact ⟨_, _, _, _, by rw [HF.out]; rfl, HP9.out, fun kids q hq => by rw [HF.out] at hq; cases hq⟩
   ·have hki : ¬ (k : Int) < (gm : Int) := by omega
    obtain rfl : k = gm := by omega
    have HA : Hid (gl.all (fun u => decide (u.kind = 8)) = true) := qh (by have h := HA.out; rwa [List.take_of_length_le (by rw [← HGm.out]; exact Nat.le_refl _)] at h)
    have HRow : Hid (wr.ownsRow R 3 1 (.slice xa k cap) k (intsV (gl.map V.n))) := qh (by have h := HI.out.row; rwa [List.take_of_length_le (by rw [← HGm.out]; exact Nat.le_refl _)] at h)
    have q1 : wr.cell? ⟨b9, 1, none⟩ = some (.int .i64 cn) := HI.out.cnt.cell 1
    have x6 : wr.cell? ⟨tb + 1 + 1, 6, none⟩ = some (.int .i64 0) := hB6.cell 6
    have f6 : wr.frozen? ⟨tb + 1 + 1, 6, none⟩ = false := hB6.free 6
    have HB6 := qh (hB6.set 6 (.int .i64 cn))
    have HB4 := qh (hB4.setOther (p := ⟨tb + 1 + 1, 6, none⟩) (by simp) (.int .i64 cn))
    have HP6 : Hid (Pure w (wr.setCell ⟨tb + 1 + 1, 6, none⟩ (.int .i64 cn))) := qh (hP.setCell (p := ⟨tb + 1 + 1, 6, none⟩) (fun h => by have := HTb.out; have h2 : tb + 1 + 1 < w.heap.size := h; omega) _)
    have HX6 : Hid (Ext (fun i => i = tb + 1 + 1) wr (wr.setCell ⟨tb + 1 + 1, 6, none⟩ (.int .i64 cn))) := qh (Ext.setCell (S := fun i => i = tb + 1 + 1) (Ext.refl _ wr) (p := ⟨tb + 1 + 1, 6, none⟩) (fun _ => rfl) _)
    have HI := qh HI.out.rs
    clear hP hB4 hB6
    go_wp2_with fail
    obtain ⟨w5, hw5⟩ : ∃ z, z = wr.setCell ⟨tb + 1 + 1, 6, none⟩ (.int .i64 cn) := ⟨_, rfl⟩
    rw [← hw5]
    rw [← hw5] at HB6 HB4 HP6 HX6
    have hB6 := HB6.out.drew
    have hB4 := HB4.out.drew
    have hP6 := HP6.out.drew
    have HRow5 := qh (own_ext HRow.out HX6.out.drew (fun g hg e => by have := (HRow.out.lt g hg).1; omega))
    simp only [sS, sZ] at hB6
    obtain ⟨wE, hwE⟩ : ∃ z, z = w5.drew.setCells (tb + 1) 0 [.int .i64 n, .int .i64 vk, .int .i64 vn, .string vs, .slice a m c, .slice xa k cap, .int .i64 cn] := ⟨_, rfl⟩
    have hX : Ext (fun k => k = tb + 1) w5.drew wE := hwE ▸ Ext.setCells _ 0 _ (Ext.refl _ _) (fun _ => rfl)
    have hPE : Pure w wE := hwE ▸ Ext.setCells _ 0 _ hP6 (b := tb + 1) (fun h => by have h2 := HTb.out; have h3 : tb + 1 < w.heap.size := h; omega)
    have hBE : BlockIs wE (tb + 1) [.int .i64 n, .int .i64 vk, .int .i64 vn, .string vs, .slice a m c, .slice xa k cap, .int .i64 cn] 101 := hwE ▸ hB4.setAll [.int .i64 n, .int .i64 vk, .int .i64 vn, .string vs, .slice a m c, .slice xa k cap, .int .i64 cn] rfl
    have HTh : Hid ((w5.drew).there (tb + 1) 0 (#[.int .i64 n, .int .i64 vk, .int .i64 vn, .string vs, .slice a m c, .slice xa k cap, .int .i64 cn] : Array Value).size) := qh (hB4.there 7 rfl)
    have HSi : Hid ((Tryz.prog.info? 101).map (·.size) = some (#[.int .i64 n, .int .i64 vk, .int .i64 vn, .string vs, .slice a m c, .slice xa k cap, .int .i64 cn] : Array Value).size) := qh size105
    have HOn : Hid (((#[.int .i64 n, .int .i64 vk, .int .i64 vn, .string vs, .slice a m c, .slice xa k cap, .int .i64 cn] : Array Value).all fun u => u.oneCell') = true) := qh (one7 _ _ _ _ _ _ _ _ _ _ _)
    have HwE : Hid (w5.drew.setCells (tb + 1) 0 (#[.int .i64 n, .int .i64 vk, .int .i64 vn, .string vs, .slice a m c, .slice xa k cap, .int .i64 cn] : Array Value).toList = wE) := qh (by rw [hwE])
    have HRowE : Hid (wE.ownsRow w.heap.size 3 1 (.slice xa k cap) k (intsV (gl.map V.n))) := qh (own_base (own_ext HRow5.out hX (fun g hg e => by have := (HRow5.out.lt g hg).1; omega)) (by have := HTb.out; omega))
    have HBE := qh hBE
    have HPE := qh hPE
    have HGl : Hid ((gl.map V.n).length = k) := qh (by rw [List.length_map]; exact HGm.out.symm)
    have hgk : gl ≠ [] := fun e => hg3 (by rw [HGm.out, e]; rfl)
    clear hwE hw5 hBE hPE hP6 HB6 HB4 HP6 HX6 HRow5 HRow hlw q1 x6 f6
    by_cases hge : (k : Int) ≤ cn
    ·have HF : Hid (F = if cn ≤ 2048 then some (gl.map V.n, cn) else none) := qh (by
      rw [HK.out]
      have h1 := HA.out
      have h2 := HGm.out
      have h3 : (gl.length : Int) ≤ cn := by omega
      by_cases hle : cn ≤ 2048
      ·rw [if_pos hle]
       refine if_pos ?_
       rw [Bool.and_eq_true, Bool.and_eq_true, Bool.and_eq_true, Bool.and_eq_true, Bool.and_eq_true, Bool.and_eq_true]
       exact ⟨⟨⟨⟨⟨⟨rfl, decide_eq_true rfl⟩, decide_eq_true hgk⟩, decide_eq_true rfl⟩, h1⟩, decide_eq_true h3⟩, decide_eq_true hle⟩
      ·rw [if_neg hle]
       refine if_neg (fun h => ?_)
       rw [Bool.and_eq_true] at h
       exact hle (of_decide_eq_true h.2))
     clear HK
     refine region_start (fun k => k = tb + 1) (by kernel_rfl) ?_
     try simp only [Act.put, sA, sZ, sS]
     refine region_take 0 71 (v := ?vna0) rfl rfl (by kernel_rfl) (by kernel_rfl) (by kernel_rfl) (fun _ _ _ h => h) (by rfl) (fun w' hS => ?hna0) ?rna0
     case hna0 => (refine exec_load105 (x := .tmp 6) ?_ ?_ (hB6.ext hS (fun e => by have e2 : tb + 1 + 1 = tb + 1 := e; omega)) rfl <;> rfl)
     try simp only [Act.put, sA, sZ, sS]
     refine region_take 1 72 (v := ?vna1) rfl rfl (by kernel_rfl) (by kernel_rfl) (by kernel_rfl) (fun _ _ _ h => h) (by rfl) (fun w' hS => ?hna1) ?rna1
     case hna1 => go_simp; with_reducible rfl
     try simp only [Act.put, sA, sZ, sS]
     refine region_take 2 73 (v := ?vna2) rfl rfl (by kernel_rfl) (by kernel_rfl) (by kernel_rfl) (fun _ _ _ h => h) (by rfl) (fun w' hS => ?hna2) ?rna2
     case hna2 => (have e : w'.cell? ⟨tb + 1 + 1, 6, none⟩ = some (.int .i64 cn) := (hB6.ext hS (fun e => by have e2 : tb + 1 + 1 = tb + 1 := e; omega)).cell 6; go_simp; with_reducible rfl)
     try simp only [Act.put, sA, sZ, sS]
     refine region_take 3 74 (v := ?vna3) rfl rfl (by kernel_rfl) (by kernel_rfl) (by kernel_rfl) (fun _ _ _ h => h) (by rfl) (fun w' hS => ?hna3) ?rna3
     case hna3 => go_simp; with_reducible rfl
     try simp only [Act.put, sA, sZ, sS]
     refine region_take 4 75 (v := ?vna4) rfl rfl (by kernel_rfl) (by kernel_rfl) (by kernel_rfl) (fun _ _ _ h => h) (by rfl) (fun w' hS => ?hna4) ?rna4
     case hna4 => (have e : w'.cell? ⟨tb + 1 + 1, 5, none⟩ = some (.slice xa k cap) := (hB6.ext hS (fun e => by have e2 : tb + 1 + 1 = tb + 1 := e; omega)).cell 5; go_simp; with_reducible rfl)
     try simp only [Act.put, sA, sZ, sS]
     refine region_take 5 76 (v := ?vna5) rfl rfl (by kernel_rfl) (by kernel_rfl) (by kernel_rfl) (fun _ _ _ h => h) (by rfl) (fun w' hS => ?hna5) ?rna5
     case hna5 => go_simp; with_reducible rfl
     try simp only [Act.put, sA, sZ, sS]
     refine region_take 6 77 (v := ?vna6) rfl rfl (by kernel_rfl) (by kernel_rfl) (by kernel_rfl) (fun _ _ _ h => h) (by rfl) (fun w' hS => ?hna6) ?rna6
     case hna6 => go_simp; with_reducible rfl
     try simp only [Act.put, sA, sZ, sS]
     refine region_take 7 78 (v := ?vna7) rfl rfl (by kernel_rfl) (by kernel_rfl) (by kernel_rfl) (fun _ _ _ h => h) (by rfl) (fun w' hS => ?hna7) ?rna7
     case hna7 => go_simp; with_reducible rfl
     try simp only [Act.put, sA, sZ, sS]
     refine region_take 8 79 (v := ?vna8) rfl rfl (by kernel_rfl) (by kernel_rfl) (by kernel_rfl) (fun _ _ _ h => h) (by rfl) (fun w' hS => ?hna8) ?rna8
     case hna8 => go_simp; with_reducible rfl
     try simp only [Act.put, sA, sZ, sS]
     refine region_take 9 80 (v := ?vna9) rfl rfl (by kernel_rfl) (by kernel_rfl) (by kernel_rfl) (fun _ _ _ h => h) (by rfl) (fun w' hS => ?hna9) ?rna9
     case hna9 => (have e : w'.cell? ⟨tb + 1 + 1, 6, none⟩ = some (.int .i64 cn) := (hB6.ext hS (fun e => by have e2 : tb + 1 + 1 = tb + 1 := e; omega)).cell 6; go_simp; with_reducible rfl)
     try simp only [Act.put, sA, sZ, sS]
     refine region_take 10 81 (v := ?vna10) rfl rfl (by kernel_rfl) (by kernel_rfl) (by kernel_rfl) (fun _ _ _ h => h) (by rfl) (fun w' hS => ?hna10) ?rna10
     case hna10 => go_simp; with_reducible rfl
     try simp only [Act.put, sA, sZ, sS]
     refine region_take 11 82 (v := ?vna11) rfl rfl (by kernel_rfl) (by kernel_rfl) (by kernel_rfl) (fun _ _ _ h => h) (by rfl) (fun w' hS => ?hna11) ?rna11
     case hna11 => go_simp; with_reducible rfl
     try simp only [Act.put, sA, sZ, sS]
     refine wpAnyH_ready (rs := [12]) (by kernel_rfl) (by simp) (AllReadyH.cons rfl (fun K hK => ?_) AllReadyH.nil)
     refine step_of_list ?_
     refine wpList_store_mid rfl 101 (.tmp 4) (.tmp 71) rfl (tb + 1) 0 #[.int .i64 n, .int .i64 vk, .int .i64 vn, .string vs, .slice a m c, .slice xa k cap, .int .i64 cn] rfl rfl HTh.out HSi.out HOn.out ?_
     rw [HwE.out]
     refine hK.out _ _ (hX) (fun hHeld => ?_)
     clear hK K hHeld
     refine region_now (hX) ?_
     try simp only [Act.put, sA, sZ, sS]
     refine region_take 13 5 (v := ?vna13) rfl rfl (by kernel_rfl) (by kernel_rfl) (by kernel_rfl) (fun _ _ _ h => h) (by rfl) (fun w' hS => ?hna13) ?rna13
     case hna13 => go_simp; with_reducible rfl
     try simp only [Act.put, sA, sZ, sS]
     refine wpAnyH_done (by kernel_rfl) ?_ _
     go_simp
     try simp only [Act.put, sA, sZ, sS]
     go_wp2_with fail
     refine bodyPost_ret (results_row2 rfl _ _ (tb + 1) _ [.int .i64 n, .int .i64 vk, .int .i64 vn, .string vs, .slice a m c, .slice xa k cap, .int .i64 cn] _ rfl HBE.out Tryz.underlying101 rfl size105) rfl ?_
     refine ⟨xa, k, cap, cn, by rw [HF.out]; by_cases hle : cn ≤ 2048 <;> simp [hle], HPE.out, fun kids q hq => ?_⟩
     rw [HF.out] at hq
     split at hq
     ·cases hq
      exact ⟨HGl.out.symm, rfl, HRowE.out⟩
     ·cases hq
    ·have hgb : decide ((k : Int) ≤ cn) = false := by simpa using hge
     have HF : Hid (F = none) := qh (by
      rw [HK.out]
      refine if_neg (fun h => ?_)
      rw [Bool.and_eq_true, Bool.and_eq_true] at h
      have h3 : (gl.length : Int) ≤ cn := of_decide_eq_true h.1.2
      have h2 := HGm.out
      omega)
     clear HK
     refine region_start (fun k => k = tb + 1) (by kernel_rfl) ?_
     try simp only [Act.put, sA, sZ, sS]
     refine region_take 0 71 (v := ?vnb0) rfl rfl (by kernel_rfl) (by kernel_rfl) (by kernel_rfl) (fun _ _ _ h => h) (by rfl) (fun w' hS => ?hnb0) ?rnb0
     case hnb0 => (refine exec_load105 (x := .tmp 6) ?_ ?_ (hB6.ext hS (fun e => by have e2 : tb + 1 + 1 = tb + 1 := e; omega)) rfl <;> rfl)
     try simp only [Act.put, sA, sZ, sS]
     refine region_take 1 72 (v := ?vnb1) rfl rfl (by kernel_rfl) (by kernel_rfl) (by kernel_rfl) (fun _ _ _ h => h) (by rfl) (fun w' hS => ?hnb1) ?rnb1
     case hnb1 => go_simp; with_reducible rfl
     try simp only [Act.put, sA, sZ, sS]
     refine region_take 2 73 (v := ?vnb2) rfl rfl (by kernel_rfl) (by kernel_rfl) (by kernel_rfl) (fun _ _ _ h => h) (by rfl) (fun w' hS => ?hnb2) ?rnb2
     case hnb2 => (have e : w'.cell? ⟨tb + 1 + 1, 6, none⟩ = some (.int .i64 cn) := (hB6.ext hS (fun e => by have e2 : tb + 1 + 1 = tb + 1 := e; omega)).cell 6; go_simp; with_reducible rfl)
     try simp only [Act.put, sA, sZ, sS]
     refine region_take 3 74 (v := ?vnb3) rfl rfl (by kernel_rfl) (by kernel_rfl) (by kernel_rfl) (fun _ _ _ h => h) (by rfl) (fun w' hS => ?hnb3) ?rnb3
     case hnb3 => go_simp; with_reducible rfl
     try simp only [Act.put, sA, sZ, sS]
     refine region_take 4 75 (v := ?vnb4) rfl rfl (by kernel_rfl) (by kernel_rfl) (by kernel_rfl) (fun _ _ _ h => h) (by rfl) (fun w' hS => ?hnb4) ?rnb4
     case hnb4 => (have e : w'.cell? ⟨tb + 1 + 1, 5, none⟩ = some (.slice xa k cap) := (hB6.ext hS (fun e => by have e2 : tb + 1 + 1 = tb + 1 := e; omega)).cell 5; go_simp; with_reducible rfl)
     try simp only [Act.put, sA, sZ, sS]
     refine region_take 5 76 (v := ?vnb5) rfl rfl (by kernel_rfl) (by kernel_rfl) (by kernel_rfl) (fun _ _ _ h => h) (by rfl) (fun w' hS => ?hnb5) ?rnb5
     case hnb5 => go_simp; with_reducible rfl
     try simp only [Act.put, sA, sZ, sS]
     refine region_take 6 77 (v := ?vnb6) rfl rfl (by kernel_rfl) (by kernel_rfl) (by kernel_rfl) (fun _ _ _ h => h) (by rfl) (fun w' hS => ?hnb6) ?rnb6
     case hnb6 => go_simp; with_reducible rfl
     try simp only [Act.put, sA, sZ, sS]
     refine region_take 7 78 (v := ?vnb7) rfl rfl (by kernel_rfl) (by kernel_rfl) (by kernel_rfl) (fun _ _ _ h => h) (by rfl) (fun w' hS => ?hnb7) ?rnb7
     case hnb7 => go_simp; with_reducible rfl
     try simp only [Act.put, sA, sZ, sS]
     refine region_skip 8 79 rfl rfl (by kernel_rfl) (by kernel_rfl) (by kernel_rfl) (fun _ _ _ h => h) (by rfl) ?_
     try simp only [Act.put, sA, sZ, sS]
     refine region_skip 9 80 rfl rfl (by kernel_rfl) (by kernel_rfl) (by kernel_rfl) (fun _ _ _ h => h) (by rfl) ?_
     try simp only [Act.put, sA, sZ, sS]
     refine region_skip 10 81 rfl rfl (by kernel_rfl) (by kernel_rfl) (by kernel_rfl) (fun _ _ _ h => h) (by rfl) ?_
     try simp only [Act.put, sA, sZ, sS]
     refine region_take 11 82 (v := ?vnb11) rfl rfl (by kernel_rfl) (by kernel_rfl) (by kernel_rfl) (fun _ _ _ h => h) (by rfl) (fun w' hS => ?hnb11) ?rnb11
     case hnb11 => go_simp; with_reducible rfl
     try simp only [Act.put, sA, sZ, sS]
     refine wpAnyH_ready (rs := [12]) (by kernel_rfl) (by simp) (AllReadyH.cons rfl (fun K hK => ?_) AllReadyH.nil)
     refine step_of_list ?_
     refine wpList_store_mid rfl 101 (.tmp 4) (.tmp 71) rfl (tb + 1) 0 #[.int .i64 n, .int .i64 vk, .int .i64 vn, .string vs, .slice a m c, .slice xa k cap, .int .i64 cn] rfl rfl HTh.out HSi.out HOn.out ?_
     rw [HwE.out]
     refine hK.out _ _ (hX) (fun hHeld => ?_)
     clear hK K hHeld
     refine region_now (hX) ?_
     try simp only [Act.put, sA, sZ, sS]
     refine region_take 13 5 (v := ?vnb13) rfl rfl (by kernel_rfl) (by kernel_rfl) (by kernel_rfl) (fun _ _ _ h => h) (by rfl) (fun w' hS => ?hnb13) ?rnb13
     case hnb13 => go_simp; with_reducible rfl
     try simp only [Act.put, sA, sZ, sS]
     refine wpAnyH_done (by kernel_rfl) ?_ _
     go_simp
     try simp only [Act.put, sA, sZ, sS]
     go_wp2_with fail
     refine bodyPost_ret (results_row2 rfl _ _ (tb + 1) _ [.int .i64 n, .int .i64 vk, .int .i64 vn, .string vs, .slice a m c, .slice xa k cap, .int .i64 cn] _ rfl HBE.out Tryz.underlying101 rfl size105) rfl ?_
     exact ⟨xa, k, cap, cn, by rw [HF.out]; rfl, HPE.out, fun kids q hq => by rw [HF.out] at hq; cases hq⟩
def NodTo (o : Ob) (w : World) (e : Ending) (w' : World) : Prop :=
 ∃ a m cap c, e = .returned (.tuple #[.slice a m cap, .int .i64 c, .bool (nodeO o).isSome]) ∧ Pure w w' ∧
   ∀ kids q, nodeO o = some (kids, q) → m = kids.length ∧ c = q ∧ w'.ownsRow w.heap.size 3 1 (.slice a m cap) m (intsV kids)
set_option maxHeartbeats 1000000 in
theorem node_any (d : Nat) (o : Ob) (cs : List Value) (w0 w : World) (hP0 : Pure w0 w) (h : Lies w0 (d + 1) o.v cs) (hsz : o.v.size ≤ 100000) :
 Calls Tryz.prog 64 #[.agg (cs ++ [Value.bool o.st, Value.string o.data]).toArray] w (NodTo o w) := by
 have HN := qh (fun W (hP : Pure w W) => nodeof_any d 0 o cs w0 W (hP0.pure hP) h hsz)
 obtain ⟨a, c, rows, hcs, _⟩ := h.kids
 rw [hcs] at HN ⊢
 clear hcs h hP0
 unfold NodTo
 unfold NodeTo at HN
 generalize o.v.l.length = m at *
 generalize o.v.kind = vk at *
 generalize o.v.n = vn at *
 generalize o.v.s = vs at *
 generalize o.st = st at *
 generalize o.data = dt at *
 generalize nodeO o = F at *
 simp only [List.cons_append, List.nil_append] at HN ⊢
 go_enter Tryz.func64, Tryz.ntmps64
 go_wp2_with fail
 refine (HN.out _ (ext_alloc w _)).mono ?_
 rintro e w2 ⟨xa, xm, xc, cn, rfl, hP, hK⟩
 have HK := qh hK
 have HP := qh ((ext_alloc w _).pure hP)
 have hB := BlockIs.new w2 [.int .i64 0, .int .i64 vk, .int .i64 vn, .string vs, .slice a m c, .slice xa xm xc, .int .i64 cn] 101
 have HB := qh hB
 clear hB HN hP hK
 cases F with
 | none =>
   simp only [Option.isSome]
   go_wp2_with fail
   go_ret3
   exact ⟨none, 0, 0, 0, rfl, HP.out.pure (ext_alloc _ _), fun kids q hq => by cases hq⟩
 | some F =>
   simp only [Option.isSome]
   go_wp2_with fail
   go_quiet (fail)
   go_wp2_with fail
   go_ret3
   refine ⟨xa, xm, xc, cn, rfl, (HP.out.pure (ext_alloc _ _)).drewN _, fun kids q hq => ?_⟩
   obtain ⟨h1, h2, h3⟩ := HK.out kids q hq
   exact ⟨h1, h2, own_ext (own_base h3 (by rw [World.size_alloc]; omega)) ((ext_alloc _ _).drewN _) (fun _ _ => id)⟩
