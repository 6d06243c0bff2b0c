/-
  Walked: Get, of the program and of the reference.
-/
import Derived.Test.YtnibjjpohhknkaaRet
namespace Go.Proofs.Ytnibjjpohhknkaa
open Go.RowKit
set_option linter.unusedVariables false
set_option linter.unusedSimpArgs false

set_option maxHeartbeats 1000000 in
set_option maxRecDepth 100000 in
theorem get_any (d : Nat) (v : V) (cs : List Value) (key : ByteArray) (w : World) (h : Lies w (d + 1) v cs) (hl : v.l.length ≤ 1000000) :
    Calls Try.prog 51 #[.agg cs.toArray, .string key] w (GetTo (v.get key) d w) := by
  have h4 := h.len
  have HF := Lib.hid (fun W (hP : Pure w W) => find_any d v cs key W (h.pure hP) hl)
  obtain ⟨w1, hw1⟩ : ∃ w1, w1 = w.alloc (.cells cs.toArray 24) := ⟨_, rfl⟩
  have hB1 : BlockIs w1 w.heap.size cs 24 := hw1 ▸ BlockIs.new w _ _
  have hP1 : Pure w w1 := hw1 ▸ ext_alloc w _
  obtain ⟨tb, htb⟩ : ∃ tb, tb = w.heap.size := ⟨_, rfl⟩
  have hs1 : w1.heap.size = tb + 1 := by rw [hw1, World.size_alloc, htb]
  have htw : w.heap.size ≤ tb := by omega
  rw [← htb] at hB1
  obtain ⟨w2, hw2⟩ : ∃ w2, w2 = w1.alloc (.cells zeroCs.toArray 24) := ⟨_, rfl⟩
  have hB1' : BlockIs w2 tb cs 24 := hw2 ▸ hB1.alloc _
  have hB2 : BlockIs w2 (tb + 1) zeroCs 24 := by rw [← hs1, hw2]; exact BlockIs.new w1 _ _
  have hP2 : Pure w w2 := hP1.pure (hw2 ▸ ext_alloc w1 _)
  have hR := hB1'.range
  have HW1 := Lib.hid hw1
  have HW2 := Lib.hid (show w2 = w1.alloc (.cells #[.int .i64 0, .int .i64 0, .string ⟨#[]⟩, .slice none 0 0] 24) from hw2)
  have HTb := Lib.hid htb
  have HS1 := Lib.hid hs1
  have HTw := Lib.hid htw
  have HL := Lib.hid h
  have HCs := Lib.hid (show cs.length = 4 from h4)
  clear hw1 htb hw2 hs1 h htw
  obtain ⟨F, hF⟩ : ∃ F, F = v.get key := ⟨_, rfl⟩
  rw [← hF]
  unfold V.get at hF
  have hlt := fun i => find_lt (v := v) (key := key) (i := i)
  obtain ⟨p, hp⟩ : ∃ p, p = v.find key := ⟨_, rfl⟩
  rw [← hp] at hF hlt HF
  have HFF := Lib.hid hF
  have HLt := Lib.hid hlt
  clear hF hp hlt
  obtain ⟨a, c, rows, hcs0, hlc, hcm, hnil, hK, hs⟩ := HL.out.kids
  have hcs := Lib.hid hcs0
  clear hcs0
  go_enter Try.func51, Try.ntmps51
  go_wp2_with (refine wpList_load_mid rfl 24 (.tmp 2) rfl tb 0 (by rw [HTb.out]; rfl) cs _ (by rw [← HW1.out, ← HW2.out]; exact hR) Try.underlying24 rfl (by rw [HCs.out]; kernel_rfl) ?_)
  rw [← HW1.out, ← HTb.out, ← HW2.out]
  refine (HF.out w2 hP2).mono ?_
  rintro e w3 ⟨rfl, hP3⟩
  have hB23 := hB2.ext hP3 id
  have hB13 := hB1'.ext hP3 id
  have hP03 := hP2.pure hP3
  have HTh := Lib.hid (hB23.there 4 rfl)
  clear HF hR hB1 hB2 hB1'
  cases p with
  | none =>
    have HFN : Hid (F = (nullV, false)) := Lib.hid HFF.out
    have hB3 := hB23.setAll zeroCs rfl
    have hP4 := Ext.setCells zeroCs 0 w3 hP03 (b := tb + 1) (fun h => by have := HTw.out; omega)
    have HB3 := Lib.hid hB3
    have HP4 := Lib.hid hP4
    clear hB3 hP4 hB23 hB13 hP03
    go_wp2_with (refine wpList_store_mid rfl 24 (.tmp 4) (.tmp 13) rfl (tb + 1) 0 zeroCs.toArray rfl rfl HTh.out size24 one_zero ?_; try simp only [List.toArray_toList])
    refine bodyPost_ret (results_row2 rfl _ _ (tb + 1) _ zeroCs _ rfl HB3.out Try.underlying24 rfl size24) rfl ?_
    exact ⟨zeroCs, by rw [HFN.out]; rfl, by rw [HFN.out]; exact lies_null _ _, HP4.out⟩
  | some i =>
    have HFN : Hid (F = (v.l[i + 1]?.getD nullV, true)) := Lib.hid HFF.out
    have hi := HLt.out i rfl
    obtain rfl := hcs.out
    have c3 : w3.cell? ⟨tb, 3, none⟩ = some (.slice a v.l.length c) := hB13.cell 3
    obtain ⟨l, hll⟩ : ∃ l, l = v.l := ⟨_, rfl⟩
    rw [← hll] at hi hl HFN hK c3
    obtain ⟨n, hn⟩ : ∃ n, n = l.length := ⟨_, rfl⟩
    rw [← hn] at hi hl c3
    have HN := Lib.hid hn
    have HFF2 := Lib.hid HFN.out
    by_cases he : i + 1 = n
    · have HF3 : Hid (F = (nullV, true)) := Lib.hid (by rw [HFN.out, List.getElem?_eq_none (by rw [← HN.out]; omega)]; rfl)
      have hie : (i : Int) + 1 = (n : Int) := by omega
      have hB3 := hB23.setAll zeroCs rfl
      have hP4 := Ext.setCells zeroCs 0 w3 hP03 (b := tb + 1) (fun h => by have := HTw.out; omega)
      have HB3 := Lib.hid hB3
      have HP4 := Lib.hid hP4
      clear hB3 hP4 hB23 hB13 hP03 hll hn HFN HFF2 HFF he
      simp only [optI]
      go_wp2_with (refine wpList_store_mid rfl 24 (.tmp 4) (.tmp 21) rfl (tb + 1) 0 zeroCs.toArray rfl rfl HTh.out size24 one_zero ?_; try simp only [List.toArray_toList])
      refine bodyPost_ret (results_row2 rfl _ _ (tb + 1) _ zeroCs _ rfl HB3.out Try.underlying24 rfl size24) rfl ?_
      exact ⟨zeroCs, by rw [HF3.out]; rfl, by rw [HF3.out]; exact lies_null _ _, HP4.out⟩
    · obtain ⟨u, hu⟩ : ∃ u, l[i + 1]? = some u := ⟨_, List.getElem?_eq_getElem (by rw [← HN.out]; omega)⟩
      have HF3 : Hid (F = (u, true)) := Lib.hid (by rw [HFN.out, hu]; rfl)
      obtain ⟨b, o, r, rfl, hr0, hr4, hL0⟩ := hK.at (i + 1) u hu
      have hr : w3.rangeAt b (o + (i + 1) * 4) r := fun j v hv => hP03.cell_some (hr0 j v hv) id
      have hL := hL0.pure hP03
      have HL0 := Lib.hid hL0
      have hie : ¬ (i : Int) + 1 = (n : Int) := by omega
      have hie2 : (i : Int) + 1 < (n : Int) := by omega
      have hone := hL.one
      have hP4 := Ext.setCells r 0 w3 hP03 (b := tb + 1) (fun h => by have := HTw.out; omega)
      have hP34 := Ext.setCells r 0 w3 (Ext.refl (fun k => k = tb + 1) w3) (b := tb + 1) (fun h => rfl)
      have hB3 := hB23.setAll r (by rw [hr4]; rfl)
      have hLL := hK
      have HB3 := Lib.hid hB3
      have HP4 := Lib.hid hP4
      have HOne := Lib.hid hone
      have HR4 := Lib.hid hr4
      have HSi : Hid ((Try.prog.info? 24).map (·.size) = some r.toArray.size) := Lib.hid (by rw [List.size_toArray, hr4]; exact size24)
      have HTh' : Hid (w3.there (tb + 1) 0 r.toArray.size) := Lib.hid (by rw [List.size_toArray, hr4]; exact HTh.out)
      have HKid := Lib.hid hK
      have HU := Lib.hid hu
      have hr' : w3.rangeAt b (o + (i + 1) * 4) r := hr
      clear hB3 hP4 hB23 hB13 hll hn HFN HFF2 HFF he hone hr4 hL hL0 hr0 hu hr hK hLL
      simp only [optI]
      go_wp2_with (first
        | (refine wpList_load_mid rfl 24 (.tmp 26) rfl b (o + (i + 1) * 4) rfl r _ hr' Try.underlying24 rfl (by rw [HR4.out]; kernel_rfl) ?_)
        | (refine wpList_store_mid rfl 24 (.tmp 4) (.tmp 27) rfl (tb + 1) 0 r.toArray rfl rfl HTh'.out HSi.out HOne.out ?_; try simp only [List.toArray_toList]))
      refine bodyPost_ret (results_row2 rfl _ _ (tb + 1) _ r _ rfl HB3.out Try.underlying24 rfl (by rw [HR4.out]; exact size24)) rfl ?_
      refine ⟨r, by rw [HF3.out]; rfl, ?_, HP4.out⟩
      rw [HF3.out]
      exact (HL0.out.pure HP4.out).more
set_option maxHeartbeats 1000000 in
set_option maxRecDepth 100000 in
theorem refget_any (d : Nat) (v : V) (cs : List Value) (key : ByteArray) (w : World) (h : Lies w (d + 1) v cs) (hl : v.l.length ≤ 1000000) :
    Calls Try.prog 52 #[.agg cs.toArray, .string key] w (GetTo (v.get key) d w) := by
  have h4 := h.len
  have HF := Lib.hid (fun W (hP : Pure w W) => reffind_any d v cs key W (h.pure hP) hl)
  obtain ⟨w1, hw1⟩ : ∃ w1, w1 = w.alloc (.cells cs.toArray 24) := ⟨_, rfl⟩
  have hB1 : BlockIs w1 w.heap.size cs 24 := hw1 ▸ BlockIs.new w _ _
  have hP1 : Pure w w1 := hw1 ▸ ext_alloc w _
  obtain ⟨tb, htb⟩ : ∃ tb, tb = w.heap.size := ⟨_, rfl⟩
  have hs1 : w1.heap.size = tb + 1 := by rw [hw1, World.size_alloc, htb]
  have htw : w.heap.size ≤ tb := by omega
  rw [← htb] at hB1
  obtain ⟨w2, hw2⟩ : ∃ w2, w2 = w1.alloc (.cells zeroCs.toArray 24) := ⟨_, rfl⟩
  have hB1' : BlockIs w2 tb cs 24 := hw2 ▸ hB1.alloc _
  have hB2 : BlockIs w2 (tb + 1) zeroCs 24 := by rw [← hs1, hw2]; exact BlockIs.new w1 _ _
  have hP2 : Pure w w2 := hP1.pure (hw2 ▸ ext_alloc w1 _)
  have hR := hB1'.range
  have HW1 := Lib.hid hw1
  have HW2 := Lib.hid (show w2 = w1.alloc (.cells #[.int .i64 0, .int .i64 0, .string ⟨#[]⟩, .slice none 0 0] 24) from hw2)
  have HTb := Lib.hid htb
  have HS1 := Lib.hid hs1
  have HTw := Lib.hid htw
  have HL := Lib.hid h
  have HCs := Lib.hid (show cs.length = 4 from h4)
  clear hw1 htb hw2 hs1 h htw
  obtain ⟨F, hF⟩ : ∃ F, F = v.get key := ⟨_, rfl⟩
  rw [← hF]
  unfold V.get at hF
  have hlt := fun i => find_lt (v := v) (key := key) (i := i)
  obtain ⟨p, hp⟩ : ∃ p, p = v.find key := ⟨_, rfl⟩
  rw [← hp] at hF hlt HF
  have HFF := Lib.hid hF
  have HLt := Lib.hid hlt
  clear hF hp hlt
  obtain ⟨a, c, rows, hcs0, hlc, hcm, hnil, hK, hs⟩ := HL.out.kids
  have hcs := Lib.hid hcs0
  clear hcs0
  go_enter Try.func52, Try.ntmps52
  go_wp2_with (refine wpList_load_mid rfl 24 (.tmp 2) rfl tb 0 (by rw [HTb.out]; rfl) cs _ (by rw [← HW1.out, ← HW2.out]; exact hR) Try.underlying24 rfl (by rw [HCs.out]; kernel_rfl) ?_)
  rw [← HW1.out, ← HTb.out, ← HW2.out]
  refine (HF.out w2 hP2).mono ?_
  rintro e w3 ⟨rfl, hP3⟩
  have hB23 := hB2.ext hP3 id
  have hB13 := hB1'.ext hP3 id
  have hP03 := hP2.pure hP3
  have HTh := Lib.hid (hB23.there 4 rfl)
  clear HF hR hB1 hB2 hB1'
  cases p with
  | none =>
    have HFN : Hid (F = (nullV, false)) := Lib.hid HFF.out
    have hB3 := hB23.setAll zeroCs rfl
    have hP4 := Ext.setCells zeroCs 0 w3 hP03 (b := tb + 1) (fun h => by have := HTw.out; omega)
    have HB3 := Lib.hid hB3
    have HP4 := Lib.hid hP4
    clear hB3 hP4 hB23 hB13 hP03
    go_wp2_with (refine wpList_store_mid rfl 24 (.tmp 4) (.tmp 12) rfl (tb + 1) 0 zeroCs.toArray rfl rfl HTh.out size24 one_zero ?_; try simp only [List.toArray_toList])
    refine bodyPost_ret (results_row2 rfl _ _ (tb + 1) _ zeroCs _ rfl HB3.out Try.underlying24 rfl size24) rfl ?_
    exact ⟨zeroCs, by rw [HFN.out]; rfl, by rw [HFN.out]; exact lies_null _ _, HP4.out⟩
  | some i =>
    have HFN : Hid (F = (v.l[i + 1]?.getD nullV, true)) := Lib.hid HFF.out
    have hi := HLt.out i rfl
    obtain rfl := hcs.out
    have c3 : w3.cell? ⟨tb, 3, none⟩ = some (.slice a v.l.length c) := hB13.cell 3
    obtain ⟨l, hll⟩ : ∃ l, l = v.l := ⟨_, rfl⟩
    rw [← hll] at hi hl HFN hK c3
    obtain ⟨n, hn⟩ : ∃ n, n = l.length := ⟨_, rfl⟩
    rw [← hn] at hi hl c3
    have HN := Lib.hid hn
    have HFF2 := Lib.hid HFN.out
    by_cases he : i + 1 = n
    · have HF3 : Hid (F = (nullV, true)) := Lib.hid (by rw [HFN.out, List.getElem?_eq_none (by rw [← HN.out]; omega)]; rfl)
      have hie : (i : Int) + 1 = (n : Int) := by omega
      have hB3 := hB23.setAll zeroCs rfl
      have hP4 := Ext.setCells zeroCs 0 w3 hP03 (b := tb + 1) (fun h => by have := HTw.out; omega)
      have HB3 := Lib.hid hB3
      have HP4 := Lib.hid hP4
      clear hB3 hP4 hB23 hB13 hP03 hll hn HFN HFF2 HFF he
      simp only [optI]
      go_wp2_with (refine wpList_store_mid rfl 24 (.tmp 4) (.tmp 19) rfl (tb + 1) 0 zeroCs.toArray rfl rfl HTh.out size24 one_zero ?_; try simp only [List.toArray_toList])
      refine bodyPost_ret (results_row2 rfl _ _ (tb + 1) _ zeroCs _ rfl HB3.out Try.underlying24 rfl size24) rfl ?_
      exact ⟨zeroCs, by rw [HF3.out]; rfl, by rw [HF3.out]; exact lies_null _ _, HP4.out⟩
    · obtain ⟨u, hu⟩ : ∃ u, l[i + 1]? = some u := ⟨_, List.getElem?_eq_getElem (by rw [← HN.out]; omega)⟩
      have HF3 : Hid (F = (u, true)) := Lib.hid (by rw [HFN.out, hu]; rfl)
      obtain ⟨b, o, r, rfl, hr0, hr4, hL0⟩ := hK.at (i + 1) u hu
      have hr : w3.rangeAt b (o + (i + 1) * 4) r := fun j v hv => hP03.cell_some (hr0 j v hv) id
      have hL := hL0.pure hP03
      have HL0 := Lib.hid hL0
      have hie : ¬ (i : Int) + 1 = (n : Int) := by omega
      have hie2 : (i : Int) + 1 < (n : Int) := by omega
      have hone := hL.one
      have hP4 := Ext.setCells r 0 w3 hP03 (b := tb + 1) (fun h => by have := HTw.out; omega)
      have hP34 := Ext.setCells r 0 w3 (Ext.refl (fun k => k = tb + 1) w3) (b := tb + 1) (fun h => rfl)
      have hB3 := hB23.setAll r (by rw [hr4]; rfl)
      have hLL := hK
      have HB3 := Lib.hid hB3
      have HP4 := Lib.hid hP4
      have HOne := Lib.hid hone
      have HR4 := Lib.hid hr4
      have HSi : Hid ((Try.prog.info? 24).map (·.size) = some r.toArray.size) := Lib.hid (by rw [List.size_toArray, hr4]; exact size24)
      have HTh' : Hid (w3.there (tb + 1) 0 r.toArray.size) := Lib.hid (by rw [List.size_toArray, hr4]; exact HTh.out)
      have HKid := Lib.hid hK
      have HU := Lib.hid hu
      have hr' : w3.rangeAt b (o + (i + 1) * 4) r := hr
      clear hB3 hP4 hB23 hB13 hll hn HFN HFF2 HFF he hone hr4 hL hL0 hr0 hu hr hK hLL
      simp only [optI]
      go_wp2_with (first
        | (refine wpList_load_mid rfl 24 (.tmp 24) rfl b (o + (i + 1) * 4) rfl r _ hr' Try.underlying24 rfl (by rw [HR4.out]; kernel_rfl) ?_)
        | (refine wpList_store_mid rfl 24 (.tmp 4) (.tmp 25) rfl (tb + 1) 0 r.toArray rfl rfl HTh'.out HSi.out HOne.out ?_; try simp only [List.toArray_toList]))
      refine bodyPost_ret (results_row2 rfl _ _ (tb + 1) _ r _ rfl HB3.out Try.underlying24 rfl (by rw [HR4.out]; exact size24)) rfl ?_
      refine ⟨r, by rw [HF3.out]; rfl, ?_, HP4.out⟩
      rw [HF3.out]
      exact (HL0.out.pure HP4.out).more
end Go.Proofs.Ytnibjjpohhknkaa
