/-
  Walked: works.
-/
import Derived.Test.YtiakphjkcpbccaaWkPl
namespace Go.Proofs.Ytiakphjkcpbccaa
open Go.RowKit
set_option linter.unusedVariables false

theorem Top.off_new {w0 W : World} {d : Nat} {v : V} {cs : List Value} {b : Nat} (h : Top w0 W d v cs) (hb : W.heap.size ≤ b) : v.l ≠ [] → Off b cs := by
  intro hne x n c hx e
  obtain ⟨a, c', xs, rfl, h2, h3, h4, h5, h6, h7⟩ := h
  cases hx
  have hl : 0 < xs.length := by rw [h5.len]; have := List.length_pos_iff.2 hne; omega
  obtain ⟨b', o, hb', hc⟩ := h6 0 _ (List.getElem?_eq_getElem hl)
  have := World.block_lt_of_cell? W _ hc
  cases hb'
  simp only at this e
  omega
set_option maxHeartbeats 2000000 in
set_option maxRecDepth 100000 in
theorem works_any (w : World) : Calls Try.prog 15 #[] w (BoolTo true w) := by
  go_enter Try.func15, Try.ntmps15
  go_wp2_with fail
  refine (name_any bB w).mono ?_
  rintro e w1 ⟨rfl, hP1⟩
  go_wp2_with fail
  refine (ref_any 3 w1).mono ?_
  rintro e w2 ⟨rfl, hP2⟩
  go_wp2_with fail
  refine (name_any bA w2).mono ?_
  rintro e w3 ⟨rfl, hP3⟩
  go_wp2_with fail
  refine (int_any 7 w3).mono ?_
  rintro e w4 ⟨rfl, hP4⟩
  have hP04 : Pure w w4 := ((hP1.pure hP2).pure hP3).pure hP4
  clear hP1 hP2 hP3 hP4
  go_wp2_with fail
  obtain ⟨xs, hxs⟩ : ∃ z, z = ([.int .i64 5, .int .i64 0, .string bB, .slice none 0 0, .int .i64 8, .int .i64 3, .string ⟨#[]⟩, .slice none 0 0, .int .i64 5, .int .i64 0, .string bA, .slice none 0 0, .int .i64 2, .int .i64 7, .string ⟨#[]⟩, .slice none 0 0] : List Value) := ⟨_, rfl⟩
  obtain ⟨w5, hw5⟩ : ∃ z, z = w4.alloc (.cells xs.toArray 24) := ⟨_, rfl⟩
  have hP5 : Pure w4 w5 := hw5 ▸ ext_alloc w4 _
  have hR5 : RowOf w5 (some ⟨w4.heap.size, 0, none⟩) xs := hw5 ▸ row_at xs rfl rfl
  have hF5 : Fit w5 1 wkL xs := by
    have h1 := Fit.single (Lies.leaf w5 0 5 0 bB (by decide))
    have h2 := Fit.single (Lies.leaf w5 0 8 3 ⟨#[]⟩ (by decide))
    have h3 := Fit.single (Lies.leaf w5 0 5 0 bA (by decide))
    have h4 := Fit.single (Lies.leaf w5 0 2 7 ⟨#[]⟩ (by decide))
    rw [hxs]
    exact h1.append (h2.append (h3.append h4))
  have HDo := Lib.hid (dictof_any 0 wkL xs (some ⟨w4.heap.size, 0, none⟩) 4 4 w5 hF5 hR5 rfl (by decide))
  have HW5 : Hid (w5 = w4.alloc (.cells #[.int .i64 5, .int .i64 0, .string bB, .slice none 0 0, .int .i64 8, .int .i64 3, .string ⟨#[]⟩, .slice none 0 0, .int .i64 5, .int .i64 0, .string bA, .slice none 0 0, .int .i64 2, .int .i64 7, .string ⟨#[]⟩, .slice none 0 0] 24)) := Lib.hid (by rw [hw5, hxs])
  have HP5 := Lib.hid hP5
  clear hw5 hP5 hR5 hF5 hxs
  rw [← HW5.out]
  refine HDo.out.mono ?_
  rintro e w6 ⟨cs, rfl, hT, hP6, _⟩
  rw [wk_dict] at hT
  have hL6 := hT.lies hP6
  obtain ⟨hth, hB7, hP7⟩ := put_new (W := w6) _ rfl hL6
  have hone := hT.one
  have hc4 := hT.len
  obtain ⟨w7, hw7⟩ : ∃ z, z = (w6.alloc (.cells zeroCs.toArray 24)).setCells w6.heap.size 0 cs := ⟨_, rfl⟩
  rw [← hw7] at hB7 hP7
  obtain ⟨tb, htb⟩ : ∃ z, z = w6.heap.size := ⟨_, rfl⟩
  rw [← htb] at hB7
  have hL7 := hL6.pure hP7
  have hR7 := hB7.range
  have hR7' : w7.rangeAt w6.heap.size 0 cs := htb ▸ hR7
  have HTh := Lib.hid (show (w6.alloc (.cells #[.int .i64 0, .int .i64 0, .string ⟨#[]⟩, .slice none 0 0] 24)).there w6.heap.size 0 cs.toArray.size by rw [show cs.toArray.size = 4 by simpa using hc4]; exact hth)
  have HSi : Hid ((Try.prog.info? 24).map (·.size) = some cs.toArray.size) := Lib.hid (by rw [List.size_toArray, hc4]; exact size24)
  have HOne := Lib.hid hone
  have HW7 : Hid (w7 = (w6.alloc (.cells #[.int .i64 0, .int .i64 0, .string ⟨#[]⟩, .slice none 0 0] 24)).setCells w6.heap.size 0 cs.toArray.toList) := Lib.hid (by rw [hw7]; rfl)
  have HTb := Lib.hid htb
  have htb' := htb
  have HC4 := Lib.hid hc4
  have HGe := Lib.hid (get_any 1 wkD cs bB w7 hL7 (by decide))
  have HP07 : Hid (Pure w w7) := Lib.hid (((hP04.pure HP5.out).pure hP6).pure hP7)
  have HL7 := Lib.hid hL7
  have HB7 := Lib.hid hB7
  clear hth hone hw7 htb hc4 hT hL6 hP6 hP7 hL7 hB7 HDo
  go_wp2_with (first
    | (with_reducible refine at_store 24 (.tmp 1) (.tmp 9) ?_; refine wpList_store_mid rfl 24 (.tmp 1) (.tmp 9) rfl w6.heap.size 0 cs.toArray rfl rfl HTh.out HSi.out HOne.out ?_; rw [← HW7.out])
    | (with_reducible refine at_load 24 (.tmp 1) ?_; refine wpList_load_mid rfl 24 (.tmp 1) rfl w6.heap.size 0 rfl cs _ hR7' Try.underlying24 rfl (by rw [HC4.out]; kernel_rfl) ?_))
  refine HGe.out.mono ?_
  rintro e w8 ⟨cs2, rfl, hL8, hP8⟩
  rw [wk_get] at hL8 ⊢
  obtain ⟨a2, c2, _, hcs2, _⟩ := hL8.kids
  have hcs2' : cs2 = [.int .i64 8, .int .i64 3, .string ⟨#[]⟩, .slice a2 0 c2] := hcs2
  subst hcs2'
  clear hcs2
  obtain ⟨a, c, rows, hcs, hlc, hcm, hnil, hK, hs⟩ := (HL7.out.pure hP8).kids
  have hcs' : cs = [.int .i64 7, .int .i64 0, .string ⟨#[]⟩, .slice a 4 c] := hcs
  clear hcs
  have hB8 := HB7.out.ext hP8 id
  obtain ⟨b, o, a', c', ha, e0, e1, e2, e3⟩ := hK.cells 0 (nameV bA) rfl
  subst ha
  obtain ⟨w9, hw9⟩ : ∃ z, z = w8.alloc (.cells #[.int .i64 8, .int .i64 3, .string ⟨#[]⟩, .slice a2 0 c2] 24) := ⟨_, rfl⟩
  have hP9 : Pure w8 w9 := hw9 ▸ ext_alloc w8 _
  have hB9 := hB8.ext hP9 id
  rw [hcs'] at hB9
  rw [htb'] at hB9
  have d0 : w9.cell? ⟨w8.heap.size, 0, none⟩ = some (.int .i64 8) := by rw [hw9]; exact cell_new w8 _ _ _ 0
  have d1 : w9.cell? ⟨w8.heap.size, 1, none⟩ = some (.int .i64 3) := by rw [hw9]; exact cell_new w8 _ _ _ 1
  have c3 : w9.cell? ⟨w6.heap.size, 3, none⟩ = some (.slice (some ⟨b, o, none⟩) 4 c) := hB9.cell 3
  have e2' : w9.cell? ⟨b, o + 2, none⟩ = some (.string bA) := hP9.cell_some (show w8.cell? ⟨b, o + 2, none⟩ = _ by have := e2; rw [show o + 0 * 4 + 2 = o + 2 by omega] at this; exact this) id
  have hL9 := (HL7.out.pure hP8).pure hP9
  rw [hcs'] at hL9
  have HCh := Lib.hid (fun W (hP : Pure w9 W) => check_any 2 wkD _ W (hL9.pure hP) (by decide))
  have HDp := Lib.hid (fun W (hP : Pure w9 W) => depth_any 2 wkD _ W (hL9.pure hP) (by decide))
  have HP9 := Lib.hid ((HP07.out.pure hP8).pure hP9)
  have HB9 := Lib.hid hB9
  have H9 : Hid (w8.alloc (.cells #[.int .i64 8, .int .i64 3, .string ⟨#[]⟩, .slice a2 0 c2] 24) = w9) := Lib.hid hw9.symm
  have c0 : w9.cell? ⟨w6.heap.size, 0, none⟩ = some (.int .i64 7) := hB9.cell 0
  have c1 : w9.cell? ⟨w6.heap.size, 1, none⟩ = some (.int .i64 0) := hB9.cell 1
  have c2' : w9.cell? ⟨w6.heap.size, 2, none⟩ = some (.string ⟨#[]⟩) := hB9.cell 2
  rw [hw9] at c0 c1 c2' c3 d0 d1 e2'
  have hBn : (bA.toList == [65]) = true := by kernel_rfl
  clear hcs' hw9 hB9 hP9 hL9 e0 e1 e2 e3 hK hB8
  go_wp2_with fail
  rw [H9.out]
  refine (HCh.out w9 (Ext.refl _ _)).mono ?_
  rintro e w10 ⟨rfl, hP10⟩
  rw [wk_check]
  have hB10 := HB9.out.ext hP10 id
  have m0 : w10.cell? ⟨w6.heap.size, 0, none⟩ = some (.int .i64 7) := hB10.cell 0
  have m1 : w10.cell? ⟨w6.heap.size, 1, none⟩ = some (.int .i64 0) := hB10.cell 1
  have m2 : w10.cell? ⟨w6.heap.size, 2, none⟩ = some (.string ⟨#[]⟩) := hB10.cell 2
  have m3 : w10.cell? ⟨w6.heap.size, 3, none⟩ = some (.slice (some ⟨b, o, none⟩) 4 c) := hB10.cell 3
  clear hB10 c0 c1 c2' c3 d0 d1 e2' HB9
  go_wp2_with fail
  refine (HDp.out w10 hP10).mono ?_
  rintro e w11 ⟨rfl, hP11⟩
  rw [wk_depth]
  go_wp2_with fail
  go_ret
  exact ⟨rfl, (HP9.out.pure hP10).pure hP11⟩
end Go.Proofs.Ytiakphjkcpbccaa
