import Derived.Test.YtipmbcalnnomjaaGreatLiesInVw
import Derived.Test.YtipmbcalnnomjaaGreatSqVw
set_option linter.unusedVariables false
set_option linter.unusedSimpArgs false
set_option maxRecDepth 100000
namespace Go.Proofs.YtipmbcalnnomjaaGreat
open Go.RowKit
set_option maxHeartbeats 1000000 in
theorem name_any (s : ByteArray) (w : World) : Calls Tryz.prog 132 #[.string s] w (fun e w' => e = .returned (.agg #[.int .i64 5, .int .i64 0, .string s, .slice none 0 0]) ∧ Pure w w') := by
 go_enter Tryz.func132, Tryz.ntmps132
 go_wp2_with fail
 refine bodyPost_ret (results_row1 rfl _ _ w.heap.size _ [.int .i64 5, .int .i64 0, .string s, .slice none 0 0] _ rfl (BlockIs.new w _ _) Tryz.underlying48 rfl size24) rfl ?_
 exact ⟨rfl, ext_alloc w _⟩
def V.putAt (v : V) (key : ByteArray) (x : V) : Option Nat → V
 | some i => .mk v.kind v.n v.s (v.l.take (i + 1) ++ ([x] ++ v.l.drop (min (i + 2) v.l.length)))
 | none => .mk v.kind v.n v.s (v.l.take (placeOf v.l key) ++ ([nameV key, x] ++ v.l.drop (placeOf v.l key)))
theorem put_eq (v : V) (key : ByteArray) (x : V) : v.put key x = if v.kind = 7 then v.putAt key x (nextP (hit key) v.l) else v := by
 unfold V.put V.putAt
 cases nextP (hit key) v.l <;> rfl
theorem fold_us (us : List Value) (h : us.length = 4) (z0 z1 z2 z3 : Value) : List.foldl (fun (cs : Array Value) (x : Value × Nat) => cs.setIfInBounds x.snd x.fst) #[z0, z1, z2, z3] us.zipIdx = us.toArray := by
 match us, h with
 | [a, b, c, d], _ => simp [List.zipIdx]
theorem gtr_run (a b : ByteArray) (B : Bool) (h : Op.bytesLess b.toList a.toList = B) (W : World) : (binOp .gtr 9 (.string a) (.string b)).run Tryz.prog W = .ok (.bool B) W := by
 simp only [binOp]
 show Sem.run _ (Op.stringOp .gtr a b) W = _
 simp [Op.stringOp, bl_total, h]
theorem placeOf_at (l : List V) (key : ByteArray) : placeOf l key = (placeAt (over key) l 0).getD l.length := by rw [placeAt_zero]; rfl
set_option maxHeartbeats 4000000 in
theorem put_top (w0 : World) (d : Nat) (v : V) (cs : List Value) (key : ByteArray) (u : V) (us : List Value) (w : World) (hP0 : Pure w0 w) (h : Top w0 w (d + 1) v cs) (hu : Lies w0 (d + 1) u us) (hl : v.l.length ≤ 90000) (hk : key.size ≤ maxLen) :
 Calls Tryz.prog 103 #[.agg cs.toArray, .string key, .agg us.toArray] w (ValTop w0 (v.put key u) (d + 1) cs w) := by
 obtain ⟨w1, hw1⟩ : ∃ w1, w1 = w.alloc (.cells cs.toArray 48) := ⟨_, rfl⟩
 have hB1 : BlockIs w1 w.heap.size cs 48 := hw1 ▸ BlockIs.new w _ _
 have hP1 : Pure w w1 := hw1 ▸ ext_alloc w _
 obtain ⟨tb, htb⟩ : ∃ tb, tb = w.heap.size := ⟨_, rfl⟩
 have hs1 : w1.heap.size = tb + 1 := by rw [hw1, World.size_alloc, htb]
 have htw : w.heap.size ≤ tb := by omega
 rw [← htb] at hB1
 obtain ⟨w2, hw2⟩ : ∃ w2, w2 = w1.alloc (.cells us.toArray 48) := ⟨_, rfl⟩
 have hs2 : w2.heap.size = tb + 2 := by rw [hw2, World.size_alloc, hs1]
 have hB12 : BlockIs w2 tb cs 48 := hw2 ▸ hB1.alloc _
 have hB22 : BlockIs w2 (tb + 1) us 48 := by rw [← hs1, hw2]; exact BlockIs.new w1 _ _
 have hP2 : Pure w w2 := hP1.pure (hw2 ▸ ext_alloc w1 _)
 obtain ⟨w3, hw3⟩ : ∃ w3, w3 = w2.alloc (.cells zeroCs.toArray 48) := ⟨_, rfl⟩
 have hs3 : w3.heap.size = tb + 3 := by rw [hw3, World.size_alloc, hs2]
 have hB13 : BlockIs w3 tb cs 48 := hw3 ▸ hB12.alloc _
 have hB23 : BlockIs w3 (tb + 1) us 48 := hw3 ▸ hB22.alloc _
 have hB33 : BlockIs w3 (tb + 2) zeroCs 48 := by rw [← hs2, hw3]; exact BlockIs.new w2 _ _
 have hP3 : Pure w w3 := hP2.pure (hw3 ▸ ext_alloc w2 _)
 have HW : Hid (((w.alloc (.cells cs.toArray 48)).alloc (.cells us.toArray 48)).alloc (.cells #[.int .i64 0, .int .i64 0, .string ⟨#[]⟩, .slice none 0 0] 48) = w3) := qh (by rw [hw3, hw2, hw1]; rfl)
 have HTb := qh htb
 have HTw := qh htw
 have HS3 := qh hs3
 have HL := qh h
 have HU := qh hu
 have HUl := qh hu.len
 have HUo := qh hu.one
 have HOne := qh h.one
 have HCs := qh (show cs.length = 4 from h.len)
 clear hw1 hw2 hw3 htb hs1 hs2 hs3 h hu htw hB1 hB12 hB22 hP1 hP2
 obtain ⟨F, hF⟩ : ∃ F, F = v.put key u := ⟨_, rfl⟩
 rw [← hF]
 rw [put_eq] at hF
 have HFF := qh hF
 clear hF
 obtain ⟨a, c, xs, hcs0, hlc, hcm, hnil, hfit, hrow, hs⟩ := HL.out.parts
 have hcs := qh hcs0
 have c0 : w3.cell? ⟨tb, 0, none⟩ = some (.int .i64 v.kind) := by rw [hB13.cell 0, hcs0]; rfl
 have c3 : w3.cell? ⟨tb, 3, none⟩ = some (.slice a v.l.length c) := by rw [hB13.cell 3, hcs0]; rfl
 have z3 : w3.frozen? ⟨tb, 3, none⟩ = false := hB13.free 3
 clear hcs0
 by_cases h7 : v.kind = 7
 ·have h7' : (v.kind != 7) = false := by simp [h7]
  obtain ⟨n, hn⟩ : ∃ n, n = v.l.length := ⟨_, rfl⟩
  have hxl := hfit.len
  have hone := hfit.one
  have hfd : v.find key = nextP (hit key) v.l := by rw [V.find, if_pos h7]
  rw [← hn] at hnil hlc hl hxl c3
  have HCl := qh (clone_any a n c xs w3 hxl (hrow.ext hP3 (fun _ _ => id)) hnil (Nat.le_trans hl (by decide)) hone)
  obtain ⟨p, hp⟩ : ∃ p, p = nextP (hit key) v.l := ⟨_, rfl⟩
  have HFN : Hid (F = v.putAt key u p) := qh (by rw [HFF.out, if_pos h7, ← hp])
  have HFd := qh (hfd.trans hp.symm)
  have HPl : Hid (∀ i, p = some i → i < n) := qh (fun i hi => by rw [hn]; exact (nextP_spec _ _ (hp.symm.trans hi)).1)
  have HN := qh hn
  have HXl := qh hxl
  have HXo := qh hone
  have HFit := qh hfit
  have HB13 := qh hB13
  have HB23 := qh hB23
  have HB33 := qh hB33
  have HP3 := qh hP3
  have c0w : (((w.alloc (.cells cs.toArray 48)).alloc (.cells us.toArray 48)).alloc (.cells #[.int .i64 0, .int .i64 0, .string ⟨#[]⟩, .slice none 0 0] 48)).cell? ⟨w.heap.size, 0, none⟩ = some (.int .i64 v.kind) := by rw [HW.out, ← HTb.out]; exact c0
  have c3w : (((w.alloc (.cells cs.toArray 48)).alloc (.cells us.toArray 48)).alloc (.cells #[.int .i64 0, .int .i64 0, .string ⟨#[]⟩, .slice none 0 0] 48)).cell? ⟨w.heap.size, 3, none⟩ = some (.slice a n c) := by rw [HW.out, ← HTb.out]; exact c3
  clear hxl hone hfit hp hfd hB13 hB23 hB33 hP3 hn h7 HFF hrow
  obtain ⟨k0, hk0⟩ : ∃ k, k = v.kind := ⟨_, rfl⟩
  rw [← hk0] at h7' c0w c0
  have HK0 := qh hk0
  clear hk0
  go_enter Tryz.func103, Tryz.ntmps103
  go_wp2_with fail
  rw [HW.out, ← HTb.out]
  refine HCl.out.mono ?_
  rintro e w4 ⟨a4, c4, rfl, hO4, hE4⟩
  have hB14 := HB13.out.ext hE4 id
  have c3b : w4.cell? ⟨tb, 3, none⟩ = some (.slice a n c) := hB14.cell 3 |>.trans (by rw [hcs.out, ← HN.out]; rfl)
  have z3b : w4.frozen? ⟨tb, 3, none⟩ = false := hB14.free 3
  obtain ⟨w5, hw5⟩ : ∃ z, z = w4.setCell ⟨tb, 3, none⟩ (.slice a4 n c4) := ⟨_, rfl⟩
  obtain ⟨cs5, hcs5⟩ : ∃ z, z = cs.set 3 (.slice a4 n c4) := ⟨_, rfl⟩
  have hcs5' : cs5 = [.int .i64 v.kind, .int .i64 v.n, .string v.s, .slice a4 n c4] := by rw [hcs5, hcs.out]; rfl
  have hX45 : Ext (fun k => k = tb) w4 w5 := by rw [hw5]; exact Ext.setCell (S := fun k => k = tb) (Ext.refl _ _) (p := ⟨tb, 3, none⟩) (fun _ => rfl) _
  have hB15 : BlockIs w5 tb cs5 48 := by rw [hw5, hcs5]; exact hB14.set 3 _
  have hB25 : BlockIs w5 (tb + 1) us 48 := (HB23.out.ext hE4 id).ext hX45 (by omega)
  have hB35 : BlockIs w5 (tb + 2) zeroCs 48 := (HB33.out.ext hE4 id).ext hX45 (by omega)
  have hP5 : Pure w w5 := (HP3.out.pure hE4).trans hX45 (fun k hk e => by have := HTw.out; omega)
  have hO5 : w5.ownsRow w3.heap.size 48 4 (.slice a4 n c4) n xs := own_ext hO4 hX45 (fun g hg e => by have h1 := (hO4.lt g hg).1; have h2 := HS3.out; omega)
  have hL5 : Lies w5 (d + 2) v cs5 := by
   obtain ⟨a9, c9, he9, f1, f2, f3, _⟩ := own_form hO5
   cases he9
   rw [HN.out] at hO5 f1 hcs5'
   have ht : Top w0 w5 (d + 1) v cs5 := ⟨a4, c4, xs, hcs5', f1, f2, fun e => ⟨by have := f3 e; omega, f3 e⟩, HFit.out, own_row hO5, hs⟩
   exact ht.lies (hP0.pure hP5)
  have HFi := qh (find_any (d + 1) v cs5 key w5 hL5 (by rw [← HN.out]; omega))
  have hR5 := hB15.range
  have HW5 := qh hw5
  have HC5 := qh hcs5'
  have HB15 := qh hB15
  have HB25 := qh hB25
  have HB35 := qh hB35
  have HP5 := qh hP5
  have HO5 := qh hO5
  have HL5l := qh hL5.len
  clear hw5 hcs5 hcs5' hX45 hB15 hB25 hB35 hP5 hO5 hL5 hO4 hE4 hB14 HCl
  go_wp2_with (with_reducible refine at_load 48 (.tmp 3) ?_; refine wpList_load_mid rfl 48 (.tmp 3) rfl tb 0 rfl cs5 _ (by rw [← HW5.out]; exact hR5) Tryz.underlying48 rfl (by rw [HL5l.out]; kernel_rfl) ?_; rw [← HW5.out])
  refine HFi.out.mono ?_
  rintro e w6 ⟨rfl, hP56⟩
  have hs6 : tb + 3 ≤ w6.heap.size := by have h1 := HP3.out.size; have h2 := HS3.out; have h3 := HB35.out.lt; have h4 := hP56.size; omega
  have hB16 := HB15.out.ext hP56 id
  have c3d : w6.cell? ⟨tb, 3, none⟩ = some (.slice a4 n c4) := (hB16.cell 3).trans (by rw [HC5.out]; rfl)
  have hB26 := HB25.out.ext hP56 id
  have hB36 := HB35.out.ext hP56 id
  have hO6 : w6.ownsRow w3.heap.size 48 4 (.slice a4 n c4) n xs := own_ext HO5.out hP56 (fun _ _ => id)
  have hP6 := HP5.out.pure hP56
  have HB16 := qh hB16
  have HB26 := qh hB26
  have HB36 := qh hB36
  have HO6 := qh hO6
  have HP6 := qh hP6
  have HTb6 := qh hs6
  have hR26 := hB26.range
  rw [HFd.out]
  clear HFi HB15 HB25 HB35 HO5 HP5 hP56 hB16 hB26 hB36 hO6 hP6 c3b z3b hR5
  cases p with
  | some i =>
    have hi := HPl.out i rfl
    simp only [optI]
    obtain ⟨j, hj⟩ : ∃ j, j = min (i + 2) n := ⟨_, rfl⟩
    obtain ⟨i1, hi1⟩ : ∃ k, k = i + 1 := ⟨_, rfl⟩
    have hji : (i : Int) + 1 = (i1 : Int) := by omega
    have hwi : IntKind.i64.wrap (i1 : Int) = (i1 : Int) := by rw [IntKind.wrap_i64]; omega
    have hw1 : IntKind.i64.wrap ((i : Int) + 1) = (i1 : Int) := by rw [IntKind.wrap_i64]; omega
    obtain ⟨w7, hw7⟩ : ∃ z, z = w6.alloc (.cells us.toArray 48) := ⟨_, rfl⟩
    have hE67 : Pure w6 w7 := hw7 ▸ ext_alloc w6 _
    have hB77 : BlockIs w7 w6.heap.size us 48 := hw7 ▸ BlockIs.new w6 _ _
    have hO7 := own_ext HO6.out hE67 (fun _ _ => id)
    have hB17 := HB16.out.ext hE67 id
    have hB37 := HB36.out.ext hE67 id
    have HRp := qh (replace_any w3.heap.size a4 n c4 i1 j xs w6.heap.size us w7 hO7 hB77 HUl.out (Nat.le_trans hl (by decide)) (by omega) (by omega) (by omega) (by have h1 := hE67.size; have h2 := HS3.out; omega) (fun x hx => by have := HUo.out; rw [Array.all_eq_true'] at this; exact this x (by simpa using hx)) HXo.out)
    have HP7 := qh (HP6.out.pure hE67)
    have HB17 := qh hB17
    have HB37 := qh hB37
    have HO7 := qh hO7
    have HW7 := qh hw7
    have HJ := qh hj
    have HI1 := qh hi1
    have HFN2 : Hid (F = .mk v.kind v.n v.s (v.l.take i1 ++ ([u] ++ v.l.drop j))) := qh (by rw [HFN.out, hi1, hj, HN.out]; rfl)
    have HHi := qh hi
    have HHl := qh hl
    clear hE67 hw7 hB77 hO7 hB17 hB37 HFN hi1
    by_cases hni : (n : Int) < (i : Int) + 2
    ·have hjn : (n : Int) = (j : Int) := by omega
     have hjn2 : n = j := by omega
     clear hj hjn
     subst hjn2
     rw [show i1 + 1 + (n - n) = i1 + 1 from by omega] at HRp
     have hmn : min ((i : Int) + 2) (n : Int) = (n : Int) := by omega
     have hw2 : IntKind.i64.wrap ((i : Int) + 2) = (i : Int) + 2 := by rw [IntKind.wrap_i64]; omega
     have hul := HUl.out
     go_wp2_with (with_reducible refine at_load 48 (.tmp 5) ?_; refine wpList_load_mid rfl 48 (.tmp 5) rfl (tb + 1) 0 rfl us _ hR26 Tryz.underlying48 rfl (by rw [HUl.out]; kernel_rfl) ?_)
     rw [fold_us us HUl.out, ← HW7.out]
     clear hul
     refine HRp.out.mono ?_
     rintro e w8 ⟨a8, c8, rfl, hO8, hE8⟩
     have hn1 : ¬ (Value.slice a4 n c4).ownBlock = some tb := fun e => by have h1 := (HO7.out.lt _ e).1; have h2 := HS3.out; omega
     have hn2 : ¬ (Value.slice a4 n c4).ownBlock = some (tb + 2) := fun e => by have h1 := (HO7.out.lt _ e).1; have h2 := HS3.out; omega
     have hB18 := HB17.out.ext hE8 hn1
     have hB38 := HB37.out.ext hE8 hn2
     have hP8 : Pure w w8 := HP7.out.trans hE8 (fun k hk e => by have h1 := (HO7.out.lt _ e).1; have h2 := HS3.out; have h3 := HTw.out; omega)
     have c3e : w8.cell? ⟨tb, 3, none⟩ = some (.slice a4 n c4) := (hB18.cell 3).trans (by rw [HC5.out]; rfl)
     have z3e : w8.frozen? ⟨tb, 3, none⟩ = false := hB18.free 3
     rw [HC5.out] at hB18
     obtain ⟨w9, cs9, hRn⟩ := renew (w0 := w0) (v := v) (l := v.l.take i1 ++ ([u] ++ v.l.drop n)) hB18 hB38 (by omega) hP8 HTw.out (by have := HTw.out; omega) hO8 (by have := HS3.out; omega) (by have := HS3.out; omega) ((HFit.out.take i1).append ((Fit.single HU.out).append (HFit.out.drop n))) hs (by simp only [List.length_append, List.length_take, List.length_drop, List.length_cons, List.length_nil, ← HN.out]; have := HI1.out; have := HJ.out; have := HHi.out; omega)
     have HRn := qh hRn
     have hR9 := hRn.block.range
     clear hRn hO8 hE8 hn1 hn2 hB18 hB38 hP8 HRp
     go_wp2_with (first
      | (with_reducible refine at_load 48 (.tmp 3) ?_; refine wpList_load_mid rfl 48 (.tmp 3) rfl tb 0 rfl cs9 _ (by rw [← HRn.out.is]; exact hR9) Tryz.underlying48 rfl (by rw [HRn.out.len]; kernel_rfl) ?_; rw [← HRn.out.is])
      | (with_reducible refine at_store 48 (.tmp 6) (.tmp 37) ?_; refine wpList_store_mid rfl 48 (.tmp 6) (.tmp 37) rfl (tb + 1 + 1) 0 cs9.toArray rfl rfl HRn.out.there HRn.out.info HRn.out.one ?_; try simp only [List.toArray_toList]))
     refine bodyPost_ret (results_row1 rfl _ _ (tb + 2) _ cs9 _ rfl HRn.out.after Tryz.underlying48 rfl (by rw [HRn.out.len]; exact size24)) rfl ?_
     exact ⟨cs9, rfl, by rw [HFN2.out]; exact HRn.out.lies, HRn.out.pure, fun b hb _ => HRn.out.off b hb⟩
    ·have hjn : (i : Int) + 2 = (j : Int) := by omega
     have hw2 : IntKind.i64.wrap ((i : Int) + 2) = (j : Int) := by rw [IntKind.wrap_i64]; omega
     have hmj : min (j : Int) (n : Int) = (j : Int) := by omega
     have hnj : ¬ (n : Int) < (j : Int) := by omega
     have hwj : IntKind.i64.wrap (j : Int) = (j : Int) := by rw [IntKind.wrap_i64]; omega
     clear hj hni
     have hul := HUl.out
     go_wp2_with (with_reducible refine at_load 48 (.tmp 5) ?_; refine wpList_load_mid rfl 48 (.tmp 5) rfl (tb + 1) 0 rfl us _ hR26 Tryz.underlying48 rfl (by rw [HUl.out]; kernel_rfl) ?_)
     rw [fold_us us HUl.out, ← HW7.out]
     clear hul
     refine HRp.out.mono ?_
     rintro e w8 ⟨a8, c8, rfl, hO8, hE8⟩
     have hn1 : ¬ (Value.slice a4 n c4).ownBlock = some tb := fun e => by have h1 := (HO7.out.lt _ e).1; have h2 := HS3.out; omega
     have hn2 : ¬ (Value.slice a4 n c4).ownBlock = some (tb + 2) := fun e => by have h1 := (HO7.out.lt _ e).1; have h2 := HS3.out; omega
     have hB18 := HB17.out.ext hE8 hn1
     have hB38 := HB37.out.ext hE8 hn2
     have hP8 : Pure w w8 := HP7.out.trans hE8 (fun k hk e => by have h1 := (HO7.out.lt _ e).1; have h2 := HS3.out; have h3 := HTw.out; omega)
     have c3e : w8.cell? ⟨tb, 3, none⟩ = some (.slice a4 n c4) := (hB18.cell 3).trans (by rw [HC5.out]; rfl)
     have z3e : w8.frozen? ⟨tb, 3, none⟩ = false := hB18.free 3
     rw [HC5.out] at hB18
     obtain ⟨w9, cs9, hRn⟩ := renew (w0 := w0) (v := v) (l := v.l.take i1 ++ ([u] ++ v.l.drop j)) hB18 hB38 (by omega) hP8 HTw.out (by have := HTw.out; omega) hO8 (by have := HS3.out; omega) (by have := HS3.out; omega) ((HFit.out.take i1).append ((Fit.single HU.out).append (HFit.out.drop j))) hs (by simp only [List.length_append, List.length_take, List.length_drop, List.length_cons, List.length_nil, ← HN.out]; have := HI1.out; have := HJ.out; have := HHi.out; omega)
     have HRn := qh hRn
     have hR9 := hRn.block.range
     clear hRn hO8 hE8 hn1 hn2 hB18 hB38 hP8 HRp
     go_wp2_with (first
      | (with_reducible refine at_load 48 (.tmp 3) ?_; refine wpList_load_mid rfl 48 (.tmp 3) rfl tb 0 rfl cs9 _ (by rw [← HRn.out.is]; exact hR9) Tryz.underlying48 rfl (by rw [HRn.out.len]; kernel_rfl) ?_; rw [← HRn.out.is])
      | (with_reducible refine at_store 48 (.tmp 6) (.tmp 37) ?_; refine wpList_store_mid rfl 48 (.tmp 6) (.tmp 37) rfl (tb + 1 + 1) 0 cs9.toArray rfl rfl HRn.out.there HRn.out.info HRn.out.one ?_; try simp only [List.toArray_toList]))
     refine bodyPost_ret (results_row1 rfl _ _ (tb + 2) _ cs9 _ rfl HRn.out.after Tryz.underlying48 rfl (by rw [HRn.out.len]; exact size24)) rfl ?_
     exact ⟨cs9, rfl, by rw [HFN2.out]; exact HRn.out.lies, HRn.out.pure, fun b hb _ => HRn.out.off b hb⟩
  | none =>
    have HFN2 : Hid (F = .mk v.kind v.n v.s (v.l.take (placeOf v.l key) ++ ([nameV key, u] ++ v.l.drop (placeOf v.l key)))) := qh HFN.out
    simp only [optI]
    obtain ⟨u0, u1, u2, u3, rfl⟩ : ∃ u0 u1 u2 u3, us = [u0, u1, u2, u3] := by
     have := HUl.out
     match us, this with
     | [a, b, c, d], _ => exact ⟨a, b, c, d, rfl⟩
    obtain ⟨rows, hrws, hK⟩ := (HFit.out.pure (hP0.pure HP6.out)).kids (own_row HO6.out)
    obtain ⟨l, hl0⟩ : ∃ l, l = v.l := ⟨_, rfl⟩
    obtain ⟨pl, hpl⟩ : ∃ p, p = placeOf v.l key := ⟨_, rfl⟩
    have hN := HN.out
    rw [← hl0] at hK hN
    have hp0 : pl = (placeAt (over key) l 0).getD n := by rw [hpl, placeOf_at, hl0, HN.out]
    have HP0 := qh hp0
    have HPL := qh hpl
    have HLL := qh hl0
    have HNN := qh hN
    clear hrws hl0 hpl hN hp0 HFN
    go_wp2_with fail
    go_loop [8, 9] (fun y i => ∃ k : Nat, k ≤ n + 1 ∧ i = .int .i64 k ∧ y = .int .i64 n ∧ Hid (pl = (placeAt (over key) l k).getD n)) (fun _ i => n + 1 - (intOf i).toNat)
    case atStart => exact ⟨0, by omega, rfl, rfl, HP0⟩
    case round =>
     obtain ⟨k, hk', rfl, rfl, HA⟩ := hrel
     by_cases hlt : k < n
     ·have hki : (k : Int) < (n : Int) := by omega
      obtain ⟨t, ht⟩ : ∃ t, l[k]? = some t := ⟨_, List.getElem?_eq_getElem (by rw [← HNN.out]; exact hlt)⟩
      obtain ⟨b, o, a', c', rfl, e0, e1, e2, e3⟩ := hK.cells k t ht
      obtain ⟨H, hH⟩ : ∃ H, H = over key t := ⟨_, rfl⟩
      have hyes : H = true → pl = k := fun e => by rw [HA.out, placeAt_hit ht (hH.symm.trans e)]; rfl
      have hno : H = false → pl = (placeAt (over key) l (k + 2)).getD n := fun e => by rw [HA.out, placeAt_miss ht (hH.symm.trans e)]
      unfold over at hH
      generalize t.kind = kk at *
      generalize t.s = ss at *
      clear ht
      by_cases h5 : kk = 5
      ·subst h5
       obtain ⟨Q, hQ⟩ : ∃ Q, Q = Op.bytesLess key.toList ss.toList := ⟨_, rfl⟩
       have hHQ : H = Q := by rw [hH, hQ]; rfl
       have hrun := gtr_run ss key Q hQ.symm
       subst hHQ
       have HY := qh hyes
       have HNo := qh hno
       clear hH hQ hyes hno
       cases H with
       | true =>
         have HAt : Hid (pl = k) := qh (HY.out rfl)
         clear HY HNo HA
         go_wp2_with fail
         have HFn : Hid (Fit w0 (d + 1) [nameV key, u] [.int .i64 5, .int .i64 0, .string key, .slice none 0 0, u0, u1, u2, u3]) := qh ((Fit.single (Lies.leaf w0 d 5 0 key hk)).append (Fit.single HU.out))
         refine region_start (fun k => k = tb ∨ w3.heap.size ≤ k) (by kernel_rfl) ?_
         try simp only [Act.put, sA, sZ, sS]
         refine region_take 0 66 (v := ?via0) rfl rfl (by kernel_rfl) (by kernel_rfl) (by kernel_rfl) (fun _ _ _ h => h) (by rfl) (fun w' hS => ?hia0) ?ria0
         case hia0 => go_simp; with_reducible rfl
         try simp only [Act.put, sA, sZ, sS]
         refine region_take 2 68 (v := ?via2) rfl rfl (by kernel_rfl) (by kernel_rfl) (by kernel_rfl) (fun _ _ _ h => h) (by rfl) (fun w' hS => ?hia2) ?ria2
         case hia2 => go_simp; with_reducible rfl
         try simp only [Act.put, sA, sZ, sS]
         refine region_take 3 69 (v := ?via3) rfl rfl (by kernel_rfl) (by kernel_rfl) (by kernel_rfl) (fun _ _ _ h => h) (by rfl) (fun w' hS => ?hia3) ?ria3
         case hia3 => go_simp; with_reducible rfl
         try simp only [Act.put, sA, sZ, sS]
         refine region_take 5 71 (v := ?via5) rfl rfl (by kernel_rfl) (by kernel_rfl) (by kernel_rfl) (fun _ _ _ h => h) (by rfl) (fun w' hS => ?hia5) ?ria5
         case hia5 => (have hb := HB26.out.ext ((Ext.refl (fun k => k = tb ∨ w3.heap.size ≤ k) w6).drew.trans hS (fun _ _ e => e)) (by intro e; rcases e with e | e <;> (have h2 := HS3.out; omega)); have m0 : w'.cell? ⟨tb + 1, 0, none⟩ = some u0 := hb.cell 0; have m1 : w'.cell? ⟨tb + 1, 1, none⟩ = some u1 := hb.cell 1; have m2 : w'.cell? ⟨tb + 1, 2, none⟩ = some u2 := hb.cell 2; have m3 : w'.cell? ⟨tb + 1, 3, none⟩ = some u3 := hb.cell 3; go_simp; with_reducible rfl)
         try simp only [Act.put, sA, sZ, sS]
         refine wpAnyH_ready (rs := [1, 4]) (by kernel_rfl) (by simp) (AllReadyH.cons rfl (fun K hK => ?_) (AllReadyH.cons rfl (fun K hK => ?_) (AllReadyH.nil)))
         go_simp
         refine hK.out _ _ (Ext.refl _ _) (fun hHeld => ?_)
         clear hK K hHeld
         refine region_now (Ext.refl _ _) ?_
         try simp only [Act.put, sA, sZ, sS]
         refine wpAnyH_ready (rs := [4]) (by kernel_rfl) (by simp) (AllReadyH.cons rfl (fun K hK => ?_) AllReadyH.nil)
         go_simp
         refine (name_any key _).mono ?_
         rintro e w7 ⟨rfl, hP67⟩
         have c3e : w7.cell? ⟨tb, 3, none⟩ = some (.slice (some ⟨b, o, none⟩) n c4) := hP67.cell_some (show w6.drew.cell? ⟨tb, 3, none⟩ = _ from c3d) id
         have HP67 := qh hP67
         clear hP67
         refine hK.out _ _ (HP67.out.mono (fun _ _ e => e.elim)) (fun hHeld => ?_)
         clear hK K hHeld
         refine region_now (HP67.out.mono (fun _ _ e => e.elim)) ?_
         try simp only [Act.put, sA, sZ, sS]
         refine wpAnyH_ready (rs := [6]) (by kernel_rfl) (by simp) (AllReadyH.cons rfl (fun K hK => ?_) AllReadyH.nil)
         go_simp
         obtain ⟨w8, hw8⟩ : ∃ z, z = w7.alloc (.cells #[.int .i64 5, .int .i64 0, .string key, .slice none 0 0, u0, u1, u2, u3] 48) := ⟨_, rfl⟩
         rw [← hw8]
         have hP78 : Pure w7 w8 := hw8 ▸ ext_alloc w7 _
         have hB88 : BlockIs w8 w7.heap.size [.int .i64 5, .int .i64 0, .string key, .slice none 0 0, u0, u1, u2, u3] 48 := hw8 ▸ BlockIs.new w7 _ _
         have hP68 : Pure w6 w8 := ((Ext.refl _ w6).drew.pure HP67.out).pure hP78
         have c3f : w8.cell? ⟨tb, 3, none⟩ = some (.slice (some ⟨b, o, none⟩) n c4) := hP68.cell_some c3d id
         have hO8 := own_ext HO6.out hP68 (fun _ _ => id)
         have HIn := qh (insert_any w3.heap.size (some ⟨b, o, none⟩) n c4 k xs w7.heap.size 2 [.int .i64 5, .int .i64 0, .string key, .slice none 0 0, u0, u1, u2, u3] w8 hO8 hB88 (fun e => by have h1 := (HO6.out.lt _ e).2; have h2 := HP67.out.size; have h3 : w6.drew.heap.size = w6.heap.size := rfl; omega) rfl (by omega) (by omega) (Nat.le_trans hl (by decide)) (by omega) (by have h1 := hP68.size; have h2 := HS3.out; omega) HFn.out.one HXo.out)
         have HO8 := qh hO8
         have HP68 := qh hP68
         have HP78 := qh hP78
         clear hw8 hB88 hP68 hO8 hP78
         refine hK.out _ _ (HP78.out.mono (fun _ _ e => e.elim)) (fun hHeld => ?_)
         clear hK K hHeld
         refine region_now (HP78.out.mono (fun _ _ e => e.elim)) ?_
         try simp only [Act.put, sA, sZ, sS]
         refine wpAnyH_ready (rs := [7]) (by kernel_rfl) (by simp) (AllReadyH.cons rfl (fun K hK => ?_) AllReadyH.nil)
         go_simp
         refine HIn.out.mono ?_
         rintro e w9 ⟨a9, c9, rfl, hO9, hE9⟩
         have hX9 : Ext (fun k => k = tb ∨ w3.heap.size ≤ k) w8 w9 := hE9.mono (fun k _ hk => Or.inr (HO8.out.lt k hk).1)
         have hn1 : ¬ (Value.slice (some ⟨b, o, none⟩) n c4).ownBlock = some tb := fun e => by have h1 := (HO8.out.lt _ e).1; have h2 := HS3.out; omega
         have hn2 : ¬ (Value.slice (some ⟨b, o, none⟩) n c4).ownBlock = some (tb + 2) := fun e => by have h1 := (HO8.out.lt _ e).1; have h2 := HS3.out; omega
         have hB19 := (HB16.out.ext HP68.out id).ext hE9 hn1
         have hB39 := (HB36.out.ext HP68.out id).ext hE9 hn2
         have hP9 : Pure w w9 := (HP6.out.pure HP68.out).trans hE9 (fun k hk e => by have h1 := (HO8.out.lt _ e).1; have h2 := HS3.out; have h3 := HTw.out; omega)
         have c3g : w9.cell? ⟨tb, 3, none⟩ = some (.slice (some ⟨b, o, none⟩) n c4) := (hB19.cell 3).trans (by rw [HC5.out]; rfl)
         have z3g : w9.frozen? ⟨tb, 3, none⟩ = false := hB19.free 3
         rw [HC5.out] at hB19
         have HX9 := qh hX9
         have HB19 := qh hB19
         have HB39 := qh hB39
         have HP9 := qh hP9
         have HO9 := qh hO9
         clear hX9 hn1 hn2 hB19 hB39 hP9 hO9 hE9
         refine hK.out _ _ (HX9.out) (fun hHeld => ?_)
         clear hK K hHeld
         refine region_now (HX9.out) ?_
         try simp only [Act.put, sA, sZ, sS]
         refine region_take 8 74 (v := ?viaq08) rfl rfl (by kernel_rfl) (by kernel_rfl) (by kernel_rfl) (fun _ _ _ h => h) (by rfl) (fun w' hS => ?hiaq08) ?riaq08
         case hiaq08 => go_simp; with_reducible rfl
         try simp only [Act.put, sA, sZ, sS]
         refine wpAnyH_ready (rs := [9]) (by kernel_rfl) (by simp) (AllReadyH.cons rfl (fun K hK => ?_) AllReadyH.nil)
         go_simp
         refine hK.out _ _ ((Ext.refl _ _).setCell (p := ⟨tb, 3, none⟩) (fun _ => Or.inl rfl) _) (fun hHeld => ?_)
         clear hK K hHeld
         refine region_now ((Ext.refl _ _).setCell (p := ⟨tb, 3, none⟩) (fun _ => Or.inl rfl) _) ?_
         try simp only [Act.put, sA, sZ, sS]
         refine wpAnyH_done (by kernel_rfl) ?_ _
         rotate_left
         go_simp
         refine (name_any key _).mono ?_
         rintro e w7 ⟨rfl, hP67⟩
         have c3e : w7.cell? ⟨tb, 3, none⟩ = some (.slice (some ⟨b, o, none⟩) n c4) := hP67.cell_some (show w6.drew.cell? ⟨tb, 3, none⟩ = _ from c3d) id
         have HP67 := qh hP67
         clear hP67
         refine hK.out _ _ (HP67.out.mono (fun _ _ e => e.elim)) (fun hHeld => ?_)
         clear hK K hHeld
         refine region_now (HP67.out.mono (fun _ _ e => e.elim)) ?_
         try simp only [Act.put, sA, sZ, sS]
         refine wpAnyH_ready (rs := [1, 6]) (by kernel_rfl) (by simp) (AllReadyH.cons rfl (fun K hK => ?_) (AllReadyH.cons rfl (fun K hK => ?_) (AllReadyH.nil)))
         go_simp
         refine hK.out _ _ (Ext.refl _ _) (fun hHeld => ?_)
         clear hK K hHeld
         refine region_now (Ext.refl _ _) ?_
         try simp only [Act.put, sA, sZ, sS]
         refine wpAnyH_ready (rs := [6]) (by kernel_rfl) (by simp) (AllReadyH.cons rfl (fun K hK => ?_) AllReadyH.nil)
         go_simp
         obtain ⟨w8, hw8⟩ : ∃ z, z = w7.alloc (.cells #[.int .i64 5, .int .i64 0, .string key, .slice none 0 0, u0, u1, u2, u3] 48) := ⟨_, rfl⟩
         rw [← hw8]
         have hP78 : Pure w7 w8 := hw8 ▸ ext_alloc w7 _
         have hB88 : BlockIs w8 w7.heap.size [.int .i64 5, .int .i64 0, .string key, .slice none 0 0, u0, u1, u2, u3] 48 := hw8 ▸ BlockIs.new w7 _ _
         have hP68 : Pure w6 w8 := ((Ext.refl _ w6).drew.pure HP67.out).pure hP78
         have c3f : w8.cell? ⟨tb, 3, none⟩ = some (.slice (some ⟨b, o, none⟩) n c4) := hP68.cell_some c3d id
         have hO8 := own_ext HO6.out hP68 (fun _ _ => id)
         have HIn := qh (insert_any w3.heap.size (some ⟨b, o, none⟩) n c4 k xs w7.heap.size 2 [.int .i64 5, .int .i64 0, .string key, .slice none 0 0, u0, u1, u2, u3] w8 hO8 hB88 (fun e => by have h1 := (HO6.out.lt _ e).2; have h2 := HP67.out.size; have h3 : w6.drew.heap.size = w6.heap.size := rfl; omega) rfl (by omega) (by omega) (Nat.le_trans hl (by decide)) (by omega) (by have h1 := hP68.size; have h2 := HS3.out; omega) HFn.out.one HXo.out)
         have HO8 := qh hO8
         have HP68 := qh hP68
         have HP78 := qh hP78
         clear hw8 hB88 hP68 hO8 hP78
         refine hK.out _ _ (HP78.out.mono (fun _ _ e => e.elim)) (fun hHeld => ?_)
         clear hK K hHeld
         refine region_now (HP78.out.mono (fun _ _ e => e.elim)) ?_
         try simp only [Act.put, sA, sZ, sS]
         refine wpAnyH_ready (rs := [7]) (by kernel_rfl) (by simp) (AllReadyH.cons rfl (fun K hK => ?_) AllReadyH.nil)
         go_simp
         refine HIn.out.mono ?_
         rintro e w9 ⟨a9, c9, rfl, hO9, hE9⟩
         have hX9 : Ext (fun k => k = tb ∨ w3.heap.size ≤ k) w8 w9 := hE9.mono (fun k _ hk => Or.inr (HO8.out.lt k hk).1)
         have hn1 : ¬ (Value.slice (some ⟨b, o, none⟩) n c4).ownBlock = some tb := fun e => by have h1 := (HO8.out.lt _ e).1; have h2 := HS3.out; omega
         have hn2 : ¬ (Value.slice (some ⟨b, o, none⟩) n c4).ownBlock = some (tb + 2) := fun e => by have h1 := (HO8.out.lt _ e).1; have h2 := HS3.out; omega
         have hB19 := (HB16.out.ext HP68.out id).ext hE9 hn1
         have hB39 := (HB36.out.ext HP68.out id).ext hE9 hn2
         have hP9 : Pure w w9 := (HP6.out.pure HP68.out).trans hE9 (fun k hk e => by have h1 := (HO8.out.lt _ e).1; have h2 := HS3.out; have h3 := HTw.out; omega)
         have c3g : w9.cell? ⟨tb, 3, none⟩ = some (.slice (some ⟨b, o, none⟩) n c4) := (hB19.cell 3).trans (by rw [HC5.out]; rfl)
         have z3g : w9.frozen? ⟨tb, 3, none⟩ = false := hB19.free 3
         rw [HC5.out] at hB19
         have HX9 := qh hX9
         have HB19 := qh hB19
         have HB39 := qh hB39
         have HP9 := qh hP9
         have HO9 := qh hO9
         clear hX9 hn1 hn2 hB19 hB39 hP9 hO9 hE9
         refine hK.out _ _ (HX9.out) (fun hHeld => ?_)
         clear hK K hHeld
         refine region_now (HX9.out) ?_
         try simp only [Act.put, sA, sZ, sS]
         refine region_take 8 74 (v := ?viaq1q08) rfl rfl (by kernel_rfl) (by kernel_rfl) (by kernel_rfl) (fun _ _ _ h => h) (by rfl) (fun w' hS => ?hiaq1q08) ?riaq1q08
         case hiaq1q08 => go_simp; with_reducible rfl
         try simp only [Act.put, sA, sZ, sS]
         refine wpAnyH_ready (rs := [9]) (by kernel_rfl) (by simp) (AllReadyH.cons rfl (fun K hK => ?_) AllReadyH.nil)
         go_simp
         refine hK.out _ _ ((Ext.refl _ _).setCell (p := ⟨tb, 3, none⟩) (fun _ => Or.inl rfl) _) (fun hHeld => ?_)
         clear hK K hHeld
         refine region_now ((Ext.refl _ _).setCell (p := ⟨tb, 3, none⟩) (fun _ => Or.inl rfl) _) ?_
         try simp only [Act.put, sA, sZ, sS]
         refine wpAnyH_done (by kernel_rfl) ?_ _
         rotate_left
         go_simp
         obtain ⟨w8, hw8⟩ : ∃ z, z = w7.alloc (.cells #[.int .i64 5, .int .i64 0, .string key, .slice none 0 0, u0, u1, u2, u3] 48) := ⟨_, rfl⟩
         rw [← hw8]
         have hP78 : Pure w7 w8 := hw8 ▸ ext_alloc w7 _
         have hB88 : BlockIs w8 w7.heap.size [.int .i64 5, .int .i64 0, .string key, .slice none 0 0, u0, u1, u2, u3] 48 := hw8 ▸ BlockIs.new w7 _ _
         have hP68 : Pure w6 w8 := ((Ext.refl _ w6).drew.pure HP67.out).pure hP78
         have c3f : w8.cell? ⟨tb, 3, none⟩ = some (.slice (some ⟨b, o, none⟩) n c4) := hP68.cell_some c3d id
         have hO8 := own_ext HO6.out hP68 (fun _ _ => id)
         have HIn := qh (insert_any w3.heap.size (some ⟨b, o, none⟩) n c4 k xs w7.heap.size 2 [.int .i64 5, .int .i64 0, .string key, .slice none 0 0, u0, u1, u2, u3] w8 hO8 hB88 (fun e => by have h1 := (HO6.out.lt _ e).2; have h2 := HP67.out.size; have h3 : w6.drew.heap.size = w6.heap.size := rfl; omega) rfl (by omega) (by omega) (Nat.le_trans hl (by decide)) (by omega) (by have h1 := hP68.size; have h2 := HS3.out; omega) HFn.out.one HXo.out)
         have HO8 := qh hO8
         have HP68 := qh hP68
         have HP78 := qh hP78
         clear hw8 hB88 hP68 hO8 hP78
         refine hK.out _ _ (HP78.out.mono (fun _ _ e => e.elim)) (fun hHeld => ?_)
         clear hK K hHeld
         refine region_now (HP78.out.mono (fun _ _ e => e.elim)) ?_
         try simp only [Act.put, sA, sZ, sS]
         refine wpAnyH_ready (rs := [1]) (by kernel_rfl) (by simp) (AllReadyH.cons rfl (fun K hK => ?_) AllReadyH.nil)
         go_simp
         refine hK.out _ _ (Ext.refl _ _) (fun hHeld => ?_)
         clear hK K hHeld
         refine region_now (Ext.refl _ _) ?_
         try simp only [Act.put, sA, sZ, sS]
         refine wpAnyH_ready (rs := [7]) (by kernel_rfl) (by simp) (AllReadyH.cons rfl (fun K hK => ?_) AllReadyH.nil)
         go_simp
         refine HIn.out.mono ?_
         rintro e w9 ⟨a9, c9, rfl, hO9, hE9⟩
         have hX9 : Ext (fun k => k = tb ∨ w3.heap.size ≤ k) w8 w9 := hE9.mono (fun k _ hk => Or.inr (HO8.out.lt k hk).1)
         have hn1 : ¬ (Value.slice (some ⟨b, o, none⟩) n c4).ownBlock = some tb := fun e => by have h1 := (HO8.out.lt _ e).1; have h2 := HS3.out; omega
         have hn2 : ¬ (Value.slice (some ⟨b, o, none⟩) n c4).ownBlock = some (tb + 2) := fun e => by have h1 := (HO8.out.lt _ e).1; have h2 := HS3.out; omega
         have hB19 := (HB16.out.ext HP68.out id).ext hE9 hn1
         have hB39 := (HB36.out.ext HP68.out id).ext hE9 hn2
         have hP9 : Pure w w9 := (HP6.out.pure HP68.out).trans hE9 (fun k hk e => by have h1 := (HO8.out.lt _ e).1; have h2 := HS3.out; have h3 := HTw.out; omega)
         have c3g : w9.cell? ⟨tb, 3, none⟩ = some (.slice (some ⟨b, o, none⟩) n c4) := (hB19.cell 3).trans (by rw [HC5.out]; rfl)
         have z3g : w9.frozen? ⟨tb, 3, none⟩ = false := hB19.free 3
         rw [HC5.out] at hB19
         have HX9 := qh hX9
         have HB19 := qh hB19
         have HB39 := qh hB39
         have HP9 := qh hP9
         have HO9 := qh hO9
         clear hX9 hn1 hn2 hB19 hB39 hP9 hO9 hE9
         refine hK.out _ _ (HX9.out) (fun hHeld => ?_)
         clear hK K hHeld
         refine region_now (HX9.out) ?_
         try simp only [Act.put, sA, sZ, sS]
         refine region_take 8 74 (v := ?viaq1q18) rfl rfl (by kernel_rfl) (by kernel_rfl) (by kernel_rfl) (fun _ _ _ h => h) (by rfl) (fun w' hS => ?hiaq1q18) ?riaq1q18
         case hiaq1q18 => go_simp; with_reducible rfl
         try simp only [Act.put, sA, sZ, sS]
         refine wpAnyH_ready (rs := [9]) (by kernel_rfl) (by simp) (AllReadyH.cons rfl (fun K hK => ?_) AllReadyH.nil)
         go_simp
         refine hK.out _ _ ((Ext.refl _ _).setCell (p := ⟨tb, 3, none⟩) (fun _ => Or.inl rfl) _) (fun hHeld => ?_)
         clear hK K hHeld
         refine region_now ((Ext.refl _ _).setCell (p := ⟨tb, 3, none⟩) (fun _ => Or.inl rfl) _) ?_
         try simp only [Act.put, sA, sZ, sS]
         refine wpAnyH_done (by kernel_rfl) ?_ _
         rotate_left
         all_goals
          obtain ⟨wz, csz, hRn⟩ := renew (w0 := w0) (v := v) (l := v.l.take k ++ ([nameV key, u] ++ v.l.drop k)) HB19.out HB39.out (by omega) HP9.out HTw.out (by have := HTw.out; omega) HO9.out (by have := HS3.out; omega) (by have := HS3.out; omega) ((HFit.out.take k).append (HFn.out.append (HFit.out.drop k))) hs (by simp only [List.length_append, List.length_take, List.length_drop, List.length_cons, List.length_nil, ← HN.out]; omega)
          have HRn := qh hRn
          have hR9 := hRn.block.range
          clear hRn
          go_wp2_with (first
           | (with_reducible refine at_load 48 (.tmp 3) ?_; refine wpList_load_mid rfl 48 (.tmp 3) rfl tb 0 rfl csz _ (by rw [← HRn.out.is]; exact hR9) Tryz.underlying48 rfl (by rw [HRn.out.len]; kernel_rfl) ?_; rw [← HRn.out.is])
           | (with_reducible refine at_store 48 (.tmp 6) (.tmp 75) ?_; refine wpList_store_mid rfl 48 (.tmp 6) (.tmp 75) rfl (tb + 1 + 1) 0 csz.toArray rfl rfl HRn.out.there HRn.out.info HRn.out.one ?_; try simp only [List.toArray_toList]))
          refine bodyPost_ret (results_row1 rfl _ _ (tb + 2) _ csz _ rfl HRn.out.after Tryz.underlying48 rfl (by rw [HRn.out.len]; exact size24)) rfl ?_
          exact ⟨csz, rfl, by rw [HFN2.out, ← HPL.out, HAt.out]; exact HRn.out.lies, HRn.out.pure, fun b hb _ => HRn.out.off b hb⟩
       | false =>
         have HB := qh (HNo.out rfl)
         clear HY HNo HA
         go_wp2_with fail
         go_round
         case rel => exact ⟨k + 2, by omega, by go_num, rfl, HB⟩
         case measure => simp [intOf]; omega
      ·have HB : Hid (pl = (placeAt (over key) l (k + 2)).getD n) := qh (hno (by rw [hH]; simp [h5]))
       have h5' : (kk == 5) = false := by simpa using h5
       clear hH hyes hno HA h5
       go_wp2_with fail
       go_round
       case rel => exact ⟨k + 2, by omega, by go_num, rfl, HB⟩
       case measure => simp [intOf]; omega
     ·have hki : ¬ (k : Int) < (n : Int) := by omega
      have HAt : Hid (pl = n) := qh (by rw [HA.out, placeAt_end (by rw [← HNN.out]; omega)]; rfl)
      go_wp2_with fail
      have HFn : Hid (Fit w0 (d + 1) [nameV key, u] [.int .i64 5, .int .i64 0, .string key, .slice none 0 0, u0, u1, u2, u3]) := qh ((Fit.single (Lies.leaf w0 d 5 0 key hk)).append (Fit.single HU.out))
      refine region_start (fun k => k = tb ∨ w3.heap.size ≤ k) (by kernel_rfl) ?_
      try simp only [Act.put, sA, sZ, sS]
      refine region_take 0 66 (v := ?vib0) rfl rfl (by kernel_rfl) (by kernel_rfl) (by kernel_rfl) (fun _ _ _ h => h) (by rfl) (fun w' hS => ?hib0) ?rib0
      case hib0 => go_simp; with_reducible rfl
      try simp only [Act.put, sA, sZ, sS]
      refine region_take 2 68 (v := ?vib2) rfl rfl (by kernel_rfl) (by kernel_rfl) (by kernel_rfl) (fun _ _ _ h => h) (by rfl) (fun w' hS => ?hib2) ?rib2
      case hib2 => go_simp; with_reducible rfl
      try simp only [Act.put, sA, sZ, sS]
      refine region_take 3 69 (v := ?vib3) rfl rfl (by kernel_rfl) (by kernel_rfl) (by kernel_rfl) (fun _ _ _ h => h) (by rfl) (fun w' hS => ?hib3) ?rib3
      case hib3 => go_simp; with_reducible rfl
      try simp only [Act.put, sA, sZ, sS]
      refine region_take 5 71 (v := ?vib5) rfl rfl (by kernel_rfl) (by kernel_rfl) (by kernel_rfl) (fun _ _ _ h => h) (by rfl) (fun w' hS => ?hib5) ?rib5
      case hib5 => (have hb := HB26.out.ext ((Ext.refl (fun k => k = tb ∨ w3.heap.size ≤ k) w6).drew.trans hS (fun _ _ e => e)) (by intro e; rcases e with e | e <;> (have h2 := HS3.out; omega)); have m0 : w'.cell? ⟨tb + 1, 0, none⟩ = some u0 := hb.cell 0; have m1 : w'.cell? ⟨tb + 1, 1, none⟩ = some u1 := hb.cell 1; have m2 : w'.cell? ⟨tb + 1, 2, none⟩ = some u2 := hb.cell 2; have m3 : w'.cell? ⟨tb + 1, 3, none⟩ = some u3 := hb.cell 3; go_simp; with_reducible rfl)
      try simp only [Act.put, sA, sZ, sS]
      refine wpAnyH_ready (rs := [1, 4]) (by kernel_rfl) (by simp) (AllReadyH.cons rfl (fun K hK => ?_) (AllReadyH.cons rfl (fun K hK => ?_) (AllReadyH.nil)))
      go_simp
      refine hK.out _ _ (Ext.refl _ _) (fun hHeld => ?_)
      clear hK K hHeld
      refine region_now (Ext.refl _ _) ?_
      try simp only [Act.put, sA, sZ, sS]
      refine wpAnyH_ready (rs := [4]) (by kernel_rfl) (by simp) (AllReadyH.cons rfl (fun K hK => ?_) AllReadyH.nil)
      go_simp
      refine (name_any key _).mono ?_
      rintro e w7 ⟨rfl, hP67⟩
      have c3e : w7.cell? ⟨tb, 3, none⟩ = some (.slice a4 n c4) := hP67.cell_some (show w6.drew.cell? ⟨tb, 3, none⟩ = _ from c3d) id
      have HP67 := qh hP67
      clear hP67
      refine hK.out _ _ (HP67.out.mono (fun _ _ e => e.elim)) (fun hHeld => ?_)
      clear hK K hHeld
      refine region_now (HP67.out.mono (fun _ _ e => e.elim)) ?_
      try simp only [Act.put, sA, sZ, sS]
      refine wpAnyH_ready (rs := [6]) (by kernel_rfl) (by simp) (AllReadyH.cons rfl (fun K hK => ?_) AllReadyH.nil)
      go_simp
      obtain ⟨w8, hw8⟩ : ∃ z, z = w7.alloc (.cells #[.int .i64 5, .int .i64 0, .string key, .slice none 0 0, u0, u1, u2, u3] 48) := ⟨_, rfl⟩
      rw [← hw8]
      have hP78 : Pure w7 w8 := hw8 ▸ ext_alloc w7 _
      have hB88 : BlockIs w8 w7.heap.size [.int .i64 5, .int .i64 0, .string key, .slice none 0 0, u0, u1, u2, u3] 48 := hw8 ▸ BlockIs.new w7 _ _
      have hP68 : Pure w6 w8 := ((Ext.refl _ w6).drew.pure HP67.out).pure hP78
      have c3f : w8.cell? ⟨tb, 3, none⟩ = some (.slice a4 n c4) := hP68.cell_some c3d id
      have hO8 := own_ext HO6.out hP68 (fun _ _ => id)
      have HIn := qh (insert_any w3.heap.size a4 n c4 n xs w7.heap.size 2 [.int .i64 5, .int .i64 0, .string key, .slice none 0 0, u0, u1, u2, u3] w8 hO8 hB88 (fun e => by have h1 := (HO6.out.lt _ e).2; have h2 := HP67.out.size; have h3 : w6.drew.heap.size = w6.heap.size := rfl; omega) rfl (by omega) (by omega) (Nat.le_trans hl (by decide)) (by omega) (by have h1 := hP68.size; have h2 := HS3.out; omega) HFn.out.one HXo.out)
      have HO8 := qh hO8
      have HP68 := qh hP68
      have HP78 := qh hP78
      clear hw8 hB88 hP68 hO8 hP78
      refine hK.out _ _ (HP78.out.mono (fun _ _ e => e.elim)) (fun hHeld => ?_)
      clear hK K hHeld
      refine region_now (HP78.out.mono (fun _ _ e => e.elim)) ?_
      try simp only [Act.put, sA, sZ, sS]
      refine wpAnyH_ready (rs := [7]) (by kernel_rfl) (by simp) (AllReadyH.cons rfl (fun K hK => ?_) AllReadyH.nil)
      go_simp
      refine HIn.out.mono ?_
      rintro e w9 ⟨a9, c9, rfl, hO9, hE9⟩
      have hX9 : Ext (fun k => k = tb ∨ w3.heap.size ≤ k) w8 w9 := hE9.mono (fun k _ hk => Or.inr (HO8.out.lt k hk).1)
      have hn1 : ¬ (Value.slice a4 n c4).ownBlock = some tb := fun e => by have h1 := (HO8.out.lt _ e).1; have h2 := HS3.out; omega
      have hn2 : ¬ (Value.slice a4 n c4).ownBlock = some (tb + 2) := fun e => by have h1 := (HO8.out.lt _ e).1; have h2 := HS3.out; omega
      have hB19 := (HB16.out.ext HP68.out id).ext hE9 hn1
      have hB39 := (HB36.out.ext HP68.out id).ext hE9 hn2
      have hP9 : Pure w w9 := (HP6.out.pure HP68.out).trans hE9 (fun k hk e => by have h1 := (HO8.out.lt _ e).1; have h2 := HS3.out; have h3 := HTw.out; omega)
      have c3g : w9.cell? ⟨tb, 3, none⟩ = some (.slice a4 n c4) := (hB19.cell 3).trans (by rw [HC5.out]; rfl)
      have z3g : w9.frozen? ⟨tb, 3, none⟩ = false := hB19.free 3
      rw [HC5.out] at hB19
      have HX9 := qh hX9
      have HB19 := qh hB19
      have HB39 := qh hB39
      have HP9 := qh hP9
      have HO9 := qh hO9
      clear hX9 hn1 hn2 hB19 hB39 hP9 hO9 hE9
      refine hK.out _ _ (HX9.out) (fun hHeld => ?_)
      clear hK K hHeld
      refine region_now (HX9.out) ?_
      try simp only [Act.put, sA, sZ, sS]
      refine region_take 8 74 (v := ?vibq08) rfl rfl (by kernel_rfl) (by kernel_rfl) (by kernel_rfl) (fun _ _ _ h => h) (by rfl) (fun w' hS => ?hibq08) ?ribq08
      case hibq08 => go_simp; with_reducible rfl
      try simp only [Act.put, sA, sZ, sS]
      refine wpAnyH_ready (rs := [9]) (by kernel_rfl) (by simp) (AllReadyH.cons rfl (fun K hK => ?_) AllReadyH.nil)
      go_simp
      refine hK.out _ _ ((Ext.refl _ _).setCell (p := ⟨tb, 3, none⟩) (fun _ => Or.inl rfl) _) (fun hHeld => ?_)
      clear hK K hHeld
      refine region_now ((Ext.refl _ _).setCell (p := ⟨tb, 3, none⟩) (fun _ => Or.inl rfl) _) ?_
      try simp only [Act.put, sA, sZ, sS]
      refine wpAnyH_done (by kernel_rfl) ?_ _
      rotate_left
      go_simp
      refine (name_any key _).mono ?_
      rintro e w7 ⟨rfl, hP67⟩
      have c3e : w7.cell? ⟨tb, 3, none⟩ = some (.slice a4 n c4) := hP67.cell_some (show w6.drew.cell? ⟨tb, 3, none⟩ = _ from c3d) id
      have HP67 := qh hP67
      clear hP67
      refine hK.out _ _ (HP67.out.mono (fun _ _ e => e.elim)) (fun hHeld => ?_)
      clear hK K hHeld
      refine region_now (HP67.out.mono (fun _ _ e => e.elim)) ?_
      try simp only [Act.put, sA, sZ, sS]
      refine wpAnyH_ready (rs := [1, 6]) (by kernel_rfl) (by simp) (AllReadyH.cons rfl (fun K hK => ?_) (AllReadyH.cons rfl (fun K hK => ?_) (AllReadyH.nil)))
      go_simp
      refine hK.out _ _ (Ext.refl _ _) (fun hHeld => ?_)
      clear hK K hHeld
      refine region_now (Ext.refl _ _) ?_
      try simp only [Act.put, sA, sZ, sS]
      refine wpAnyH_ready (rs := [6]) (by kernel_rfl) (by simp) (AllReadyH.cons rfl (fun K hK => ?_) AllReadyH.nil)
      go_simp
      obtain ⟨w8, hw8⟩ : ∃ z, z = w7.alloc (.cells #[.int .i64 5, .int .i64 0, .string key, .slice none 0 0, u0, u1, u2, u3] 48) := ⟨_, rfl⟩
      rw [← hw8]
      have hP78 : Pure w7 w8 := hw8 ▸ ext_alloc w7 _
      have hB88 : BlockIs w8 w7.heap.size [.int .i64 5, .int .i64 0, .string key, .slice none 0 0, u0, u1, u2, u3] 48 := hw8 ▸ BlockIs.new w7 _ _
      have hP68 : Pure w6 w8 := ((Ext.refl _ w6).drew.pure HP67.out).pure hP78
      have c3f : w8.cell? ⟨tb, 3, none⟩ = some (.slice a4 n c4) := hP68.cell_some c3d id
      have hO8 := own_ext HO6.out hP68 (fun _ _ => id)
      have HIn := qh (insert_any w3.heap.size a4 n c4 n xs w7.heap.size 2 [.int .i64 5, .int .i64 0, .string key, .slice none 0 0, u0, u1, u2, u3] w8 hO8 hB88 (fun e => by have h1 := (HO6.out.lt _ e).2; have h2 := HP67.out.size; have h3 : w6.drew.heap.size = w6.heap.size := rfl; omega) rfl (by omega) (by omega) (Nat.le_trans hl (by decide)) (by omega) (by have h1 := hP68.size; have h2 := HS3.out; omega) HFn.out.one HXo.out)
      have HO8 := qh hO8
      have HP68 := qh hP68
      have HP78 := qh hP78
      clear hw8 hB88 hP68 hO8 hP78
      refine hK.out _ _ (HP78.out.mono (fun _ _ e => e.elim)) (fun hHeld => ?_)
      clear hK K hHeld
      refine region_now (HP78.out.mono (fun _ _ e => e.elim)) ?_
      try simp only [Act.put, sA, sZ, sS]
      refine wpAnyH_ready (rs := [7]) (by kernel_rfl) (by simp) (AllReadyH.cons rfl (fun K hK => ?_) AllReadyH.nil)
      go_simp
      refine HIn.out.mono ?_
      rintro e w9 ⟨a9, c9, rfl, hO9, hE9⟩
      have hX9 : Ext (fun k => k = tb ∨ w3.heap.size ≤ k) w8 w9 := hE9.mono (fun k _ hk => Or.inr (HO8.out.lt k hk).1)
      have hn1 : ¬ (Value.slice a4 n c4).ownBlock = some tb := fun e => by have h1 := (HO8.out.lt _ e).1; have h2 := HS3.out; omega
      have hn2 : ¬ (Value.slice a4 n c4).ownBlock = some (tb + 2) := fun e => by have h1 := (HO8.out.lt _ e).1; have h2 := HS3.out; omega
      have hB19 := (HB16.out.ext HP68.out id).ext hE9 hn1
      have hB39 := (HB36.out.ext HP68.out id).ext hE9 hn2
      have hP9 : Pure w w9 := (HP6.out.pure HP68.out).trans hE9 (fun k hk e => by have h1 := (HO8.out.lt _ e).1; have h2 := HS3.out; have h3 := HTw.out; omega)
      have c3g : w9.cell? ⟨tb, 3, none⟩ = some (.slice a4 n c4) := (hB19.cell 3).trans (by rw [HC5.out]; rfl)
      have z3g : w9.frozen? ⟨tb, 3, none⟩ = false := hB19.free 3
      rw [HC5.out] at hB19
      have HX9 := qh hX9
      have HB19 := qh hB19
      have HB39 := qh hB39
      have HP9 := qh hP9
      have HO9 := qh hO9
      clear hX9 hn1 hn2 hB19 hB39 hP9 hO9 hE9
      refine hK.out _ _ (HX9.out) (fun hHeld => ?_)
      clear hK K hHeld
      refine region_now (HX9.out) ?_
      try simp only [Act.put, sA, sZ, sS]
      refine region_take 8 74 (v := ?vibq1q08) rfl rfl (by kernel_rfl) (by kernel_rfl) (by kernel_rfl) (fun _ _ _ h => h) (by rfl) (fun w' hS => ?hibq1q08) ?ribq1q08
      case hibq1q08 => go_simp; with_reducible rfl
      try simp only [Act.put, sA, sZ, sS]
      refine wpAnyH_ready (rs := [9]) (by kernel_rfl) (by simp) (AllReadyH.cons rfl (fun K hK => ?_) AllReadyH.nil)
      go_simp
      refine hK.out _ _ ((Ext.refl _ _).setCell (p := ⟨tb, 3, none⟩) (fun _ => Or.inl rfl) _) (fun hHeld => ?_)
      clear hK K hHeld
      refine region_now ((Ext.refl _ _).setCell (p := ⟨tb, 3, none⟩) (fun _ => Or.inl rfl) _) ?_
      try simp only [Act.put, sA, sZ, sS]
      refine wpAnyH_done (by kernel_rfl) ?_ _
      rotate_left
      go_simp
      obtain ⟨w8, hw8⟩ : ∃ z, z = w7.alloc (.cells #[.int .i64 5, .int .i64 0, .string key, .slice none 0 0, u0, u1, u2, u3] 48) := ⟨_, rfl⟩
      rw [← hw8]
      have hP78 : Pure w7 w8 := hw8 ▸ ext_alloc w7 _
      have hB88 : BlockIs w8 w7.heap.size [.int .i64 5, .int .i64 0, .string key, .slice none 0 0, u0, u1, u2, u3] 48 := hw8 ▸ BlockIs.new w7 _ _
      have hP68 : Pure w6 w8 := ((Ext.refl _ w6).drew.pure HP67.out).pure hP78
      have c3f : w8.cell? ⟨tb, 3, none⟩ = some (.slice a4 n c4) := hP68.cell_some c3d id
      have hO8 := own_ext HO6.out hP68 (fun _ _ => id)
      have HIn := qh (insert_any w3.heap.size a4 n c4 n xs w7.heap.size 2 [.int .i64 5, .int .i64 0, .string key, .slice none 0 0, u0, u1, u2, u3] w8 hO8 hB88 (fun e => by have h1 := (HO6.out.lt _ e).2; have h2 := HP67.out.size; have h3 : w6.drew.heap.size = w6.heap.size := rfl; omega) rfl (by omega) (by omega) (Nat.le_trans hl (by decide)) (by omega) (by have h1 := hP68.size; have h2 := HS3.out; omega) HFn.out.one HXo.out)
      have HO8 := qh hO8
      have HP68 := qh hP68
      have HP78 := qh hP78
      clear hw8 hB88 hP68 hO8 hP78
      refine hK.out _ _ (HP78.out.mono (fun _ _ e => e.elim)) (fun hHeld => ?_)
      clear hK K hHeld
      refine region_now (HP78.out.mono (fun _ _ e => e.elim)) ?_
      try simp only [Act.put, sA, sZ, sS]
      refine wpAnyH_ready (rs := [1]) (by kernel_rfl) (by simp) (AllReadyH.cons rfl (fun K hK => ?_) AllReadyH.nil)
      go_simp
      refine hK.out _ _ (Ext.refl _ _) (fun hHeld => ?_)
      clear hK K hHeld
      refine region_now (Ext.refl _ _) ?_
      try simp only [Act.put, sA, sZ, sS]
      refine wpAnyH_ready (rs := [7]) (by kernel_rfl) (by simp) (AllReadyH.cons rfl (fun K hK => ?_) AllReadyH.nil)
      go_simp
      refine HIn.out.mono ?_
      rintro e w9 ⟨a9, c9, rfl, hO9, hE9⟩
      have hX9 : Ext (fun k => k = tb ∨ w3.heap.size ≤ k) w8 w9 := hE9.mono (fun k _ hk => Or.inr (HO8.out.lt k hk).1)
      have hn1 : ¬ (Value.slice a4 n c4).ownBlock = some tb := fun e => by have h1 := (HO8.out.lt _ e).1; have h2 := HS3.out; omega
      have hn2 : ¬ (Value.slice a4 n c4).ownBlock = some (tb + 2) := fun e => by have h1 := (HO8.out.lt _ e).1; have h2 := HS3.out; omega
      have hB19 := (HB16.out.ext HP68.out id).ext hE9 hn1
      have hB39 := (HB36.out.ext HP68.out id).ext hE9 hn2
      have hP9 : Pure w w9 := (HP6.out.pure HP68.out).trans hE9 (fun k hk e => by have h1 := (HO8.out.lt _ e).1; have h2 := HS3.out; have h3 := HTw.out; omega)
      have c3g : w9.cell? ⟨tb, 3, none⟩ = some (.slice a4 n c4) := (hB19.cell 3).trans (by rw [HC5.out]; rfl)
      have z3g : w9.frozen? ⟨tb, 3, none⟩ = false := hB19.free 3
      rw [HC5.out] at hB19
      have HX9 := qh hX9
      have HB19 := qh hB19
      have HB39 := qh hB39
      have HP9 := qh hP9
      have HO9 := qh hO9
      clear hX9 hn1 hn2 hB19 hB39 hP9 hO9 hE9
      refine hK.out _ _ (HX9.out) (fun hHeld => ?_)
      clear hK K hHeld
      refine region_now (HX9.out) ?_
      try simp only [Act.put, sA, sZ, sS]
      refine region_take 8 74 (v := ?vibq1q18) rfl rfl (by kernel_rfl) (by kernel_rfl) (by kernel_rfl) (fun _ _ _ h => h) (by rfl) (fun w' hS => ?hibq1q18) ?ribq1q18
      case hibq1q18 => go_simp; with_reducible rfl
      try simp only [Act.put, sA, sZ, sS]
      refine wpAnyH_ready (rs := [9]) (by kernel_rfl) (by simp) (AllReadyH.cons rfl (fun K hK => ?_) AllReadyH.nil)
      go_simp
      refine hK.out _ _ ((Ext.refl _ _).setCell (p := ⟨tb, 3, none⟩) (fun _ => Or.inl rfl) _) (fun hHeld => ?_)
      clear hK K hHeld
      refine region_now ((Ext.refl _ _).setCell (p := ⟨tb, 3, none⟩) (fun _ => Or.inl rfl) _) ?_
      try simp only [Act.put, sA, sZ, sS]
      refine wpAnyH_done (by kernel_rfl) ?_ _
      rotate_left
      all_goals
       obtain ⟨wz, csz, hRn⟩ := renew (w0 := w0) (v := v) (l := v.l.take n ++ ([nameV key, u] ++ v.l.drop n)) HB19.out HB39.out (by omega) HP9.out HTw.out (by have := HTw.out; omega) HO9.out (by have := HS3.out; omega) (by have := HS3.out; omega) ((HFit.out.take n).append (HFn.out.append (HFit.out.drop n))) hs (by simp only [List.length_append, List.length_take, List.length_drop, List.length_cons, List.length_nil, ← HN.out]; omega)
       have HRn := qh hRn
       have hR9 := hRn.block.range
       clear hRn
       go_wp2_with (first
        | (with_reducible refine at_load 48 (.tmp 3) ?_; refine wpList_load_mid rfl 48 (.tmp 3) rfl tb 0 rfl csz _ (by rw [← HRn.out.is]; exact hR9) Tryz.underlying48 rfl (by rw [HRn.out.len]; kernel_rfl) ?_; rw [← HRn.out.is])
        | (with_reducible refine at_store 48 (.tmp 6) (.tmp 75) ?_; refine wpList_store_mid rfl 48 (.tmp 6) (.tmp 75) rfl (tb + 1 + 1) 0 csz.toArray rfl rfl HRn.out.there HRn.out.info HRn.out.one ?_; try simp only [List.toArray_toList]))
       refine bodyPost_ret (results_row1 rfl _ _ (tb + 2) _ csz _ rfl HRn.out.after Tryz.underlying48 rfl (by rw [HRn.out.len]; exact size24)) rfl ?_
       exact ⟨csz, rfl, by rw [HFN2.out, ← HPL.out, HAt.out]; exact HRn.out.lies, HRn.out.pure, fun b hb _ => HRn.out.off b hb⟩
 ·have h7' : (v.kind != 7) = true := by simpa using h7
  have HFN : Hid (F = v) := qh (by rw [HFF.out, if_neg h7])
  have hB34 := hB33.setAll cs HCs.out.symm
  have hP4 := Ext.setCells cs 0 w3 hP3 (b := tb + 2) (fun h => by have := HTw.out; omega)
  have HB34 := qh hB34
  have HP4 := qh hP4
  have HTh := qh (show w3.there (tb + 2) 0 cs.toArray.size by rw [List.size_toArray, HCs.out]; exact hB33.there 4 rfl)
  have HSi : Hid ((Tryz.prog.info? 48).map (·.size) = some cs.toArray.size) := qh (by rw [List.size_toArray, HCs.out]; exact size24)
  have hR3 := hB13.range
  have c0w : (((w.alloc (.cells cs.toArray 48)).alloc (.cells us.toArray 48)).alloc (.cells #[.int .i64 0, .int .i64 0, .string ⟨#[]⟩, .slice none 0 0] 48)).cell? ⟨w.heap.size, 0, none⟩ = some (.int .i64 v.kind) := by rw [HW.out, ← HTb.out]; exact c0
  clear hB34 hP4 hB13 hB23 hB33 hP3 HFF h7 c0 c3 z3
  generalize v.kind = k0 at *
  go_enter Tryz.func103, Tryz.ntmps103
  go_wp2_with (first
   | (with_reducible refine at_load 48 (.tmp 3) ?_; refine wpList_load_mid rfl 48 (.tmp 3) rfl w.heap.size 0 rfl cs _ (by rw [HW.out, ← HTb.out]; exact hR3) Tryz.underlying48 rfl (by rw [HCs.out]; kernel_rfl) ?_; rw [HW.out, ← HTb.out])
   | (with_reducible refine at_store 48 (.tmp 6) (.tmp 13) ?_; refine wpList_store_mid rfl 48 (.tmp 6) (.tmp 13) rfl (tb + 2) 0 cs.toArray rfl rfl HTh.out HSi.out HOne.out ?_; try simp only [List.toArray_toList]))
  refine bodyPost_ret (results_row1 rfl _ _ (tb + 2) _ cs _ rfl HB34.out Tryz.underlying48 rfl (by rw [HCs.out]; exact size24)) rfl ?_
  exact ⟨cs, rfl, by rw [HFN.out]; exact HL.out.pure HP4.out, HP4.out, fun _ _ h => h⟩
