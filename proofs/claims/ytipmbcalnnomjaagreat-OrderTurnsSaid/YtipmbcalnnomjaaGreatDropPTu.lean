import Derived.Test.YtipmbcalnnomjaaGreatLiesInTu
import Derived.Test.YtipmbcalnnomjaaGreatSqTu
set_option linter.unusedVariables false
set_option linter.unusedSimpArgs false
set_option maxRecDepth 100000
namespace Go.Proofs.YtipmbcalnnomjaaGreat
open Go.RowKit
set_option maxHeartbeats 2000000 in
theorem drop_top (w0 : World) (d : Nat) (v : V) (cs : List Value) (key : ByteArray) (w : World) (hP0 : Pure w0 w) (h : Top w0 w d v cs) (hl : v.l.length ≤ 100000) :
 Calls Tryz.prog 68 #[.agg cs.toArray, .string key] w (ValTop w0 (v.dropped key) d cs w) := by
 have h4 := h.len
 have HF := qh (fun W (hP : Pure w W) => find_any d v cs key W ((h.lies hP0).pure hP) (Nat.le_trans hl (by decide)))
 obtain ⟨w1, hw1⟩ : ∃ w1, w1 = w.alloc (.cells cs.toArray 48) := ⟨_, rfl⟩
 have hB1 : BlockIs w1 w.heap.size cs 48 := hw1 ▸ BlockIs.new w _ _
 have hP1 : Pure w w1 := hw1 ▸ ext_alloc w _
 obtain ⟨tb, htb⟩ : ∃ tb, tb = w.heap.size := ⟨_, rfl⟩
 have hs1 : w1.heap.size = tb + 1 := by rw [hw1, World.size_alloc, htb]
 have htw : w.heap.size ≤ tb := by omega
 rw [← htb] at hB1
 obtain ⟨w2, hw2⟩ : ∃ w2, w2 = w1.alloc (.cells zeroCs.toArray 48) := ⟨_, rfl⟩
 have hB1' : BlockIs w2 tb cs 48 := hw2 ▸ hB1.alloc _
 have hB2 : BlockIs w2 (tb + 1) zeroCs 48 := by rw [← hs1, hw2]; exact BlockIs.new w1 _ _
 have hP2 : Pure w w2 := hP1.pure (hw2 ▸ ext_alloc w1 _)
 have hR := hB1'.range
 have HW1 := qh hw1
 have HW2 := qh (show w2 = w1.alloc (.cells #[.int .i64 0, .int .i64 0, .string ⟨#[]⟩, .slice none 0 0] 48) from hw2)
 have HTb := qh htb
 have HTw := qh htw
 have HL := qh h
 have HOne := qh h.one
 have HCs := qh (show cs.length = 4 from h4)
 clear hw1 htb hw2 hs1 h htw
 obtain ⟨F, hF⟩ : ∃ F, F = v.dropped key := ⟨_, rfl⟩
 rw [← hF]
 unfold V.dropped at hF
 have hlt := fun i => find_lt (v := v) (key := key) (i := i)
 obtain ⟨p, hp⟩ : ∃ p, p = v.find key := ⟨_, rfl⟩
 rw [← hp] at hF hlt HF
 have HFF := qh hF
 have HLt := qh hlt
 clear hF hp hlt
 obtain ⟨a, c, xs, hcs0, hlc, hcm, hnil, hfit, hrow, hs⟩ := HL.out.parts
 have hcs := qh hcs0
 clear hcs0
 go_enter Tryz.func68, Tryz.ntmps68
 go_wp2_with (refine wpList_load_mid rfl 48 (.tmp 2) rfl tb 0 (by rw [HTb.out]; rfl) cs _ (by rw [← HW1.out, ← HW2.out]; exact hR) Tryz.underlying48 rfl (by rw [HCs.out]; kernel_rfl) ?_)
 rw [← HW1.out, ← HTb.out, ← HW2.out]
 refine (HF.out w2 hP2).mono ?_
 rintro e w3 ⟨rfl, hP3⟩
 have hB23 := hB2.ext hP3 id
 have hB13 := hB1'.ext hP3 id
 have hP03 := hP2.pure hP3
 clear HF hR hB1 hB2 hB1'
 cases p with
 | none =>
   have HFN : Hid (F = v) := qh HFF.out
   have hB3 := hB23.setAll cs HCs.out.symm
   have hP4 := Ext.setCells cs 0 w3 hP03 (b := tb + 1) (fun h => by have := HTw.out; omega)
   have HB3 := qh hB3
   have HP4 := qh hP4
   have HTh := qh (show w3.there (tb + 1) 0 cs.toArray.size by rw [List.size_toArray, HCs.out]; exact hB23.there 4 rfl)
   have HSi : Hid ((Tryz.prog.info? 48).map (·.size) = some cs.toArray.size) := qh (by rw [List.size_toArray, HCs.out]; exact size24)
   have hR3 := hB13.range
   clear hB3 hP4 hB23 hB13 hP03
   go_wp2_with (first
    | (refine wpList_load_mid rfl 48 (.tmp 2) rfl tb 0 rfl cs _ hR3 Tryz.underlying48 rfl (by rw [HCs.out]; kernel_rfl) ?_)
    | (refine wpList_store_mid rfl 48 (.tmp 4) (.tmp 11) rfl (tb + 1) 0 cs.toArray rfl rfl HTh.out HSi.out HOne.out ?_; try simp only [List.toArray_toList]))
   refine bodyPost_ret (results_row1 rfl _ _ (tb + 1) _ cs _ rfl HB3.out Tryz.underlying48 rfl (by rw [HCs.out]; exact size24)) rfl ?_
   exact ⟨cs, rfl, by rw [HFN.out]; exact HL.out.pure HP4.out, HP4.out, fun _ _ h => h⟩
 | some i =>
   obtain ⟨l, hll⟩ : ∃ l, l = v.l := ⟨_, rfl⟩
   have hi := HLt.out i rfl
   obtain ⟨n, hn⟩ : ∃ n, n = v.l.length := ⟨_, rfl⟩
   have hcs2 := hcs.out
   rw [← hn] at hi hl hcs2 hlc hnil
   obtain ⟨j, hj⟩ : ∃ j, j = min (i + 2) n := ⟨_, rfl⟩
   have HFN : Hid (F = .mk v.kind v.n v.s (v.l.take i ++ v.l.drop j)) := qh (by rw [HFF.out, hj, hn])
   have hxl := hfit.len
   have hone := hfit.one
   have HCl := qh (clone_any a n c xs w3.drew (by rw [hxl, hn]) (hrow.ext hP03.drew (fun _ _ => id)) hnil hl hone)
   have hB1d : BlockIs w3.drew tb cs 48 := hB13
   rw [hcs2] at hB1d
   have c3 : w3.cell? ⟨tb, 3, none⟩ = some (.slice a n c) := hB1d.cell 3
   have htb3 : tb + 1 < w3.heap.size := hB23.lt
   have HB1d := qh hB1d
   have HB23 := qh hB23
   have HHl := qh hl
   have HI := qh hi
   have HJ := qh hj
   have HN := qh hn
   have HOn := qh hone
   have HFit := qh hfit
   have HTb3 := qh htb3
   have hmn : (if (n : Int) < (i : Int) + 2 then (n : Int) else (i : Int) + 2) = (j : Int) := by rw [hj]; split <;> omega
   have HMn := qh hmn
   clear hcs2 hB1d hB23 hB13 hone hxl hj hn hll hfit hmn htb3
   simp only [optI]
   have hw2 : IntKind.i64.wrap ((i : Int) + 2) = (i : Int) + 2 := by rw [IntKind.wrap_i64]; omega
   go_wp2_with fail
   refine region_start (fun k => k = tb ∨ w3.heap.size ≤ k) (by kernel_rfl) ?_
   try simp only [Act.put, sA, sZ, sS]
   refine region_take 0 12 (v := ?vda0) rfl rfl (by kernel_rfl) (by kernel_rfl) (by kernel_rfl) (fun _ _ _ h => h) (by rfl) (fun w' hS => ?hda0) ?rda0
   case hda0 => go_simp; with_reducible rfl
   try simp only [Act.put, sA, sZ, sS]
   refine region_take 3 15 (v := ?vda3) rfl rfl (by kernel_rfl) (by kernel_rfl) (by kernel_rfl) (fun _ _ _ h => h) (by rfl) (fun w' hS => ?hda3) ?rda3
   case hda3 => go_simp; with_reducible rfl
   try simp only [Act.put, sA, sZ, sS]
   refine region_take 4 16 (v := ?vda4) rfl rfl (by kernel_rfl) (by kernel_rfl) (by kernel_rfl) (fun _ _ _ h => h) (by rfl) (fun w' hS => ?hda4) ?rda4
   case hda4 => go_simp; with_reducible rfl
   try simp only [Act.put, sA, sZ, sS]
   refine region_take 5 17 (v := ?vda5) rfl rfl (by kernel_rfl) (by kernel_rfl) (by kernel_rfl) (fun _ _ _ h => h) (by rfl) (fun w' hS => ?hda5) ?rda5
   case hda5 => go_simp; with_reducible rfl
   try simp only [Act.put, sA, sZ, sS]
   refine region_take 6 18 (v := ?vda6) rfl rfl (by kernel_rfl) (by kernel_rfl) (by kernel_rfl) (fun _ _ _ h => h) (by rfl) (fun w' hS => ?hda6) ?rda6
   case hda6 => go_simp; with_reducible rfl
   try simp only [Act.put, sA, sZ, sS]
   refine wpAnyH_ready (rs := [1, 7]) (by kernel_rfl) (by simp) (AllReadyH.cons rfl (fun K hK => ?_) (AllReadyH.cons rfl (fun K hK => ?_) (AllReadyH.nil)))
   go_simp
   refine hK.out _ _ (Ext.refl _ _) (fun hHeld => ?_)
   clear hK K hHeld
   refine region_now (Ext.refl _ _) ?_
   try simp only [Act.put, sA, sZ, sS]
   refine wpAnyH_ready (rs := [2, 7]) (by kernel_rfl) (by simp) (AllReadyH.cons rfl (fun K hK => ?_) (AllReadyH.cons rfl (fun K hK => ?_) (AllReadyH.nil)))
   go_simp
   refine HCl.out.mono ?_
   rintro e w4 ⟨a4, c4', rfl, hO4, hE4⟩
   have hB14 := HB1d.out.ext hE4 id
   have c3b : w4.cell? ⟨tb, 3, none⟩ = some (.slice a n c) := hB14.cell 3
   have HDe := qh (delete_any w3.heap.size a4 n c4' i j xs w4 hO4 HHl.out (by have := HJ.out; have := HI.out; omega) (by have := HJ.out; omega) hE4.size HOn.out)
   have HO4 := qh hO4
   have HE4 := qh hE4
   have HB14 := qh hB14
   clear hO4 hB14
   refine hK.out _ _ (HE4.out.mono (fun _ _ e => e.elim)) (fun hHeld => ?_)
   clear hK K hHeld
   refine region_now (HE4.out.mono (fun _ _ e => e.elim)) ?_
   try simp only [Act.put, sA, sZ, sS]
   refine wpAnyH_ready (rs := [7]) (by kernel_rfl) (by simp) (AllReadyH.cons rfl (fun K hK => ?_) AllReadyH.nil)
   go_simp
   refine hK.out _ _ (Ext.refl _ _) (fun hHeld => ?_)
   clear hK K hHeld
   refine region_now (Ext.refl _ _) ?_
   try simp only [Act.put, sA, sZ, sS]
   refine region_take 8 20 (v := ?vdaq0q08) rfl rfl (by kernel_rfl) (by kernel_rfl) (by kernel_rfl) (fun _ _ _ h => h) (by rfl) (fun w' hS => ?hdaq0q08) ?rdaq0q08
   case hdaq0q08 => go_simp; with_reducible rfl
   try simp only [Act.put, sA, sZ, sS]
   refine region_take 9 21 (v := ?vdaq0q09) rfl rfl (by kernel_rfl) (by kernel_rfl) (by kernel_rfl) (fun _ _ _ h => h) (by rfl) (fun w' hS => ?hdaq0q09) ?rdaq0q09
   case hdaq0q09 => go_simp; with_reducible rfl
   try simp only [Act.put, sA, sZ, sS]
   refine wpAnyH_ready (rs := [10]) (by kernel_rfl) (by simp) (AllReadyH.cons rfl (fun K hK => ?_) AllReadyH.nil)
   go_simp
   rw [HMn.out]
   refine HDe.out.mono ?_
   rintro e w5 ⟨a5, c5, rfl, hO5, hE5⟩
   have hX5 : Ext (fun k => k = tb ∨ w3.heap.size ≤ k) w4 w5 := hE5.mono (fun k _ hk => Or.inr (HO4.out.lt k hk).1)
   have htn : ¬ (Value.slice a4 n c4').ownBlock = some tb := fun e => by have h1 := (HO4.out.lt _ e).1; have h2 := HTb3.out; have h3 : w3.heap.size ≤ tb := h1; omega
   have htn2 : ¬ (Value.slice a4 n c4').ownBlock = some (tb + 1) := fun e => by have h1 := (HO4.out.lt _ e).1; have h2 := HTb3.out; have h3 : w3.heap.size ≤ tb + 1 := h1; omega
   have hB15 := HB14.out.ext hE5 htn
   have hB25 := (BlockIs.ext (BlockIs.drew HB23.out) HE4.out id).ext hE5 htn2
   have c3c : w5.cell? ⟨tb, 3, none⟩ = some (.slice a n c) := hB15.cell 3
   have z3c : w5.frozen? ⟨tb, 3, none⟩ = false := hB15.free 3
   have HO5 := qh hO5
   have HX5 := qh hX5
   have HB15 := qh hB15
   have HB25 := qh hB25
   have HP5 : Hid (Pure w w5) := qh ((hP03.drew.pure HE4.out).trans hE5 (fun k hk e => by have h1 : w3.heap.size ≤ k := (HO4.out.lt k e).1; have h2 := hP03.size; omega))
   clear hO5 hX5 hB15 hB25 htn htn2 hE5
   refine hK.out _ _ (HX5.out) (fun hHeld => ?_)
   clear hK K hHeld
   refine region_now (HX5.out) ?_
   try simp only [Act.put, sA, sZ, sS]
   refine region_take 11 23 (v := ?vdaq0q011) rfl rfl (by kernel_rfl) (by kernel_rfl) (by kernel_rfl) (fun _ _ _ h => h) (by rfl) (fun w' hS => ?hdaq0q011) ?rdaq0q011
   case hdaq0q011 => go_simp; with_reducible rfl
   try simp only [Act.put, sA, sZ, sS]
   refine wpAnyH_ready (rs := [12]) (by kernel_rfl) (by simp) (AllReadyH.cons rfl (fun K hK => ?_) AllReadyH.nil)
   go_simp
   refine hK.out _ _ ((Ext.refl _ _).setCell (p := ⟨tb, 3, none⟩) (fun _ => Or.inl rfl) _) (fun hHeld => ?_)
   clear hK K hHeld
   refine region_now ((Ext.refl _ _).setCell (p := ⟨tb, 3, none⟩) (fun _ => Or.inl rfl) _) ?_
   try simp only [Act.put, sA, sZ, sS]
   refine wpAnyH_done (by kernel_rfl) ?_ _
   rotate_left
   go_simp
   refine hK.out _ _ (Ext.refl _ _) (fun hHeld => ?_)
   clear hK K hHeld
   refine region_now (Ext.refl _ _) ?_
   try simp only [Act.put, sA, sZ, sS]
   refine region_take 8 20 (v := ?vdaq0q18) rfl rfl (by kernel_rfl) (by kernel_rfl) (by kernel_rfl) (fun _ _ _ h => h) (by rfl) (fun w' hS => ?hdaq0q18) ?rdaq0q18
   case hdaq0q18 => go_simp; with_reducible rfl
   try simp only [Act.put, sA, sZ, sS]
   refine region_take 9 21 (v := ?vdaq0q19) rfl rfl (by kernel_rfl) (by kernel_rfl) (by kernel_rfl) (fun _ _ _ h => h) (by rfl) (fun w' hS => ?hdaq0q19) ?rdaq0q19
   case hdaq0q19 => go_simp; with_reducible rfl
   try simp only [Act.put, sA, sZ, sS]
   refine wpAnyH_ready (rs := [2]) (by kernel_rfl) (by simp) (AllReadyH.cons rfl (fun K hK => ?_) AllReadyH.nil)
   go_simp
   refine HCl.out.mono ?_
   rintro e w4 ⟨a4, c4', rfl, hO4, hE4⟩
   have hB14 := HB1d.out.ext hE4 id
   have c3b : w4.cell? ⟨tb, 3, none⟩ = some (.slice a n c) := hB14.cell 3
   have HDe := qh (delete_any w3.heap.size a4 n c4' i j xs w4 hO4 HHl.out (by have := HJ.out; have := HI.out; omega) (by have := HJ.out; omega) hE4.size HOn.out)
   have HO4 := qh hO4
   have HE4 := qh hE4
   have HB14 := qh hB14
   clear hO4 hB14
   refine hK.out _ _ (HE4.out.mono (fun _ _ e => e.elim)) (fun hHeld => ?_)
   clear hK K hHeld
   refine region_now (HE4.out.mono (fun _ _ e => e.elim)) ?_
   try simp only [Act.put, sA, sZ, sS]
   refine wpAnyH_ready (rs := [10]) (by kernel_rfl) (by simp) (AllReadyH.cons rfl (fun K hK => ?_) AllReadyH.nil)
   go_simp
   rw [HMn.out]
   refine HDe.out.mono ?_
   rintro e w5 ⟨a5, c5, rfl, hO5, hE5⟩
   have hX5 : Ext (fun k => k = tb ∨ w3.heap.size ≤ k) w4 w5 := hE5.mono (fun k _ hk => Or.inr (HO4.out.lt k hk).1)
   have htn : ¬ (Value.slice a4 n c4').ownBlock = some tb := fun e => by have h1 := (HO4.out.lt _ e).1; have h2 := HTb3.out; have h3 : w3.heap.size ≤ tb := h1; omega
   have htn2 : ¬ (Value.slice a4 n c4').ownBlock = some (tb + 1) := fun e => by have h1 := (HO4.out.lt _ e).1; have h2 := HTb3.out; have h3 : w3.heap.size ≤ tb + 1 := h1; omega
   have hB15 := HB14.out.ext hE5 htn
   have hB25 := (BlockIs.ext (BlockIs.drew HB23.out) HE4.out id).ext hE5 htn2
   have c3c : w5.cell? ⟨tb, 3, none⟩ = some (.slice a n c) := hB15.cell 3
   have z3c : w5.frozen? ⟨tb, 3, none⟩ = false := hB15.free 3
   have HO5 := qh hO5
   have HX5 := qh hX5
   have HB15 := qh hB15
   have HB25 := qh hB25
   have HP5 : Hid (Pure w w5) := qh ((hP03.drew.pure HE4.out).trans hE5 (fun k hk e => by have h1 : w3.heap.size ≤ k := (HO4.out.lt k e).1; have h2 := hP03.size; omega))
   clear hO5 hX5 hB15 hB25 htn htn2 hE5
   refine hK.out _ _ (HX5.out) (fun hHeld => ?_)
   clear hK K hHeld
   refine region_now (HX5.out) ?_
   try simp only [Act.put, sA, sZ, sS]
   refine region_take 11 23 (v := ?vdaq0q111) rfl rfl (by kernel_rfl) (by kernel_rfl) (by kernel_rfl) (fun _ _ _ h => h) (by rfl) (fun w' hS => ?hdaq0q111) ?rdaq0q111
   case hdaq0q111 => go_simp; with_reducible rfl
   try simp only [Act.put, sA, sZ, sS]
   refine wpAnyH_ready (rs := [12]) (by kernel_rfl) (by simp) (AllReadyH.cons rfl (fun K hK => ?_) AllReadyH.nil)
   go_simp
   refine hK.out _ _ ((Ext.refl _ _).setCell (p := ⟨tb, 3, none⟩) (fun _ => Or.inl rfl) _) (fun hHeld => ?_)
   clear hK K hHeld
   refine region_now ((Ext.refl _ _).setCell (p := ⟨tb, 3, none⟩) (fun _ => Or.inl rfl) _) ?_
   try simp only [Act.put, sA, sZ, sS]
   refine wpAnyH_done (by kernel_rfl) ?_ _
   rotate_left
   go_simp
   refine hK.out _ _ (Ext.refl _ _) (fun hHeld => ?_)
   clear hK K hHeld
   refine region_now (Ext.refl _ _) ?_
   try simp only [Act.put, sA, sZ, sS]
   refine region_take 8 20 (v := ?vdaq18) rfl rfl (by kernel_rfl) (by kernel_rfl) (by kernel_rfl) (fun _ _ _ h => h) (by rfl) (fun w' hS => ?hdaq18) ?rdaq18
   case hdaq18 => go_simp; with_reducible rfl
   try simp only [Act.put, sA, sZ, sS]
   refine region_take 9 21 (v := ?vdaq19) rfl rfl (by kernel_rfl) (by kernel_rfl) (by kernel_rfl) (fun _ _ _ h => h) (by rfl) (fun w' hS => ?hdaq19) ?rdaq19
   case hdaq19 => go_simp; with_reducible rfl
   try simp only [Act.put, sA, sZ, sS]
   refine wpAnyH_ready (rs := [1]) (by kernel_rfl) (by simp) (AllReadyH.cons rfl (fun K hK => ?_) AllReadyH.nil)
   go_simp
   refine hK.out _ _ (Ext.refl _ _) (fun hHeld => ?_)
   clear hK K hHeld
   refine region_now (Ext.refl _ _) ?_
   try simp only [Act.put, sA, sZ, sS]
   refine wpAnyH_ready (rs := [2]) (by kernel_rfl) (by simp) (AllReadyH.cons rfl (fun K hK => ?_) AllReadyH.nil)
   go_simp
   refine HCl.out.mono ?_
   rintro e w4 ⟨a4, c4', rfl, hO4, hE4⟩
   have hB14 := HB1d.out.ext hE4 id
   have c3b : w4.cell? ⟨tb, 3, none⟩ = some (.slice a n c) := hB14.cell 3
   have HDe := qh (delete_any w3.heap.size a4 n c4' i j xs w4 hO4 HHl.out (by have := HJ.out; have := HI.out; omega) (by have := HJ.out; omega) hE4.size HOn.out)
   have HO4 := qh hO4
   have HE4 := qh hE4
   have HB14 := qh hB14
   clear hO4 hB14
   refine hK.out _ _ (HE4.out.mono (fun _ _ e => e.elim)) (fun hHeld => ?_)
   clear hK K hHeld
   refine region_now (HE4.out.mono (fun _ _ e => e.elim)) ?_
   try simp only [Act.put, sA, sZ, sS]
   refine wpAnyH_ready (rs := [10]) (by kernel_rfl) (by simp) (AllReadyH.cons rfl (fun K hK => ?_) AllReadyH.nil)
   go_simp
   rw [HMn.out]
   refine HDe.out.mono ?_
   rintro e w5 ⟨a5, c5, rfl, hO5, hE5⟩
   have hX5 : Ext (fun k => k = tb ∨ w3.heap.size ≤ k) w4 w5 := hE5.mono (fun k _ hk => Or.inr (HO4.out.lt k hk).1)
   have htn : ¬ (Value.slice a4 n c4').ownBlock = some tb := fun e => by have h1 := (HO4.out.lt _ e).1; have h2 := HTb3.out; have h3 : w3.heap.size ≤ tb := h1; omega
   have htn2 : ¬ (Value.slice a4 n c4').ownBlock = some (tb + 1) := fun e => by have h1 := (HO4.out.lt _ e).1; have h2 := HTb3.out; have h3 : w3.heap.size ≤ tb + 1 := h1; omega
   have hB15 := HB14.out.ext hE5 htn
   have hB25 := (BlockIs.ext (BlockIs.drew HB23.out) HE4.out id).ext hE5 htn2
   have c3c : w5.cell? ⟨tb, 3, none⟩ = some (.slice a n c) := hB15.cell 3
   have z3c : w5.frozen? ⟨tb, 3, none⟩ = false := hB15.free 3
   have HO5 := qh hO5
   have HX5 := qh hX5
   have HB15 := qh hB15
   have HB25 := qh hB25
   have HP5 : Hid (Pure w w5) := qh ((hP03.drew.pure HE4.out).trans hE5 (fun k hk e => by have h1 : w3.heap.size ≤ k := (HO4.out.lt k e).1; have h2 := hP03.size; omega))
   clear hO5 hX5 hB15 hB25 htn htn2 hE5
   refine hK.out _ _ (HX5.out) (fun hHeld => ?_)
   clear hK K hHeld
   refine region_now (HX5.out) ?_
   try simp only [Act.put, sA, sZ, sS]
   refine region_take 11 23 (v := ?vdaq111) rfl rfl (by kernel_rfl) (by kernel_rfl) (by kernel_rfl) (fun _ _ _ h => h) (by rfl) (fun w' hS => ?hdaq111) ?rdaq111
   case hdaq111 => go_simp; with_reducible rfl
   try simp only [Act.put, sA, sZ, sS]
   refine wpAnyH_ready (rs := [12]) (by kernel_rfl) (by simp) (AllReadyH.cons rfl (fun K hK => ?_) AllReadyH.nil)
   go_simp
   refine hK.out _ _ ((Ext.refl _ _).setCell (p := ⟨tb, 3, none⟩) (fun _ => Or.inl rfl) _) (fun hHeld => ?_)
   clear hK K hHeld
   refine region_now ((Ext.refl _ _).setCell (p := ⟨tb, 3, none⟩) (fun _ => Or.inl rfl) _) ?_
   try simp only [Act.put, sA, sZ, sS]
   refine wpAnyH_done (by kernel_rfl) ?_ _
   rotate_left
   all_goals
    obtain ⟨w6, cs6, hRn⟩ := renew (w0 := w0) (v := v) (l := v.l.take i ++ v.l.drop j) HB15.out HB25.out (by omega) HP5.out HTw.out (by have := HTw.out; omega) HO5.out (by have := HTb3.out; omega) HTb3.out ((HFit.out.take i).append (HFit.out.drop j)) hs (by rw [List.length_append, List.length_take, List.length_drop, ← HN.out]; have := HI.out; omega)
    have HRn := qh hRn
    have hR6 := hRn.block.range
    clear hRn HDe HO5 HX5 HB15 HB25 HP5 HO4 HE4 HB14 c3 c3b c3c z3c hrow hs
    go_wp2_with (first
     | (with_reducible refine at_load 48 (.tmp 2) ?_; refine wpList_load_mid rfl 48 (.tmp 2) rfl tb 0 rfl cs6 _ (by rw [← HRn.out.is]; exact hR6) Tryz.underlying48 rfl (by rw [HRn.out.len]; kernel_rfl) ?_; rw [← HRn.out.is])
     | (with_reducible refine at_store 48 (.tmp 4) (.tmp 24) ?_; refine wpList_store_mid rfl 48 (.tmp 4) (.tmp 24) rfl (tb + 1) 0 cs6.toArray rfl rfl HRn.out.there HRn.out.info HRn.out.one ?_; try simp only [List.toArray_toList]))
    refine bodyPost_ret (results_row1 rfl _ _ (tb + 1) _ cs6 _ rfl HRn.out.after Tryz.underlying48 rfl (by rw [HRn.out.len]; exact size24)) rfl ?_
    exact ⟨cs6, rfl, by rw [HFN.out]; exact HRn.out.lies, HRn.out.pure, fun b hb _ => HRn.out.off b hb⟩
