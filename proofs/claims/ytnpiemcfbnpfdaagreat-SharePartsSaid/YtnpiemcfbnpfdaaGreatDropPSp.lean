import Derived.Test.YtnpiemcfbnpfdaaGreatLiesInSp
import Derived.Test.YtnpiemcfbnpfdaaGreatSqSp
set_option linter.unusedVariables false
set_option linter.unusedSimpArgs false
set_option maxRecDepth 100000
namespace Go.Proofs.YtnpiemcfbnpfdaaGreat
open Go.RowKit
set_option maxHeartbeats 2000000 in
theorem drop_top (w0 : World) (d : Nat) (v : V) (cs : List Value) (key : ByteArray) (w : World) (hP0 : Pure w0 w) (h : Top w0 w d v cs) (hl : v.l.length ≤ 100000) :
 Calls Tryz.prog 64 #[.agg cs.toArray, .string key] w (ValTop w0 (v.dropped key) d cs w) := by
 have h4 := h.len;have HF := qh (fun W (hP : Pure w W) => find_any d v cs key W ((h.lies hP0).pure hP) (Nat.le_trans hl (by decide)));obtain ⟨w1, hw1⟩ : ∃ w1, w1 = w.alloc (.cells cs.toArray 48) := ⟨_, rfl⟩;have hB1 : BlockIs w1 w.heap.size cs 48 := hw1 ▸ BlockIs.new w _ _;have hP1 : Pure w w1 := hw1 ▸ ext_alloc w _;obtain ⟨tb, htb⟩ : ∃ tb, tb = w.heap.size := ⟨_, rfl⟩;have hs1 : w1.heap.size = tb + 1 := by rw [hw1, World.size_alloc, htb]
 have htw : w.heap.size ≤ tb := by omega
 rw [← htb] at hB1;obtain ⟨w2, hw2⟩ : ∃ w2, w2 = w1.alloc (.cells zeroCs.toArray 48) := ⟨_, rfl⟩;have hB1' : BlockIs w2 tb cs 48 := hw2 ▸ hB1.alloc _;have hB2 : BlockIs w2 (tb + 1) zeroCs 48 := by rw [← hs1, hw2]; exact BlockIs.new w1 _ _
 have hP2 : Pure w w2 := hP1.pure (hw2 ▸ ext_alloc w1 _);have hR := hB1'.range;have HW1 := qh hw1;have HW2 := qh (show w2 = w1.alloc (.cells #[.int .i64 0, .int .i64 0, .string ⟨#[]⟩, .slice none 0 0] 48) from hw2);have HTb := qh htb;have HTw := qh htw;have HL := qh h;have HOne := qh h.one;have HCs := qh (show cs.length = 4 from h4);clear hw1 htb hw2 hs1 h htw;obtain ⟨F, hF⟩ : ∃ F, F = v.dropped key := ⟨_, rfl⟩;rw [← hF];unfold V.dropped at hF;have hlt := fun i => find_lt (v := v) (key := key) (i := i);obtain ⟨p, hp⟩ : ∃ p, p = v.find key := ⟨_, rfl⟩;rw [← hp] at hF hlt HF;have HFF := qh hF;have HLt := qh hlt;clear hF hp hlt;obtain ⟨a, c, xs, hcs0, hlc, hcm, hnil, hfit, hrow, hs⟩ := HL.out.parts;have hcs := qh hcs0;clear hcs0
 go_enter Tryz.func64, Tryz.ntmps64
 go_wp2_with (refine wpList_load_mid rfl 48 (.tmp 2) rfl tb 0 (by rw [HTb.out]; rfl) cs _ (by rw [← HW1.out, ← HW2.out]; exact hR) Tryz.underlying48 rfl (by rw [HCs.out]; kernel_rfl) ?_)
 rw [← HW1.out, ← HTb.out, ← HW2.out];refine (HF.out w2 hP2).mono ?_;rintro e w3 ⟨rfl, hP3⟩;have hB23 := hB2.ext hP3 id;have hB13 := hB1'.ext hP3 id;have hP03 := hP2.pure hP3;clear HF hR hB1 hB2 hB1';cases p with
 | none =>
   have HFN : Hid (F = v) := qh HFF.out;have hB3 := hB23.setAll cs HCs.out.symm;have hP4 := Ext.setCells cs 0 w3 hP03 (b := tb + 1) (fun h => by have := HTw.out; omega);have HB3 := qh hB3;have HP4 := qh hP4;have HTh := qh (show w3.there (tb + 1) 0 cs.toArray.size by rw [List.size_toArray, HCs.out]; exact hB23.there 4 rfl);have HSi : Hid ((Tryz.prog.info? 48).map (·.size) = some cs.toArray.size) := qh (by rw [List.size_toArray, HCs.out]; exact size24);have hR3 := hB13.range;clear hB3 hP4 hB23 hB13 hP03
   go_wp2_with (first
    | (refine wpList_load_mid rfl 48 (.tmp 2) rfl tb 0 rfl cs _ hR3 Tryz.underlying48 rfl (by rw [HCs.out]; kernel_rfl) ?_)
    | (refine wpList_store_mid rfl 48 (.tmp 4) (.tmp 11) rfl (tb + 1) 0 cs.toArray rfl rfl HTh.out HSi.out HOne.out ?_; try simp only [List.toArray_toList]))
   refine bodyPost_ret (results_row1 rfl _ _ (tb + 1) _ cs _ rfl HB3.out Tryz.underlying48 rfl (by rw [HCs.out]; exact size24)) rfl ?_;exact ⟨cs, rfl, by rw [HFN.out]; exact HL.out.pure HP4.out, HP4.out, fun _ _ h => h⟩
 | some i =>
   obtain ⟨l, hll⟩ : ∃ l, l = v.l := ⟨_, rfl⟩;have hi := HLt.out i rfl;obtain ⟨n, hn⟩ : ∃ n, n = v.l.length := ⟨_, rfl⟩;have hcs2 := hcs.out;rw [← hn] at hi hl hcs2 hlc hnil;obtain ⟨j, hj⟩ : ∃ j, j = min (i + 2) n := ⟨_, rfl⟩;have HFN : Hid (F = .mk v.kind v.n v.s (v.l.take i ++ v.l.drop j)) := qh (by rw [HFF.out, hj, hn]);have hxl := hfit.len;have hone := hfit.one;have HCl := qh (clone_any a n c xs w3.drew (by rw [hxl, hn]) (hrow.ext hP03.drew (fun _ _ => id)) hnil hl hone);have hB1d : BlockIs w3.drew tb cs 48 := hB13;rw [hcs2] at hB1d;have c3 : w3.cell? ⟨tb, 3, none⟩ = some (.slice a n c) := hB1d.cell 3;have htb3 : tb + 1 < w3.heap.size := hB23.lt;have HB1d := qh hB1d;have HB23 := qh hB23;have HHl := qh hl;have HI := qh hi;have HJ := qh hj;have HN := qh hn;have HOn := qh hone;have HFit := qh hfit;have HTb3 := qh htb3;have hmn : (if (n : Int) < (i : Int) + 2 then (n : Int) else (i : Int) + 2) = (j : Int) := by rw [hj]; split <;> omega
   have HMn := qh hmn;clear hcs2 hB1d hB23 hB13 hone hxl hj hn hll hfit hmn htb3;simp only [optI];have hw2 : IntKind.i64.wrap ((i : Int) + 2) = (i : Int) + 2 := by rw [IntKind.wrap_i64]; omega
   go_wp2_with fail
   refine region_start (fun k => k = tb ∨ w3.heap.size ≤ k) (by kernel_rfl) ?_
   try simp only [Act.put, sA, sZ, sS]
   refine rT 0 12 ?_;refine rT 3 15 ?_;refine rT 4 16 ?_;refine rT 5 17 ?_;refine rT 6 18 ?_;refine wpAnyH_ready (rs := [1, 7]) (by kernel_rfl) (by simp) (AllReadyH.cons rfl (fun K hK => ?_) (AllReadyH.cons rfl (fun K hK => ?_) (AllReadyH.nil)))
   go_simp
   refine hK.out _ _ (Ext.refl _ _) (fun hHeld => ?_);clear hK K hHeld;refine region_now (Ext.refl _ _) ?_
   try simp only [Act.put, sA, sZ, sS]
   refine wpAnyH_ready (rs := [2, 7]) (by kernel_rfl) (by simp) (AllReadyH.cons rfl (fun K hK => ?_) (AllReadyH.cons rfl (fun K hK => ?_) (AllReadyH.nil)))
   go_simp
   refine HCl.out.mono ?_;rintro e w4 ⟨a4, c4', rfl, hO4, hE4⟩;have hB14 := HB1d.out.ext hE4 id;have c3b : w4.cell? ⟨tb, 3, none⟩ = some (.slice a n c) := hB14.cell 3;have HDe := qh (delete_any w3.heap.size a4 n c4' i j xs w4 hO4 HHl.out (by have := HJ.out; have := HI.out; omega) (by have := HJ.out; omega) hE4.size HOn.out);have HO4 := qh hO4;have HE4 := qh hE4;have HB14 := qh hB14;clear hO4 hB14;refine hK.out _ _ (HE4.out.mono (fun _ _ e => e.elim)) (fun hHeld => ?_);clear hK K hHeld;refine region_now (HE4.out.mono (fun _ _ e => e.elim)) ?_
   try simp only [Act.put, sA, sZ, sS]
   refine rR 7 (fun K hK => ?_)
   go_simp
   refine hK.out _ _ (Ext.refl _ _) (fun hHeld => ?_);clear hK K hHeld;refine region_now (Ext.refl _ _) ?_
   try simp only [Act.put, sA, sZ, sS]
   refine rT 8 20 ?_;refine rT 9 21 ?_;refine rR 10 (fun K hK => ?_)
   go_simp
   rw [HMn.out];refine HDe.out.mono ?_;rintro e w5 ⟨a5, c5, rfl, hO5, hE5⟩;have hX5 : Ext (fun k => k = tb ∨ w3.heap.size ≤ k) w4 w5 := hE5.mono (fun k _ hk => Or.inr (HO4.out.lt k hk).1);have htn : ¬ (Value.slice a4 n c4').ownBlock = some tb := fun e => by have h1 := (HO4.out.lt _ e).1; have h2 := HTb3.out; have h3 : w3.heap.size ≤ tb := h1; omega
   have htn2 : ¬ (Value.slice a4 n c4').ownBlock = some (tb + 1) := fun e => by have h1 := (HO4.out.lt _ e).1; have h2 := HTb3.out; have h3 : w3.heap.size ≤ tb + 1 := h1; omega
   have hB15 := HB14.out.ext hE5 htn;have hB25 := (BlockIs.ext (BlockIs.drew HB23.out) HE4.out id).ext hE5 htn2;have c3c : w5.cell? ⟨tb, 3, none⟩ = some (.slice a n c) := hB15.cell 3;have z3c : w5.frozen? ⟨tb, 3, none⟩ = false := hB15.free 3;have HO5 := qh hO5;have HX5 := qh hX5;have HB15 := qh hB15;have HB25 := qh hB25;have HP5 : Hid (Pure w w5) := qh ((hP03.drew.pure HE4.out).trans hE5 (fun k hk e => by have h1 : w3.heap.size ≤ k := (HO4.out.lt k e).1; have h2 := hP03.size; omega));clear hO5 hX5 hB15 hB25 htn htn2 hE5;refine hK.out _ _ (HX5.out) (fun hHeld => ?_);clear hK K hHeld;refine region_now (HX5.out) ?_
   try simp only [Act.put, sA, sZ, sS]
   refine rT 11 23 ?_;refine rR 12 (fun K hK => ?_)
   go_simp
   refine hK.out _ _ ((Ext.refl _ _).setCell (p := ⟨tb, 3, none⟩) (fun _ => Or.inl rfl) _) (fun hHeld => ?_);clear hK K hHeld;refine region_now ((Ext.refl _ _).setCell (p := ⟨tb, 3, none⟩) (fun _ => Or.inl rfl) _) ?_
   try simp only [Act.put, sA, sZ, sS]
   refine wpAnyH_done (by kernel_rfl) ?_ _
   rotate_left
   go_simp
   refine hK.out _ _ (Ext.refl _ _) (fun hHeld => ?_);clear hK K hHeld;refine region_now (Ext.refl _ _) ?_
   try simp only [Act.put, sA, sZ, sS]
   refine rT 8 20 ?_;refine rT 9 21 ?_;refine rR 2 (fun K hK => ?_)
   go_simp
   refine HCl.out.mono ?_;rintro e w4 ⟨a4, c4', rfl, hO4, hE4⟩;have hB14 := HB1d.out.ext hE4 id;have c3b : w4.cell? ⟨tb, 3, none⟩ = some (.slice a n c) := hB14.cell 3;have HDe := qh (delete_any w3.heap.size a4 n c4' i j xs w4 hO4 HHl.out (by have := HJ.out; have := HI.out; omega) (by have := HJ.out; omega) hE4.size HOn.out);have HO4 := qh hO4;have HE4 := qh hE4;have HB14 := qh hB14;clear hO4 hB14;refine hK.out _ _ (HE4.out.mono (fun _ _ e => e.elim)) (fun hHeld => ?_);clear hK K hHeld;refine region_now (HE4.out.mono (fun _ _ e => e.elim)) ?_
   try simp only [Act.put, sA, sZ, sS]
   refine rR 10 (fun K hK => ?_)
   go_simp
   rw [HMn.out];refine HDe.out.mono ?_;rintro e w5 ⟨a5, c5, rfl, hO5, hE5⟩;have hX5 : Ext (fun k => k = tb ∨ w3.heap.size ≤ k) w4 w5 := hE5.mono (fun k _ hk => Or.inr (HO4.out.lt k hk).1);have htn : ¬ (Value.slice a4 n c4').ownBlock = some tb := fun e => by have h1 := (HO4.out.lt _ e).1; have h2 := HTb3.out; have h3 : w3.heap.size ≤ tb := h1; omega
   have htn2 : ¬ (Value.slice a4 n c4').ownBlock = some (tb + 1) := fun e => by have h1 := (HO4.out.lt _ e).1; have h2 := HTb3.out; have h3 : w3.heap.size ≤ tb + 1 := h1; omega
   have hB15 := HB14.out.ext hE5 htn;have hB25 := (BlockIs.ext (BlockIs.drew HB23.out) HE4.out id).ext hE5 htn2;have c3c : w5.cell? ⟨tb, 3, none⟩ = some (.slice a n c) := hB15.cell 3;have z3c : w5.frozen? ⟨tb, 3, none⟩ = false := hB15.free 3;have HO5 := qh hO5;have HX5 := qh hX5;have HB15 := qh hB15;have HB25 := qh hB25;have HP5 : Hid (Pure w w5) := qh ((hP03.drew.pure HE4.out).trans hE5 (fun k hk e => by have h1 : w3.heap.size ≤ k := (HO4.out.lt k e).1; have h2 := hP03.size; omega));clear hO5 hX5 hB15 hB25 htn htn2 hE5;refine hK.out _ _ (HX5.out) (fun hHeld => ?_);clear hK K hHeld;refine region_now (HX5.out) ?_
   try simp only [Act.put, sA, sZ, sS]
   refine rT 11 23 ?_;refine rR 12 (fun K hK => ?_)
   go_simp
   refine hK.out _ _ ((Ext.refl _ _).setCell (p := ⟨tb, 3, none⟩) (fun _ => Or.inl rfl) _) (fun hHeld => ?_);clear hK K hHeld;refine region_now ((Ext.refl _ _).setCell (p := ⟨tb, 3, none⟩) (fun _ => Or.inl rfl) _) ?_
   try simp only [Act.put, sA, sZ, sS]
   refine wpAnyH_done (by kernel_rfl) ?_ _
   rotate_left
   go_simp
   refine hK.out _ _ (Ext.refl _ _) (fun hHeld => ?_);clear hK K hHeld;refine region_now (Ext.refl _ _) ?_
   try simp only [Act.put, sA, sZ, sS]
   refine rT 8 20 ?_;refine rT 9 21 ?_;refine rR 1 (fun K hK => ?_)
   go_simp
   refine hK.out _ _ (Ext.refl _ _) (fun hHeld => ?_);clear hK K hHeld;refine region_now (Ext.refl _ _) ?_
   try simp only [Act.put, sA, sZ, sS]
   refine rR 2 (fun K hK => ?_)
   go_simp
   refine HCl.out.mono ?_;rintro e w4 ⟨a4, c4', rfl, hO4, hE4⟩;have hB14 := HB1d.out.ext hE4 id;have c3b : w4.cell? ⟨tb, 3, none⟩ = some (.slice a n c) := hB14.cell 3;have HDe := qh (delete_any w3.heap.size a4 n c4' i j xs w4 hO4 HHl.out (by have := HJ.out; have := HI.out; omega) (by have := HJ.out; omega) hE4.size HOn.out);have HO4 := qh hO4;have HE4 := qh hE4;have HB14 := qh hB14;clear hO4 hB14;refine hK.out _ _ (HE4.out.mono (fun _ _ e => e.elim)) (fun hHeld => ?_);clear hK K hHeld;refine region_now (HE4.out.mono (fun _ _ e => e.elim)) ?_
   try simp only [Act.put, sA, sZ, sS]
   refine rR 10 (fun K hK => ?_)
   go_simp
   rw [HMn.out];refine HDe.out.mono ?_;rintro e w5 ⟨a5, c5, rfl, hO5, hE5⟩;have hX5 : Ext (fun k => k = tb ∨ w3.heap.size ≤ k) w4 w5 := hE5.mono (fun k _ hk => Or.inr (HO4.out.lt k hk).1);have htn : ¬ (Value.slice a4 n c4').ownBlock = some tb := fun e => by have h1 := (HO4.out.lt _ e).1; have h2 := HTb3.out; have h3 : w3.heap.size ≤ tb := h1; omega
   have htn2 : ¬ (Value.slice a4 n c4').ownBlock = some (tb + 1) := fun e => by have h1 := (HO4.out.lt _ e).1; have h2 := HTb3.out; have h3 : w3.heap.size ≤ tb + 1 := h1; omega
   have hB15 := HB14.out.ext hE5 htn;have hB25 := (BlockIs.ext (BlockIs.drew HB23.out) HE4.out id).ext hE5 htn2;have c3c : w5.cell? ⟨tb, 3, none⟩ = some (.slice a n c) := hB15.cell 3;have z3c : w5.frozen? ⟨tb, 3, none⟩ = false := hB15.free 3;have HO5 := qh hO5;have HX5 := qh hX5;have HB15 := qh hB15;have HB25 := qh hB25;have HP5 : Hid (Pure w w5) := qh ((hP03.drew.pure HE4.out).trans hE5 (fun k hk e => by have h1 : w3.heap.size ≤ k := (HO4.out.lt k e).1; have h2 := hP03.size; omega));clear hO5 hX5 hB15 hB25 htn htn2 hE5;refine hK.out _ _ (HX5.out) (fun hHeld => ?_);clear hK K hHeld;refine region_now (HX5.out) ?_
   try simp only [Act.put, sA, sZ, sS]
   refine rT 11 23 ?_;refine rR 12 (fun K hK => ?_)
   go_simp
   refine hK.out _ _ ((Ext.refl _ _).setCell (p := ⟨tb, 3, none⟩) (fun _ => Or.inl rfl) _) (fun hHeld => ?_);clear hK K hHeld;refine region_now ((Ext.refl _ _).setCell (p := ⟨tb, 3, none⟩) (fun _ => Or.inl rfl) _) ?_
   try simp only [Act.put, sA, sZ, sS]
   refine wpAnyH_done (by kernel_rfl) ?_ _
   rotate_left
   all_goals
    obtain ⟨w6, cs6, hRn⟩ := renew (w0 := w0) (v := v) (l := v.l.take i ++ v.l.drop j) HB15.out HB25.out (by omega) HP5.out HTw.out (by have := HTw.out; omega) HO5.out (by have := HTb3.out; omega) HTb3.out ((HFit.out.take i).append (HFit.out.drop j)) hs (by rw [List.length_append, List.length_take, List.length_drop, ← HN.out]; have := HI.out; omega);have HRn := qh hRn;have hR6 := hRn.block.range;clear hRn HDe HO5 HX5 HB15 HB25 HP5 HO4 HE4 HB14 c3 c3b c3c z3c hrow hs
    go_wp2_with (first
     | (with_reducible refine at_load 48 (.tmp 2) ?_; refine wpList_load_mid rfl 48 (.tmp 2) rfl tb 0 rfl cs6 _ (by rw [← HRn.out.is]; exact hR6) Tryz.underlying48 rfl (by rw [HRn.out.len]; kernel_rfl) ?_; rw [← HRn.out.is])
     | (with_reducible refine at_store 48 (.tmp 4) (.tmp 24) ?_; refine wpList_store_mid rfl 48 (.tmp 4) (.tmp 24) rfl (tb + 1) 0 cs6.toArray rfl rfl HRn.out.there HRn.out.info HRn.out.one ?_; try simp only [List.toArray_toList]))
    refine bodyPost_ret (results_row1 rfl _ _ (tb + 1) _ cs6 _ rfl HRn.out.after Tryz.underlying48 rfl (by rw [HRn.out.len]; exact size24)) rfl ?_;exact ⟨cs6, rfl, by rw [HFN.out]; exact HRn.out.lies, HRn.out.pure, fun b hb _ => HRn.out.off b hb⟩
set_option maxHeartbeats 2000000 in
theorem refdrop_top (w0 : World) (d : Nat) (v : V) (cs : List Value) (key : ByteArray) (w : World) (hP0 : Pure w0 w) (h : Top w0 w d v cs) (hl : v.l.length ≤ 100000) :
 Calls Tryz.prog 75 #[.agg cs.toArray, .string key] w (ValTop w0 (v.dropped key) d cs w) := by
 have h4 := h.len;have HF := qh (fun W (hP : Pure w W) => reffind_any d v cs key W ((h.lies hP0).pure hP) (Nat.le_trans hl (by decide)));obtain ⟨w1, hw1⟩ : ∃ w1, w1 = w.alloc (.cells cs.toArray 48) := ⟨_, rfl⟩;have hB1 : BlockIs w1 w.heap.size cs 48 := hw1 ▸ BlockIs.new w _ _;have hP1 : Pure w w1 := hw1 ▸ ext_alloc w _;obtain ⟨tb, htb⟩ : ∃ tb, tb = w.heap.size := ⟨_, rfl⟩;have hs1 : w1.heap.size = tb + 1 := by rw [hw1, World.size_alloc, htb]
 have htw : w.heap.size ≤ tb := by omega
 rw [← htb] at hB1;obtain ⟨w2, hw2⟩ : ∃ w2, w2 = w1.alloc (.cells zeroCs.toArray 48) := ⟨_, rfl⟩;have hB1' : BlockIs w2 tb cs 48 := hw2 ▸ hB1.alloc _;have hB2 : BlockIs w2 (tb + 1) zeroCs 48 := by rw [← hs1, hw2]; exact BlockIs.new w1 _ _
 have hP2 : Pure w w2 := hP1.pure (hw2 ▸ ext_alloc w1 _);have hR := hB1'.range;have HW1 := qh hw1;have HW2 := qh (show w2 = w1.alloc (.cells #[.int .i64 0, .int .i64 0, .string ⟨#[]⟩, .slice none 0 0] 48) from hw2);have HTb := qh htb;have HTw := qh htw;have HL := qh h;have HOne := qh h.one;have HCs := qh (show cs.length = 4 from h4);clear hw1 htb hw2 hs1 h htw;obtain ⟨F, hF⟩ : ∃ F, F = v.dropped key := ⟨_, rfl⟩;rw [← hF];unfold V.dropped at hF;have hlt := fun i => find_lt (v := v) (key := key) (i := i);obtain ⟨p, hp⟩ : ∃ p, p = v.find key := ⟨_, rfl⟩;rw [← hp] at hF hlt HF;have HFF := qh hF;have HLt := qh hlt;clear hF hp hlt;obtain ⟨a, c, xs, hcs0, hlc, hcm, hnil, hfit, hrow, hs⟩ := HL.out.parts;have hcs := qh hcs0;clear hcs0
 go_enter Tryz.func75, Tryz.ntmps75
 go_wp2_with (refine wpList_load_mid rfl 48 (.tmp 2) rfl tb 0 (by rw [HTb.out]; rfl) cs _ (by rw [← HW1.out, ← HW2.out]; exact hR) Tryz.underlying48 rfl (by rw [HCs.out]; kernel_rfl) ?_)
 rw [← HW1.out, ← HTb.out, ← HW2.out];refine (HF.out w2 hP2).mono ?_;rintro e w3 ⟨rfl, hP3⟩;have hB23 := hB2.ext hP3 id;have hB13 := hB1'.ext hP3 id;have hP03 := hP2.pure hP3;clear HF hR hB1 hB2 hB1';cases p with
 | none =>
   have HFN : Hid (F = v) := qh HFF.out;have hB3 := hB23.setAll cs HCs.out.symm;have hP4 := Ext.setCells cs 0 w3 hP03 (b := tb + 1) (fun h => by have := HTw.out; omega);have HB3 := qh hB3;have HP4 := qh hP4;have HTh := qh (show w3.there (tb + 1) 0 cs.toArray.size by rw [List.size_toArray, HCs.out]; exact hB23.there 4 rfl);have HSi : Hid ((Tryz.prog.info? 48).map (·.size) = some cs.toArray.size) := qh (by rw [List.size_toArray, HCs.out]; exact size24);have hR3 := hB13.range;clear hB3 hP4 hB23 hB13 hP03
   go_wp2_with (first
    | (refine wpList_load_mid rfl 48 (.tmp 2) rfl tb 0 rfl cs _ hR3 Tryz.underlying48 rfl (by rw [HCs.out]; kernel_rfl) ?_)
    | (refine wpList_store_mid rfl 48 (.tmp 4) (.tmp 12) rfl (tb + 1) 0 cs.toArray rfl rfl HTh.out HSi.out HOne.out ?_; try simp only [List.toArray_toList]))
   refine bodyPost_ret (results_row1 rfl _ _ (tb + 1) _ cs _ rfl HB3.out Tryz.underlying48 rfl (by rw [HCs.out]; exact size24)) rfl ?_;exact ⟨cs, rfl, by rw [HFN.out]; exact HL.out.pure HP4.out, HP4.out, fun _ _ h => h⟩
 | some i =>
   have hi := HLt.out i rfl;obtain ⟨n, hn⟩ : ∃ n, n = v.l.length := ⟨_, rfl⟩;have hcs2 := hcs.out;rw [← hn] at hi hl hcs2 hlc hnil;have HFN : Hid (F = .mk v.kind v.n v.s (v.l.take i ++ v.l.drop (min (i + 2) n))) := qh (by rw [HFF.out, hn]);have hxl := hfit.len;rw [← hn] at hxl;have hone := hfit.one;obtain ⟨b, o, rfl⟩ : ∃ b o, a = some ⟨b, o, none⟩ := by
    obtain ⟨b, o, h, _⟩ := hrow 0 xs[0] (List.getElem?_eq_getElem (by omega));exact ⟨b, o, h⟩
   have hB1d : BlockIs w3 tb cs 48 := hB13;rw [hcs2] at hB1d;have c3 : w3.cell? ⟨tb, 3, none⟩ = some (.slice (some ⟨b, o, none⟩) n c) := hB1d.cell 3;have c3a : (w3.alloc (.cells #[] 48)).cell? ⟨tb, 3, none⟩ = some (.slice (some ⟨b, o, none⟩) n c) := (hB1d.alloc _).cell 3;have htb3 : tb + 1 < w3.heap.size := hB23.lt;have hr3 := hrow.ext hP03 (fun _ _ => id);have HT : Hid (RowOf w3 (some ⟨b, o, none⟩) (xs.take (i * 4))) := qh (row_take hr3 _);have HD : Hid (RowOf w3 (some ⟨b, o + (i + 2) * 4, none⟩) (xs.drop ((i + 2) * 4))) := qh (by simpa [addr_add] using row_drop hr3 ((i + 2) * 4));have HTL : Hid ((xs.take (i * 4)).length = i * 4) := qh (by rw [List.length_take, hxl]; omega);have HDL : Hid ((xs.drop ((i + 2) * 4)).length = (n - (i + 2)) * 4) := qh (by rw [List.length_drop, hxl]; omega);have HT1 : Hid (∀ u ∈ xs.take (i * 4), u.oneCell' = true) := qh (fun u hu => hone u (List.mem_of_mem_take hu));have HD1 : Hid (∀ u ∈ xs.drop ((i + 2) * 4), u.oneCell' = true) := qh (fun u hu => hone u (List.mem_of_mem_drop hu));have HXL := qh hxl;have HB1d := qh hB1d;have HB23 := qh hB23;have HN := qh hn;have HFit := qh hfit;have HTb3 := qh htb3;have HP03 := qh hP03;clear hcs2 hB1d hB23 hB13 hone hxl hn hfit htb3 hrow hr3 hP03;have hin : i ≤ n := by omega
   have hic : i ≤ c := by omega
   simp only [optI];have hw2 : IntKind.i64.wrap ((i : Int) + 2) = (i : Int) + 2 := by rw [IntKind.wrap_i64]; omega
   by_cases h2 : i + 2 < n
   ·have h2i : (i : Int) + 2 < (n : Int) := by omega
    have hci : ¬ (c = i + 2) := by omega
    have hi2n : i + 2 ≤ n := by omega
    have h2t : ((i : Int) + 2).toNat = i + 2 := by omega
    have h2p : (0 : Int) ≤ (i : Int) + 2 := by omega
    have h2n : (i : Int) + 2 ≤ (n : Int) := by omega
    go_wp2_with (first
     | (at_builtin
        refine wpList_append_any rfl (.tmp 13) (.tmp 17) 46 rfl w3.heap.size 48 (.agg #[.int .i64 0, .int .i64 0, .string ⟨#[]⟩, .slice none 0 0]) 4 56 Tryz.underlying46 info24 rfl (by decide) (.slice (some ⟨w3.heap.size, 0, none⟩) 0 0) 0 [] rfl (own_new (cs := []) rfl (Nat.zero_le _) _ (Nat.le_refl _)) (some ⟨b, o, none⟩) i c (xs.take (i * 4)) rfl (fun e => by cases e) HTL.out (HT.out.ext (ext_alloc w3 _) (fun _ _ => id)) HT1.out i (Nat.zero_add i) (xs.take (i * 4)) rfl (by omega) (by unfold maxLen; omega) (ext_alloc w3 _).size ?_
        intro a4 c4 w4 hO4 hg4
        have hE4 : Ext (fun _ => False) w3 w4 := (ext_alloc w3 (.cells #[] 48)).trans (ext_of_grown hg4) (fun i hi e => by cases e; exact absurd hi (Nat.lt_irrefl _));have HO4 := qh hO4;have HE4 := qh hE4;have hB14 := HB1d.out.ext hE4 id;have c3b : w4.cell? ⟨tb, 3, none⟩ = some (.slice (some ⟨b, o, none⟩) n c) := hB14.cell 3;clear hO4 hE4 hB14 hg4)
     | (at_builtin
        refine wpList_append_any rfl (.tmp 25) (.tmp 30) 46 rfl w3.heap.size 48 (.agg #[.int .i64 0, .int .i64 0, .string ⟨#[]⟩, .slice none 0 0]) 4 56 Tryz.underlying46 info24 rfl (by decide) _ i (xs.take (i * 4)) rfl HO4.out (some ⟨b, o + (i + 2) * 4, none⟩) (n - (i + 2)) (c - (i + 2)) (xs.drop ((i + 2) * 4)) rfl (fun e => by cases e) HDL.out (HD.out.ext HE4.out (fun _ _ => id)) HD1.out (i + (n - (i + 2))) rfl (xs.take (i * 4) ++ xs.drop ((i + 2) * 4)) rfl (by omega) (by unfold maxLen; omega) HE4.out.size ?_
        intro a5 c5 w5 hO5 hg5
        have hE5 : Ext (fun _ => False) w3 w5 := Ext.own (by exact HE4.out) HO4.out hg5;have hB15 := HB1d.out.ext hE5 id;have c3c : w5.cell? ⟨tb, 3, none⟩ = some (.slice (some ⟨b, o, none⟩) n c) := hB15.cell 3;have z3c : w5.frozen? ⟨tb, 3, none⟩ = false := hB15.free 3;obtain ⟨w6, cs6, hRn⟩ := renew (w0 := w0) (v := v) (HB1d.out.ext hE5 id) (HB23.out.ext hE5 id) (by omega) (HP03.out.pure hE5) HTw.out (by have := HTw.out; omega) hO5 (by have := HTb3.out; omega) HTb3.out ((HFit.out.take i).append (HFit.out.drop (i + 2))) hs (by rw [List.length_append, List.length_take, List.length_drop, ← HN.out]; omega);have HRn := qh hRn;have hR6 := hRn.block.range;clear hRn hO5 hE5 hB15 hg5)
     | (refine wpList_load_mid rfl 48 (.tmp 2) rfl tb 0 rfl cs6 _ (by rw [← HRn.out.is]; exact hR6) Tryz.underlying48 rfl (by rw [HRn.out.len]; kernel_rfl) ?_; rw [← HRn.out.is])
     | (refine wpList_store_mid rfl 48 (.tmp 4) (.tmp 34) rfl (tb + 1) 0 cs6.toArray rfl rfl HRn.out.there HRn.out.info HRn.out.one ?_; try simp only [List.toArray_toList]))
    refine bodyPost_ret (results_row1 rfl _ _ (tb + 1) _ cs6 _ rfl HRn.out.after Tryz.underlying48 rfl (by rw [HRn.out.len]; exact size24)) rfl ?_;exact ⟨cs6, rfl, by rw [HFN.out]; rw [Nat.min_eq_left hi2n]; exact HRn.out.lies, HRn.out.pure, fun b hb _ => HRn.out.off b hb⟩
   ·have h2i : ¬ (i : Int) + 2 < (n : Int) := by omega
    go_wp2_with (at_builtin; refine wpList_append_any rfl (.tmp 13) (.tmp 17) 46 rfl w3.heap.size 48 (.agg #[.int .i64 0, .int .i64 0, .string ⟨#[]⟩, .slice none 0 0]) 4 56 Tryz.underlying46 info24 rfl (by decide) (.slice (some ⟨w3.heap.size, 0, none⟩) 0 0) 0 [] rfl (own_new (cs := []) rfl (Nat.zero_le _) _ (Nat.le_refl _)) (some ⟨b, o, none⟩) i c (xs.take (i * 4)) rfl (fun e => by cases e) HTL.out (HT.out.ext (ext_alloc w3 _) (fun _ _ => id)) HT1.out i (Nat.zero_add i) (xs.take (i * 4)) rfl (by omega) (by unfold maxLen; omega) (ext_alloc w3 _).size ?_)
    intro a5 c5 w5 hO5 hg5
    have hE5 : Ext (fun _ => False) w3 w5 := (ext_alloc w3 (.cells #[] 48)).trans (ext_of_grown hg5) (fun i hi e => by cases e; exact absurd hi (Nat.lt_irrefl _));have HO5 := qh hO5;have HE5 := qh hE5;have hB15 := HB1d.out.ext hE5 id;have c3b : w5.cell? ⟨tb, 3, none⟩ = some (.slice (some ⟨b, o, none⟩) n c) := hB15.cell 3;have z3c : w5.frozen? ⟨tb, 3, none⟩ = false := hB15.free 3;clear hO5 hE5 hB15 hg5;obtain ⟨w6, cs6, hRn⟩ := renew (w0 := w0) (v := v) (HB1d.out.ext HE5.out id) (HB23.out.ext HE5.out id) (by omega) (HP03.out.pure HE5.out) HTw.out (by have := HTw.out; omega) HO5.out (by have := HTb3.out; omega) HTb3.out (HFit.out.take i) hs (by rw [List.length_take, ← HN.out]; omega);have HRn := qh hRn;have hR6 := hRn.block.range;clear hRn HO5 HE5 HT HD HT1 HD1
    go_wp2_with (first
     | (refine wpList_load_mid rfl 48 (.tmp 2) rfl tb 0 rfl cs6 _ (by rw [← HRn.out.is]; exact hR6) Tryz.underlying48 rfl (by rw [HRn.out.len]; kernel_rfl) ?_; rw [← HRn.out.is])
     | (refine wpList_store_mid rfl 48 (.tmp 4) (.tmp 34) rfl (tb + 1) 0 cs6.toArray rfl rfl HRn.out.there HRn.out.info HRn.out.one ?_; try simp only [List.toArray_toList]))
    refine bodyPost_ret (results_row1 rfl _ _ (tb + 1) _ cs6 _ rfl HRn.out.after Tryz.underlying48 rfl (by rw [HRn.out.len]; exact size24)) rfl ?_;exact ⟨cs6, rfl, by rw [HFN.out]; rw [List.drop_eq_nil_of_le (by have := HN.out; omega), List.append_nil]; exact HRn.out.lies, HRn.out.pure, fun b hb _ => HRn.out.off b hb⟩
