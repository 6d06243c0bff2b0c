import Derived.Test.YtipmbcalnnomjaaGreatNumPlTu
import Derived.Test.YtipmbcalnnomjaaGreatRefsRTu
import Derived.Test.YtipmbcalnnomjaaGreatSqTu
set_option linter.unusedVariables false
set_option linter.unusedSimpArgs false
set_option maxRecDepth 100000
namespace Go.Proofs.YtipmbcalnnomjaaGreat
open Go.RowKit
set_option maxHeartbeats 4000000 in
theorem map_any (w0 : World) (to : List Int) (ta : Option Addr) (tc : Nat) (hto : RowOf w0 ta (intsV to)) (htl : to.length ≤ 1000000) : ∀ (d : Nat) (v : V) (cs : List Value) (w : World), Lies w0 d v cs → Pure w0 w → v.size ≤ 100000 →
 Calls Tryz.prog 25 #[.agg cs.toArray, .slice ta to.length tc] w (MapTo w0 d (v.turn to) w)
 | 0, _, _, _, h, _, _ => h.elim
 | d + 1, v, cs, w, h, hP0, hsz => by
   have IH := map_any w0 to ta tc hto htl d
   obtain ⟨tb, htb⟩ : ∃ z, z = w.heap.size := ⟨_, rfl⟩
   obtain ⟨w1, hw1⟩ : ∃ z, z = w.alloc (.cells cs.toArray 48) := ⟨_, rfl⟩
   have hB1 : BlockIs w1 tb cs 48 := by rw [htb, hw1]; exact BlockIs.new w _ _
   have hs1 : w1.heap.size = tb + 1 := by rw [hw1, World.size_alloc, htb]
   obtain ⟨w2, hw2⟩ : ∃ z, z = w1.alloc (.cells zeroCs.toArray 48) := ⟨_, rfl⟩
   have hB12 : BlockIs w2 tb cs 48 := hw2 ▸ hB1.alloc _
   have hB22 : BlockIs w2 (tb + 1) zeroCs 48 := by rw [← hs1, hw2]; exact BlockIs.new w1 _ _
   have hs2 : w2.heap.size = tb + 2 := by rw [hw2, World.size_alloc, hs1]
   have hP2 : Pure w w2 := (show Pure w w1 from hw1 ▸ ext_alloc w _).pure (hw2 ▸ ext_alloc w1 _)
   have HW : Hid ((w.alloc (.cells cs.toArray 48)).alloc (.cells #[.int .i64 0, .int .i64 0, .string ⟨#[]⟩, .slice none 0 0] 48) = w2) := qh (by rw [hw2, hw1]; rfl)
   have HTb := qh htb
   have HS2 := qh hs2
   have HB12 := qh hB12
   have HB22 := qh hB22
   have HP2 := qh hP2
   have HP0 := qh hP0
   have HP02 := qh (hP0.pure hP2)
   have HTo := qh hto
   have HLen := qh h.len
   have HOne := qh h.one
   have HL := qh h
   have HI := qh IH
   have hte := turn_eq to v
   obtain ⟨F, hF⟩ : ∃ z, z = v.turn to := ⟨_, rfl⟩
   rw [← hF] at hte ⊢
   have HF := qh hte
   obtain ⟨a, c, xs, hcs, hlc, hcm, hnil, hfit, hrow, hs⟩ := h.top.parts
   have HHs := qh hs
   have c0w : ((w.alloc (.cells cs.toArray 48)).alloc (.cells #[.int .i64 0, .int .i64 0, .string ⟨#[]⟩, .slice none 0 0] 48)).cell? ⟨w.heap.size, 0, none⟩ = some (.int .i64 v.kind) := by rw [HW.out, ← htb, hB12.cell 0, hcs]; rfl
   have c1w : ((w.alloc (.cells cs.toArray 48)).alloc (.cells #[.int .i64 0, .int .i64 0, .string ⟨#[]⟩, .slice none 0 0] 48)).cell? ⟨w.heap.size, 1, none⟩ = some (.int .i64 v.n) := by rw [HW.out, ← htb, hB12.cell 1, hcs]; rfl
   have HCs := qh hcs
   have HFit := qh hfit
   have HRow := qh hrow
   clear IH hw1 hw2 htb hs1 hs2 hB1 hB12 hB22 hP2 hP0 hto h hF hte hcs hfit hrow hs
   by_cases h8 : v.kind = 8
   ·have HF8 : Hid (F = if 1 ≤ v.n ∧ v.n ≤ to.length then refV (to.getD (v.n - 1).toNat 0) else nullV) := qh (by rw [HF.out, if_pos h8])
    rw [h8] at c0w
    by_cases hin : 1 ≤ v.n ∧ v.n ≤ to.length
    ·obtain ⟨j, hj⟩ : ∃ j : Nat, v.n = (j : Int) + 1 := ⟨(v.n - 1).toNat, by omega⟩
     have hjl : j < to.length := by omega
     have HF9 : Hid (F = refV to[j]) := qh (by rw [HF8.out, if_pos hin, show (v.n - 1).toNat = j by omega, List.getD_eq_getElem?_getD, List.getElem?_eq_getElem hjl]; rfl)
     obtain ⟨b, o, rfl, hcell⟩ := HTo.out j (.int .i64 to[j]) (by rw [intsV, List.getElem?_map, List.getElem?_eq_getElem hjl]; rfl)
     have ctw := HP02.out.cell_some hcell id
     rw [← HW.out] at ctw
     rw [hj] at c1w
     obtain ⟨n, hn⟩ : ∃ n, n = to.length := ⟨_, rfl⟩
     rw [← hn] at htl hjl ⊢
     obtain ⟨x, hx⟩ : ∃ x, x = to[j] := ⟨_, rfl⟩
     rw [← hx] at ctw
     have HF10 : Hid (F = refV x) := qh (by rw [hx]; exact HF9.out)
     have hji : ¬ (j : Int) + 1 < 1 := by omega
     have hji2 : ¬ (n : Int) < (j : Int) + 1 := by omega
     have hj0 : (0 : Int) ≤ (j : Int) := by omega
     have hjn : (j : Int) < (n : Int) := by omega
     have hwj : IntKind.i64.wrap (j : Int) = (j : Int) := by rw [IntKind.wrap_i64]; omega
     have hj1 : (j : Int) + 1 - 1 = (j : Int) := by omega
     clear hj hin HF HF8 HF9 hcell h8 hn hx
     go_enter Tryz.func25, Tryz.ntmps25
     go_wp2_with fail
     rw [HW.out, ← HTb.out]
     refine (ref_any x w2).mono ?_
     rintro e w3 ⟨rfl, hP3⟩
     have HBz := qh ((HB22.out.ext hP3 id).setAll [.int .i64 8, .int .i64 x, .string ⟨#[]⟩, .slice none 0 0] rfl)
     have HPz : Hid (Pure w (w3.setCells (tb + 1) 0 [.int .i64 8, .int .i64 x, .string ⟨#[]⟩, .slice none 0 0])) := qh (Ext.setCells _ 0 w3 (HP2.out.pure hP3) (b := tb + 1) (fun h => by have := HTb.out; omega))
     have HTh : Hid (w3.there (tb + 1) 0 (#[Value.int .i64 8, .int .i64 x, .string ⟨#[]⟩, .slice none 0 0] : Array Value).size) := qh ((HB22.out.ext hP3 id).there 4 rfl)
     have hsi : (Tryz.prog.info? 48).map (·.size) = some (#[Value.int .i64 8, .int .i64 x, .string ⟨#[]⟩, .slice none 0 0] : Array Value).size := size24
     have HSi := qh hsi
     clear hsi
     have hone : (#[Value.int .i64 8, .int .i64 x, .string ⟨#[]⟩, .slice none 0 0].all fun u => u.oneCell') = true := (LiesIn.leaf (fun _ => True) w3 0 8 x ⟨#[]⟩ (by decide)).lies.one
     go_wp2_with (with_reducible refine at_store 48 (.tmp 4) (.tmp 29) ?_; refine wpList_store_mid rfl 48 (.tmp 4) (.tmp 29) rfl (tb + 1) 0 #[.int .i64 8, .int .i64 x, .string ⟨#[]⟩, .slice none 0 0] rfl rfl HTh.out HSi.out hone ?_)
     refine bodyPost_ret (results_row1 rfl _ _ (tb + 1) _ [.int .i64 8, .int .i64 x, .string ⟨#[]⟩, .slice none 0 0] _ rfl HBz.out Tryz.underlying48 rfl size24) rfl ?_
     exact ⟨_, rfl, by rw [HF10.out]; exact LiesIn.leaf _ _ d 8 x ⟨#[]⟩ (by decide), HPz.out⟩
    ·have HF9 : Hid (F = nullV) := qh (by rw [HF8.out, if_neg hin])
     have HBz := qh (HB22.out.setAll zeroCs rfl)
     have HPz : Hid (Pure w (w2.setCells (tb + 1) 0 zeroCs)) := qh (Ext.setCells _ 0 w2 HP2.out (b := tb + 1) (fun h => by have := HTb.out; omega))
     have HTh := qh (HB22.out.there 4 rfl)
     obtain ⟨n, hn⟩ : ∃ n, n = to.length := ⟨_, rfl⟩
     rw [← hn] at hin ⊢
     obtain ⟨m, hm⟩ : ∃ m, m = v.n := ⟨_, rfl⟩
     rw [← hm] at hin c1w
     clear HF HF8 h8 hn hm
     have hway : m < 1 ∨ (¬ m < 1 ∧ (n : Int) < m) := by omega
     clear hin
     rcases hway with hm1 | ⟨hm1, hm2⟩
     all_goals
      go_enter Tryz.func25, Tryz.ntmps25
      go_wp2_with fail
      rw [HW.out, ← HTb.out]
      refine bodyPost_ret (results_row1 rfl _ _ (tb + 1) _ zeroCs _ rfl HB22.out Tryz.underlying48 rfl size24) rfl ?_
      exact ⟨zeroCs, rfl, by rw [HF9.out]; exact LiesIn.leaf _ _ d 0 0 ⟨#[]⟩ (by decide), HP2.out⟩
   ·have h8' : (v.kind == 8) = false := by simpa using h8
    have HF8 : Hid (F = if v.holds = true then .mk v.kind v.n v.s (turnL to v.l) else v) := qh (by rw [HF.out, if_neg h8])
    by_cases hho : v.holds = true
    ·have HF9 : Hid (F = .mk v.kind v.n v.s (turnL to v.l)) := qh (by rw [HF8.out, if_pos hho])
     have h67 := holds_iff.1 hho
     have hszl : sizeL v.l ≤ 100000 := by have := size_eq v; omega
     have c3w : ((w.alloc (.cells cs.toArray 48)).alloc (.cells #[.int .i64 0, .int .i64 0, .string ⟨#[]⟩, .slice none 0 0] 48)).cell? ⟨w.heap.size, 3, none⟩ = some (.slice a v.l.length c) := by rw [HW.out, ← HTb.out, HB12.out.cell 3, HCs.out]; rfl
     obtain ⟨l, hl0⟩ : ∃ l, l = v.l := ⟨_, rfl⟩
     obtain ⟨n, hn⟩ : ∃ n, n = v.l.length := ⟨_, rfl⟩
     have hln : n = l.length := by rw [hn, hl0]
     have HN := qh hln
     have hnl : n ≤ 100000 := by rw [hn]; exact Nat.le_trans (length_sizeL _) hszl
     have HSl : Hid (sizeL l ≤ 100000) := qh (by rw [hl0]; exact hszl)
     rw [← hn] at c3w hlc hnil
     have HFl := HFit.out
     rw [← hl0] at HFl
     have HFl := qh HFl
     have HLn := qh hn
     have HLL := qh hl0
     have hw02 := HP02.out.size
     have HW02 := qh hw02
     clear HF HF8 h8 h8' hho hn hl0 hln hszl hw02
     obtain ⟨k0, hk0⟩ : ∃ k, k = v.kind := ⟨_, rfl⟩
     rw [← hk0] at h67 c0w
     have HK0 := qh hk0
     clear hk0 c1w hnil hlc
     rcases h67 with rfl | rfl
     all_goals
      go_enter Tryz.func25, Tryz.ntmps25
      go_wp2_with fail
      rw [HW.out, ← HTb.out]
      go_loopw [5, 7, 36] (fun o _ i W => ∃ (K : Nat) (ao : Option Addr) (co : Nat) (ys : List Value), K ≤ n ∧ i = .int .i64 K ∧ o = .slice ao K co ∧ Hid (W.ownsRow w2.heap.size 48 4 (.slice ao K co) K ys) ∧ Hid (FitIn (fun b => b < w0.heap.size ∨ (w2.heap.size ≤ b ∧ b < W.heap.size ∧ ∀ x, ao = some x → x.block ≠ b)) W d (turnL to (l.take K)) ys) ∧ Hid (Pure w2 W)) (fun _ _ i _ => n - (intOf i).toNat)
      case atStart => exact ⟨0, none, 0, [], Nat.zero_le _, rfl, rfl, qh ⟨rfl, Or.inl ⟨rfl, rfl⟩⟩, qh (by rw [List.take_zero, turnL]; exact FitIn.nil), qh (Ext.refl _ _)⟩
      case round =>
       obtain ⟨K, ao, co, ys, hkn, rfl, rfl, HO, HFi, HE⟩ := hrel
       by_cases hlt : K < n
       ·have hki : (K : Int) < (n : Int) := by omega
        obtain ⟨u, hu⟩ : ∃ u, l[K]? = some u := ⟨_, List.getElem?_eq_getElem (by rw [← HN.out]; exact hlt)⟩
        obtain ⟨b, o, q, rfl, hr0, hL⟩ := HFl.out.full HRow.out K u hu
        obtain ⟨qa, qm, qc, rfl⟩ : ∃ qa qm qc, q = .slice qa qm qc := by
         obtain ⟨_, _, _, qa, qm, qc, hq⟩ := hL.form
         cases hq
         exact ⟨_, _, _, rfl⟩
        have hus : u.size ≤ 100000 := Nat.le_trans (size_mem (List.mem_of_getElem? hu)) HSl.out
        have HTk : Hid (turnL to (l.take (K + 1)) = turnL to (l.take K) ++ [u.turn to]) := qh (by
         obtain ⟨hkl, htt⟩ := List.getElem?_eq_some_iff.1 hu
         rw [List.take_succ_eq_append_getElem hkl, turnL_snoc, htt])
        have hP0r := HP02.out.pure HE.out
        have hrx := range_ext hr0 hP0r
        obtain ⟨w3, hw3⟩ : ∃ z, z = wr.alloc (.cells #[.int .i64 u.kind, .int .i64 u.n, .string u.s, .slice qa qm qc] 48) := ⟨_, rfl⟩
        have hP3 : Pure wr w3 := hw3 ▸ ext_alloc wr _
        have HC := qh (HI.out u _ w3 hL (hP0r.pure hP3) hus)
        have HW3 := qh hw3
        have HP3 := qh hP3
        clear hu hL hr0 hus hP0r hw3 hP3
        generalize u.kind = uk at *
        generalize u.n = un at *
        generalize u.s = us at *
        go_wp2_with (with_reducible refine at_load 48 (.tmp 38) ?_; refine wpList_load_mid rfl 48 (.tmp 38) rfl b (o + K * 4) rfl [.int .i64 uk, .int .i64 un, .string us, .slice qa qm qc] _ hrx Tryz.underlying48 rfl (by kernel_rfl) ?_)
        rw [← HW3.out]
        refine HC.out.mono ?_
        rintro e w4 ⟨cs4, rfl, hL4, hP4⟩
        obtain ⟨k4, n4, s4, a4, m4, c4, rfl⟩ := hL4.lies.form
        have hP34 := HP3.out.pure hP4
        obtain ⟨w5, hw5⟩ : ∃ z, z = w4.alloc (.cells #[.int .i64 k4, .int .i64 n4, .string s4, .slice a4 m4 c4] 48) := ⟨_, rfl⟩
        have hP5 : Pure w4 w5 := hw5 ▸ ext_alloc w4 _
        have hrow5 : RowOf w5 (some ⟨w4.heap.size, 0, none⟩) [.int .i64 k4, .int .i64 n4, .string s4, .slice a4 m4 c4] := hw5 ▸ row_at _ rfl rfl
        have hE5 := (HE.out.pure hP34).pure hP5
        have hO5 := own_ext HO.out (hP34.pure hP5) (fun _ _ => id)
        have hone5 : ∀ x ∈ ([.int .i64 k4, .int .i64 n4, .string s4, .slice a4 m4 c4] : List Value), x.oneCell' = true := (Fit.single hL4.lies).one
        have HW5 := qh hw5
        have HR5 := qh hrow5
        have HO5 := qh hO5
        have HE5 := qh hE5
        have HP5 := qh hP5
        have HP34 := qh hP34
        have HL4 := qh hL4
        have HN5 := qh hone5
        have hs45 : w2.heap.size ≤ w5.heap.size := hE5.size
        clear hw5 hrow5 hO5 hE5 hP5 hP34 hL4 hP4 hone5 HC
        go_wp2_with (at_builtin; rw [← HW5.out]; refine wpList_append_fresh rfl (.tmp 40) (.tmp 44) 46 rfl w2.heap.size 48 (.agg #[.int .i64 0, .int .i64 0, .string ⟨#[]⟩, .slice none 0 0]) 4 56 Tryz.underlying46 info24 rfl (by decide) (.slice ao K co) K ys rfl HO5.out (some ⟨w4.heap.size, 0, none⟩) 1 1 [.int .i64 k4, .int .i64 n4, .string s4, .slice a4 m4 c4] rfl (fun e => by cases e) rfl HR5.out HN5.out (K + 1) rfl (ys ++ [.int .i64 k4, .int .i64 n4, .string s4, .slice a4 m4 c4]) rfl (by omega) (by unfold maxLen; omega) hs45 ?_; intro a6 c6 w6 hO6 hg6 hf6)
        have hlt0 : ∀ k, (Value.slice ao K co).ownBlock = some k → w2.heap.size ≤ k ∧ k < wr.heap.size := fun k hk => HO.out.lt k hk
        have hown : ∀ x : Addr, ao = some x → (Value.slice ao K co).ownBlock = some x.block := fun x hx => by subst hx; rfl
        have hown2 : ∀ k, (Value.slice ao K co).ownBlock = some k → ∃ x : Addr, ao = some x ∧ x.block = k := fun k hk => by
         cases ao with
         | none => cases hk
         | some x => exact ⟨x, rfl, Option.some.inj hk⟩
        have hs3 := HP3.out.size
        have hs5 := (HP34.out.pure HP5.out).size
        have hsr := HE.out.size
        have hs02 := HW02.out
        have f1 : FitIn (fun b => b < w0.heap.size ∨ (w2.heap.size ≤ b ∧ b < w5.heap.size ∧ ∀ x, ao = some x → x.block ≠ b)) w5 d (turnL to (l.take K)) ys := (HFi.out.ext (HP34.out.pure HP5.out) (fun _ _ => id)).mono (fun b hb h => h.imp id (fun h => ⟨h.1, hb, h.2.2⟩))
        have f2 : LiesIn (fun b => b < w0.heap.size ∨ (w2.heap.size ≤ b ∧ b < w5.heap.size ∧ ∀ x, ao = some x → x.block ≠ b)) w5 d (u.turn to) [.int .i64 k4, .int .i64 n4, .string s4, .slice a4 m4 c4] := (HL4.out.pure HP5.out).mono (fun b hb h => h.imp id (fun h => ⟨by omega, hb, fun x hx e => by have := (hlt0 _ (hown x hx)).2; omega⟩))
        have f3 := (f1.snoc f2).ext (ext_of_grown hg6) (fun b hb hs => by
         obtain ⟨x, hx, hxb⟩ := hown2 b hs
         have := (hlt0 b hs).1
         rcases hb with hb | hb
         ·omega
         ·exact hb.2.2 x hx hxb)
        have hs6 := (ext_of_grown hg6).size
        have f4 : FitIn (fun b => b < w0.heap.size ∨ (w2.heap.size ≤ b ∧ b < w6.heap.size ∧ ∀ x, a6 = some x → x.block ≠ b)) w6 d (turnL to (l.take (K + 1))) (ys ++ [.int .i64 k4, .int .i64 n4, .string s4, .slice a4 m4 c4]) := by
         rw [HTk.out]
         refine f3.mono (fun b hb h => h.imp id (fun h => ⟨h.1, hb, fun x hx e => ?_⟩))
         rcases hf6 x hx with h' | h'
         ·obtain ⟨y, hy, hyb⟩ := hown2 _ h'
          exact h.2.2 y hy (hyb.trans e)
         ·have := h.2.1; omega
        have HE6 := qh (Ext.own (by exact HE5.out) HO5.out hg6)
        have HF4 := qh f4
        have HO6 := qh hO6
        clear f1 f2 f3 f4 hf6 hg6 hO6
        go_roundw
        case rel => exact ⟨K + 1, a6, c6, _, by omega, by go_num, rfl, HO6, HF4, HE6⟩
        case measure => simp [intOf]; omega
       ·have hki : ¬ (K : Int) < (n : Int) := by omega
        obtain rfl : K = n := by omega
        have hBr := HB12.out.ext HE.out id
        have c3 : wr.cell? ⟨tb, 3, none⟩ = some (.slice a K c) := (hBr.cell 3).trans (by rw [HCs.out, ← HLn.out]; rfl)
        have z3 : wr.frozen? ⟨tb, 3, none⟩ = false := hBr.free 3
        obtain ⟨a9, c9, he9, g1, g2, g3, g4⟩ := own_form HO.out
        cases he9
        obtain ⟨w6, hw6⟩ : ∃ z, z = wr.setCell ⟨tb, 3, none⟩ (.slice ao K co) := ⟨_, rfl⟩
        obtain ⟨cs6, hcs6⟩ : ∃ z, z = cs.set 3 (.slice ao K co) := ⟨_, rfl⟩
        have hcs6' : cs6 = [.int .i64 v.kind, .int .i64 v.n, .string v.s, .slice ao K co] := by rw [hcs6, HCs.out]; rfl
        have hl6 : cs6.length = 4 := by rw [hcs6']; rfl
        have hB6 : BlockIs w6 tb cs6 48 := by rw [hw6, hcs6]; exact hBr.set 3 _
        have hB26 : BlockIs w6 (tb + 1) zeroCs 48 := by rw [hw6]; exact (HB22.out.ext HE.out id).setOther (p := ⟨tb, 3, none⟩) (by simp) _
        have hX6 : Ext (fun k => k = tb ∨ k = tb + 1) wr w6 := by rw [hw6]; exact Ext.setCell (S := fun k => k = tb ∨ k = tb + 1) (Ext.refl _ _) (p := ⟨tb, 3, none⟩) (fun _ => Or.inl rfl) _
        have hX7 : Ext (fun k => k = tb ∨ k = tb + 1) wr (w6.setCells (tb + 1) 0 cs6) := Ext.setCells cs6 0 w6 hX6 (b := tb + 1) (fun _ => Or.inr rfl)
        have hs2 := HS2.out
        have htb := HTb.out
        have hs02 : w0.heap.size ≤ w.heap.size := HP0.out.size
        have hAS : ∀ b, (b < w0.heap.size ∨ (w2.heap.size ≤ b ∧ b < wr.heap.size ∧ ∀ x, ao = some x → x.block ≠ b)) → ¬ (b = tb ∨ b = tb + 1) := fun b hb => by omega
        have hfz := (HFi.out.ext hX7 hAS).mono (A' := fun b => b < w0.heap.size ∨ w.heap.size ≤ b) (fun b _ h => h.imp id (fun h => by omega))
        rw [List.take_of_length_le (by rw [← HN.out]; exact Nat.le_refl _)] at hfz
        have hOz := own_ext HO.out hX7 (fun g hg => by have := (HO.out.lt g hg).1; omega)
        have hln : K = (turnL to l).length := by rw [turnL_len, ← HN.out]
        have hrz := own_row hOz
        rw [hln] at g1
        have hLz := hfz.lies hrz v.kind v.n v.s co g1 g2 g3 HHs.out (fun x hx => Or.inr (by have := (g4 x hx).1; omega))
        rw [← hln, ← hcs6'] at hLz
        have HLz : Hid (LiesIn (fun b => b < w0.heap.size ∨ w.heap.size ≤ b) (w6.setCells (tb + 1) 0 cs6) (d + 1) F cs6) := qh (by rw [HF9.out, ← HLL.out]; exact hLz)
        have HBz := qh (hB26.setAll cs6 hl6.symm)
        have HPz : Hid (Pure w (w6.setCells (tb + 1) 0 cs6)) := qh ((HP2.out.pure HE.out).trans hX7 (fun k hk e => by omega))
        have HTh : Hid (w6.there (tb + 1) 0 cs6.toArray.size) := qh (by rw [List.size_toArray, hl6]; exact hB26.there 4 rfl)
        have HSi : Hid ((Tryz.prog.info? 48).map (·.size) = some cs6.toArray.size) := qh (by rw [List.size_toArray, hl6]; exact size24)
        have HOn6 := qh hLz.lies.one
        have HL6 := qh hl6
        have hR6 := hB6.range
        have HW6 := qh hw6
        clear hBr g1 g2 g3 g4 hw6 hcs6 hcs6' hl6 hB6 hB26 hX6 hX7 hs2 htb hs02 hAS hfz hOz hln hrz hLz HO HFi
        go_wp2_with (first
         | (with_reducible refine at_load 48 (.tmp 2) ?_; refine wpList_load_mid rfl 48 (.tmp 2) rfl tb 0 rfl cs6 _ (by rw [← HW6.out]; exact hR6) Tryz.underlying48 rfl (by rw [HL6.out]; kernel_rfl) ?_; rw [← HW6.out])
         | (with_reducible refine at_store 48 (.tmp 4) (.tmp 49) ?_; refine wpList_store_mid rfl 48 (.tmp 4) (.tmp 49) rfl (tb + 1) 0 cs6.toArray rfl rfl HTh.out HSi.out HOn6.out ?_; try simp only [List.toArray_toList]))
        refine bodyPost_ret (results_row1 rfl _ _ (tb + 1) _ cs6 _ rfl HBz.out Tryz.underlying48 rfl (by rw [HL6.out]; exact size24)) rfl ?_
        exact ⟨cs6, rfl, HLz.out, HPz.out⟩
    ·have HF9 : Hid (F = v) := qh (by rw [HF8.out, if_neg hho])
     have h67 : ¬ (v.kind = 6 ∨ v.kind = 7) := fun e => hho (holds_iff.2 e)
     have h6 : (v.kind == 6) = false := by simpa using (fun e => h67 (Or.inl e))
     have h7 : (v.kind == 7) = false := by simpa using (fun e => h67 (Or.inr e))
     have HBz := qh (HB22.out.setAll cs HLen.out.symm)
     have HPz : Hid (Pure w (w2.setCells (tb + 1) 0 cs)) := qh (Ext.setCells _ 0 w2 HP2.out (b := tb + 1) (fun h => by have := HTb.out; omega))
     have HTh : Hid (w2.there (tb + 1) 0 cs.toArray.size) := qh (by rw [List.size_toArray, HLen.out]; exact HB22.out.there 4 rfl)
     have HSi : Hid ((Tryz.prog.info? 48).map (·.size) = some cs.toArray.size) := qh (by rw [List.size_toArray, HLen.out]; exact size24)
     have hRv : ((w.alloc (.cells cs.toArray 48)).alloc (.cells #[.int .i64 0, .int .i64 0, .string ⟨#[]⟩, .slice none 0 0] 48)).rangeAt w.heap.size 0 cs := by rw [HW.out, ← HTb.out]; exact HB12.out.range
     have HLz : Hid (LiesIn (fun b => b < w0.heap.size ∨ w.heap.size ≤ b) (w2.setCells (tb + 1) 0 cs) (d + 1) v cs) := qh ((HL.out.within.mono (fun b _ h => Or.inl h)).pure (HP0.out.pure HPz.out))
     generalize v.kind = k0 at *
     clear HF HF8 h8 h67 hho
     go_enter Tryz.func25, Tryz.ntmps25
     go_wp2_with (first
      | (with_reducible refine at_load 48 (.tmp 2) ?_; refine wpList_load_mid rfl 48 (.tmp 2) rfl w.heap.size 0 rfl cs _ hRv Tryz.underlying48 rfl (by rw [HLen.out]; kernel_rfl) ?_; rw [HW.out, ← HTb.out])
      | (with_reducible refine at_store 48 (.tmp 4) (.tmp 49) ?_; refine wpList_store_mid rfl 48 (.tmp 4) (.tmp 49) rfl (tb + 1) 0 cs.toArray rfl rfl HTh.out HSi.out HOne.out ?_; try simp only [List.toArray_toList]))
     refine bodyPost_ret (results_row1 rfl _ _ (tb + 1) _ cs _ rfl HBz.out Tryz.underlying48 rfl (by rw [HLen.out]; exact size24)) rfl ?_
     exact ⟨cs, rfl, by rw [HF9.out]; exact HLz.out, HPz.out⟩
