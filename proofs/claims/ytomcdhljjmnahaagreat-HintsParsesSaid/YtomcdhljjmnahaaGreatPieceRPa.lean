import Derived.Test.YtomcdhljjmnahaaGreatHMemPa
import Derived.Test.YtomcdhljjmnahaaGreatSqPa
set_option linter.unusedVariables false
set_option linter.unusedSimpArgs false
set_option maxRecDepth 100000
namespace Go.Proofs.YtomcdhljjmnahaaGreat
open Go.RowKit
theorem wpList_append_intk {w : World} {ops : Array Oper} {rest : List Oper} {o : Oper} {a : Act} {Q : Exit → Act → World → Prop} (hgd : o.guard = none) (s x : Operand)
 (ho : o.op = .call { callee := .builtin .append, args := #[s, x], argTypes := #[23, 23] })
 (base : Nat) (a0 : Option Addr) (n c0 : Nat) (xs : List Int) (hs : a.eval s = .slice a0 n c0) (hown : OwnZ w base a0 n c0 xs)
 (ad : Option Addr) (m c : Nat) (ys : List Int) (hx : a.eval x = .slice ad m c) (hm : m = ys.length) (hnil : ad = none → c = 0) (hnews : RowOf w ad (ys.map zV)) (k : Nat) (hk : n + m = k) (zs : List Int) (hz : xs ++ ys = zs) (hle : k ≤ 1000000000) (hbase : base ≤ w.heap.size)
 (h : ∀ (a' : Option Addr) (c' : Nat) (w' : World), OwnZ w' base a' k c' zs → Ext (fun i => base ≤ i) w w' → wpList Tryz.prog ops Q rest (a.put o.dst (.slice a' k c')) w') : wpList Tryz.prog ops Q (o :: rest) a w := by
 subst hk hz
 exact wpList_append_int hgd s x ho base a0 n c0 xs hs hown ad m c ys hx hm hnil hnews hle hbase h
theorem piece_ref (l : List Int) (n : Int) : ((addL l).2 ≠ 0 ∧ pieceP l n = none) ∨ ((addL l).2 = 0 ∧ (addL (l ++ [n])).2 ≠ 0 ∧ pieceP l n = none) ∨ ((addL l).2 = 0 ∧ (addL (l ++ [n])).2 = 0 ∧ n < 1 ∧ pieceP l n = none) ∨ ((addL l).2 = 0 ∧ (addL (l ++ [n])).2 = 0 ∧ 1 ≤ n ∧ pieceP l n = some ((addL l).1, (addL (l ++ [n])).1)) := by
 rcases addL_cases l with ⟨h1, h2, h3, h4, h5⟩ | ⟨h1, h2⟩
 ·refine Or.inr ?_
  have hs : sumL (l ++ [n]) = sumL l + n := by rw [sumL_append, sumL, sumL]; omega
  have hp : allPos (l ++ [n]) = decide (0 ≤ n) := by rw [allPos_append, h2, allPos_cons]; simp [allPos]
  by_cases h6 : (addL (l ++ [n])).2 = 0
  ·obtain ⟨h7, h8⟩ := addL_ok.1 h6
   rw [addL_val h7 h8]
   rw [hs] at h8
   by_cases h9 : n < 1
   ·exact Or.inr (Or.inl ⟨h1, rfl, h9, by unfold pieceP; rw [if_neg (fun h => by have := h.2.1; omega)]⟩)
   ·exact Or.inr (Or.inr ⟨h1, rfl, by omega, by unfold pieceP; rw [if_pos ⟨h2, by omega, h8⟩, h3, hs]⟩)
  ·refine Or.inl ⟨h1, h6, ?_⟩
   unfold pieceP
   rw [if_neg]
   intro ⟨_, h7, h8⟩
   exact h6 (addL_ok.2 ⟨by rw [hp]; simp; omega, by rw [hs]; exact h8⟩)
 ·exact Or.inl ⟨h1, h2 n⟩
set_option maxHeartbeats 1000000 in
theorem refpiece_any (l : List Int) (len : Int) (a : Option Addr) (c : Nat) (w : World) (hr : RowOf w a (l.map zV)) (hnil : a = none → c = 0) (hl : l.length ≤ 1000000) :
 Calls Tryz.prog 80 #[.slice a l.length c, .int .i64 len] w (SpanIs (pieceP l len) w) := by
 have hc := piece_ref l len
 obtain ⟨F, hF⟩ : ∃ F, F = pieceP l len := ⟨_, rfl⟩
 rw [← hF] at hc ⊢
 have HAdd := qh (fun W (hP : Pure w W) => refadd_any l a c W (hr.ext hP (fun _ _ => id)) (by omega))
 have HAd2 := qh (fun a2 c2 W (h2 : RowOf W a2 ((l ++ [len]).map zV)) => refadd_any (l ++ [len]) a2 c2 W h2 (by simp; omega))
 obtain ⟨s, hs⟩ : ∃ z, z = (addL l).1 := ⟨_, rfl⟩
 obtain ⟨er, her⟩ : ∃ z, z = (addL l).2 := ⟨_, rfl⟩
 obtain ⟨s2, hs2⟩ : ∃ z, z = (addL (l ++ [len])).1 := ⟨_, rfl⟩
 obtain ⟨er2, her2⟩ : ∃ z, z = (addL (l ++ [len])).2 := ⟨_, rfl⟩
 rw [← hs, ← her, ← hs2, ← her2] at hc
 rw [← hs, ← her] at HAdd
 rw [← hs2, ← her2] at HAd2
 obtain ⟨w1, hw1⟩ : ∃ z, z = w.alloc (.cells #[.int .i64 0, .int .i64 0] 55) := ⟨_, rfl⟩
 obtain ⟨tb, htb⟩ : ∃ z, z = w.heap.size := ⟨_, rfl⟩
 have hBr : BlockIs w1 tb [.int .i64 0, .int .i64 0] 55 := by rw [htb, hw1]; exact BlockIs.new w _ _
 have hP : Pure w w1 := hw1 ▸ ext_alloc w _
 have HW := qh hw1.symm
 have HTb := qh htb
 obtain ⟨n, hn⟩ : ∃ z, z = l.length := ⟨_, rfl⟩
 have HN := qh hn
 rw [← hn] at HAdd hl ⊢
 have HRo := qh hr
 have HC := qh hc
 have HNil := qh hnil
 clear hw1 htb hs her hs2 her2 hc hF hn hr hnil
 go_enter Tryz.func80, Tryz.ntmps80
 go_wp2_with fail
 rw [HW.out, ← HTb.out]
 refine (HAdd.out w1 hP).mono ?_
 rintro e w2 ⟨rfl, hP2⟩
 have hBr := hBr.ext hP2 id
 have hP := hP.pure hP2
 have hlt := hBr.lt
 obtain ⟨w3, hw3⟩ : ∃ z, z = w2.alloc (.cells #[] 3) := ⟨_, rfl⟩
 have hP3 : Pure w2 w3 := hw3 ▸ ext_alloc w2 _
 have HO3 : Hid (OwnZ w3 (tb + 1) (some ⟨w2.heap.size, 0, none⟩) 0 0 []) := qh (hw3 ▸ OwnZ.new w2 [] [] rfl 0 rfl (Nat.zero_le _) (tb + 1) hlt)
 have HR3 : Hid (RowOf w3 a (l.map zV)) := qh (HRo.out.ext (hP.pure hP3) (fun _ _ => id))
 have HS3 : Hid (tb + 1 ≤ w3.heap.size) := qh (by have := hP3.size; omega)
 have HW3 := qh hw3
 have HBr := qh (hBr.ext hP3 id)
 have HP := qh (hP.pure hP3)
 have HZn : Hid (0 + n = n) := qh (Nat.zero_add n)
 have HJ : Hid (n ≤ 1000000000) := qh (by omega)
 have HJ2 : Hid (n + 1 ≤ 1000000000) := qh (by omega)
 clear hP2 HAdd hBr hP hw3 hP3 hlt
 go_wp2_with (first
  | (at_builtin; rw [← HW3.out]; refine wpList_append_intk rfl (.tmp 16) (.tmp 17) rfl (tb + 1) (some ⟨w2.heap.size, 0, none⟩) 0 0 [] rfl HO3.out a n c l rfl HN.out HNil.out HR3.out n HZn.out l rfl HJ.out HS3.out ?_; intro a6 c6 w6 hO6 hE6; have HO6 := qh hO6; have HE6 := qh hE6; clear hO6 hE6)
  | (at_builtin; refine wpList_append_intk rfl (.tmp 18) (.tmp 20) rfl (tb + 1) a6 n c6 l rfl (OwnZ.pure HO6.out (ext_alloc w6 _)) (some ⟨w6.heap.size, 0, none⟩) 1 1 [len] rfl rfl (fun e => by cases e) (row_at _ rfl rfl) (n + 1) rfl (l ++ [len]) rfl HJ2.out (by have h1 := HS3.out; have h2 := HE6.out.size; rw [World.size_alloc]; omega) ?_; intro a8 c8 w8 hO8 hE8; have HO8 := qh hO8; have HE8 := qh hE8; clear hO8 hE8))
 have hE8 : Ext (fun i => tb + 1 ≤ i) w3 w8 := (HE6.out.pure (ext_alloc w6 _)).trans HE8.out (fun _ _ e => e)
 have hBr := HBr.out.ext hE8 (fun e => by have e' : tb + 1 ≤ tb := e; omega)
 have hP : Pure w w8 := HP.out.trans hE8 (fun i hi e => by have h2 := HTb.out; have e' : tb + 1 ≤ i := e; omega)
 have hA := HAd2.out a8 c8 w8 HO8.out.row
 rw [show (l ++ [len]).length = n + 1 by rw [List.length_append, ← HN.out]; rfl] at hA
 refine hA.mono ?_
 rintro e w9 ⟨rfl, hP9⟩
 have hBr := hBr.ext hP9 id
 have hP := hP.pure hP9
 clear hA HAd2 hE8 HE8 HE6 HO8 HO6 HO3 HBr HP HJ HJ2 HS3 hP9
 rcases HC.out with ⟨h1, hFn⟩ | ⟨h1, h2, hFn⟩ | ⟨h1, h2, h3, hFn⟩ | ⟨h1, h2, h3, hFn⟩
 ·have hne : (er != 0) = true := by simpa using h1
  have HFr := qh hFn
  clear hFn h1 HC
  have HTh : Hid (w9.there tb 0 (#[.int .i64 0, .int .i64 0] : Array Value).size) := qh (hBr.there 2 rfl)
  have HSi : Hid ((Tryz.prog.info? 55).map (·.size) = some (#[.int .i64 0, .int .i64 0] : Array Value).size) := qh sizeSp
  have HP8 : Hid (Pure w (w9.setCells tb 0 [.int .i64 0, .int .i64 0])) := qh (Ext.setCells _ 0 w9 hP (b := tb) (fun h => by have := HTb.out; omega))
  have HB9 : Hid (BlockIs (w9.setCells tb 0 [.int .i64 0, .int .i64 0]) tb [.int .i64 0, .int .i64 0] 55) := qh (hBr.setAll [.int .i64 0, .int .i64 0] rfl)
  clear hBr hP
  go_wp2_with (with_reducible refine V11.at_store 55 (.tmp 4) (.tmp 35) ?_; refine wpList_store_mid rfl 55 (.tmp 4) (.tmp 35) rfl tb 0 #[.int .i64 0, .int .i64 0] rfl rfl HTh.out HSi.out (one2 _ _) ?_)
  refine bodyPost_ret (V11.results_row2 rfl _ _ tb _ [.int .i64 0, .int .i64 0] _ rfl HB9.out Tryz.underlying55 rfl sizeSp) rfl ?_
  exact ⟨by rw [HFr.out]; rfl, HP8.out⟩
 ·have hne : (er2 != 0) = true := by simpa using h2
  subst h1
  have HFr := qh hFn
  clear hFn h2 HC
  have HTh : Hid (w9.there tb 0 (#[.int .i64 0, .int .i64 0] : Array Value).size) := qh (hBr.there 2 rfl)
  have HSi : Hid ((Tryz.prog.info? 55).map (·.size) = some (#[.int .i64 0, .int .i64 0] : Array Value).size) := qh sizeSp
  have HP8 : Hid (Pure w (w9.setCells tb 0 [.int .i64 0, .int .i64 0])) := qh (Ext.setCells _ 0 w9 hP (b := tb) (fun h => by have := HTb.out; omega))
  have HB9 : Hid (BlockIs (w9.setCells tb 0 [.int .i64 0, .int .i64 0]) tb [.int .i64 0, .int .i64 0] 55) := qh (hBr.setAll [.int .i64 0, .int .i64 0] rfl)
  clear hBr hP
  go_wp2_with (with_reducible refine V11.at_store 55 (.tmp 4) (.tmp 35) ?_; refine wpList_store_mid rfl 55 (.tmp 4) (.tmp 35) rfl tb 0 #[.int .i64 0, .int .i64 0] rfl rfl HTh.out HSi.out (one2 _ _) ?_)
  refine bodyPost_ret (V11.results_row2 rfl _ _ tb _ [.int .i64 0, .int .i64 0] _ rfl HB9.out Tryz.underlying55 rfl sizeSp) rfl ?_
  exact ⟨by rw [HFr.out]; rfl, HP8.out⟩
 ·subst h1 h2
  have HFr := qh hFn
  clear hFn HC
  have HTh : Hid (w9.there tb 0 (#[.int .i64 0, .int .i64 0] : Array Value).size) := qh (hBr.there 2 rfl)
  have HSi : Hid ((Tryz.prog.info? 55).map (·.size) = some (#[.int .i64 0, .int .i64 0] : Array Value).size) := qh sizeSp
  have HP8 : Hid (Pure w (w9.setCells tb 0 [.int .i64 0, .int .i64 0])) := qh (Ext.setCells _ 0 w9 hP (b := tb) (fun h => by have := HTb.out; omega))
  have HB9 : Hid (BlockIs (w9.setCells tb 0 [.int .i64 0, .int .i64 0]) tb [.int .i64 0, .int .i64 0] 55) := qh (hBr.setAll [.int .i64 0, .int .i64 0] rfl)
  clear hBr hP
  go_wp2_with (with_reducible refine V11.at_store 55 (.tmp 4) (.tmp 35) ?_; refine wpList_store_mid rfl 55 (.tmp 4) (.tmp 35) rfl tb 0 #[.int .i64 0, .int .i64 0] rfl rfl HTh.out HSi.out (one2 _ _) ?_)
  refine bodyPost_ret (V11.results_row2 rfl _ _ tb _ [.int .i64 0, .int .i64 0] _ rfl HB9.out Tryz.underlying55 rfl sizeSp) rfl ?_
  exact ⟨by rw [HFr.out]; rfl, HP8.out⟩
 ·subst h1 h2
  have h3' : ¬ len < 1 := by omega
  have HFr := qh hFn
  clear hFn h3 HC
  have HTh : Hid (w9.there tb 0 (#[.int .i64 s, .int .i64 s2] : Array Value).size) := qh (hBr.there 2 rfl)
  have HSi : Hid ((Tryz.prog.info? 55).map (·.size) = some (#[.int .i64 s, .int .i64 s2] : Array Value).size) := qh sizeSp
  have HP8 : Hid (Pure w (w9.setCells tb 0 [.int .i64 s, .int .i64 s2])) := qh (Ext.setCells _ 0 w9 hP (b := tb) (fun h => by have := HTb.out; omega))
  have HB9 : Hid (BlockIs (w9.setCells tb 0 [.int .i64 s, .int .i64 s2]) tb [.int .i64 s, .int .i64 s2] 55) := qh (hBr.setAll [.int .i64 s, .int .i64 s2] rfl)
  clear hBr hP
  go_wp2_with (with_reducible refine V11.at_store 55 (.tmp 4) (.tmp 38) ?_; refine wpList_store_mid rfl 55 (.tmp 4) (.tmp 38) rfl tb 0 #[.int .i64 s, .int .i64 s2] rfl rfl HTh.out HSi.out (one2 _ _) ?_)
  refine bodyPost_ret (V11.results_row2 rfl _ _ tb _ [.int .i64 s, .int .i64 s2] _ rfl HB9.out Tryz.underlying55 rfl sizeSp) rfl ?_
  exact ⟨by rw [HFr.out]; rfl, HP8.out⟩
