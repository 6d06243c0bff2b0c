import Derived.Test.YtomcdhljjmnahaaGreatAddPa
import Derived.Test.YtomcdhljjmnahaaGreatLibVBPa
import Derived.Test.YtomcdhljjmnahaaGreatLibBAPa
import Derived.Test.YtomcdhljjmnahaaGreatSqPa
set_option linter.unusedVariables false
set_option linter.unusedSimpArgs false
set_option maxRecDepth 100000
namespace Go.Proofs.YtomcdhljjmnahaaGreat
open Go.RowKit
theorem sizeSp : (Tryz.prog.info? 55).map (·.size) = some 2 := by kernel_rfl
theorem one2 (a b : Int) : ((#[Value.int .i64 a, .int .i64 b] : Array Value).all fun u => u.oneCell') = true := all_oneCell_toArray (by intro u hu; simp only [List.mem_cons, List.not_mem_nil, or_false] at hu; rcases hu with rfl | rfl <;> rfl)
def spanV (o : Option (Int × Int)) : Value := .agg #[.int .i64 (o.getD (0, 0)).1, .int .i64 (o.getD (0, 0)).2]
def SpanTo (o : Option (Int × Int)) (w : World) (e : Ending) (w' : World) : Prop := e = .returned (spanV o) ∧ Pure w w'
def SpanIs (o : Option (Int × Int)) (w : World) (e : Ending) (w' : World) : Prop := e = .returned (.tuple #[spanV o, .bool o.isSome]) ∧ Pure w w'
theorem addL_cases (l : List Int) : ((addL l).2 = 0 ∧ allPos l = true ∧ (addL l).1 = sumL l ∧ 0 ≤ sumL l ∧ sumL l ≤ 2147483647) ∨ ((addL l).2 ≠ 0 ∧ ∀ n, pieceP l n = none) := by
 by_cases h : (addL l).2 = 0
 ·obtain ⟨h1, h2⟩ := addL_ok.1 h
  exact Or.inl ⟨h, h1, by rw [addL_val h1 h2], sumL_pos h1, h2⟩
 ·refine Or.inr ⟨h, fun n => ?_⟩
  unfold pieceP
  rw [if_neg]
  intro ⟨h1, h2, h3⟩
  exact h (addL_ok.2 ⟨h1, by omega⟩)
theorem addL_two {s n : Int} (h0 : 0 ≤ s) (h1 : 1 ≤ n) : (s + n ≤ 2147483647 ∧ addL [s, n] = (s + n, 0)) ∨ (2147483647 < s + n ∧ addL [s, n] = (0, 5)) := by
 have hp : allPos [s, n] = true := by simp [allPos]; omega
 have hs : sumL [s, n] = s + n := by simp [sumL]
 unfold addL
 rw [if_pos hp, hs]
 by_cases h : s + n ≤ 2147483647
 ·exact Or.inl ⟨h, by rw [if_pos h]⟩
 ·exact Or.inr ⟨by omega, by rw [if_neg h]⟩
set_option maxHeartbeats 1000000 in
theorem piece_any (l : List Int) (len : Int) (a : Option Addr) (c : Nat) (w : World) (hr : RowOf w a (l.map zV)) (hl : l.length ≤ 1000000) :
 Calls Tryz.prog 52 #[.int .i64 len, .slice a l.length c] w (SpanTo (pieceP l len) w) := by
 obtain ⟨F, hF⟩ : ∃ F, F = pieceP l len := ⟨_, rfl⟩
 rw [← hF]
 have HAdd := qh (fun W (hP : Pure w W) => add_any l a c W (hr.ext hP (fun _ _ => id)) (by omega))
 have hc := addL_cases l
 obtain ⟨s, hs⟩ : ∃ z, z = (addL l).1 := ⟨_, rfl⟩
 obtain ⟨er, her⟩ : ∃ z, z = (addL l).2 := ⟨_, rfl⟩
 rw [← hs, ← her] at hc HAdd
 obtain ⟨w1, hw1⟩ : ∃ z, z = w.alloc (.cells #[.int .i64 0, .int .i64 0] 55) := ⟨_, rfl⟩
 obtain ⟨tb, htb⟩ : ∃ z, z = w.heap.size := ⟨_, rfl⟩
 have hBr : BlockIs w1 tb [.int .i64 0, .int .i64 0] 55 := by rw [htb, hw1]; exact BlockIs.new w _ _
 have hP : Pure w w1 := hw1 ▸ ext_alloc w _
 have HW := qh hw1.symm
 have HTb := qh htb
 obtain ⟨n, hn⟩ : ∃ z, z = l.length := ⟨_, rfl⟩
 rw [← hn] at HAdd ⊢
 have hfc : (er ≠ 0 ∧ F = none) ∨ (er = 0 ∧ len < 1 ∧ F = none) ∨ (er = 0 ∧ 1 ≤ len ∧ 0 ≤ s ∧ ((s + len ≤ 2147483647 ∧ F = some (s, s + len)) ∨ (2147483647 < s + len ∧ F = none))) := by
  rcases hc with ⟨h1, h2, h3, h4, h5⟩ | ⟨h1, h2⟩
  ·by_cases hlen : 1 ≤ len
   ·refine Or.inr (Or.inr ⟨h1, hlen, by omega, ?_⟩)
    by_cases hm : s + len ≤ 2147483647
    ·exact Or.inl ⟨hm, by rw [hF]; unfold pieceP; rw [if_pos ⟨h2, hlen, by omega⟩, h3]⟩
    ·exact Or.inr ⟨by omega, by rw [hF]; unfold pieceP; rw [if_neg (fun h => by have := h.2.2; omega)]⟩
   ·exact Or.inr (Or.inl ⟨h1, by omega, by rw [hF]; unfold pieceP; rw [if_neg (fun h => hlen h.2.1)]⟩)
  ·exact Or.inl ⟨h1, by rw [hF]; exact h2 len⟩
 clear hw1 htb hs her hc hF hn hr hl
 rcases hfc with ⟨he, hFn⟩ | ⟨he, hlen, hFn⟩ | ⟨he, hlen, hs0, hm⟩
 ·have hne : (er != 0) = true := by simpa using he
  have HFr := qh hFn
  clear hFn he
  go_enter Tryz.func52, Tryz.ntmps52
  go_wp2_with fail
  rw [HW.out, ← HTb.out]
  refine (HAdd.out w1 hP).mono ?_
  rintro e w2 ⟨rfl, hP2⟩
  have hBr := hBr.ext hP2 id
  have hP := hP.pure hP2
  clear hP2 HAdd
  have HTh : Hid (w2.there tb 0 (#[.int .i64 0, .int .i64 0] : Array Value).size) := qh (hBr.there 2 rfl)
  have HSi : Hid ((Tryz.prog.info? 55).map (·.size) = some (#[.int .i64 0, .int .i64 0] : Array Value).size) := qh sizeSp
  have HP8 : Hid (Pure w (w2.setCells tb 0 [.int .i64 0, .int .i64 0])) := qh (Ext.setCells _ 0 w2 hP (b := tb) (fun h => by have := HTb.out; omega))
  have HB9 : Hid (BlockIs (w2.setCells tb 0 [.int .i64 0, .int .i64 0]) tb [.int .i64 0, .int .i64 0] 55) := qh (hBr.setAll [.int .i64 0, .int .i64 0] rfl)
  clear hBr hP
  go_wp2_with (with_reducible refine V11.at_store 55 (.tmp 4) (.tmp 19) ?_; refine wpList_store_mid rfl 55 (.tmp 4) (.tmp 19) rfl tb 0 #[.int .i64 0, .int .i64 0] rfl rfl HTh.out HSi.out (one2 _ _) ?_)
  refine bodyPost_ret (V11.results_row1 rfl _ _ tb _ [.int .i64 0, .int .i64 0] _ rfl HB9.out Tryz.underlying55 rfl sizeSp) rfl ?_
  exact ⟨by rw [HFr.out]; rfl, HP8.out⟩
 ·subst he
  have HFr := qh hFn
  clear hFn
  go_enter Tryz.func52, Tryz.ntmps52
  go_wp2_with fail
  rw [HW.out, ← HTb.out]
  refine (HAdd.out w1 hP).mono ?_
  rintro e w2 ⟨rfl, hP2⟩
  have hBr := hBr.ext hP2 id
  have hP := hP.pure hP2
  clear hP2 HAdd
  have HTh : Hid (w2.there tb 0 (#[.int .i64 0, .int .i64 0] : Array Value).size) := qh (hBr.there 2 rfl)
  have HSi : Hid ((Tryz.prog.info? 55).map (·.size) = some (#[.int .i64 0, .int .i64 0] : Array Value).size) := qh sizeSp
  have HP8 : Hid (Pure w (w2.setCells tb 0 [.int .i64 0, .int .i64 0])) := qh (Ext.setCells _ 0 w2 hP (b := tb) (fun h => by have := HTb.out; omega))
  have HB9 : Hid (BlockIs (w2.setCells tb 0 [.int .i64 0, .int .i64 0]) tb [.int .i64 0, .int .i64 0] 55) := qh (hBr.setAll [.int .i64 0, .int .i64 0] rfl)
  clear hBr hP
  go_wp2_with (with_reducible refine V11.at_store 55 (.tmp 4) (.tmp 19) ?_; refine wpList_store_mid rfl 55 (.tmp 4) (.tmp 19) rfl tb 0 #[.int .i64 0, .int .i64 0] rfl rfl HTh.out HSi.out (one2 _ _) ?_)
  refine bodyPost_ret (V11.results_row1 rfl _ _ tb _ [.int .i64 0, .int .i64 0] _ rfl HB9.out Tryz.underlying55 rfl sizeSp) rfl ?_
  exact ⟨by rw [HFr.out]; rfl, HP8.out⟩
 ·subst he
  have hlen' : ¬ len < 1 := by omega
  have HTw := qh (addL_two hs0 hlen)
  have HM := qh hm
  clear hs0 hm hlen
  go_enter Tryz.func52, Tryz.ntmps52
  go_wp2_with fail
  rw [HW.out, ← HTb.out]
  refine (HAdd.out w1 hP).mono ?_
  rintro e w2 ⟨rfl, hP2⟩
  have hBr := hBr.ext hP2 id
  have hP := hP.pure hP2
  clear hP2 HAdd
  obtain ⟨w3, hw3⟩ : ∃ z, z = w2.alloc (.cells #[.int .i64 s, .int .i64 len] 3) := ⟨_, rfl⟩
  have hP3 : Pure w2 w3 := hw3 ▸ ext_alloc w2 _
  have HAd2 := qh (add_any [s, len] (some ⟨w2.heap.size, 0, none⟩) 2 w3 (hw3 ▸ row_at ([s, len].map zV) rfl rfl) (by simp))
  have hBr := hBr.ext hP3 id
  have hP := hP.pure hP3
  have HW3 := qh hw3.symm
  clear hw3 hP3
  go_wp2_with fail
  rw [HW3.out]
  refine HAd2.out.mono ?_
  rintro e w4 ⟨rfl, hP4⟩
  have hBr := hBr.ext hP4 id
  have hP := hP.pure hP4
  clear hP4 HAd2
  rcases HM.out with ⟨hm, hFs⟩ | ⟨hm, hFs⟩
  ·have hA : addL [s, len] = (s + len, 0) := by
    rcases HTw.out with ⟨_, h⟩ | ⟨h, _⟩
    ·exact h
    ·omega
   rw [hA]
   have HFr := qh hFs
   clear hA hFs HM HTw
   have HTh : Hid (w4.there tb 0 (#[.int .i64 s, .int .i64 (s + len)] : Array Value).size) := qh (hBr.there 2 rfl)
   have HSi : Hid ((Tryz.prog.info? 55).map (·.size) = some (#[.int .i64 s, .int .i64 (s + len)] : Array Value).size) := qh sizeSp
   have HP8 : Hid (Pure w (w4.setCells tb 0 [.int .i64 s, .int .i64 (s + len)])) := qh (Ext.setCells _ 0 w4 hP (b := tb) (fun h => by have := HTb.out; omega))
   have HB9 : Hid (BlockIs (w4.setCells tb 0 [.int .i64 s, .int .i64 (s + len)]) tb [.int .i64 s, .int .i64 (s + len)] 55) := qh (hBr.setAll [.int .i64 s, .int .i64 (s + len)] rfl)
   clear hBr hP
   go_wp2_with (with_reducible refine V11.at_store 55 (.tmp 4) (.tmp 32) ?_; refine wpList_store_mid rfl 55 (.tmp 4) (.tmp 32) rfl tb 0 #[.int .i64 s, .int .i64 (s + len)] rfl rfl HTh.out HSi.out (one2 _ _) ?_)
   refine bodyPost_ret (V11.results_row1 rfl _ _ tb _ [.int .i64 s, .int .i64 (s + len)] _ rfl HB9.out Tryz.underlying55 rfl sizeSp) rfl ?_
   exact ⟨by rw [HFr.out]; rfl, HP8.out⟩
  ·have hA : addL [s, len] = (0, 5) := by
    rcases HTw.out with ⟨h, _⟩ | ⟨_, h⟩
    ·omega
    ·exact h
   rw [hA]
   have HFr := qh hFs
   clear hA hFs HM HTw
   have HTh : Hid (w4.there tb 0 (#[.int .i64 0, .int .i64 0] : Array Value).size) := qh (hBr.there 2 rfl)
   have HSi : Hid ((Tryz.prog.info? 55).map (·.size) = some (#[.int .i64 0, .int .i64 0] : Array Value).size) := qh sizeSp
   have HP8 : Hid (Pure w (w4.setCells tb 0 [.int .i64 0, .int .i64 0])) := qh (Ext.setCells _ 0 w4 hP (b := tb) (fun h => by have := HTb.out; omega))
   have HB9 : Hid (BlockIs (w4.setCells tb 0 [.int .i64 0, .int .i64 0]) tb [.int .i64 0, .int .i64 0] 55) := qh (hBr.setAll [.int .i64 0, .int .i64 0] rfl)
   clear hBr hP
   go_wp2_with (with_reducible refine V11.at_store 55 (.tmp 4) (.tmp 29) ?_; refine wpList_store_mid rfl 55 (.tmp 4) (.tmp 29) rfl tb 0 #[.int .i64 0, .int .i64 0] rfl rfl HTh.out HSi.out (one2 _ _) ?_)
   refine bodyPost_ret (V11.results_row1 rfl _ _ tb _ [.int .i64 0, .int .i64 0] _ rfl HB9.out Tryz.underlying55 rfl sizeSp) rfl ?_
   exact ⟨by rw [HFr.out]; rfl, HP8.out⟩
