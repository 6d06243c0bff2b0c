/-
  Walked: the reference's Turn, Point, Back; the law's of, to (printed by mkpoint.py).
-/
import Derived.Test.YtnibjjpohhknkaaBoth
namespace Go.Proofs.Ytnibjjpohhknkaa
open Go.RowKit
set_option linter.unusedVariables false
set_option linter.unusedSimpArgs false

set_option maxHeartbeats 2000000 in
set_option maxRecDepth 100000 in
theorem refturn_any (r : Bx) (n : Int) (w : World) : Calls Try.prog 19 #[.agg #[.int .i64 r.x, .int .i64 r.y, .int .i64 r.w, .int .i64 r.h], .int .i64 n] w (RectTo (r.turn n) w) := by
  have HM := Lib.hid (fun W => refmay_any r W)
  obtain ⟨T, hT⟩ : ∃ T, T = r.turn n := ⟨_, rfl⟩
  rw [← hT]
  have HT := Lib.hid hT
  clear hT
  obtain ⟨w1, hw1⟩ : ∃ z, z = w.alloc (.cells ([.int .i64 r.x, .int .i64 r.y, .int .i64 r.w, .int .i64 r.h]).toArray 32) := ⟨_, rfl⟩
  obtain ⟨tb, htb⟩ : ∃ z, z = w.heap.size := ⟨_, rfl⟩
  have hB1 : BlockIs w1 tb ([.int .i64 r.x, .int .i64 r.y, .int .i64 r.w, .int .i64 r.h]) 32 := by rw [htb, hw1]; exact BlockIs.new w _ _
  have hs1 : w1.heap.size = tb + 1 := by rw [hw1, World.size_alloc, htb]
  obtain ⟨w2, hw2⟩ : ∃ z, z = w1.alloc (.cells ([.int .i64 0, .int .i64 0, .int .i64 0, .int .i64 0]).toArray 32) := ⟨_, rfl⟩
  have hB12 : BlockIs w2 tb ([.int .i64 r.x, .int .i64 r.y, .int .i64 r.w, .int .i64 r.h]) 32 := hw2 ▸ hB1.alloc _
  have hB22 : BlockIs w2 (tb + 1) ([.int .i64 0, .int .i64 0, .int .i64 0, .int .i64 0]) 32 := by rw [← hs1, hw2]; exact BlockIs.new w1 _ _
  have hP2 : Pure w w2 := (show Pure w w1 from hw1 ▸ ext_alloc w _).pure (hw2 ▸ ext_alloc w1 _)
  have HW : Hid ((w.alloc (.cells #[.int .i64 r.x, .int .i64 r.y, .int .i64 r.w, .int .i64 r.h] 32)).alloc (.cells #[.int .i64 0, .int .i64 0, .int .i64 0, .int .i64 0] 32) = w2) := Lib.hid (by rw [hw2, hw1])
  have HTb := Lib.hid htb
  clear hw1 hw2 hs1 hB1 htb
  by_cases hm : r.may = true
  · have hr := HT.out
    rw [turn_may hm] at hr
    have hb := Bx.may_iff.1 hm
    unfold most at hb
    have b1 := rot_abs (q4 n) r.x r.y (2 ^ 60) (by omega) (by omega)
    have b2 := rot_abs (q4 n) (r.x + r.w) (r.y + r.h) (2 ^ 60) (by omega) (by omega)
    have HT1 := Lib.hid (fun W => move_any r.x r.y n W (by omega) (by omega))
    have HT2 := Lib.hid (fun W => move_any (r.x + r.w) (r.y + r.h) n W (by omega) (by omega))
    generalize (rot (q4 n) r.x r.y).1 = x1 at *
    generalize (rot (q4 n) r.x r.y).2 = y1 at *
    generalize (rot (q4 n) (r.x + r.w) (r.y + r.h)).1 = x2 at *
    generalize (rot (q4 n) (r.x + r.w) (r.y + r.h)).2 = y2 at *
    have HSp := Lib.hid (fun W => span_any x1 y1 x2 y2 W b1.1 b1.2 b2.1 b2.2)
    have HTr := Lib.hid hr
    obtain ⟨⟨l1, l2⟩, ⟨l3, l4⟩, ⟨l5, l6⟩, ⟨l7, l8⟩⟩ := hb
    rw [hm] at HM
    clear b1 b2 hr hm
    go_enter Try.func19, Try.ntmps19
    go_wp2_with fail
    rw [HW.out, ← HTb.out]
    have hP := hP2
    have hB1 := hB12
    have hB2 := hB22
    clear hP2 hB12 hB22
    refine (HM.out w2).mono ?_
    rintro e w3 ⟨rfl, hP3⟩
    have hB1 := hB1.ext hP3 id
    have hB2 := hB2.ext hP3 id
    have hP := hP.pure hP3
    clear hP3
    have c0 : w3.cell? ⟨tb, 0, none⟩ = some (.int .i64 r.x) := hB1.cell 0
    have c1 : w3.cell? ⟨tb, 1, none⟩ = some (.int .i64 r.y) := hB1.cell 1
    have c2 : w3.cell? ⟨tb, 2, none⟩ = some (.int .i64 r.w) := hB1.cell 2
    have c3 : w3.cell? ⟨tb, 3, none⟩ = some (.int .i64 r.h) := hB1.cell 3
    go_wp2_with fail
    refine (HT1.out w3).mono ?_
    rintro e w4 ⟨rfl, hP4⟩
    have hB1 := hB1.ext hP4 id
    have hB2 := hB2.ext hP4 id
    have hP := hP.pure hP4
    clear hP4
    clear c0 c1 c2 c3
    have c0 : w4.cell? ⟨tb, 0, none⟩ = some (.int .i64 r.x) := hB1.cell 0
    have c1 : w4.cell? ⟨tb, 1, none⟩ = some (.int .i64 r.y) := hB1.cell 1
    have c2 : w4.cell? ⟨tb, 2, none⟩ = some (.int .i64 r.w) := hB1.cell 2
    have c3 : w4.cell? ⟨tb, 3, none⟩ = some (.int .i64 r.h) := hB1.cell 3
    go_wp2_with fail
    refine (HT2.out w4).mono ?_
    rintro e w5 ⟨rfl, hP5⟩
    have hB1 := hB1.ext hP5 id
    have hB2 := hB2.ext hP5 id
    have hP := hP.pure hP5
    clear hP5
    clear c0 c1 c2 c3
    go_wp2_with fail
    refine (HSp.out w5).mono ?_
    rintro e w6 ⟨rfl, hP6⟩
    have hB1 := hB1.ext hP6 id
    have hB2 := hB2.ext hP6 id
    have hP := hP.pure hP6
    clear hP6
    rw [← HTr.out]
    have HTh : Hid (w6.there (tb + 1) 0 (#[.int .i64 T.x, .int .i64 T.y, .int .i64 T.w, .int .i64 T.h] : Array Value).size) := Lib.hid (hB2.there 4 rfl)
    have HSi : Hid ((Try.prog.info? 32).map (·.size) = some (#[.int .i64 T.x, .int .i64 T.y, .int .i64 T.w, .int .i64 T.h] : Array Value).size) := Lib.hid size32
    have HP8 : Hid (Pure w (w6.setCells (tb + 1) 0 [.int .i64 T.x, .int .i64 T.y, .int .i64 T.w, .int .i64 T.h])) := Lib.hid (Ext.setCells _ 0 w6 hP (b := tb + 1) (fun h => by have := HTb.out; omega))
    have HB9 := Lib.hid (setRect hB2 rfl (.int .i64 T.x) (.int .i64 T.y) (.int .i64 T.w) (.int .i64 T.h))
    clear hB2 hP
    go_wp2_with (with_reducible refine at_store 32 (.tmp 4) (.tmp 41) ?_; refine wpList_store_mid rfl 32 (.tmp 4) (.tmp 41) rfl (tb + 1) 0 #[.int .i64 T.x, .int .i64 T.y, .int .i64 T.w, .int .i64 T.h] rfl rfl HTh.out HSi.out (one4 _ _ _ _) ?_)
    refine bodyPost_ret (results_row1 rfl _ _ (tb + 1) _ [.int .i64 T.x, .int .i64 T.y, .int .i64 T.w, .int .i64 T.h] _ rfl HB9.out Try.underlying32 rfl size32) rfl ?_
    exact ⟨rfl, HP8.out⟩
  · have hm' : r.may = false := by simpa using hm
    have hr := HT.out
    rw [turn_none hm'] at hr
    have HTr := Lib.hid hr
    rw [hm'] at HM
    clear hm hm' hr
    go_enter Try.func19, Try.ntmps19
    go_wp2_with fail
    rw [HW.out, ← HTb.out]
    have hP := hP2
    have hB1 := hB12
    have hB2 := hB22
    clear hP2 hB12 hB22
    refine (HM.out w2).mono ?_
    rintro e w3 ⟨rfl, hP3⟩
    have hB1 := hB1.ext hP3 id
    have hB2 := hB2.ext hP3 id
    have hP := hP.pure hP3
    clear hP3
    have HTh : Hid (w3.there (tb + 1) 0 (#[.int .i64 0, .int .i64 0, .int .i64 0, .int .i64 0] : Array Value).size) := Lib.hid (hB2.there 4 rfl)
    have HSi : Hid ((Try.prog.info? 32).map (·.size) = some (#[.int .i64 0, .int .i64 0, .int .i64 0, .int .i64 0] : Array Value).size) := Lib.hid size32
    have HP8 : Hid (Pure w (w3.setCells (tb + 1) 0 [.int .i64 0, .int .i64 0, .int .i64 0, .int .i64 0])) := Lib.hid (Ext.setCells _ 0 w3 hP (b := tb + 1) (fun h => by have := HTb.out; omega))
    have HB9 := Lib.hid (setRect hB2 rfl (.int .i64 0) (.int .i64 0) (.int .i64 0) (.int .i64 0))
    clear hB2 hP
    go_wp2_with (with_reducible refine at_store 32 (.tmp 4) (.tmp 12) ?_; refine wpList_store_mid rfl 32 (.tmp 4) (.tmp 12) rfl (tb + 1) 0 #[.int .i64 0, .int .i64 0, .int .i64 0, .int .i64 0] rfl rfl HTh.out HSi.out (one4 _ _ _ _) ?_)
    refine bodyPost_ret (results_row1 rfl _ _ (tb + 1) _ [.int .i64 0, .int .i64 0, .int .i64 0, .int .i64 0] _ rfl HB9.out Try.underlying32 rfl size32) rfl ?_
    exact ⟨by rw [HTr.out]; rfl, HP8.out⟩
set_option maxRecDepth 100000 in
theorem of_any (r : Bx) (w : World) : Calls Try.prog 13 #[.agg #[.int .i64 r.x, .int .i64 r.y, .int .i64 r.w, .int .i64 r.h]] w (RectTo r w) := by
  go_enter Try.func13, Try.ntmps13
  go_wp2_with fail
  refine bodyPost_ret (results_row1 rfl _ _ (w.heap.size + 1) _ [.int .i64 r.x, .int .i64 r.y, .int .i64 r.w, .int .i64 r.h] _ rfl (by have := BlockIs.new (w.alloc (.cells #[.int .i64 r.x, .int .i64 r.y, .int .i64 r.w, .int .i64 r.h] 28)) [.int .i64 r.x, .int .i64 r.y, .int .i64 r.w, .int .i64 r.h] 32; rw [World.size_alloc] at this; exact this) Try.underlying32 rfl size32) rfl ?_
  exact ⟨rfl, ((Ext.refl _ w).alloc _).alloc _⟩
set_option maxRecDepth 100000 in
theorem to_any (r : Bx) (w : World) : Calls Try.prog 15 #[.agg #[.int .i64 r.x, .int .i64 r.y, .int .i64 r.w, .int .i64 r.h]] w (RectTo r w) := by
  go_enter Try.func15, Try.ntmps15
  go_wp2_with fail
  refine bodyPost_ret (results_row1 rfl _ _ (w.heap.size + 1) _ [.int .i64 r.x, .int .i64 r.y, .int .i64 r.w, .int .i64 r.h] _ rfl (by have := BlockIs.new (w.alloc (.cells #[.int .i64 r.x, .int .i64 r.y, .int .i64 r.w, .int .i64 r.h] 32)) [.int .i64 r.x, .int .i64 r.y, .int .i64 r.w, .int .i64 r.h] 28; rw [World.size_alloc] at this; exact this) Try.underlying28 rfl size28) rfl ?_
  exact ⟨rfl, ((Ext.refl _ w).alloc _).alloc _⟩
end Go.Proofs.Ytnibjjpohhknkaa
