/-
  Walked: the program's at, ends, turned, between.
-/
import Derived.Test.YtnibjjpohhknkaaWithin
import Derived.Test.YtnibjjpohhknkaaFw
import Derived.Test.YtnibjjpohhknkaaRet
import Derived.Test.YtnibjjpohhknkaaTop
import Derived.ScopeJumps
import Derived.WalkMore
namespace Go.Proofs.Ytnibjjpohhknkaa
open Go.RowKit
set_option linter.unusedVariables false
set_option linter.unusedSimpArgs false

theorem size28 : (Try.prog.info? 28).map (·.size) = some 4 := by kernel_rfl
theorem size32 : (Try.prog.info? 32).map (·.size) = some 4 := by kernel_rfl
def rc (r : Bx) : List Value := [.int .i64 r.x, .int .i64 r.y, .int .i64 r.w, .int .i64 r.h]
theorem one4 (a b c d : Int) : ((#[Value.int .i64 a, .int .i64 b, .int .i64 c, .int .i64 d] : Array Value).all fun u => u.oneCell') = true := all_oneCell_toArray (by intro u hu; simp only [List.mem_cons, List.not_mem_nil, or_false] at hu; rcases hu with rfl | rfl | rfl | rfl <;> rfl)
theorem sz4 (a b c d : Int) : (#[Value.int .i64 a, .int .i64 b, .int .i64 c, .int .i64 d] : Array Value).size = 4 := rfl
def RectTo (r : Bx) (w : World) (e : Ending) (w' : World) : Prop := e = .returned (.agg #[.int .i64 r.x, .int .i64 r.y, .int .i64 r.w, .int .i64 r.h]) ∧ Pure w w'
def CTo (x y : Int) (w : World) (e : Ending) (w' : World) : Prop := ∃ b c, e = .returned (.complex .f64 b c) ∧ Rep b x ∧ Rep c y ∧ Pure w w'
theorem at_any (x y : Int) (w : World) (hx : x.natAbs ≤ 2 ^ 53) (hy : y.natAbs ≤ 2 ^ 53) : Calls Try.prog 33 #[.int .i64 x, .int .i64 y] w (CTo x y w) := by
  go_enter Try.func33, Try.ntmps33
  go_wp2_with fail
  go_ret
  exact ⟨_, _, rfl, rep_of hx, rep_of hy, Ext.refl _ _⟩
theorem ends_any (r : Bx) (hm : r.may = true) (w : World) : Calls Try.prog 38 #[.agg #[.int .i64 r.x, .int .i64 r.y, .int .i64 r.w, .int .i64 r.h]] w (fun e w' => ∃ a b c d, e = .returned (.tuple #[.complex .f64 a b, .complex .f64 c d]) ∧ Rep a r.x ∧ Rep b r.y ∧ Rep c (r.x + r.w) ∧ Rep d (r.y + r.h) ∧ Pure w w') := by
  have h := Bx.may_iff.1 hm
  unfold most at h
  obtain ⟨x, y, v, g⟩ := r
  simp only at h ⊢
  obtain ⟨w1, hw1⟩ : ∃ z, z = w.alloc (.cells #[.int .i64 x, .int .i64 y, .int .i64 v, .int .i64 g] 28) := ⟨_, rfl⟩
  have hB : BlockIs w1 w.heap.size [.int .i64 x, .int .i64 y, .int .i64 v, .int .i64 g] 28 := hw1 ▸ BlockIs.new w _ _
  have hP : Pure w w1 := hw1 ▸ ext_alloc w _
  have HW := Lib.hid hw1
  have HA1 := Lib.hid (fun W => at_any x y W (by omega) (by omega))
  have HA2 := Lib.hid (fun W => at_any v g W (by omega) (by omega))
  have HH := Lib.hid h
  clear hw1 hm h
  go_enter Try.func38, Try.ntmps38
  go_wp2_with fail
  rw [← HW.out]
  refine (HA1.out w1).mono ?_
  rintro e w2 ⟨a, b, rfl, ha, hb, hP2⟩
  have hP := hP.pure hP2
  have hB := hB.ext hP2 id
  have c2 : w2.cell? ⟨w.heap.size, 2, none⟩ = some (.int .i64 v) := hB.cell 2
  have c3 : w2.cell? ⟨w.heap.size, 3, none⟩ = some (.int .i64 g) := hB.cell 3
  go_wp2_with fail
  refine (HA2.out w2).mono ?_
  rintro e w3 ⟨a', b', rfl, ha', hb', hP3⟩
  have hP := hP.pure hP3
  obtain ⟨c, d, hc, hd, hrun⟩ := run_cadd (P := Try.prog) ha hb ha' hb' (by have := HH.out; omega) (by have := HH.out; omega)
  have HF := Lib.hid (And.intro ha (And.intro hb (And.intro hc hd)))
  clear ha hb ha' hb' hc hd
  go_wp2_with fail
  go_ret2
  exact ⟨a, b, c, d, rfl, HF.out.1, HF.out.2.1, HF.out.2.2.1, HF.out.2.2.2, hP⟩
theorem q4_run (q : Int) : (wrap64 (q.tmod 4 + 4)).tmod 4 = (q4 q : Int) := by
  have h1 : q.tmod 4 = q % 4 ∨ q.tmod 4 = q % 4 - 4 := by
    rcases Int.lt_or_le q 0 with h | h
    · have e : q.tmod 4 = -((-q).tmod 4) := by rw [Int.neg_tmod]; omega
      rw [e, Int.tmod_eq_emod_of_nonneg (by omega)]
      omega
    · left; exact Int.tmod_eq_emod_of_nonneg h
  have h2 : -4 < q.tmod 4 ∧ q.tmod 4 < 4 := by
    have a := Int.emod_nonneg q (show (4 : Int) ≠ 0 by decide)
    have b := Int.emod_lt_of_pos q (show (0 : Int) < 4 by decide)
    have c := Int.lt_tmod_of_pos q (show (0 : Int) < 4 by decide)
    omega
  generalize q.tmod 4 = t at *
  have e : wrap64 (t + 4) = t + 4 := by unfold wrap64; omega
  rw [e, Int.tmod_eq_emod_of_nonneg (by omega)]
  unfold q4
  omega
theorem rot_abs : ∀ (k : Nat) (x y : Int) (B : Nat), x.natAbs ≤ B → y.natAbs ≤ B → (rot k x y).1.natAbs ≤ B ∧ (rot k x y).2.natAbs ≤ B
  | 0, x, y, B, h1, h2 => ⟨h1, h2⟩
  | k + 1, x, y, B, h1, h2 => rot_abs k y (-x) B h2 (by omega)
set_option maxHeartbeats 1000000 in
set_option maxRecDepth 100000 in
theorem turned_any (b c : Nat) (x y q : Int) (w : World) (hb : Rep b x) (hc : Rep c y) (hx : x.natAbs ≤ 2 ^ 53) (hy : y.natAbs ≤ 2 ^ 53) :
    Calls Try.prog 39 #[.complex .f64 b c, .int .i64 q] w (CTo (rot (q4 q) x y).1 (rot (q4 q) x y).2 w) := by
  have hq := q4_run q
  have HB := Lib.hid (And.intro hb hc)
  have HX := Lib.hid (And.intro hx hy)
  obtain ⟨k0, hk0⟩ : ∃ k, k = q4 q := ⟨_, rfl⟩
  have hk4 : k0 < 4 := hk0 ▸ q4_lt q
  rw [← hk0] at hq ⊢
  obtain ⟨X, hX⟩ : ∃ X, X = (rot k0 x y).1 := ⟨_, rfl⟩
  obtain ⟨Y, hY⟩ : ∃ Y, Y = (rot k0 x y).2 := ⟨_, rfl⟩
  rw [← hX, ← hY]
  have HXY : Hid (rot k0 x y = (X, Y)) := Lib.hid (by rw [hX, hY])
  clear hk0 hb hc hx hy hX hY
  go_enter Try.func39, Try.ntmps39
  go_wp2_with fail
  refine wp_scope_jumps 0 (fun a' w' => w' = w ∧ ∃ (m : Nat) (b c : Nat) (u6 u7 u8 u9 u10 u11 u12 u13 u14 u15 : Value), a' = { tmps := #[.complex .f64 b c, .int .i64 q, undef, undef, .complex .f64 0 0, .int .i64 m, u6, u7, u8, u9, u10, u11, u12, u13, u14, u15, undef], defers := [] } ∧ m < 4 ∧ Hid (∃ x y, Rep b x ∧ Rep c y ∧ x.natAbs ≤ 2 ^ 53 ∧ y.natAbs ≤ 2 ^ 53 ∧ rot m x y = (X, Y))) (fun a' _ => (intOf (a'.tmps.getD 5 undef)).toNat) rfl ?_ ?_
  · cases k0 with
    | zero =>
      go_wp2_with fail
      go_step3
      go_wp2_with fail
      go_ret
      have h := HXY.out
      rw [rot0] at h
      cases h
      exact ⟨b, c, rfl, HB.out.1, HB.out.2, Ext.refl _ _⟩
    | succ m =>
      obtain ⟨b', c', hb', hc', hrun⟩ := run_cturn (P := Try.prog) HB.out.1 HB.out.2 HX.out.1 HX.out.2
      have hki : (0 : Int) < ((m + 1 : Nat) : Int) := by omega
      have hk1 : ((m + 1 : Nat) : Int) - 1 = (m : Int) := by omega
      have HBn := Lib.hid (And.intro hb' hc')
      have HXn := HXY.out
      rw [rot] at HXn
      have HXn := Lib.hid HXn
      clear hb' hc'
      go_wp2_with fail
      go_step3
      go_wp2_with fail
      go_step3
      exact ⟨rfl, rfl, m, b', c', _, _, _, _, _, _, _, _, _, _, rfl, by omega, Lib.hid ⟨_, _, HBn.out.1, HBn.out.2, HX.out.2, by have := HX.out.1; omega, HXn.out⟩⟩
  · rintro a' w' ⟨rfl, m, b, c, u6, u7, u8, u9, u10, u11, u12, u13, u14, u15, rfl, hm4, HR⟩
    obtain ⟨x, y, hb, hc, hx, hy, hr⟩ := HR.out
    cases m with
    | zero =>
      rw [rot0] at hr
      cases hr
      clear HB HX HXY
      have HF := Lib.hid (And.intro hb hc)
      clear hb hc
      go_wp2_with fail
      go_ret
      exact ⟨b, c, rfl, HF.out.1, HF.out.2, Ext.refl _ _⟩
    | succ m =>
      obtain ⟨b', c', hb', hc', hrun⟩ := run_cturn (P := Try.prog) hb hc hx hy
      have hki : (0 : Int) < ((m + 1 : Nat) : Int) := by omega
      have hk1 : ((m + 1 : Nat) : Int) - 1 = (m : Int) := by omega
      have HBn := Lib.hid (And.intro hb' hc')
      have HXn := Lib.hid (And.intro hx hy)
      rw [rot] at hr
      have HRn := Lib.hid hr
      clear hb' hc' hb hc hx hy hr HR HB HX HXY
      go_wp2_with fail
      go_step3
      refine ⟨rfl, ⟨rfl, m, b', c', _, _, _, _, _, _, _, _, _, _, rfl, by omega, Lib.hid ⟨_, _, HBn.out.1, HBn.out.2, HXn.out.2, by have := HXn.out.1; omega, HRn.out⟩⟩, ?_⟩
      simp [intOf]
set_option maxHeartbeats 1000000 in
set_option maxRecDepth 100000 in
theorem between_any (a b c d : Nat) (x y u v : Int) (w : World) (ha : Rep a x) (hb : Rep b y) (hc : Rep c u) (hd : Rep d v) (h1 : x.natAbs ≤ 2 ^ 53) (h2 : y.natAbs ≤ 2 ^ 53) (h3 : u.natAbs ≤ 2 ^ 53) (h4 : v.natAbs ≤ 2 ^ 53) (h5 : (max x u - min x u).natAbs ≤ 2 ^ 53) (h6 : (max y v - min y v).natAbs ≤ 2 ^ 53) :
    Calls Try.prog 32 #[.complex .f64 a b, .complex .f64 c d] w (RectTo (Bx.span x y u v) w) := by
  obtain ⟨p1, q1, r1⟩ := run_fmin (P := Try.prog) ha hc
  obtain ⟨p2, q2, r2⟩ := run_fmin (P := Try.prog) hb hd
  obtain ⟨p3, q3, r3⟩ := run_fmax (P := Try.prog) ha hc
  obtain ⟨p4, q4, r4⟩ := run_fmax (P := Try.prog) hb hd
  obtain ⟨p5, q5, r5⟩ := run_fsub (P := Try.prog) q3 q1 h5
  obtain ⟨p6, q6, r6⟩ := run_fsub (P := Try.prog) q4 q2 h6
  have i1 := fun w => run_fint (P := Try.prog) q1 (by omega) 90 3 (by kernel_rfl) Try.underlying3 w
  have i2 := fun w => run_fint (P := Try.prog) q2 (by omega) 90 3 (by kernel_rfl) Try.underlying3 w
  have i3 := fun w => run_fint (P := Try.prog) q5 (by omega) 90 3 (by kernel_rfl) Try.underlying3 w
  have i4 := fun w => run_fint (P := Try.prog) q6 (by omega) 90 3 (by kernel_rfl) Try.underlying3 w
  have hs : Bx.span x y u v = ⟨min x u, min y v, max x u - min x u, max y v - min y v⟩ := rfl
  rw [hs]
  generalize max x u - min x u = m1 at *
  generalize max y v - min y v = m2 at *
  generalize min x u = m3 at *
  generalize min y v = m4 at *
  clear q1 q2 q3 q4 q5 q6 ha hb hc hd h1 h2 h3 h4 h5 h6 hs
  go_enter Try.func32, Try.ntmps32
  go_wp2_with fail
  refine bodyPost_ret (results_row1 rfl _ _ w.heap.size _ [.int .i64 m3, .int .i64 m4, .int .i64 m1, .int .i64 m2] _ rfl (BlockIs.new w _ _) Try.underlying28 rfl size28) rfl ?_
  exact ⟨rfl, ext_alloc w _⟩
set_option maxHeartbeats 1000000 in
set_option maxRecDepth 100000 in
theorem turn_any (r : Bx) (n : Int) (w : World) : Calls Try.prog 18 #[.agg #[.int .i64 r.x, .int .i64 r.y, .int .i64 r.w, .int .i64 r.h], .int .i64 n] w (RectTo (r.turn n) w) := by
  have HM := Lib.hid (fun W => may_any r W)
  obtain ⟨T, hT⟩ : ∃ T, T = r.turn n := ⟨_, rfl⟩
  rw [← hT]
  have HT := Lib.hid hT
  clear hT
  obtain ⟨w1, hw1⟩ : ∃ z, z = w.alloc (.cells (rc r).toArray 28) := ⟨_, rfl⟩
  obtain ⟨tb, htb⟩ : ∃ z, z = w.heap.size := ⟨_, rfl⟩
  have hB1 : BlockIs w1 tb (rc r) 28 := by rw [htb, hw1]; exact BlockIs.new w _ _
  have hs1 : w1.heap.size = tb + 1 := by rw [hw1, World.size_alloc, htb]
  obtain ⟨w2, hw2⟩ : ∃ z, z = w1.alloc (.cells (rc .zero).toArray 28) := ⟨_, rfl⟩
  have hB12 : BlockIs w2 tb (rc r) 28 := hw2 ▸ hB1.alloc _
  have hB22 : BlockIs w2 (tb + 1) (rc .zero) 28 := by rw [← hs1, hw2]; exact BlockIs.new w1 _ _
  have hP2 : Pure w w2 := (show Pure w w1 from hw1 ▸ ext_alloc w _).pure (hw2 ▸ ext_alloc w1 _)
  have HW : Hid ((w.alloc (.cells #[.int .i64 r.x, .int .i64 r.y, .int .i64 r.w, .int .i64 r.h] 28)).alloc (.cells #[.int .i64 0, .int .i64 0, .int .i64 0, .int .i64 0] 28) = w2) := Lib.hid (by rw [hw2, hw1]; rfl)
  have HTb := Lib.hid htb
  clear hw1 hw2 hs1 hB1 htb
  by_cases hm : r.may = true
  · have hr := HT.out
    rw [turn_may hm] at hr
    have HE := Lib.hid (fun W => ends_any r hm W)
    have hb := Bx.may_iff.1 hm
    unfold most at hb
    have b1 := rot_abs (q4 n) r.x r.y (3 * 2 ^ 51) (by omega) (by omega)
    have b2 := rot_abs (q4 n) (r.x + r.w) (r.y + r.h) (3 * 2 ^ 51) (by omega) (by omega)
    have hd1 : (max (rot (q4 n) r.x r.y).1 (rot (q4 n) (r.x + r.w) (r.y + r.h)).1 - min (rot (q4 n) r.x r.y).1 (rot (q4 n) (r.x + r.w) (r.y + r.h)).1).natAbs ≤ 2 ^ 53 := by
      rcases q4_cases n with hq | hq | hq | hq <;> rw [hq] <;> simp only [rot0, rot1, rot2, rot3] <;> omega
    have hd2 : (max (rot (q4 n) r.x r.y).2 (rot (q4 n) (r.x + r.w) (r.y + r.h)).2 - min (rot (q4 n) r.x r.y).2 (rot (q4 n) (r.x + r.w) (r.y + r.h)).2).natAbs ≤ 2 ^ 53 := by
      rcases q4_cases n with hq | hq | hq | hq <;> rw [hq] <;> simp only [rot0, rot1, rot2, rot3] <;> omega
    have HT1 := Lib.hid (fun b c W (h1 : Rep b r.x) (h2 : Rep c r.y) => turned_any b c r.x r.y n W h1 h2 (by omega) (by omega))
    have HT2 := Lib.hid (fun b c W (h1 : Rep b (r.x + r.w)) (h2 : Rep c (r.y + r.h)) => turned_any b c (r.x + r.w) (r.y + r.h) n W h1 h2 (by omega) (by omega))
    generalize (rot (q4 n) r.x r.y).1 = x1 at *
    generalize (rot (q4 n) r.x r.y).2 = y1 at *
    generalize (rot (q4 n) (r.x + r.w) (r.y + r.h)).1 = x2 at *
    generalize (rot (q4 n) (r.x + r.w) (r.y + r.h)).2 = y2 at *
    have HBt := Lib.hid (fun a b c d W (h1 : Rep a x1) (h2 : Rep b y1) (h3 : Rep c x2) (h4 : Rep d y2) => between_any a b c d x1 y1 x2 y2 W h1 h2 h3 h4 (by omega) (by omega) (by omega) (by omega) hd1 hd2)
    have HTr := Lib.hid hr
    rw [hm] at HM
    clear hb b1 b2 hd1 hd2 hr hm
    have hR12 := hB12.range
    go_enter Try.func18, Try.ntmps18
    go_wp2_with fail
    rw [HW.out, ← HTb.out]
    refine (HM.out w2).mono ?_
    rintro e w3 ⟨rfl, hP3⟩
    have hB1 := hB12.ext hP3 id
    have hB2 := hB22.ext hP3 id
    have hP := hP2.pure hP3
    have c0 : w3.cell? ⟨tb, 0, none⟩ = some (.int .i64 r.x) := hB1.cell 0
    have c1 : w3.cell? ⟨tb, 1, none⟩ = some (.int .i64 r.y) := hB1.cell 1
    have c2 : w3.cell? ⟨tb, 2, none⟩ = some (.int .i64 r.w) := hB1.cell 2
    have c3 : w3.cell? ⟨tb, 3, none⟩ = some (.int .i64 r.h) := hB1.cell 3
    clear hB12 hB22 hR12 hP2 hP3
    go_wp2_with fail
    refine (HE.out w3).mono ?_
    rintro e w4 ⟨a, b, c, d, rfl, ha, hb, hc, hd, hP4⟩
    have HA := Lib.hid ha
    have HB := Lib.hid hb
    have HC := Lib.hid hc
    have HD := Lib.hid hd
    have hB2 := hB2.ext hP4 id
    have hP := hP.pure hP4
    clear ha hb hc hd hP4 hB1 c0 c1 c2 c3
    go_wp2_with fail
    refine (HT1.out a b w4 HA.out HB.out).mono ?_
    rintro e w5 ⟨a', b', rfl, ha, hb, hP5⟩
    have HA := Lib.hid ha
    have HB := Lib.hid hb
    have hB2 := hB2.ext hP5 id
    have hP := hP.pure hP5
    clear ha hb hP5
    go_wp2_with fail
    refine (HT2.out c d w5 HC.out HD.out).mono ?_
    rintro e w6 ⟨c', d', rfl, hc, hd, hP6⟩
    have HC := Lib.hid hc
    have HD := Lib.hid hd
    have hB2 := hB2.ext hP6 id
    have hP := hP.pure hP6
    clear hc hd hP6
    go_wp2_with fail
    refine (HBt.out a' b' c' d' w6 HA.out HB.out HC.out HD.out).mono ?_
    rintro e w7 ⟨rfl, hP7⟩
    rw [← HTr.out]
    have hB2 := hB2.ext hP7 id
    have hP := hP.pure hP7
    have hP8 : Pure w (w7.setCells (tb + 1) 0 (rc T)) := Ext.setCells _ 0 w7 hP (b := tb + 1) (fun h => by have := HTb.out; omega)
    have HB9 := Lib.hid (hB2.setAll (rc T) rfl)
    have HP8 := Lib.hid hP8
    have HTh : Hid (w7.there (tb + 1) 0 (#[Value.int .i64 T.x, .int .i64 T.y, .int .i64 T.w, .int .i64 T.h] : Array Value).size) := Lib.hid (hB2.there 4 rfl)
    have HSi : Hid ((Try.prog.info? 28).map (·.size) = some (#[Value.int .i64 T.x, .int .i64 T.y, .int .i64 T.w, .int .i64 T.h] : Array Value).size) := Lib.hid size28
    clear hB2 hP hP7 hP8
    go_wp2_with (with_reducible refine at_store 28 (.tmp 4) (.tmp 22) ?_; refine wpList_store_mid rfl 28 (.tmp 4) (.tmp 22) rfl (tb + 1) 0 #[.int .i64 T.x, .int .i64 T.y, .int .i64 T.w, .int .i64 T.h] rfl rfl HTh.out HSi.out (one4 _ _ _ _) ?_)
    refine bodyPost_ret (results_row1 rfl _ _ (tb + 1) _ (rc T) _ rfl HB9.out Try.underlying28 rfl size28) rfl ?_
    exact ⟨rfl, HP8.out⟩
  · have hm' : r.may = false := by simpa using hm
    have hr := HT.out
    rw [turn_none hm'] at hr
    rw [hm'] at HM
    clear hm hm'
    go_enter Try.func18, Try.ntmps18
    go_wp2_with fail
    rw [HW.out, ← HTb.out]
    refine (HM.out w2).mono ?_
    rintro e w3 ⟨rfl, hP3⟩
    have hB2 := hB22.ext hP3 id
    have hP := hP2.pure hP3
    have HTh : Hid (w3.there (tb + 1) 0 (#[Value.int .i64 0, .int .i64 0, .int .i64 0, .int .i64 0] : Array Value).size) := Lib.hid (hB2.there 4 rfl)
    have HSi : Hid ((Try.prog.info? 28).map (·.size) = some (#[Value.int .i64 0, .int .i64 0, .int .i64 0, .int .i64 0] : Array Value).size) := Lib.hid size28
    have hP8 : Pure w (w3.setCells (tb + 1) 0 (rc .zero)) := Ext.setCells _ 0 w3 hP (b := tb + 1) (fun h => by have := HTb.out; omega)
    have HB9 := Lib.hid (hB2.setAll (rc .zero) rfl)
    have HP8 := Lib.hid hP8
    have HTr := Lib.hid hr
    clear hB2 hP hP3 hP8 hB12 hB22 hP2 hr
    go_wp2_with (with_reducible refine at_store 28 (.tmp 4) (.tmp 10) ?_; refine wpList_store_mid rfl 28 (.tmp 4) (.tmp 10) rfl (tb + 1) 0 #[.int .i64 0, .int .i64 0, .int .i64 0, .int .i64 0] rfl rfl HTh.out HSi.out (one4 _ _ _ _) ?_)
    refine bodyPost_ret (results_row1 rfl _ _ (tb + 1) _ (rc .zero) _ rfl HB9.out Try.underlying28 rfl size28) rfl ?_
    exact ⟨by rw [HTr.out]; rfl, HP8.out⟩
end Go.Proofs.Ytnibjjpohhknkaa
