/-
  BoxPoints: where any point is seen, and which point is seen anywhere, is as the document says. No condition.
-/
import Derived.Test.YtnibjjpohhknkaaSeen37
import Derived.Test.YtnibjjpohhknkaaWorks37
namespace Go.Proofs.Ytnibjjpohhknkaa.boxPoints
open Go.ChangeShapes Go.WideShapes Go.ChangeAt Go.RowKit Go.Proofs.Ytnibjjpohhknkaa
set_option linter.unusedVariables false
set_option linter.unusedSimpArgs false


set_option maxHeartbeats 4000000 in
set_option maxRecDepth 100000 in
theorem walk (r : Bx) (q W H x y : Int) (w : World) : Calls Try.prog 7 #[.agg #[.int .i64 r.x, .int .i64 r.y, .int .i64 r.w, .int .i64 r.h, .int .i64 q, .int .i64 W, .int .i64 H], .int .i64 x, .int .i64 y] w fun e w' => e = .returned (.bool true) ∧ Below w.heap.size w w' := by
  have HPt := Lib.hid (fun V => point_any r q W H x y V)
  have HRp := Lib.hid (fun V => refpoint_any r q W H x y V)
  have HBk := Lib.hid (fun V => back_any r q W H x y V)
  have HRb := Lib.hid (fun V => refback_any r q W H x y V)
  generalize (pointB r q x y).1 = P1 at *
  generalize (pointB r q x y).2 = P2 at *
  generalize (backB r q x y).1 = B1 at *
  generalize (backB r q x y).2 = B2 at *
  obtain ⟨tb, htb⟩ : ∃ z, z = w.heap.size := ⟨_, rfl⟩
  obtain ⟨w1, hw1⟩ : ∃ z, z = w.alloc (.cells #[.int .i64 r.x, .int .i64 r.y, .int .i64 r.w, .int .i64 r.h, .int .i64 q, .int .i64 W, .int .i64 H] 54) := ⟨_, rfl⟩
  have hB1 : BlockIs w1 tb [.int .i64 r.x, .int .i64 r.y, .int .i64 r.w, .int .i64 r.h, .int .i64 q, .int .i64 W, .int .i64 H] 54 := by rw [htb, hw1]; exact BlockIs.new w _ _
  have hPw : Pure w w1 := hw1 ▸ ext_alloc w _
  have HW := Lib.hid hw1.symm
  have HTb := Lib.hid htb
  clear hw1 htb
  go_enter Try.func7, Try.ntmps7
  go_wp2_with fail
  rw [HW.out, ← HTb.out]
  refine (seen_any r q W H _).mono ?_
  rintro e w2 ⟨rfl, hP⟩
  have hB1 := hB1.ext hP id
  have hPw := hPw.pure hP
  clear hP
  go_wp2_with fail
  refine (HPt.out _).mono ?_
  rintro e w3 ⟨rfl, hP⟩
  have hB1 := hB1.ext hP id
  have hPw := hPw.pure hP
  clear hP
  have c0 : w3.cell? ⟨tb, 0, none⟩ = some (.int .i64 r.x) := hB1.cell 0
  have c1 : w3.cell? ⟨tb, 1, none⟩ = some (.int .i64 r.y) := hB1.cell 1
  have c2 : w3.cell? ⟨tb, 2, none⟩ = some (.int .i64 r.w) := hB1.cell 2
  have c3 : w3.cell? ⟨tb, 3, none⟩ = some (.int .i64 r.h) := hB1.cell 3
  have c4 : w3.cell? ⟨tb, 4, none⟩ = some (.int .i64 q) := hB1.cell 4
  have c5 : w3.cell? ⟨tb, 5, none⟩ = some (.int .i64 W) := hB1.cell 5
  have c6 : w3.cell? ⟨tb, 6, none⟩ = some (.int .i64 H) := hB1.cell 6
  go_wp2_with fail
  clear c0 c1 c2 c3 c4 c5 c6
  refine (HRp.out _).mono ?_
  rintro e w4 ⟨rfl, hP⟩
  have hB1 := hB1.ext hP id
  have hPw := hPw.pure hP
  clear hP
  have c0 : w4.cell? ⟨tb, 0, none⟩ = some (.int .i64 r.x) := hB1.cell 0
  have c1 : w4.cell? ⟨tb, 1, none⟩ = some (.int .i64 r.y) := hB1.cell 1
  have c2 : w4.cell? ⟨tb, 2, none⟩ = some (.int .i64 r.w) := hB1.cell 2
  have c3 : w4.cell? ⟨tb, 3, none⟩ = some (.int .i64 r.h) := hB1.cell 3
  have c4 : w4.cell? ⟨tb, 4, none⟩ = some (.int .i64 q) := hB1.cell 4
  have c5 : w4.cell? ⟨tb, 5, none⟩ = some (.int .i64 W) := hB1.cell 5
  have c6 : w4.cell? ⟨tb, 6, none⟩ = some (.int .i64 H) := hB1.cell 6
  go_wp2_with fail
  clear c0 c1 c2 c3 c4 c5 c6
  refine (seen_any r q W H _).mono ?_
  rintro e w5 ⟨rfl, hP⟩
  have hB1 := hB1.ext hP id
  have hPw := hPw.pure hP
  clear hP
  go_wp2_with fail
  refine (HBk.out _).mono ?_
  rintro e w6 ⟨rfl, hP⟩
  have hB1 := hB1.ext hP id
  have hPw := hPw.pure hP
  clear hP
  have c0 : w6.cell? ⟨tb, 0, none⟩ = some (.int .i64 r.x) := hB1.cell 0
  have c1 : w6.cell? ⟨tb, 1, none⟩ = some (.int .i64 r.y) := hB1.cell 1
  have c2 : w6.cell? ⟨tb, 2, none⟩ = some (.int .i64 r.w) := hB1.cell 2
  have c3 : w6.cell? ⟨tb, 3, none⟩ = some (.int .i64 r.h) := hB1.cell 3
  have c4 : w6.cell? ⟨tb, 4, none⟩ = some (.int .i64 q) := hB1.cell 4
  have c5 : w6.cell? ⟨tb, 5, none⟩ = some (.int .i64 W) := hB1.cell 5
  have c6 : w6.cell? ⟨tb, 6, none⟩ = some (.int .i64 H) := hB1.cell 6
  go_wp2_with fail
  clear c0 c1 c2 c3 c4 c5 c6
  refine (HRb.out _).mono ?_
  rintro e w7 ⟨rfl, hP⟩
  have hB1 := hB1.ext hP id
  have hPw := hPw.pure hP
  clear hP
  go_wp2_with fail
  refine (works_any _).mono ?_
  rintro e wz ⟨rfl, hPz⟩
  go_wp2_with fail
  go_ret
  exact ⟨rfl, (hPw.pure hPz).below⟩

set_option maxRecDepth 100000 in
theorem lifted (os : Os) (started : os.Started) (H : Type) (enc : TypeId × Value → H) :
    ReturnsInHanded {} Try.checked os 7 .any (Rows.boxPointsSpec.pre6 enc Try.prog Try.f7 Rows.boxPointsRow.domain false) (Rows.boxPointsSpec.post enc Try.prog Try.f7 false true false false) := by
  refine returnsInHanded_of_change (C := Try.checked) own started (by kernel_rfl) Try.func7
    (ChangeSpec.witness6 (enc := enc) (C := Try.checked) false ⟨#[], #[.agg #[.int .i64 0, .int .i64 0, .int .i64 0, .int .i64 0, .int .i64 0, .int .i64 0, .int .i64 0], .int .i64 0, .int .i64 0], []⟩ 8 (by kernel_rfl) (by kernel_rfl) (by kernel_rfl) (by kernel_rfl)) ?_
  intro W base args ds gs before hval0 hW hcnd _
  have hval : ∀ (j : Nat) t v, Try.f7.params[j]? = some t → args[j]? = some v → Value.okWide Try.prog W .any base t v := hval0
  have hW' := hW
  obtain ⟨p, q, hA0, hV, rfl, hfz, hnd⟩ := hW
  have hA : DataW.TrodAll enc Try.prog W 0 (fun _ => true) true Try.f7.params.toList args.toList ds p := hA0
  rw [Try.params7] at hA hval
  obtain ⟨v0, vs0, d0, ds0, p0, q0, hargs, rfl, rfl, h0, r0⟩ := trodAll_cons hA
  obtain ⟨v1, vs1, d1, ds1, p1, q1, rfl, rfl, rfl, h1, r1⟩ := trodAll_cons r0
  obtain ⟨v2, vs2, d2, ds2, p2, q2, rfl, rfl, rfl, h2, r2⟩ := trodAll_cons r1
  obtain ⟨rfl, rfl, rfl⟩ := trodAll_nil r2
  obtain rfl : args = #[v0, v1, v2] := by cases args; simp_all
  obtain ⟨rfl, rfl⟩ := trodVars_none hV
  have k0 := h0
  have lt0 : ∀ x ∈ p0, x.block < W.heap.size := by obtain ⟨m, hm⟩ := k0; exact DataW.trod_lt m _ _ _ hm
  have k1 := h1
  have lt1 : ∀ x ∈ p1, x.block < W.heap.size := by obtain ⟨m, hm⟩ := k1; exact DataW.trod_lt m _ _ _ hm
  have k2 := h2
  have lt2 : ∀ x ∈ p2, x.block < W.heap.size := by obtain ⟨m, hm⟩ := k2; exact DataW.trod_lt m _ _ _ hm
  obtain ⟨r0', q0, w0', h0', rfl⟩ := open_seen (hval 0 54 v0 rfl rfl) h0
  obtain ⟨x1, rfl, rfl, wx1⟩ := open_int Try.underlying3 (hval 1 3 v1 rfl rfl) h1
  obtain ⟨x2, rfl, rfl, wx2⟩ := open_int Try.underlying3 (hval 2 3 v2 rfl rfl) h2
  clear hA0 hval0
  refine (walk r0' q0 w0' h0' x1 x2 W).mono fun e W' ⟨he, bel⟩ => ?_
  subst he
  exact ⟨_, rfl, _, _, _, [], _, [], hW', trodAll_mk1 (shut_bool Try.underlying4 _), (trodAll_cons_mk (Below.trod laidOut (by kernel_rfl) (of_decide_eq_true (by kernel_rfl)) k0 bel lt0) (trodAll_cons_mk (Below.trod laidOut (by kernel_rfl) (of_decide_eq_true (by kernel_rfl)) k1 bel lt1) (trodAll_cons_mk (Below.trod laidOut (by kernel_rfl) (of_decide_eq_true (by kernel_rfl)) k2 bel lt2) trodAll_mk0))), rfl, bel.frame _, fun h => by cases h⟩

theorem proved : Rows.BoxPointsSaid :=
  OpenClaim.holds_of_wide 7 Try.f7 rfl rfl rfl rfl rfl rfl rfl ⟨rfl, rfl, rfl, rfl, rfl⟩ rfl rfl rfl rfl rfl (by kernel_rfl) Try.func7 (by kernel_rfl)
    (of_decide_eq_true (by kernel_rfl)) (by unfold Func.isWrapper; first | (rw [if_pos (by decide +kernel)]; kernel_rfl) | (rw [if_neg (by decide +kernel)]; exact ⟨rfl, rfl⟩))
    (fun os started H enc _ => lifted os started H enc)
#print axioms proved
end Go.Proofs.Ytnibjjpohhknkaa.boxPoints
