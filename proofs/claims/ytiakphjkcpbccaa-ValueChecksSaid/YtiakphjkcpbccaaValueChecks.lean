/-
  ValueChecks: whether any value may be, or which error it has, and how deep it is, is as the document says. No condition.
-/
import Derived.Test.YtiakphjkcpbccaaLoad
namespace Go.Proofs.Ytiakphjkcpbccaa.valueChecks
open Go.ChangeShapes Go.WideShapes Go.ChangeAt Go.RowKit Go.Proofs.Ytiakphjkcpbccaa
set_option linter.unusedVariables false

set_option maxHeartbeats 2000000 in
set_option maxRecDepth 100000 in
theorem walk (d : Nat) (v : V) (cs : List Value) (w : World) (h : Lies w d v cs) :
    Calls Try.prog 3 #[.agg cs.toArray] w fun e w' => e = .returned (.bool true) ∧ Below w.heap.size w w' := by
  have HC := Lib.hid h.len
  have hS0 := fun W (hP : Pure w W) => small_any (h.pure hP)
  have HCk := Lib.hid (fun W (hP : Pure w W) (hs : v.size ≤ 300) => check_any d v cs W (h.pure hP) (by omega))
  have HRk := Lib.hid (fun W (hP : Pure w W) (hs : v.size ≤ 300) => refcheck_any d v cs W (h.pure hP) (by omega))
  have HDp := Lib.hid (fun W (hP : Pure w W) (hs : v.size ≤ 300) => depth_any d v cs W (h.pure hP) (by omega))
  have HRd := Lib.hid (fun W (hP : Pure w W) (hs : v.size ≤ 300) => refdepth_any d v cs W (h.pure hP) (by omega))
  obtain ⟨w1, hw1⟩ : ∃ z, z = w.alloc (.cells cs.toArray 24) := ⟨_, rfl⟩
  have hBv : BlockIs w1 w.heap.size cs 24 := hw1 ▸ BlockIs.new w _ _
  have hPv : Pure w w1 := hw1 ▸ ext_alloc w _
  have HW1 := Lib.hid hw1.symm
  have hds := V.depth_size v
  obtain ⟨D, hD⟩ : ∃ z, z = v.depth := ⟨_, rfl⟩
  obtain ⟨E, hE⟩ : ∃ z, z = v.checkE := ⟨_, rfl⟩
  rw [← hD] at HDp HRd hds
  rw [← hE] at HCk HRk
  clear hw1 h hD hE
  by_cases hs : v.size ≤ 300
  · have HSm := Lib.hid (fun W (hP : Pure w W) => by have := hS0 W hP; rw [show decide (v.size ≤ 300) = true from by simp [hs]] at this; exact this)
    have HSz := Lib.hid hs
    clear hS0 hs hds
    go_enter Try.func3, Try.ntmps3
    go_wp2_with fail
    rw [HW1.out]
    have hBv := hBv.drew
    have hPv := hPv.drew
    refine region_start (fun _ => False) (by kernel_rfl) ?_
    try simp only [Act.put, List.setIfInBounds_toArray, List.set_cons_zero, List.set_cons_succ]
    refine region_take 0 3 (v := ?vaa0) rfl rfl (by kernel_rfl) (by kernel_rfl) (by kernel_rfl) (fun _ _ _ h => h) (by rfl) (fun w' hS => ?haa0) ?raa0
    case haa0 => (refine exec_load (x := .tmp 1) ?_ ?_ (hBv.ext hS id) HC.out <;> rfl)
    try simp only [Act.put, List.setIfInBounds_toArray, List.set_cons_zero, List.set_cons_succ]
    refine wpAnyH_ready (rs := [1]) (by kernel_rfl) (by simp) (AllReadyH.cons rfl (fun K hK => ?_) AllReadyH.nil)
    go_simp
    refine (HSm.out _ hPv).mono ?_
    rintro e w2 ⟨rfl, hP⟩
    have hBv := hBv.ext hP id
    have hPv := hPv.pure hP
    refine hK.out _ _ (hP) (fun hHeld => ?_)
    clear hK K hHeld
    refine region_now (hP) ?_
    try simp only [Act.put, List.setIfInBounds_toArray, List.set_cons_zero, List.set_cons_succ]
    refine region_take 2 5 (v := ?vaa2) rfl rfl (by kernel_rfl) (by kernel_rfl) (by kernel_rfl) (fun _ _ _ h => h) (by rfl) (fun w' hS => ?haa2) ?raa2
    case haa2 => go_simp; with_reducible rfl
    try simp only [Act.put, List.setIfInBounds_toArray, List.set_cons_zero, List.set_cons_succ]
    refine region_take 3 6 (v := ?vaa3) rfl rfl (by kernel_rfl) (by kernel_rfl) (by kernel_rfl) (fun _ _ _ h => h) (by rfl) (fun w' hS => ?haa3) ?raa3
    case haa3 => go_simp; with_reducible rfl
    try simp only [Act.put, List.setIfInBounds_toArray, List.set_cons_zero, List.set_cons_succ]
    refine region_take 4 7 (v := ?vaa4) rfl rfl (by kernel_rfl) (by kernel_rfl) (by kernel_rfl) (fun _ _ _ h => h) (by rfl) (fun w' hS => ?haa4) ?raa4
    case haa4 => (refine exec_load (x := .tmp 1) ?_ ?_ (hBv.ext hS id) HC.out <;> rfl)
    try simp only [Act.put, List.setIfInBounds_toArray, List.set_cons_zero, List.set_cons_succ]
    refine region_take 6 9 (v := ?vaa6) rfl rfl (by kernel_rfl) (by kernel_rfl) (by kernel_rfl) (fun _ _ _ h => h) (by rfl) (fun w' hS => ?haa6) ?raa6
    case haa6 => (refine exec_load (x := .tmp 1) ?_ ?_ (hBv.ext hS id) HC.out <;> rfl)
    try simp only [Act.put, List.setIfInBounds_toArray, List.set_cons_zero, List.set_cons_succ]
    refine wpAnyH_ready (rs := [5]) (by kernel_rfl) (by simp) (AllReadyH.cons rfl (fun K hK => ?_) AllReadyH.nil)
    go_simp
    refine (HCk.out _ hPv HSz.out).mono ?_
    rintro e w3 ⟨rfl, hP⟩
    have hBv := hBv.ext hP id
    have hPv := hPv.pure hP
    refine hK.out _ _ (hP) (fun hHeld => ?_)
    clear hK K hHeld
    refine region_now (hP) ?_
    try simp only [Act.put, List.setIfInBounds_toArray, List.set_cons_zero, List.set_cons_succ]
    refine wpAnyH_ready (rs := [7]) (by kernel_rfl) (by simp) (AllReadyH.cons rfl (fun K hK => ?_) AllReadyH.nil)
    go_simp
    refine (HRk.out _ hPv HSz.out).mono ?_
    rintro e w4 ⟨rfl, hP⟩
    have hBv := hBv.ext hP id
    have hPv := hPv.pure hP
    refine hK.out _ _ (hP) (fun hHeld => ?_)
    clear hK K hHeld
    refine region_now (hP) ?_
    try simp only [Act.put, List.setIfInBounds_toArray, List.set_cons_zero, List.set_cons_succ]
    refine region_take 8 11 (v := ?vaa8) rfl rfl (by kernel_rfl) (by kernel_rfl) (by kernel_rfl) (fun _ _ _ h => h) (by rfl) (fun w' hS => ?haa8) ?raa8
    case haa8 => go_simp; with_reducible rfl
    try simp only [Act.put, List.setIfInBounds_toArray, List.set_cons_zero, List.set_cons_succ]
    refine region_take 9 12 (v := ?vaa9) rfl rfl (by kernel_rfl) (by kernel_rfl) (by kernel_rfl) (fun _ _ _ h => h) (by rfl) (fun w' hS => ?haa9) ?raa9
    case haa9 => go_simp; with_reducible rfl
    try simp only [Act.put, List.setIfInBounds_toArray, List.set_cons_zero, List.set_cons_succ]
    refine region_take 10 13 (v := ?vaa10) rfl rfl (by kernel_rfl) (by kernel_rfl) (by kernel_rfl) (fun _ _ _ h => h) (by rfl) (fun w' hS => ?haa10) ?raa10
    case haa10 => (refine exec_load (x := .tmp 1) ?_ ?_ (hBv.ext hS id) HC.out <;> rfl)
    try simp only [Act.put, List.setIfInBounds_toArray, List.set_cons_zero, List.set_cons_succ]
    refine region_take 12 15 (v := ?vaa12) rfl rfl (by kernel_rfl) (by kernel_rfl) (by kernel_rfl) (fun _ _ _ h => h) (by rfl) (fun w' hS => ?haa12) ?raa12
    case haa12 => (refine exec_load (x := .tmp 1) ?_ ?_ (hBv.ext hS id) HC.out <;> rfl)
    try simp only [Act.put, List.setIfInBounds_toArray, List.set_cons_zero, List.set_cons_succ]
    refine wpAnyH_ready (rs := [11]) (by kernel_rfl) (by simp) (AllReadyH.cons rfl (fun K hK => ?_) AllReadyH.nil)
    go_simp
    refine (HDp.out _ hPv HSz.out).mono ?_
    rintro e w5 ⟨rfl, hP⟩
    have hBv := hBv.ext hP id
    have hPv := hPv.pure hP
    refine hK.out _ _ (hP) (fun hHeld => ?_)
    clear hK K hHeld
    refine region_now (hP) ?_
    try simp only [Act.put, List.setIfInBounds_toArray, List.set_cons_zero, List.set_cons_succ]
    refine wpAnyH_ready (rs := [13]) (by kernel_rfl) (by simp) (AllReadyH.cons rfl (fun K hK => ?_) AllReadyH.nil)
    go_simp
    refine (HRd.out _ hPv HSz.out).mono ?_
    rintro e w6 ⟨rfl, hP⟩
    have hBv := hBv.ext hP id
    have hPv := hPv.pure hP
    refine hK.out _ _ (hP) (fun hHeld => ?_)
    clear hK K hHeld
    refine region_now (hP) ?_
    try simp only [Act.put, List.setIfInBounds_toArray, List.set_cons_zero, List.set_cons_succ]
    refine region_take 14 17 (v := ?vaa14) rfl rfl (by kernel_rfl) (by kernel_rfl) (by kernel_rfl) (fun _ _ _ h => h) (by rfl) (fun w' hS => ?haa14) ?raa14
    case haa14 => go_simp; with_reducible rfl
    try simp only [Act.put, List.setIfInBounds_toArray, List.set_cons_zero, List.set_cons_succ]
    refine region_take 15 18 (v := ?vaa15) rfl rfl (by kernel_rfl) (by kernel_rfl) (by kernel_rfl) (fun _ _ _ h => h) (by rfl) (fun w' hS => ?haa15) ?raa15
    case haa15 => go_simp; with_reducible rfl
    try simp only [Act.put, List.setIfInBounds_toArray, List.set_cons_zero, List.set_cons_succ]
    refine region_take 16 19 (v := ?vaa16) rfl rfl (by kernel_rfl) (by kernel_rfl) (by kernel_rfl) (fun _ _ _ h => h) (by rfl) (fun w' hS => ?haa16) ?raa16
    case haa16 => go_simp; with_reducible rfl
    try simp only [Act.put, List.setIfInBounds_toArray, List.set_cons_zero, List.set_cons_succ]
    refine region_take 17 20 (v := ?vaa17) rfl rfl (by kernel_rfl) (by kernel_rfl) (by kernel_rfl) (fun _ _ _ h => h) (by rfl) (fun w' hS => ?haa17) ?raa17
    case haa17 => go_simp; with_reducible rfl
    try simp only [Act.put, List.setIfInBounds_toArray, List.set_cons_zero, List.set_cons_succ]
    refine wpAnyH_ready (rs := [18]) (by kernel_rfl) (by simp) (AllReadyH.cons rfl (fun K hK => ?_) AllReadyH.nil)
    go_simp
    refine (works_any _).mono ?_
    rintro e w7 ⟨rfl, hP⟩
    have hPv := hPv.pure hP
    refine hK.out _ _ (hP) (fun hHeld => ?_)
    clear hK K hHeld
    refine region_now (hP) ?_
    try simp only [Act.put, List.setIfInBounds_toArray, List.set_cons_zero, List.set_cons_succ]
    refine region_take 19 22 (v := ?vaa19) rfl rfl (by kernel_rfl) (by kernel_rfl) (by kernel_rfl) (fun _ _ _ h => h) (by rfl) (fun w' hS => ?haa19) ?raa19
    case haa19 => go_simp; with_reducible rfl
    try simp only [Act.put, List.setIfInBounds_toArray, List.set_cons_zero, List.set_cons_succ]
    refine region_take 20 2 (v := ?vaa20) rfl rfl (by kernel_rfl) (by kernel_rfl) (by kernel_rfl) (fun _ _ _ h => h) (by rfl) (fun w' hS => ?haa20) ?raa20
    case haa20 => go_simp; with_reducible rfl
    try simp only [Act.put, List.setIfInBounds_toArray, List.set_cons_zero, List.set_cons_succ]
    refine wpAnyH_done (by kernel_rfl) ?_ _
    go_wp2_with fail
    go_ret
    exact ⟨rfl, hPv.below⟩
  · have HSm := Lib.hid (fun W (hP : Pure w W) => by have := hS0 W hP; rw [show decide (v.size ≤ 300) = false from by simp [hs]] at this; exact this)
    clear hS0 hs hds HCk HRk HDp HRd
    go_enter Try.func3, Try.ntmps3
    go_wp2_with fail
    rw [HW1.out]
    have hBv := hBv.drew
    have hPv := hPv.drew
    refine region_start (fun _ => False) (by kernel_rfl) ?_
    try simp only [Act.put, List.setIfInBounds_toArray, List.set_cons_zero, List.set_cons_succ]
    refine region_take 0 3 (v := ?vab0) rfl rfl (by kernel_rfl) (by kernel_rfl) (by kernel_rfl) (fun _ _ _ h => h) (by rfl) (fun w' hS => ?hab0) ?rab0
    case hab0 => (refine exec_load (x := .tmp 1) ?_ ?_ (hBv.ext hS id) HC.out <;> rfl)
    try simp only [Act.put, List.setIfInBounds_toArray, List.set_cons_zero, List.set_cons_succ]
    refine wpAnyH_ready (rs := [1]) (by kernel_rfl) (by simp) (AllReadyH.cons rfl (fun K hK => ?_) AllReadyH.nil)
    go_simp
    refine (HSm.out _ hPv).mono ?_
    rintro e w2 ⟨rfl, hP⟩
    have hBv := hBv.ext hP id
    have hPv := hPv.pure hP
    refine hK.out _ _ (hP) (fun hHeld => ?_)
    clear hK K hHeld
    refine region_now (hP) ?_
    try simp only [Act.put, List.setIfInBounds_toArray, List.set_cons_zero, List.set_cons_succ]
    refine region_take 2 5 (v := ?vab2) rfl rfl (by kernel_rfl) (by kernel_rfl) (by kernel_rfl) (fun _ _ _ h => h) (by rfl) (fun w' hS => ?hab2) ?rab2
    case hab2 => go_simp; with_reducible rfl
    try simp only [Act.put, List.setIfInBounds_toArray, List.set_cons_zero, List.set_cons_succ]
    refine region_take 3 6 (v := ?vab3) rfl rfl (by kernel_rfl) (by kernel_rfl) (by kernel_rfl) (fun _ _ _ h => h) (by rfl) (fun w' hS => ?hab3) ?rab3
    case hab3 => go_simp; with_reducible rfl
    try simp only [Act.put, List.setIfInBounds_toArray, List.set_cons_zero, List.set_cons_succ]
    refine region_skip 4 7 rfl rfl (by kernel_rfl) (by kernel_rfl) (by kernel_rfl) (fun _ _ _ h => h) (by rfl) ?_
    try simp only [Act.put, List.setIfInBounds_toArray, List.set_cons_zero, List.set_cons_succ]
    refine region_skip 5 8 rfl rfl (by kernel_rfl) (by kernel_rfl) (by kernel_rfl) (fun _ _ _ h => h) (by rfl) ?_
    try simp only [Act.put, List.setIfInBounds_toArray, List.set_cons_zero, List.set_cons_succ]
    refine region_skip 6 9 rfl rfl (by kernel_rfl) (by kernel_rfl) (by kernel_rfl) (fun _ _ _ h => h) (by rfl) ?_
    try simp only [Act.put, List.setIfInBounds_toArray, List.set_cons_zero, List.set_cons_succ]
    refine region_skip 7 10 rfl rfl (by kernel_rfl) (by kernel_rfl) (by kernel_rfl) (fun _ _ _ h => h) (by rfl) ?_
    try simp only [Act.put, List.setIfInBounds_toArray, List.set_cons_zero, List.set_cons_succ]
    refine region_skip 8 11 rfl rfl (by kernel_rfl) (by kernel_rfl) (by kernel_rfl) (fun _ _ _ h => h) (by rfl) ?_
    try simp only [Act.put, List.setIfInBounds_toArray, List.set_cons_zero, List.set_cons_succ]
    refine region_skip 9 12 rfl rfl (by kernel_rfl) (by kernel_rfl) (by kernel_rfl) (fun _ _ _ h => h) (by rfl) ?_
    try simp only [Act.put, List.setIfInBounds_toArray, List.set_cons_zero, List.set_cons_succ]
    refine region_skip 10 13 rfl rfl (by kernel_rfl) (by kernel_rfl) (by kernel_rfl) (fun _ _ _ h => h) (by rfl) ?_
    try simp only [Act.put, List.setIfInBounds_toArray, List.set_cons_zero, List.set_cons_succ]
    refine region_skip 11 14 rfl rfl (by kernel_rfl) (by kernel_rfl) (by kernel_rfl) (fun _ _ _ h => h) (by rfl) ?_
    try simp only [Act.put, List.setIfInBounds_toArray, List.set_cons_zero, List.set_cons_succ]
    refine region_skip 12 15 rfl rfl (by kernel_rfl) (by kernel_rfl) (by kernel_rfl) (fun _ _ _ h => h) (by rfl) ?_
    try simp only [Act.put, List.setIfInBounds_toArray, List.set_cons_zero, List.set_cons_succ]
    refine region_skip 13 16 rfl rfl (by kernel_rfl) (by kernel_rfl) (by kernel_rfl) (fun _ _ _ h => h) (by rfl) ?_
    try simp only [Act.put, List.setIfInBounds_toArray, List.set_cons_zero, List.set_cons_succ]
    refine region_skip 14 17 rfl rfl (by kernel_rfl) (by kernel_rfl) (by kernel_rfl) (fun _ _ _ h => h) (by rfl) ?_
    try simp only [Act.put, List.setIfInBounds_toArray, List.set_cons_zero, List.set_cons_succ]
    refine region_skip 15 18 rfl rfl (by kernel_rfl) (by kernel_rfl) (by kernel_rfl) (fun _ _ _ h => h) (by rfl) ?_
    try simp only [Act.put, List.setIfInBounds_toArray, List.set_cons_zero, List.set_cons_succ]
    refine region_take 16 19 (v := ?vab16) rfl rfl (by kernel_rfl) (by kernel_rfl) (by kernel_rfl) (fun _ _ _ h => h) (by rfl) (fun w' hS => ?hab16) ?rab16
    case hab16 => go_simp; with_reducible rfl
    try simp only [Act.put, List.setIfInBounds_toArray, List.set_cons_zero, List.set_cons_succ]
    refine region_take 17 20 (v := ?vab17) rfl rfl (by kernel_rfl) (by kernel_rfl) (by kernel_rfl) (fun _ _ _ h => h) (by rfl) (fun w' hS => ?hab17) ?rab17
    case hab17 => go_simp; with_reducible rfl
    try simp only [Act.put, List.setIfInBounds_toArray, List.set_cons_zero, List.set_cons_succ]
    refine wpAnyH_ready (rs := [18]) (by kernel_rfl) (by simp) (AllReadyH.cons rfl (fun K hK => ?_) AllReadyH.nil)
    go_simp
    refine (works_any _).mono ?_
    rintro e w7 ⟨rfl, hP⟩
    have hPv := hPv.pure hP
    refine hK.out _ _ (hP) (fun hHeld => ?_)
    clear hK K hHeld
    refine region_now (hP) ?_
    try simp only [Act.put, List.setIfInBounds_toArray, List.set_cons_zero, List.set_cons_succ]
    refine region_take 19 22 (v := ?vab19) rfl rfl (by kernel_rfl) (by kernel_rfl) (by kernel_rfl) (fun _ _ _ h => h) (by rfl) (fun w' hS => ?hab19) ?rab19
    case hab19 => go_simp; with_reducible rfl
    try simp only [Act.put, List.setIfInBounds_toArray, List.set_cons_zero, List.set_cons_succ]
    refine region_take 20 2 (v := ?vab20) rfl rfl (by kernel_rfl) (by kernel_rfl) (by kernel_rfl) (fun _ _ _ h => h) (by rfl) (fun w' hS => ?hab20) ?rab20
    case hab20 => go_simp; with_reducible rfl
    try simp only [Act.put, List.setIfInBounds_toArray, List.set_cons_zero, List.set_cons_succ]
    refine wpAnyH_done (by kernel_rfl) ?_ _
    go_wp2_with fail
    go_ret
    exact ⟨rfl, hPv.below⟩

set_option maxRecDepth 100000 in
theorem lifted (os : Os) (started : os.Started) (H : Type) (enc : TypeId × Value → H) :
    ReturnsInHanded {} Try.checked os 3 .any (Rows.valueChecksSpec.pre6 enc Try.prog Try.f3 Rows.valueChecksRow.domain false) (Rows.valueChecksSpec.post enc Try.prog Try.f3 false true false false) := by
  refine returnsInHanded_of_change (C := Try.checked) own started (by kernel_rfl) Try.func3
    (ChangeSpec.witness6 (enc := enc) (C := Try.checked) false ⟨#[], #[.agg #[.int .i64 0, .int .i64 0, .string ⟨#[]⟩, .slice none 0 0]], []⟩ 8 (by kernel_rfl) (by kernel_rfl) (by kernel_rfl) (by kernel_rfl)) ?_
  intro W base args ds gs before hval0 hW hcnd _
  have hval : ∀ (j : Nat) t v, Try.f3.params[j]? = some t → args[j]? = some v → Value.okWide Try.prog W .any base t v := hval0
  have hW' := hW
  obtain ⟨p, q, hA0, hV, rfl, hfz, hnd⟩ := hW
  have hA : DataW.TrodAll enc Try.prog W 0 (fun _ => true) true Try.f3.params.toList args.toList ds p := hA0
  rw [Try.params3] at hA hval
  obtain ⟨v0, vs0, d0, ds0, p0, q0, hargs, rfl, rfl, h0, r0⟩ := trodAll_cons hA
  obtain ⟨rfl, rfl, rfl⟩ := trodAll_nil r0
  obtain rfl : args = #[v0] := by cases args; simp_all
  obtain ⟨rfl, rfl⟩ := trodVars_none hV
  have k0 := h0
  have lt0 : ∀ x ∈ p0, x.block < W.heap.size := by obtain ⟨m, hm⟩ := k0; exact DataW.trod_lt m _ _ _ hm
  obtain ⟨F0, u0, cs0, rfl, hL0⟩ := open_val (hval 0 24 v0 rfl rfl) h0
  clear hA0 hval0
  refine (walk F0 u0 cs0 W hL0).mono fun e W' ⟨he, bel⟩ => ?_
  subst he
  exact ⟨_, rfl, _, _, _, [], _, [], hW', trodAll_mk1 (shut_bool Try.underlying4 _), (trodAll_cons_mk (Below.trod laidOut (by kernel_rfl) (of_decide_eq_true (by kernel_rfl)) k0 bel lt0) trodAll_mk0), rfl, bel.frame _, fun h => by cases h⟩

theorem proved : Rows.ValueChecksSaid :=
  OpenClaim.holds_of_wide 3 Try.f3 rfl rfl rfl rfl rfl rfl rfl ⟨rfl, rfl, rfl, rfl, rfl⟩ rfl rfl rfl rfl rfl (by kernel_rfl) Try.func3 (by kernel_rfl)
    (of_decide_eq_true (by kernel_rfl)) (by unfold Func.isWrapper; first | (rw [if_pos (by decide +kernel)]; kernel_rfl) | (rw [if_neg (by decide +kernel)]; exact ⟨rfl, rfl⟩))
    (fun os started H enc _ => lifted os started H enc)
#print axioms proved
end Go.Proofs.Ytiakphjkcpbccaa.valueChecks
