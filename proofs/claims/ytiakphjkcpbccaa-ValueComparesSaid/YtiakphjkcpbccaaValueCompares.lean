/-
  ValueCompares: how any two values stand is as the document says. No condition.
-/
import Derived.Test.YtiakphjkcpbccaaLoadG
namespace Go.Proofs.Ytiakphjkcpbccaa.valueCompares
open Go.ChangeShapes Go.WideShapes Go.ChangeAt Go.RowKit Go.Proofs.Ytiakphjkcpbccaa
set_option linter.unusedVariables false

set_option maxHeartbeats 4000000 in
set_option maxRecDepth 100000 in
theorem walk (d : Nat) (v : V) (cs : List Value) (d' : Nat) (u : V) (us : List Value) (w : World) (h : Lies w d v cs) (h' : Lies w d' u us) :
    Calls Try.prog 9 #[.agg cs.toArray, .agg us.toArray] w fun e w' => e = .returned (.bool true) ∧ Below w.heap.size w w' := by
  have HC := Lib.hid h.len
  have HU := Lib.hid h'.len
  have HSv := Lib.hid (fun W (hP : Pure w W) => small_any (h.pure hP))
  have HSu := Lib.hid (fun W (hP : Pure w W) => small_any (h'.pure hP))
  have HC1 := Lib.hid (fun W (hP : Pure w W) (hs : v.size ≤ 300) (hs' : u.size ≤ 300) => valcmp_any d v cs d' u us W (h.pure hP) (h'.pure hP) (by omega) (by omega))
  have HC2 := Lib.hid (fun W (hP : Pure w W) (hs : v.size ≤ 300) (hs' : u.size ≤ 300) => refcmp_any d v cs d' u us W (h.pure hP) (h'.pure hP) (by omega) (by omega))
  have HC3 := Lib.hid (fun W (hP : Pure w W) (hs : v.size ≤ 300) (hs' : u.size ≤ 300) => valsame_any d v cs d' u us W (h.pure hP) (h'.pure hP) (by omega) (by omega))
  have HC4 := Lib.hid (fun W (hP : Pure w W) (hs : v.size ≤ 300) (hs' : u.size ≤ 300) => refsame_any d v cs d' u us W (h.pure hP) (h'.pure hP) (by omega) (by omega))
  obtain ⟨w1, hw1⟩ : ∃ z, z = w.alloc (.cells cs.toArray 24) := ⟨_, rfl⟩
  obtain ⟨tb, htb⟩ : ∃ z, z = w.heap.size := ⟨_, rfl⟩
  have hs1 : w1.heap.size = tb + 1 := by rw [hw1, World.size_alloc, htb]
  have hB1 : BlockIs w1 tb cs 24 := by rw [htb, hw1]; exact BlockIs.new w _ _
  obtain ⟨w2, hw2⟩ : ∃ z, z = w1.alloc (.cells us.toArray 24) := ⟨_, rfl⟩
  have hBv : BlockIs w2 tb cs 24 := hw2 ▸ hB1.alloc _
  have hBu : BlockIs w2 (tb + 1) us 24 := by rw [← hs1, hw2]; exact BlockIs.new w1 _ _
  have hPv : Pure w w2 := (show Pure w w1 from hw1 ▸ ext_alloc w _).pure (hw2 ▸ ext_alloc w1 _)
  have HW : Hid ((w.alloc (.cells cs.toArray 24)).alloc (.cells us.toArray 24) = w2) := Lib.hid (by rw [hw2, hw1])
  have HTb := Lib.hid htb
  obtain ⟨R, hR⟩ : ∃ z, z = v.cmp u := ⟨_, rfl⟩
  rw [← hR] at HC1 HC2 HC3 HC4
  have hRv : ((w.alloc (.cells cs.toArray 24)).alloc (.cells us.toArray 24)).rangeAt w.heap.size 0 cs := by rw [HW.out, ← HTb.out]; exact hBv.range
  clear hw1 hw2 h h' hR htb hs1 hB1
  by_cases hs : v.size ≤ 300
  · have HSz := Lib.hid hs
    have e1 : decide (v.size ≤ 300) = true := by simp [hs]
    rw [e1] at HSv
    clear e1 hs
    go_enter Try.func9, Try.ntmps9
    go_wp2_with (with_reducible refine at_load 24 (.tmp 2) ?_; refine wpList_load_g rfl (.tmp 2) rfl w.heap.size 0 rfl cs hRv HC.out ?_)
    rw [HW.out, ← HTb.out]
    refine (HSv.out w2 hPv).mono ?_
    rintro e w3 ⟨rfl, hP3⟩
    have hBv := hBv.ext hP3 id
    have hBu := hBu.ext hP3 id
    have hPv := hPv.pure hP3
    have hRu := hBu.range
    clear hRv hP3
    go_wp2_with (with_reducible refine at_load 24 (.tmp 3) ?_; refine wpList_load_g rfl (.tmp 3) rfl (tb + 1) 0 rfl us hRu HU.out ?_)
    by_cases hs' : u.size ≤ 300
    · have HSz' := Lib.hid hs'
      have e2 : decide (u.size ≤ 300) = true := by simp [hs']
      rw [e2] at HSu
      clear e2 hs'
      refine (HSu.out w3 hPv).mono ?_
      rintro e w4 ⟨rfl, hP4⟩
      have hBv := hBv.ext hP4 id
      have hBu := hBu.ext hP4 id
      have hPv := hPv.pure hP4
      clear hRu hP4
      go_wp2_with fail
      have hBv := hBv.drew
      have hBu := hBu.drew
      have hPv := hPv.drew
      refine region_start (fun _ => False) (by kernel_rfl) ?_
      try simp only [Act.put, List.setIfInBounds_toArray, List.set_cons_zero, List.set_cons_succ]
      refine region_take 0 14 (v := ?vaa0) rfl rfl (by kernel_rfl) (by kernel_rfl) (by kernel_rfl) (fun _ _ _ h => h) (by rfl) (fun w' hS => ?haa0) ?raa0
      case haa0 => (refine exec_load (x := .tmp 2) ?_ ?_ (hBv.ext hS id) HC.out <;> rfl)
      try simp only [Act.put, List.setIfInBounds_toArray, List.set_cons_zero, List.set_cons_succ]
      refine region_take 1 15 (v := ?vaa1) rfl rfl (by kernel_rfl) (by kernel_rfl) (by kernel_rfl) (fun _ _ _ h => h) (by rfl) (fun w' hS => ?haa1) ?raa1
      case haa1 => (refine exec_load (x := .tmp 3) ?_ ?_ (hBu.ext hS id) HU.out <;> rfl)
      try simp only [Act.put, List.setIfInBounds_toArray, List.set_cons_zero, List.set_cons_succ]
      refine region_take 3 17 (v := ?vaa3) rfl rfl (by kernel_rfl) (by kernel_rfl) (by kernel_rfl) (fun _ _ _ h => h) (by rfl) (fun w' hS => ?haa3) ?raa3
      case haa3 => (refine exec_load (x := .tmp 2) ?_ ?_ (hBv.ext hS id) HC.out <;> rfl)
      try simp only [Act.put, List.setIfInBounds_toArray, List.set_cons_zero, List.set_cons_succ]
      refine region_take 4 18 (v := ?vaa4) rfl rfl (by kernel_rfl) (by kernel_rfl) (by kernel_rfl) (fun _ _ _ h => h) (by rfl) (fun w' hS => ?haa4) ?raa4
      case haa4 => (refine exec_load (x := .tmp 3) ?_ ?_ (hBu.ext hS id) HU.out <;> rfl)
      try simp only [Act.put, List.setIfInBounds_toArray, List.set_cons_zero, List.set_cons_succ]
      refine wpAnyH_ready (rs := [2]) (by kernel_rfl) (by simp) (AllReadyH.cons rfl (fun K hK => ?_) AllReadyH.nil)
      go_simp
      refine (HC1.out _ hPv HSz.out HSz'.out).mono ?_
      rintro e w5 ⟨rfl, hP⟩
      have hBv := hBv.ext hP id
      have hBu := hBu.ext hP id
      have hPv := hPv.pure hP
      refine hK.out _ _ (hP) (fun hHeld => ?_)
      clear hK K hHeld
      refine region_now (hP) ?_
      try simp only [Act.put, List.setIfInBounds_toArray, List.set_cons_zero, List.set_cons_succ]
      refine wpAnyH_ready (rs := [5]) (by kernel_rfl) (by simp) (AllReadyH.cons rfl (fun K hK => ?_) AllReadyH.nil)
      go_simp
      refine (HC2.out _ hPv HSz.out HSz'.out).mono ?_
      rintro e w6 ⟨rfl, hP⟩
      have hBv := hBv.ext hP id
      have hBu := hBu.ext hP id
      have hPv := hPv.pure hP
      refine hK.out _ _ (hP) (fun hHeld => ?_)
      clear hK K hHeld
      refine region_now (hP) ?_
      try simp only [Act.put, List.setIfInBounds_toArray, List.set_cons_zero, List.set_cons_succ]
      refine region_take 6 20 (v := ?vaa6) rfl rfl (by kernel_rfl) (by kernel_rfl) (by kernel_rfl) (fun _ _ _ h => h) (by rfl) (fun w' hS => ?haa6) ?raa6
      case haa6 => go_simp; with_reducible rfl
      try simp only [Act.put, List.setIfInBounds_toArray, List.set_cons_zero, List.set_cons_succ]
      refine region_take 7 21 (v := ?vaa7) rfl rfl (by kernel_rfl) (by kernel_rfl) (by kernel_rfl) (fun _ _ _ h => h) (by rfl) (fun w' hS => ?haa7) ?raa7
      case haa7 => go_simp; with_reducible rfl
      try simp only [Act.put, List.setIfInBounds_toArray, List.set_cons_zero, List.set_cons_succ]
      refine region_take 8 22 (v := ?vaa8) rfl rfl (by kernel_rfl) (by kernel_rfl) (by kernel_rfl) (fun _ _ _ h => h) (by rfl) (fun w' hS => ?haa8) ?raa8
      case haa8 => (refine exec_load (x := .tmp 2) ?_ ?_ (hBv.ext hS id) HC.out <;> rfl)
      try simp only [Act.put, List.setIfInBounds_toArray, List.set_cons_zero, List.set_cons_succ]
      refine region_take 9 23 (v := ?vaa9) rfl rfl (by kernel_rfl) (by kernel_rfl) (by kernel_rfl) (fun _ _ _ h => h) (by rfl) (fun w' hS => ?haa9) ?raa9
      case haa9 => (refine exec_load (x := .tmp 3) ?_ ?_ (hBu.ext hS id) HU.out <;> rfl)
      try simp only [Act.put, List.setIfInBounds_toArray, List.set_cons_zero, List.set_cons_succ]
      refine region_take 11 25 (v := ?vaa11) rfl rfl (by kernel_rfl) (by kernel_rfl) (by kernel_rfl) (fun _ _ _ h => h) (by rfl) (fun w' hS => ?haa11) ?raa11
      case haa11 => (refine exec_load (x := .tmp 2) ?_ ?_ (hBv.ext hS id) HC.out <;> rfl)
      try simp only [Act.put, List.setIfInBounds_toArray, List.set_cons_zero, List.set_cons_succ]
      refine region_take 12 26 (v := ?vaa12) rfl rfl (by kernel_rfl) (by kernel_rfl) (by kernel_rfl) (fun _ _ _ h => h) (by rfl) (fun w' hS => ?haa12) ?raa12
      case haa12 => (refine exec_load (x := .tmp 3) ?_ ?_ (hBu.ext hS id) HU.out <;> rfl)
      try simp only [Act.put, List.setIfInBounds_toArray, List.set_cons_zero, List.set_cons_succ]
      refine wpAnyH_ready (rs := [10]) (by kernel_rfl) (by simp) (AllReadyH.cons rfl (fun K hK => ?_) AllReadyH.nil)
      go_simp
      refine (HC3.out _ hPv HSz.out HSz'.out).mono ?_
      rintro e w7 ⟨rfl, hP⟩
      have hBv := hBv.ext hP id
      have hBu := hBu.ext hP id
      have hPv := hPv.pure hP
      refine hK.out _ _ (hP) (fun hHeld => ?_)
      clear hK K hHeld
      refine region_now (hP) ?_
      try simp only [Act.put, List.setIfInBounds_toArray, List.set_cons_zero, List.set_cons_succ]
      refine wpAnyH_ready (rs := [13]) (by kernel_rfl) (by simp) (AllReadyH.cons rfl (fun K hK => ?_) AllReadyH.nil)
      go_simp
      refine (HC4.out _ hPv HSz.out HSz'.out).mono ?_
      rintro e w8 ⟨rfl, hP⟩
      have hPv := hPv.pure hP
      refine hK.out _ _ (hP) (fun hHeld => ?_)
      clear hK K hHeld
      refine region_now (hP) ?_
      try simp only [Act.put, List.setIfInBounds_toArray, List.set_cons_zero, List.set_cons_succ]
      refine region_take 14 28 (v := ?vaa14) rfl rfl (by kernel_rfl) (by kernel_rfl) (by kernel_rfl) (fun _ _ _ h => h) (by rfl) (fun w' hS => ?haa14) ?raa14
      case haa14 => go_simp; with_reducible rfl
      try simp only [Act.put, List.setIfInBounds_toArray, List.set_cons_zero, List.set_cons_succ]
      refine region_take 15 29 (v := ?vaa15) rfl rfl (by kernel_rfl) (by kernel_rfl) (by kernel_rfl) (fun _ _ _ h => h) (by rfl) (fun w' hS => ?haa15) ?raa15
      case haa15 => go_simp; with_reducible rfl
      try simp only [Act.put, List.setIfInBounds_toArray, List.set_cons_zero, List.set_cons_succ]
      refine region_take 16 30 (v := ?vaa16) rfl rfl (by kernel_rfl) (by kernel_rfl) (by kernel_rfl) (fun _ _ _ h => h) (by rfl) (fun w' hS => ?haa16) ?raa16
      case haa16 => go_simp; with_reducible rfl
      try simp only [Act.put, List.setIfInBounds_toArray, List.set_cons_zero, List.set_cons_succ]
      refine wpAnyH_ready (rs := [17]) (by kernel_rfl) (by simp) (AllReadyH.cons rfl (fun K hK => ?_) AllReadyH.nil)
      go_simp
      refine (works_any _).mono ?_
      rintro e w9 ⟨rfl, hP⟩
      have hPv := hPv.pure hP
      refine hK.out _ _ (hP) (fun hHeld => ?_)
      clear hK K hHeld
      refine region_now (hP) ?_
      try simp only [Act.put, List.setIfInBounds_toArray, List.set_cons_zero, List.set_cons_succ]
      refine region_take 18 32 (v := ?vaa18) rfl rfl (by kernel_rfl) (by kernel_rfl) (by kernel_rfl) (fun _ _ _ h => h) (by rfl) (fun w' hS => ?haa18) ?raa18
      case haa18 => go_simp; with_reducible rfl
      try simp only [Act.put, List.setIfInBounds_toArray, List.set_cons_zero, List.set_cons_succ]
      refine region_take 19 4 (v := ?vaa19) rfl rfl (by kernel_rfl) (by kernel_rfl) (by kernel_rfl) (fun _ _ _ h => h) (by rfl) (fun w' hS => ?haa19) ?raa19
      case haa19 => go_simp; with_reducible rfl
      try simp only [Act.put, List.setIfInBounds_toArray, List.set_cons_zero, List.set_cons_succ]
      refine wpAnyH_done (by kernel_rfl) ?_ _
      go_wp2_with fail
      go_ret
      exact ⟨rfl, hPv.below⟩
    · have e2 : decide (u.size ≤ 300) = false := by simp [hs']
      rw [e2] at HSu
      refine (HSu.out w3 hPv).mono ?_
      rintro e w4 ⟨rfl, hP4⟩
      have hPv := hPv.pure hP4
      go_wp2_with fail
      refine (works_any w4).mono ?_
      rintro e w5 ⟨rfl, hP5⟩
      go_wp2_with fail
      go_ret
      exact ⟨rfl, (hPv.pure hP5).below⟩
  · have e1 : decide (v.size ≤ 300) = false := by simp [hs]
    rw [e1] at HSv
    go_enter Try.func9, Try.ntmps9
    go_wp2_with (with_reducible refine at_load 24 (.tmp 2) ?_; refine wpList_load_g rfl (.tmp 2) rfl w.heap.size 0 rfl cs hRv HC.out ?_)
    rw [HW.out, ← HTb.out]
    refine (HSv.out w2 hPv).mono ?_
    rintro e w3 ⟨rfl, hP3⟩
    have hPv := hPv.pure hP3
    go_wp2_with fail
    refine (works_any w3).mono ?_
    rintro e w5 ⟨rfl, hP5⟩
    go_wp2_with fail
    go_ret
    exact ⟨rfl, (hPv.pure hP5).below⟩

set_option maxRecDepth 100000 in
theorem lifted (os : Os) (started : os.Started) (H : Type) (enc : TypeId × Value → H) :
    ReturnsInHanded {} Try.checked os 9 .any (Rows.valueComparesSpec.pre6 enc Try.prog Try.f9 Rows.valueComparesRow.domain false) (Rows.valueComparesSpec.post enc Try.prog Try.f9 false true false false) := by
  refine returnsInHanded_of_change (C := Try.checked) own started (by kernel_rfl) Try.func9
    (ChangeSpec.witness6 (enc := enc) (C := Try.checked) false ⟨#[], #[.agg #[.int .i64 0, .int .i64 0, .string ⟨#[]⟩, .slice none 0 0], .agg #[.int .i64 0, .int .i64 0, .string ⟨#[]⟩, .slice none 0 0]], []⟩ 8 (by kernel_rfl) (by kernel_rfl) (by kernel_rfl) (by kernel_rfl)) ?_
  intro W base args ds gs before hval0 hW hcnd _
  have hval : ∀ (j : Nat) t v, Try.f9.params[j]? = some t → args[j]? = some v → Value.okWide Try.prog W .any base t v := hval0
  have hW' := hW
  obtain ⟨p, q, hA0, hV, rfl, hfz, hnd⟩ := hW
  have hA : DataW.TrodAll enc Try.prog W 0 (fun _ => true) true Try.f9.params.toList args.toList ds p := hA0
  rw [Try.params9] at hA hval
  obtain ⟨v0, vs0, d0, ds0, p0, q0, hargs, rfl, rfl, h0, r0⟩ := trodAll_cons hA
  obtain ⟨v1, vs1, d1, ds1, p1, q1, rfl, rfl, rfl, h1, r1⟩ := trodAll_cons r0
  obtain ⟨rfl, rfl, rfl⟩ := trodAll_nil r1
  obtain rfl : args = #[v0, v1] := by cases args; simp_all
  obtain ⟨rfl, rfl⟩ := trodVars_none hV
  have k0 := h0
  have lt0 : ∀ x ∈ p0, x.block < W.heap.size := by obtain ⟨m, hm⟩ := k0; exact DataW.trod_lt m _ _ _ hm
  have k1 := h1
  have lt1 : ∀ x ∈ p1, x.block < W.heap.size := by obtain ⟨m, hm⟩ := k1; exact DataW.trod_lt m _ _ _ hm
  obtain ⟨F0, u0, cs0, rfl, hL0⟩ := open_val (hval 0 24 v0 rfl rfl) h0
  obtain ⟨F1, u1, cs1, rfl, hL1⟩ := open_val (hval 1 24 v1 rfl rfl) h1
  clear hA0 hval0
  refine (walk F0 u0 cs0 F1 u1 cs1 W hL0 hL1).mono fun e W' ⟨he, bel⟩ => ?_
  subst he
  exact ⟨_, rfl, _, _, _, [], _, [], hW', trodAll_mk1 (shut_bool Try.underlying4 _), (trodAll_cons_mk (Below.trod laidOut (by kernel_rfl) (of_decide_eq_true (by kernel_rfl)) k0 bel lt0) (trodAll_cons_mk (Below.trod laidOut (by kernel_rfl) (of_decide_eq_true (by kernel_rfl)) k1 bel lt1) trodAll_mk0)), rfl, bel.frame _, fun h => by cases h⟩

theorem proved : Rows.ValueComparesSaid :=
  OpenClaim.holds_of_wide 9 Try.f9 rfl rfl rfl rfl rfl rfl rfl ⟨rfl, rfl, rfl, rfl, rfl⟩ rfl rfl rfl rfl rfl (by kernel_rfl) Try.func9 (by kernel_rfl)
    (of_decide_eq_true (by kernel_rfl)) (by unfold Func.isWrapper; first | (rw [if_pos (by decide +kernel)]; kernel_rfl) | (rw [if_neg (by decide +kernel)]; exact ⟨rfl, rfl⟩))
    (fun os started H enc _ => lifted os started H enc)
#print axioms proved
end Go.Proofs.Ytiakphjkcpbccaa.valueCompares
