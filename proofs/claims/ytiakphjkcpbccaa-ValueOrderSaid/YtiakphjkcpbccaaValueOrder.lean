/-
  ValueOrder: of any three values the order is total. No condition.
-/
import Derived.Test.YtiakphjkcpbccaaLoadG
import Derived.Test.YtiakphjkcpbccaaOrder
namespace Go.Proofs.Ytiakphjkcpbccaa.valueOrder
open Go.ChangeShapes Go.WideShapes Go.ChangeAt Go.RowKit Go.Proofs.Ytiakphjkcpbccaa
set_option linter.unusedVariables false

set_option maxHeartbeats 8000000 in
set_option maxRecDepth 100000 in
theorem walk (d : Nat) (a : V) (as' : List Value) (d' : Nat) (b : V) (bs' : List Value) (d'' : Nat) (c : V) (cs' : List Value) (w : World) (ha : Lies w d a as') (hb : Lies w d' b bs') (hc : Lies w d'' c cs') :
    Calls Try.prog 8 #[.agg as'.toArray, .agg bs'.toArray, .agg cs'.toArray] w fun e w' => e = .returned (.bool true) ∧ Below w.heap.size w w' := by
  have HA := Lib.hid ha.len
  have HB := Lib.hid hb.len
  have HC := Lib.hid hc.len
  have HSa := Lib.hid (fun W (hP : Pure w W) => small_any (ha.pure hP))
  have HSb := Lib.hid (fun W (hP : Pure w W) => small_any (hb.pure hP))
  have HSc := Lib.hid (fun W (hP : Pure w W) => small_any (hc.pure hP))
  have Hab := Lib.hid (fun W (hP : Pure w W) (hs : a.size ≤ 300) (hs' : b.size ≤ 300) => valcmp_any d a as' d' b bs' W (ha.pure hP) (hb.pure hP) (by omega) (by omega))
  have Hbc := Lib.hid (fun W (hP : Pure w W) (hs : b.size ≤ 300) (hs' : c.size ≤ 300) => valcmp_any d' b bs' d'' c cs' W (hb.pure hP) (hc.pure hP) (by omega) (by omega))
  have Hac := Lib.hid (fun W (hP : Pure w W) (hs : a.size ≤ 300) (hs' : c.size ≤ 300) => valcmp_any d a as' d'' c cs' W (ha.pure hP) (hc.pure hP) (by omega) (by omega))
  have Hba := Lib.hid (fun W (hP : Pure w W) (hs : a.size ≤ 300) (hs' : b.size ≤ 300) => by have := valcmp_any d' b bs' d a as' W (hb.pure hP) (ha.pure hP) (by omega) (by omega); rw [cmp_anti a b] at this; exact this)
  have Haa := Lib.hid (fun W (hP : Pure w W) (hs : a.size ≤ 300) => by have := valcmp_any d a as' d a as' W (ha.pure hP) (ha.pure hP) (by omega) (by omega); rw [cmp_self a] at this; exact this)
  obtain ⟨w1, hw1⟩ : ∃ z, z = w.alloc (.cells as'.toArray 24) := ⟨_, rfl⟩
  obtain ⟨tb, htb⟩ : ∃ z, z = w.heap.size := ⟨_, rfl⟩
  have hs1 : w1.heap.size = tb + 1 := by rw [hw1, World.size_alloc, htb]
  have hB1 : BlockIs w1 tb as' 24 := by rw [htb, hw1]; exact BlockIs.new w _ _
  obtain ⟨w2, hw2⟩ : ∃ z, z = w1.alloc (.cells bs'.toArray 24) := ⟨_, rfl⟩
  have hs2 : w2.heap.size = tb + 2 := by rw [hw2, World.size_alloc, hs1]
  have hB2 : BlockIs w2 (tb + 1) bs' 24 := by rw [← hs1, hw2]; exact BlockIs.new w1 _ _
  obtain ⟨w3, hw3⟩ : ∃ z, z = w2.alloc (.cells cs'.toArray 24) := ⟨_, rfl⟩
  have hBa : BlockIs w3 tb as' 24 := hw3 ▸ BlockIs.alloc (hw2 ▸ hB1.alloc _) _
  have hBb : BlockIs w3 (tb + 1) bs' 24 := hw3 ▸ hB2.alloc _
  have hBc : BlockIs w3 (tb + 2) cs' 24 := by rw [← hs2, hw3]; exact BlockIs.new w2 _ _
  have hPv : Pure w w3 := ((show Pure w w1 from hw1 ▸ ext_alloc w _).pure (hw2 ▸ ext_alloc w1 _)).pure (hw3 ▸ ext_alloc w2 _)
  have HW : Hid (((w.alloc (.cells as'.toArray 24)).alloc (.cells bs'.toArray 24)).alloc (.cells cs'.toArray 24) = w3) := Lib.hid (by rw [hw3, hw2, hw1])
  have HTb := Lib.hid htb
  have hto := total a b c
  have hux := un_cmp a b
  have huy := un_cmp b c
  have huz := un_cmp a c
  obtain ⟨x, hx⟩ : ∃ z, z = a.cmp b := ⟨_, rfl⟩
  obtain ⟨y, hy⟩ : ∃ z, z = b.cmp c := ⟨_, rfl⟩
  obtain ⟨z, hz⟩ : ∃ z, z = a.cmp c := ⟨_, rfl⟩
  rw [← hx] at Hab Hba
  rw [← hy] at Hbc
  rw [← hz] at Hac
  rw [← hx, ← hy, ← hz] at hto
  rw [← hx] at hux
  rw [← hy] at huy
  rw [← hz] at huz
  have HTo := Lib.hid (And.intro hto (And.intro hux (And.intro huy huz)))
  have hRa : (((w.alloc (.cells as'.toArray 24)).alloc (.cells bs'.toArray 24)).alloc (.cells cs'.toArray 24)).rangeAt w.heap.size 0 as' := by rw [HW.out, ← HTb.out]; exact hBa.range
  clear hw1 hw2 hw3 ha hb hc htb hs1 hs2 hB1 hB2 hx hy hz hto hux huy huz
  go_enter Try.func8, Try.ntmps8
  go_wp2_with (with_reducible refine at_load 24 (.tmp 3) ?_; refine wpList_load_g rfl (.tmp 3) rfl w.heap.size 0 rfl as' hRa HA.out ?_)
  rw [HW.out, ← HTb.out]
  by_cases hs : a.size ≤ 300
  · have HZa := Lib.hid hs
    have e1 : decide (a.size ≤ 300) = true := by simp [hs]
    rw [e1] at HSa
    clear e1 hs
    refine (HSa.out w3 hPv).mono ?_
    rintro e w4 ⟨rfl, hP4⟩
    have hBa := hBa.ext hP4 id
    have hBb := hBb.ext hP4 id
    have hBc := hBc.ext hP4 id
    have hPv := hPv.pure hP4
    have hRb := hBb.range
    clear hP4 hRa
    go_wp2_with (with_reducible refine at_load 24 (.tmp 4) ?_; refine wpList_load_g rfl (.tmp 4) rfl (tb + 1) 0 rfl bs' hRb HB.out ?_)
    by_cases hs : b.size ≤ 300
    · have HZb := Lib.hid hs
      have e1 : decide (b.size ≤ 300) = true := by simp [hs]
      rw [e1] at HSb
      clear e1 hs
      refine (HSb.out w4 hPv).mono ?_
      rintro e w5 ⟨rfl, hP5⟩
      have hBa := hBa.ext hP5 id
      have hBb := hBb.ext hP5 id
      have hBc := hBc.ext hP5 id
      have hPv := hPv.pure hP5
      have hRc := hBc.range
      clear hP5 hRb
      go_wp2_with (with_reducible refine at_load 24 (.tmp 5) ?_; refine wpList_load_g rfl (.tmp 5) rfl (tb + 1 + 1) 0 rfl cs' hRc HC.out ?_)
      by_cases hs : c.size ≤ 300
      · have HZc := Lib.hid hs
        have e1 : decide (c.size ≤ 300) = true := by simp [hs]
        rw [e1] at HSc
        clear e1 hs
        refine (HSc.out w5 hPv).mono ?_
        rintro e w6 ⟨rfl, hP6⟩
        have hBa := hBa.ext hP6 id
        have hBb := hBb.ext hP6 id
        have hBc := hBc.ext hP6 id
        have hPv := hPv.pure hP6
        clear hP6 hRc
        go_wp2_with fail
        have hBa := hBa.drew
        have hBb := hBb.drew
        have hBc := hBc.drew
        have hPv := hPv.drew
        refine region_start (fun _ => False) (by kernel_rfl) ?_
        try simp only [Act.put, List.setIfInBounds_toArray, List.set_cons_zero, List.set_cons_succ]
        refine region_take 0 24 (v := ?vaa0) rfl rfl (by kernel_rfl) (by kernel_rfl) (by kernel_rfl) (fun _ _ _ h => h) (by rfl) (fun w' hS => ?haa0) ?raa0
        case haa0 => (refine exec_load (x := .tmp 3) ?_ ?_ (hBa.ext hS id) HA.out <;> rfl)
        try simp only [Act.put, List.setIfInBounds_toArray, List.set_cons_zero, List.set_cons_succ]
        refine region_take 1 25 (v := ?vaa1) rfl rfl (by kernel_rfl) (by kernel_rfl) (by kernel_rfl) (fun _ _ _ h => h) (by rfl) (fun w' hS => ?haa1) ?raa1
        case haa1 => (refine exec_load (x := .tmp 4) ?_ ?_ (hBb.ext hS id) HB.out <;> rfl)
        try simp only [Act.put, List.setIfInBounds_toArray, List.set_cons_zero, List.set_cons_succ]
        refine region_take 3 27 (v := ?vaa3) rfl rfl (by kernel_rfl) (by kernel_rfl) (by kernel_rfl) (fun _ _ _ h => h) (by rfl) (fun w' hS => ?haa3) ?raa3
        case haa3 => (refine exec_load (x := .tmp 4) ?_ ?_ (hBb.ext hS id) HB.out <;> rfl)
        try simp only [Act.put, List.setIfInBounds_toArray, List.set_cons_zero, List.set_cons_succ]
        refine region_take 4 28 (v := ?vaa4) rfl rfl (by kernel_rfl) (by kernel_rfl) (by kernel_rfl) (fun _ _ _ h => h) (by rfl) (fun w' hS => ?haa4) ?raa4
        case haa4 => (refine exec_load (x := .tmp 5) ?_ ?_ (hBc.ext hS id) HC.out <;> rfl)
        try simp only [Act.put, List.setIfInBounds_toArray, List.set_cons_zero, List.set_cons_succ]
        refine region_take 6 30 (v := ?vaa6) rfl rfl (by kernel_rfl) (by kernel_rfl) (by kernel_rfl) (fun _ _ _ h => h) (by rfl) (fun w' hS => ?haa6) ?raa6
        case haa6 => (refine exec_load (x := .tmp 3) ?_ ?_ (hBa.ext hS id) HA.out <;> rfl)
        try simp only [Act.put, List.setIfInBounds_toArray, List.set_cons_zero, List.set_cons_succ]
        refine region_take 7 31 (v := ?vaa7) rfl rfl (by kernel_rfl) (by kernel_rfl) (by kernel_rfl) (fun _ _ _ h => h) (by rfl) (fun w' hS => ?haa7) ?raa7
        case haa7 => (refine exec_load (x := .tmp 5) ?_ ?_ (hBc.ext hS id) HC.out <;> rfl)
        try simp only [Act.put, List.setIfInBounds_toArray, List.set_cons_zero, List.set_cons_succ]
        refine wpAnyH_ready (rs := [2]) (by kernel_rfl) (by simp) (AllReadyH.cons rfl (fun K hK => ?_) AllReadyH.nil)
        go_simp
        refine (Hab.out _ hPv HZa.out HZb.out).mono ?_
        rintro e w7 ⟨rfl, hP⟩
        have hBa := hBa.ext hP id
        have hBb := hBb.ext hP id
        have hBc := hBc.ext hP id
        have hPv := hPv.pure hP
        refine hK.out _ _ (hP) (fun hHeld => ?_)
        clear hK K hHeld
        refine region_now (hP) ?_
        try simp only [Act.put, List.setIfInBounds_toArray, List.set_cons_zero, List.set_cons_succ]
        refine wpAnyH_ready (rs := [5]) (by kernel_rfl) (by simp) (AllReadyH.cons rfl (fun K hK => ?_) AllReadyH.nil)
        go_simp
        refine (Hbc.out _ hPv HZb.out HZc.out).mono ?_
        rintro e w8 ⟨rfl, hP⟩
        have hBa := hBa.ext hP id
        have hBb := hBb.ext hP id
        have hBc := hBc.ext hP id
        have hPv := hPv.pure hP
        refine hK.out _ _ (hP) (fun hHeld => ?_)
        clear hK K hHeld
        refine region_now (hP) ?_
        try simp only [Act.put, List.setIfInBounds_toArray, List.set_cons_zero, List.set_cons_succ]
        refine wpAnyH_ready (rs := [8]) (by kernel_rfl) (by simp) (AllReadyH.cons rfl (fun K hK => ?_) AllReadyH.nil)
        go_simp
        refine (Hac.out _ hPv HZa.out HZc.out).mono ?_
        rintro e w9 ⟨rfl, hP⟩
        have hBa := hBa.ext hP id
        have hBb := hBb.ext hP id
        have hBc := hBc.ext hP id
        have hPv := hPv.pure hP
        refine hK.out _ _ (hP) (fun hHeld => ?_)
        clear hK K hHeld
        refine region_now (hP) ?_
        try simp only [Act.put, List.setIfInBounds_toArray, List.set_cons_zero, List.set_cons_succ]
        refine region_take 9 7 (v := ?vaa9) rfl rfl (by kernel_rfl) (by kernel_rfl) (by kernel_rfl) (fun _ _ _ h => h) (by rfl) (fun w' hS => ?haa9) ?raa9
        case haa9 => go_simp; with_reducible rfl
        try simp only [Act.put, List.setIfInBounds_toArray, List.set_cons_zero, List.set_cons_succ]
        refine region_take 10 8 (v := ?vaa10) rfl rfl (by kernel_rfl) (by kernel_rfl) (by kernel_rfl) (fun _ _ _ h => h) (by rfl) (fun w' hS => ?haa10) ?raa10
        case haa10 => go_simp; with_reducible rfl
        try simp only [Act.put, List.setIfInBounds_toArray, List.set_cons_zero, List.set_cons_succ]
        refine region_take 11 9 (v := ?vaa11) rfl rfl (by kernel_rfl) (by kernel_rfl) (by kernel_rfl) (fun _ _ _ h => h) (by rfl) (fun w' hS => ?haa11) ?raa11
        case haa11 => go_simp; with_reducible rfl
        try simp only [Act.put, List.setIfInBounds_toArray, List.set_cons_zero, List.set_cons_succ]
        refine wpAnyH_done (by kernel_rfl) ?_ _
        have hRa := hBa.range
        have hRb := hBb.range
        go_wp2_with (first
          | (with_reducible refine at_load 24 (.tmp 3) ?_; refine wpList_load_g rfl (.tmp 3) rfl tb 0 rfl as' hRa HA.out ?_)
          | (with_reducible refine at_load 24 (.tmp 4) ?_; refine wpList_load_g rfl (.tmp 4) rfl (tb + 1) 0 rfl bs' hRb HB.out ?_))
        refine (Hba.out _ hPv HZa.out HZb.out).mono ?_
        rintro e w10 ⟨rfl, hP10⟩
        have hBa := hBa.ext hP10 id
        have hPv := hPv.pure hP10
        have hRa := hBa.range
        clear hP10 hRb
        obtain ⟨⟨ht1, ht2⟩, hux, huy, huz⟩ := HTo.out
        clear HTo Hab Hbc Hac Hba
        rcases hux with rfl | rfl | rfl <;> rcases huy with rfl | rfl | rfl <;> rcases huz with rfl | rfl | rfl
        all_goals first | (exfalso; omega) | skip
        all_goals
          clear ht1 ht2
          go_wp2_with (with_reducible refine at_load 24 (.tmp 3) ?_; refine wpList_load_g rfl (.tmp 3) rfl tb 0 rfl as' hRa HA.out ?_)
          refine (Haa.out _ hPv HZa.out).mono ?_
          rintro e w11 ⟨rfl, hP11⟩
          have hPv := hPv.pure hP11
          clear hP11
          go_wp2_with fail
          refine (works_any _).mono ?_
          rintro e w12 ⟨rfl, hP12⟩
          go_wp2_with fail
          go_ret
          exact ⟨rfl, (hPv.pure hP12).below⟩
      · have e1 : decide (c.size ≤ 300) = false := by simp [hs]
        rw [e1] at HSc
        refine (HSc.out w5 hPv).mono ?_
        rintro e w6 ⟨rfl, hP6⟩
        have hPv := hPv.pure hP6
        go_wp2_with fail
        refine (works_any w6).mono ?_
        rintro e w7 ⟨rfl, hP7⟩
        go_wp2_with fail
        go_ret
        exact ⟨rfl, (hPv.pure hP7).below⟩
    · have e1 : decide (b.size ≤ 300) = false := by simp [hs]
      rw [e1] at HSb
      refine (HSb.out w4 hPv).mono ?_
      rintro e w5 ⟨rfl, hP5⟩
      have hPv := hPv.pure hP5
      go_wp2_with fail
      refine (works_any w5).mono ?_
      rintro e w6 ⟨rfl, hP6⟩
      go_wp2_with fail
      go_ret
      exact ⟨rfl, (hPv.pure hP6).below⟩
  · have e1 : decide (a.size ≤ 300) = false := by simp [hs]
    rw [e1] at HSa
    refine (HSa.out w3 hPv).mono ?_
    rintro e w4 ⟨rfl, hP4⟩
    have hPv := hPv.pure hP4
    go_wp2_with fail
    refine (works_any w4).mono ?_
    rintro e w5 ⟨rfl, hP5⟩
    go_wp2_with fail
    go_ret
    exact ⟨rfl, (hPv.pure hP5).below⟩

set_option maxRecDepth 100000 in
theorem lifted (os : Os) (started : os.Started) (H : Type) (enc : TypeId × Value → H) :
    ReturnsInHanded {} Try.checked os 8 .any (Rows.valueOrderSpec.pre6 enc Try.prog Try.f8 Rows.valueOrderRow.domain false) (Rows.valueOrderSpec.post enc Try.prog Try.f8 false true false false) := by
  refine returnsInHanded_of_change (C := Try.checked) own started (by kernel_rfl) Try.func8
    (ChangeSpec.witness6 (enc := enc) (C := Try.checked) false ⟨#[], #[.agg #[.int .i64 0, .int .i64 0, .string ⟨#[]⟩, .slice none 0 0], .agg #[.int .i64 0, .int .i64 0, .string ⟨#[]⟩, .slice none 0 0], .agg #[.int .i64 0, .int .i64 0, .string ⟨#[]⟩, .slice none 0 0]], []⟩ 8 (by kernel_rfl) (by kernel_rfl) (by kernel_rfl) (by kernel_rfl)) ?_
  intro W base args ds gs before hval0 hW hcnd _
  have hval : ∀ (j : Nat) t v, Try.f8.params[j]? = some t → args[j]? = some v → Value.okWide Try.prog W .any base t v := hval0
  have hW' := hW
  obtain ⟨p, q, hA0, hV, rfl, hfz, hnd⟩ := hW
  have hA : DataW.TrodAll enc Try.prog W 0 (fun _ => true) true Try.f8.params.toList args.toList ds p := hA0
  rw [Try.params8] at hA hval
  obtain ⟨v0, vs0, d0, ds0, p0, q0, hargs, rfl, rfl, h0, r0⟩ := trodAll_cons hA
  obtain ⟨v1, vs1, d1, ds1, p1, q1, rfl, rfl, rfl, h1, r1⟩ := trodAll_cons r0
  obtain ⟨v2, vs2, d2, ds2, p2, q2, rfl, rfl, rfl, h2, r2⟩ := trodAll_cons r1
  obtain ⟨rfl, rfl, rfl⟩ := trodAll_nil r2
  obtain rfl : args = #[v0, v1, v2] := by cases args; simp_all
  obtain ⟨rfl, rfl⟩ := trodVars_none hV
  have k0 := h0
  have lt0 : ∀ x ∈ p0, x.block < W.heap.size := by obtain ⟨m, hm⟩ := k0; exact DataW.trod_lt m _ _ _ hm
  have k1 := h1
  have lt1 : ∀ x ∈ p1, x.block < W.heap.size := by obtain ⟨m, hm⟩ := k1; exact DataW.trod_lt m _ _ _ hm
  have k2 := h2
  have lt2 : ∀ x ∈ p2, x.block < W.heap.size := by obtain ⟨m, hm⟩ := k2; exact DataW.trod_lt m _ _ _ hm
  obtain ⟨F0, u0, cs0, rfl, hL0⟩ := open_val (hval 0 24 v0 rfl rfl) h0
  obtain ⟨F1, u1, cs1, rfl, hL1⟩ := open_val (hval 1 24 v1 rfl rfl) h1
  obtain ⟨F2, u2, cs2, rfl, hL2⟩ := open_val (hval 2 24 v2 rfl rfl) h2
  clear hA0 hval0
  refine (walk F0 u0 cs0 F1 u1 cs1 F2 u2 cs2 W hL0 hL1 hL2).mono fun e W' ⟨he, bel⟩ => ?_
  subst he
  exact ⟨_, rfl, _, _, _, [], _, [], hW', trodAll_mk1 (shut_bool Try.underlying4 _), (trodAll_cons_mk (Below.trod laidOut (by kernel_rfl) (of_decide_eq_true (by kernel_rfl)) k0 bel lt0) (trodAll_cons_mk (Below.trod laidOut (by kernel_rfl) (of_decide_eq_true (by kernel_rfl)) k1 bel lt1) (trodAll_cons_mk (Below.trod laidOut (by kernel_rfl) (of_decide_eq_true (by kernel_rfl)) k2 bel lt2) trodAll_mk0))), rfl, bel.frame _, fun h => by cases h⟩

theorem proved : Rows.ValueOrderSaid :=
  OpenClaim.holds_of_wide 8 Try.f8 rfl rfl rfl rfl rfl rfl rfl ⟨rfl, rfl, rfl, rfl, rfl⟩ rfl rfl rfl rfl rfl (by kernel_rfl) Try.func8 (by kernel_rfl)
    (of_decide_eq_true (by kernel_rfl)) (by unfold Func.isWrapper; first | (rw [if_pos (by decide +kernel)]; kernel_rfl) | (rw [if_neg (by decide +kernel)]; exact ⟨rfl, rfl⟩))
    (fun os started H enc _ => lifted os started H enc)
#print axioms proved
end Go.Proofs.Ytiakphjkcpbccaa.valueOrder
