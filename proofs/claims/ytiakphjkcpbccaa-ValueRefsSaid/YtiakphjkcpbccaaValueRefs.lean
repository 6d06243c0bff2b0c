/-
  ValueRefs: to which objects any value refers, and what it is with its references turned, is as the document says. No condition.
-/
import Derived.Test.YtiakphjkcpbccaaLoadG
import Derived.Test.YtiakphjkcpbccaaOrder
import Derived.Test.YtiakphjkcpbccaaRefSame
import Derived.Test.YtiakphjkcpbccaaMapR
import Derived.Test.YtiakphjkcpbccaaRefsP
import Derived.Test.YtiakphjkcpbccaaRefsR
namespace Go.Proofs.Ytiakphjkcpbccaa.valueRefs
open Go.ChangeShapes Go.WideShapes Go.ChangeAt Go.RowKit Go.Proofs.Ytiakphjkcpbccaa
set_option linter.unusedVariables false

set_option maxHeartbeats 8000000 in
set_option maxRecDepth 100000 in
theorem walk (d : Nat) (v : V) (cs : List Value) (ta : Option Addr) (tc : Nat) (to : List Int) (w : World) (h : Lies w d v cs) (hwf : ∀ x ∈ v.nums, (Lit.int .i64 x).wf = true) (hto : RowOf w ta (intsV to)) (htm : to.length ≤ maxLen) :
    Calls Try.prog 7 #[.agg cs.toArray, .slice ta to.length tc] w fun e w' => e = .returned (.bool true) ∧ Below w.heap.size w w' := by
  have HC := Lib.hid h.len
  have HSv := Lib.hid (fun W (hP : Pure w W) => small_any (h.pure hP))
  have HR1 := Lib.hid (fun W (hP : Pure w W) (hs : v.size ≤ 300) => refs_any d v cs W (h.pure hP) (by omega) hwf)
  have HR2 := Lib.hid (fun W (hP : Pure w W) (hs : v.size ≤ 300) => refrefs_any d v cs W (h.pure hP) (by omega))
  have HM1 := Lib.hid (fun W (hP : Pure w W) (hs : v.size ≤ 300) (ht : to.length ≤ 300) => map_any w to ta tc hto (by omega) d v cs W h hP (by omega))
  have HM2 := Lib.hid (fun W (hP : Pure w W) (hs : v.size ≤ 300) (ht : to.length ≤ 300) => refmap_any w to ta tc hto (by omega) d v cs W h hP (by omega))
  have HZt := Lib.hid (V.turn_size to v)
  have hml := V.more_len v []
  obtain ⟨w1, hw1⟩ : ∃ z, z = w.alloc (.cells cs.toArray 24) := ⟨_, rfl⟩
  obtain ⟨tb, htb⟩ : ∃ z, z = w.heap.size := ⟨_, rfl⟩
  have hBv : BlockIs w1 tb cs 24 := by rw [htb, hw1]; exact BlockIs.new w _ _
  have hPv : Pure w w1 := hw1 ▸ ext_alloc w _
  have HW : Hid (w.alloc (.cells cs.toArray 24) = w1) := Lib.hid (by rw [hw1])
  have HTb := Lib.hid htb
  have hRv : (w.alloc (.cells cs.toArray 24)).rangeAt w.heap.size 0 cs := by rw [HW.out, ← HTb.out]; exact hBv.range
  obtain ⟨M, hM⟩ : ∃ z, z = v.more [] := ⟨_, rfl⟩
  obtain ⟨TV, hTV⟩ : ∃ z, z = v.turn to := ⟨_, rfl⟩
  rw [← hM] at HR1 HR2 hml
  rw [← hTV] at HM1 HM2 HZt
  have HMl : Hid (M.length ≤ v.size) := Lib.hid (by simpa using hml)
  obtain ⟨n, hn⟩ : ∃ z, z = to.length := ⟨_, rfl⟩
  rw [← hn] at HM1 HM2 htm ⊢
  have htm' : n ≤ 9223372036854775807 := by unfold maxLen at htm; omega
  clear hw1 h hwf hto htb hM hTV hml htm hn
  by_cases hs : v.size ≤ 300
  · have HSz := Lib.hid hs
    have e1 : decide (v.size ≤ 300) = true := by simp [hs]
    rw [e1] at HSv
    clear e1 hs
    go_enter Try.func7, Try.ntmps7
    go_wp2_with (with_reducible refine at_load 24 (.tmp 2) ?_; refine wpList_load_g rfl (.tmp 2) rfl w.heap.size 0 rfl cs hRv HC.out ?_)
    rw [HW.out, ← HTb.out]
    refine (HSv.out w1 hPv).mono ?_
    rintro e w3 ⟨rfl, hP3⟩
    have hBv := hBv.ext hP3 id
    have hPv := hPv.pure hP3
    clear hRv hP3
    by_cases hk : n ≤ 300
    · have hki : ¬ (300 : Int) < (n : Int) := by omega
      have HTl := Lib.hid hk
      clear hk
      go_wp2_with fail
      have hQ := (Ext.refl (fun _ => False) w3).drew
      have hBv := hBv.drew
      have hPv := hPv.drew
      refine region_start (fun _ => False) (by kernel_rfl) ?_
      try simp only [Act.put, List.setIfInBounds_toArray, List.set_cons_zero, List.set_cons_succ]
      refine region_take 0 14 (v := ?vaa0) rfl rfl (by kernel_rfl) (by kernel_rfl) (by kernel_rfl) (fun _ _ _ h => h) (by rfl) (fun w' hS => ?haa0) ?raa0
      case haa0 => (refine exec_load (x := .tmp 2) ?_ ?_ (hBv.ext hS id) HC.out <;> rfl)
      try simp only [Act.put, List.setIfInBounds_toArray, List.set_cons_zero, List.set_cons_succ]
      refine region_take 2 16 (v := ?vaa2) rfl rfl (by kernel_rfl) (by kernel_rfl) (by kernel_rfl) (fun _ _ _ h => h) (by rfl) (fun w' hS => ?haa2) ?raa2
      case haa2 => (refine exec_load (x := .tmp 2) ?_ ?_ (hBv.ext hS id) HC.out <;> rfl)
      try simp only [Act.put, List.setIfInBounds_toArray, List.set_cons_zero, List.set_cons_succ]
      refine wpAnyH_ready (rs := [1]) (by kernel_rfl) (by simp) (AllReadyH.cons rfl (fun K hK => ?_) AllReadyH.nil)
      go_simp
      refine (HR1.out _ hPv HSz.out).mono ?_
      rintro e w4 ⟨ra, rc, rfl, _, _, _, hRa, hP⟩
      have hBv := hBv.ext hP id
      have hPv := hPv.pure hP
      refine hK.out _ _ (hP) (fun hHeld => ?_)
      clear hK K hHeld
      refine region_now (hP) ?_
      try simp only [Act.put, List.setIfInBounds_toArray, List.set_cons_zero, List.set_cons_succ]
      refine wpAnyH_ready (rs := [3]) (by kernel_rfl) (by simp) (AllReadyH.cons rfl (fun K hK => ?_) AllReadyH.nil)
      go_simp
      refine (HR2.out _ hPv HSz.out).mono ?_
      rintro e w5 ⟨rb, rd, rfl, _, _, _, hRb, hP⟩
      have hRa := hRa.ext hP (fun _ _ => id)
      have hBv := hBv.ext hP id
      have hPv := hPv.pure hP
      refine hK.out _ _ (hP) (fun hHeld => ?_)
      clear hK K hHeld
      refine region_now (hP) ?_
      try simp only [Act.put, List.setIfInBounds_toArray, List.set_cons_zero, List.set_cons_succ]
      refine wpAnyH_ready (rs := [4]) (by kernel_rfl) (by simp) (AllReadyH.cons rfl (fun K hK => ?_) AllReadyH.nil)
      go_simp
      refine (numbers_any M ra rc rb rd w5 hRa hRb (by have h1 := HMl.out; have h2 := HSz.out; omega)).mono ?_
      rintro e w6 ⟨rfl, hP⟩
      clear hRa hRb
      have hBv := hBv.ext hP id
      have hPv := hPv.pure hP
      refine hK.out _ _ (hP) (fun hHeld => ?_)
      clear hK K hHeld
      refine region_now (hP) ?_
      try simp only [Act.put, List.setIfInBounds_toArray, List.set_cons_zero, List.set_cons_succ]
      refine region_take 5 19 (v := ?vaa5) rfl rfl (by kernel_rfl) (by kernel_rfl) (by kernel_rfl) (fun _ _ _ h => h) (by rfl) (fun w' hS => ?haa5) ?raa5
      case haa5 => go_simp; with_reducible rfl
      try simp only [Act.put, List.setIfInBounds_toArray, List.set_cons_zero, List.set_cons_succ]
      refine region_take 6 20 (v := ?vaa6) rfl rfl (by kernel_rfl) (by kernel_rfl) (by kernel_rfl) (fun _ _ _ h => h) (by rfl) (fun w' hS => ?haa6) ?raa6
      case haa6 => (refine exec_load (x := .tmp 2) ?_ ?_ (hBv.ext hS id) HC.out <;> rfl)
      try simp only [Act.put, List.setIfInBounds_toArray, List.set_cons_zero, List.set_cons_succ]
      refine region_take 7 21 (v := ?vaa7) rfl rfl (by kernel_rfl) (by kernel_rfl) (by kernel_rfl) (fun _ _ _ h => h) (by rfl) (fun w' hS => ?haa7) ?raa7
      case haa7 => go_simp; with_reducible rfl
      try simp only [Act.put, List.setIfInBounds_toArray, List.set_cons_zero, List.set_cons_succ]
      refine region_take 9 23 (v := ?vaa9) rfl rfl (by kernel_rfl) (by kernel_rfl) (by kernel_rfl) (fun _ _ _ h => h) (by rfl) (fun w' hS => ?haa9) ?raa9
      case haa9 => (refine exec_load (x := .tmp 2) ?_ ?_ (hBv.ext hS id) HC.out <;> rfl)
      try simp only [Act.put, List.setIfInBounds_toArray, List.set_cons_zero, List.set_cons_succ]
      refine region_take 10 24 (v := ?vaa10) rfl rfl (by kernel_rfl) (by kernel_rfl) (by kernel_rfl) (fun _ _ _ h => h) (by rfl) (fun w' hS => ?haa10) ?raa10
      case haa10 => go_simp; with_reducible rfl
      try simp only [Act.put, List.setIfInBounds_toArray, List.set_cons_zero, List.set_cons_succ]
      refine wpAnyH_ready (rs := [8]) (by kernel_rfl) (by simp) (AllReadyH.cons rfl (fun K hK => ?_) AllReadyH.nil)
      go_simp
      refine (HM1.out _ hPv HSz.out HTl.out).mono ?_
      rintro e w7 ⟨ca, rfl, hLa, hP⟩
      have hBv := hBv.ext hP id
      have hPv := hPv.pure hP
      refine hK.out _ _ (hP) (fun hHeld => ?_)
      clear hK K hHeld
      refine region_now (hP) ?_
      try simp only [Act.put, List.setIfInBounds_toArray, List.set_cons_zero, List.set_cons_succ]
      refine wpAnyH_ready (rs := [11]) (by kernel_rfl) (by simp) (AllReadyH.cons rfl (fun K hK => ?_) AllReadyH.nil)
      go_simp
      refine (HM2.out _ hPv HSz.out HTl.out).mono ?_
      rintro e w8 ⟨cb, rfl, hLb, hP⟩
      have hLa := hLa.lies.pure hP
      have hLb := hLb.lies
      have hBv := hBv.ext hP id
      have hPv := hPv.pure hP
      refine hK.out _ _ (hP) (fun hHeld => ?_)
      clear hK K hHeld
      refine region_now (hP) ?_
      try simp only [Act.put, List.setIfInBounds_toArray, List.set_cons_zero, List.set_cons_succ]
      refine wpAnyH_ready (rs := [12]) (by kernel_rfl) (by simp) (AllReadyH.cons rfl (fun K hK => ?_) AllReadyH.nil)
      go_simp
      refine (show Calls Try.prog 17 #[.agg ca.toArray, .agg cb.toArray] w8 (BoolTo true w8) by have := refsame_any _ TV ca _ TV cb w8 hLa hLb (by have := HZt.out; have := HSz.out; omega) (by have := HZt.out; have := HSz.out; omega); rw [cmp_self] at this; exact this).mono ?_
      rintro e w9 ⟨rfl, hP⟩
      clear hLa hLb
      have hBv := hBv.ext hP id
      have hPv := hPv.pure hP
      refine hK.out _ _ (hP) (fun hHeld => ?_)
      clear hK K hHeld
      refine region_now (hP) ?_
      try simp only [Act.put, List.setIfInBounds_toArray, List.set_cons_zero, List.set_cons_succ]
      refine region_take 13 27 (v := ?vaa13) rfl rfl (by kernel_rfl) (by kernel_rfl) (by kernel_rfl) (fun _ _ _ h => h) (by rfl) (fun w' hS => ?haa13) ?raa13
      case haa13 => go_simp; with_reducible rfl
      try simp only [Act.put, List.setIfInBounds_toArray, List.set_cons_zero, List.set_cons_succ]
      refine region_take 14 28 (v := ?vaa14) rfl rfl (by kernel_rfl) (by kernel_rfl) (by kernel_rfl) (fun _ _ _ h => h) (by rfl) (fun w' hS => ?haa14) ?raa14
      case haa14 => go_simp; with_reducible rfl
      try simp only [Act.put, List.setIfInBounds_toArray, List.set_cons_zero, List.set_cons_succ]
      refine wpAnyH_ready (rs := [15]) (by kernel_rfl) (by simp) (AllReadyH.cons rfl (fun K hK => ?_) AllReadyH.nil)
      go_simp
      refine (works_any _).mono ?_
      rintro e w10 ⟨rfl, hP⟩
      have hPv := hPv.pure hP
      refine hK.out _ _ (hP) (fun hHeld => ?_)
      clear hK K hHeld
      refine region_now (hP) ?_
      try simp only [Act.put, List.setIfInBounds_toArray, List.set_cons_zero, List.set_cons_succ]
      refine region_take 16 30 (v := ?vaa16) rfl rfl (by kernel_rfl) (by kernel_rfl) (by kernel_rfl) (fun _ _ _ h => h) (by rfl) (fun w' hS => ?haa16) ?raa16
      case haa16 => go_simp; with_reducible rfl
      try simp only [Act.put, List.setIfInBounds_toArray, List.set_cons_zero, List.set_cons_succ]
      refine region_take 17 4 (v := ?vaa17) rfl rfl (by kernel_rfl) (by kernel_rfl) (by kernel_rfl) (fun _ _ _ h => h) (by rfl) (fun w' hS => ?haa17) ?raa17
      case haa17 => go_simp; with_reducible rfl
      try simp only [Act.put, List.setIfInBounds_toArray, List.set_cons_zero, List.set_cons_succ]
      refine wpAnyH_done (by kernel_rfl) ?_ _
      go_wp2_with fail
      go_ret
      exact ⟨rfl, hPv.below⟩
    · have hki : (300 : Int) < (n : Int) := by omega
      go_wp2_with fail
      refine (works_any w3).mono ?_
      rintro e w5 ⟨rfl, hP5⟩
      go_wp2_with fail
      go_ret
      exact ⟨rfl, (hPv.pure hP5).below⟩
  · have e1 : decide (v.size ≤ 300) = false := by simp [hs]
    rw [e1] at HSv
    go_enter Try.func7, Try.ntmps7
    go_wp2_with (with_reducible refine at_load 24 (.tmp 2) ?_; refine wpList_load_g rfl (.tmp 2) rfl w.heap.size 0 rfl cs hRv HC.out ?_)
    rw [HW.out, ← HTb.out]
    refine (HSv.out w1 hPv).mono ?_
    rintro e w3 ⟨rfl, hP3⟩
    have hPv := hPv.pure hP3
    go_wp2_with fail
    refine (works_any w3).mono ?_
    rintro e w5 ⟨rfl, hP5⟩
    go_wp2_with fail
    go_ret
    exact ⟨rfl, (hPv.pure hP5).below⟩

set_option maxRecDepth 100000 in
theorem lifted (os : Os) (started : os.Started) (H : Type) (enc : TypeId × Value → H) :
    ReturnsInHanded {} Try.checked os 7 .any (Rows.valueRefsSpec.pre6 enc Try.prog Try.f7 Rows.valueRefsRow.domain false) (Rows.valueRefsSpec.post enc Try.prog Try.f7 false true false false) := by
  refine returnsInHanded_of_change (C := Try.checked) own started (by kernel_rfl) Try.func7
    (ChangeSpec.witness6 (enc := enc) (C := Try.checked) false ⟨#[], #[.agg #[.int .i64 0, .int .i64 0, .string ⟨#[]⟩, .slice none 0 0], .slice none 0 0], []⟩ 8 (by kernel_rfl) (by kernel_rfl) (by kernel_rfl) (by kernel_rfl)) ?_
  intro W base args ds gs before hval0 hW hcnd _
  have hval : ∀ (j : Nat) t v, Try.f7.params[j]? = some t → args[j]? = some v → Value.okWide Try.prog W .any base t v := hval0
  have hW' := hW
  obtain ⟨p, q, hA0, hV, rfl, hfz, hnd⟩ := hW
  have hA : DataW.TrodAll enc Try.prog W 0 (fun _ => true) true Try.f7.params.toList args.toList ds p := hA0
  rw [Try.params7] at hA hval
  obtain ⟨v0, vs0, d0, ds0, p0, q0, hargs, rfl, rfl, h0, r0⟩ := trodAll_cons hA
  obtain ⟨v1, vs1, d1, ds1, p1, q1, rfl, rfl, rfl, h1, r1⟩ := trodAll_cons r0
  obtain ⟨rfl, rfl, rfl⟩ := trodAll_nil r1
  obtain rfl : args = #[v0, v1] := by cases args; simp_all
  obtain ⟨rfl, rfl⟩ := trodVars_none hV
  have k0 := h0
  have lt0 : ∀ x ∈ p0, x.block < W.heap.size := by obtain ⟨m, hm⟩ := k0; exact DataW.trod_lt m _ _ _ hm
  have k1 := h1
  have lt1 : ∀ x ∈ p1, x.block < W.heap.size := by obtain ⟨m, hm⟩ := k1; exact DataW.trod_lt m _ _ _ hm
  obtain ⟨F0, u0, cs0, rfl, hL0, hwf0⟩ := open_val_wf (hval 0 24 v0 rfl rfl) h0
  obtain ⟨a1, c1, l1, rfl, hR1, hl1⟩ := open_nums (hval 1 41 v1 rfl rfl) h1
  clear hA0 hval0
  refine (walk F0 u0 cs0 a1 c1 l1 W hL0 hwf0 hR1 hl1).mono fun e W' ⟨he, bel⟩ => ?_
  subst he
  exact ⟨_, rfl, _, _, _, [], _, [], hW', trodAll_mk1 (shut_bool Try.underlying4 _), (trodAll_cons_mk (Below.trod laidOut (by kernel_rfl) (of_decide_eq_true (by kernel_rfl)) k0 bel lt0) (trodAll_cons_mk (Below.trod laidOut (by kernel_rfl) (of_decide_eq_true (by kernel_rfl)) k1 bel lt1) trodAll_mk0)), rfl, bel.frame _, fun h => by cases h⟩

theorem proved : Rows.ValueRefsSaid :=
  OpenClaim.holds_of_wide 7 Try.f7 rfl rfl rfl rfl rfl rfl rfl ⟨rfl, rfl, rfl, rfl, rfl⟩ rfl rfl rfl rfl rfl (by kernel_rfl) Try.func7 (by kernel_rfl)
    (of_decide_eq_true (by kernel_rfl)) (by unfold Func.isWrapper; first | (rw [if_pos (by decide +kernel)]; kernel_rfl) | (rw [if_neg (by decide +kernel)]; exact ⟨rfl, rfl⟩))
    (fun os started H enc _ => lifted os started H enc)
#print axioms proved
end Go.Proofs.Ytiakphjkcpbccaa.valueRefs
