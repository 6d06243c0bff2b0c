/-
  BoxValues: the rectangle of any value is as the document says, or the error. No condition.
-/
import Derived.Test.YtnibjjpohhknkaaOfR
import Derived.Test.YtnibjjpohhknkaaFewD
import Derived.Test.YtnibjjpohhknkaaRects
import Derived.Test.YtnibjjpohhknkaaWorks37
namespace Go.Proofs.Ytnibjjpohhknkaa.boxValues
open Go.ChangeShapes Go.WideShapes Go.ChangeAt Go.RowKit Go.Proofs.Ytnibjjpohhknkaa
set_option linter.unusedVariables false
set_option linter.unusedSimpArgs false


set_option maxHeartbeats 4000000 in
set_option maxRecDepth 100000 in
theorem walk (d0 : Nat) (v : V) (cs : List Value) (w : World) (h0 : Lies w d0 v cs) : Calls Try.prog 3 #[.agg cs.toArray] w fun e w' => e = .returned (.bool true) ∧ Below w.heap.size w w' := by
  have h : Lies w (d0 + 1) v cs := h0.mono (by omega)
  have HC := Lib.hid h.len
  have HFw := Lib.hid (fun W (hP : Pure w W) => few_any (d0 + 1) v cs 300 W (h.pure hP) (by decide) (by decide))
  have HPr := Lib.hid (fun W (hP : Pure w W) (hl : v.l.length ≤ 1000000) => ofp_any d0 v cs W (h.pure hP) hl)
  have HRf := Lib.hid (fun W (hP : Pure w W) (hl : v.l.length ≤ 1000000) => ofr_any d0 v cs W (h.pure hP) hl)
  have HLn : Hid (0 ≤ v.few 300 → v.l.length ≤ 1000000) := Lib.hid (fun hf => by have := few_len hf; omega)
  obtain ⟨f, hf⟩ : ∃ z, z = v.few 300 := ⟨_, rfl⟩
  rw [← hf] at HFw HLn
  obtain ⟨FB, hFB⟩ : ∃ z, z = v.box := ⟨_, rfl⟩
  rw [← hFB] at HPr HRf
  obtain ⟨B1, e1⟩ := FB
  obtain ⟨tb, htb⟩ : ∃ z, z = w.heap.size := ⟨_, rfl⟩
  obtain ⟨w1, hw1⟩ : ∃ z, z = w.alloc (.cells cs.toArray 24) := ⟨_, rfl⟩
  have hB1 : BlockIs w1 tb cs 24 := by rw [htb, hw1]; exact BlockIs.new w _ _
  have hPw : Pure w w1 := hw1 ▸ ext_alloc w _
  have HW : Hid (w.alloc (.cells cs.toArray 24) = w1) := Lib.hid hw1.symm
  have HTb := Lib.hid htb
  have hR : (w.alloc (.cells cs.toArray 24)).rangeAt w.heap.size 0 cs := by rw [HW.out, ← htb]; exact hB1.range
  clear hw1 htb h h0 hf hFB
  go_enter Try.func3, Try.ntmps3
  go_wp2_with (with_reducible refine at_load 24 (.tmp 1) ?_; refine wpList_load_mid rfl 24 (.tmp 1) rfl w.heap.size 0 rfl cs _ hR Try.underlying24 rfl (sz24 HC.out) ?_)
  rw [HW.out, ← HTb.out]
  clear hR
  refine (HFw.out w1 hPw).mono ?_
  rintro e w2 ⟨rfl, hP⟩
  have hB1 := hB1.ext hP id
  have hPw := hPw.pure hP
  clear hP HFw
  by_cases hneg : f < 0
  · go_wp2_with fail
    refine (works_any _).mono ?_
    rintro e wz ⟨rfl, hPz⟩
    go_wp2_with fail
    go_ret
    exact ⟨rfl, (hPw.pure hPz).below⟩
  · have HPr := Lib.hid (fun W hP => HPr.out W hP (HLn.out (by omega)))
    have HRf := Lib.hid (fun W hP => HRf.out W hP (HLn.out (by omega)))
    have hR := hB1.range
    go_wp2_with (with_reducible refine at_load 24 (.tmp 1) ?_; refine wpList_load_mid rfl 24 (.tmp 1) rfl tb 0 rfl cs _ hR Try.underlying24 rfl (sz24 HC.out) ?_)
    clear hR hneg
    refine (HPr.out w2 hPw).mono ?_
    rintro e w3 ⟨rfl, hP⟩
    have hB1 := hB1.ext hP id
    have hPw := hPw.pure hP
    clear hP HPr
    obtain ⟨w4, hwn⟩ : ∃ z, z = w3.alloc (.cells #[.int .i64 B1.x, .int .i64 B1.y, .int .i64 B1.w, .int .i64 B1.h] 28) := ⟨_, rfl⟩
    have hBR : BlockIs w4 w3.heap.size [.int .i64 B1.x, .int .i64 B1.y, .int .i64 B1.w, .int .i64 B1.h] 28 := hwn ▸ BlockIs.new w3 _ _
    have hPx : Pure w3 w4 := hwn ▸ ext_alloc w3 _
    have HWw4 : Hid (w3.alloc (.cells #[.int .i64 B1.x, .int .i64 B1.y, .int .i64 B1.w, .int .i64 B1.h] 28) = w4) := Lib.hid hwn.symm
    have hB1 := hB1.ext hPx id
    have hPw := hPw.pure hPx
    have hR : (w3.alloc (.cells #[.int .i64 B1.x, .int .i64 B1.y, .int .i64 B1.w, .int .i64 B1.h] 28)).rangeAt tb 0 cs := by rw [HWw4.out]; exact hB1.range
    clear hwn hPx
    go_wp2_with (with_reducible refine at_load 24 (.tmp 1) ?_; refine wpList_load_mid rfl 24 (.tmp 1) rfl tb 0 rfl cs _ hR Try.underlying24 rfl (sz24 HC.out) ?_)
    rw [HWw4.out]
    clear hR
    refine (HRf.out w4 hPw).mono ?_
    rintro e w5 ⟨rfl, hP⟩
    have hB1 := hB1.ext hP id
    have hBR := hBR.ext hP id
    have hPw := hPw.pure hP
    clear hP HRf
    obtain ⟨w6, hwn⟩ : ∃ z, z = w5.alloc (.cells #[.int .i64 B1.x, .int .i64 B1.y, .int .i64 B1.w, .int .i64 B1.h] 32) := ⟨_, rfl⟩
    have hBQ : BlockIs w6 w5.heap.size [.int .i64 B1.x, .int .i64 B1.y, .int .i64 B1.w, .int .i64 B1.h] 32 := hwn ▸ BlockIs.new w5 _ _
    have hPx : Pure w5 w6 := hwn ▸ ext_alloc w5 _
    have HWw6 : Hid (w5.alloc (.cells #[.int .i64 B1.x, .int .i64 B1.y, .int .i64 B1.w, .int .i64 B1.h] 32) = w6) := Lib.hid hwn.symm
    have hB1 := hB1.ext hPx id
    have hBR := hBR.ext hPx id
    have hPw := hPw.pure hPx
    clear hwn hPx
    go_wp2_with fail
    rw [HWw6.out]
    have hB1 := hB1.drew
    have hBR := hBR.drew
    have hBQ := hBQ.drew
    have hPw := hPw.drew
    refine region_start (fun _ => False) (by kernel_rfl) ?_
    try simp only [Act.put, List.setIfInBounds_toArray, List.set_cons_zero, List.set_cons_succ]
    refine region_take 0 21 (v := ?vbv0) rfl rfl (by kernel_rfl) (by kernel_rfl) (by kernel_rfl) (fun _ _ _ h => h) (by rfl) (fun w' hS => ?hbv0) ?rbv0
    case hbv0 => (refine exec_load28 (x := .tmp 3) ?_ ?_ (hBR.ext hS id) rfl <;> rfl)
    try simp only [Act.put, List.setIfInBounds_toArray, List.set_cons_zero, List.set_cons_succ]
    refine region_take 2 23 (v := ?vbv2) rfl rfl (by kernel_rfl) (by kernel_rfl) (by kernel_rfl) (fun _ _ _ h => h) (by rfl) (fun w' hS => ?hbv2) ?rbv2
    case hbv2 => (refine exec_load32 (x := .tmp 5) ?_ ?_ (hBQ.ext hS id) rfl <;> rfl)
    try simp only [Act.put, List.setIfInBounds_toArray, List.set_cons_zero, List.set_cons_succ]
    refine wpAnyH_ready (rs := [1]) (by kernel_rfl) (by simp) (AllReadyH.cons rfl (fun K hK => ?_) AllReadyH.nil)
    go_simp
    refine (of_any B1 _).mono ?_
    rintro e wa ⟨rfl, hP⟩
    have hB1 := hB1.ext hP id
    have hBR := hBR.ext hP id
    have hBQ := hBQ.ext hP id
    have hPw := hPw.pure hP
    refine hK.out _ _ (hP) (fun hHeld => ?_)
    clear hK K hHeld
    refine region_now (hP) ?_
    try simp only [Act.put, List.setIfInBounds_toArray, List.set_cons_zero, List.set_cons_succ]
    refine region_take 3 24 (v := ?vbv3) rfl rfl (by kernel_rfl) (by kernel_rfl) (by kernel_rfl) (fun _ _ _ h => h) (by rfl) (fun w' hS => ?hbv3) ?rbv3
    case hbv3 => (have n := eql32 B1 B1 w' rfl; go_simp; with_reducible rfl)
    try simp only [Act.put, List.setIfInBounds_toArray, List.set_cons_zero, List.set_cons_succ]
    refine region_take 4 25 (v := ?vbv4) rfl rfl (by kernel_rfl) (by kernel_rfl) (by kernel_rfl) (fun _ _ _ h => h) (by rfl) (fun w' hS => ?hbv4) ?rbv4
    case hbv4 => go_simp; with_reducible rfl
    try simp only [Act.put, List.setIfInBounds_toArray, List.set_cons_zero, List.set_cons_succ]
    refine region_take 5 26 (v := ?vbv5) rfl rfl (by kernel_rfl) (by kernel_rfl) (by kernel_rfl) (fun _ _ _ h => h) (by rfl) (fun w' hS => ?hbv5) ?rbv5
    case hbv5 => go_simp; with_reducible rfl
    try simp only [Act.put, List.setIfInBounds_toArray, List.set_cons_zero, List.set_cons_succ]
    refine region_take 6 27 (v := ?vbv6) rfl rfl (by kernel_rfl) (by kernel_rfl) (by kernel_rfl) (fun _ _ _ h => h) (by rfl) (fun w' hS => ?hbv6) ?rbv6
    case hbv6 => go_simp; with_reducible rfl
    try simp only [Act.put, List.setIfInBounds_toArray, List.set_cons_zero, List.set_cons_succ]
    refine region_take 7 28 (v := ?vbv7) rfl rfl (by kernel_rfl) (by kernel_rfl) (by kernel_rfl) (fun _ _ _ h => h) (by rfl) (fun w' hS => ?hbv7) ?rbv7
    case hbv7 => go_simp; with_reducible rfl
    try simp only [Act.put, List.setIfInBounds_toArray, List.set_cons_zero, List.set_cons_succ]
    refine region_take 8 29 (v := ?vbv8) rfl rfl (by kernel_rfl) (by kernel_rfl) (by kernel_rfl) (fun _ _ _ h => h) (by rfl) (fun w' hS => ?hbv8) ?rbv8
    case hbv8 => go_simp; with_reducible rfl
    try simp only [Act.put, List.setIfInBounds_toArray, List.set_cons_zero, List.set_cons_succ]
    refine region_take 9 30 (v := ?vbv9) rfl rfl (by kernel_rfl) (by kernel_rfl) (by kernel_rfl) (fun _ _ _ h => h) (by rfl) (fun w' hS => ?hbv9) ?rbv9
    case hbv9 => go_simp; with_reducible rfl
    try simp only [Act.put, List.setIfInBounds_toArray, List.set_cons_zero, List.set_cons_succ]
    refine wpAnyH_ready (rs := [10]) (by kernel_rfl) (by simp) (AllReadyH.cons rfl (fun K hK => ?_) AllReadyH.nil)
    go_simp
    refine (works_any _).mono ?_
    rintro e wb ⟨rfl, hP⟩
    have hB1 := hB1.ext hP id
    have hBR := hBR.ext hP id
    have hBQ := hBQ.ext hP id
    have hPw := hPw.pure hP
    refine hK.out _ _ (hP) (fun hHeld => ?_)
    clear hK K hHeld
    refine region_now (hP) ?_
    try simp only [Act.put, List.setIfInBounds_toArray, List.set_cons_zero, List.set_cons_succ]
    refine region_take 11 32 (v := ?vbv11) rfl rfl (by kernel_rfl) (by kernel_rfl) (by kernel_rfl) (fun _ _ _ h => h) (by rfl) (fun w' hS => ?hbv11) ?rbv11
    case hbv11 => go_simp; with_reducible rfl
    try simp only [Act.put, List.setIfInBounds_toArray, List.set_cons_zero, List.set_cons_succ]
    refine region_take 12 2 (v := ?vbv12) rfl rfl (by kernel_rfl) (by kernel_rfl) (by kernel_rfl) (fun _ _ _ h => h) (by rfl) (fun w' hS => ?hbv12) ?rbv12
    case hbv12 => go_simp; with_reducible rfl
    try simp only [Act.put, List.setIfInBounds_toArray, List.set_cons_zero, List.set_cons_succ]
    refine wpAnyH_done (by kernel_rfl) ?_ _
    go_simp
    try simp only [Act.put, List.setIfInBounds_toArray, List.set_cons_zero, List.set_cons_succ]
    go_wp2_with fail
    go_ret
    exact ⟨rfl, hPw.below⟩

set_option maxRecDepth 100000 in
theorem lifted (os : Os) (started : os.Started) (H : Type) (enc : TypeId × Value → H) :
    ReturnsInHanded {} Try.checked os 3 .any (Rows.boxValuesSpec.pre6 enc Try.prog Try.f3 Rows.boxValuesRow.domain false) (Rows.boxValuesSpec.post enc Try.prog Try.f3 false true false false) := by
  refine returnsInHanded_of_change (C := Try.checked) own started (by kernel_rfl) Try.func3
    (ChangeSpec.witness6 (enc := enc) (C := Try.checked) false ⟨#[], #[.agg #[.int .i64 0, .int .i64 0, .string ⟨#[]⟩, .slice none 0 0]], []⟩ 8 (by kernel_rfl) (by kernel_rfl) (by kernel_rfl) (by kernel_rfl)) ?_
  intro W base args ds gs before hval0 hW hcnd _
  have hval : ∀ (j : Nat) t v, Try.f3.params[j]? = some t → args[j]? = some v → Value.okWide Try.prog W .any base t v := hval0
  have hW' := hW
  obtain ⟨p, q, hA0, hV, rfl, hfz, hnd⟩ := hW
  have hA : DataW.TrodAll enc Try.prog W 0 (fun _ => true) true Try.f3.params.toList args.toList ds p := hA0
  rw [Try.params3] at hA hval
  obtain ⟨v0, vs0, d0, ds0, p0, q0, hargs, rfl, rfl, h0, r0⟩ := trodAll_cons hA
  obtain ⟨rfl, rfl, rfl⟩ := trodAll_nil r0
  obtain rfl : args = #[v0] := by cases args; simp_all
  obtain ⟨rfl, rfl⟩ := trodVars_none hV
  have k0 := h0
  have lt0 : ∀ x ∈ p0, x.block < W.heap.size := by obtain ⟨m, hm⟩ := k0; exact DataW.trod_lt m _ _ _ hm
  obtain ⟨F0, u0, cs0, rfl, hL0⟩ := open_val (hval 0 24 v0 rfl rfl) h0
  clear hA0 hval0
  refine (walk F0 u0 cs0 W hL0).mono fun e W' ⟨he, bel⟩ => ?_
  subst he
  exact ⟨_, rfl, _, _, _, [], _, [], hW', trodAll_mk1 (shut_bool Try.underlying4 _), (trodAll_cons_mk (Below.trod laidOut (by kernel_rfl) (of_decide_eq_true (by kernel_rfl)) k0 bel lt0) trodAll_mk0), rfl, bel.frame _, fun h => by cases h⟩

theorem proved : Rows.BoxValuesSaid :=
  OpenClaim.holds_of_wide 3 Try.f3 rfl rfl rfl rfl rfl rfl rfl ⟨rfl, rfl, rfl, rfl, rfl⟩ rfl rfl rfl rfl rfl (by kernel_rfl) Try.func3 (by kernel_rfl)
    (of_decide_eq_true (by kernel_rfl)) (by unfold Func.isWrapper; first | (rw [if_pos (by decide +kernel)]; kernel_rfl) | (rw [if_neg (by decide +kernel)]; exact ⟨rfl, rfl⟩))
    (fun os started H enc _ => lifted os started H enc)
#print axioms proved
end Go.Proofs.Ytnibjjpohhknkaa.boxValues
