/-
  BoxPages: how any page is seen is as the document says, or the error. No condition.
-/
import Derived.Test.YtnibjjpohhknkaaPageIn
import Derived.Test.YtnibjjpohhknkaaSeen37
import Derived.Test.YtnibjjpohhknkaaWorks37
namespace Go.Proofs.Ytnibjjpohhknkaa.boxPages
open Go.ChangeShapes Go.WideShapes Go.ChangeAt Go.RowKit Go.Proofs.Ytnibjjpohhknkaa
set_option linter.unusedVariables false
set_option linter.unusedSimpArgs false


set_option maxHeartbeats 4000000 in
set_option maxRecDepth 100000 in
theorem walk (F0 : Nat) (objs : List Ob) (oa : Option Addr) (oc : Nat) (rows : List (List Value)) (gv : V) (gcs : List Value) (w : World) (hOK0 : OKids w F0 objs oa rows) (hG0 : Lies w F0 gv gcs) (hoc : objs.length ≤ oc) (hcm : oc ≤ maxLen) : Calls Try.prog 6 #[.agg (Value.slice oa objs.length oc :: gcs).toArray] w fun e w' => e = .returned (.bool true) ∧ Below w.heap.size w w' := by
  have hOK := hOK0.mono (show F0 ≤ F0 + 1 by omega)
  have hG := hG0.mono (show F0 ≤ F0 + 1 by omega)
  have HC := Lib.hid hG.len
  have HL5 : Hid ((Value.slice oa objs.length oc :: gcs).length = 5) := Lib.hid (by rw [List.length_cons, HC.out])
  have HFo := Lib.hid (fun W (hP : Pure w W) => fewo_any (F0 + 1) objs oa oc rows 20 W (hOK.pure hP) hoc hcm)
  have HFg := Lib.hid (fun W (hP : Pure w W) => few_any (F0 + 1) gv gcs 300 W (hG.pure hP) (by decide) (by decide))
  have HPr := Lib.hid (fun W (hP : Pure w W) (h1 : fewO objs 20 = true) (h2 : 0 ≤ gv.few 300) => page_any F0 objs oa oc rows gv gcs w W hP hOK hG (by have := (fewO_in h1).1; omega) (fun u hu => by have := (fewO_in h1).2 u hu; omega) (by have := few_len h2; omega) (fun k => by have := namedP_len (fewO_all h1) h2 k; omega))
  have HRf := Lib.hid (fun W (hP : Pure w W) (h1 : fewO objs 20 = true) (h2 : 0 ≤ gv.few 300) => refpage_any F0 objs oa oc rows gv gcs w W hP hOK hG (by have := (fewO_in h1).1; omega) (fun u hu => by have := (fewO_in h1).2 u hu; omega) (by have := few_len h2; omega) (fun k => by have := namedP_len (fewO_all h1) h2 k; omega))
  obtain ⟨fo, hfo⟩ : ∃ z, z = fewO objs 20 := ⟨_, rfl⟩
  obtain ⟨fg, hfg⟩ : ∃ z, z = gv.few 300 := ⟨_, rfl⟩
  obtain ⟨FP, hFP⟩ : ∃ z, z = pageP objs gv := ⟨_, rfl⟩
  rw [← hfo] at HFo HPr HRf
  rw [← hfg] at HFg HPr HRf
  rw [← hFP] at HPr HRf
  obtain ⟨on, hon⟩ : ∃ z, z = objs.length := ⟨_, rfl⟩
  rw [← hon] at HL5 HFo HPr HRf ⊢
  obtain ⟨S, e1⟩ := FP
  obtain ⟨tb, htb⟩ : ∃ z, z = w.heap.size := ⟨_, rfl⟩
  obtain ⟨w1, hw1⟩ : ∃ z, z = w.alloc (.cells (Value.slice oa on oc :: gcs).toArray 47) := ⟨_, rfl⟩
  have hB1 : BlockIs w1 tb (Value.slice oa on oc :: gcs) 47 := by rw [htb, hw1]; exact BlockIs.new w _ _
  have hPw : Pure w w1 := hw1 ▸ ext_alloc w _
  have HW : Hid (w.alloc (.cells (Value.slice oa on oc :: gcs).toArray 47) = w1) := Lib.hid hw1.symm
  have HTb := Lib.hid htb
  have t0 : (w.alloc (.cells (Value.slice oa on oc :: gcs).toArray 47)).cell? ⟨w.heap.size, 0, none⟩ = some (.slice oa on oc) := by rw [HW.out, ← htb]; exact hB1.cell 0
  clear hw1 htb hOK0 hG0 hOK hG hfo hfg hFP hoc hcm hon
  go_enter Try.func6, Try.ntmps6
  go_wp2_with fail
  rw [HW.out, ← HTb.out]
  clear t0
  refine (HFo.out w1 hPw).mono ?_
  rintro e w2 ⟨rfl, hP⟩
  have hB1 := hB1.ext hP id
  have hPw := hPw.pure hP
  clear hP HFo
  cases fo with
  | false =>
    clear HPr HRf HFg
    go_wp2_with fail
    refine (works_any _).mono ?_
    rintro e wz ⟨rfl, hPz⟩
    go_wp2_with fail
    go_ret
    exact ⟨rfl, (hPw.pure hPz).below⟩
  | true =>
    replace HPr := Lib.hid (fun W hP => HPr.out W hP rfl)
    replace HRf := Lib.hid (fun W hP => HRf.out W hP rfl)
    have hRg : w2.rangeAt tb 1 gcs := fun i x hx => (hB1.cell (1 + i)).trans (by rw [Nat.add_comm, List.getElem?_cons_succ]; exact hx)
    go_wp2_with (with_reducible refine at_load 24 (.tmp 12) ?_; refine wpList_load_g rfl (.tmp 12) rfl tb 1 rfl gcs hRg HC.out ?_)
    clear hRg
    refine (HFg.out w2 hPw).mono ?_
    rintro e w3 ⟨rfl, hP⟩
    have hB1 := hB1.ext hP id
    have hPw := hPw.pure hP
    clear hP HFg
    by_cases hneg : fg < 0
    · go_wp2_with fail
      refine (works_any _).mono ?_
      rintro e wz ⟨rfl, hPz⟩
      go_wp2_with fail
      go_ret
      exact ⟨rfl, (hPw.pure hPz).below⟩
    · have hpos : 0 ≤ fg := by omega
      replace HPr := Lib.hid (fun W hP => HPr.out W hP hpos)
      replace HRf := Lib.hid (fun W hP => HRf.out W hP hpos)
      clear hpos
      have hR := hB1.range
      go_wp2_with (with_reducible refine at_load 47 (.tmp 1) ?_; refine wpList_load_mid rfl 47 (.tmp 1) rfl tb 0 rfl (Value.slice oa on oc :: gcs) _ hR Try.underlying47 rfl (sz47 HL5.out) ?_)
      clear hR hneg
      refine (HPr.out w3 hPw).mono ?_
      rintro e w4 ⟨rfl, hP⟩
      have hB1 := hB1.ext hP id
      have hPw := hPw.pure hP
      clear hP HPr
      obtain ⟨w5, hwn⟩ : ∃ z, z = w4.alloc (.cells #[.int .i64 S.box.x, .int .i64 S.box.y, .int .i64 S.box.w, .int .i64 S.box.h, .int .i64 S.q, .int .i64 S.w, .int .i64 S.h] 50) := ⟨_, rfl⟩
      have hBR : BlockIs w5 w4.heap.size [.int .i64 S.box.x, .int .i64 S.box.y, .int .i64 S.box.w, .int .i64 S.box.h, .int .i64 S.q, .int .i64 S.w, .int .i64 S.h] 50 := hwn ▸ BlockIs.new w4 _ _
      have hPx : Pure w4 w5 := hwn ▸ ext_alloc w4 _
      have HWw5 : Hid (w4.alloc (.cells #[.int .i64 S.box.x, .int .i64 S.box.y, .int .i64 S.box.w, .int .i64 S.box.h, .int .i64 S.q, .int .i64 S.w, .int .i64 S.h] 50) = w5) := Lib.hid hwn.symm
      have hB1 := hB1.ext hPx id
      have hPw := hPw.pure hPx
      have hR : (w4.alloc (.cells #[.int .i64 S.box.x, .int .i64 S.box.y, .int .i64 S.box.w, .int .i64 S.box.h, .int .i64 S.q, .int .i64 S.w, .int .i64 S.h] 50)).rangeAt tb 0 (Value.slice oa on oc :: gcs) := by rw [HWw5.out]; exact hB1.range
      clear hwn hPx
      go_wp2_with (with_reducible refine at_load 47 (.tmp 1) ?_; refine wpList_load_mid rfl 47 (.tmp 1) rfl tb 0 rfl (Value.slice oa on oc :: gcs) _ hR Try.underlying47 rfl (sz47 HL5.out) ?_)
      rw [HWw5.out]
      clear hR
      refine (HRf.out w5 hPw).mono ?_
      rintro e w6 ⟨rfl, hP⟩
      have hB1 := hB1.ext hP id
      have hBR := hBR.ext hP id
      have hPw := hPw.pure hP
      clear hP HRf
      obtain ⟨w7, hwn⟩ : ∃ z, z = w6.alloc (.cells #[.int .i64 S.box.x, .int .i64 S.box.y, .int .i64 S.box.w, .int .i64 S.box.h, .int .i64 S.q, .int .i64 S.w, .int .i64 S.h] 54) := ⟨_, rfl⟩
      have hBQ : BlockIs w7 w6.heap.size [.int .i64 S.box.x, .int .i64 S.box.y, .int .i64 S.box.w, .int .i64 S.box.h, .int .i64 S.q, .int .i64 S.w, .int .i64 S.h] 54 := hwn ▸ BlockIs.new w6 _ _
      have hPx : Pure w6 w7 := hwn ▸ ext_alloc w6 _
      have HWw7 : Hid (w6.alloc (.cells #[.int .i64 S.box.x, .int .i64 S.box.y, .int .i64 S.box.w, .int .i64 S.box.h, .int .i64 S.q, .int .i64 S.w, .int .i64 S.h] 54) = w7) := Lib.hid hwn.symm
      have hB1 := hB1.ext hPx id
      have hBR := hBR.ext hPx id
      have hPw := hPw.pure hPx
      clear hwn hPx
      go_wp2_with fail
      rw [HWw7.out]
      have hB1 := hB1.drew
      have hBR := hBR.drew
      have hBQ := hBQ.drew
      have hPw := hPw.drew
      refine region_start (fun _ => False) (by kernel_rfl) ?_
      try simp only [Act.put, List.setIfInBounds_toArray, List.set_cons_zero, List.set_cons_succ]
      refine region_take 0 28 (v := ?vbp0) rfl rfl (by kernel_rfl) (by kernel_rfl) (by kernel_rfl) (fun _ _ _ h => h) (by rfl) (fun w' hS => ?hbp0) ?rbp0
      case hbp0 => (refine exec_load50 (x := .tmp 3) ?_ ?_ (hBR.ext hS id) rfl <;> rfl)
      try simp only [Act.put, List.setIfInBounds_toArray, List.set_cons_zero, List.set_cons_succ]
      refine region_take 1 29 (v := ?vbp1) rfl rfl (by kernel_rfl) (by kernel_rfl) (by kernel_rfl) (fun _ _ _ h => h) (by rfl) (fun w' hS => ?hbp1) ?rbp1
      case hbp1 => (refine exec_load54 (x := .tmp 5) ?_ ?_ (hBQ.ext hS id) rfl <;> rfl)
      try simp only [Act.put, List.setIfInBounds_toArray, List.set_cons_zero, List.set_cons_succ]
      refine wpAnyH_ready (rs := [2]) (by kernel_rfl) (by simp) (AllReadyH.cons rfl (fun K hK => ?_) AllReadyH.nil)
      go_simp
      refine (seen_any S.box S.q S.w S.h _).mono ?_
      rintro e wa ⟨rfl, hP⟩
      have hB1 := hB1.ext hP id
      have hBR := hBR.ext hP id
      have hBQ := hBQ.ext hP id
      have hPw := hPw.pure hP
      refine hK.out _ _ (hP) (fun hHeld => ?_)
      clear hK K hHeld
      refine region_now (hP) ?_
      try simp only [Act.put, List.setIfInBounds_toArray, List.set_cons_zero, List.set_cons_succ]
      refine region_take 3 31 (v := ?vbp3) rfl rfl (by kernel_rfl) (by kernel_rfl) (by kernel_rfl) (fun _ _ _ h => h) (by rfl) (fun w' hS => ?hbp3) ?rbp3
      case hbp3 => (have n := eql50 S.box.x S.box.y S.box.w S.box.h S.q S.w S.h w'; go_simp; with_reducible rfl)
      try simp only [Act.put, List.setIfInBounds_toArray, List.set_cons_zero, List.set_cons_succ]
      refine region_take 4 32 (v := ?vbp4) rfl rfl (by kernel_rfl) (by kernel_rfl) (by kernel_rfl) (fun _ _ _ h => h) (by rfl) (fun w' hS => ?hbp4) ?rbp4
      case hbp4 => go_simp; with_reducible rfl
      try simp only [Act.put, List.setIfInBounds_toArray, List.set_cons_zero, List.set_cons_succ]
      refine region_take 5 33 (v := ?vbp5) rfl rfl (by kernel_rfl) (by kernel_rfl) (by kernel_rfl) (fun _ _ _ h => h) (by rfl) (fun w' hS => ?hbp5) ?rbp5
      case hbp5 => go_simp; with_reducible rfl
      try simp only [Act.put, List.setIfInBounds_toArray, List.set_cons_zero, List.set_cons_succ]
      refine region_take 6 34 (v := ?vbp6) rfl rfl (by kernel_rfl) (by kernel_rfl) (by kernel_rfl) (fun _ _ _ h => h) (by rfl) (fun w' hS => ?hbp6) ?rbp6
      case hbp6 => go_simp; with_reducible rfl
      try simp only [Act.put, List.setIfInBounds_toArray, List.set_cons_zero, List.set_cons_succ]
      refine region_take 7 35 (v := ?vbp7) rfl rfl (by kernel_rfl) (by kernel_rfl) (by kernel_rfl) (fun _ _ _ h => h) (by rfl) (fun w' hS => ?hbp7) ?rbp7
      case hbp7 => go_simp; with_reducible rfl
      try simp only [Act.put, List.setIfInBounds_toArray, List.set_cons_zero, List.set_cons_succ]
      refine region_take 8 36 (v := ?vbp8) rfl rfl (by kernel_rfl) (by kernel_rfl) (by kernel_rfl) (fun _ _ _ h => h) (by rfl) (fun w' hS => ?hbp8) ?rbp8
      case hbp8 => go_simp; with_reducible rfl
      try simp only [Act.put, List.setIfInBounds_toArray, List.set_cons_zero, List.set_cons_succ]
      refine region_take 9 37 (v := ?vbp9) rfl rfl (by kernel_rfl) (by kernel_rfl) (by kernel_rfl) (fun _ _ _ h => h) (by rfl) (fun w' hS => ?hbp9) ?rbp9
      case hbp9 => go_simp; with_reducible rfl
      try simp only [Act.put, List.setIfInBounds_toArray, List.set_cons_zero, List.set_cons_succ]
      refine wpAnyH_ready (rs := [10]) (by kernel_rfl) (by simp) (AllReadyH.cons rfl (fun K hK => ?_) AllReadyH.nil)
      go_simp
      refine (works_any _).mono ?_
      rintro e wb ⟨rfl, hP⟩
      have hB1 := hB1.ext hP id
      have hBR := hBR.ext hP id
      have hBQ := hBQ.ext hP id
      have hPw := hPw.pure hP
      refine hK.out _ _ (hP) (fun hHeld => ?_)
      clear hK K hHeld
      refine region_now (hP) ?_
      try simp only [Act.put, List.setIfInBounds_toArray, List.set_cons_zero, List.set_cons_succ]
      refine region_take 11 39 (v := ?vbp11) rfl rfl (by kernel_rfl) (by kernel_rfl) (by kernel_rfl) (fun _ _ _ h => h) (by rfl) (fun w' hS => ?hbp11) ?rbp11
      case hbp11 => go_simp; with_reducible rfl
      try simp only [Act.put, List.setIfInBounds_toArray, List.set_cons_zero, List.set_cons_succ]
      refine region_take 12 2 (v := ?vbp12) rfl rfl (by kernel_rfl) (by kernel_rfl) (by kernel_rfl) (fun _ _ _ h => h) (by rfl) (fun w' hS => ?hbp12) ?rbp12
      case hbp12 => go_simp; with_reducible rfl
      try simp only [Act.put, List.setIfInBounds_toArray, List.set_cons_zero, List.set_cons_succ]
      refine wpAnyH_done (by kernel_rfl) ?_ _
      go_simp
      try simp only [Act.put, List.setIfInBounds_toArray, List.set_cons_zero, List.set_cons_succ]
      go_wp2_with fail
      go_ret
      exact ⟨rfl, hPw.below⟩

set_option maxRecDepth 100000 in
theorem lifted (os : Os) (started : os.Started) (H : Type) (enc : TypeId × Value → H) :
    ReturnsInHanded {} Try.checked os 6 .any (Rows.boxPagesSpec.pre6 enc Try.prog Try.f6 Rows.boxPagesRow.domain false) (Rows.boxPagesSpec.post enc Try.prog Try.f6 false true false false) := by
  refine returnsInHanded_of_change (C := Try.checked) own started (by kernel_rfl) Try.func6
    (ChangeSpec.witness6 (enc := enc) (C := Try.checked) false ⟨#[], #[.agg #[.slice none 0 0, .int .i64 0, .int .i64 0, .string ⟨#[]⟩, .slice none 0 0]], []⟩ 8 (by kernel_rfl) (by kernel_rfl) (by kernel_rfl) (by kernel_rfl)) ?_
  intro W base args ds gs before hval0 hW hcnd _
  have hval : ∀ (j : Nat) t v, Try.f6.params[j]? = some t → args[j]? = some v → Value.okWide Try.prog W .any base t v := hval0
  have hW' := hW
  obtain ⟨p, q, hA0, hV, rfl, hfz, hnd⟩ := hW
  have hA : DataW.TrodAll enc Try.prog W 0 (fun _ => true) true Try.f6.params.toList args.toList ds p := hA0
  rw [Try.params6] at hA hval
  obtain ⟨v0, vs0, d0, ds0, p0, q0, hargs, rfl, rfl, h0, r0⟩ := trodAll_cons hA
  obtain ⟨rfl, rfl, rfl⟩ := trodAll_nil r0
  obtain rfl : args = #[v0] := by cases args; simp_all
  obtain ⟨rfl, rfl⟩ := trodVars_none hV
  have k0 := h0
  have lt0 : ∀ x ∈ p0, x.block < W.heap.size := by obtain ⟨m, hm⟩ := k0; exact DataW.trod_lt m _ _ _ hm
  obtain ⟨F0, objs, oa, oc, rows, gv, gcs, rfl, hOK0, hG0, hoc, hcm⟩ := open_page (hval 0 47 v0 rfl rfl) h0
  clear hA0 hval0
  refine (walk F0 objs oa oc rows gv gcs W hOK0 hG0 hoc hcm).mono fun e W' ⟨he, bel⟩ => ?_
  subst he
  exact ⟨_, rfl, _, _, _, [], _, [], hW', trodAll_mk1 (shut_bool Try.underlying4 _), (trodAll_cons_mk (Below.trod laidOut (by kernel_rfl) (of_decide_eq_true (by kernel_rfl)) k0 bel lt0) trodAll_mk0), rfl, bel.frame _, fun h => by cases h⟩

theorem proved : Rows.BoxPagesSaid :=
  OpenClaim.holds_of_wide 6 Try.f6 rfl rfl rfl rfl rfl rfl rfl ⟨rfl, rfl, rfl, rfl, rfl⟩ rfl rfl rfl rfl rfl (by kernel_rfl) Try.func6 (by kernel_rfl)
    (of_decide_eq_true (by kernel_rfl)) (by unfold Func.isWrapper; first | (rw [if_pos (by decide +kernel)]; kernel_rfl) | (rw [if_neg (by decide +kernel)]; exact ⟨rfl, rfl⟩))
    (fun os started H enc _ => lifted os started H enc)
#print axioms proved
end Go.Proofs.Ytnibjjpohhknkaa.boxPages
