/-
  CheckMany: a Doc of more than 4094 objects may not be written, and one of nothing but nulls, of fewer, has no root. No condition.
-/
import Derived.Test.YtkkmppalifjgnaaWorks23
import Derived.OwnWalk
namespace Go.Proofs.Ytkkmppalifjgnaa.checkMany
open Go.ChangeShapes Go.WideShapes Go.ChangeAt Go.RowKit Go.Proofs.Ytkkmppalifjgnaa
set_option linter.unusedVariables false
set_option linter.unusedSimpArgs false

theorem made_rows (n : Nat) : (madeCells (Value.agg #[.int .i64 0, .int .i64 0, .string ⟨#[]⟩, .slice none 0 0, .bool false, .string ⟨#[]⟩]).cells (n * 6)).toList = (List.replicate n zeroOb).flatMap id := by
  have h6 : ∀ r ∈ List.replicate n zeroOb, (id r).length = 6 := fun r hr => by rw [List.eq_of_mem_replicate hr]; rfl
  apply List.ext_getElem?
  intro j
  by_cases hj : j < n * 6
  · obtain ⟨h1, h2, h3⟩ := div_mod_of hj
    have e := flat_get id (List.replicate n zeroOb) h6 (j / 6) (by rw [List.length_replicate]; exact h1) (j % 6) h2
    rw [h3] at e
    rw [e]
    simp only [madeCells, Value.cells, Array.toList_map, Array.toList_range, List.getElem?_map, List.getElem_replicate, id]
    rw [List.getElem?_range hj]
    simp only [Option.map_some]
    have hm : j % 6 < 6 := h2
    show some (#[Value.int .i64 0, .int .i64 0, .string ⟨#[]⟩, .slice none 0 0, .bool false, .string ⟨#[]⟩][j % 6]!) = _
    generalize j % 6 = k at hm
    match k, hm with
    | 0, _ => rfl
    | 1, _ => rfl
    | 2, _ => rfl
    | 3, _ => rfl
    | 4, _ => rfl
    | 5, _ => rfl
  · rw [List.getElem?_eq_none (by simp only [Array.length_toList, size_madeCells]; omega), List.getElem?_eq_none (by rw [flat_len id _ h6, List.length_replicate]; omega)]
theorem nulls_ok {W : World} {b n : Nat} (h : W.ownsRow 0 43 6 (.slice (some ⟨b, 0, none⟩) n n) n (madeCells (Value.agg #[.int .i64 0, .int .i64 0, .string ⟨#[]⟩, .slice none 0 0, .bool false, .string ⟨#[]⟩]).cells (n * 6)).toList) (hn : n ≤ 5000) (root : Int) (hr : (Lit.int .i64 root).wf = true) :
    DocOk W 0 (List.replicate n noOb) (some ⟨b, 0, none⟩) (List.replicate n zeroOb) root := by
  have hrow := own_row h
  rw [made_rows] at hrow
  have hm : ∀ u ∈ List.replicate n noOb, u = noOb := fun u hu => List.eq_of_mem_replicate hu
  refine ⟨⟨by simp, fun r hr => ?_, hrow, fun i o r ho hr => ?_⟩, by simpa using hn, fun u hu => ?_, fun u hu => ?_, hr⟩
  · rw [List.eq_of_mem_replicate hr]; rfl
  · have h1 := hm o (List.mem_of_getElem? ho)
    have h2 : r = zeroOb := List.eq_of_mem_replicate (List.mem_of_getElem? hr)
    exact ⟨zeroCs, by rw [h1, h2]; rfl, by rw [h1]; exact lies_null W 0⟩
  · rw [hm u hu]
    have : noOb.v.size = 1 := by unfold noOb nullV; rw [V.size, sizeL]
    omega
  · rw [hm u hu]; exact null_wf
set_option maxHeartbeats 2000000 in
set_option maxRecDepth 100000 in
theorem walk (n : Int) (root : Int) (w : World) (h0 : 0 ≤ n) (h1 : n ≤ 65535) (hr : (Lit.int .i64 root).wf = true) :
    Calls Try.prog 4 #[.int .u16 n, .int .i64 root] w fun e w' => e = .returned (.bool true) ∧ Below w.heap.size w w' := by
  obtain ⟨k, rfl⟩ : ∃ k : Nat, n = (k : Int) := ⟨n.toNat, by omega⟩
  by_cases hbig : 5000 < k
  · have hb : (5000 : Int) < (k : Int) := by omega
    go_enter Try.func4, Try.ntmps4
    go_wp2_with fail
    refine (works_any _).mono ?_
    rintro e wz ⟨rfl, hPz⟩
    go_wp2_with fail
    go_ret
    exact ⟨rfl, hPz.below⟩
  · have hb : ¬ (5000 : Int) < (k : Int) := by omega
    have hk : k ≤ 5000 := by omega
    obtain ⟨i, hi, hz, hsize, hby⟩ := info_parts infoO
    have HI := Lib.hid hi
    have HZ := Lib.hid hz
    have HSi := Lib.hid hsize
    have HBy : Hid (i.bytes * k ≤ 281474976710656) := Lib.hid (by rw [hby]; omega)
    have HMx : Hid (k ≤ maxLen) := Lib.hid (by unfold maxLen; omega)
    have HR := Lib.hid hr
    clear hi hz hsize hby hbig hr
    go_enter Try.func4, Try.ntmps4
    go_wp2_with (refine wpList_make_full w rfl (.tmp 9) (.tmp 9) 22 rfl 0 43 i (.agg #[.int .i64 0, .int .i64 0, .string ⟨#[]⟩, .slice none 0 0, .bool false, .string ⟨#[]⟩]) 6 Try.underlying22 HI.out HZ.out HSi.out .u16 .u16 (k : Int) (k : Int) k rfl rfl rfl rfl HBy.out HMx.out (Nat.zero_le _) ?_; intro w2 hO2 hg2)
    have hE := ext_of_grown hg2
    have hP : Pure w w2 := hE.mono (fun _ _ e => nomatch e)
    have hD := nulls_ok hO2 hk root HR.out
    have HDo := doc_any 0 (List.replicate k noOb) (some ⟨w.heap.size, 0, none⟩) k _ root w2 hD (fun u hu => by rw [List.eq_of_mem_replicate hu]; exact Nat.zero_le _)
    rw [doc_null (fun o ho => List.eq_of_mem_replicate ho), List.length_replicate] at HDo
    have HDo := Lib.hid HDo
    have HP := Lib.hid hP
    clear hE hP hD hO2 hg2
    refine HDo.out.mono ?_
    by_cases hl : 4094 < k
    · have hli : (4094 : Int) < (k : Int) := by omega
      rw [if_pos hl]
      rintro e w3 ⟨rfl, hP3⟩
      have HP3 := Lib.hid (HP.out.pure hP3)
      clear hP3 hl
      go_wp2_with fail
      refine (works_any _).mono ?_
      rintro e wz ⟨rfl, hPz⟩
      go_wp2_with fail
      go_ret
      exact ⟨rfl, (HP3.out.pure hPz).below⟩
    · have hli : ¬ (4094 : Int) < (k : Int) := by omega
      rw [if_neg hl]
      rintro e w3 ⟨rfl, hP3⟩
      have HP3 := Lib.hid (HP.out.pure hP3)
      clear hP3 hl
      go_wp2_with fail
      refine (works_any _).mono ?_
      rintro e wz ⟨rfl, hPz⟩
      go_wp2_with fail
      go_ret
      exact ⟨rfl, (HP3.out.pure hPz).below⟩

set_option maxRecDepth 100000 in
theorem lifted (os : Os) (started : os.Started) (H : Type) (enc : TypeId × Value → H) :
    ReturnsInHanded {} Try.checked os 4 .any (Rows.checkManySpec.pre6 enc Try.prog Try.f4 Rows.checkManyRow.domain false) (Rows.checkManySpec.post enc Try.prog Try.f4 false true false false) := by
  refine returnsInHanded_of_change (C := Try.checked) own started (by kernel_rfl) Try.func4
    (ChangeSpec.witness6 (enc := enc) (C := Try.checked) false ⟨#[], #[.int .u16 0, .int .i64 0], []⟩ 8 (by kernel_rfl) (by kernel_rfl) (by kernel_rfl) (by kernel_rfl)) ?_
  intro W base args ds gs before hval0 hW hcnd _
  have hval : ∀ (j : Nat) t v, Try.f4.params[j]? = some t → args[j]? = some v → Value.okWide Try.prog W .any base t v := hval0
  have hW' := hW
  obtain ⟨p, q, hA0, hV, rfl, hfz, hnd⟩ := hW
  have hA : DataW.TrodAll enc Try.prog W 0 (fun _ => true) true Try.f4.params.toList args.toList ds p := hA0
  rw [Try.params4] at hA hval
  obtain ⟨v0, vs0, d0, ds0, p0, q0, hargs, rfl, rfl, h0, r0⟩ := trodAll_cons hA
  obtain ⟨v1, vs1, d1, ds1, p1, q1, rfl, rfl, rfl, h1, r1⟩ := trodAll_cons r0
  obtain ⟨rfl, rfl, rfl⟩ := trodAll_nil r1
  obtain rfl : args = #[v0, v1] := by cases args; simp_all
  obtain ⟨rfl, rfl⟩ := trodVars_none hV
  have k0 := h0
  have lt0 : ∀ x ∈ p0, x.block < W.heap.size := by obtain ⟨m, hm⟩ := k0; exact DataW.trod_lt m _ _ _ hm
  have k1 := h1
  have lt1 : ∀ x ∈ p1, x.block < W.heap.size := by obtain ⟨m, hm⟩ := k1; exact DataW.trod_lt m _ _ _ hm
  obtain ⟨x0, rfl, rfl, rfl, wx0⟩ := open_int Try.underlying33 (hval 0 33 v0 rfl rfl) h0
  obtain ⟨x1, rfl, rfl, rfl, wx1⟩ := open_int Try.underlying3 (hval 1 3 v1 rfl rfl) h1
  clear hA0 hval0
  have hx : 0 ≤ x0 ∧ x0 ≤ 65535 := by simpa [Lit.wf, IntKind.min, IntKind.max, IntKind.signed, IntKind.bits] using wx0
  refine (walk x0 x1 W hx.1 hx.2 wx1).mono fun e W' ⟨he, bel⟩ => ?_
  subst he
  exact ⟨_, rfl, _, _, _, [], _, [], hW', trodAll_mk1 (shut_bool Try.underlying4 _), (trodAll_cons_mk (Below.trod laidOut (by kernel_rfl) (of_decide_eq_true (by kernel_rfl)) k0 bel lt0) (trodAll_cons_mk (Below.trod laidOut (by kernel_rfl) (of_decide_eq_true (by kernel_rfl)) k1 bel lt1) trodAll_mk0)), rfl, bel.frame _, fun h => by cases h⟩

theorem proved : Rows.CheckManySaid :=
  OpenClaim.holds_of_wide 4 Try.f4 rfl rfl rfl rfl rfl rfl rfl ⟨rfl, rfl, rfl, rfl, rfl⟩ rfl rfl rfl rfl rfl (by kernel_rfl) Try.func4 (by kernel_rfl)
    (of_decide_eq_true (by kernel_rfl)) (by unfold Func.isWrapper; first | (rw [if_pos (by decide +kernel)]; kernel_rfl) | (rw [if_neg (by decide +kernel)]; exact ⟨rfl, rfl⟩))
    (fun os started H enc _ => lifted os started H enc)
#print axioms proved
end Go.Proofs.Ytkkmppalifjgnaa.checkMany
