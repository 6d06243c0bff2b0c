/-
  PageHintEncodes: for all hints the bytes of the program's Encode are those of the reference's, or both tell the same error, and so does Check. No condition.
-/
import Derived.Test.YtdhejhgpjeenaaaWorks
namespace Go.Proofs.Ytdhejhgpjeenaaa.pageHintEncodes
open Go.ChangeShapes Go.WideShapes Go.ChangeAt Go.RowKit Go.Proofs.Ytdhejhgpjeenaaa C26
set_option linter.unusedVariables false

set_option maxHeartbeats 1000000 in
set_option maxRecDepth 100000 in
theorem walk (a : Int) (ad : Option Addr) (c : Nat) (ps : List PH) (w : World) (hl : (ps.length : Int) ≤ 9223372036854775807) (hH : Hints w ad ps) :
    Calls Try.prog 3 #[.int .i64 a, .slice ad ps.length c] w fun e w' => e = .returned (.bool true) ∧ Below w.heap.size w w' := by
  have HF0 := few_any ad c ps w hH hl
  obtain ⟨F, hF⟩ : ∃ F, F = fewB ps := ⟨_, rfl⟩
  rw [← hF] at HF0
  have HF := Lib.hid HF0
  clear HF0
  cases F with
  | false =>
    clear hH hF
    go_enter Try.func3, Try.ntmps3
    go_wp2_with fail
    refine HF.out.mono ?_
    rintro e w1 ⟨rfl, hw1⟩
    obtain rfl := hw1.symm
    go_wp2_with fail
    refine (works_any _).mono ?_
    rintro e w2 ⟨rfl, hP⟩
    go_wp2_with fail
    go_ret
    exact ⟨rfl, hP.below⟩
  | true =>
    obtain ⟨hf1, hf2⟩ := fewB_true.1 hF.symm
    have hm : Mod ps := ⟨hf1, fun p hp => by have := hf2 p hp; omega⟩
    have HEn0 := fun W (hP : Pure w W) => encode_any a ad c ps W (hH.pure hP) hm
    have HRe0 := fun W (hP : Pure w W) => refencode_any a ad c ps W (hH.pure hP) hm
    have HCh0 := fun W (hP : Pure w W) => check_any a ad c ps W (hH.pure hP) hm
    obtain ⟨B, hB⟩ : ∃ B, B = encB a ps := ⟨_, rfl⟩
    obtain ⟨E, hE⟩ : ∃ E, E = chk a ps := ⟨_, rfl⟩
    unfold EncTo at HEn0 HRe0
    unfold IntRes at HCh0
    rw [← hB, ← hE] at HEn0 HRe0
    rw [← hE] at HCh0
    have HEn := Lib.hid HEn0
    have HRe := Lib.hid HRe0
    have HCh := Lib.hid HCh0
    clear HEn0 HRe0 HCh0 hB hE hH hF hf1 hf2 hm
    go_enter Try.func3, Try.ntmps3
    go_wp2_with fail
    refine HF.out.mono ?_
    rintro e w1 ⟨rfl, hw1⟩
    obtain rfl := hw1.symm
    go_wp2_with fail
    refine (HEn.out _ (Ext.refl _ _)).mono ?_
    rintro e w3 ⟨ra, rc, rfl, hN3⟩
    have hQ3 := hN3.ext
    go_wp2_with fail
    refine (HRe.out _ hQ3).mono ?_
    rintro e w4 ⟨rb, rd, rfl, hN4⟩
    have hQ4 := hQ3.pure hN4.ext
    have c1 := conv_str w4 ra rc B.length B rfl hN3.nil (hN3.bytes.ext hN4.ext (fun _ _ => id))
    have c2 := conv_str w4 rb rd B.length B rfl hN4.nil hN4.bytes
    clear hN3 hN4
    go_wp2_with fail
    refine (HCh.out _ hQ4).mono ?_
    rintro e w6 ⟨rfl, hP6⟩
    go_wp2_with fail
    refine (works_any _).mono ?_
    rintro e w7 ⟨rfl, hP7⟩
    go_wp2_with fail
    go_ret
    exact ⟨rfl, ((hQ4.pure hP6).pure hP7).below⟩

set_option maxRecDepth 100000 in
theorem lifted (os : Os) (started : os.Started) (H : Type) (enc : TypeId × Value → H) :
    ReturnsInHanded {} Try.checked os 3 .any (Rows.pageHintEncodesSpec.pre6 enc Try.prog Try.f3 Rows.pageHintEncodesRow.domain false) (Rows.pageHintEncodesSpec.post enc Try.prog Try.f3 false true false false) := by
  refine returnsInHanded_of_change (C := Try.checked) own started (by kernel_rfl) Try.func3
    (ChangeSpec.witness6 (enc := enc) (C := Try.checked) false ⟨#[], #[.int .i64 0, .slice none 0 0], []⟩ 8 (by kernel_rfl) (by kernel_rfl) (by kernel_rfl) (by kernel_rfl)) ?_
  intro W base args ds gs before hval0 hW hcnd _
  have hval : ∀ (j : Nat) t v, Try.f3.params[j]? = some t → args[j]? = some v → Value.okWide Try.prog W .any base t v := hval0
  have hW' := hW
  obtain ⟨p, q, hA0, hV, rfl, hfz, hnd⟩ := hW
  have hA : DataW.TrodAll enc Try.prog W 0 (fun _ => true) true Try.f3.params.toList args.toList ds p := hA0
  rw [Try.params3] at hA hval
  obtain ⟨v0, vs0, d0, ds0, p0, q0, hargs, rfl, rfl, h0, r0⟩ := trodAll_cons hA
  obtain ⟨v1, vs1, d1, ds1, p1, q1, rfl, rfl, rfl, h1, r1⟩ := trodAll_cons r0
  obtain ⟨rfl, rfl, rfl⟩ := trodAll_nil r1
  obtain rfl : args = #[v0, v1] := by cases args; simp_all
  obtain ⟨rfl, rfl⟩ := trodVars_none hV
  have k0 := h0
  have lt0 : ∀ x ∈ p0, x.block < W.heap.size := by obtain ⟨m, hm⟩ := k0; exact DataW.trod_lt m _ _ _ hm
  have k1 := h1
  have lt1 : ∀ x ∈ p1, x.block < W.heap.size := by obtain ⟨m, hm⟩ := k1; exact DataW.trod_lt m _ _ _ hm
  obtain ⟨x0, rfl, rfl, rfl, wx0⟩ := open_int Try.underlying3 (hval 0 3 v0 rfl rfl) h0
  obtain ⟨ad, c, ps, rfl, hl, hH⟩ := open_hints (hval 1 22 v1 rfl rfl) h1
  clear hA0 hval0
  refine (walk x0 ad c ps W hl hH).mono fun e W' ⟨he, bel⟩ => ?_
  subst he
  exact ⟨_, rfl, _, _, _, [], _, [], hW', trodAll_mk1 (shut_bool Try.underlying4 _), (trodAll_cons_mk (Below.trod laidOut (by kernel_rfl) (of_decide_eq_true (by kernel_rfl)) k0 bel lt0) (trodAll_cons_mk (Below.trod laidOut (by kernel_rfl) (of_decide_eq_true (by kernel_rfl)) k1 bel lt1) trodAll_mk0)), rfl, bel.frame _, fun h => by cases h⟩

theorem proved : Rows.PageHintEncodesSaid :=
  OpenClaim.holds_of_wide 3 Try.f3 rfl rfl rfl rfl rfl rfl rfl ⟨rfl, rfl, rfl, rfl, rfl⟩ rfl rfl rfl rfl rfl (by kernel_rfl) Try.func3 (by kernel_rfl)
    (of_decide_eq_true (by kernel_rfl)) (by unfold Func.isWrapper; first | (rw [if_pos (by decide +kernel)]; kernel_rfl) | (rw [if_neg (by decide +kernel)]; exact ⟨rfl, rfl⟩))
    (fun os started H enc _ => lifted os started H enc)
#print axioms proved
end Go.Proofs.Ytdhejhgpjeenaaa.pageHintEncodes
