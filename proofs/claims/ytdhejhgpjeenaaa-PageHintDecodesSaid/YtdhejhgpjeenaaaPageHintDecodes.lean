/-
  PageHintDecodes: for every row of bytes, and however many pages are asked for, the program's Decode and the reference's tell the same hints, the same place, the same length and the same error. No condition.
-/
import Derived.Test.YtdhejhgpjeenaaaWorks
namespace Go.Proofs.Ytdhejhgpjeenaaa.pageHintDecodes
open Go.ChangeShapes Go.WideShapes Go.ChangeAt Go.RowKit Go.Proofs.Ytdhejhgpjeenaaa C26
set_option linter.unusedVariables false

set_option maxHeartbeats 1000000 in
set_option maxRecDepth 100000 in
theorem walk (bd : Option Addr) (bc : Nat) (bl : List UInt8) (n : Int) (w : World) (hb : Bytes w bd bl) (hnil : bd = none → bc = 0) (hle : bl.length ≤ bc) :
    Calls Try.prog 4 #[.slice bd bl.length bc, .int .i64 n] w fun e w' => e = .returned (.bool true) ∧ Below w.heap.size w w' := by
  by_cases h400 : (400 : Int) < (bl.length : Int)
  · clear hb
    go_enter Try.func4, Try.ntmps4
    go_wp2_with fail
    refine (works_any _).mono ?_
    rintro e w2 ⟨rfl, hP⟩
    go_wp2_with fail
    go_ret
    exact ⟨rfl, hP.below⟩
  · have HD := Lib.hid (decode_any bd bc bl n w hb hnil hle (by omega))
    have HR := Lib.hid (fun W (hP : Pure w W) => refdecode_any bd bc bl n W (hb.pure hP) hnil hle (by omega))
    clear hb
    go_enter Try.func4, Try.ntmps4
    go_wp2_with fail
    refine HD.out.mono ?_
    rintro e w1 ⟨r, ps, oa, oc, rfl, hT, hR, hH, hpl, hP1⟩
    have HT := Lib.hid hT
    have HRs := Lib.hid hR
    have HH := Lib.hid hH
    clear HD hT hR hH
    go_wp2_with fail
    refine (HR.out w1 hP1).mono ?_
    rintro e w2 ⟨r2, qs, qa, qc, rfl, hT2, hR2, hH2, hql, hP2⟩
    obtain rfl := dec_unique HT.out hT2
    have hpv : ps.map pv = qs.map pv := HRs.out.trans hR2.symm
    have HS := Lib.hid (same_any oa oc ps qa qc qs w2 (HH.out.pure hP2) hH2 (by omega) (by omega))
    rw [alike_refl ps qs hpv] at HS
    have hQ2 := hP1.pure hP2
    clear hT2 hR2 hH2 hpv HR HT HRs HH hP1 hP2
    obtain ⟨ra, rm, re, hra⟩ : ∃ ra rm re, (ra, rm, re) = (r.a, r.m, r.e) := ⟨_, _, _, rfl⟩
    simp only [Prod.mk.injEq] at hra
    rw [← hra.1, ← hra.2.1, ← hra.2.2]
    clear hra
    go_wp2_with fail
    refine HS.out.mono ?_
    rintro e w3 ⟨rfl, hP3⟩
    go_wp2_with fail
    refine (works_any _).mono ?_
    rintro e w4 ⟨rfl, hP4⟩
    go_wp2_with fail
    go_ret
    exact ⟨rfl, ((hQ2.pure hP3).pure hP4).below⟩

set_option maxRecDepth 100000 in
theorem lifted (os : Os) (started : os.Started) (H : Type) (enc : TypeId × Value → H) :
    ReturnsInHanded {} Try.checked os 4 .any (Rows.pageHintDecodesSpec.pre6 enc Try.prog Try.f4 Rows.pageHintDecodesRow.domain false) (Rows.pageHintDecodesSpec.post enc Try.prog Try.f4 false true false false) := by
  refine returnsInHanded_of_change (C := Try.checked) own started (by kernel_rfl) Try.func4
    (ChangeSpec.witness6 (enc := enc) (C := Try.checked) false ⟨#[], #[.slice none 0 0, .int .i64 0], []⟩ 8 (by kernel_rfl) (by kernel_rfl) (by kernel_rfl) (by kernel_rfl)) ?_
  intro W base args ds gs before hval0 hW hcnd _
  have hval : ∀ (j : Nat) t v, Try.f4.params[j]? = some t → args[j]? = some v → Value.okWide Try.prog W .any base t v := hval0
  have hW' := hW
  obtain ⟨p, q, hA0, hV, rfl, hfz, hnd⟩ := hW
  have hA : DataW.TrodAll enc Try.prog W 0 (fun _ => true) true Try.f4.params.toList args.toList ds p := hA0
  rw [Try.params4] at hA hval
  obtain ⟨v0, vs0, d0, ds0, p0, q0, hargs, rfl, rfl, h0, r0⟩ := trodAll_cons hA
  obtain ⟨v1, vs1, d1, ds1, p1, q1, rfl, rfl, rfl, h1, r1⟩ := trodAll_cons r0
  obtain ⟨rfl, rfl, rfl⟩ := trodAll_nil r1
  obtain rfl : args = #[v0, v1] := by cases args; simp_all
  obtain ⟨rfl, rfl⟩ := trodVars_none hV
  have k0 := h0
  have lt0 : ∀ x ∈ p0, x.block < W.heap.size := by obtain ⟨m, hm⟩ := k0; exact DataW.trod_lt m _ _ _ hm
  have k1 := h1
  have lt1 : ∀ x ∈ p1, x.block < W.heap.size := by obtain ⟨m, hm⟩ := k1; exact DataW.trod_lt m _ _ _ hm
  obtain ⟨bd, bc, bl, rfl, hble, hbn, hbb⟩ := open_byts (hval 0 25 v0 rfl rfl) h0
  obtain ⟨x1, rfl, rfl, rfl, wx1⟩ := open_int Try.underlying3 (hval 1 3 v1 rfl rfl) h1
  clear hA0 hval0
  refine (walk bd bc bl x1 W hbb hbn hble).mono fun e W' ⟨he, bel⟩ => ?_
  subst he
  exact ⟨_, rfl, _, _, _, [], _, [], hW', trodAll_mk1 (shut_bool Try.underlying4 _), (trodAll_cons_mk (Below.trod laidOut (by kernel_rfl) (of_decide_eq_true (by kernel_rfl)) k0 bel lt0) (trodAll_cons_mk (Below.trod laidOut (by kernel_rfl) (of_decide_eq_true (by kernel_rfl)) k1 bel lt1) trodAll_mk0)), rfl, bel.frame _, fun h => by cases h⟩

theorem proved : Rows.PageHintDecodesSaid :=
  OpenClaim.holds_of_wide 4 Try.f4 rfl rfl rfl rfl rfl rfl rfl ⟨rfl, rfl, rfl, rfl, rfl⟩ rfl rfl rfl rfl rfl (by kernel_rfl) Try.func4 (by kernel_rfl)
    (of_decide_eq_true (by kernel_rfl)) (by unfold Func.isWrapper; first | (rw [if_pos (by decide +kernel)]; kernel_rfl) | (rw [if_neg (by decide +kernel)]; exact ⟨rfl, rfl⟩))
    (fun os started H enc _ => lifted os started H enc)
#print axioms proved
end Go.Proofs.Ytdhejhgpjeenaaa.pageHintDecodes
