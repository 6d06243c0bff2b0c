/-
  ShareHintEncodes: for every table the bytes of the program's Encode are those of the reference's, or both tell the same error, and so does Check. No condition.
-/
import Derived.Test.YtjnpjkenmkgooaaOpenTab
namespace Go.Proofs.Ytjnpjkenmkgooaa.shareHintEncodes
open Go.ChangeShapes Go.WideShapes Go.ChangeAt Go.RowKit Go.Proofs.Ytjnpjkenmkgooaa C27
set_option linter.unusedVariables false

set_option maxRecDepth 100000 in
theorem walk (o a f : Int) (la : Option Addr) (c : Nat) (ls : List Int) (w : World) (hl : (ls.length : Int) ≤ 9223372036854775807) (hr : RowOf w la (ls.map numV)) :
    Calls Try.prog 3 #[tblV o a f la ls.length c] w fun e w' => e = .returned (.bool true) ∧ Below w.heap.size w w' := by
  obtain ⟨w1, hw1⟩ : ∃ w1, w1 = w.alloc (.cells #[.int .i64 o, .int .i64 a, .int .i64 f, .slice la ls.length c] 24) := ⟨_, rfl⟩
  have hB1 : BlockIs w1 w.heap.size [.int .i64 o, .int .i64 a, .int .i64 f, .slice la ls.length c] 24 := hw1 ▸ BlockIs.new w _ _
  have hP1 : Pure w w1 := hw1 ▸ ext_alloc w _
  have HTo0 := fun W => to_any o a f la ls.length c W
  have HEn0 := fun W (hP : Pure w W) => encode_any o a f la c ls W (hr.ext hP (fun _ _ => id)) hl
  have HRe0 := fun W (hP : Pure w W) => refencode_any o a f la c ls W (hr.ext hP (fun _ _ => id)) hl
  have HCh0 := fun W (hP : Pure w W) => check_any o a f la c ls W (hr.ext hP (fun _ _ => id)) hl
  have hE : (if okT o a f ls then (0 : Int) else 2) = encE o a f ls := rfl
  obtain ⟨B, hB⟩ : ∃ B, B = encB o a f ls := ⟨_, rfl⟩
  obtain ⟨E, hEE⟩ : ∃ E, E = encE o a f ls := ⟨_, rfl⟩
  unfold EncTo at HEn0 HRe0
  unfold ChkRes at HCh0
  rw [← hEE] at hE
  rw [hE] at HCh0
  rw [← hB, ← hEE] at HEn0 HRe0
  have HTo := Lib.hid HTo0
  have HEn := Lib.hid HEn0
  have HRe := Lib.hid HRe0
  have HCh := Lib.hid HCh0
  clear HTo0 HEn0 HRe0 HCh0 hE hB hEE hr hl
  unfold tblV at HTo HEn HRe HCh ⊢
  by_cases h100 : (100 : Int) < (ls.length : Int)
  · go_enter Try.func3, Try.ntmps3
    go_wp2_with fail
    refine (works_any _).mono ?_
    rintro e w2 ⟨rfl, hP⟩
    go_wp2_with fail
    go_ret
    exact ⟨rfl, ((ext_alloc w _).pure hP).below⟩
  · go_enter Try.func3, Try.ntmps3
    go_wp2_with fail
    rw [← hw1]
    clear hw1
    refine (HTo.out _).mono ?_
    rintro e w2 ⟨rfl, hP2⟩
    have hB2 := hB1.ext hP2 id
    have hQ2 := hP1.pure hP2
    go_wp2_with fail
    refine (HEn.out _ hQ2).mono ?_
    rintro e w3 ⟨ra, rc, rfl, hN3⟩
    have hB3 := hB2.ext hN3.ext id
    have hQ3 := hQ2.pure hN3.ext
    have b0 : w3.cell? ⟨w.heap.size, 0, none⟩ = some (.int .i64 o) := hB3.cell 0
    have b1 : w3.cell? ⟨w.heap.size, 0 + 1, none⟩ = some (.int .i64 a) := hB3.cell 1
    have b2 : w3.cell? ⟨w.heap.size, 0 + 2, none⟩ = some (.int .i64 f) := hB3.cell 2
    have b3 : w3.cell? ⟨w.heap.size, 0 + 3, none⟩ = some (.slice la ls.length c) := hB3.cell 3
    go_wp2_with fail
    refine (HRe.out _ hQ3).mono ?_
    rintro e w4 ⟨rb, rd, rfl, hN4⟩
    have hB4 := hB3.ext hN4.ext id
    have hQ4 := hQ3.pure hN4.ext
    clear b0 b1 b2 b3
    have b0 : w4.cell? ⟨w.heap.size, 0, none⟩ = some (.int .i64 o) := hB4.cell 0
    have b1 : w4.cell? ⟨w.heap.size, 0 + 1, none⟩ = some (.int .i64 a) := hB4.cell 1
    have b2 : w4.cell? ⟨w.heap.size, 0 + 2, none⟩ = some (.int .i64 f) := hB4.cell 2
    have b3 : w4.cell? ⟨w.heap.size, 0 + 3, none⟩ = some (.slice la ls.length c) := hB4.cell 3
    have c1 := conv_str w4 ra rc B.length B rfl hN3.nil (hN3.bytes.ext hN4.ext (fun _ _ => id))
    have c2 := conv_str w4 rb rd B.length B rfl hN4.nil hN4.bytes
    clear hN3 hN4
    go_wp2_with fail
    refine (HTo.out _).mono ?_
    rintro e w5 ⟨rfl, hP5⟩
    go_wp2_with fail
    refine (HCh.out _ (hQ4.pure hP5)).mono ?_
    rintro e w6 ⟨rfl, hP6⟩
    go_wp2_with fail
    refine (works_any _).mono ?_
    rintro e w7 ⟨rfl, hP7⟩
    go_wp2_with fail
    go_ret
    exact ⟨rfl, (((hQ4.pure hP5).pure hP6).pure hP7).below⟩

theorem lifted (os : Os) (started : os.Started) (H : Type) (enc : TypeId × Value → H) :
    ReturnsInHanded {} Try.checked os 3 .any (Rows.shareHintEncodesSpec.pre6 enc Try.prog Try.f3 Rows.shareHintEncodesRow.domain false) (Rows.shareHintEncodesSpec.post enc Try.prog Try.f3 false true false false) := by
  refine returnsInHanded_of_change (C := Try.checked) own started (by kernel_rfl) Try.func3
    (ChangeSpec.witness6 (enc := enc) (C := Try.checked) false ⟨#[], #[.agg #[.int .i64 0, .int .i64 0, .int .i64 0, .slice none 0 0]], []⟩ 8 (by kernel_rfl) (by kernel_rfl) (by kernel_rfl) (by kernel_rfl)) ?_
  intro W base args ds gs before hval0 hW hcnd _
  have hval : ∀ (j : Nat) t v, Try.f3.params[j]? = some t → args[j]? = some v → Value.okWide Try.prog W .any base t v := hval0
  have hW' := hW
  obtain ⟨p, q, hA0, hV, rfl, hfz, hnd⟩ := hW
  have hA : DataW.TrodAll enc Try.prog W 0 (fun _ => true) true Try.f3.params.toList args.toList ds p := hA0
  rw [Try.params3] at hA hval
  obtain ⟨v0, vs0, d0, ds0, p0, q0, hargs, rfl, rfl, h0, r0⟩ := trodAll_cons hA
  obtain ⟨rfl, rfl, rfl⟩ := trodAll_nil r0
  obtain rfl : args = #[v0] := by cases args; simp_all
  obtain ⟨rfl, rfl⟩ := trodVars_none hV
  have k0 := h0
  have lt0 : ∀ x ∈ p0, x.block < W.heap.size := by obtain ⟨m, hm⟩ := k0; exact DataW.trod_lt m _ _ _ hm
  obtain ⟨o, a, f, la, c, ls, rfl, hl, hrow⟩ := open_tab (hval 0 24 v0 rfl rfl) h0
  clear hA0 hval0
  refine (walk o a f la c ls W hl hrow).mono fun e W' ⟨he, bel⟩ => ?_
  subst he
  exact ⟨_, rfl, _, _, _, [], _, [], hW', trodAll_mk1 (shut_bool Try.underlying4 _), (trodAll_cons_mk (Below.trod laidOut (by kernel_rfl) (of_decide_eq_true (by kernel_rfl)) k0 bel lt0) trodAll_mk0), rfl, bel.frame _, fun h => by cases h⟩

theorem proved : Rows.ShareHintEncodesSaid :=
  OpenClaim.holds_of_wide 3 Try.f3 rfl rfl rfl rfl rfl rfl rfl ⟨rfl, rfl, rfl, rfl, rfl⟩ rfl rfl rfl rfl rfl (by kernel_rfl) Try.func3 (by kernel_rfl)
    (of_decide_eq_true (by kernel_rfl)) (by unfold Func.isWrapper; first | (rw [if_pos (by decide +kernel)]; kernel_rfl) | (rw [if_neg (by decide +kernel)]; exact ⟨rfl, rfl⟩))
    (fun os started H enc _ => lifted os started H enc)
#print axioms proved
end Go.Proofs.Ytjnpjkenmkgooaa.shareHintEncodes
