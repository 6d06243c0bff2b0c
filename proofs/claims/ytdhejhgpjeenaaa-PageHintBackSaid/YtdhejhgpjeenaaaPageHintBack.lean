/-
  PageHintBack: what is encoded is decoded, by the program and by the reference, whatever is behind. No condition.
-/
import Derived.Test.YtdhejhgpjeenaaaWorks
namespace Go.Proofs.Ytdhejhgpjeenaaa.pageHintBack
open Go.ChangeShapes Go.WideShapes Go.ChangeAt Go.RowKit Go.Proofs.Ytdhejhgpjeenaaa C26
set_option linter.unusedVariables false

set_option maxHeartbeats 1000000 in
set_option maxRecDepth 100000 in
theorem walk_few (a : Int) (ad : Option Addr) (c : Nat) (ps : List PH) (bd : Option Addr) (bc : Nat) (bl : List UInt8) (w : World) (hl : (ps.length : Int) ≤ 9223372036854775807) (hH : Hints w ad ps) (hno : fewB ps = false ∨ (fewB ps = true ∧ (300 : Int) < (bl.length : Int))) :
    Calls Try.prog 5 #[.int .i64 a, .slice ad ps.length c, .slice bd bl.length bc] w fun e w' => e = .returned (.bool true) ∧ Below w.heap.size w w' := by
  have HF0 := few_any ad c ps w hH hl
  rcases hno with h | ⟨h, h3⟩
  all_goals
    rw [h] at HF0
    have HF := Lib.hid HF0
    clear HF0 h hH
    go_enter Try.func5, Try.ntmps5
    go_wp2_with fail
    refine HF.out.mono ?_
    rintro e w1 ⟨rfl, hw1⟩
    obtain rfl := hw1.symm
    go_wp2_with fail
    refine (works_any _).mono ?_
    rintro e w2 ⟨rfl, hP⟩
    go_wp2_with fail
    go_ret
    exact ⟨rfl, hP.below⟩
set_option maxHeartbeats 1000000 in
set_option maxRecDepth 100000 in
theorem walk_bad (a : Int) (ad : Option Addr) (c : Nat) (ps : List PH) (bd : Option Addr) (bc : Nat) (bl : List UInt8) (w : World) (hl : (ps.length : Int) ≤ 9223372036854775807) (hH : Hints w ad ps) (hf : fewB ps = true) (h3 : (bl.length : Int) ≤ 300) (hm : Mod ps) (hz : chk a ps ≠ 0) :
    Calls Try.prog 5 #[.int .i64 a, .slice ad ps.length c, .slice bd bl.length bc] w fun e w' => e = .returned (.bool true) ∧ Below w.heap.size w w' := by
  have HF0 := few_any ad c ps w hH hl
  rw [hf] at HF0
  have HEn0 := encode_any a ad c ps w hH hm
  have HCh0 := fun W (hP : Pure w W) => refcheck_any a ad c ps W (hH.pure hP) hm
  unfold EncTo at HEn0
  unfold IntRes at HCh0
  have hB : encB a ps = [] := if_neg hz
  obtain ⟨E, hE⟩ : ∃ E, E = chk a ps := ⟨_, rfl⟩
  rw [hB, ← hE] at HEn0
  rw [← hE] at HCh0
  have hne : (E != 0) = true := by rw [hE]; simpa using hz
  have HF := Lib.hid HF0
  have HEn := Lib.hid HEn0
  have HCh := Lib.hid HCh0
  clear HF0 HEn0 HCh0 hB hE hH hf hz hm
  go_enter Try.func5, Try.ntmps5
  go_wp2_with fail
  refine HF.out.mono ?_
  rintro e w1 ⟨rfl, hw1⟩
  obtain rfl := hw1.symm
  go_wp2_with fail
  refine HEn.out.mono ?_
  rintro e w2 ⟨ra, rc, rfl, hN⟩
  have hQ2 := hN.ext
  clear hN
  go_wp2_with fail
  refine (HCh.out w2 hQ2).mono ?_
  rintro e w3 ⟨rfl, hP3⟩
  go_wp2_with fail
  refine (works_any _).mono ?_
  rintro e w4 ⟨rfl, hP4⟩
  go_wp2_with fail
  go_ret
  exact ⟨rfl, ((hQ2.pure hP3).pure hP4).below⟩
set_option maxHeartbeats 2000000 in
set_option maxRecDepth 100000 in
theorem walk_yes (a : Nat) (ad : Option Addr) (c : Nat) (ps : List PH) (bd : Option Addr) (bc : Nat) (bl : List UInt8) (w : World) (hl : (ps.length : Int) ≤ 9223372036854775807) (hH : Hints w ad ps) (hf : fewB ps = true) (h3 : bl.length ≤ 300) (hm : Mod ps) (hz : chk a ps = 0) (hb : Bytes w bd bl) (hnil : bd = none → bc = 0) (hle : bl.length ≤ bc) :
    Calls Try.prog 5 #[.int .i64 a, .slice ad ps.length c, .slice bd bl.length bc] w fun e w' => e = .returned (.bool true) ∧ Below w.heap.size w w' := by
  have HF0 := few_any ad c ps w hH hl
  rw [hf] at HF0
  have hk := chk_ok hz hm
  obtain ⟨P, hPP⟩ : ∃ P, P = pack true (tabB a (toN ps) rest0) := ⟨_, rfl⟩
  have htl : P.length ≤ 600000 := hPP ▸ tab_len hk.ok (by decide) (by decide) (by decide)
  have hB : encB (a : Int) ps = P := by rw [hPP]; exact if_pos hz
  have HEn0 := encode_any a ad c ps w hH hm
  unfold EncTo at HEn0
  rw [hB, hz] at HEn0
  have hPl : (P ++ bl).length = P.length + bl.length := List.length_append
  have HDe0 := fun (ra : Option Addr) (rc : Nat) W (h1 : Bytes W ra (P ++ bl)) (h2 : ra = none → rc = 0) (h3 : (P ++ bl).length ≤ rc) => decode_tab (a := a) (ps := ps) (r := rest0) bl ra rc (P ++ bl) (by rw [hPP]) W hk (by decide) (by decide) (by decide) (by decide) h1 h2 h3 (by rw [hPl]; omega)
  have HRe0 := fun (ra : Option Addr) (rc : Nat) W (h1 : Bytes W ra (P ++ bl)) (h2 : ra = none → rc = 0) (h3 : (P ++ bl).length ≤ rc) => refdecode_tab (a := a) (ps := ps) (r := rest0) bl ra rc (P ++ bl) (by rw [hPP]) W hk (by decide) (by decide) (by decide) (by decide) h1 h2 h3 (by rw [hPl]; omega)
  unfold HintsTo at HDe0 HRe0
  rw [← hPP, hPl] at HDe0 HRe0
  have HSa0 := fun W (qs : List PH) (qa : Option Addr) (qc : Nat) (hP : Pure w W) (h1 : Hints W qa qs) (h2 : qs.map pv = ps.map pv) => same_any qa qc qs ad c ps W h1 (hH.pure hP) (by have := congrArg List.length h2; simp at this; omega) hl
  have HF := Lib.hid HF0
  have HEn := Lib.hid HEn0
  have HDe := Lib.hid HDe0
  have HRe := Lib.hid HRe0
  have HSa := Lib.hid HSa0
  have HPL := Lib.hid hPl
  obtain ⟨np, hnp⟩ : ∃ np, np = ps.length := ⟨_, rfl⟩
  have hm40 : np ≤ 40 := by have := hm.pages; omega
  clear HF0 HEn0 HDe0 HRe0 HSa0 hPP hB hPl hk hH hf hz hm
  have hbi : ¬ (300 : Int) < (bl.length : Int) := by omega
  go_enter Try.func5, Try.ntmps5
  go_wp2_with fail
  refine HF.out.mono ?_
  rintro e w1 ⟨rfl, hw1⟩
  obtain rfl := hw1.symm
  clear HF
  go_wp2_with fail
  refine HEn.out.mono ?_
  rintro e w3 ⟨ra, rc, rfl, hN⟩
  have hQ3 := hN.ext
  have hPr := hN.bytes
  have hN3 := hN.nil
  have hN4 := hN.le
  have hsz := hQ3.size
  clear hN HEn hbi
  go_wp2_with (at_builtin; refine wpList_append_fresh rfl (.tmp 47) (.tmp 48) 25 rfl w3.heap.size 5 (.int .u8 0) 1 1 Try.underlying25 infoByte rfl (by decide) (.slice (some ⟨w3.heap.size, 0, none⟩) 0 0) 0 [] rfl (own_new (cs := []) rfl (Nat.zero_le _) w3.heap.size (Nat.le_refl _)) ra P.length rc (P.map byV) rfl (fun h => ⟨by have := hN3 h; omega, hN3 h⟩) (by simp) (hPr.ext (ext_alloc w3 _) (fun _ _ => id)) (byV_one _) P.length (by simp) (P.map byV) (by simp) (by omega) (by unfold maxLen; omega) (by simp) ?_)
  intro a4 c4 w4 hO4 hg4 hfr4
  have hX4 : Ext (fun i => i = w3.heap.size) w3 w4 := (ext_alloc w3 (.cells #[] 5)).trans' (ext_of_grown hg4) (fun _ _ e => e.elim) (fun i hi e => (Option.some.inj e).symm)
  have hQ4 : Pure w w4 := hQ3.trans hX4 (fun i hi e => by have e' : i = w3.heap.size := e; omega)
  have hb4 := hb.pure hQ4
  have hsz4 := hX4.size
  clear hX4 hg4 hfr4 hQ3 hPr hb
  go_wp2_with (at_builtin; refine wpList_append_fresh rfl (.tmp 49) (.tmp 50) 25 rfl w3.heap.size 5 (.int .u8 0) 1 1 Try.underlying25 infoByte rfl (by decide) (.slice a4 P.length c4) P.length (P.map byV) rfl hO4 bd bl.length bc (bl.map byV) rfl (fun h => ⟨by have := hnil h; omega, hnil h⟩) (by simp) hb4 (byV_one _) (P.length + bl.length) rfl ((P ++ bl).map byV) (by simp) (by omega) (by unfold maxLen; omega) (by omega) ?_)
  intro a5 c5 w5 hO5 hg5 hfr5
  have hX5 := ext_of_grown hg5
  have hQ5 : Pure w w5 := hQ4.trans hX5 (fun i hi e => by have := (hO4.lt _ e).1; omega)
  obtain ⟨_, _, hh, h1, h2, h4, h5⟩ := own_form hO5
  cases hh
  have hby5 : Bytes w5 a5 (P ++ bl) := by unfold Bytes; rw [List.map_append]; exact own_row hO5
  have HD := Lib.hid (HDe.out a5 c5 w5 hby5 h4 h1)
  have HRd := Lib.hid (fun W (hP : Pure w5 W) => HRe.out a5 c5 W (hby5.pure hP) h4 h1)
  clear hO5 hO4 hg5 hfr5 hX5 hb4 hQ4 hby5 HDe HRe
  go_wp2_with fail
  refine HD.out.mono ?_
  rintro e w6 ⟨qs, oa, oc, rfl, hq1, hH1, hP6⟩
  have hql : qs.length = ps.length := by have := congrArg List.length hq1; simpa using this
  have HQ1 := Lib.hid hq1
  have HH1 := Lib.hid hH1
  have HQL := Lib.hid hql
  clear HD hq1 hH1 hql
  go_wp2_with fail
  refine (HRd.out w6 hP6).mono ?_
  rintro e w7 ⟨rs, pa, pc, rfl, hq2, hH2, hP7⟩
  have hrl : rs.length = ps.length := by have := congrArg List.length hq2; simpa using this
  have hQ7 := (hQ5.pure hP6).pure hP7
  have HS1 := HSa.out w7 qs oa oc hQ7 (HH1.out.pure hP7) HQ1.out
  rw [alike_refl qs ps HQ1.out, HQL.out] at HS1
  have HS2 := fun W (hP : Pure w7 W) => HSa.out W rs pa pc (hQ7.pure hP) (hH2.pure hP) hq2
  rw [alike_refl rs ps hq2, hrl] at HS2
  have HS1 := Lib.hid HS1
  have HS2 := Lib.hid HS2
  clear hq2 hH2 hrl HRd HQ1 HH1 HQL HSa hQ5 hP6 hP7
  go_wp2_with fail
  refine HS1.out.mono ?_
  rintro e w8 ⟨rfl, hP8⟩
  clear HS1
  go_wp2_with fail
  refine (HS2.out w8 hP8).mono ?_
  rintro e w9 ⟨rfl, hP9⟩
  go_wp2_with fail
  refine (works_any _).mono ?_
  rintro e w10 ⟨rfl, hP10⟩
  go_wp2_with fail
  go_ret
  exact ⟨rfl, (((hQ7.pure hP8).pure hP9).pure hP10).below⟩
theorem walk (a : Int) (ad : Option Addr) (c : Nat) (ps : List PH) (bd : Option Addr) (bc : Nat) (bl : List UInt8) (w : World) (hl : (ps.length : Int) ≤ 9223372036854775807) (hH : Hints w ad ps) (hb : Bytes w bd bl) (hnil : bd = none → bc = 0) (hle : bl.length ≤ bc) :
    Calls Try.prog 5 #[.int .i64 a, .slice ad ps.length c, .slice bd bl.length bc] w fun e w' => e = .returned (.bool true) ∧ Below w.heap.size w w' := by
  by_cases hf : fewB ps = true
  · by_cases h3 : (300 : Int) < (bl.length : Int)
    · exact walk_few a ad c ps bd bc bl w hl hH (Or.inr ⟨hf, h3⟩)
    · obtain ⟨hf1, hf2⟩ := fewB_true.1 hf
      have hm : Mod ps := ⟨hf1, fun p hp => by have := hf2 p hp; omega⟩
      by_cases hz : chk a ps = 0
      · have hk := chk_ok hz hm
        obtain ⟨n, rfl⟩ : ∃ n : Nat, a = (n : Int) := ⟨a.toNat, by have := hk.a; omega⟩
        exact walk_yes n ad c ps bd bc bl w hl hH hf (by omega) hm hz hb hnil hle
      · exact walk_bad a ad c ps bd bc bl w hl hH hf (by omega) hm hz
  · exact walk_few a ad c ps bd bc bl w hl hH (Or.inl (by simpa using hf))

set_option maxRecDepth 100000 in
theorem lifted (os : Os) (started : os.Started) (H : Type) (enc : TypeId × Value → H) :
    ReturnsInHanded {} Try.checked os 5 .any (Rows.pageHintBackSpec.pre6 enc Try.prog Try.f5 Rows.pageHintBackRow.domain false) (Rows.pageHintBackSpec.post enc Try.prog Try.f5 false true false false) := by
  refine returnsInHanded_of_change (C := Try.checked) own started (by kernel_rfl) Try.func5
    (ChangeSpec.witness6 (enc := enc) (C := Try.checked) false ⟨#[], #[.int .i64 0, .slice none 0 0, .slice none 0 0], []⟩ 8 (by kernel_rfl) (by kernel_rfl) (by kernel_rfl) (by kernel_rfl)) ?_
  intro W base args ds gs before hval0 hW hcnd _
  have hval : ∀ (j : Nat) t v, Try.f5.params[j]? = some t → args[j]? = some v → Value.okWide Try.prog W .any base t v := hval0
  have hW' := hW
  obtain ⟨p, q, hA0, hV, rfl, hfz, hnd⟩ := hW
  have hA : DataW.TrodAll enc Try.prog W 0 (fun _ => true) true Try.f5.params.toList args.toList ds p := hA0
  rw [Try.params5] at hA hval
  obtain ⟨v0, vs0, d0, ds0, p0, q0, hargs, rfl, rfl, h0, r0⟩ := trodAll_cons hA
  obtain ⟨v1, vs1, d1, ds1, p1, q1, rfl, rfl, rfl, h1, r1⟩ := trodAll_cons r0
  obtain ⟨v2, vs2, d2, ds2, p2, q2, rfl, rfl, rfl, h2, r2⟩ := trodAll_cons r1
  obtain ⟨rfl, rfl, rfl⟩ := trodAll_nil r2
  obtain rfl : args = #[v0, v1, v2] := by cases args; simp_all
  obtain ⟨rfl, rfl⟩ := trodVars_none hV
  have k0 := h0
  have lt0 : ∀ x ∈ p0, x.block < W.heap.size := by obtain ⟨m, hm⟩ := k0; exact DataW.trod_lt m _ _ _ hm
  have k1 := h1
  have lt1 : ∀ x ∈ p1, x.block < W.heap.size := by obtain ⟨m, hm⟩ := k1; exact DataW.trod_lt m _ _ _ hm
  have k2 := h2
  have lt2 : ∀ x ∈ p2, x.block < W.heap.size := by obtain ⟨m, hm⟩ := k2; exact DataW.trod_lt m _ _ _ hm
  obtain ⟨x0, rfl, rfl, rfl, wx0⟩ := open_int Try.underlying3 (hval 0 3 v0 rfl rfl) h0
  obtain ⟨ad, c, ps, rfl, hl, hH⟩ := open_hints (hval 1 22 v1 rfl rfl) h1
  obtain ⟨bd, bc, bl, rfl, hble, hbn, hbb⟩ := open_byts (hval 2 25 v2 rfl rfl) h2
  clear hA0 hval0
  refine (walk x0 ad c ps bd bc bl W hl hH hbb hbn hble).mono fun e W' ⟨he, bel⟩ => ?_
  subst he
  exact ⟨_, rfl, _, _, _, [], _, [], hW', trodAll_mk1 (shut_bool Try.underlying4 _), (trodAll_cons_mk (Below.trod laidOut (by kernel_rfl) (of_decide_eq_true (by kernel_rfl)) k0 bel lt0) (trodAll_cons_mk (Below.trod laidOut (by kernel_rfl) (of_decide_eq_true (by kernel_rfl)) k1 bel lt1) (trodAll_cons_mk (Below.trod laidOut (by kernel_rfl) (of_decide_eq_true (by kernel_rfl)) k2 bel lt2) trodAll_mk0))), rfl, bel.frame _, fun h => by cases h⟩

theorem proved : Rows.PageHintBackSaid :=
  OpenClaim.holds_of_wide 5 Try.f5 rfl rfl rfl rfl rfl rfl rfl ⟨rfl, rfl, rfl, rfl, rfl⟩ rfl rfl rfl rfl rfl (by kernel_rfl) Try.func5 (by kernel_rfl)
    (of_decide_eq_true (by kernel_rfl)) (by unfold Func.isWrapper; first | (rw [if_pos (by decide +kernel)]; kernel_rfl) | (rw [if_neg (by decide +kernel)]; exact ⟨rfl, rfl⟩))
    (fun os started H enc _ => lifted os started H enc)
#print axioms proved
end Go.Proofs.Ytdhejhgpjeenaaa.pageHintBack
