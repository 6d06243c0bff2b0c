/-
  PageHintRest: whatever stands where contents and fractions do, in whatever width, the program's Decode tells the hints that the reference's table was made of. No condition.
-/
import Derived.Test.YtdhejhgpjeenaaaWorks
namespace Go.Proofs.Ytdhejhgpjeenaaa.pageHintRest
open Go.ChangeShapes Go.WideShapes Go.ChangeAt Go.RowKit Go.Proofs.Ytdhejhgpjeenaaa C26
set_option linter.unusedVariables false

set_option maxRecDepth 100000 in
theorem open_rest {H : Type} {enc : TypeId × Value → H} {W : World} {v : Value} {d : DataW H} {p : List MemPlace} {base : Nat}
    (hv : Value.okWide Try.prog W .any base 43 v) (h : DataW.Trod enc Try.prog W 0 (fun _ => true) true 43 v d p) :
    ∃ (rf rp rq fill : Nat), v = .agg #[.int .u8 rf, .int .u8 rp, .int .u8 rq, .int .u32 fill] ∧ rf ≤ 255 ∧ rp ≤ 255 ∧ rq ≤ 255 ∧ fill < 4294967296 := by
  obtain ⟨cs, rfl, hcs⟩ := okWide_struct Try.underlying43 hv
  have s4 : Try.prog.cellsOf 43 = 4 := by kernel_rfl
  have s0 : Try.prog.cellsOf 5 = 1 := by kernel_rfl
  have s1 : Try.prog.cellsOf 41 = 1 := by kernel_rfl
  rw [s4] at hcs
  obtain ⟨l, rfl⟩ : ∃ l : List Value, cs = l.toArray := ⟨cs.toList, by simp⟩
  simp only [List.size_toArray] at hcs
  match l, hcs with
  | [c0, c1, c2, c3], _ =>
    obtain ⟨fuel, hf⟩ := h
    obtain ⟨xs, n, _, hx, _, hlen, hfs⟩ := DataW.trod_struct Try.underlying43 hf
    have h0 : DataW.trod enc Try.prog W 0 (fun _ => true) true n 5 (([c0, c1, c2, c3].drop 0).take (Try.prog.cellsOf 5)) = xs[0]? := hfs 0 _ rfl
    have h1 : DataW.trod enc Try.prog W 0 (fun _ => true) true n 5 (([c0, c1, c2, c3].drop 1).take (Try.prog.cellsOf 5)) = xs[1]? := hfs 1 _ rfl
    have h2 : DataW.trod enc Try.prog W 0 (fun _ => true) true n 5 (([c0, c1, c2, c3].drop 2).take (Try.prog.cellsOf 5)) = xs[2]? := hfs 2 _ rfl
    have h3 : DataW.trod enc Try.prog W 0 (fun _ => true) true n 41 (([c0, c1, c2, c3].drop 3).take (Try.prog.cellsOf 41)) = xs[3]? := hfs 3 _ rfl
    rw [s0] at h0 h1 h2
    rw [s1] at h3
    simp only [List.drop, List.take] at h0 h1 h2 h3
    match xs, hlen with
    | [y0, y1, y2, y3], _ =>
      simp only [List.getElem?_cons_zero, List.getElem?_cons_succ] at h0 h1 h2 h3
      obtain ⟨rf, e0, _, w0⟩ := DataW.trod_int Try.underlying5 h0
      obtain ⟨rp, e1, _, w1⟩ := DataW.trod_int Try.underlying5 h1
      obtain ⟨rq, e2, _, w2⟩ := DataW.trod_int Try.underlying5 h2
      obtain ⟨fl, e3, _, w3⟩ := DataW.trod_int Try.underlying41 h3
      cases e0
      cases e1
      cases e2
      cases e3
      simp [Lit.wf, IntKind.min, IntKind.max, IntKind.signed, IntKind.bits] at w0 w1 w2 w3
      obtain ⟨rf, rfl⟩ : ∃ z : Nat, rf = (z : Int) := ⟨rf.toNat, by omega⟩
      obtain ⟨rp, rfl⟩ : ∃ z : Nat, rp = (z : Int) := ⟨rp.toNat, by omega⟩
      obtain ⟨rq, rfl⟩ : ∃ z : Nat, rq = (z : Int) := ⟨rq.toNat, by omega⟩
      obtain ⟨fl, rfl⟩ : ∃ z : Nat, fl = (z : Int) := ⟨fl.toNat, by omega⟩
      exact ⟨rf, rp, rq, fl, rfl, by omega, by omega, by omega, by omega⟩
set_option maxHeartbeats 1000000 in
set_option maxRecDepth 100000 in
theorem walk_no (a : Int) (ad : Option Addr) (c : Nat) (ps : List PH) (rf rp rq fill : Nat) (w : World) (hl : (ps.length : Int) ≤ 9223372036854775807) (hH : Hints w ad ps) (hno : fewB ps = false ∨ (fewB ps = true ∧ Mod ps ∧ chk a ps ≠ 0)) :
    Calls Try.prog 6 #[.int .i64 a, .slice ad ps.length c, .agg #[.int .u8 rf, .int .u8 rp, .int .u8 rq, .int .u32 fill]] w fun e w' => e = .returned (.bool true) ∧ Below w.heap.size w w' := by
  obtain ⟨w1, hw1⟩ : ∃ w1, w1 = w.alloc (.cells #[.int .u8 rf, .int .u8 rp, .int .u8 rq, .int .u32 fill] 43) := ⟨_, rfl⟩
  have hP1 : Pure w w1 := hw1 ▸ ext_alloc w _
  have hH1 := hH.pure hP1
  have HF0 := few_any ad c ps w1 hH1 hl
  have HW1 := Lib.hid hw1
  rcases hno with h | ⟨h, hm, hz⟩
  · rw [h] at HF0
    have HF := Lib.hid HF0
    clear HF0 h hH hH1 hw1
    go_enter Try.func6, Try.ntmps6
    go_wp2_with fail
    rw [← HW1.out]
    refine HF.out.mono ?_
    rintro e w2 ⟨rfl, hw2⟩
    obtain rfl := hw2.symm
    go_wp2_with fail
    refine (works_any _).mono ?_
    rintro e w2 ⟨rfl, hP⟩
    go_wp2_with fail
    go_ret
    exact ⟨rfl, (hP1.pure hP).below⟩
  · rw [h] at HF0
    have HCh0 := refcheck_any a ad c ps w1 hH1 hm
    unfold IntRes at HCh0
    obtain ⟨E, hE⟩ : ∃ E, E = chk a ps := ⟨_, rfl⟩
    rw [← hE] at HCh0
    have hne : (E != 0) = true := by rw [hE]; simpa using hz
    have HF := Lib.hid HF0
    have HCh := Lib.hid HCh0
    clear HF0 HCh0 hE h hH hH1 hw1 hz hm
    go_enter Try.func6, Try.ntmps6
    go_wp2_with fail
    rw [← HW1.out]
    refine HF.out.mono ?_
    rintro e w2 ⟨rfl, hw2⟩
    obtain rfl := hw2.symm
    go_wp2_with fail
    refine HCh.out.mono ?_
    rintro e w3 ⟨rfl, hP3⟩
    go_wp2_with fail
    refine (works_any _).mono ?_
    rintro e w2 ⟨rfl, hP⟩
    go_wp2_with fail
    go_ret
    exact ⟨rfl, ((hP1.pure hP3).pure hP).below⟩
set_option maxHeartbeats 1000000 in
set_option maxRecDepth 100000 in
theorem walk_yes (a : Nat) (ad : Option Addr) (c : Nat) (ps : List PH) (rf rp rq fill : Nat) (w : World) (hl : (ps.length : Int) ≤ 9223372036854775807) (hH : Hints w ad ps) (hf : fewB ps = true) (hm : Mod ps) (hz : chk a ps = 0) (b0 : rf ≤ 255) (b1 : rp ≤ 255) (b2 : rq ≤ 255) (b3 : fill < 4294967296) :
    Calls Try.prog 6 #[.int .i64 a, .slice ad ps.length c, .agg #[.int .u8 rf, .int .u8 rp, .int .u8 rq, .int .u32 fill]] w fun e w' => e = .returned (.bool true) ∧ Below w.heap.size w w' := by
  obtain ⟨w1, hw1⟩ : ∃ w1, w1 = w.alloc (.cells #[.int .u8 rf, .int .u8 rp, .int .u8 rq, .int .u32 fill] 43) := ⟨_, rfl⟩
  have hP1 : Pure w w1 := hw1 ▸ ext_alloc w _
  have hB1 : BlockIs w1 w.heap.size [.int .u8 rf, .int .u8 rp, .int .u8 rq, .int .u32 fill] 43 := hw1 ▸ BlockIs.new w _ _
  have hH1 := hH.pure hP1
  have HF0 := few_any ad c ps w1 hH1 hl
  rw [hf] at HF0
  have hk := chk_ok hz hm
  have HCh0 := refcheck_any a ad c ps w1 hH1 hm
  unfold IntRes at HCh0
  rw [hz] at HCh0
  obtain ⟨P, hPP⟩ : ∃ P, P = pack true (tabB a (toN ps) ⟨rf % 33, rp % 33, rq % 33, fill⟩) := ⟨_, rfl⟩
  have f1 : rf % 33 ≤ 32 := by omega
  have f2 : rp % 33 ≤ 32 := by omega
  have f3 : rq % 33 ≤ 32 := by omega
  have htl : P.length ≤ 600000 := hPP ▸ tab_len hk.ok f1 f2 f3
  have HT0 := fun W (hP : Pure w1 W) => table_any a ad c ps rf rp rq fill W (hH1.pure hP) hm hk b0 b1 b2 b3
  rw [← hPP] at HT0
  have HDe0 := fun (ra : Option Addr) (rc : Nat) W (h1 : Bytes W ra P) (h2 : ra = none → rc = 0) (h3 : P.length ≤ rc) => decode_tab (a := a) (ps := ps) (r := ⟨rf % 33, rp % 33, rq % 33, fill⟩) [] ra rc P (by rw [hPP, List.append_nil]) W hk f1 f2 f3 b3 h1 h2 h3 (by omega)
  unfold HintsTo at HDe0
  rw [← hPP] at HDe0
  have HSa0 := fun W (qs : List PH) (qa : Option Addr) (qc : Nat) (hP : Pure w1 W) (h1 : Hints W qa qs) (h2 : qs.map pv = ps.map pv) => same_any qa qc qs ad c ps W h1 (hH1.pure hP) (by have := congrArg List.length h2; simp at this; omega) hl
  have HW1 := Lib.hid hw1
  have HF := Lib.hid HF0
  have HCh := Lib.hid HCh0
  have HT := Lib.hid HT0
  have HDe := Lib.hid HDe0
  have HSa := Lib.hid HSa0
  clear HF0 HCh0 HT0 HDe0 HSa0 hPP hk hH hH1 hf hz hm hw1 f1 f2 f3
  go_enter Try.func6, Try.ntmps6
  go_wp2_with fail
  rw [← HW1.out]
  refine HF.out.mono ?_
  rintro e w2 ⟨rfl, hw2⟩
  obtain rfl := hw2.symm
  clear HF HW1
  go_wp2_with fail
  refine HCh.out.mono ?_
  rintro e w3 ⟨rfl, hP3⟩
  have hB3 := hB1.ext hP3 id
  have d0 : w3.cell? ⟨w.heap.size, 0, none⟩ = some (.int .u8 rf) := hB3.cell 0
  have d1 : w3.cell? ⟨w.heap.size, 0 + 1, none⟩ = some (.int .u8 rp) := hB3.cell 1
  have d2 : w3.cell? ⟨w.heap.size, 0 + 2, none⟩ = some (.int .u8 rq) := hB3.cell 2
  have d3 : w3.cell? ⟨w.heap.size, 0 + 3, none⟩ = some (.int .u32 fill) := hB3.cell 3
  clear HCh hB1
  go_wp2_with fail
  refine (HT.out w3 hP3).mono ?_
  rintro e w4 ⟨ra, rc, rfl, hO, hP4⟩
  obtain ⟨_, _, hh, g1, _, g3, _⟩ := own_form hO
  cases hh
  have hby : Bytes w4 ra P := own_row hO
  have HD := Lib.hid (HDe.out ra rc w4 hby g3 g1)
  clear HT HDe hO hby d0 d1 d2 d3 hB3
  go_wp2_with fail
  refine HD.out.mono ?_
  rintro e w5 ⟨qs, oa, oc, rfl, hq1, hH5, hP5⟩
  have hql : qs.length = ps.length := by have := congrArg List.length hq1; simpa using this
  have hQ5 := (hP3.pure hP4).pure hP5
  have HS := HSa.out w5 qs oa oc hQ5 hH5 hq1
  rw [alike_refl qs ps hq1, hql] at HS
  have HS := Lib.hid HS
  clear HD hq1 hH5 hql HSa
  go_wp2_with fail
  refine HS.out.mono ?_
  rintro e w6 ⟨rfl, hP6⟩
  go_wp2_with fail
  refine (works_any _).mono ?_
  rintro e w7 ⟨rfl, hP7⟩
  go_wp2_with fail
  go_ret
  exact ⟨rfl, (((hP1.pure hQ5).pure hP6).pure hP7).below⟩
theorem walk (a : Int) (ad : Option Addr) (c : Nat) (ps : List PH) (rf rp rq fill : Nat) (w : World) (hl : (ps.length : Int) ≤ 9223372036854775807) (hH : Hints w ad ps) (b0 : rf ≤ 255) (b1 : rp ≤ 255) (b2 : rq ≤ 255) (b3 : fill < 4294967296) :
    Calls Try.prog 6 #[.int .i64 a, .slice ad ps.length c, .agg #[.int .u8 rf, .int .u8 rp, .int .u8 rq, .int .u32 fill]] w fun e w' => e = .returned (.bool true) ∧ Below w.heap.size w w' := by
  by_cases hf : fewB ps = true
  · obtain ⟨hf1, hf2⟩ := fewB_true.1 hf
    have hm : Mod ps := ⟨hf1, fun p hp => by have := hf2 p hp; omega⟩
    by_cases hz : chk a ps = 0
    · have hk := chk_ok hz hm
      obtain ⟨n, rfl⟩ : ∃ n : Nat, a = (n : Int) := ⟨a.toNat, by have := hk.a; omega⟩
      exact walk_yes n ad c ps rf rp rq fill w hl hH hf hm hz b0 b1 b2 b3
    · exact walk_no a ad c ps rf rp rq fill w hl hH (Or.inr ⟨hf, hm, hz⟩)
  · exact walk_no a ad c ps rf rp rq fill w hl hH (Or.inl (by simpa using hf))

set_option maxRecDepth 100000 in
theorem lifted (os : Os) (started : os.Started) (H : Type) (enc : TypeId × Value → H) :
    ReturnsInHanded {} Try.checked os 6 .any (Rows.pageHintRestSpec.pre6 enc Try.prog Try.f6 Rows.pageHintRestRow.domain false) (Rows.pageHintRestSpec.post enc Try.prog Try.f6 false true false false) := by
  refine returnsInHanded_of_change (C := Try.checked) own started (by kernel_rfl) Try.func6
    (ChangeSpec.witness6 (enc := enc) (C := Try.checked) false ⟨#[], #[.int .i64 0, .slice none 0 0, .agg #[.int .u8 0, .int .u8 0, .int .u8 0, .int .u32 0]], []⟩ 8 (by kernel_rfl) (by kernel_rfl) (by kernel_rfl) (by kernel_rfl)) ?_
  intro W base args ds gs before hval0 hW hcnd _
  have hval : ∀ (j : Nat) t v, Try.f6.params[j]? = some t → args[j]? = some v → Value.okWide Try.prog W .any base t v := hval0
  have hW' := hW
  obtain ⟨p, q, hA0, hV, rfl, hfz, hnd⟩ := hW
  have hA : DataW.TrodAll enc Try.prog W 0 (fun _ => true) true Try.f6.params.toList args.toList ds p := hA0
  rw [Try.params6] at hA hval
  obtain ⟨v0, vs0, d0, ds0, p0, q0, hargs, rfl, rfl, h0, r0⟩ := trodAll_cons hA
  obtain ⟨v1, vs1, d1, ds1, p1, q1, rfl, rfl, rfl, h1, r1⟩ := trodAll_cons r0
  obtain ⟨v2, vs2, d2, ds2, p2, q2, rfl, rfl, rfl, h2, r2⟩ := trodAll_cons r1
  obtain ⟨rfl, rfl, rfl⟩ := trodAll_nil r2
  obtain rfl : args = #[v0, v1, v2] := by cases args; simp_all
  obtain ⟨rfl, rfl⟩ := trodVars_none hV
  have k0 := h0
  have lt0 : ∀ x ∈ p0, x.block < W.heap.size := by obtain ⟨m, hm⟩ := k0; exact DataW.trod_lt m _ _ _ hm
  have k1 := h1
  have lt1 : ∀ x ∈ p1, x.block < W.heap.size := by obtain ⟨m, hm⟩ := k1; exact DataW.trod_lt m _ _ _ hm
  have k2 := h2
  have lt2 : ∀ x ∈ p2, x.block < W.heap.size := by obtain ⟨m, hm⟩ := k2; exact DataW.trod_lt m _ _ _ hm
  obtain ⟨x0, rfl, rfl, rfl, wx0⟩ := open_int Try.underlying3 (hval 0 3 v0 rfl rfl) h0
  obtain ⟨ad, c, ps, rfl, hl, hH⟩ := open_hints (hval 1 22 v1 rfl rfl) h1
  obtain ⟨rf, rp, rq, fill, rfl, b0, b1, b2, b3⟩ := open_rest (hval 2 43 v2 rfl rfl) h2
  clear hA0 hval0
  refine (walk x0 ad c ps rf rp rq fill W hl hH b0 b1 b2 b3).mono fun e W' ⟨he, bel⟩ => ?_
  subst he
  exact ⟨_, rfl, _, _, _, [], _, [], hW', trodAll_mk1 (shut_bool Try.underlying4 _), (trodAll_cons_mk (Below.trod laidOut (by kernel_rfl) (of_decide_eq_true (by kernel_rfl)) k0 bel lt0) (trodAll_cons_mk (Below.trod laidOut (by kernel_rfl) (of_decide_eq_true (by kernel_rfl)) k1 bel lt1) (trodAll_cons_mk (Below.trod laidOut (by kernel_rfl) (of_decide_eq_true (by kernel_rfl)) k2 bel lt2) trodAll_mk0))), rfl, bel.frame _, fun h => by cases h⟩

theorem proved : Rows.PageHintRestSaid :=
  OpenClaim.holds_of_wide 6 Try.f6 rfl rfl rfl rfl rfl rfl rfl ⟨rfl, rfl, rfl, rfl, rfl⟩ rfl rfl rfl rfl rfl (by kernel_rfl) Try.func6 (by kernel_rfl)
    (of_decide_eq_true (by kernel_rfl)) (by unfold Func.isWrapper; first | (rw [if_pos (by decide +kernel)]; kernel_rfl) | (rw [if_neg (by decide +kernel)]; exact ⟨rfl, rfl⟩))
    (fun os started H enc _ => lifted os started H enc)
#print axioms proved
end Go.Proofs.Ytdhejhgpjeenaaa.pageHintRest
