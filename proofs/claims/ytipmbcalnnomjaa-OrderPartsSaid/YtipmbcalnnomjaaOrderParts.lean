/-
  OrderParts: the order of any parts, whatever stands in them, is as the document says. No condition.
-/
import Derived.Test.YtipmbcalnnomjaaWorks25
import Derived.Test.YtipmbcalnnomjaaRefOfO
import Derived.Test.YtipmbcalnnomjaaFewP
import Derived.OwnWalk
namespace Go.Proofs.Ytipmbcalnnomjaa.orderParts
open Go.ChangeShapes Go.WideShapes Go.ChangeAt Go.RowKit Go.Proofs.Ytipmbcalnnomjaa
set_option linter.unusedVariables false
set_option linter.unusedSimpArgs false

theorem exec_loadO {oi : Oper} {ev : Operand → Value} {w : World} {x : Operand} {b : Nat} {cs : List Value} {T : TypeId} (ho : oi.op = .load 29 x) (hx : ev x = .pointer (some ⟨b, 0, none⟩)) (hB : BlockIs w b cs T) (hl : (Try.prog.info? 29).map (·.size) = some cs.length) :
    (execOp ev oi).run Try.prog w = .ok (.value (.agg cs.toArray)) w := by
  unfold execOp
  simp only [ho, hx, Instr.loadAt, Instr.sureAddr, Sem.run_bind, Sem.run_pure, Result.andThen_ok, run_loadVar_mid w b 0 29 cs _ hB.range Try.underlying29 rfl hl]
theorem exec_loadR {oi : Oper} {ev : Operand → Value} {w : World} {x : Operand} {b : Nat} {cs : List Value} {T : TypeId} (ho : oi.op = .load 25 x) (hx : ev x = .pointer (some ⟨b, 0, none⟩)) (hB : BlockIs w b cs T) (hl : (Try.prog.info? 25).map (·.size) = some cs.length) :
    (execOp ev oi).run Try.prog w = .ok (.value (.agg cs.toArray)) w := by
  unfold execOp
  simp only [ho, hx, Instr.loadAt, Instr.sureAddr, Sem.run_bind, Sem.run_pure, Result.andThen_ok, run_loadVar_mid w b 0 25 cs _ hB.range Try.underlying25 rfl hl]
theorem sizeP5 : (Try.prog.info? 25).map (·.size) = some 5 := by kernel_rfl
theorem flat_le {rows : List (List Int)} {m : Nat} (h : ∀ r ∈ rows, r.length ≤ m) : rows.flatten.length ≤ rows.length * m := by
  induction rows with
  | nil => simp
  | cons r rows ih =>
    rw [List.flatten_cons, List.length_append, List.length_cons, Nat.add_mul]
    have h1 := h r (by simp)
    have h2 := ih (fun q hq => h q (by simp [hq]))
    omega
theorem few_sz {p : PartsP} (h : FewP p) : (p.main.length ≤ 1000000 ∧ p.tree.length ≤ 1000000 ∧ p.first.length ≤ 1000000 ∧ p.own.length ≤ 1000000) ∧ ((orderP p).nums.length ≤ 1000000 ∧ (orderP p).main.length ≤ 1000000 ∧ (orderP p).head.length ≤ 1000000 ∧ (orderP p).first.length ≤ 1000000) := by
  obtain ⟨h1, h2, h3, h4, h5, h6⟩ := h
  have h7 := flat_le h6
  have h8 : p.own.length * 20 ≤ 10 * 20 := Nat.mul_le_mul_right _ h1
  have h9 : p.main.length ≤ 1000000 := by unfold PartsP.main; simp only [List.length_append]; omega
  refine ⟨⟨h9, by omega, by omega, by omega⟩, ?_, h9, ?_, ?_⟩
  · show (toP _ _).length ≤ _
    rw [toP_len]
    exact Nat.le_trans (mostP_le _) (by decide)
  · show p.tree.length ≤ _
    omega
  · show p.first.length ≤ _
    omega
set_option maxHeartbeats 4000000 in
set_option maxRecDepth 100000 in
theorem walk {P : PartsP} {a0 a1 a2 a3 a4 : Option Addr} {n0 n1 n2 n3 n4 c0 c1 c2 c3 c4 : Nat} {w : World} (H : PAt P (.slice a0 n0 c0) (.slice a1 n1 c1) (.slice a2 n2 c2) (.slice a3 n3 c3) (.slice a4 n4 c4) w)
    (hm : n0 ≤ maxLen ∧ n1 ≤ maxLen ∧ n2 ≤ maxLen ∧ n3 ≤ maxLen ∧ n4 ≤ maxLen) (hmr : ∀ r ∈ P.own, r.length ≤ maxLen) :
    Calls Try.prog 3 #[.agg #[.slice a0 n0 c0, .slice a1 n1 c1, .slice a2 n2 c2, .slice a3 n3 c3, .slice a4 n4 c4]] w fun e w' => e = .returned (.bool true) ∧ Below w.heap.size w w' := by
  obtain ⟨w1, hw1⟩ : ∃ z, z = w.alloc (.cells #[.slice a0 n0 c0, .slice a1 n1 c1, .slice a2 n2 c2, .slice a3 n3 c3, .slice a4 n4 c4] 25) := ⟨_, rfl⟩
  have HB : Hid (BlockIs w1 w.heap.size [.slice a0 n0 c0, .slice a1 n1 c1, .slice a2 n2 c2, .slice a3 n3 c3, .slice a4 n4 c4] 25) := Lib.hid (by rw [hw1]; exact BlockIs.new w _ _)
  have HP : Hid (Pure w w1) := Lib.hid (by rw [hw1]; exact ext_alloc w _)
  have HW := Lib.hid hw1.symm
  obtain ⟨tb, htb⟩ : ∃ z, z = w.heap.size := ⟨_, rfl⟩
  rw [← htb] at HB
  have HTb := Lib.hid htb.symm
  have HH := Lib.hid H
  have HM := Lib.hid hm
  have HMr := Lib.hid hmr
  have x0 : w1.cell? ⟨tb, 0, none⟩ = some (.slice a0 n0 c0) := HB.out.cell 0
  have x1 : w1.cell? ⟨tb, 0 + 1, none⟩ = some (.slice a1 n1 c1) := HB.out.cell 1
  have x2 : w1.cell? ⟨tb, 0 + 2, none⟩ = some (.slice a2 n2 c2) := HB.out.cell 2
  have x3 : w1.cell? ⟨tb, 0 + 3, none⟩ = some (.slice a3 n3 c3) := HB.out.cell 3
  have x4 : w1.cell? ⟨tb, 0 + 4, none⟩ = some (.slice a4 n4 c4) := HB.out.cell 4
  clear H hm hmr hw1 htb
  go_enter Try.func3, Try.ntmps3
  go_upto_region 1 with (fail)
  rw [HW.out, HTb.out]
  go_wp2_with fail
  refine (fewp_any (HH.out.pure HP.out) HM.out HMr.out).mono ?_
  rintro e w2 ⟨yes, rfl, hq, hP2⟩
  clear x0 x1 x2 x3 x4
  cases yes with
  | false =>
    clear hq
    go_wp2_with fail
    refine (works_any _).mono ?_
    rintro e w3 ⟨rfl, hP⟩
    go_wp2_with fail
    go_ret
    exact ⟨rfl, ((HP.out.pure hP2).pure hP).below⟩
  | true =>
    have HZ := Lib.hid (few_sz (hq rfl))
    have HB2 := Lib.hid (HB.out.ext hP2 id)
    have HP2 := Lib.hid (HP.out.pure hP2)
    have HH2 := Lib.hid (HH.out.pure HP2.out)
    have x0 : w2.cell? ⟨tb, 0, none⟩ = some (.slice a0 n0 c0) := HB2.out.cell 0
    have x1 : w2.cell? ⟨tb, 1, none⟩ = some (.slice a1 n1 c1) := HB2.out.cell 1
    have x2 : w2.cell? ⟨tb, 2, none⟩ = some (.slice a2 n2 c2) := HB2.out.cell 2
    have x3 : w2.cell? ⟨tb, 3, none⟩ = some (.slice a3 n3 c3) := HB2.out.cell 3
    have x4 : w2.cell? ⟨tb, 4, none⟩ = some (.slice a4 n4 c4) := HB2.out.cell 4
    clear hq hP2
    go_wp2_with fail
    refine (orderof_any HH2.out HZ.out.1).mono ?_
    rintro e w3 ⟨b0, b1, b2, b3, m0, m1, m2, m3, k0, k1, k2, k3, rfl, hO, hP3⟩
    obtain ⟨l1, hl1⟩ : ∃ z : Int, z = (((orderP P).main.length + 1 : Nat) : Int) := ⟨_, rfl⟩
    obtain ⟨l2, hl2⟩ : ∃ z : Int, z = (((orderP P).main.length + (orderP P).head.length + 2 : Nat) : Int) := ⟨_, rfl⟩
    rw [← hl1, ← hl2]
    obtain ⟨w4, hw4⟩ : ∃ z, z = w3.alloc (.cells #[.slice b0 m0 k0, .slice b1 m1 k1, .slice b2 m2 k2, .slice b3 m3 k3, .int .i64 l1, .int .i64 l2] 29) := ⟨_, rfl⟩
    have hP34 : Pure w3 w4 := by rw [hw4]; exact ext_alloc _ _
    have HB4 : Hid (BlockIs w4 w3.heap.size [.slice b0 m0 k0, .slice b1 m1 k1, .slice b2 m2 k2, .slice b3 m3 k3, .int .i64 l1, .int .i64 l2] 29) := Lib.hid (by rw [hw4]; exact BlockIs.new _ _ _)
    have HC4 := Lib.hid ((HB2.out.ext hP3 id).ext hP34 id)
    have HP4 := Lib.hid ((HP2.out.pure hP3).pure hP34)
    have HO4 := Lib.hid (hO.now.pure hP34)
    have HH4 := Lib.hid ((HH2.out.pure hP3).pure hP34)
    have HRf := Lib.hid (fun W (hP : Pure w4 W) => rorderof_any (HH4.out.pure hP) HZ.out.1)
    unfold OrdTo at HRf
    rw [← hl1, ← hl2] at HRf
    have HW4 := Lib.hid hw4.symm
    obtain ⟨ob, hob⟩ : ∃ z, z = w3.heap.size := ⟨_, rfl⟩
    rw [← hob] at HB4
    have HOb := Lib.hid hob.symm
    clear hO hP3 hl1 hl2 hw4 hob hP34 x0 x1 x2 x3 x4
    go_upto_region 4 with (fail)
    rw [HW4.out, HOb.out]
    have hBo := HB4.out.drew
    have hBp := HC4.out.drew
    have hPw := HP4.out.drew
    have hP4 : Pure w4 w4.drew := (Ext.refl _ w4).drew
    refine region_start (fun _ => False) (by kernel_rfl) ?_
    try simp only [Act.put, List.setIfInBounds_toArray, List.set_cons_zero, List.set_cons_succ]
    refine region_take 0 20 (v := ?vop0) rfl rfl (by kernel_rfl) (by kernel_rfl) (by kernel_rfl) (fun _ _ _ h => h) (by rfl) (fun w' hS => ?hop0) ?rop0
    case hop0 => (refine exec_loadO (x := .tmp 3) ?_ ?_ (hBo.ext hS id) sizeOr <;> rfl)
    try simp only [Act.put, List.setIfInBounds_toArray, List.set_cons_zero, List.set_cons_succ]
    refine region_take 2 22 (v := ?vop2) rfl rfl (by kernel_rfl) (by kernel_rfl) (by kernel_rfl) (fun _ _ _ h => h) (by rfl) (fun w' hS => ?hop2) ?rop2
    case hop2 => (refine exec_loadR (x := .tmp 1) ?_ ?_ (hBp.ext hS id) sizeP5 <;> rfl)
    try simp only [Act.put, List.setIfInBounds_toArray, List.set_cons_zero, List.set_cons_succ]
    refine wpAnyH_ready (rs := [1]) (by kernel_rfl) (by simp) (AllReadyH.cons rfl (fun K hK => ?_) AllReadyH.nil)
    go_simp
    refine (lawof_any b0 b1 b2 b3 m0 m1 m2 m3 k0 k1 k2 k3 l1 l2 _).mono ?_
    rintro e wv ⟨rfl, hP⟩
    have hPw := hPw.pure hP
    have hP4 := hP4.pure hP
    refine hK.out _ _ (hP) (fun hHeld => ?_)
    clear hK K hHeld
    refine region_now (hP) ?_
    try simp only [Act.put, List.setIfInBounds_toArray, List.set_cons_zero, List.set_cons_succ]
    refine wpAnyH_ready (rs := [3]) (by kernel_rfl) (by simp) (AllReadyH.cons rfl (fun K hK => ?_) AllReadyH.nil)
    go_simp
    refine (HRf.out _ hP4).mono ?_
    rintro e wv ⟨r0, r1, r2, r3, q0, q1, q2, q3, d0, d1, d2, d3, rfl, hR, hP⟩
    have hPw := hPw.pure hP
    have hP4 := hP4.pure hP
    have hR := hR.now
    refine hK.out _ _ (hP) (fun hHeld => ?_)
    clear hK K hHeld
    refine region_now (hP) ?_
    try simp only [Act.put, List.setIfInBounds_toArray, List.set_cons_zero, List.set_cons_succ]
    refine wpAnyH_ready (rs := [4]) (by kernel_rfl) (by simp) (AllReadyH.cons rfl (fun K hK => ?_) AllReadyH.nil)
    go_simp
    refine (rosame_any (HO4.out.pure hP4) hR HZ.out.2).mono ?_
    rintro e wv ⟨rfl, hP⟩
    have hPw := hPw.pure hP
    refine hK.out _ _ (hP) (fun hHeld => ?_)
    clear hK K hHeld
    refine region_now (hP) ?_
    try simp only [Act.put, List.setIfInBounds_toArray, List.set_cons_zero, List.set_cons_succ]
    refine region_take 5 25 (v := ?vop5) rfl rfl (by kernel_rfl) (by kernel_rfl) (by kernel_rfl) (fun _ _ _ h => h) (by rfl) (fun w' hS => ?hop5) ?rop5
    case hop5 => go_simp; with_reducible rfl
    try simp only [Act.put, List.setIfInBounds_toArray, List.set_cons_zero, List.set_cons_succ]
    refine wpAnyH_ready (rs := [6]) (by kernel_rfl) (by simp) (AllReadyH.cons rfl (fun K hK => ?_) AllReadyH.nil)
    go_simp
    refine (works_any _).mono ?_
    rintro e wv ⟨rfl, hP⟩
    have hPw := hPw.pure hP
    refine hK.out _ _ (hP) (fun hHeld => ?_)
    clear hK K hHeld
    refine region_now (hP) ?_
    try simp only [Act.put, List.setIfInBounds_toArray, List.set_cons_zero, List.set_cons_succ]
    refine region_take 7 27 (v := ?vop7) rfl rfl (by kernel_rfl) (by kernel_rfl) (by kernel_rfl) (fun _ _ _ h => h) (by rfl) (fun w' hS => ?hop7) ?rop7
    case hop7 => go_simp; with_reducible rfl
    try simp only [Act.put, List.setIfInBounds_toArray, List.set_cons_zero, List.set_cons_succ]
    refine region_take 8 2 (v := ?vop8) rfl rfl (by kernel_rfl) (by kernel_rfl) (by kernel_rfl) (fun _ _ _ h => h) (by rfl) (fun w' hS => ?hop8) ?rop8
    case hop8 => go_simp; with_reducible rfl
    try simp only [Act.put, List.setIfInBounds_toArray, List.set_cons_zero, List.set_cons_succ]
    refine wpAnyH_done (by kernel_rfl) ?_ _
    go_simp
    try simp only [Act.put, List.setIfInBounds_toArray, List.set_cons_zero, List.set_cons_succ]
    go_wp2_with fail
    go_ret
    exact ⟨rfl, hPw.below⟩

set_option maxRecDepth 100000 in
theorem lifted (os : Os) (started : os.Started) (H : Type) (enc : TypeId × Value → H) :
    ReturnsInHanded {} Try.checked os 3 .any (Rows.orderPartsSpec.pre6 enc Try.prog Try.f3 Rows.orderPartsRow.domain false) (Rows.orderPartsSpec.post enc Try.prog Try.f3 false true false false) := by
  refine returnsInHanded_of_change (C := Try.checked) own started (by kernel_rfl) Try.func3
    (ChangeSpec.witness6 (enc := enc) (C := Try.checked) false ⟨#[], #[.agg #[.slice none 0 0, .slice none 0 0, .slice none 0 0, .slice none 0 0, .slice none 0 0]], []⟩ 8 (by kernel_rfl) (by kernel_rfl) (by kernel_rfl) (by kernel_rfl)) ?_
  intro W base args ds gs before hval0 hW hcnd _
  have hval : ∀ (j : Nat) t v, Try.f3.params[j]? = some t → args[j]? = some v → Value.okWide Try.prog W .any base t v := hval0
  have hW' := hW
  obtain ⟨p, q, hA0, hV, rfl, hfz, hnd⟩ := hW
  have hA : DataW.TrodAll enc Try.prog W 0 (fun _ => true) true Try.f3.params.toList args.toList ds p := hA0
  rw [Try.params3] at hA hval
  obtain ⟨v0, vs0, d0, ds0, p0, q0, hargs, rfl, rfl, h0, r0⟩ := trodAll_cons hA
  obtain ⟨rfl, rfl, rfl⟩ := trodAll_nil r0
  obtain rfl : args = #[v0] := by cases args; simp_all
  obtain ⟨rfl, rfl⟩ := trodVars_none hV
  have k0 := h0
  have lt0 : ∀ x ∈ p0, x.block < W.heap.size := by obtain ⟨m, hm⟩ := k0; exact DataW.trod_lt m _ _ _ hm
  obtain ⟨P, a0, a1, a2, a3, a4, n0, n1, n2, n3, n4, c0, c1, c2, c3, c4, rfl, hPA, hm, hmr⟩ := open_parts (hval 0 25 v0 rfl rfl) h0
  clear hA0 hval0
  refine (walk hPA hm hmr).mono fun e W' ⟨he, bel⟩ => ?_
  subst he
  exact ⟨_, rfl, _, _, _, [], _, [], hW', trodAll_mk1 (shut_bool Try.underlying4 _), (trodAll_cons_mk (Below.trod laidOut (by kernel_rfl) (of_decide_eq_true (by kernel_rfl)) k0 bel lt0) trodAll_mk0), rfl, bel.frame _, fun h => by cases h⟩

theorem proved : Rows.OrderPartsSaid :=
  OpenClaim.holds_of_wide 3 Try.f3 rfl rfl rfl rfl rfl rfl rfl ⟨rfl, rfl, rfl, rfl, rfl⟩ rfl rfl rfl rfl rfl (by kernel_rfl) Try.func3 (by kernel_rfl)
    (of_decide_eq_true (by kernel_rfl)) (by unfold Func.isWrapper; first | (rw [if_pos (by decide +kernel)]; kernel_rfl) | (rw [if_neg (by decide +kernel)]; exact ⟨rfl, rfl⟩))
    (fun os started H enc _ => lifted os started H enc)
#print axioms proved
end Go.Proofs.Ytipmbcalnnomjaa.orderParts

