/-
  HintsChecks: whether any hints may be, of any file, is as the document says. No condition.
-/
import Derived.Test.YtomcdhljjmnahaaGreatOpenHCk
import Derived.Test.YtomcdhljjmnahaaGreatRefChkCk
namespace Go.Proofs.YtomcdhljjmnahaaGreat.hintsChecks
open Go.ChangeShapes Go.WideShapes Go.ChangeAt Go.RowKit Go.Proofs.YtomcdhljjmnahaaGreat
set_option linter.unusedVariables false
set_option linter.unusedSimpArgs false

theorem exec_loadH {oi : Oper} {ev : Operand → Value} {w : World} {x : Operand} {b : Nat} {cs : List Value} {T : TypeId} (ho : oi.op = .load 25 x) (hx : ev x = .pointer (some ⟨b, 0, none⟩)) (hB : BlockIs w b cs T) (hl : cs.length = 7) :
    (execOp ev oi).run Tryz.prog w = .ok (.value (.agg cs.toArray)) w := by
  unfold execOp
  simp only [ho, hx, Instr.loadAt, Instr.sureAddr, Sem.run_bind, Sem.run_pure, Result.andThen_ok, run_loadVar_mid w b 0 25 cs _ hB.range Tryz.underlying25 rfl (by rw [hl]; exact size25)]
theorem exec_loadL {oi : Oper} {ev : Operand → Value} {w : World} {x : Operand} {b : Nat} {cs : List Value} {T : TypeId} (ho : oi.op = .load 40 x) (hx : ev x = .pointer (some ⟨b, 0, none⟩)) (hB : BlockIs w b cs T) (hl : cs.length = 7) :
    (execOp ev oi).run Tryz.prog w = .ok (.value (.agg cs.toArray)) w := by
  unfold execOp
  simp only [ho, hx, Instr.loadAt, Instr.sureAddr, Sem.run_bind, Sem.run_pure, Result.andThen_ok, run_loadVar_mid w b 0 40 cs _ hB.range Tryz.underlying40 rfl (by rw [hl]; exact size27)]
set_option maxHeartbeats 4000000 in
set_option maxRecDepth 100000 in
theorem walk (h : HT) (pa la : Option Addr) (pc lc : Nat) (l : LT) (w : World) (hR : HRaw w h pa pc la lc) :
    Calls Tryz.prog 4 #[.agg (hC h pa pc la lc).toArray, .agg (lC l).toArray] w fun e w' => e = .returned (.bool true) ∧ Below w.heap.size w w' := by
  have HFw := Lib.hid (fun W (hP : Pure w W) => fewh_any h pa la pc lc W (hR.pure hP).pages (by have := hR.pcap; unfold maxLen at this; omega) (by have := hR.lcap; unfold maxLen at this; omega))
  have HK1 := Lib.hid (fun W (hP : Pure w W) (hf : fewH h = true) => check_any h l pa la pc lc W ((hR.pure hP).mem hf) (fewH_in hf).1.mod2)
  have HK2 := Lib.hid (fun W (hP : Pure w W) (hf : fewH h = true) => refcheck_any h l pa la pc lc W ((hR.pure hP).mem hf) (fewH_in hf).1.mod2)
  obtain ⟨cs, hcs⟩ : ∃ z, z = hC h pa pc la lc := ⟨_, rfl⟩
  obtain ⟨ds, hds⟩ : ∃ z, z = lC l := ⟨_, rfl⟩
  have HL7 : Hid (cs.length = 7) := Lib.hid (by rw [hcs]; rfl)
  have HM7 : Hid (ds.length = 7) := Lib.hid (by rw [hds]; rfl)
  have HCs := Lib.hid hcs
  have HDs := Lib.hid hds
  rw [← hcs, ← hds]
  have hD0 := Hd.new w cs ds
  obtain ⟨w2, hw2⟩ : ∃ z, z = ((w.alloc (.cells cs.toArray 25)).alloc (.cells ds.toArray 40)) := ⟨_, rfl⟩
  obtain ⟨tb, htb⟩ : ∃ z, z = w.heap.size := ⟨_, rfl⟩
  rw [← hw2, ← htb] at hD0
  have HW : Hid (((w.alloc (.cells cs.toArray 25)).alloc (.cells ds.toArray 40)) = w2) := Lib.hid hw2.symm
  have HTb := Lib.hid htb
  have HD := Lib.hid hD0
  clear hcs hds hw2 htb hD0
  rw [← HCs.out] at HFw
  rw [← HCs.out, ← HDs.out] at HK1 HK2
  have HRh0 : Hid (((w.alloc (.cells cs.toArray 25)).alloc (.cells ds.toArray 40)).rangeAt w.heap.size 0 cs) := Lib.hid (by rw [HW.out, ← HTb.out]; exact HD.out.b1.range)
  have HRl0 : Hid (((w.alloc (.cells cs.toArray 25)).alloc (.cells ds.toArray 40)).rangeAt (w.heap.size + 1) 0 ds) := Lib.hid (by rw [HW.out, ← HTb.out]; exact HD.out.b2.range)
  obtain ⟨fw, hfw⟩ : ∃ z, z = fewH h := ⟨_, rfl⟩
  obtain ⟨ce, hce⟩ : ∃ z, z = chkE h l := ⟨_, rfl⟩
  rw [← hfw] at HFw HK1 HK2
  rw [← hce] at HK1 HK2
  clear hfw hce hR HCs HDs
  go_enter Tryz.func4, Tryz.ntmps4
  go_wp2_with (first
    | (with_reducible refine V11.at_load 25 (.tmp 2) ?_; refine wpList_load_h rfl (.tmp 2) rfl w.heap.size 0 rfl cs HRh0.out HL7.out ?_))
  rw [HW.out, ← HTb.out]
  refine (HFw.out w2 HD.out.p).mono ?_
  rintro e w3 ⟨rfl, hP⟩
  have HD := Lib.hid (HD.out.pure hP)
  clear hP HFw HRh0 HRl0
  cases fw with
  | false =>
    clear HK1 HK2
    go_wp2_with fail
    refine (works_any _).mono ?_
    rintro e wz ⟨rfl, hPz⟩
    go_wp2_with fail
    go_ret
    exact ⟨rfl, (HD.out.p.pure hPz).below⟩
  | true =>
  replace HK1 := Lib.hid (fun W hP => HK1.out W hP rfl)
  replace HK2 := Lib.hid (fun W hP => HK2.out W hP rfl)
  go_wp2_with fail
  have hB1 := HD.out.b1.drew
  have hB2 := HD.out.b2.drew
  have hPw := HD.out.p.drew
  refine region_start (fun _ => False) (by kernel_rfl) ?_
  try simp only [Act.put, List.setIfInBounds_toArray, List.set_cons_zero, List.set_cons_succ]
  refine region_take 0 9 (v := ?vck0) rfl rfl (by kernel_rfl) (by kernel_rfl) (by kernel_rfl) (fun _ _ _ h => h) (by rfl) (fun w' hS => ?hck0) ?rck0
  case hck0 => (refine exec_loadH (x := .tmp 2) ?_ ?_ (hB1.ext hS id) HL7.out <;> rfl)
  try simp only [Act.put, List.setIfInBounds_toArray, List.set_cons_zero, List.set_cons_succ]
  refine region_take 1 10 (v := ?vck1) rfl rfl (by kernel_rfl) (by kernel_rfl) (by kernel_rfl) (fun _ _ _ h => h) (by rfl) (fun w' hS => ?hck1) ?rck1
  case hck1 => (refine exec_loadL (x := .tmp 3) ?_ ?_ (hB2.ext hS id) HM7.out <;> rfl)
  try simp only [Act.put, List.setIfInBounds_toArray, List.set_cons_zero, List.set_cons_succ]
  refine region_take 3 12 (v := ?vck3) rfl rfl (by kernel_rfl) (by kernel_rfl) (by kernel_rfl) (fun _ _ _ h => h) (by rfl) (fun w' hS => ?hck3) ?rck3
  case hck3 => (refine exec_loadH (x := .tmp 2) ?_ ?_ (hB1.ext hS id) HL7.out <;> rfl)
  try simp only [Act.put, List.setIfInBounds_toArray, List.set_cons_zero, List.set_cons_succ]
  refine region_take 4 13 (v := ?vck4) rfl rfl (by kernel_rfl) (by kernel_rfl) (by kernel_rfl) (fun _ _ _ h => h) (by rfl) (fun w' hS => ?hck4) ?rck4
  case hck4 => (refine exec_loadL (x := .tmp 3) ?_ ?_ (hB2.ext hS id) HM7.out <;> rfl)
  try simp only [Act.put, List.setIfInBounds_toArray, List.set_cons_zero, List.set_cons_succ]
  refine wpAnyH_ready (rs := [2]) (by kernel_rfl) (by simp) (AllReadyH.cons rfl (fun K hK => ?_) AllReadyH.nil)
  go_simp
  refine (HK1.out _ hPw).mono ?_
  rintro e wc ⟨rfl, hP⟩
  have hB1 := hB1.ext hP id
  have hB2 := hB2.ext hP id
  have hPw := hPw.pure hP
  refine hK.out _ _ (hP) (fun hHeld => ?_)
  clear hK K hHeld
  refine region_now (hP) ?_
  try simp only [Act.put, List.setIfInBounds_toArray, List.set_cons_zero, List.set_cons_succ]
  refine wpAnyH_ready (rs := [5]) (by kernel_rfl) (by simp) (AllReadyH.cons rfl (fun K hK => ?_) AllReadyH.nil)
  go_simp
  refine (HK2.out _ hPw).mono ?_
  rintro e wc ⟨rfl, hP⟩
  have hB1 := hB1.ext hP id
  have hB2 := hB2.ext hP id
  have hPw := hPw.pure hP
  refine hK.out _ _ (hP) (fun hHeld => ?_)
  clear hK K hHeld
  refine region_now (hP) ?_
  try simp only [Act.put, List.setIfInBounds_toArray, List.set_cons_zero, List.set_cons_succ]
  refine region_take 6 15 (v := ?vck6) rfl rfl (by kernel_rfl) (by kernel_rfl) (by kernel_rfl) (fun _ _ _ h => h) (by rfl) (fun w' hS => ?hck6) ?rck6
  case hck6 => go_simp; with_reducible rfl
  try simp only [Act.put, List.setIfInBounds_toArray, List.set_cons_zero, List.set_cons_succ]
  refine region_take 7 16 (v := ?vck7) rfl rfl (by kernel_rfl) (by kernel_rfl) (by kernel_rfl) (fun _ _ _ h => h) (by rfl) (fun w' hS => ?hck7) ?rck7
  case hck7 => go_simp; with_reducible rfl
  try simp only [Act.put, List.setIfInBounds_toArray, List.set_cons_zero, List.set_cons_succ]
  refine wpAnyH_ready (rs := [8]) (by kernel_rfl) (by simp) (AllReadyH.cons rfl (fun K hK => ?_) AllReadyH.nil)
  go_simp
  refine (works_any _).mono ?_
  rintro e wc ⟨rfl, hP⟩
  have hPw := hPw.pure hP
  refine hK.out _ _ (hP) (fun hHeld => ?_)
  clear hK K hHeld
  refine region_now (hP) ?_
  try simp only [Act.put, List.setIfInBounds_toArray, List.set_cons_zero, List.set_cons_succ]
  refine region_take 9 18 (v := ?vck9) rfl rfl (by kernel_rfl) (by kernel_rfl) (by kernel_rfl) (fun _ _ _ h => h) (by rfl) (fun w' hS => ?hck9) ?rck9
  case hck9 => go_simp; with_reducible rfl
  try simp only [Act.put, List.setIfInBounds_toArray, List.set_cons_zero, List.set_cons_succ]
  refine region_take 10 4 (v := ?vck10) rfl rfl (by kernel_rfl) (by kernel_rfl) (by kernel_rfl) (fun _ _ _ h => h) (by rfl) (fun w' hS => ?hck10) ?rck10
  case hck10 => go_simp; with_reducible rfl
  try simp only [Act.put, List.setIfInBounds_toArray, List.set_cons_zero, List.set_cons_succ]
  refine wpAnyH_done (by kernel_rfl) ?_ _
  go_simp
  try simp only [Act.put, List.setIfInBounds_toArray, List.set_cons_zero, List.set_cons_succ]
  go_wp2_with fail
  go_ret
  exact ⟨rfl, hPw.below⟩

set_option maxRecDepth 100000 in
theorem lifted (os : Os) (started : os.Started) (H : Type) (enc : TypeId × Value → H) :
    ReturnsInHanded {} Tryz.checked os 4 .any (Rows.hintsChecksSpec.pre6 enc Tryz.prog Tryz.f4 Rows.hintsChecksRow.domain false) (Rows.hintsChecksSpec.post enc Tryz.prog Tryz.f4 false true false false) := by
  refine returnsInHanded_of_change (C := Tryz.checked) own started (by kernel_rfl) Tryz.func4
    (ChangeSpec.witness6 (enc := enc) (C := Tryz.checked) false ⟨#[], #[.agg #[.int .i64 0, .int .i64 0, .slice none 0 0, .int .i64 0, .int .i64 0, .int .i64 0, .slice none 0 0], .agg #[.int .i64 0, .int .i64 0, .int .i64 0, .int .i64 0, .int .i64 0, .int .i64 0, .int .i64 0]], []⟩ 8 (by kernel_rfl) (by kernel_rfl) (by kernel_rfl) (by kernel_rfl)) ?_
  intro W base args ds gs before hval0 hW hcnd _
  have hval : ∀ (j : Nat) t v, Tryz.f4.params[j]? = some t → args[j]? = some v → Value.okWide Tryz.prog W .any base t v := hval0
  have hW' := hW
  obtain ⟨p, q, hA0, hV, rfl, hfz, hnd⟩ := hW
  have hA : DataW.TrodAll enc Tryz.prog W 0 (fun _ => true) true Tryz.f4.params.toList args.toList ds p := hA0
  rw [Tryz.params4] at hA hval
  obtain ⟨v0, vs0, d0, ds0, p0, q0, hargs, rfl, rfl, h0, r0⟩ := trodAll_cons hA
  obtain ⟨v1, vs1, d1, ds1, p1, q1, rfl, rfl, rfl, h1, r1⟩ := trodAll_cons r0
  obtain ⟨rfl, rfl, rfl⟩ := trodAll_nil r1
  obtain rfl : args = #[v0, v1] := by cases args; simp_all
  obtain ⟨rfl, rfl⟩ := trodVars_none hV
  have k0 := h0
  have lt0 : ∀ x ∈ p0, x.block < W.heap.size := by obtain ⟨m, hm⟩ := k0; exact DataW.trod_lt m _ _ _ hm
  have k1 := h1
  have lt1 : ∀ x ∈ p1, x.block < W.heap.size := by obtain ⟨m, hm⟩ := k1; exact DataW.trod_lt m _ _ _ hm
  obtain ⟨h0', pa, la, pc, lc, rfl, hR⟩ := open_h (hval 0 25 v0 rfl rfl) h0
  obtain ⟨l0, rfl⟩ := open_l (hval 1 40 v1 rfl rfl) h1
  clear hA0 hval0
  refine (walk h0' pa la pc lc l0 W hR).mono fun e W' ⟨he, bel⟩ => ?_
  subst he
  exact ⟨_, rfl, _, _, _, [], _, [], hW', trodAll_mk1 (shut_bool Tryz.underlying4 _), (trodAll_cons_mk (Below.trod laidOut (by kernel_rfl) (of_decide_eq_true (by kernel_rfl)) k0 bel lt0) (trodAll_cons_mk (Below.trod laidOut (by kernel_rfl) (of_decide_eq_true (by kernel_rfl)) k1 bel lt1) trodAll_mk0)), rfl, bel.frame _, fun h => by cases h⟩

theorem proved : Rows.HintsChecksSaid :=
  OpenClaim.holds_of_wide 4 Tryz.f4 rfl rfl rfl rfl rfl rfl rfl ⟨rfl, rfl, rfl, rfl, rfl⟩ rfl rfl rfl rfl rfl (by kernel_rfl) Tryz.func4 (by kernel_rfl)
    (of_decide_eq_true (by kernel_rfl)) (by unfold Func.isWrapper; first | (rw [if_pos (by decide +kernel)]; kernel_rfl) | (rw [if_neg (by decide +kernel)]; exact ⟨rfl, rfl⟩))
    (fun os started H enc _ => lifted os started H enc)
#print axioms proved
end Go.Proofs.YtomcdhljjmnahaaGreat.hintsChecks
