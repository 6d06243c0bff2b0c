/-
  ShareAny: the parts by any rows, whatever stands in them, are as the document says.
-/
import Derived.Test.YtnpiemcfbnpfdaaWorks24
import Derived.Test.YtnpiemcfbnpfdaaRefOf
import Derived.Test.YtnpiemcfbnpfdaaOpenR
import Derived.Test.YtnpiemcfbnpfdaaPAt
import Derived.OwnWalk
namespace Go.Proofs.Ytnpiemcfbnpfdaa.shareAny
open Go.ChangeShapes Go.WideShapes Go.ChangeAt Go.RowKit Go.Proofs.Ytnpiemcfbnpfdaa
set_option linter.unusedVariables false
set_option linter.unusedSimpArgs false

theorem exec_loadS {oi : Oper} {ev : Operand → Value} {w : World} {x : Operand} {b : Nat} {cs : List Value} {T : TypeId} (ho : oi.op = .load 26 x) (hx : ev x = .pointer (some ⟨b, 0, none⟩)) (hB : BlockIs w b cs T) (hl : (Try.prog.info? 26).map (·.size) = some cs.length) :
    (execOp ev oi).run Try.prog w = .ok (.value (.agg cs.toArray)) w := by
  unfold execOp
  simp only [ho, hx, Instr.loadAt, Instr.sureAddr, Sem.run_bind, Sem.run_pure, Result.andThen_ok, run_loadVar_mid w b 0 26 cs _ hB.range Try.underlying26 rfl hl]
theorem exec_loadR {oi : Oper} {ev : Operand → Value} {w : World} {x : Operand} {b : Nat} {cs : List Value} {T : TypeId} (ho : oi.op = .load 30 x) (hx : ev x = .pointer (some ⟨b, 0, none⟩)) (hB : BlockIs w b cs T) (hl : (Try.prog.info? 30).map (·.size) = some cs.length) :
    (execOp ev oi).run Try.prog w = .ok (.value (.agg cs.toArray)) w := by
  unfold execOp
  simp only [ho, hx, Instr.loadAt, Instr.sureAddr, Sem.run_bind, Sem.run_pure, Result.andThen_ok, run_loadVar_mid w b 0 30 cs _ hB.range Try.underlying30 rfl hl]
theorem flat_le {rows : List (List Int)} {m : Nat} (h : ∀ r ∈ rows, r.length ≤ m) : rows.flatten.length ≤ rows.length * m := by
  induction rows with
  | nil => simp
  | cons r rows ih =>
    rw [List.flatten_cons, List.length_append, List.length_cons, Nat.add_mul]
    have h1 := h r (by simp)
    have h2 := ih (fun q hq => h q (by simp [hq]))
    omega
theorem parts_small (n root : Int) (nodes : List Int) (rows : List (List Int)) (h1 : nodes.length ≤ 20) (h2 : rows.length ≤ 10) (h3 : ∀ r ∈ rows, r.length ≤ 20) :
    (partsP n nodes root rows).tree.length ≤ 1000000 ∧ (partsP n nodes root rows).first.length ≤ 1000000 ∧ (partsP n nodes root rows).shared.length ≤ 1000000 ∧ (partsP n nodes root rows).others.length ≤ 1000000 ∧ (partsP n nodes root rows).own.length ≤ 1000000 ∧ ∀ r ∈ (partsP n nodes root rows).own, r.length ≤ 1000000 := by
  refine ⟨?_, ?_, ?_, ?_, ?_, fun r hr => ?_⟩
  · show (root :: nodes).length ≤ _
    rw [List.length_cons]; omega
  · show (rows.headD []).length ≤ _
    cases rows with
    | nil => exact Nat.zero_le _
    | cons r rows => have := h3 r (by simp); exact Nat.le_trans this (by decide)
  · have h4 := shP_len rows rows.length
    have h5 := flat_le h3
    show (shP rows rows.length).length ≤ _
    have h6 : rows.length * 20 ≤ 10 * 20 := Nat.mul_le_mul_right _ h2
    omega
  · have h4 := othP_len rows (root :: nodes) (lastP n)
    show (othP rows (root :: nodes) (lastP n)).length ≤ _
    unfold lastP at h4 ⊢
    omega
  · show (ownsP rows rows.length).length ≤ _
    rw [ownsP_len rows rows.length (Nat.le_refl _)]
    omega
  · have hr : r ∈ ((rows.take rows.length).drop 1).map (ownP rows) := hr
    obtain ⟨q, hq, rfl⟩ := List.mem_map.1 hr
    have h4 := h3 q (List.mem_of_mem_take (List.mem_of_mem_drop hq))
    unfold ownP
    have h5 := List.length_filter_le (fun x => decide (manyP rows x = 1)) (onP [] q)
    have h6 := onP_len [] q
    simp only [List.length_nil] at h6
    omega
set_option maxHeartbeats 4000000 in
set_option maxRecDepth 100000 in
theorem walk (n root : Int) (na : Option Addr) (nc : Nat) (nodes : List Int) (a : Option Addr) (c : Nat) (rs : List CRow) (w : World)
    (hN : CRow.ok w ⟨na, nc, nodes⟩) (hnc : nc ≤ maxLen) (hR : Rws w a rs) (hrc : rs.length ≤ c) (hcm : c ≤ maxLen) (hok : ∀ q ∈ rs, q.ok w) (hwf : ∀ q ∈ rs, ∀ x ∈ q.l, (Lit.int .i64 x).wf = true) (hqc : ∀ q ∈ rs, q.c ≤ maxLen) :
    Calls Try.prog 3 #[.int .i64 n, .int .i64 root, .slice na nodes.length nc, .slice a rs.length c] w fun e w' => e = .returned (.bool true) ∧ Below w.heap.size w w' := by
  have hnl : nodes.length ≤ nc := hN.2.2
  have HOf : Hid (nodes.length ≤ 20 → rs.length ≤ 10 → (∀ q ∈ rs, q.l.length ≤ 20) → ∀ W, Pure w W → Calls Try.prog 7 #[.int .i64 n, .agg #[.slice na nodes.length nc, .slice none 0 0], .int .i64 root, .slice a rs.length c] W (PartsTo (partsP n nodes root (lsR rs)) W)) := Lib.hid (fun e1 e2 e3 W hP => by
    have h1 : ∀ r ∈ lsR rs, r.length ≤ 20 := fun r hr => by obtain ⟨q, hq, rfl⟩ := List.mem_map.1 hr; exact e3 q hq
    have h2 := flat_le h1
    rw [lsR_len] at h2
    have h3 : rs.length * 20 ≤ 10 * 20 := Nat.mul_le_mul_right _ e2
    exact shareof_any n root na none nc 0 0 nodes rs a c W (hN.pure hP) (by omega) (hR.pure hP) (fun q hq => (hok q hq).pure hP) hwf (by omega) (fun q hq => by have := e3 q hq; omega) (by omega))
  have HRf : Hid (nodes.length ≤ 20 → rs.length ≤ 10 → (∀ q ∈ rs, q.l.length ≤ 20) → ∀ W, Pure w W → Calls Try.prog 8 #[.int .i64 n, .agg #[.slice na nodes.length nc, .slice none 0 0], .int .i64 root, .slice a rs.length c] W (PartsTo (partsP n nodes root (lsR rs)) W)) := Lib.hid (fun e1 e2 e3 W hP => by
    have h1 : ∀ r ∈ lsR rs, r.length ≤ 20 := fun r hr => by obtain ⟨q, hq, rfl⟩ := List.mem_map.1 hr; exact e3 q hq
    have h2 := flat_le h1
    rw [lsR_len] at h2
    have h3 : rs.length * 20 ≤ 10 * 20 := Nat.mul_le_mul_right _ e2
    exact refof_any n root na none nc 0 0 nodes rs a c W (hN.pure hP) (by omega) (hR.pure hP) (fun q hq => (hok q hq).pure hP) (by omega) (fun q hq => by have := e3 q hq; omega) (by omega))
  have HSm : Hid (nodes.length ≤ 20 → rs.length ≤ 10 → (∀ q ∈ rs, q.l.length ≤ 20) → _) := Lib.hid (fun e1 e2 e3 => parts_small n root nodes (lsR rs) e1 (by rw [lsR_len]; exact e2) (fun r hr => by obtain ⟨q, hq, rfl⟩ := List.mem_map.1 hr; exact e3 q hq))
  have HQl : Hid (∀ q ∈ rs, q.l.length ≤ maxLen) := Lib.hid (fun q hq => Nat.le_trans (hok q hq).2.2 (hqc q hq))
  have HR := Lib.hid hR
  obtain ⟨nn, hnn⟩ : ∃ z, z = nodes.length := ⟨_, rfl⟩
  obtain ⟨nr, hnr⟩ : ∃ z, z = rs.length := ⟨_, rfl⟩
  rw [← hnn, ← hnr] at HOf HRf HSm
  rw [← hnn] at hnl ⊢
  rw [← hnr] at hrc ⊢
  have HNr := Lib.hid hnr
  obtain ⟨p, hp⟩ : ∃ z, z = partsP n nodes root (lsR rs) := ⟨_, rfl⟩
  rw [← hp] at HOf HRf HSm
  have hbn : (nn : Int) ≤ 9223372036854775807 := by unfold maxLen at hnc; omega
  have hbr : (nr : Int) ≤ 9223372036854775807 := by unfold maxLen at hcm; omega
  clear hN hnc hR hok hwf hqc hnn hnr hp hnl hrc hcm
  by_cases hn : nn ≤ 20
  rotate_left
  · have hn' : (20 : Int) < (nn : Int) := by omega
    go_enter Try.func3, Try.ntmps3
    go_wp2_with fail
    refine (works_any w).mono ?_
    rintro e w2 ⟨rfl, hP⟩
    go_wp2_with fail
    go_ret
    exact ⟨rfl, hP.below⟩
  have hn' : ¬ (20 : Int) < (nn : Int) := by omega
  by_cases hr : nr ≤ 10
  rotate_left
  · have hr' : (10 : Int) < (nr : Int) := by omega
    go_enter Try.func3, Try.ntmps3
    go_wp2_with fail
    refine (works_any w).mono ?_
    rintro e w2 ⟨rfl, hP⟩
    go_wp2_with fail
    go_ret
    exact ⟨rfl, hP.below⟩
  have hr' : ¬ (10 : Int) < (nr : Int) := by omega
  have HOf := Lib.hid (HOf.out hn hr)
  have HRf := Lib.hid (HRf.out hn hr)
  have HSm := Lib.hid (HSm.out hn hr)
  clear hn hr
  go_enter Try.func3, Try.ntmps3
  go_wp2_with fail
  go_loopw [9] (fun i W => ∃ k : Nat, k ≤ nr ∧ i = .int .i64 k ∧ Hid (∀ q ∈ rs.take k, q.l.length ≤ 20) ∧ W = w) (fun i _ => nr - (intOf i).toNat)
  case atStart => exact ⟨0, Nat.zero_le _, rfl, Lib.hid (fun q hq => by simp at hq), rfl⟩
  case round =>
    obtain ⟨k, hk, rfl, HL, rfl⟩ := hrel
    by_cases hlt : k < nr
    · have hki : (k : Int) < (nr : Int) := by omega
      have hk0 : (0 : Int) ≤ (k : Int) := by omega
      have hkr : k < rs.length := by rw [← HNr.out]; exact hlt
      obtain ⟨b, o, rfl, hc⟩ := HR.out.get hkr
      have HT := Lib.hid (List.take_succ_eq_append_getElem hkr)
      obtain ⟨m, hm⟩ : ∃ z, z = rs[k].l.length := ⟨_, rfl⟩
      have hmm : (m : Int) ≤ 9223372036854775807 := by have := HQl.out rs[k] (List.getElem_mem hkr); unfold maxLen at this; omega
      rw [← hm] at hc
      have HMm := Lib.hid hm
      generalize rs[k].a = qa at *
      generalize rs[k].c = qc at *
      clear hm
      by_cases hmb : m ≤ 20
      · have hm' : ¬ (20 : Int) < (m : Int) := by omega
        have HL2 : Hid (∀ q ∈ rs.take (k + 1), q.l.length ≤ 20) := Lib.hid (by
          rw [HT.out]
          intro q hq
          rcases List.mem_append.1 hq with hq | hq
          · exact HL.out q hq
          · rw [List.mem_singleton.1 hq, ← HMm.out]; exact hmb)
        clear hmb HMm HT hkr
        go_wp2_with fail
        go_roundw
        case rel => exact ⟨k + 1, by omega, by go_num, HL2, trivial⟩
        case measure => simp [intOf]; omega
      · have hm' : (20 : Int) < (m : Int) := by omega
        clear hmb HMm HT hkr
        go_wp2_with fail
        refine (works_any _).mono ?_
        rintro e w2 ⟨rfl, hP⟩
        go_wp2_with fail
        go_ret
        exact ⟨rfl, hP.below⟩
    · have hki : ¬ (k : Int) < (nr : Int) := by omega
      have HL2 : Hid (∀ q ∈ rs, q.l.length ≤ 20) := Lib.hid (by
        have h := HL.out
        rwa [List.take_of_length_le (by rw [← HNr.out]; omega)] at h)
      have HOf := Lib.hid (HOf.out HL2.out)
      have HRf := Lib.hid (HRf.out HL2.out)
      have HSm := Lib.hid (HSm.out HL2.out)
      obtain ⟨w0, hw0⟩ : ∃ z : World, z = wr := ⟨_, rfl⟩
      have HP0 : Hid (Pure wr w0) := Lib.hid (by rw [hw0]; exact Ext.refl _ _)
      clear hw0 HL HL2
      go_wp2_with fail
      refine (HOf.out wr (Ext.refl _ _)).mono ?_
      rintro e W2 hE2
      obtain ⟨a0, a1, a2, a3, a4, n0, n1, n2, n3, n4, c0, c1, c2, c3, c4, rfl, H, hP2⟩ := hE2.two
      obtain ⟨W3, hW3⟩ : ∃ z, z = W2.alloc (.cells #[.slice a0 n0 c0, .slice a1 n1 c1, .slice a2 n2 c2, .slice a3 n3 c3, .slice a4 n4 c4] 26) := ⟨_, rfl⟩
      have HB3 : Hid (BlockIs W3 W2.heap.size [.slice a0 n0 c0, .slice a1 n1 c1, .slice a2 n2 c2, .slice a3 n3 c3, .slice a4 n4 c4] 26) := Lib.hid (by rw [hW3]; exact BlockIs.new W2 _ _)
      have HP3 : Hid (Pure wr W3) := Lib.hid (by rw [hW3]; exact hP2.pure (ext_alloc W2 _))
      have HH3 := Lib.hid (H.pure (show Pure W2 W3 by rw [hW3]; exact ext_alloc W2 _))
      have HW3 : Hid (W2.alloc (.cells #[.slice a0 n0 c0, .slice a1 n1 c1, .slice a2 n2 c2, .slice a3 n3 c3, .slice a4 n4 c4] 26) = W3) := Lib.hid hW3.symm
      obtain ⟨tb, htb⟩ : ∃ z, z = W2.heap.size := ⟨_, rfl⟩
      rw [← htb] at HB3
      have HTb := Lib.hid htb.symm
      clear hP2 H hW3 htb hE2
      go_wp2_with fail
      rw [HW3.out, HTb.out]
      refine (HRf.out W3 HP3.out).mono ?_
      rintro e W4 hE4
      obtain ⟨r0, r1, r2, r3, r4, m0, m1, m2, m3, m4, k0, k1, k2, k3, k4, rfl, H, hP4⟩ := hE4.two
      have HB4 := Lib.hid (HB3.out.ext hP4 id)
      have HP4 := Lib.hid (HP3.out.pure hP4)
      have HH4 := Lib.hid (HH3.out.pure hP4)
      obtain ⟨W5, hW5⟩ : ∃ z, z = W4.alloc (.cells #[.slice r0 m0 k0, .slice r1 m1 k1, .slice r2 m2 k2, .slice r3 m3 k3, .slice r4 m4 k4] 30) := ⟨_, rfl⟩
      have hBr : BlockIs W5 W4.heap.size [.slice r0 m0 k0, .slice r1 m1 k1, .slice r2 m2 k2, .slice r3 m3 k3, .slice r4 m4 k4] 30 := by rw [hW5]; exact BlockIs.new W4 _ _
      have HW5 : Hid (W4.alloc (.cells #[.slice r0 m0 k0, .slice r1 m1 k1, .slice r2 m2 k2, .slice r3 m3 k3, .slice r4 m4 k4] 30) = W5) := Lib.hid hW5.symm
      have hP5 : Pure W4 W5 := by rw [hW5]; exact ext_alloc W4 _
      have HB5 := Lib.hid (HB4.out.ext hP5 id)
      have HP5 := Lib.hid (HP4.out.pure hP5)
      have HH5 := Lib.hid (HH4.out.pure hP5)
      have HHr := Lib.hid (H.pure hP5)
      obtain ⟨rb, hrb⟩ : ∃ z, z = W4.heap.size := ⟨_, rfl⟩
      rw [← hrb] at hBr
      have HRb := Lib.hid hrb.symm
      have HBr := Lib.hid hBr
      clear hP4 H hW5 hP5 hrb HB3 HB4 HH3 HH4 HW3 hE4 hBr
      go_wp2_with fail
      rw [HW5.out, HRb.out]
      have hBs := HB5.out.drew
      have hBr := HBr.out.drew
      have hPw := HP5.out.drew
      have hP5 : Pure W5 W5.drew := (Ext.refl _ W5).drew
      refine region_start (fun _ => False) (by kernel_rfl) ?_
      try simp only [Act.put, List.setIfInBounds_toArray, List.set_cons_zero, List.set_cons_succ]
      refine region_take 0 46 (v := ?vsa0) rfl rfl (by kernel_rfl) (by kernel_rfl) (by kernel_rfl) (fun _ _ _ h => h) (by rfl) (fun w' hS => ?hsa0) ?rsa0
      case hsa0 => (refine exec_loadS (x := .tmp 10) ?_ ?_ (hBs.ext hS id) sizeSP <;> rfl)
      try simp only [Act.put, List.setIfInBounds_toArray, List.set_cons_zero, List.set_cons_succ]
      refine region_take 2 48 (v := ?vsa2) rfl rfl (by kernel_rfl) (by kernel_rfl) (by kernel_rfl) (fun _ _ _ h => h) (by rfl) (fun w' hS => ?hsa2) ?rsa2
      case hsa2 => (refine exec_loadR (x := .tmp 11) ?_ ?_ (hBr.ext hS id) sizeRP <;> rfl)
      try simp only [Act.put, List.setIfInBounds_toArray, List.set_cons_zero, List.set_cons_succ]
      refine wpAnyH_ready (rs := [1]) (by kernel_rfl) (by simp) (AllReadyH.cons rfl (fun K hK => ?_) AllReadyH.nil)
      go_simp
      refine (lawof_any a0 a1 a2 a3 a4 n0 n1 n2 n3 n4 c0 c1 c2 c3 c4 _).mono ?_
      rintro e wv ⟨rfl, hP⟩
      have hBr := hBr.ext hP id
      have hPw := hPw.pure hP
      have hP5 := hP5.pure hP
      refine hK.out _ _ (hP) (fun hHeld => ?_)
      clear hK K hHeld
      refine region_now (hP) ?_
      try simp only [Act.put, List.setIfInBounds_toArray, List.set_cons_zero, List.set_cons_succ]
      refine wpAnyH_ready (rs := [3]) (by kernel_rfl) (by simp) (AllReadyH.cons rfl (fun K hK => ?_) AllReadyH.nil)
      go_simp
      refine (rpsame2_any (HH5.out.pure hP5) (HHr.out.pure hP5) HSm.out).mono ?_
      rintro e wv ⟨rfl, hP⟩
      have hPw := hPw.pure hP
      refine hK.out _ _ (hP) (fun hHeld => ?_)
      clear hK K hHeld
      refine region_now (hP) ?_
      try simp only [Act.put, List.setIfInBounds_toArray, List.set_cons_zero, List.set_cons_succ]
      refine region_take 4 50 (v := ?vsa4) rfl rfl (by kernel_rfl) (by kernel_rfl) (by kernel_rfl) (fun _ _ _ h => h) (by rfl) (fun w' hS => ?hsa4) ?rsa4
      case hsa4 => go_simp; with_reducible rfl
      try simp only [Act.put, List.setIfInBounds_toArray, List.set_cons_zero, List.set_cons_succ]
      refine wpAnyH_ready (rs := [5]) (by kernel_rfl) (by simp) (AllReadyH.cons rfl (fun K hK => ?_) AllReadyH.nil)
      go_simp
      refine (works_any _).mono ?_
      rintro e wv ⟨rfl, hP⟩
      have hPw := hPw.pure hP
      refine hK.out _ _ (hP) (fun hHeld => ?_)
      clear hK K hHeld
      refine region_now (hP) ?_
      try simp only [Act.put, List.setIfInBounds_toArray, List.set_cons_zero, List.set_cons_succ]
      refine region_take 6 52 (v := ?vsa6) rfl rfl (by kernel_rfl) (by kernel_rfl) (by kernel_rfl) (fun _ _ _ h => h) (by rfl) (fun w' hS => ?hsa6) ?rsa6
      case hsa6 => go_simp; with_reducible rfl
      try simp only [Act.put, List.setIfInBounds_toArray, List.set_cons_zero, List.set_cons_succ]
      refine region_take 7 8 (v := ?vsa7) rfl rfl (by kernel_rfl) (by kernel_rfl) (by kernel_rfl) (fun _ _ _ h => h) (by rfl) (fun w' hS => ?hsa7) ?rsa7
      case hsa7 => go_simp; with_reducible rfl
      try simp only [Act.put, List.setIfInBounds_toArray, List.set_cons_zero, List.set_cons_succ]
      refine wpAnyH_done (by kernel_rfl) ?_ _
      go_simp
      try simp only [Act.put, List.setIfInBounds_toArray, List.set_cons_zero, List.set_cons_succ]
      go_wp2_with fail
      go_ret
      exact ⟨rfl, hPw.below⟩

set_option maxRecDepth 100000 in
theorem lifted (os : Os) (started : os.Started) (H : Type) (enc : TypeId × Value → H) :
    ReturnsInHanded {} Try.checked os 3 .any (Rows.shareAnySpec.pre6 enc Try.prog Try.f3 Rows.shareAnyRow.domain false) (Rows.shareAnySpec.post enc Try.prog Try.f3 false true false false) := by
  refine returnsInHanded_of_change (C := Try.checked) own started (by kernel_rfl) Try.func3
    (ChangeSpec.witness6 (enc := enc) (C := Try.checked) false ⟨#[], #[.int .i64 0, .int .i64 0, .slice none 0 0, .slice none 0 0], []⟩ 8 (by kernel_rfl) (by kernel_rfl) (by kernel_rfl) (by kernel_rfl)) ?_
  intro W base args ds gs before hval0 hW hcnd _
  have hval : ∀ (j : Nat) t v, Try.f3.params[j]? = some t → args[j]? = some v → Value.okWide Try.prog W .any base t v := hval0
  have hW' := hW
  obtain ⟨p, q, hA0, hV, rfl, hfz, hnd⟩ := hW
  have hA : DataW.TrodAll enc Try.prog W 0 (fun _ => true) true Try.f3.params.toList args.toList ds p := hA0
  rw [Try.params3] at hA hval
  obtain ⟨v0, vs0, d0, ds0, p0, q0, hargs, rfl, rfl, h0, r0⟩ := trodAll_cons hA
  obtain ⟨v1, vs1, d1, ds1, p1, q1, rfl, rfl, rfl, h1, r1⟩ := trodAll_cons r0
  obtain ⟨v2, vs2, d2, ds2, p2, q2, rfl, rfl, rfl, h2, r2⟩ := trodAll_cons r1
  obtain ⟨v3, vs3, d3, ds3, p3, q3, rfl, rfl, rfl, h3, r3⟩ := trodAll_cons r2
  obtain ⟨rfl, rfl, rfl⟩ := trodAll_nil r3
  obtain rfl : args = #[v0, v1, v2, v3] := by cases args; simp_all
  obtain ⟨rfl, rfl⟩ := trodVars_none hV
  have k0 := h0
  have lt0 : ∀ x ∈ p0, x.block < W.heap.size := by obtain ⟨m, hm⟩ := k0; exact DataW.trod_lt m _ _ _ hm
  have k1 := h1
  have lt1 : ∀ x ∈ p1, x.block < W.heap.size := by obtain ⟨m, hm⟩ := k1; exact DataW.trod_lt m _ _ _ hm
  have k2 := h2
  have lt2 : ∀ x ∈ p2, x.block < W.heap.size := by obtain ⟨m, hm⟩ := k2; exact DataW.trod_lt m _ _ _ hm
  have k3 := h3
  have lt3 : ∀ x ∈ p3, x.block < W.heap.size := by obtain ⟨m, hm⟩ := k3; exact DataW.trod_lt m _ _ _ hm
  obtain ⟨x0, rfl, rfl, rfl, wx0⟩ := open_int Try.underlying3 (hval 0 3 v0 rfl rfl) h0
  obtain ⟨x1, rfl, rfl, rfl, wx1⟩ := open_int Try.underlying3 (hval 1 3 v1 rfl rfl) h1
  obtain ⟨na, nc, nodes, rfl, hN, hnc⟩ := open_ints_arg (hval 2 22 v2 rfl rfl) h2
  obtain ⟨ra, rc, rs, rfl, hR, hrc, hcm, _, hok, hwf, hqc⟩ := open_rws (hval 3 23 v3 rfl rfl) h3
  clear hA0 hval0
  refine (walk x0 x1 na nc nodes ra rc rs W hN hnc hR hrc hcm hok hwf hqc).mono fun e W' ⟨he, bel⟩ => ?_
  subst he
  exact ⟨_, rfl, _, _, _, [], _, [], hW', trodAll_mk1 (shut_bool Try.underlying4 _), (trodAll_cons_mk (Below.trod laidOut (by kernel_rfl) (of_decide_eq_true (by kernel_rfl)) k0 bel lt0) (trodAll_cons_mk (Below.trod laidOut (by kernel_rfl) (of_decide_eq_true (by kernel_rfl)) k1 bel lt1) (trodAll_cons_mk (Below.trod laidOut (by kernel_rfl) (of_decide_eq_true (by kernel_rfl)) k2 bel lt2) (trodAll_cons_mk (Below.trod laidOut (by kernel_rfl) (of_decide_eq_true (by kernel_rfl)) k3 bel lt3) trodAll_mk0)))), rfl, bel.frame _, fun h => by cases h⟩

theorem proved : Rows.ShareAnySaid :=
  OpenClaim.holds_of_wide 3 Try.f3 rfl rfl rfl rfl rfl rfl rfl ⟨rfl, rfl, rfl, rfl, rfl⟩ rfl rfl rfl rfl rfl (by kernel_rfl) Try.func3 (by kernel_rfl)
    (of_decide_eq_true (by kernel_rfl)) (by unfold Func.isWrapper; first | (rw [if_pos (by decide +kernel)]; kernel_rfl) | (rw [if_neg (by decide +kernel)]; exact ⟨rfl, rfl⟩))
    (fun os started H enc _ => lifted os started H enc)
#print axioms proved
end Go.Proofs.Ytnpiemcfbnpfdaa.shareAny
