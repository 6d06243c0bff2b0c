/-
  Walked: the reference's Alike, of rows of the same numbers.
  Walked: the law's of; the reference's Same of parts.
  Parts as five slices.
-/
import Derived.Test.YtnpiemcfbnpfdaaRef24
namespace Go.Proofs.Ytnpiemcfbnpfdaa
open Go.RowKit Go.Maps
set_option linter.unusedVariables false
set_option linter.unusedSimpArgs false

set_option maxHeartbeats 2000000 in
set_option maxRecDepth 100000 in
theorem ralike_any (rs rs' : List CRow) (a a' : Option Addr) (c c' : Nat) (w : World) (hR : Rws w a rs) (hR' : Rws w a' rs') (he : lsR rs' = lsR rs) (hn : rs.length ≤ 1000000) (hm : ∀ q ∈ rs, q.l.length ≤ 1000000) :
    Calls Try.prog 25 #[.slice a rs.length c, .slice a' rs'.length c'] w (BoolTo true w) := by
  have HR := Lib.hid hR
  have HR' := Lib.hid hR'
  have HM := Lib.hid hm
  have hl : rs'.length = rs.length := by have := congrArg List.length he; rwa [lsR_len, lsR_len] at this
  rw [hl]
  have HE := Lib.hid he
  have HL := Lib.hid hl
  obtain ⟨n, hN⟩ : ∃ z, z = rs.length := ⟨_, rfl⟩
  rw [← hN] at hn ⊢
  have HN := Lib.hid hN
  clear hR hR' hm hN he hl
  go_enter Try.func25, Try.ntmps25
  go_wp2_with fail
  go_loopw [5] (fun i W => ∃ k : Nat, k ≤ n ∧ i = .int .i64 k ∧ Hid (Pure w W)) (fun i _ => n - (intOf i).toNat)
  case atStart => exact ⟨0, Nat.zero_le _, rfl, Lib.hid (Ext.refl _ _)⟩
  case round =>
    obtain ⟨k, hk, rfl, HP⟩ := hrel
    by_cases hlt : k < n
    · have hki : (k : Int) < (n : Int) := by omega
      have hk0 : (0 : Int) ≤ (k : Int) := by omega
      have hk1 : k < rs.length := by rw [← HN.out]; exact hlt
      have hk2 : k < rs'.length := by rw [HL.out]; exact hk1
      obtain ⟨b, o, rfl, hc⟩ := (HR.out.pure HP.out).get hk1
      obtain ⟨b', o', rfl, hc'⟩ := (HR'.out.pure HP.out).get hk2
      have hq : rs'[k].l = rs[k].l := by
        have h := lsR_get hk2
        have h2 := lsR_get hk1
        simp only [HE.out] at h
        exact h.symm.trans h2
      have HS : Hid (∀ W, Pure wr W → Calls Try.prog 24 #[.slice rs[k].a rs[k].l.length rs[k].c, .slice rs'[k].a rs'[k].l.length rs'[k].c] W (BoolTo true W)) := Lib.hid (fun W hP => by
        have h1 := (HR.out.pure (HP.out.pure hP)).has _ (List.getElem_mem hk1)
        have h2 := (HR'.out.pure (HP.out.pure hP)).has _ (List.getElem_mem hk2)
        rw [hq] at h2 ⊢
        exact rsame_any _ _ _ _ _ W h1 h2 (by have := HM.out _ (List.getElem_mem hk1); omega))
      have HC : Hid (∀ W, Pure wr W → W.cell? ⟨b, o + k, none⟩ = some (.slice rs[k].a rs[k].l.length rs[k].c) ∧ W.cell? ⟨b', o' + k, none⟩ = some (.slice rs'[k].a rs'[k].l.length rs'[k].c)) := Lib.hid (fun W hP => ⟨hP.cell_some hc id, hP.cell_some hc' id⟩)
      generalize rs[k].l.length = m1 at *
      generalize rs[k].a = qa at *
      generalize rs[k].c = qc at *
      generalize rs'[k].l.length = m2 at *
      generalize rs'[k].a = qa' at *
      generalize rs'[k].c = qc' at *
      clear hq hk1 hk2
      go_wp2_with fail
      have hP0 : Pure wr wr.drew := (Ext.refl _ wr).drew
      refine region_start (fun _ => False) (by kernel_rfl) ?_
      try simp only [Act.put, List.setIfInBounds_toArray, List.set_cons_zero, List.set_cons_succ]
      refine region_take 0 17 (v := ?val0) rfl rfl (by kernel_rfl) (by kernel_rfl) (by kernel_rfl) (fun _ _ _ h => h) (by rfl) (fun w' hS => ?hal0) ?ral0
      case hal0 => go_simp; with_reducible rfl
      try simp only [Act.put, List.setIfInBounds_toArray, List.set_cons_zero, List.set_cons_succ]
      refine region_take 1 18 (v := ?val1) rfl rfl (by kernel_rfl) (by kernel_rfl) (by kernel_rfl) (fun _ _ _ h => h) (by rfl) (fun w' hS => ?hal1) ?ral1
      case hal1 => go_simp; with_reducible rfl
      try simp only [Act.put, List.setIfInBounds_toArray, List.set_cons_zero, List.set_cons_succ]
      refine region_take 2 19 (v := ?val2) rfl rfl (by kernel_rfl) (by kernel_rfl) (by kernel_rfl) (fun _ _ _ h => h) (by rfl) (fun w' hS => ?hal2) ?ral2
      case hal2 => go_simp; with_reducible rfl
      try simp only [Act.put, List.setIfInBounds_toArray, List.set_cons_zero, List.set_cons_succ]
      refine region_take 3 20 (v := ?val3) rfl rfl (by kernel_rfl) (by kernel_rfl) (by kernel_rfl) (fun _ _ _ h => h) (by rfl) (fun w' hS => ?hal3) ?ral3
      case hal3 => (have e := (HC.out w' (hP0.trans hS (fun _ _ e => e))).1; go_simp; with_reducible rfl)
      try simp only [Act.put, List.setIfInBounds_toArray, List.set_cons_zero, List.set_cons_succ]
      refine region_take 4 21 (v := ?val4) rfl rfl (by kernel_rfl) (by kernel_rfl) (by kernel_rfl) (fun _ _ _ h => h) (by rfl) (fun w' hS => ?hal4) ?ral4
      case hal4 => go_simp; with_reducible rfl
      try simp only [Act.put, List.setIfInBounds_toArray, List.set_cons_zero, List.set_cons_succ]
      refine region_take 5 22 (v := ?val5) rfl rfl (by kernel_rfl) (by kernel_rfl) (by kernel_rfl) (fun _ _ _ h => h) (by rfl) (fun w' hS => ?hal5) ?ral5
      case hal5 => go_simp; with_reducible rfl
      try simp only [Act.put, List.setIfInBounds_toArray, List.set_cons_zero, List.set_cons_succ]
      refine region_take 6 23 (v := ?val6) rfl rfl (by kernel_rfl) (by kernel_rfl) (by kernel_rfl) (fun _ _ _ h => h) (by rfl) (fun w' hS => ?hal6) ?ral6
      case hal6 => go_simp; with_reducible rfl
      try simp only [Act.put, List.setIfInBounds_toArray, List.set_cons_zero, List.set_cons_succ]
      refine region_take 7 24 (v := ?val7) rfl rfl (by kernel_rfl) (by kernel_rfl) (by kernel_rfl) (fun _ _ _ h => h) (by rfl) (fun w' hS => ?hal7) ?ral7
      case hal7 => (have e := (HC.out w' (hP0.trans hS (fun _ _ e => e))).2; go_simp; with_reducible rfl)
      try simp only [Act.put, List.setIfInBounds_toArray, List.set_cons_zero, List.set_cons_succ]
      refine wpAnyH_ready (rs := [8]) (by kernel_rfl) (by simp) (AllReadyH.cons rfl (fun K hK => ?_) AllReadyH.nil)
      go_simp
      refine (HS.out _ hP0).mono ?_
      rintro e wa ⟨rfl, hP⟩
      have hP0 := hP0.pure hP
      refine hK.out _ _ (hP) (fun hHeld => ?_)
      clear hK K hHeld
      refine region_now (hP) ?_
      try simp only [Act.put, List.setIfInBounds_toArray, List.set_cons_zero, List.set_cons_succ]
      refine region_take 9 26 (v := ?val9) rfl rfl (by kernel_rfl) (by kernel_rfl) (by kernel_rfl) (fun _ _ _ h => h) (by rfl) (fun w' hS => ?hal9) ?ral9
      case hal9 => go_simp; with_reducible rfl
      try simp only [Act.put, List.setIfInBounds_toArray, List.set_cons_zero, List.set_cons_succ]
      refine wpAnyH_done (by kernel_rfl) ?_ _
      have HP2 := Lib.hid (HP.out.pure hP0)
      clear hP0
      go_wp2_with fail
      go_roundw
      case rel => exact ⟨k + 1, by omega, by go_num, HP2⟩
      case measure => simp [intOf]; omega
    · have hki : ¬ (k : Int) < (n : Int) := by omega
      go_wp2_with fail
      go_ret
      exact ⟨rfl, HP.out⟩
end Go.Proofs.Ytnpiemcfbnpfdaa
namespace Go.Proofs.Ytnpiemcfbnpfdaa
open Go.RowKit Go.Maps
set_option linter.unusedVariables false
set_option linter.unusedSimpArgs false

theorem sizeRP : (Try.prog.info? 30).map (·.size) = some 5 := by kernel_rfl
theorem sizeSP : (Try.prog.info? 26).map (·.size) = some 5 := by kernel_rfl
set_option maxRecDepth 100000 in
theorem lawof_any (a0 a1 a2 a3 a4 : Option Addr) (n0 n1 n2 n3 n4 c0 c1 c2 c3 c4 : Nat) (w : World) :
    Calls Try.prog 10 #[.agg #[.slice a0 n0 c0, .slice a1 n1 c1, .slice a2 n2 c2, .slice a3 n3 c3, .slice a4 n4 c4]] w
      (fun e w' => e = .returned (.agg #[.slice a0 n0 c0, .slice a1 n1 c1, .slice a2 n2 c2, .slice a3 n3 c3, .slice a4 n4 c4]) ∧ Pure w w') := by
  go_enter Try.func10, Try.ntmps10
  go_wp2_with fail
  have hB : BlockIs ((w.alloc (.cells #[.slice a0 n0 c0, .slice a1 n1 c1, .slice a2 n2 c2, .slice a3 n3 c3, .slice a4 n4 c4] 26)).alloc (.cells #[.slice a0 n0 c0, .slice a1 n1 c1, .slice a2 n2 c2, .slice a3 n3 c3, .slice a4 n4 c4] 30)) (w.heap.size + 1) [.slice a0 n0 c0, .slice a1 n1 c1, .slice a2 n2 c2, .slice a3 n3 c3, .slice a4 n4 c4] 30 := by
    have := BlockIs.new (w.alloc (.cells #[.slice a0 n0 c0, .slice a1 n1 c1, .slice a2 n2 c2, .slice a3 n3 c3, .slice a4 n4 c4] 26)) [.slice a0 n0 c0, .slice a1 n1 c1, .slice a2 n2 c2, .slice a3 n3 c3, .slice a4 n4 c4] 30
    rw [World.size_alloc] at this
    exact this
  refine bodyPost_ret (results_row1 rfl _ _ (w.heap.size + 1) _ [.slice a0 n0 c0, .slice a1 n1 c1, .slice a2 n2 c2, .slice a3 n3 c3, .slice a4 n4 c4] _ rfl hB Try.underlying30 rfl sizeRP) rfl ?_
  exact ⟨rfl, (ext_alloc w _).pure (ext_alloc _ _)⟩
set_option maxHeartbeats 2000000 in
set_option maxRecDepth 100000 in
theorem rpsame_any {p : PartsP} {t f s h t' f' s' h' : CRow} {a a' : Option Addr} {c c' : Nat} {rs rs' : List CRow} {w : World} (H : PartsAt p t f s h a c rs w) (H' : PartsAt p t' f' s' h' a' c' rs' w)
    (hz : p.tree.length ≤ 1000000 ∧ p.first.length ≤ 1000000 ∧ p.shared.length ≤ 1000000 ∧ p.others.length ≤ 1000000 ∧ p.own.length ≤ 1000000 ∧ ∀ r ∈ p.own, r.length ≤ 1000000) :
    Calls Try.prog 9 #[.agg #[t.v, f.v, .slice a rs.length c, s.v, h.v], .agg #[t'.v, f'.v, .slice a' rs'.length c', s'.v, h'.v]] w (BoolTo true w) := by
  obtain ⟨z1, z2, z3, z4, z5, z6⟩ := hz
  have hrl : rs.length ≤ 1000000 := by have := congrArg List.length H.lo; rw [lsR_len] at this; omega
  have hrm : ∀ q ∈ rs, q.l.length ≤ 1000000 := fun q hq => z6 _ (by rw [← H.lo]; exact List.mem_map.2 ⟨q, hq, rfl⟩)
  have K1 := Lib.hid (fun W (hP : Pure w W) => rsame_any p.tree t.a t.c t'.a t'.c W (by rw [← H.lt]; exact (H.t.pure hP).1) (by rw [← H'.lt]; exact (H'.t.pure hP).1) (by omega))
  have K2 := Lib.hid (fun W (hP : Pure w W) => rsame_any p.first f.a f.c f'.a f'.c W (by rw [← H.lf]; exact (H.f.pure hP).1) (by rw [← H'.lf]; exact (H'.f.pure hP).1) (by omega))
  have K3 := Lib.hid (fun W (hP : Pure w W) => ralike_any rs rs' a a' c c' W (H.o.pure hP) (H'.o.pure hP) (H'.lo.trans H.lo.symm) hrl hrm)
  have K4 := Lib.hid (fun W (hP : Pure w W) => rsame_any p.shared s.a s.c s'.a s'.c W (by rw [← H.ls]; exact (H.s.pure hP).1) (by rw [← H'.ls]; exact (H'.s.pure hP).1) (by omega))
  have K5 := Lib.hid (fun W (hP : Pure w W) => rsame_any p.others h.a h.c h'.a h'.c W (by rw [← H.lh]; exact (H.h.pure hP).1) (by rw [← H'.lh]; exact (H'.h.pure hP).1) (by omega))
  unfold CRow.v
  rw [H.lt, H.lf, H.ls, H.lh, H'.lt, H'.lf, H'.ls, H'.lh]
  generalize p.tree.length = m1 at *
  generalize p.first.length = m2 at *
  generalize p.shared.length = m4 at *
  generalize p.others.length = m5 at *
  clear H H' z1 z2 z3 z4 z5 z6 hrl hrm
  generalize rs.length = n1 at *
  generalize rs'.length = n2 at *
  generalize t.a = ta at *
  generalize t.c = tc at *
  generalize f.a = fa at *
  generalize f.c = fc at *
  generalize s.a = sa at *
  generalize s.c = sc at *
  generalize h.a = ha at *
  generalize h.c = hc at *
  generalize t'.a = ta' at *
  generalize t'.c = tc' at *
  generalize f'.a = fa' at *
  generalize f'.c = fc' at *
  generalize s'.a = sa' at *
  generalize s'.c = sc' at *
  generalize h'.a = ha' at *
  generalize h'.c = hc' at *
  obtain ⟨w2, hw2⟩ : ∃ z, z = (w.alloc (.cells #[.slice ta m1 tc, .slice fa m2 fc, .slice a n1 c, .slice sa m4 sc, .slice ha m5 hc] 30)).alloc (.cells #[.slice ta' m1 tc', .slice fa' m2 fc', .slice a' n2 c', .slice sa' m4 sc', .slice ha' m5 hc'] 30) := ⟨_, rfl⟩
  have HP2 : Hid (Pure w w2) := Lib.hid (by rw [hw2]; exact (ext_alloc w _).pure (ext_alloc _ _))
  have HB1 : Hid (BlockIs w2 w.heap.size [.slice ta m1 tc, .slice fa m2 fc, .slice a n1 c, .slice sa m4 sc, .slice ha m5 hc] 30) := Lib.hid (by rw [hw2]; exact (BlockIs.new w _ _).alloc _)
  have HB2 : Hid (BlockIs w2 (w.heap.size + 1) [.slice ta' m1 tc', .slice fa' m2 fc', .slice a' n2 c', .slice sa' m4 sc', .slice ha' m5 hc'] 30) := Lib.hid (by
    have := BlockIs.new (w.alloc (.cells #[.slice ta m1 tc, .slice fa m2 fc, .slice a n1 c, .slice sa m4 sc, .slice ha m5 hc] 30)) [.slice ta' m1 tc', .slice fa' m2 fc', .slice a' n2 c', .slice sa' m4 sc', .slice ha' m5 hc'] 30
    rw [World.size_alloc] at this
    rw [hw2]; exact this)
  have HW2 := Lib.hid hw2.symm
  obtain ⟨tb, htb⟩ : ∃ z, z = w.heap.size := ⟨_, rfl⟩
  rw [← htb] at HB1 HB2
  have HTb := Lib.hid htb.symm
  clear hw2 htb
  go_enter Try.func9, Try.ntmps9
  go_wp2_with fail
  rw [HW2.out, HTb.out]
  refine (K1.out w2 HP2.out).mono ?_
  rintro e w3 ⟨rfl, hP⟩
  have HP3 := Lib.hid (HP2.out.pure hP)
  have HB1 := Lib.hid (HB1.out.ext hP id)
  have HB2 := Lib.hid (HB2.out.ext hP id)
  have x1 : w3.cell? ⟨tb, 1, none⟩ = some (.slice fa m2 fc) := HB1.out.cell 1
  have y1 : w3.cell? ⟨tb + 1, 1, none⟩ = some (.slice fa' m2 fc') := HB2.out.cell 1
  clear hP
  go_wp2_with fail
  refine (K2.out w3 HP3.out).mono ?_
  rintro e w4 ⟨rfl, hP⟩
  have HP4 := Lib.hid (HP3.out.pure hP)
  have HB1 := Lib.hid (HB1.out.ext hP id)
  have HB2 := Lib.hid (HB2.out.ext hP id)
  clear hP x1 y1
  have x2 : w4.cell? ⟨tb, 2, none⟩ = some (.slice a n1 c) := HB1.out.cell 2
  have y2 : w4.cell? ⟨tb + 1, 2, none⟩ = some (.slice a' n2 c') := HB2.out.cell 2
  go_wp2_with fail
  refine (K3.out w4 HP4.out).mono ?_
  rintro e w5 ⟨rfl, hP⟩
  have HP5 := Lib.hid (HP4.out.pure hP)
  have HB1 := Lib.hid (HB1.out.ext hP id)
  have HB2 := Lib.hid (HB2.out.ext hP id)
  clear hP x2 y2
  have x3 : w5.cell? ⟨tb, 3, none⟩ = some (.slice sa m4 sc) := HB1.out.cell 3
  have y3 : w5.cell? ⟨tb + 1, 3, none⟩ = some (.slice sa' m4 sc') := HB2.out.cell 3
  go_wp2_with fail
  refine (K4.out w5 HP5.out).mono ?_
  rintro e w6 ⟨rfl, hP⟩
  have HP6 := Lib.hid (HP5.out.pure hP)
  have HB1 := Lib.hid (HB1.out.ext hP id)
  have HB2 := Lib.hid (HB2.out.ext hP id)
  clear hP x3 y3
  have x4 : w6.cell? ⟨tb, 4, none⟩ = some (.slice ha m5 hc) := HB1.out.cell 4
  have y4 : w6.cell? ⟨tb + 1, 4, none⟩ = some (.slice ha' m5 hc') := HB2.out.cell 4
  go_wp2_with fail
  refine (K5.out w6 HP6.out).mono ?_
  rintro e w7 ⟨rfl, hP⟩
  have HP7 := Lib.hid (HP6.out.pure hP)
  clear hP x4 y4
  go_wp2_with fail
  go_ret
  exact ⟨rfl, HP7.out⟩
end Go.Proofs.Ytnpiemcfbnpfdaa
namespace Go.Proofs.Ytnpiemcfbnpfdaa
open Go.RowKit Go.Maps
set_option linter.unusedVariables false
set_option linter.unusedSimpArgs false

/-- five values that are parts -/
def PAt (p : PartsP) (v0 v1 v2 v3 v4 : Value) (W : World) : Prop := ∃ t f s h a c rs, PartsAt p t f s h a c rs W ∧ v0 = t.v ∧ v1 = f.v ∧ v2 = .slice a rs.length c ∧ v3 = s.v ∧ v4 = h.v
theorem PAt.pure {p : PartsP} {v0 v1 v2 v3 v4 : Value} {W W' : World} (h : PAt p v0 v1 v2 v3 v4 W) (hP : Pure W W') : PAt p v0 v1 v2 v3 v4 W' := by
  obtain ⟨t, f, s, h, a, c, rs, H, e⟩ := h
  exact ⟨t, f, s, h, a, c, rs, H.pure hP, e⟩
def PartsTo2 (p : PartsP) (w : World) (e : Ending) (w' : World) : Prop :=
  ∃ (a0 a1 a2 a3 a4 : Option Addr) (n0 n1 n2 n3 n4 c0 c1 c2 c3 c4 : Nat), e = .returned (.agg #[.slice a0 n0 c0, .slice a1 n1 c1, .slice a2 n2 c2, .slice a3 n3 c3, .slice a4 n4 c4]) ∧
    PAt p (.slice a0 n0 c0) (.slice a1 n1 c1) (.slice a2 n2 c2) (.slice a3 n3 c3) (.slice a4 n4 c4) w' ∧ Pure w w'
theorem PartsTo.two {p : PartsP} {w w' : World} {e : Ending} (h : PartsTo p w e w') : PartsTo2 p w e w' := by
  obtain ⟨t, f, s, h, a, c, rs, rfl, H, hP⟩ := h
  exact ⟨t.a, f.a, a, s.a, h.a, t.l.length, f.l.length, rs.length, s.l.length, h.l.length, t.c, f.c, c, s.c, h.c, rfl, ⟨t, f, s, h, a, c, rs, H, rfl, rfl, rfl, rfl, rfl⟩, hP⟩
def PSmall (p : PartsP) : Prop := p.tree.length ≤ 1000000 ∧ p.first.length ≤ 1000000 ∧ p.shared.length ≤ 1000000 ∧ p.others.length ≤ 1000000 ∧ p.own.length ≤ 1000000 ∧ ∀ r ∈ p.own, r.length ≤ 1000000
theorem rpsame2_any {p : PartsP} {v0 v1 v2 v3 v4 u0 u1 u2 u3 u4 : Value} {w : World} (H : PAt p v0 v1 v2 v3 v4 w) (K : PAt p u0 u1 u2 u3 u4 w) (hz : PSmall p) :
    Calls Try.prog 9 #[.agg #[v0, v1, v2, v3, v4], .agg #[u0, u1, u2, u3, u4]] w (BoolTo true w) := by
  obtain ⟨t, f, s, h, a, c, rs, H, rfl, rfl, rfl, rfl, rfl⟩ := H
  obtain ⟨t', f', s', h', a', c', rs', K, rfl, rfl, rfl, rfl, rfl⟩ := K
  exact rpsame_any H K hz
end Go.Proofs.Ytnpiemcfbnpfdaa
