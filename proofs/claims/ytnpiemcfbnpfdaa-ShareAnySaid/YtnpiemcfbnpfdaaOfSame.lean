/-
  Walked: the law's of; the reference's Same of parts.
-/
import Derived.Test.YtnpiemcfbnpfdaaAlike
namespace Go.Proofs.Ytnpiemcfbnpfdaa
open Go.RowKit Go.Maps
set_option linter.unusedVariables false
set_option linter.unusedSimpArgs false

theorem sizeRP : (Try.prog.info? 30).map (·.size) = some 5 := by kernel_rfl
theorem sizeSP : (Try.prog.info? 26).map (·.size) = some 5 := by kernel_rfl
set_option maxRecDepth 100000 in
theorem lawof_any (a0 a1 a2 a3 a4 : Option Addr) (n0 n1 n2 n3 n4 c0 c1 c2 c3 c4 : Nat) (w : World) :
    Calls Try.prog 10 #[.agg #[.slice a0 n0 c0, .slice a1 n1 c1, .slice a2 n2 c2, .slice a3 n3 c3, .slice a4 n4 c4]] w
      (fun e w' => e = .returned (.agg #[.slice a0 n0 c0, .slice a1 n1 c1, .slice a2 n2 c2, .slice a3 n3 c3, .slice a4 n4 c4]) ∧ Pure w w') := by
  go_enter Try.func10, Try.ntmps10
  go_wp2_with fail
  have hB : BlockIs ((w.alloc (.cells #[.slice a0 n0 c0, .slice a1 n1 c1, .slice a2 n2 c2, .slice a3 n3 c3, .slice a4 n4 c4] 26)).alloc (.cells #[.slice a0 n0 c0, .slice a1 n1 c1, .slice a2 n2 c2, .slice a3 n3 c3, .slice a4 n4 c4] 30)) (w.heap.size + 1) [.slice a0 n0 c0, .slice a1 n1 c1, .slice a2 n2 c2, .slice a3 n3 c3, .slice a4 n4 c4] 30 := by
    have := BlockIs.new (w.alloc (.cells #[.slice a0 n0 c0, .slice a1 n1 c1, .slice a2 n2 c2, .slice a3 n3 c3, .slice a4 n4 c4] 26)) [.slice a0 n0 c0, .slice a1 n1 c1, .slice a2 n2 c2, .slice a3 n3 c3, .slice a4 n4 c4] 30
    rw [World.size_alloc] at this
    exact this
  refine bodyPost_ret (results_row1 rfl _ _ (w.heap.size + 1) _ [.slice a0 n0 c0, .slice a1 n1 c1, .slice a2 n2 c2, .slice a3 n3 c3, .slice a4 n4 c4] _ rfl hB Try.underlying30 rfl sizeRP) rfl ?_
  exact ⟨rfl, (ext_alloc w _).pure (ext_alloc _ _)⟩
set_option maxHeartbeats 2000000 in
set_option maxRecDepth 100000 in
theorem rpsame_any {p : PartsP} {t f s h t' f' s' h' : CRow} {a a' : Option Addr} {c c' : Nat} {rs rs' : List CRow} {w : World} (H : PartsAt p t f s h a c rs w) (H' : PartsAt p t' f' s' h' a' c' rs' w)
    (hz : p.tree.length ≤ 1000000 ∧ p.first.length ≤ 1000000 ∧ p.shared.length ≤ 1000000 ∧ p.others.length ≤ 1000000 ∧ p.own.length ≤ 1000000 ∧ ∀ r ∈ p.own, r.length ≤ 1000000) :
    Calls Try.prog 9 #[.agg #[t.v, f.v, .slice a rs.length c, s.v, h.v], .agg #[t'.v, f'.v, .slice a' rs'.length c', s'.v, h'.v]] w (BoolTo true w) := by
  obtain ⟨z1, z2, z3, z4, z5, z6⟩ := hz
  have hrl : rs.length ≤ 1000000 := by have := congrArg List.length H.lo; rw [lsR_len] at this; omega
  have hrm : ∀ q ∈ rs, q.l.length ≤ 1000000 := fun q hq => z6 _ (by rw [← H.lo]; exact List.mem_map.2 ⟨q, hq, rfl⟩)
  have K1 := Lib.hid (fun W (hP : Pure w W) => rsame_any p.tree t.a t.c t'.a t'.c W (by rw [← H.lt]; exact (H.t.pure hP).1) (by rw [← H'.lt]; exact (H'.t.pure hP).1) (by omega))
  have K2 := Lib.hid (fun W (hP : Pure w W) => rsame_any p.first f.a f.c f'.a f'.c W (by rw [← H.lf]; exact (H.f.pure hP).1) (by rw [← H'.lf]; exact (H'.f.pure hP).1) (by omega))
  have K3 := Lib.hid (fun W (hP : Pure w W) => ralike_any rs rs' a a' c c' W (H.o.pure hP) (H'.o.pure hP) (H'.lo.trans H.lo.symm) hrl hrm)
  have K4 := Lib.hid (fun W (hP : Pure w W) => rsame_any p.shared s.a s.c s'.a s'.c W (by rw [← H.ls]; exact (H.s.pure hP).1) (by rw [← H'.ls]; exact (H'.s.pure hP).1) (by omega))
  have K5 := Lib.hid (fun W (hP : Pure w W) => rsame_any p.others h.a h.c h'.a h'.c W (by rw [← H.lh]; exact (H.h.pure hP).1) (by rw [← H'.lh]; exact (H'.h.pure hP).1) (by omega))
  unfold CRow.v
  rw [H.lt, H.lf, H.ls, H.lh, H'.lt, H'.lf, H'.ls, H'.lh]
  generalize p.tree.length = m1 at *
  generalize p.first.length = m2 at *
  generalize p.shared.length = m4 at *
  generalize p.others.length = m5 at *
  clear H H' z1 z2 z3 z4 z5 z6 hrl hrm
  generalize rs.length = n1 at *
  generalize rs'.length = n2 at *
  generalize t.a = ta at *
  generalize t.c = tc at *
  generalize f.a = fa at *
  generalize f.c = fc at *
  generalize s.a = sa at *
  generalize s.c = sc at *
  generalize h.a = ha at *
  generalize h.c = hc at *
  generalize t'.a = ta' at *
  generalize t'.c = tc' at *
  generalize f'.a = fa' at *
  generalize f'.c = fc' at *
  generalize s'.a = sa' at *
  generalize s'.c = sc' at *
  generalize h'.a = ha' at *
  generalize h'.c = hc' at *
  obtain ⟨w2, hw2⟩ : ∃ z, z = (w.alloc (.cells #[.slice ta m1 tc, .slice fa m2 fc, .slice a n1 c, .slice sa m4 sc, .slice ha m5 hc] 30)).alloc (.cells #[.slice ta' m1 tc', .slice fa' m2 fc', .slice a' n2 c', .slice sa' m4 sc', .slice ha' m5 hc'] 30) := ⟨_, rfl⟩
  have HP2 : Hid (Pure w w2) := Lib.hid (by rw [hw2]; exact (ext_alloc w _).pure (ext_alloc _ _))
  have HB1 : Hid (BlockIs w2 w.heap.size [.slice ta m1 tc, .slice fa m2 fc, .slice a n1 c, .slice sa m4 sc, .slice ha m5 hc] 30) := Lib.hid (by rw [hw2]; exact (BlockIs.new w _ _).alloc _)
  have HB2 : Hid (BlockIs w2 (w.heap.size + 1) [.slice ta' m1 tc', .slice fa' m2 fc', .slice a' n2 c', .slice sa' m4 sc', .slice ha' m5 hc'] 30) := Lib.hid (by
    have := BlockIs.new (w.alloc (.cells #[.slice ta m1 tc, .slice fa m2 fc, .slice a n1 c, .slice sa m4 sc, .slice ha m5 hc] 30)) [.slice ta' m1 tc', .slice fa' m2 fc', .slice a' n2 c', .slice sa' m4 sc', .slice ha' m5 hc'] 30
    rw [World.size_alloc] at this
    rw [hw2]; exact this)
  have HW2 := Lib.hid hw2.symm
  obtain ⟨tb, htb⟩ : ∃ z, z = w.heap.size := ⟨_, rfl⟩
  rw [← htb] at HB1 HB2
  have HTb := Lib.hid htb.symm
  clear hw2 htb
  go_enter Try.func9, Try.ntmps9
  go_wp2_with fail
  rw [HW2.out, HTb.out]
  refine (K1.out w2 HP2.out).mono ?_
  rintro e w3 ⟨rfl, hP⟩
  have HP3 := Lib.hid (HP2.out.pure hP)
  have HB1 := Lib.hid (HB1.out.ext hP id)
  have HB2 := Lib.hid (HB2.out.ext hP id)
  have x1 : w3.cell? ⟨tb, 1, none⟩ = some (.slice fa m2 fc) := HB1.out.cell 1
  have y1 : w3.cell? ⟨tb + 1, 1, none⟩ = some (.slice fa' m2 fc') := HB2.out.cell 1
  clear hP
  go_wp2_with fail
  refine (K2.out w3 HP3.out).mono ?_
  rintro e w4 ⟨rfl, hP⟩
  have HP4 := Lib.hid (HP3.out.pure hP)
  have HB1 := Lib.hid (HB1.out.ext hP id)
  have HB2 := Lib.hid (HB2.out.ext hP id)
  clear hP x1 y1
  have x2 : w4.cell? ⟨tb, 2, none⟩ = some (.slice a n1 c) := HB1.out.cell 2
  have y2 : w4.cell? ⟨tb + 1, 2, none⟩ = some (.slice a' n2 c') := HB2.out.cell 2
  go_wp2_with fail
  refine (K3.out w4 HP4.out).mono ?_
  rintro e w5 ⟨rfl, hP⟩
  have HP5 := Lib.hid (HP4.out.pure hP)
  have HB1 := Lib.hid (HB1.out.ext hP id)
  have HB2 := Lib.hid (HB2.out.ext hP id)
  clear hP x2 y2
  have x3 : w5.cell? ⟨tb, 3, none⟩ = some (.slice sa m4 sc) := HB1.out.cell 3
  have y3 : w5.cell? ⟨tb + 1, 3, none⟩ = some (.slice sa' m4 sc') := HB2.out.cell 3
  go_wp2_with fail
  refine (K4.out w5 HP5.out).mono ?_
  rintro e w6 ⟨rfl, hP⟩
  have HP6 := Lib.hid (HP5.out.pure hP)
  have HB1 := Lib.hid (HB1.out.ext hP id)
  have HB2 := Lib.hid (HB2.out.ext hP id)
  clear hP x3 y3
  have x4 : w6.cell? ⟨tb, 4, none⟩ = some (.slice ha m5 hc) := HB1.out.cell 4
  have y4 : w6.cell? ⟨tb + 1, 4, none⟩ = some (.slice ha' m5 hc') := HB2.out.cell 4
  go_wp2_with fail
  refine (K5.out w6 HP6.out).mono ?_
  rintro e w7 ⟨rfl, hP⟩
  have HP7 := Lib.hid (HP6.out.pure hP)
  clear hP x4 y4
  go_wp2_with fail
  go_ret
  exact ⟨rfl, HP7.out⟩
end Go.Proofs.Ytnpiemcfbnpfdaa
