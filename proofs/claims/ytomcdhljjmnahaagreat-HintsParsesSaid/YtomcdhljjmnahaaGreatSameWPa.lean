import Derived.Test.YtomcdhljjmnahaaGreatBackHPa
import Derived.Test.YtomcdhljjmnahaaGreatParsePa
import Derived.Test.YtomcdhljjmnahaaGreatSqPa
set_option linter.unusedVariables false
set_option linter.unusedSimpArgs false
set_option maxRecDepth 100000
namespace Go.Proofs.YtomcdhljjmnahaaGreat
open Go.RowKit
set_option maxHeartbeats 2000000 in
theorem same_yes (a b : HT) (pa la : Option Addr) (pc lc : Nat) (qa ma : Option Addr) (qc mc : Nat) (w : World) (H : HMem w a pa pc la lc) (K : HMem w b qa qc ma mc) (h : Alike a b) :
 Calls Tryz.prog 16 #[.agg (hC a pa pc la lc).toArray, .agg (hC b qa qc ma mc).toArray] w (BoolTo true w) := by
 obtain ⟨fo, fa, ps, so, sa, sf, sh⟩ := a
 obtain ⟨fo', fa', qs, so', sa', sf', sh'⟩ := b
 obtain ⟨h1, h2, h3, h4, h5, h6, h7⟩ := h
 simp only at h1 h2 h3 h4 h5 h6 h7
 subst h1 h2 h4 h5 h6 h7
 have hl : ps.length = qs.length := by have := congrArg List.length h3; simpa using this
 have HS1 := qh (fun W (hP : Pure w W) => P26.same_any pa pc ps qa qc qs W (H.pure hP).pages (K.pure hP).pages (by have := H.pn; simp only at this; omega) (by have := H.pn; simp only at this; omega))
 have HS2 := qh (fun W (hP : Pure w W) => S27.rowsame_any la lc sh ma mc sh W (H.pure hP).share (K.pure hP).share (by have := H.sn; simp only at this; omega) (by have := H.sn; simp only at this; omega))
 rw [P26.alike_refl ps qs h3] at HS1
 rw [decide_eq_true (show sh = sh from rfl)] at HS2
 unfold hC
 simp only
 obtain ⟨pn, hpn⟩ : ∃ z, z = ps.length := ⟨_, rfl⟩
 obtain ⟨qn, hqn⟩ : ∃ z, z = qs.length := ⟨_, rfl⟩
 obtain ⟨sn, hsn⟩ : ∃ z, z = sh.length := ⟨_, rfl⟩
 rw [← hpn, ← hqn] at HS1
 rw [← hsn] at HS2
 rw [← hpn, ← hqn, ← hsn]
 obtain ⟨cs, hcs⟩ : ∃ z, z = [Value.int .i64 fo, .int .i64 fa, .slice pa pn pc, .int .i64 so, .int .i64 sa, .int .i64 sf, .slice la sn lc] := ⟨_, rfl⟩
 obtain ⟨es, hes⟩ : ∃ z, z = [Value.int .i64 fo, .int .i64 fa, .slice qa qn qc, .int .i64 so, .int .i64 sa, .int .i64 sf, .slice ma sn mc] := ⟨_, rfl⟩
 rw [← hcs, ← hes]
 obtain ⟨w2, hw2⟩ : ∃ z, z = ((w.alloc (.cells cs.toArray 25)).alloc (.cells es.toArray 25)) := ⟨_, rfl⟩
 have hP : Pure w w2 := hw2 ▸ (show Pure w (w.alloc (.cells cs.toArray 25)) from ext_alloc w _).pure (ext_alloc _ _)
 have hB1 : BlockIs ((w.alloc (.cells cs.toArray 25)).alloc (.cells es.toArray 25)) w.heap.size cs 25 := (BlockIs.new w cs 25).alloc _
 have hB2 : BlockIs ((w.alloc (.cells cs.toArray 25)).alloc (.cells es.toArray 25)) (w.heap.size + 1) es 25 := by
  have := BlockIs.new (w.alloc (.cells cs.toArray 25)) es 25
  rw [World.size_alloc] at this
  exact this
 have r0 : ((w.alloc (.cells cs.toArray 25)).alloc (.cells es.toArray 25)).cell? ⟨w.heap.size, 0, none⟩ = some (.int .i64 fo) := by rw [hB1.cell 0, hcs]; rfl
 have s0 : ((w.alloc (.cells cs.toArray 25)).alloc (.cells es.toArray 25)).cell? ⟨w.heap.size + 1, 0, none⟩ = some (.int .i64 fo) := by rw [hB2.cell 0, hes]; rfl
 have r1 : ((w.alloc (.cells cs.toArray 25)).alloc (.cells es.toArray 25)).cell? ⟨w.heap.size, 1, none⟩ = some (.int .i64 fa) := by rw [hB1.cell 1, hcs]; rfl
 have s1 : ((w.alloc (.cells cs.toArray 25)).alloc (.cells es.toArray 25)).cell? ⟨w.heap.size + 1, 1, none⟩ = some (.int .i64 fa) := by rw [hB2.cell 1, hes]; rfl
 have r2 : ((w.alloc (.cells cs.toArray 25)).alloc (.cells es.toArray 25)).cell? ⟨w.heap.size, 2, none⟩ = some (.slice pa pn pc) := by rw [hB1.cell 2, hcs]; rfl
 have s2 : ((w.alloc (.cells cs.toArray 25)).alloc (.cells es.toArray 25)).cell? ⟨w.heap.size + 1, 2, none⟩ = some (.slice qa qn qc) := by rw [hB2.cell 2, hes]; rfl
 have r3 : ((w.alloc (.cells cs.toArray 25)).alloc (.cells es.toArray 25)).cell? ⟨w.heap.size, 3, none⟩ = some (.int .i64 so) := by rw [hB1.cell 3, hcs]; rfl
 have s3 : ((w.alloc (.cells cs.toArray 25)).alloc (.cells es.toArray 25)).cell? ⟨w.heap.size + 1, 3, none⟩ = some (.int .i64 so) := by rw [hB2.cell 3, hes]; rfl
 have r4 : ((w.alloc (.cells cs.toArray 25)).alloc (.cells es.toArray 25)).cell? ⟨w.heap.size, 4, none⟩ = some (.int .i64 sa) := by rw [hB1.cell 4, hcs]; rfl
 have s4 : ((w.alloc (.cells cs.toArray 25)).alloc (.cells es.toArray 25)).cell? ⟨w.heap.size + 1, 4, none⟩ = some (.int .i64 sa) := by rw [hB2.cell 4, hes]; rfl
 have r5 : ((w.alloc (.cells cs.toArray 25)).alloc (.cells es.toArray 25)).cell? ⟨w.heap.size, 5, none⟩ = some (.int .i64 sf) := by rw [hB1.cell 5, hcs]; rfl
 have s5 : ((w.alloc (.cells cs.toArray 25)).alloc (.cells es.toArray 25)).cell? ⟨w.heap.size + 1, 5, none⟩ = some (.int .i64 sf) := by rw [hB2.cell 5, hes]; rfl
 have r6 : ((w.alloc (.cells cs.toArray 25)).alloc (.cells es.toArray 25)).cell? ⟨w.heap.size, 6, none⟩ = some (.slice la sn lc) := by rw [hB1.cell 6, hcs]; rfl
 have s6 : ((w.alloc (.cells cs.toArray 25)).alloc (.cells es.toArray 25)).cell? ⟨w.heap.size + 1, 6, none⟩ = some (.slice ma sn mc) := by rw [hB2.cell 6, hes]; rfl
 have hq : ∀ k (v : Value), ((w.alloc (.cells cs.toArray 25)).alloc (.cells es.toArray 25)).cell? ⟨w.heap.size, k, none⟩ = some v → w2.cell? ⟨w.heap.size, k, none⟩ = some v := fun k v h => by rw [hw2]; exact h
 have hq2 : ∀ k (v : Value), ((w.alloc (.cells cs.toArray 25)).alloc (.cells es.toArray 25)).cell? ⟨w.heap.size + 1, k, none⟩ = some v → w2.cell? ⟨w.heap.size + 1, k, none⟩ = some v := fun k v h => by rw [hw2]; exact h
 have x3 := hq _ _ r3
 have x4 := hq _ _ r4
 have x5 := hq _ _ r5
 have x6 := hq _ _ r6
 have y3 := hq2 _ _ s3
 have y4 := hq2 _ _ s4
 have y5 := hq2 _ _ s5
 have y6 := hq2 _ _ s6
 have HX := qh (And.intro x3 (And.intro x4 (And.intro x5 (And.intro x6 (And.intro y3 (And.intro y4 (And.intro y5 y6)))))))
 have HW : Hid (((w.alloc (.cells cs.toArray 25)).alloc (.cells es.toArray 25)) = w2) := qh hw2.symm
 clear hq hq2 x3 x4 x5 x6 y3 y4 y5 y6 hcs hes hw2 hB1 hB2 H K h3 hl hpn hqn hsn
 go_enter Tryz.func16, Tryz.ntmps16
 go_wp2_with fail
 rw [HW.out]
 refine (HS1.out w2 hP).mono ?_
 rintro e w3 ⟨rfl, hP3⟩
 obtain ⟨x3, x4, x5, x6, y3, y4, y5, y6⟩ := HX.out
 have x3 := hP3.cell_some x3 id
 have x4 := hP3.cell_some x4 id
 have x5 := hP3.cell_some x5 id
 have x6 := hP3.cell_some x6 id
 have y3 := hP3.cell_some y3 id
 have y4 := hP3.cell_some y4 id
 have y5 := hP3.cell_some y5 id
 have y6 := hP3.cell_some y6 id
 clear r0 s0 r1 s1 r2 s2 r3 s3 r4 s4 r5 s5 r6 s6 HX
 go_wp2_with fail
 refine (HS2.out w3 (hP.pure hP3)).mono ?_
 rintro e w4 ⟨rfl, hP4⟩
 go_wp2_with fail
 go_ret
 exact ⟨rfl, (hP.pure hP3).pure hP4⟩
