/-
  Walked: the reference's Same.
-/
import Derived.Test.YtiakphjkcpbccaaRefCmp
namespace Go.Proofs.Ytiakphjkcpbccaa
open Go.RowKit
set_option linter.unusedVariables false

set_option maxHeartbeats 1000000 in
set_option maxRecDepth 100000 in
theorem refsame_any (d : Nat) (v : V) (cs : List Value) (d' : Nat) (u : V) (cs' : List Value) (w : World) (h : Lies w d v cs) (h' : Lies w d' u cs') (hsz : v.size ≤ 100000) (hsz' : u.size ≤ 100000) :
    Calls Try.prog 17 #[.agg cs.toArray, .agg cs'.toArray] w (BoolTo (decide (v.cmp u = 0)) w) := by
  have h4 := h.len
  have h4' := h'.len
  have HC := Lib.hid (fun W (hP : Pure w W) => refcmp_any d v cs d' u cs' W (h.pure hP) (h'.pure hP) hsz hsz')
  obtain ⟨w1, hw1⟩ : ∃ w1, w1 = (w.alloc (.cells cs.toArray 24)).alloc (.cells cs'.toArray 24) := ⟨_, rfl⟩
  have hB1 : BlockIs w1 w.heap.size cs 24 := hw1 ▸ (BlockIs.new w _ _).alloc _
  have hB2 : BlockIs w1 (w.heap.size + 1) cs' 24 := by
    have h := BlockIs.new (w.alloc (.cells cs.toArray 24)) cs' 24
    rw [World.size_alloc] at h
    rw [hw1]; exact h
  have hP1 : Pure w w1 := hw1 ▸ (ext_alloc w _).alloc _
  have HW1 := Lib.hid hw1
  have hR1 := hB1.range
  have hR2 := hB2.range
  obtain ⟨z, hz⟩ : ∃ z, z = v.cmp u := ⟨_, rfl⟩
  rw [← hz] at HC ⊢
  clear hz hw1 h h' hsz hsz' hB1 hB2
  by_cases h0 : z = 0
  · have h0' : (z == 0) = true := by simp [h0]
    have HD : Hid (decide (z = 0) = true) := Lib.hid (by simp [h0])
    go_enter Try.func17, Try.ntmps17
    go_wp2_with (first
      | (refine wpList_load_mid rfl 24 (.tmp 2) rfl w.heap.size 0 rfl cs _ (by rw [← HW1.out]; exact hR1) Try.underlying24 rfl (by rw [h4]; kernel_rfl) ?_)
      | (refine wpList_load_mid rfl 24 (.tmp 3) rfl (w.heap.size + 1) 0 (by simp [go_sem]) cs' _ (by rw [← HW1.out]; exact hR2) Try.underlying24 rfl (by rw [h4']; kernel_rfl) ?_))
    rw [← HW1.out]
    refine (HC.out w1 hP1).mono ?_
    rintro e w2 ⟨rfl, hP2⟩
    go_wp2_with fail
    go_ret
    exact ⟨by rw [HD.out]; rfl, hP1.pure hP2⟩
  · have h0' : (z == 0) = false := by simp [h0]
    have HD : Hid (decide (z = 0) = false) := Lib.hid (by simp [h0])
    go_enter Try.func17, Try.ntmps17
    go_wp2_with (first
      | (refine wpList_load_mid rfl 24 (.tmp 2) rfl w.heap.size 0 rfl cs _ (by rw [← HW1.out]; exact hR1) Try.underlying24 rfl (by rw [h4]; kernel_rfl) ?_)
      | (refine wpList_load_mid rfl 24 (.tmp 3) rfl (w.heap.size + 1) 0 (by simp [go_sem]) cs' _ (by rw [← HW1.out]; exact hR2) Try.underlying24 rfl (by rw [h4']; kernel_rfl) ?_))
    rw [← HW1.out]
    refine (HC.out w1 hP1).mono ?_
    rintro e w2 ⟨rfl, hP2⟩
    go_wp2_with fail
    go_ret
    exact ⟨by rw [HD.out]; rfl, hP1.pure hP2⟩
end Go.Proofs.Ytiakphjkcpbccaa
