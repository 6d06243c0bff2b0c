/-
  Walked: the page with the most shared numbers (slices.MaxFunc, and how two pages are held side by side).
-/
import Derived.Test.YtdhejhgpjeenaaaPageAt
import Derived.Test.YtdhejhgpjeenaaaClos
namespace Go.Proofs.Ytdhejhgpjeenaaa
open Go.RowKit C26
set_option linter.unusedVariables false

set_option maxRecDepth 100000 in
theorem cmp_any (o l : Int) (sa : Option Addr) (n sc : Nat) (o' l' : Int) (sa' : Option Addr) (n' sc' : Nat) (b : Nat) (w : World) (hn : n ≤ 1000000) (hn' : n' ≤ 1000000) (hc : w.cell? ⟨b, 0, none⟩ = some (.func (.func 20) #[] #[])) :
    Calls Try.prog 24 #[pageV o l sa n sc, pageV o' l' sa' n' sc', .pointer (some ⟨b, 0, none⟩)] w (GotInt ((n : Int) - n') w) := by
  have hb : b < w.heap.size := World.block_lt_of_cell? w ⟨b, 0, none⟩ hc
  have HC1 := Lib.hid (fun W => count_any o l sa n sc W (by omega))
  have HC2 := Lib.hid (fun W => count_any o' l' sa' n' sc' W (by omega))
  unfold pageV at HC1 HC2 ⊢
  obtain ⟨w1, hw1⟩ : ∃ w1, w1 = (w.alloc (.cells #[.int .i64 o, .int .i64 l, .slice sa n sc] 49)).alloc (.cells #[.int .i64 o', .int .i64 l', .slice sa' n' sc'] 49) := ⟨_, rfl⟩
  have hB1 : BlockIs w1 w.heap.size [.int .i64 o, .int .i64 l, .slice sa n sc] 49 := hw1 ▸ (BlockIs.new w _ _).alloc _
  have hB2 : BlockIs w1 (w.heap.size + 1) [.int .i64 o', .int .i64 l', .slice sa' n' sc'] 49 := by
    have h := BlockIs.new (w.alloc (.cells #[.int .i64 o, .int .i64 l, .slice sa n sc] 49)) [.int .i64 o', .int .i64 l', .slice sa' n' sc'] 49
    rw [World.size_alloc] at h
    rw [hw1]; exact h
  have hP1 : Pure w w1 := hw1 ▸ (ext_alloc w _).alloc _
  have f0 : w1.drew.cell? ⟨b, 0, none⟩ = some (.func (.func 20) #[] #[]) := hP1.cell_some hc id
  have d0 : w1.drew.cell? ⟨w.heap.size, 0, none⟩ = some (.int .i64 o) := hB1.cell 0
  have d1 : w1.drew.cell? ⟨w.heap.size, 0 + 1, none⟩ = some (.int .i64 l) := hB1.cell 1
  have d2 : w1.drew.cell? ⟨w.heap.size, 0 + 2, none⟩ = some (.slice sa n sc) := hB1.cell 2
  have x0 : w1.drew.cell? ⟨w.heap.size + 1, 0, none⟩ = some (.int .i64 o') := hB2.cell 0
  have x1 : w1.drew.cell? ⟨w.heap.size + 1, 0 + 1, none⟩ = some (.int .i64 l') := hB2.cell 1
  have x2 : w1.drew.cell? ⟨w.heap.size + 1, 0 + 2, none⟩ = some (.slice sa' n' sc') := hB2.cell 2
  have g0 := fun w' (hS : Ext (fun _ => False) w1.drew w') => hS.cell_some f0 id
  have k0 := fun w' (hS : Ext (fun _ => False) w1.drew w') => hS.cell_some d0 id
  have k1 := fun w' (hS : Ext (fun _ => False) w1.drew w') => hS.cell_some d1 id
  have k2 := fun w' (hS : Ext (fun _ => False) w1.drew w') => hS.cell_some d2 id
  have l0 := fun w' (hS : Ext (fun _ => False) w1.drew w') => hS.cell_some x0 id
  have l1 := fun w' (hS : Ext (fun _ => False) w1.drew w') => hS.cell_some x1 id
  have l2 := fun w' (hS : Ext (fun _ => False) w1.drew w') => hS.cell_some x2 id
  have hsub : IntKind.i64.wrap ((n : Int) - n') = (n : Int) - n' := IntWalk.i64_in _ (by omega)
  clear hc
  go_enter Try.func24, Try.ntmps24
  go_wp2_with fail
  rw [← hw1]
  clear hw1
  refine region_start (fun _ => False) (by kernel_rfl) ?_
  try simp only [Act.put, List.setIfInBounds_toArray, List.set_cons_zero, List.set_cons_succ]
  refine region_take 0 6 (v := ?vca0) rfl rfl (by kernel_rfl) (by kernel_rfl) (by kernel_rfl) (fun _ _ _ h => h) (by rfl) (fun w' hS => ?hca0) ?rca0
  case hca0 => go_simp; with_reducible rfl
  try simp only [Act.put, List.setIfInBounds_toArray, List.set_cons_zero, List.set_cons_succ]
  refine region_take 1 7 (v := ?vca1) rfl rfl (by kernel_rfl) (by kernel_rfl) (by kernel_rfl) (fun _ _ _ h => h) (by rfl) (fun w' hS => ?hca1) ?rca1
  case hca1 => go_simp; with_reducible rfl
  try simp only [Act.put, List.setIfInBounds_toArray, List.set_cons_zero, List.set_cons_succ]
  refine region_take 3 9 (v := ?vca3) rfl rfl (by kernel_rfl) (by kernel_rfl) (by kernel_rfl) (fun _ _ _ h => h) (by rfl) (fun w' hS => ?hca3) ?rca3
  case hca3 => go_simp; with_reducible rfl
  try simp only [Act.put, List.setIfInBounds_toArray, List.set_cons_zero, List.set_cons_succ]
  refine region_take 4 10 (v := ?vca4) rfl rfl (by kernel_rfl) (by kernel_rfl) (by kernel_rfl) (fun _ _ _ h => h) (by rfl) (fun w' hS => ?hca4) ?rca4
  case hca4 => go_simp; with_reducible rfl
  try simp only [Act.put, List.setIfInBounds_toArray, List.set_cons_zero, List.set_cons_succ]
  refine wpAnyH_ready (rs := [2]) (by kernel_rfl) (by simp) (AllReadyH.cons rfl (fun K hK => ?_) AllReadyH.nil)
  go_simp
  refine (HC1.out _).mono ?_
  rintro e w2 ⟨rfl, hP2⟩
  refine hK.out _ _ (hP2) (fun hHeld => ?_)
  clear hK K hHeld
  refine region_now (hP2) ?_
  try simp only [Act.put, List.setIfInBounds_toArray, List.set_cons_zero, List.set_cons_succ]
  refine wpAnyH_ready (rs := [5]) (by kernel_rfl) (by simp) (AllReadyH.cons rfl (fun K hK => ?_) AllReadyH.nil)
  go_simp
  refine (HC2.out _).mono ?_
  rintro e w3 ⟨rfl, hP3⟩
  refine hK.out _ _ (hP3) (fun hHeld => ?_)
  clear hK K hHeld
  refine region_now (hP3) ?_
  try simp only [Act.put, List.setIfInBounds_toArray, List.set_cons_zero, List.set_cons_succ]
  refine region_take 6 12 (v := ?vca6) rfl rfl (by kernel_rfl) (by kernel_rfl) (by kernel_rfl) (fun _ _ _ h => h) (by rfl) (fun w' hS => ?hca6) ?rca6
  case hca6 => go_simp; with_reducible rfl
  try simp only [Act.put, List.setIfInBounds_toArray, List.set_cons_zero, List.set_cons_succ]
  refine region_take 7 5 (v := ?vca7) rfl rfl (by kernel_rfl) (by kernel_rfl) (by kernel_rfl) (fun _ _ _ h => h) (by rfl) (fun w' hS => ?hca7) ?rca7
  case hca7 => go_simp; with_reducible rfl
  try simp only [Act.put, List.setIfInBounds_toArray, List.set_cons_zero, List.set_cons_succ]
  refine wpAnyH_done (by kernel_rfl) ?_ _
  clear hsub
  go_wp2_with fail
  go_ret
  exact ⟨rfl, (hP1.drew.pure hP2).pure hP3⟩

def MaxTo (m : Nat) (w : World) (e : Ending) (w' : World) : Prop := ∃ (o l : Nat) (sa : Option Addr) (sc : Nat), e = .returned (pageV o l sa m sc) ∧ Pure w w'
set_option maxHeartbeats 2000000 in
set_option maxRecDepth 100000 in
theorem max_any (ad : Option Addr) (c n : Nat) (h : HN) (b : Nat) (w : World) (HPg : Hid (∀ W, Pure w W → ∀ k, k < n → PageAt W ad h k)) (hn1 : 1 ≤ n) (hn40 : n ≤ 40) (hlen : h.counts.length = n) (hc : w.cell? ⟨b, 0, none⟩ = some (.func (.func 20) #[] #[])) :
    Calls Try.prog 23 #[.slice ad n c, .func (.func 24) #[] #[.pointer (some ⟨b, 0, none⟩)]] w (MaxTo (mx h.counts) w) := by
  have HLEN := Lib.hid hlen
  obtain ⟨M, hM⟩ : ∃ z, z = mx h.counts := ⟨_, rfl⟩
  rw [← hM]
  have HM := Lib.hid hM
  obtain ⟨w0, hw0⟩ : ∃ w0, w0 = w.alloc (.cells #[.int .i64 0, .int .i64 0, .slice none 0 0] 49) := ⟨_, rfl⟩
  have hR0 : BlockIs w0 w.heap.size [.int .i64 0, .int .i64 0, .slice none 0 0] 49 := hw0 ▸ BlockIs.new w _ _
  have hP0 : Pure w w0 := hw0 ▸ ext_alloc w _
  obtain ⟨b0, o0, on0, ln0, sa0, sc0, xs0, had, p0, p1, p2, hsub0, e0, e1, e2, bo0, bl0, bs0, bx0, bx1, bx2⟩ := HPg.out w0 hP0 0 (by omega)
  subst had
  obtain ⟨xn0, hxn0⟩ : ∃ z, z = xs0.length := ⟨_, rfl⟩
  rw [← hxn0] at p2 bx0 bx1
  have HH0 : Hid (xn0 = mx (h.counts.take 1)) := Lib.hid (by rw [mx_at (counts_at e2), hxn0]; simp [mx])
  simp only [Nat.zero_mul, Nat.add_zero] at p0 p1 p2
  have hB0i : (0 : Int) < (n : Int) := by omega
  have hB0 : 0 < n := by omega
  have hlt1 : ¬ (n : Int) < 1 := by omega
  have hTB := BlockIs.new w0 [.int .i64 on0, .int .i64 ln0, .slice sa0 xn0 sc0] 49
  have hPw := hP0.pure (ext_alloc w0 (.cells #[.int .i64 on0, .int .i64 ln0, .slice sa0 xn0 sc0] 49))
  have hR1 := hR0.ext (ext_alloc w0 (.cells #[.int .i64 on0, .int .i64 ln0, .slice sa0 xn0 sc0] 49)) id
  have hlt0 := hR0.lt
  have hbl : b < w.heap.size := World.block_lt_of_cell? w ⟨b, 0, none⟩ hc
  have HCb := Lib.hid hc
  clear hsub0 e0 e1 e2 bs0 hxn0 hM hlen hR0 hc
  rw [hw0] at p0 p1 p2
  go_enter Try.func23, Try.ntmps23
  go_wp2_with fail
  clear p0 p1 p2
  rw [← hw0]
  have hz0 : w0.heap.size = w.heap.size + 1 := by rw [hw0, World.size_alloc]
  obtain ⟨mb, hmb⟩ : ∃ mb, mb = w.heap.size + 1 := ⟨_, rfl⟩
  rw [← hmb]
  rw [hz0, ← hmb] at hTB
  have hlt0 : w.heap.size < mb := by omega
  clear hmb hz0 hw0
  generalize w0.alloc (.cells #[.int .i64 on0, .int .i64 ln0, .slice sa0 xn0 sc0] 49) = w1 at *
  obtain ⟨wo, hwo⟩ : ∃ W : World, W = w1 := ⟨_, rfl⟩
  rw [← hwo] at hPw hR1
  go_loopw [6] (fun i W => ∃ (k on ln : Nat) (sa : Option Addr) (m sc : Nat), 1 ≤ k ∧ k ≤ n ∧ i = .int .i64 k ∧ Hid (m = mx (h.counts.take k)) ∧ m ≤ 3000 ∧ BlockIs W mb [.int .i64 on, .int .i64 ln, .slice sa m sc] 49 ∧ Ext (fun i => i = mb) wo W) (fun i _ => n - (intOf i).toNat)
  case atStart => exact ⟨1, on0, ln0, sa0, xn0, sc0, by omega, hn1, rfl, HH0, bx0, hTB, hwo ▸ Ext.refl _ _⟩
  case round =>
    obtain ⟨k, om, lm, sm, m, cm, hk1, hk, rfl, HMx, hm3, hMB, hE⟩ := hrel
    clear hTB hwo
    have hPr : Pure w wr := hPw.trans hE (fun i hi e => by have e' : i = mb := e; omega)
    have hRr := hR1.ext hE (fun e => by have e' : w.heap.size = mb := e; omega)
    by_cases hlt : k < n
    · have hki : (k : Int) < (n : Int) := by omega
      obtain ⟨b1, o1, on, ln, sa, sc, xs, had, p0, p1, p2, hsub, e0, e1, e2, bo, bl, bs, bx0', bx1', bx2'⟩ := HPg.out wr hPr k hlt
      cases had
      obtain ⟨xn, hxn⟩ : ∃ z, z = xs.length := ⟨_, rfl⟩
      rw [← hxn] at p2 bx0' bx1'
      have HMs : Hid (mx (h.counts.take (k + 1)) = max m xn) := Lib.hid (by rw [mx_at (counts_at e2), HMx.out, hxn])
      have d0 : wr.drew.cell? ⟨b0, o0 + k * 3, none⟩ = some (.int .i64 on) := p0
      have d1 : wr.drew.cell? ⟨b0, o0 + k * 3 + 1, none⟩ = some (.int .i64 ln) := p1
      have d2 : wr.drew.cell? ⟨b0, o0 + k * 3 + 2, none⟩ = some (.slice sa xn sc) := p2
      have x0 : wr.drew.cell? ⟨mb, 0, none⟩ = some (.int .i64 om) := hMB.cell 0
      have x1 : wr.drew.cell? ⟨mb, 0 + 1, none⟩ = some (.int .i64 lm) := hMB.cell 1
      have x2 : wr.drew.cell? ⟨mb, 0 + 2, none⟩ = some (.slice sm m cm) := hMB.cell 2
      have k0 := fun w' (hS : Ext (fun _ => False) wr.drew w') => hS.cell_some d0 id
      have k1 := fun w' (hS : Ext (fun _ => False) wr.drew w') => hS.cell_some d1 id
      have k2 := fun w' (hS : Ext (fun _ => False) wr.drew w') => hS.cell_some d2 id
      have l0 := fun w' (hS : Ext (fun _ => False) wr.drew w') => hS.cell_some x0 id
      have l1 := fun w' (hS : Ext (fun _ => False) wr.drew w') => hS.cell_some x1 id
      have l2 := fun w' (hS : Ext (fun _ => False) wr.drew w') => hS.cell_some x2 id
      have HCm := Lib.hid (fun W (hP : Pure w W) => cmp_any (on : Int) ln sa xn sc om lm sm m cm b W (by omega) (by omega) (hP.cell_some HCb.out id))
      unfold pageV at HCm
      clear hsub e0 e1 e2 bs hxn
      by_cases hgt : (0 : Int) < (xn : Int) - (m : Int)
      · have hmax : max m xn = xn := by omega
        go_wp2_with fail
        refine region_start (fun _ => False) (by kernel_rfl) ?_
        try simp only [Act.put, List.setIfInBounds_toArray, List.set_cons_zero, List.set_cons_succ]
        refine region_take 0 20 (v := ?vma0) rfl rfl (by kernel_rfl) (by kernel_rfl) (by kernel_rfl) (fun _ _ _ h => h) (by rfl) (fun w' hS => ?hma0) ?rma0
        case hma0 => go_simp; with_reducible rfl
        try simp only [Act.put, List.setIfInBounds_toArray, List.set_cons_zero, List.set_cons_succ]
        refine region_take 1 21 (v := ?vma1) rfl rfl (by kernel_rfl) (by kernel_rfl) (by kernel_rfl) (fun _ _ _ h => h) (by rfl) (fun w' hS => ?hma1) ?rma1
        case hma1 => go_simp; with_reducible rfl
        try simp only [Act.put, List.setIfInBounds_toArray, List.set_cons_zero, List.set_cons_succ]
        refine region_take 2 22 (v := ?vma2) rfl rfl (by kernel_rfl) (by kernel_rfl) (by kernel_rfl) (fun _ _ _ h => h) (by rfl) (fun w' hS => ?hma2) ?rma2
        case hma2 => go_simp; with_reducible rfl
        try simp only [Act.put, List.setIfInBounds_toArray, List.set_cons_zero, List.set_cons_succ]
        refine region_take 3 23 (v := ?vma3) rfl rfl (by kernel_rfl) (by kernel_rfl) (by kernel_rfl) (fun _ _ _ h => h) (by rfl) (fun w' hS => ?hma3) ?rma3
        case hma3 => go_simp; with_reducible rfl
        try simp only [Act.put, List.setIfInBounds_toArray, List.set_cons_zero, List.set_cons_succ]
        refine region_take 4 24 (v := ?vma4) rfl rfl (by kernel_rfl) (by kernel_rfl) (by kernel_rfl) (fun _ _ _ h => h) (by rfl) (fun w' hS => ?hma4) ?rma4
        case hma4 => go_simp; with_reducible rfl
        try simp only [Act.put, List.setIfInBounds_toArray, List.set_cons_zero, List.set_cons_succ]
        refine region_take 5 25 (v := ?vma5) rfl rfl (by kernel_rfl) (by kernel_rfl) (by kernel_rfl) (fun _ _ _ h => h) (by rfl) (fun w' hS => ?hma5) ?rma5
        case hma5 => go_simp; with_reducible rfl
        try simp only [Act.put, List.setIfInBounds_toArray, List.set_cons_zero, List.set_cons_succ]
        refine wpAnyH_ready (rs := [6]) (by kernel_rfl) (by simp) (AllReadyH.cons rfl (fun K hK => ?_) AllReadyH.nil)
        go_simp
        refine (HCm.out _ hPr.drew).mono ?_
        rintro e w3 ⟨rfl, hP3⟩
        refine hK.out _ _ (hP3) (fun hHeld => ?_)
        clear hK K hHeld
        refine region_now (hP3) ?_
        try simp only [Act.put, List.setIfInBounds_toArray, List.set_cons_zero, List.set_cons_succ]
        refine region_take 7 27 (v := ?vma7) rfl rfl (by kernel_rfl) (by kernel_rfl) (by kernel_rfl) (fun _ _ _ h => h) (by rfl) (fun w' hS => ?hma7) ?rma7
        case hma7 => go_simp; with_reducible rfl
        try simp only [Act.put, List.setIfInBounds_toArray, List.set_cons_zero, List.set_cons_succ]
        refine wpAnyH_done (by kernel_rfl) ?_ _
        have q0 : w3.cell? ⟨b0, o0 + k * 3, none⟩ = some (.int .i64 on) := k0 w3 hP3
        have q1 : w3.cell? ⟨b0, o0 + k * 3 + 1, none⟩ = some (.int .i64 ln) := k1 w3 hP3
        have q2 : w3.cell? ⟨b0, o0 + k * 3 + 2, none⟩ = some (.slice sa xn sc) := k2 w3 hP3
        have hMB3 := (hMB.drew).ext hP3 id
        have y0 : w3.cell? ⟨mb, 0, none⟩ = some (.int .i64 om) := hMB3.cell 0
        have y1 : w3.cell? ⟨mb, 0 + 1, none⟩ = some (.int .i64 lm) := hMB3.cell 1
        have y2 : w3.cell? ⟨mb, 0 + 2, none⟩ = some (.slice sm m cm) := hMB3.cell 2
        have z0 : w3.frozen? ⟨mb, 0, none⟩ = false := hMB3.free 0
        have z1 : w3.frozen? ⟨mb, 0 + 1, none⟩ = false := hMB3.free 1
        have z2 : w3.frozen? ⟨mb, 0 + 2, none⟩ = false := hMB3.free 2
        clear d0 d1 d2 x0 x1 x2 k0 k1 k2 l0 l1 l2 p0 p1 p2
        go_wp2_with fail
        have hMB4 := ((hMB3.set 0 (.int .i64 on)).set 1 (.int .i64 ln)).set 2 (.slice sa xn sc)
        have hX4 : Ext (fun i => i = mb) w3 _ := (((Ext.refl (fun i => i = mb) w3).setCell (p := ⟨mb, 0, none⟩) (fun _ => rfl) (.int .i64 on)).setCell (p := ⟨mb, 1, none⟩) (fun _ => rfl) (.int .i64 ln)).setCell (p := ⟨mb, 2, none⟩) (fun _ => rfl) (.slice sa xn sc)
        have hE4 : Ext (fun i => i = mb) wo _ := ((hE.drew).trans hP3 (fun _ _ e => e.elim)).trans hX4 (fun _ _ e => e)
        simp only [List.set_cons_zero, List.set_cons_succ] at hMB4
        go_roundw
        case rel => exact ⟨k + 1, on, ln, sa, xn, sc, by omega, by omega, by go_num, Lib.hid (by rw [HMs.out, hmax]), by omega, hMB4, hE4⟩
        case measure => simp [intOf]; omega
      · have hmax : max m xn = m := by omega
        go_wp2_with fail
        refine region_start (fun _ => False) (by kernel_rfl) ?_
        try simp only [Act.put, List.setIfInBounds_toArray, List.set_cons_zero, List.set_cons_succ]
        refine region_take 0 20 (v := ?vmb0) rfl rfl (by kernel_rfl) (by kernel_rfl) (by kernel_rfl) (fun _ _ _ h => h) (by rfl) (fun w' hS => ?hmb0) ?rmb0
        case hmb0 => go_simp; with_reducible rfl
        try simp only [Act.put, List.setIfInBounds_toArray, List.set_cons_zero, List.set_cons_succ]
        refine region_take 1 21 (v := ?vmb1) rfl rfl (by kernel_rfl) (by kernel_rfl) (by kernel_rfl) (fun _ _ _ h => h) (by rfl) (fun w' hS => ?hmb1) ?rmb1
        case hmb1 => go_simp; with_reducible rfl
        try simp only [Act.put, List.setIfInBounds_toArray, List.set_cons_zero, List.set_cons_succ]
        refine region_take 2 22 (v := ?vmb2) rfl rfl (by kernel_rfl) (by kernel_rfl) (by kernel_rfl) (fun _ _ _ h => h) (by rfl) (fun w' hS => ?hmb2) ?rmb2
        case hmb2 => go_simp; with_reducible rfl
        try simp only [Act.put, List.setIfInBounds_toArray, List.set_cons_zero, List.set_cons_succ]
        refine region_take 3 23 (v := ?vmb3) rfl rfl (by kernel_rfl) (by kernel_rfl) (by kernel_rfl) (fun _ _ _ h => h) (by rfl) (fun w' hS => ?hmb3) ?rmb3
        case hmb3 => go_simp; with_reducible rfl
        try simp only [Act.put, List.setIfInBounds_toArray, List.set_cons_zero, List.set_cons_succ]
        refine region_take 4 24 (v := ?vmb4) rfl rfl (by kernel_rfl) (by kernel_rfl) (by kernel_rfl) (fun _ _ _ h => h) (by rfl) (fun w' hS => ?hmb4) ?rmb4
        case hmb4 => go_simp; with_reducible rfl
        try simp only [Act.put, List.setIfInBounds_toArray, List.set_cons_zero, List.set_cons_succ]
        refine region_take 5 25 (v := ?vmb5) rfl rfl (by kernel_rfl) (by kernel_rfl) (by kernel_rfl) (fun _ _ _ h => h) (by rfl) (fun w' hS => ?hmb5) ?rmb5
        case hmb5 => go_simp; with_reducible rfl
        try simp only [Act.put, List.setIfInBounds_toArray, List.set_cons_zero, List.set_cons_succ]
        refine wpAnyH_ready (rs := [6]) (by kernel_rfl) (by simp) (AllReadyH.cons rfl (fun K hK => ?_) AllReadyH.nil)
        go_simp
        refine (HCm.out _ hPr.drew).mono ?_
        rintro e w3 ⟨rfl, hP3⟩
        refine hK.out _ _ (hP3) (fun hHeld => ?_)
        clear hK K hHeld
        refine region_now (hP3) ?_
        try simp only [Act.put, List.setIfInBounds_toArray, List.set_cons_zero, List.set_cons_succ]
        refine region_take 7 27 (v := ?vmb7) rfl rfl (by kernel_rfl) (by kernel_rfl) (by kernel_rfl) (fun _ _ _ h => h) (by rfl) (fun w' hS => ?hmb7) ?rmb7
        case hmb7 => go_simp; with_reducible rfl
        try simp only [Act.put, List.setIfInBounds_toArray, List.set_cons_zero, List.set_cons_succ]
        refine wpAnyH_done (by kernel_rfl) ?_ _
        clear d0 d1 d2 x0 x1 x2 k0 k1 k2 l0 l1 l2 p0 p1 p2
        go_wp2_with fail
        go_roundw
        case rel => exact ⟨k + 1, om, lm, sm, m, cm, by omega, by omega, by go_num, Lib.hid (by rw [HMs.out, hmax]), hm3, (hMB.drew).ext hP3 id, (hE.drew).trans hP3 (fun _ _ e => e.elim)⟩
        case measure => simp [intOf]; omega
    · have hki : ¬ (k : Int) < (n : Int) := by omega
      obtain rfl : n = k := by omega
      have hMm : m = M := by rw [HMx.out, HM.out, List.take_of_length_le (by rw [HLEN.out]; omega)]
      subst hMm
      have x0 : wr.cell? ⟨mb, 0, none⟩ = some (.int .i64 om) := hMB.cell 0
      have x1 : wr.cell? ⟨mb, 0 + 1, none⟩ = some (.int .i64 lm) := hMB.cell 1
      have x2 : wr.cell? ⟨mb, 0 + 2, none⟩ = some (.slice sm m cm) := hMB.cell 2
      have y0 : wr.cell? ⟨w.heap.size, 0, none⟩ = some (.int .i64 0) := hRr.cell 0
      have y1 : wr.cell? ⟨w.heap.size, 0 + 1, none⟩ = some (.int .i64 0) := hRr.cell 1
      have y2 : wr.cell? ⟨w.heap.size, 0 + 2, none⟩ = some (.slice none 0 0) := hRr.cell 2
      have z0 : wr.frozen? ⟨w.heap.size, 0, none⟩ = false := hRr.free 0
      have z1 : wr.frozen? ⟨w.heap.size, 0 + 1, none⟩ = false := hRr.free 1
      have z2 : wr.frozen? ⟨w.heap.size, 0 + 2, none⟩ = false := hRr.free 2
      go_wp2_with fail
      have hR9 := ((hRr.set 0 (.int .i64 om)).set 1 (.int .i64 lm)).set 2 (.slice sm m cm)
      have hX9 : Ext (fun i => i = w.heap.size) wr _ := (((Ext.refl (fun i => i = w.heap.size) wr).setCell (p := ⟨w.heap.size, 0, none⟩) (fun _ => rfl) (.int .i64 om)).setCell (p := ⟨w.heap.size, 1, none⟩) (fun _ => rfl) (.int .i64 lm)).setCell (p := ⟨w.heap.size, 2, none⟩) (fun _ => rfl) (.slice sm m cm)
      have hP9 : Pure w _ := hPr.trans hX9 (fun i hi e => by have e' : i = w.heap.size := e; omega)
      obtain ⟨wZ, hwZ⟩ : ∃ wZ, wZ = ((wr.setCell ⟨w.heap.size, 0, none⟩ (.int .i64 om)).setCell ⟨w.heap.size, 1, none⟩ (.int .i64 lm)).setCell ⟨w.heap.size, 2, none⟩ (.slice sm m cm) := ⟨_, rfl⟩
      rw [← hwZ] at hR9 hP9
      rw [← hwZ]
      clear hwZ hX9
      simp only [List.set_cons_zero, List.set_cons_succ] at hR9
      have t0 : wZ.cell? ⟨w.heap.size, 0, none⟩ = some (.int .i64 om) := hR9.cell 0
      have t1 : wZ.cell? ⟨w.heap.size, 1, none⟩ = some (.int .i64 lm) := hR9.cell 1
      have t2 : wZ.cell? ⟨w.heap.size, 2, none⟩ = some (.slice sm m cm) := hR9.cell 2
      refine bodyPost_ret (v := .agg #[.int .i64 om, .int .i64 lm, .slice sm m cm]) (by simp [results, Try.results23, go_sem, t0, t1, t2]) rfl ⟨om, lm, sm, cm, rfl, hP9⟩
end Go.Proofs.Ytdhejhgpjeenaaa
