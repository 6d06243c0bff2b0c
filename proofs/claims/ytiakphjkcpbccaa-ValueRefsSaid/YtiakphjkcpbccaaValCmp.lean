/-
  Walked: the program's Compare and Same.
-/
import Derived.Test.YtiakphjkcpbccaaCmpFunc
import Derived.Test.YtiakphjkcpbccaaRefSame
namespace Go.Proofs.Ytiakphjkcpbccaa
open Go.RowKit
set_option linter.unusedVariables false

set_option maxHeartbeats 2000000 in
set_option maxRecDepth 100000 in
theorem valcmp_any : ∀ (d : Nat) (v : V) (cs : List Value) (d' : Nat) (u : V) (cs' : List Value) (w : World), Lies w d v cs → Lies w d' u cs' → v.size ≤ 100000 → u.size ≤ 100000 →
    Calls Try.prog 33 #[.agg cs.toArray, .agg cs'.toArray] w (IntTo (v.cmp u) w)
  | 0, _, _, _, _, _, _, h, _, _, _ => h.elim
  | d + 1, v, cs, 0, u, cs', w, h, h', _, _ => h'.elim
  | d + 1, v, cs, d' + 1, u, cs', w, h, h', hsz, hsz' => by
    have IH := valcmp_any d
    obtain ⟨a, c, rows, rfl, hlc, hcm, hnil, hK, hs⟩ := h.kids
    obtain ⟨a', c', rows', rfl, hlc', hcm', hnil', hK', hs'⟩ := h'.kids
    have hceq := cmp_eq v u
    obtain ⟨R, hR⟩ : ∃ R, R = v.cmp u := ⟨_, rfl⟩
    rw [← hR] at hceq ⊢
    unfold V.head at hceq
    have hszl : sizeL v.l ≤ 100000 := by have := size_eq v; omega
    have hszl' : sizeL u.l ≤ 100000 := by have := size_eq u; omega
    have HF := Lib.hid (fun W (hP : Pure w W) => cmpfunc_any d d' v.l u.l a a' c c' rows rows' W (hK.pure hP) (hK'.pure hP) hcm hcm' hlc hlc' hszl hszl' (Lib.hid (fun u1 r u2 r' W h1 h2 h3 h4 => IH u1 r d' u2 r' W h1 h2 h3 h4)))
    obtain ⟨n, hn⟩ : ∃ n, n = v.l.length := ⟨_, rfl⟩
    obtain ⟨n', hn'⟩ : ∃ n', n' = u.l.length := ⟨_, rfl⟩
    rw [← hn, ← hn'] at HF ⊢
    generalize cmpL v.l u.l = X at *
    generalize v.kind = k at *
    generalize u.kind = k' at *
    generalize v.n = nn at *
    generalize u.n = nn' at *
    generalize v.s = s at *
    generalize u.s = s' at *
    obtain ⟨w1, hw1⟩ : ∃ w1, w1 = (w.alloc (.cells #[.int .i64 k, .int .i64 nn, .string s, .slice a n c] 24)).alloc (.cells #[.int .i64 k', .int .i64 nn', .string s', .slice a' n' c'] 24) := ⟨_, rfl⟩
    have hB1 : BlockIs w1 w.heap.size [.int .i64 k, .int .i64 nn, .string s, .slice a n c] 24 := hw1 ▸ (BlockIs.new w _ _).alloc _
    have hB2 : BlockIs w1 (w.heap.size + 1) [.int .i64 k', .int .i64 nn', .string s', .slice a' n' c'] 24 := by
      have h := BlockIs.new (w.alloc (.cells #[.int .i64 k, .int .i64 nn, .string s, .slice a n c] 24)) [.int .i64 k', .int .i64 nn', .string s', .slice a' n' c'] 24
      rw [World.size_alloc] at h
      rw [hw1]; exact h
    have hP1 : Pure w w1 := hw1 ▸ (ext_alloc w _).alloc _
    have HW1 := Lib.hid hw1
    have HHd := Lib.hid hceq
    have k0 := fun w' (hS : Ext (fun _ => False) w1.drew w') => hS.cell_some (show w1.drew.cell? ⟨w.heap.size, 0, none⟩ = some (.int .i64 k) from hB1.cell 0) id
    have k1 := fun w' (hS : Ext (fun _ => False) w1.drew w') => hS.cell_some (show w1.drew.cell? ⟨w.heap.size, 0 + 1, none⟩ = some (.int .i64 nn) from hB1.cell 1) id
    have k2 := fun w' (hS : Ext (fun _ => False) w1.drew w') => hS.cell_some (show w1.drew.cell? ⟨w.heap.size, 0 + 2, none⟩ = some (.string s) from hB1.cell 2) id
    have l0 := fun w' (hS : Ext (fun _ => False) w1.drew w') => hS.cell_some (show w1.drew.cell? ⟨w.heap.size + 1, 0, none⟩ = some (.int .i64 k') from hB2.cell 0) id
    have l1 := fun w' (hS : Ext (fun _ => False) w1.drew w') => hS.cell_some (show w1.drew.cell? ⟨w.heap.size + 1, 0 + 1, none⟩ = some (.int .i64 nn') from hB2.cell 1) id
    have l2 := fun w' (hS : Ext (fun _ => False) w1.drew w') => hS.cell_some (show w1.drew.cell? ⟨w.heap.size + 1, 0 + 2, none⟩ = some (.string s') from hB2.cell 2) id
    clear hn hn' hceq IH hszl hszl' hw1 hsz hsz' h h' hs hs' hR hK hK' hnil hnil'
    go_enter Try.func33, Try.ntmps33
    go_wp2_with fail
    rw [← HW1.out]
    refine region_start (fun _ => False) (by kernel_rfl) ?_
    try simp only [Act.put, List.setIfInBounds_toArray, List.set_cons_zero, List.set_cons_succ]
    refine region_take 0 6 (v := ?vca0) rfl rfl (by kernel_rfl) (by kernel_rfl) (by kernel_rfl) (fun _ _ _ h => h) (by rfl) (fun w' hS => ?hca0) ?rca0
    case hca0 => go_simp; with_reducible rfl
    try simp only [Act.put, List.setIfInBounds_toArray, List.set_cons_zero, List.set_cons_succ]
    refine region_take 1 7 (v := ?vca1) rfl rfl (by kernel_rfl) (by kernel_rfl) (by kernel_rfl) (fun _ _ _ h => h) (by rfl) (fun w' hS => ?hca1) ?rca1
    case hca1 => go_simp; with_reducible rfl
    try simp only [Act.put, List.setIfInBounds_toArray, List.set_cons_zero, List.set_cons_succ]
    refine region_take 2 8 (v := ?vca2) rfl rfl (by kernel_rfl) (by kernel_rfl) (by kernel_rfl) (fun _ _ _ h => h) (by rfl) (fun w' hS => ?hca2) ?rca2
    case hca2 => go_simp; with_reducible rfl
    try simp only [Act.put, List.setIfInBounds_toArray, List.set_cons_zero, List.set_cons_succ]
    refine region_take 3 9 (v := ?vca3) rfl rfl (by kernel_rfl) (by kernel_rfl) (by kernel_rfl) (fun _ _ _ h => h) (by rfl) (fun w' hS => ?hca3) ?rca3
    case hca3 => go_simp; with_reducible rfl
    try simp only [Act.put, List.setIfInBounds_toArray, List.set_cons_zero, List.set_cons_succ]
    refine region_take 5 11 (v := ?vca5) rfl rfl (by kernel_rfl) (by kernel_rfl) (by kernel_rfl) (fun _ _ _ h => h) (by rfl) (fun w' hS => ?hca5) ?rca5
    case hca5 => go_simp; with_reducible rfl
    try simp only [Act.put, List.setIfInBounds_toArray, List.set_cons_zero, List.set_cons_succ]
    refine region_take 6 12 (v := ?vca6) rfl rfl (by kernel_rfl) (by kernel_rfl) (by kernel_rfl) (fun _ _ _ h => h) (by rfl) (fun w' hS => ?hca6) ?rca6
    case hca6 => go_simp; with_reducible rfl
    try simp only [Act.put, List.setIfInBounds_toArray, List.set_cons_zero, List.set_cons_succ]
    refine region_take 7 13 (v := ?vca7) rfl rfl (by kernel_rfl) (by kernel_rfl) (by kernel_rfl) (fun _ _ _ h => h) (by rfl) (fun w' hS => ?hca7) ?rca7
    case hca7 => go_simp; with_reducible rfl
    try simp only [Act.put, List.setIfInBounds_toArray, List.set_cons_zero, List.set_cons_succ]
    refine region_take 8 14 (v := ?vca8) rfl rfl (by kernel_rfl) (by kernel_rfl) (by kernel_rfl) (fun _ _ _ h => h) (by rfl) (fun w' hS => ?hca8) ?rca8
    case hca8 => go_simp; with_reducible rfl
    try simp only [Act.put, List.setIfInBounds_toArray, List.set_cons_zero, List.set_cons_succ]
    refine region_take 10 16 (v := ?vca10) rfl rfl (by kernel_rfl) (by kernel_rfl) (by kernel_rfl) (fun _ _ _ h => h) (by rfl) (fun w' hS => ?hca10) ?rca10
    case hca10 => go_simp; with_reducible rfl
    try simp only [Act.put, List.setIfInBounds_toArray, List.set_cons_zero, List.set_cons_succ]
    refine region_take 11 17 (v := ?vca11) rfl rfl (by kernel_rfl) (by kernel_rfl) (by kernel_rfl) (fun _ _ _ h => h) (by rfl) (fun w' hS => ?hca11) ?rca11
    case hca11 => go_simp; with_reducible rfl
    try simp only [Act.put, List.setIfInBounds_toArray, List.set_cons_zero, List.set_cons_succ]
    refine region_take 12 18 (v := ?vca12) rfl rfl (by kernel_rfl) (by kernel_rfl) (by kernel_rfl) (fun _ _ _ h => h) (by rfl) (fun w' hS => ?hca12) ?rca12
    case hca12 => go_simp; with_reducible rfl
    try simp only [Act.put, List.setIfInBounds_toArray, List.set_cons_zero, List.set_cons_succ]
    refine region_take 13 19 (v := ?vca13) rfl rfl (by kernel_rfl) (by kernel_rfl) (by kernel_rfl) (fun _ _ _ h => h) (by rfl) (fun w' hS => ?hca13) ?rca13
    case hca13 => go_simp; with_reducible rfl
    try simp only [Act.put, List.setIfInBounds_toArray, List.set_cons_zero, List.set_cons_succ]
    refine wpAnyH_ready (rs := [4]) (by kernel_rfl) (by simp) (AllReadyH.cons rfl (fun K hK => ?_) AllReadyH.nil)
    go_simp
    refine (cmpint_any k k' _).mono ?_
    rintro e w2 ⟨rfl, rfl⟩
    refine hK.out _ _ (Ext.refl _ _) (fun hHeld => ?_)
    clear hK K hHeld
    refine region_now (Ext.refl _ _) ?_
    try simp only [Act.put, List.setIfInBounds_toArray, List.set_cons_zero, List.set_cons_succ]
    refine wpAnyH_ready (rs := [9]) (by kernel_rfl) (by simp) (AllReadyH.cons rfl (fun K hK => ?_) AllReadyH.nil)
    go_simp
    refine (cmpint_any nn nn' _).mono ?_
    rintro e w3 ⟨rfl, rfl⟩
    refine hK.out _ _ (Ext.refl _ _) (fun hHeld => ?_)
    clear hK K hHeld
    refine region_now (Ext.refl _ _) ?_
    try simp only [Act.put, List.setIfInBounds_toArray, List.set_cons_zero, List.set_cons_succ]
    refine wpAnyH_ready (rs := [14]) (by kernel_rfl) (by simp) (AllReadyH.cons rfl (fun K hK => ?_) AllReadyH.nil)
    go_simp
    refine (cmpstr_any s s' _).mono ?_
    rintro e w4 ⟨rfl, rfl⟩
    refine hK.out _ _ (Ext.refl _ _) (fun hHeld => ?_)
    clear hK K hHeld
    refine region_now (Ext.refl _ _) ?_
    try simp only [Act.put, List.setIfInBounds_toArray, List.set_cons_zero, List.set_cons_succ]
    refine wpAnyH_ready (rs := [15]) (by kernel_rfl) (by simp) (AllReadyH.cons rfl (fun K hK => ?_) AllReadyH.nil)
    go_simp
    refine hK.out _ _ ((Ext.refl _ _).alloc _) (fun hHeld => ?_)
    clear hK K hHeld
    refine region_now ((Ext.refl _ _).alloc _) ?_
    try simp only [Act.put, List.setIfInBounds_toArray, List.set_cons_zero, List.set_cons_succ]
    refine wpAnyH_ready (rs := [16]) (by kernel_rfl) (by simp) (AllReadyH.cons rfl (fun K hK => ?_) AllReadyH.nil)
    go_simp
    refine (or_any (cmpI k k') (cmpI nn nn') (cmpS s s') _ _ ((BlockIs.new w1 [.int .i64 (cmpI k k'), .int .i64 (cmpI nn nn'), .int .i64 (cmpS s s')] 3).drew)).mono ?_
    rintro e w5 ⟨rfl, rfl⟩
    refine hK.out _ _ (Ext.refl _ _) (fun hHeld => ?_)
    clear hK K hHeld
    refine region_now (Ext.refl _ _) ?_
    try simp only [Act.put, List.setIfInBounds_toArray, List.set_cons_zero, List.set_cons_succ]
    refine region_take 17 5 (v := ?vca17) rfl rfl (by kernel_rfl) (by kernel_rfl) (by kernel_rfl) (fun _ _ _ h => h) (by rfl) (fun w' hS => ?hca17) ?rca17
    case hca17 => go_simp; with_reducible rfl
    try simp only [Act.put, List.setIfInBounds_toArray, List.set_cons_zero, List.set_cons_succ]
    refine wpAnyH_done (by kernel_rfl) ?_ _
    clear k0 k1 k2 l0 l1 l2
    obtain ⟨H, hH⟩ : ∃ H, H = orI (cmpI k k') (orI (cmpI nn nn') (cmpS s s')) := ⟨_, rfl⟩
    rw [← hH] at HHd ⊢
    obtain ⟨w2, hw2⟩ : ∃ w2, w2 = (w1.alloc (.cells #[.int .i64 (cmpI k k'), .int .i64 (cmpI nn nn'), .int .i64 (cmpS s s')] 3)).drew := ⟨_, rfl⟩
    have hP2 : Pure w1 w2 := hw2 ▸ (ext_alloc w1 _).drew
    rw [← hw2]
    have d3 := (hB1.ext hP2 id).cell 3
    have x3 := (hB2.ext hP2 id).cell 3
    clear hH hw2 hB1 hB2
    by_cases h0 : H = 0
    · subst h0
      have HB : Hid (R = X) := Lib.hid (by rw [HHd.out, orI_zero])
      clear HHd
      go_wp2_with fail
      refine (HF.out w2 (hP1.pure hP2)).mono ?_
      rintro e w3 ⟨rfl, hP3⟩
      go_wp2_with fail
      go_ret
      exact ⟨by rw [HB.out]; rfl, (hP1.pure hP2).pure hP3⟩
    · have HB : Hid (R = H) := Lib.hid (by rw [HHd.out, orI_ne _ h0])
      clear HHd
      go_wp2_with fail
      go_ret
      exact ⟨by rw [HB.out]; rfl, hP1.pure hP2⟩
set_option maxHeartbeats 1000000 in
set_option maxRecDepth 100000 in
theorem valsame_any (d : Nat) (v : V) (cs : List Value) (d' : Nat) (u : V) (cs' : List Value) (w : World) (h : Lies w d v cs) (h' : Lies w d' u cs') (hsz : v.size ≤ 100000) (hsz' : u.size ≤ 100000) :
    Calls Try.prog 35 #[.agg cs.toArray, .agg cs'.toArray] w (BoolTo (decide (v.cmp u = 0)) w) := by
  have h4 := h.len
  have h4' := h'.len
  have HC := Lib.hid (fun W (hP : Pure w W) => valcmp_any d v cs d' u cs' W (h.pure hP) (h'.pure hP) hsz hsz')
  obtain ⟨w1, hw1⟩ : ∃ w1, w1 = (w.alloc (.cells cs.toArray 24)).alloc (.cells cs'.toArray 24) := ⟨_, rfl⟩
  have hB1 : BlockIs w1 w.heap.size cs 24 := hw1 ▸ (BlockIs.new w _ _).alloc _
  have hB2 : BlockIs w1 (w.heap.size + 1) cs' 24 := by
    have h := BlockIs.new (w.alloc (.cells cs.toArray 24)) cs' 24
    rw [World.size_alloc] at h
    rw [hw1]; exact h
  have hP1 : Pure w w1 := hw1 ▸ (ext_alloc w _).alloc _
  have HW1 := Lib.hid hw1
  have hR1 := hB1.range
  have hR2 := hB2.range
  obtain ⟨z, hz⟩ : ∃ z, z = v.cmp u := ⟨_, rfl⟩
  rw [← hz] at HC ⊢
  clear hz hw1 h h' hsz hsz' hB1 hB2
  by_cases h0 : z = 0
  · have h0' : (z == 0) = true := by simp [h0]
    have HD : Hid (decide (z = 0) = true) := Lib.hid (by simp [h0])
    go_enter Try.func35, Try.ntmps35
    go_wp2_with (first
      | (refine wpList_load_mid rfl 24 (.tmp 2) rfl w.heap.size 0 rfl cs _ (by rw [← HW1.out]; exact hR1) Try.underlying24 rfl (by rw [h4]; kernel_rfl) ?_)
      | (refine wpList_load_mid rfl 24 (.tmp 3) rfl (w.heap.size + 1) 0 (by simp [go_sem]) cs' _ (by rw [← HW1.out]; exact hR2) Try.underlying24 rfl (by rw [h4']; kernel_rfl) ?_))
    rw [← HW1.out]
    refine (HC.out w1 hP1).mono ?_
    rintro e w2 ⟨rfl, hP2⟩
    go_wp2_with fail
    go_ret
    exact ⟨by rw [HD.out]; rfl, hP1.pure hP2⟩
  · have h0' : (z == 0) = false := by simp [h0]
    have HD : Hid (decide (z = 0) = false) := Lib.hid (by simp [h0])
    go_enter Try.func35, Try.ntmps35
    go_wp2_with (first
      | (refine wpList_load_mid rfl 24 (.tmp 2) rfl w.heap.size 0 rfl cs _ (by rw [← HW1.out]; exact hR1) Try.underlying24 rfl (by rw [h4]; kernel_rfl) ?_)
      | (refine wpList_load_mid rfl 24 (.tmp 3) rfl (w.heap.size + 1) 0 (by simp [go_sem]) cs' _ (by rw [← HW1.out]; exact hR2) Try.underlying24 rfl (by rw [h4']; kernel_rfl) ?_))
    rw [← HW1.out]
    refine (HC.out w1 hP1).mono ?_
    rintro e w2 ⟨rfl, hP2⟩
    go_wp2_with fail
    go_ret
    exact ⟨by rw [HD.out]; rfl, hP1.pure hP2⟩
end Go.Proofs.Ytiakphjkcpbccaa
