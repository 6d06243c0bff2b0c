import Derived.Test.YtipmbcalnnomjaaGreatCmpTu
import Derived.Laws.Strings
import Derived.Test.YtipmbcalnnomjaaGreatRegListTu
import Derived.Test.YtipmbcalnnomjaaGreatSqTu
set_option linter.unusedVariables false
set_option linter.unusedSimpArgs false
set_option maxRecDepth 100000
namespace Go.Proofs.YtipmbcalnnomjaaGreat
open Go.RowKit
theorem cmpBytes_eq : ∀ a b : List UInt8, Lib.compareBytes a b = if Op.bytesLess a b = true then -1 else if (a == b) = true then 0 else 1
 | [], [] => rfl
 | [], b :: y => rfl
 | a :: x, [] => rfl
 | a :: x, b :: y => by
   have ih := cmpBytes_eq x y
   unfold Lib.compareBytes Op.bytesLess
   by_cases h1 : a < b
   ·simp [h1]
   ·by_cases h2 : b < a
    ·have h3 : ¬ a = b := fun e => by subst e; exact h1 h2
     simp [h1, h2, h3]
    ·have h3 : a = b := by
      apply UInt8.toNat_inj.1
      have h1' : ¬ a.toNat < b.toNat := h1
      have h2' : ¬ b.toNat < a.toNat := h2
      omega
     subst h3
     simp [h1, ih]
theorem data_toList (s : ByteArray) : s.data.toList = s.toList := (ByteArray.toList_eq s).symm
theorem cmpS_eq (a b : ByteArray) : cmpS a b = if Op.bytesLess a.toList b.toList = true then -1 else if (a.toList == b.toList) = true then 0 else 1 := by
 rw [cmpS, data_toList, data_toList, cmpBytes_eq]
theorem head_cases (v u : V) :
 (v.kind < u.kind ∧ v.head u = -1) ∨ (u.kind < v.kind ∧ v.head u = 1) ∨
 (v.kind = u.kind ∧ v.n < u.n ∧ v.head u = -1) ∨ (v.kind = u.kind ∧ u.n < v.n ∧ v.head u = 1) ∨
 (v.kind = u.kind ∧ v.n = u.n ∧ Op.bytesLess v.s.toList u.s.toList = true ∧ v.head u = -1) ∨
 (v.kind = u.kind ∧ v.n = u.n ∧ Op.bytesLess v.s.toList u.s.toList = false ∧ (v.s.toList == u.s.toList) = false ∧ v.head u = 1) ∨
 (v.kind = u.kind ∧ v.n = u.n ∧ Op.bytesLess v.s.toList u.s.toList = false ∧ (v.s.toList == u.s.toList) = true ∧ v.head u = 0) := by
 have hc := cmpS_eq v.s u.s
 unfold V.head
 generalize v.kind = k at *
 generalize u.kind = k' at *
 generalize v.n = n at *
 generalize u.n = n' at *
 by_cases h1 : k < k'
 ·left; refine ⟨h1, ?_⟩; rw [cmpI, if_pos h1]; rfl
 by_cases h2 : k' < k
 ·right; left; refine ⟨h2, ?_⟩; rw [cmpI, if_neg h1, if_pos h2]; rfl
 obtain rfl : k = k' := by omega
 have e0 : cmpI k k = 0 := by unfold cmpI; simp
 rw [e0, orI_zero]
 right; right
 by_cases h3 : n < n'
 ·left; refine ⟨rfl, h3, ?_⟩; rw [cmpI, if_pos h3]; rfl
 by_cases h4 : n' < n
 ·right; left; refine ⟨rfl, h4, ?_⟩; rw [cmpI, if_neg h3, if_pos h4]; rfl
 obtain rfl : n = n' := by omega
 have e1 : cmpI n n = 0 := by unfold cmpI; simp
 rw [e1, orI_zero, hc]
 right; right
 by_cases h5 : Op.bytesLess v.s.toList u.s.toList = true
 ·left; exact ⟨rfl, rfl, h5, by rw [if_pos h5]⟩
 ·by_cases h6 : (v.s.toList == u.s.toList) = true
  ·right; right; exact ⟨rfl, rfl, by simpa using h5, h6, by rw [if_neg h5, if_pos h6]⟩
  ·right; left; exact ⟨rfl, rfl, by simpa using h5, by simpa using h6, by rw [if_neg h5, if_neg h6]⟩
theorem cmpL_self (l : List V) (k : Nat) (u u' : V) (l' : List V) (h : l[k]? = some u) (h' : l'[k]? = some u') : cmpL (l.drop k) (l'.drop k) = orI (u.cmp u') (cmpL (l.drop (k + 1)) (l'.drop (k + 1))) := by
 obtain ⟨h1, rfl⟩ := List.getElem?_eq_some_iff.1 h
 obtain ⟨h2, rfl⟩ := List.getElem?_eq_some_iff.1 h'
 rw [List.drop_eq_getElem_cons h1, List.drop_eq_getElem_cons h2, cmpL]
theorem cmpL_end (l l' : List V) (k : Nat) (h : k ≤ l.length) (h' : k ≤ l'.length) (he : k = l.length ∨ k = l'.length) : cmpL (l.drop k) (l'.drop k) = if l.length < l'.length then -1 else if l'.length < l.length then 1 else 0 := by
 by_cases h1 : l.length < l'.length
 ·obtain rfl : k = l.length := by omega
  rw [List.drop_length, List.drop_eq_getElem_cons h1, cmpL, if_pos h1]
 ·by_cases h2 : l'.length < l.length
  ·obtain rfl : k = l'.length := by omega
   rw [List.drop_length, List.drop_eq_getElem_cons h2, cmpL, if_neg h1, if_pos h2]
  ·have e1 : k = l.length := by omega
   have e2 : k = l'.length := by omega
   rw [if_neg h1, if_neg h2]
   conv => lhs; rw [show l.drop k = [] by rw [e1]; exact List.drop_length, show l'.drop k = [] by rw [e2]; exact List.drop_length]
   rw [cmpL]
theorem Lies.form {W : World} {d : Nat} {v : V} {cs : List Value} (h : Lies W d v cs) : ∃ (k n : Int) (s : ByteArray) (a : Option Addr) (m c : Nat), cs = [.int .i64 k, .int .i64 n, .string s, .slice a m c] := by
 cases d with
 | zero => exact h.elim
 | succ d => obtain ⟨a, c, rows, rfl, _⟩ := h; exact ⟨_, _, _, _, _, _, rfl⟩
set_option maxHeartbeats 2000000 in
theorem refcmp_any : ∀ (d : Nat) (v : V) (cs : List Value) (d' : Nat) (u : V) (cs' : List Value) (w : World), Lies w d v cs → Lies w d' u cs' → v.size ≤ 100000 → u.size ≤ 100000 →
 Calls Tryz.prog 89 #[.agg cs.toArray, .agg cs'.toArray] w (IntTo (v.cmp u) w)
 | 0, _, _, _, _, _, _, h, _, _, _ => h.elim
 | d + 1, v, cs, 0, u, cs', w, h, h', _, _ => h'.elim
 | d + 1, v, cs, d' + 1, u, cs', w, h, h', hsz, hsz' => by
   have IH := refcmp_any d
   obtain ⟨a, c, rows, rfl, hlc, hcm, hnil, hK, hs⟩ := h.kids
   obtain ⟨a', c', rows', rfl, hlc', hcm', hnil', hK', hs'⟩ := h'.kids
   have hhc := head_cases v u
   have hceq := cmp_eq v u
   obtain ⟨H, hH⟩ : ∃ H, H = v.head u := ⟨_, rfl⟩
   obtain ⟨R, hR⟩ : ∃ R, R = v.cmp u := ⟨_, rfl⟩
   rw [← hR]
   rw [← hH] at hhc hceq
   rw [← hR] at hceq
   have hszl : sizeL v.l ≤ 100000 := by have := size_eq v; omega
   have hszl' : sizeL u.l ≤ 100000 := by have := size_eq u; omega
   have hn1 : v.l.length ≤ 100000 := Nat.le_trans (length_sizeL _) hszl
   have hn1' : u.l.length ≤ 100000 := Nat.le_trans (length_sizeL _) hszl'
   generalize v.kind = k at *
   generalize u.kind = k' at *
   generalize v.n = nn at *
   generalize u.n = nn' at *
   generalize v.s = s at *
   generalize u.s = s' at *
   obtain ⟨n, hn⟩ : ∃ n, n = v.l.length := ⟨_, rfl⟩
   obtain ⟨n', hn'⟩ : ∃ n', n' = u.l.length := ⟨_, rfl⟩
   obtain ⟨l, hl⟩ : ∃ l, l = v.l := ⟨_, rfl⟩
   obtain ⟨l', hl'⟩ : ∃ l', l' = u.l := ⟨_, rfl⟩
   rw [← hn, ← hn']
   rw [← hn] at hlc hn1
   rw [← hn'] at hlc' hn1'
   rw [← hl] at hn hceq hK hszl
   rw [← hl'] at hn' hceq hK' hszl'
   have HN := qh hn
   have HN' := qh hn'
   have HE := qh hceq
   have HI := qh IH
   have HSz := qh hszl
   have HSz' := qh hszl'
   obtain ⟨w1, hw1⟩ : ∃ w1, w1 = (w.alloc (.cells #[.int .i64 k, .int .i64 nn, .string s, .slice a n c] 48)).alloc (.cells #[.int .i64 k', .int .i64 nn', .string s', .slice a' n' c'] 48) := ⟨_, rfl⟩
   have hB1 : BlockIs w1 w.heap.size [.int .i64 k, .int .i64 nn, .string s, .slice a n c] 48 := hw1 ▸ (BlockIs.new w _ _).alloc _
   have hB2 : BlockIs w1 (w.heap.size + 1) [.int .i64 k', .int .i64 nn', .string s', .slice a' n' c'] 48 := by
    have h := BlockIs.new (w.alloc (.cells #[.int .i64 k, .int .i64 nn, .string s, .slice a n c] 48)) [.int .i64 k', .int .i64 nn', .string s', .slice a' n' c'] 48
    rw [World.size_alloc] at h
    rw [hw1]; exact h
   have hP1 : Pure w w1 := hw1 ▸ (ext_alloc w _).alloc _
   have HW1 := qh hw1
   have d0 : w1.cell? ⟨w.heap.size, 0, none⟩ = some (.int .i64 k) := hB1.cell 0
   have d1 : w1.cell? ⟨w.heap.size, 1, none⟩ = some (.int .i64 nn) := hB1.cell 1
   have d2 : w1.cell? ⟨w.heap.size, 2, none⟩ = some (.string s) := hB1.cell 2
   have d3 : w1.cell? ⟨w.heap.size, 3, none⟩ = some (.slice a n c) := hB1.cell 3
   have x0 : w1.cell? ⟨w.heap.size + 1, 0, none⟩ = some (.int .i64 k') := hB2.cell 0
   have x1 : w1.cell? ⟨w.heap.size + 1, 1, none⟩ = some (.int .i64 nn') := hB2.cell 1
   have x2 : w1.cell? ⟨w.heap.size + 1, 2, none⟩ = some (.string s') := hB2.cell 2
   have x3 : w1.cell? ⟨w.heap.size + 1, 3, none⟩ = some (.slice a' n' c') := hB2.cell 3
   clear hn hn' hl hl' hceq IH hszl hszl' hw1 hsz hsz' h h' hs hs' hH hR
   rcases hhc with ⟨hk, hH⟩ | ⟨hk, hH⟩ | ⟨rfl, hk, hH⟩ | ⟨rfl, hk, hH⟩ | ⟨rfl, rfl, hb, hH⟩ | ⟨rfl, rfl, hb, he, hH⟩ | ⟨rfl, rfl, hb, he, hH⟩
   ·have HB : Hid (R = -1) := qh (by rw [HE.out, hH]; rfl)
    clear HE HI hK hK' hH
    go_enter Tryz.func89, Tryz.ntmps89
    go_wp2_with fail
    go_ret
    exact ⟨by rw [HB.out]; rfl, by rw [← HW1.out]; exact hP1⟩
   ·have HB : Hid (R = 1) := qh (by rw [HE.out, hH]; rfl)
    have k1 : ¬ k < k' := by omega
    have k2 : (k == k') = false := by simp; omega
    have k3 : (k != k') = true := by simp; omega
    clear HE HI hK hK' hH
    go_enter Tryz.func89, Tryz.ntmps89
    go_wp2_with fail
    go_ret
    exact ⟨by rw [HB.out]; rfl, by rw [← HW1.out]; exact hP1⟩
   ·have HB : Hid (R = -1) := qh (by rw [HE.out, hH]; rfl)
    clear HE HI hK hK' hH
    go_enter Tryz.func89, Tryz.ntmps89
    go_wp2_with fail
    go_ret
    exact ⟨by rw [HB.out]; rfl, by rw [← HW1.out]; exact hP1⟩
   ·have HB : Hid (R = 1) := qh (by rw [HE.out, hH]; rfl)
    have k1 : ¬ nn < nn' := by omega
    have k2 : (nn == nn') = false := by simp; omega
    have k3 : (nn != nn') = true := by simp; omega
    clear HE HI hK hK' hH
    go_enter Tryz.func89, Tryz.ntmps89
    go_wp2_with fail
    go_ret
    exact ⟨by rw [HB.out]; rfl, by rw [← HW1.out]; exact hP1⟩
   ·have HB : Hid (R = -1) := qh (by rw [HE.out, hH]; rfl)
    clear HE HI hK hK' hH
    go_enter Tryz.func89, Tryz.ntmps89
    go_wp2_with fail
    go_ret
    exact ⟨by rw [HB.out]; rfl, by rw [← HW1.out]; exact hP1⟩
   ·have HB : Hid (R = 1) := qh (by rw [HE.out, hH]; rfl)
    have he3 : (s.toList != s'.toList) = true := by simp [bne, he]
    clear HE HI hK hK' hH
    go_enter Tryz.func89, Tryz.ntmps89
    go_wp2_with fail
    go_ret
    exact ⟨by rw [HB.out]; rfl, by rw [← HW1.out]; exact hP1⟩
   ·have HB : Hid (R = cmpL l l') := qh (by rw [HE.out, hH]; rfl)
    have he3 : (s.toList != s'.toList) = false := by simp [bne, he]
    clear HE hH
    go_enter Tryz.func89, Tryz.ntmps89
    go_wp2_with fail
    rw [← HW1.out]
    clear d0 d1 d2 x0 x1 x2 hB1 hB2
    go_loopw [5, 6] (fun i _ W => ∃ k : Nat, k ≤ n ∧ k ≤ n' ∧ i = .int .i64 k ∧ cmpL l l' = cmpL (l.drop k) (l'.drop k) ∧ Pure w1 W) (fun i _ _ => n - (intOf i).toNat)
    case atStart => exact ⟨0, Nat.zero_le _, Nat.zero_le _, rfl, rfl, Ext.refl _ _⟩
    case round =>
     obtain ⟨k, hk, hk', rfl, hceq, hE⟩ := hrel
     have y3 := hE.cell_some d3 id
     have z3 := hE.cell_some x3 id
     have HQ := qh hceq
     clear hceq
     by_cases hlt : k < n ∧ k < n'
     ·obtain ⟨hlt, hlt'⟩ := hlt
      have hki : (k : Int) < (n : Int) := by omega
      have hki' : (k : Int) < (n' : Int) := by omega
      obtain ⟨u1, hu⟩ : ∃ u, l[k]? = some u := ⟨_, List.getElem?_eq_getElem (by rw [← HN.out]; exact hlt)⟩
      obtain ⟨u2, hu'⟩ : ∃ u, l'[k]? = some u := ⟨_, List.getElem?_eq_getElem (by rw [← HN'.out]; exact hlt')⟩
      obtain ⟨b, o, r, rfl, hr, hr4, hL⟩ := (hK.pure (hP1.pure hE)).at k u1 hu
      obtain ⟨b', o', r', rfl, hr', hr4', hL'⟩ := (hK'.pure (hP1.pure hE)).at k u2 hu'
      have hus : u1.size ≤ 100000 := Nat.le_trans (size_mem (List.mem_of_getElem? hu)) HSz.out
      have hus' : u2.size ≤ 100000 := Nat.le_trans (size_mem (List.mem_of_getElem? hu')) HSz'.out
      have hself := cmpL_self l k u1 u2 l' hu hu'
      have HC := qh (fun W (hP : Pure wr W) => HI.out u1 r d' u2 r' W (hL.pure hP) (hL'.pure hP) hus hus')
      obtain ⟨z, hz⟩ : ∃ z, z = u1.cmp u2 := ⟨_, rfl⟩
      rw [← hz] at HC hself
      have HSf := qh hself
      obtain ⟨rk, rn, rs, ra, rm, rc, rfl⟩ := hL.form
      obtain ⟨rk', rn', rs', ra', rm', rc', rfl⟩ := hL'.form
      have g3 := fun w' (hS : Ext (fun _ => False) wr.drew w') => hS.cell_some (show wr.drew.cell? _ = _ from y3) id
      have p3 := fun w' (hS : Ext (fun _ => False) wr.drew w') => hS.cell_some (show wr.drew.cell? _ = _ from z3) id
      have q0 := fun w' (hS : Ext (fun _ => False) wr.drew w') => hS.cell_some (show wr.drew.cell? ⟨b, o + k * 4, none⟩ = some (.int .i64 rk) from hr 0 _ rfl) id
      have q1 := fun w' (hS : Ext (fun _ => False) wr.drew w') => hS.cell_some (show wr.drew.cell? ⟨b, o + k * 4 + 1, none⟩ = some (.int .i64 rn) from hr 1 _ rfl) id
      have q2 := fun w' (hS : Ext (fun _ => False) wr.drew w') => hS.cell_some (show wr.drew.cell? ⟨b, o + k * 4 + 2, none⟩ = some (.string rs) from hr 2 _ rfl) id
      have q3 := fun w' (hS : Ext (fun _ => False) wr.drew w') => hS.cell_some (show wr.drew.cell? ⟨b, o + k * 4 + 3, none⟩ = some (.slice ra rm rc) from hr 3 _ rfl) id
      have t0 := fun w' (hS : Ext (fun _ => False) wr.drew w') => hS.cell_some (show wr.drew.cell? ⟨b', o' + k * 4, none⟩ = some (.int .i64 rk') from hr' 0 _ rfl) id
      have t1 := fun w' (hS : Ext (fun _ => False) wr.drew w') => hS.cell_some (show wr.drew.cell? ⟨b', o' + k * 4 + 1, none⟩ = some (.int .i64 rn') from hr' 1 _ rfl) id
      have t2 := fun w' (hS : Ext (fun _ => False) wr.drew w') => hS.cell_some (show wr.drew.cell? ⟨b', o' + k * 4 + 2, none⟩ = some (.string rs') from hr' 2 _ rfl) id
      have t3 := fun w' (hS : Ext (fun _ => False) wr.drew w') => hS.cell_some (show wr.drew.cell? ⟨b', o' + k * 4 + 3, none⟩ = some (.slice ra' rm' rc') from hr' 3 _ rfl) id
      clear hu hu' hus hus' hself hz hL hL' hr hr' HI hK hK'
      go_wp2_with fail
      refine region_start (fun _ => False) (by kernel_rfl) ?_
      try simp only [Act.put, sA, sZ, sS]
      refine region_take 0 75 (v := ?vca0) rfl rfl (by kernel_rfl) (by kernel_rfl) (by kernel_rfl) (fun _ _ _ h => h) (by rfl) (fun w' hS => ?hca0) ?rca0
      case hca0 => go_simp; with_reducible rfl
      try simp only [Act.put, sA, sZ, sS]
      refine region_take 1 76 (v := ?vca1) rfl rfl (by kernel_rfl) (by kernel_rfl) (by kernel_rfl) (fun _ _ _ h => h) (by rfl) (fun w' hS => ?hca1) ?rca1
      case hca1 => go_simp; with_reducible rfl
      try simp only [Act.put, sA, sZ, sS]
      refine region_take 2 77 (v := ?vca2) rfl rfl (by kernel_rfl) (by kernel_rfl) (by kernel_rfl) (fun _ _ _ h => h) (by rfl) (fun w' hS => ?hca2) ?rca2
      case hca2 => go_simp; with_reducible rfl
      try simp only [Act.put, sA, sZ, sS]
      refine region_take 3 78 (v := ?vca3) rfl rfl (by kernel_rfl) (by kernel_rfl) (by kernel_rfl) (fun _ _ _ h => h) (by rfl) (fun w' hS => ?hca3) ?rca3
      case hca3 => go_simp; with_reducible rfl
      try simp only [Act.put, sA, sZ, sS]
      refine region_take 4 79 (v := ?vca4) rfl rfl (by kernel_rfl) (by kernel_rfl) (by kernel_rfl) (fun _ _ _ h => h) (by rfl) (fun w' hS => ?hca4) ?rca4
      case hca4 => go_simp; with_reducible rfl
      try simp only [Act.put, sA, sZ, sS]
      refine region_take 5 80 (v := ?vca5) rfl rfl (by kernel_rfl) (by kernel_rfl) (by kernel_rfl) (fun _ _ _ h => h) (by rfl) (fun w' hS => ?hca5) ?rca5
      case hca5 => go_simp; with_reducible rfl
      try simp only [Act.put, sA, sZ, sS]
      refine region_take 6 81 (v := ?vca6) rfl rfl (by kernel_rfl) (by kernel_rfl) (by kernel_rfl) (fun _ _ _ h => h) (by rfl) (fun w' hS => ?hca6) ?rca6
      case hca6 => go_simp; with_reducible rfl
      try simp only [Act.put, sA, sZ, sS]
      refine region_take 7 82 (v := ?vca7) rfl rfl (by kernel_rfl) (by kernel_rfl) (by kernel_rfl) (fun _ _ _ h => h) (by rfl) (fun w' hS => ?hca7) ?rca7
      case hca7 => go_simp; with_reducible rfl
      try simp only [Act.put, sA, sZ, sS]
      refine region_take 8 83 (v := ?vca8) rfl rfl (by kernel_rfl) (by kernel_rfl) (by kernel_rfl) (fun _ _ _ h => h) (by rfl) (fun w' hS => ?hca8) ?rca8
      case hca8 => go_simp; with_reducible rfl
      try simp only [Act.put, sA, sZ, sS]
      refine region_take 9 84 (v := ?vca9) rfl rfl (by kernel_rfl) (by kernel_rfl) (by kernel_rfl) (fun _ _ _ h => h) (by rfl) (fun w' hS => ?hca9) ?rca9
      case hca9 => go_simp; with_reducible rfl
      try simp only [Act.put, sA, sZ, sS]
      refine wpAnyH_ready (rs := [10]) (by kernel_rfl) (by simp) (AllReadyH.cons rfl (fun K hK => ?_) AllReadyH.nil)
      go_simp
      refine (HC.out _ (Ext.refl (fun _ => False) wr).drew).mono ?_
      rintro e w4 ⟨rfl, hP4⟩
      refine hK.out _ _ (hP4) (fun hHeld => ?_)
      clear hK K hHeld
      refine region_now (hP4) ?_
      try simp only [Act.put, sA, sZ, sS]
      refine region_take 11 6 (v := ?vca11) rfl rfl (by kernel_rfl) (by kernel_rfl) (by kernel_rfl) (fun _ _ _ h => h) (by rfl) (fun w' hS => ?hca11) ?rca11
      case hca11 => go_simp; with_reducible rfl
      try simp only [Act.put, sA, sZ, sS]
      refine wpAnyH_done (by kernel_rfl) ?_ _
      have hP5 := hE.drew.pure hP4
      clear g3 p3 q0 q1 q2 q3 t0 t1 t2 t3 HC
      by_cases hz0 : z = 0
      ·subst hz0
       have HQ2 : Hid (cmpL l l' = cmpL (l.drop (k + 1)) (l'.drop (k + 1))) := qh (by rw [HQ.out, HSf.out, orI_zero])
       clear HQ HSf
       go_wp2_with fail
       go_roundw
       case rel => exact ⟨k + 1, by omega, by omega, by go_num, HQ2.out, hP5⟩
       case measure => simp [intOf]; omega
      ·have HQ2 : Hid (R = z) := qh (by rw [HB.out, HQ.out, HSf.out, orI_ne _ hz0])
       clear HQ HSf HB
       go_wp2_with fail
       go_ret
       exact ⟨by rw [HQ2.out]; rfl, hP1.pure hP5⟩
     ·have HB2 : Hid (R = if n < n' then -1 else if n' < n then 1 else 0) := qh (by
       rw [HB.out, HQ.out, cmpL_end l l' k (by rw [← HN.out]; exact hk) (by rw [← HN'.out]; exact hk') (by rw [← HN.out, ← HN'.out]; omega), ← HN.out, ← HN'.out])
      clear HB HQ
      by_cases h1 : k < n
      ·have h2 : ¬ k < n' := fun e => hlt ⟨h1, e⟩
       have hki : (k : Int) < (n : Int) := by omega
       have hki' : ¬ (k : Int) < (n' : Int) := by omega
       have hq1 : ¬ (n : Int) < (n' : Int) := by omega
       have hq2 : (n' : Int) < (n : Int) := by omega
       have HB3 : Hid (R = 1) := qh (by rw [HB2.out, if_neg (by omega), if_pos (by omega)])
       go_wp2_with fail
       go_ret
       exact ⟨by rw [HB3.out]; rfl, hP1.pure hE⟩
      ·have hki : ¬ (k : Int) < (n : Int) := by omega
       by_cases h3 : n < n'
       ·have hq1 : (n : Int) < (n' : Int) := by omega
        have HB3 : Hid (R = -1) := qh (by rw [HB2.out, if_pos (by omega)])
        go_wp2_with fail
        go_ret
        exact ⟨by rw [HB3.out]; rfl, hP1.pure hE⟩
       ·have hq1 : ¬ (n : Int) < (n' : Int) := by omega
        have hq2 : ¬ (n' : Int) < (n : Int) := by omega
        have HB3 : Hid (R = 0) := qh (by rw [HB2.out, if_neg (by omega), if_neg (by omega)])
        go_wp2_with fail
        go_ret
        exact ⟨by rw [HB3.out]; rfl, hP1.pure hE⟩
set_option maxHeartbeats 1000000 in
theorem refsame_any (d : Nat) (v : V) (cs : List Value) (d' : Nat) (u : V) (cs' : List Value) (w : World) (h : Lies w d v cs) (h' : Lies w d' u cs') (hsz : v.size ≤ 100000) (hsz' : u.size ≤ 100000) :
 Calls Tryz.prog 58 #[.agg cs.toArray, .agg cs'.toArray] w (BoolTo (decide (v.cmp u = 0)) w) := by
 have h4 := h.len
 have h4' := h'.len
 have HC := qh (fun W (hP : Pure w W) => refcmp_any d v cs d' u cs' W (h.pure hP) (h'.pure hP) hsz hsz')
 obtain ⟨w1, hw1⟩ : ∃ w1, w1 = (w.alloc (.cells cs.toArray 48)).alloc (.cells cs'.toArray 48) := ⟨_, rfl⟩
 have hB1 : BlockIs w1 w.heap.size cs 48 := hw1 ▸ (BlockIs.new w _ _).alloc _
 have hB2 : BlockIs w1 (w.heap.size + 1) cs' 48 := by
  have h := BlockIs.new (w.alloc (.cells cs.toArray 48)) cs' 48
  rw [World.size_alloc] at h
  rw [hw1]; exact h
 have hP1 : Pure w w1 := hw1 ▸ (ext_alloc w _).alloc _
 have HW1 := qh hw1
 have hR1 := hB1.range
 have hR2 := hB2.range
 obtain ⟨z, hz⟩ : ∃ z, z = v.cmp u := ⟨_, rfl⟩
 rw [← hz] at HC ⊢
 clear hz hw1 h h' hsz hsz' hB1 hB2
 by_cases h0 : z = 0
 ·have h0' : (z == 0) = true := by simp [h0]
  have HD : Hid (decide (z = 0) = true) := qh (by simp [h0])
  go_enter Tryz.func58, Tryz.ntmps58
  go_wp2_with (first
   | (refine wpList_load_mid rfl 48 (.tmp 2) rfl w.heap.size 0 rfl cs _ (by rw [← HW1.out]; exact hR1) Tryz.underlying48 rfl (by rw [h4]; kernel_rfl) ?_)
   | (refine wpList_load_mid rfl 48 (.tmp 3) rfl (w.heap.size + 1) 0 (by simp [go_sem]) cs' _ (by rw [← HW1.out]; exact hR2) Tryz.underlying48 rfl (by rw [h4']; kernel_rfl) ?_))
  rw [← HW1.out]
  refine (HC.out w1 hP1).mono ?_
  rintro e w2 ⟨rfl, hP2⟩
  go_wp2_with fail
  go_ret
  exact ⟨by rw [HD.out]; rfl, hP1.pure hP2⟩
 ·have h0' : (z == 0) = false := by simp [h0]
  have HD : Hid (decide (z = 0) = false) := qh (by simp [h0])
  go_enter Tryz.func58, Tryz.ntmps58
  go_wp2_with (first
   | (refine wpList_load_mid rfl 48 (.tmp 2) rfl w.heap.size 0 rfl cs _ (by rw [← HW1.out]; exact hR1) Tryz.underlying48 rfl (by rw [h4]; kernel_rfl) ?_)
   | (refine wpList_load_mid rfl 48 (.tmp 3) rfl (w.heap.size + 1) 0 (by simp [go_sem]) cs' _ (by rw [← HW1.out]; exact hR2) Tryz.underlying48 rfl (by rw [h4']; kernel_rfl) ?_))
  rw [← HW1.out]
  refine (HC.out w1 hP1).mono ?_
  rintro e w2 ⟨rfl, hP2⟩
  go_wp2_with fail
  go_ret
  exact ⟨by rw [HD.out]; rfl, hP1.pure hP2⟩
