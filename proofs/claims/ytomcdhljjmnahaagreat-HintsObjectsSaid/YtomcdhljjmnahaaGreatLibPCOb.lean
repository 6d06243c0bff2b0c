/-
  Walked: bounds, of objects and of lengths.
  Walked: the reference's Decode.
-/
import Derived.Test.YtomcdhljjmnahaaGreatLibPBOb
import Derived.Test.YtomcdhljjmnahaaGreatLibBBOb
import Derived.Test.YtomcdhljjmnahaaGreatLibPAOb
import Derived.Test.YtomcdhljjmnahaaGreatLibBAOb
import Derived.OwnWalk
namespace Go.Proofs.YtomcdhljjmnahaaGreat.P26
set_option linter.unusedVariables false
set_option linter.unusedSimpArgs false
open Go.RowKit C26

set_option maxHeartbeats 2000000 in
set_option maxRecDepth 100000 in
theorem bounds_obj (ad : Option Addr) (c n : Nat) (h : HN) (w : World) (HPg : Hid (∀ W, Pure w W → ∀ k, k < n → PageAt W ad h k)) (hn1 : 1 ≤ n) (hn40 : n ≤ 40) (hlen : h.os.length = n) :
    Calls Tryz.prog 57 #[.slice ad n c, .func (.func 54) #[] #[]] w fun e w' => e = .returned (.tuple #[.int .i64 (least h.os : Nat), .int .i64 (width h.os : Nat)]) ∧ Pure w w' := by
  have HLEN := Lib.hid hlen
  obtain ⟨LE, hLE⟩ : ∃ z, z = least h.os := ⟨_, rfl⟩
  obtain ⟨WI, hWI⟩ : ∃ z, z = width h.os := ⟨_, rfl⟩
  rw [← hLE, ← hWI]
  have HLE := Lib.hid hLE
  have HWI := Lib.hid hWI
  clear hLE hWI hlen
  obtain ⟨b0, o0, on0, ln0, sa0, sc0, xs0, had, p0, p1, p2, hsub0, e0, e1, e2, bo0, bl0, bs0, bx0, bx1, bx2⟩ := HPg.out w (Ext.refl _ _) 0 (by omega)
  subst had
  obtain ⟨xn0, hxn0⟩ : ∃ z, z = xs0.length := ⟨_, rfl⟩
  rw [← hxn0] at p2 bx0 bx1
  have hne : h.os ≠ [] := fun e => by have := HLEN.out; rw [e] at this; simp at this; omega
  have hh0 : on0 = h.os.headD 0 := by
    cases hos : h.os with
    | nil => exact absurd hos hne
    | cons x xs => rw [hos] at e0; simp at e0; simp [e0]
  have HH0 : Hid (on0 = (h.os.take 0).foldl min (h.os.headD 0)) := Lib.hid (by rw [hh0]; rfl)
  have HH1 : Hid (on0 = (h.os.take 0).foldl max (h.os.headD 0)) := Lib.hid (by rw [hh0]; rfl)
  have HNE := Lib.hid hne
  simp only [Nat.zero_mul, Nat.add_zero] at p0 p1 p2
  have d0 : w.drew.cell? ⟨b0, o0, none⟩ = some (.int .i64 on0) := p0
  have d1 : w.drew.cell? ⟨b0, o0 + 1, none⟩ = some (.int .i64 ln0) := p1
  have d2 : w.drew.cell? ⟨b0, o0 + 2, none⟩ = some (.slice sa0 xn0 sc0) := p2
  have k0 := fun w' (hS : Ext (fun _ => False) w.drew w') => hS.cell_some d0 id
  have k1 := fun w' (hS : Ext (fun _ => False) w.drew w') => hS.cell_some d1 id
  have k2 := fun w' (hS : Ext (fun _ => False) w.drew w') => hS.cell_some d2 id
  have hB0i : (0 : Int) < (n : Int) := by omega
  have hB0 : 0 < n := by omega
  have HOf := Lib.hid (fun W => objects_any (on0 : Int) (ln0 : Int) sa0 xn0 sc0 W)
  unfold pageV at HOf
  clear p0 p1 p2 hsub0 e0 e1 e2 bs0 hxn0 hh0 hne
  go_enter Tryz.func57, Tryz.ntmps57
  go_wp2_with fail
  refine region_start (fun _ => False) (by kernel_rfl) ?_
  try simp only [Act.put, List.setIfInBounds_toArray, List.set_cons_zero, List.set_cons_succ]
  refine region_take 0 10 (v := ?vga0) rfl rfl (by kernel_rfl) (by kernel_rfl) (by kernel_rfl) (fun _ _ _ h => h) (by rfl) (fun w' hS => ?hga0) ?rga0
  case hga0 => go_simp; with_reducible rfl
  try simp only [Act.put, List.setIfInBounds_toArray, List.set_cons_zero, List.set_cons_succ]
  refine region_take 1 11 (v := ?vga1) rfl rfl (by kernel_rfl) (by kernel_rfl) (by kernel_rfl) (fun _ _ _ h => h) (by rfl) (fun w' hS => ?hga1) ?rga1
  case hga1 => go_simp; with_reducible rfl
  try simp only [Act.put, List.setIfInBounds_toArray, List.set_cons_zero, List.set_cons_succ]
  refine region_take 2 12 (v := ?vga2) rfl rfl (by kernel_rfl) (by kernel_rfl) (by kernel_rfl) (fun _ _ _ h => h) (by rfl) (fun w' hS => ?hga2) ?rga2
  case hga2 => go_simp; with_reducible rfl
  try simp only [Act.put, List.setIfInBounds_toArray, List.set_cons_zero, List.set_cons_succ]
  refine region_take 3 13 (v := ?vga3) rfl rfl (by kernel_rfl) (by kernel_rfl) (by kernel_rfl) (fun _ _ _ h => h) (by rfl) (fun w' hS => ?hga3) ?rga3
  case hga3 => go_simp; with_reducible rfl
  try simp only [Act.put, List.setIfInBounds_toArray, List.set_cons_zero, List.set_cons_succ]
  refine region_take 5 15 (v := ?vga5) rfl rfl (by kernel_rfl) (by kernel_rfl) (by kernel_rfl) (fun _ _ _ h => h) (by rfl) (fun w' hS => ?hga5) ?rga5
  case hga5 => go_simp; with_reducible rfl
  try simp only [Act.put, List.setIfInBounds_toArray, List.set_cons_zero, List.set_cons_succ]
  refine region_take 6 16 (v := ?vga6) rfl rfl (by kernel_rfl) (by kernel_rfl) (by kernel_rfl) (fun _ _ _ h => h) (by rfl) (fun w' hS => ?hga6) ?rga6
  case hga6 => go_simp; with_reducible rfl
  try simp only [Act.put, List.setIfInBounds_toArray, List.set_cons_zero, List.set_cons_succ]
  refine region_take 7 17 (v := ?vga7) rfl rfl (by kernel_rfl) (by kernel_rfl) (by kernel_rfl) (fun _ _ _ h => h) (by rfl) (fun w' hS => ?hga7) ?rga7
  case hga7 => go_simp; with_reducible rfl
  try simp only [Act.put, List.setIfInBounds_toArray, List.set_cons_zero, List.set_cons_succ]
  refine region_take 8 18 (v := ?vga8) rfl rfl (by kernel_rfl) (by kernel_rfl) (by kernel_rfl) (fun _ _ _ h => h) (by rfl) (fun w' hS => ?hga8) ?rga8
  case hga8 => go_simp; with_reducible rfl
  try simp only [Act.put, List.setIfInBounds_toArray, List.set_cons_zero, List.set_cons_succ]
  refine wpAnyH_ready (rs := [4]) (by kernel_rfl) (by simp) (AllReadyH.cons rfl (fun K hK => ?_) AllReadyH.nil)
  go_simp
  refine (HOf.out _).mono ?_
  rintro e w2 ⟨rfl, hP2⟩
  refine hK.out _ _ (hP2) (fun hHeld => ?_)
  clear hK K hHeld
  refine region_now (hP2) ?_
  try simp only [Act.put, List.setIfInBounds_toArray, List.set_cons_zero, List.set_cons_succ]
  refine wpAnyH_ready (rs := [9]) (by kernel_rfl) (by simp) (AllReadyH.cons rfl (fun K hK => ?_) AllReadyH.nil)
  go_simp
  refine (HOf.out _).mono ?_
  rintro e w3 ⟨rfl, hP3⟩
  refine hK.out _ _ (hP3) (fun hHeld => ?_)
  clear hK K hHeld
  refine region_now (hP3) ?_
  try simp only [Act.put, List.setIfInBounds_toArray, List.set_cons_zero, List.set_cons_succ]
  refine region_take 10 6 (v := ?vga10) rfl rfl (by kernel_rfl) (by kernel_rfl) (by kernel_rfl) (fun _ _ _ h => h) (by rfl) (fun w' hS => ?hga10) ?rga10
  case hga10 => go_simp; with_reducible rfl
  try simp only [Act.put, List.setIfInBounds_toArray, List.set_cons_zero, List.set_cons_succ]
  refine region_take 11 7 (v := ?vga11) rfl rfl (by kernel_rfl) (by kernel_rfl) (by kernel_rfl) (fun _ _ _ h => h) (by rfl) (fun w' hS => ?hga11) ?rga11
  case hga11 => go_simp; with_reducible rfl
  try simp only [Act.put, List.setIfInBounds_toArray, List.set_cons_zero, List.set_cons_succ]
  refine wpAnyH_done (by kernel_rfl) ?_ _
  have hP : Pure w w3 := ((Ext.refl (fun _ => False) w).drew.pure hP2).pure hP3
  clear d0 d1 d2 k0 k1 k2 HOf hP2 hP3
  go_wp2_with fail
  go_loopw [6, 7, 9, 22] (fun a b _ i W => ∃ (k lo hi : Nat), k ≤ n ∧ i = .int .i64 k ∧ a = .int .i64 lo ∧ b = .int .i64 hi ∧ Hid (lo = (h.os.take k).foldl min (h.os.headD 0)) ∧ Hid (hi = (h.os.take k).foldl max (h.os.headD 0)) ∧ lo ≤ 2147483647 ∧ hi ≤ 2147483647 ∧ Pure w W) (fun _ _ _ i _ => n - (intOf i).toNat)
  case atStart => exact ⟨0, on0, on0, Nat.zero_le _, rfl, rfl, rfl, HH0, HH1, by omega, by omega, hP⟩
  case round =>
    obtain ⟨k, lo, hi, hk, rfl, rfl, rfl, HL, HI, hlo, hhi, hPr⟩ := hrel
    clear hP
    by_cases hlt : k < n
    · have hki : (k : Int) < (n : Int) := by omega
      obtain ⟨b, o, on, ln, sa, sc, xs, had, p0, p1, p2, hsub, e0, e1, e2, bo, bl, bs, bx0, bx1, bx2⟩ := HPg.out wr hPr k hlt
      cases had
      obtain ⟨xn, hxn⟩ : ∃ z, z = xs.length := ⟨_, rfl⟩
      rw [← hxn] at p2 bx0 bx1
      have HL2 : Hid (min lo on = (h.os.take (k + 1)).foldl min (h.os.headD 0)) := Lib.hid (by rw [fold_take_succ min _ _ k on e0, HL.out])
      have HI2 : Hid (max hi on = (h.os.take (k + 1)).foldl max (h.os.headD 0)) := Lib.hid (by rw [fold_take_succ max _ _ k on e0, HI.out])
      have hTB := BlockIs.new wr [.int .i64 on, .int .i64 ln, .slice sa xn sc] 53
      have hPw := hPr.pure (ext_alloc wr (.cells #[.int .i64 on, .int .i64 ln, .slice sa xn sc] 53))
      have HOf := Lib.hid (fun W => objects_any (on : Int) (ln : Int) sa xn sc W)
      unfold pageV at HOf
      clear hsub e0 e1 e2 bs hxn
      go_wp2_with fail
      obtain ⟨tb, htb⟩ : ∃ tb, tb = wr.heap.size := ⟨_, rfl⟩
      rw [← htb]
      rw [← htb] at hTB
      clear htb p0 p1 p2
      generalize wr.alloc (.cells #[.int .i64 on, .int .i64 ln, .slice sa xn sc] 53) = w5 at *
      have d0 : w5.drew.cell? ⟨tb, 0, none⟩ = some (.int .i64 on) := hTB.cell 0
      have d1 : w5.drew.cell? ⟨tb, 0 + 1, none⟩ = some (.int .i64 ln) := hTB.cell 1
      have d2 : w5.drew.cell? ⟨tb, 0 + 2, none⟩ = some (.slice sa xn sc) := hTB.cell 2
      have k0 := fun w' (hS : Ext (fun _ => False) w5.drew w') => hS.cell_some d0 id
      have k1 := fun w' (hS : Ext (fun _ => False) w5.drew w') => hS.cell_some d1 id
      have k2 := fun w' (hS : Ext (fun _ => False) w5.drew w') => hS.cell_some d2 id
      refine region_start (fun _ => False) (by kernel_rfl) ?_
      try simp only [Act.put, List.setIfInBounds_toArray, List.set_cons_zero, List.set_cons_succ]
      refine region_take 0 26 (v := ?vha0) rfl rfl (by kernel_rfl) (by kernel_rfl) (by kernel_rfl) (fun _ _ _ h => h) (by rfl) (fun w' hS => ?hha0) ?rha0
      case hha0 => go_simp; with_reducible rfl
      try simp only [Act.put, List.setIfInBounds_toArray, List.set_cons_zero, List.set_cons_succ]
      refine region_take 1 27 (v := ?vha1) rfl rfl (by kernel_rfl) (by kernel_rfl) (by kernel_rfl) (fun _ _ _ h => h) (by rfl) (fun w' hS => ?hha1) ?rha1
      case hha1 => go_simp; with_reducible rfl
      try simp only [Act.put, List.setIfInBounds_toArray, List.set_cons_zero, List.set_cons_succ]
      refine region_take 2 28 (v := ?vha2) rfl rfl (by kernel_rfl) (by kernel_rfl) (by kernel_rfl) (fun _ _ _ h => h) (by rfl) (fun w' hS => ?hha2) ?rha2
      case hha2 => go_simp; with_reducible rfl
      try simp only [Act.put, List.setIfInBounds_toArray, List.set_cons_zero, List.set_cons_succ]
      refine region_take 5 31 (v := ?vha5) rfl rfl (by kernel_rfl) (by kernel_rfl) (by kernel_rfl) (fun _ _ _ h => h) (by rfl) (fun w' hS => ?hha5) ?rha5
      case hha5 => go_simp; with_reducible rfl
      try simp only [Act.put, List.setIfInBounds_toArray, List.set_cons_zero, List.set_cons_succ]
      refine region_take 6 32 (v := ?vha6) rfl rfl (by kernel_rfl) (by kernel_rfl) (by kernel_rfl) (fun _ _ _ h => h) (by rfl) (fun w' hS => ?hha6) ?rha6
      case hha6 => go_simp; with_reducible rfl
      try simp only [Act.put, List.setIfInBounds_toArray, List.set_cons_zero, List.set_cons_succ]
      refine region_take 7 33 (v := ?vha7) rfl rfl (by kernel_rfl) (by kernel_rfl) (by kernel_rfl) (fun _ _ _ h => h) (by rfl) (fun w' hS => ?hha7) ?rha7
      case hha7 => go_simp; with_reducible rfl
      try simp only [Act.put, List.setIfInBounds_toArray, List.set_cons_zero, List.set_cons_succ]
      refine wpAnyH_ready (rs := [3]) (by kernel_rfl) (by simp) (AllReadyH.cons rfl (fun K hK => ?_) AllReadyH.nil)
      go_simp
      refine (HOf.out _).mono ?_
      rintro e w6 ⟨rfl, hP6⟩
      refine hK.out _ _ (hP6) (fun hHeld => ?_)
      clear hK K hHeld
      refine region_now (hP6) ?_
      try simp only [Act.put, List.setIfInBounds_toArray, List.set_cons_zero, List.set_cons_succ]
      refine region_take 4 30 (v := ?vha4) rfl rfl (by kernel_rfl) (by kernel_rfl) (by kernel_rfl) (fun _ _ _ h => h) (by rfl) (fun w' hS => ?hha4) ?rha4
      case hha4 => go_simp; with_reducible rfl
      try simp only [Act.put, List.setIfInBounds_toArray, List.set_cons_zero, List.set_cons_succ]
      refine wpAnyH_ready (rs := [8]) (by kernel_rfl) (by simp) (AllReadyH.cons rfl (fun K hK => ?_) AllReadyH.nil)
      go_simp
      refine (HOf.out _).mono ?_
      rintro e w7 ⟨rfl, hP7⟩
      refine hK.out _ _ (hP7) (fun hHeld => ?_)
      clear hK K hHeld
      refine region_now (hP7) ?_
      try simp only [Act.put, List.setIfInBounds_toArray, List.set_cons_zero, List.set_cons_succ]
      refine region_take 9 35 (v := ?vha9) rfl rfl (by kernel_rfl) (by kernel_rfl) (by kernel_rfl) (fun _ _ _ h => h) (by rfl) (fun w' hS => ?hha9) ?rha9
      case hha9 => go_simp; with_reducible rfl
      try simp only [Act.put, List.setIfInBounds_toArray, List.set_cons_zero, List.set_cons_succ]
      refine region_take 10 6 (v := ?vha10) rfl rfl (by kernel_rfl) (by kernel_rfl) (by kernel_rfl) (fun _ _ _ h => h) (by rfl) (fun w' hS => ?hha10) ?rha10
      case hha10 => go_simp; with_reducible rfl
      try simp only [Act.put, List.setIfInBounds_toArray, List.set_cons_zero, List.set_cons_succ]
      refine region_take 11 7 (v := ?vha11) rfl rfl (by kernel_rfl) (by kernel_rfl) (by kernel_rfl) (fun _ _ _ h => h) (by rfl) (fun w' hS => ?hha11) ?rha11
      case hha11 => go_simp; with_reducible rfl
      try simp only [Act.put, List.setIfInBounds_toArray, List.set_cons_zero, List.set_cons_succ]
      refine wpAnyH_done (by kernel_rfl) ?_ _
      have hP9 : Pure w w7 := (hPw.drew.pure hP6).pure hP7
      clear d0 d1 d2 k0 k1 k2 HOf hP6 hP7
      go_wp2_with fail
      go_roundw
      case rel => exact ⟨k + 1, min lo on, max hi on, by omega, by go_num, by congr 1; omega, by congr 1; omega, HL2, HI2, by omega, by omega, hP9⟩
      case measure => simp [intOf]; omega
    · have hki : ¬ (k : Int) < (n : Int) := by omega
      obtain rfl : n = k := by omega
      have hl : lo = LE := by rw [HL.out, List.take_of_length_le (by rw [HLEN.out]; omega), least_fold HNE.out, HLE.out]
      have hi' : hi = most h.os := by rw [HI.out, List.take_of_length_le (by rw [HLEN.out]; omega), most_fold HNE.out]
      have hle : lo ≤ hi := by rw [hl, HLE.out, hi']; exact least_le_most HNE.out
      obtain ⟨dv, hdv⟩ : ∃ d, d = hi - lo := ⟨_, rfl⟩
      have hdi : (hi : Int) - (lo : Int) = (dv : Int) := by omega
      have hwid : wid dv = WI := by rw [HWI.out, hdv, hl, HLE.out, hi']; rfl
      have hud : IntKind.u32.wrap (dv : Int) = (dv : Int) := IntWalk.u32_in _ (by omega)
      have HW := Lib.hid (fun W => hwid ▸ width_any dv W (by omega))
      subst hl
      clear hi' hdv hwid HL HI HLE HWI
      go_wp2_with fail
      refine (HW.out _).mono ?_
      rintro e w9 ⟨rfl, hw9⟩
      obtain rfl := hw9.symm
      go_wp2_with fail
      go_ret2
      exact ⟨rfl, hPr⟩
set_option maxHeartbeats 2000000 in
set_option maxRecDepth 100000 in
theorem bounds_len (ad : Option Addr) (c n : Nat) (h : HN) (w : World) (HPg : Hid (∀ W, Pure w W → ∀ k, k < n → PageAt W ad h k)) (hn1 : 1 ≤ n) (hn40 : n ≤ 40) (hlen : h.ls.length = n) :
    Calls Tryz.prog 57 #[.slice ad n c, .func (.func 55) #[] #[]] w fun e w' => e = .returned (.tuple #[.int .i64 (least h.ls : Nat), .int .i64 (width h.ls : Nat)]) ∧ Pure w w' := by
  have HLEN := Lib.hid hlen
  obtain ⟨LE, hLE⟩ : ∃ z, z = least h.ls := ⟨_, rfl⟩
  obtain ⟨WI, hWI⟩ : ∃ z, z = width h.ls := ⟨_, rfl⟩
  rw [← hLE, ← hWI]
  have HLE := Lib.hid hLE
  have HWI := Lib.hid hWI
  clear hLE hWI hlen
  obtain ⟨b0, o0, on0, ln0, sa0, sc0, xs0, had, p0, p1, p2, hsub0, e0, e1, e2, bo0, bl0, bs0, bx0, bx1, bx2⟩ := HPg.out w (Ext.refl _ _) 0 (by omega)
  subst had
  obtain ⟨xn0, hxn0⟩ : ∃ z, z = xs0.length := ⟨_, rfl⟩
  rw [← hxn0] at p2 bx0 bx1
  have hne : h.ls ≠ [] := fun e => by have := HLEN.out; rw [e] at this; simp at this; omega
  have hh0 : ln0 = h.ls.headD 0 := by
    cases hos : h.ls with
    | nil => exact absurd hos hne
    | cons x xs => rw [hos] at e1; simp at e1; simp [e1]
  have HH0 : Hid (ln0 = (h.ls.take 0).foldl min (h.ls.headD 0)) := Lib.hid (by rw [hh0]; rfl)
  have HH1 : Hid (ln0 = (h.ls.take 0).foldl max (h.ls.headD 0)) := Lib.hid (by rw [hh0]; rfl)
  have HNE := Lib.hid hne
  simp only [Nat.zero_mul, Nat.add_zero] at p0 p1 p2
  have d0 : w.drew.cell? ⟨b0, o0, none⟩ = some (.int .i64 on0) := p0
  have d1 : w.drew.cell? ⟨b0, o0 + 1, none⟩ = some (.int .i64 ln0) := p1
  have d2 : w.drew.cell? ⟨b0, o0 + 2, none⟩ = some (.slice sa0 xn0 sc0) := p2
  have k0 := fun w' (hS : Ext (fun _ => False) w.drew w') => hS.cell_some d0 id
  have k1 := fun w' (hS : Ext (fun _ => False) w.drew w') => hS.cell_some d1 id
  have k2 := fun w' (hS : Ext (fun _ => False) w.drew w') => hS.cell_some d2 id
  have hB0i : (0 : Int) < (n : Int) := by omega
  have hB0 : 0 < n := by omega
  have HOf := Lib.hid (fun W => length_any (on0 : Int) (ln0 : Int) sa0 xn0 sc0 W)
  unfold pageV at HOf
  clear p0 p1 p2 hsub0 e0 e1 e2 bs0 hxn0 hh0 hne
  go_enter Tryz.func57, Tryz.ntmps57
  go_wp2_with fail
  refine region_start (fun _ => False) (by kernel_rfl) ?_
  try simp only [Act.put, List.setIfInBounds_toArray, List.set_cons_zero, List.set_cons_succ]
  refine region_take 0 10 (v := ?vgb0) rfl rfl (by kernel_rfl) (by kernel_rfl) (by kernel_rfl) (fun _ _ _ h => h) (by rfl) (fun w' hS => ?hgb0) ?rgb0
  case hgb0 => go_simp; with_reducible rfl
  try simp only [Act.put, List.setIfInBounds_toArray, List.set_cons_zero, List.set_cons_succ]
  refine region_take 1 11 (v := ?vgb1) rfl rfl (by kernel_rfl) (by kernel_rfl) (by kernel_rfl) (fun _ _ _ h => h) (by rfl) (fun w' hS => ?hgb1) ?rgb1
  case hgb1 => go_simp; with_reducible rfl
  try simp only [Act.put, List.setIfInBounds_toArray, List.set_cons_zero, List.set_cons_succ]
  refine region_take 2 12 (v := ?vgb2) rfl rfl (by kernel_rfl) (by kernel_rfl) (by kernel_rfl) (fun _ _ _ h => h) (by rfl) (fun w' hS => ?hgb2) ?rgb2
  case hgb2 => go_simp; with_reducible rfl
  try simp only [Act.put, List.setIfInBounds_toArray, List.set_cons_zero, List.set_cons_succ]
  refine region_take 3 13 (v := ?vgb3) rfl rfl (by kernel_rfl) (by kernel_rfl) (by kernel_rfl) (fun _ _ _ h => h) (by rfl) (fun w' hS => ?hgb3) ?rgb3
  case hgb3 => go_simp; with_reducible rfl
  try simp only [Act.put, List.setIfInBounds_toArray, List.set_cons_zero, List.set_cons_succ]
  refine region_take 5 15 (v := ?vgb5) rfl rfl (by kernel_rfl) (by kernel_rfl) (by kernel_rfl) (fun _ _ _ h => h) (by rfl) (fun w' hS => ?hgb5) ?rgb5
  case hgb5 => go_simp; with_reducible rfl
  try simp only [Act.put, List.setIfInBounds_toArray, List.set_cons_zero, List.set_cons_succ]
  refine region_take 6 16 (v := ?vgb6) rfl rfl (by kernel_rfl) (by kernel_rfl) (by kernel_rfl) (fun _ _ _ h => h) (by rfl) (fun w' hS => ?hgb6) ?rgb6
  case hgb6 => go_simp; with_reducible rfl
  try simp only [Act.put, List.setIfInBounds_toArray, List.set_cons_zero, List.set_cons_succ]
  refine region_take 7 17 (v := ?vgb7) rfl rfl (by kernel_rfl) (by kernel_rfl) (by kernel_rfl) (fun _ _ _ h => h) (by rfl) (fun w' hS => ?hgb7) ?rgb7
  case hgb7 => go_simp; with_reducible rfl
  try simp only [Act.put, List.setIfInBounds_toArray, List.set_cons_zero, List.set_cons_succ]
  refine region_take 8 18 (v := ?vgb8) rfl rfl (by kernel_rfl) (by kernel_rfl) (by kernel_rfl) (fun _ _ _ h => h) (by rfl) (fun w' hS => ?hgb8) ?rgb8
  case hgb8 => go_simp; with_reducible rfl
  try simp only [Act.put, List.setIfInBounds_toArray, List.set_cons_zero, List.set_cons_succ]
  refine wpAnyH_ready (rs := [4]) (by kernel_rfl) (by simp) (AllReadyH.cons rfl (fun K hK => ?_) AllReadyH.nil)
  go_simp
  refine (HOf.out _).mono ?_
  rintro e w2 ⟨rfl, hP2⟩
  refine hK.out _ _ (hP2) (fun hHeld => ?_)
  clear hK K hHeld
  refine region_now (hP2) ?_
  try simp only [Act.put, List.setIfInBounds_toArray, List.set_cons_zero, List.set_cons_succ]
  refine wpAnyH_ready (rs := [9]) (by kernel_rfl) (by simp) (AllReadyH.cons rfl (fun K hK => ?_) AllReadyH.nil)
  go_simp
  refine (HOf.out _).mono ?_
  rintro e w3 ⟨rfl, hP3⟩
  refine hK.out _ _ (hP3) (fun hHeld => ?_)
  clear hK K hHeld
  refine region_now (hP3) ?_
  try simp only [Act.put, List.setIfInBounds_toArray, List.set_cons_zero, List.set_cons_succ]
  refine region_take 10 6 (v := ?vgb10) rfl rfl (by kernel_rfl) (by kernel_rfl) (by kernel_rfl) (fun _ _ _ h => h) (by rfl) (fun w' hS => ?hgb10) ?rgb10
  case hgb10 => go_simp; with_reducible rfl
  try simp only [Act.put, List.setIfInBounds_toArray, List.set_cons_zero, List.set_cons_succ]
  refine region_take 11 7 (v := ?vgb11) rfl rfl (by kernel_rfl) (by kernel_rfl) (by kernel_rfl) (fun _ _ _ h => h) (by rfl) (fun w' hS => ?hgb11) ?rgb11
  case hgb11 => go_simp; with_reducible rfl
  try simp only [Act.put, List.setIfInBounds_toArray, List.set_cons_zero, List.set_cons_succ]
  refine wpAnyH_done (by kernel_rfl) ?_ _
  have hP : Pure w w3 := ((Ext.refl (fun _ => False) w).drew.pure hP2).pure hP3
  clear d0 d1 d2 k0 k1 k2 HOf hP2 hP3
  go_wp2_with fail
  go_loopw [6, 7, 9, 22] (fun a b _ i W => ∃ (k lo hi : Nat), k ≤ n ∧ i = .int .i64 k ∧ a = .int .i64 lo ∧ b = .int .i64 hi ∧ Hid (lo = (h.ls.take k).foldl min (h.ls.headD 0)) ∧ Hid (hi = (h.ls.take k).foldl max (h.ls.headD 0)) ∧ lo ≤ 2147483647 ∧ hi ≤ 2147483647 ∧ Pure w W) (fun _ _ _ i _ => n - (intOf i).toNat)
  case atStart => exact ⟨0, ln0, ln0, Nat.zero_le _, rfl, rfl, rfl, HH0, HH1, by omega, by omega, hP⟩
  case round =>
    obtain ⟨k, lo, hi, hk, rfl, rfl, rfl, HL, HI, hlo, hhi, hPr⟩ := hrel
    clear hP
    by_cases hlt : k < n
    · have hki : (k : Int) < (n : Int) := by omega
      obtain ⟨b, o, on, ln, sa, sc, xs, had, p0, p1, p2, hsub, e0, e1, e2, bo, bl, bs, bx0, bx1, bx2⟩ := HPg.out wr hPr k hlt
      cases had
      obtain ⟨xn, hxn⟩ : ∃ z, z = xs.length := ⟨_, rfl⟩
      rw [← hxn] at p2 bx0 bx1
      have HL2 : Hid (min lo ln = (h.ls.take (k + 1)).foldl min (h.ls.headD 0)) := Lib.hid (by rw [fold_take_succ min _ _ k ln e1, HL.out])
      have HI2 : Hid (max hi ln = (h.ls.take (k + 1)).foldl max (h.ls.headD 0)) := Lib.hid (by rw [fold_take_succ max _ _ k ln e1, HI.out])
      have hTB := BlockIs.new wr [.int .i64 on, .int .i64 ln, .slice sa xn sc] 53
      have hPw := hPr.pure (ext_alloc wr (.cells #[.int .i64 on, .int .i64 ln, .slice sa xn sc] 53))
      have HOf := Lib.hid (fun W => length_any (on : Int) (ln : Int) sa xn sc W)
      unfold pageV at HOf
      clear hsub e0 e1 e2 bs hxn
      go_wp2_with fail
      obtain ⟨tb, htb⟩ : ∃ tb, tb = wr.heap.size := ⟨_, rfl⟩
      rw [← htb]
      rw [← htb] at hTB
      clear htb p0 p1 p2
      generalize wr.alloc (.cells #[.int .i64 on, .int .i64 ln, .slice sa xn sc] 53) = w5 at *
      have d0 : w5.drew.cell? ⟨tb, 0, none⟩ = some (.int .i64 on) := hTB.cell 0
      have d1 : w5.drew.cell? ⟨tb, 0 + 1, none⟩ = some (.int .i64 ln) := hTB.cell 1
      have d2 : w5.drew.cell? ⟨tb, 0 + 2, none⟩ = some (.slice sa xn sc) := hTB.cell 2
      have k0 := fun w' (hS : Ext (fun _ => False) w5.drew w') => hS.cell_some d0 id
      have k1 := fun w' (hS : Ext (fun _ => False) w5.drew w') => hS.cell_some d1 id
      have k2 := fun w' (hS : Ext (fun _ => False) w5.drew w') => hS.cell_some d2 id
      refine region_start (fun _ => False) (by kernel_rfl) ?_
      try simp only [Act.put, List.setIfInBounds_toArray, List.set_cons_zero, List.set_cons_succ]
      refine region_take 0 26 (v := ?vhb0) rfl rfl (by kernel_rfl) (by kernel_rfl) (by kernel_rfl) (fun _ _ _ h => h) (by rfl) (fun w' hS => ?hhb0) ?rhb0
      case hhb0 => go_simp; with_reducible rfl
      try simp only [Act.put, List.setIfInBounds_toArray, List.set_cons_zero, List.set_cons_succ]
      refine region_take 1 27 (v := ?vhb1) rfl rfl (by kernel_rfl) (by kernel_rfl) (by kernel_rfl) (fun _ _ _ h => h) (by rfl) (fun w' hS => ?hhb1) ?rhb1
      case hhb1 => go_simp; with_reducible rfl
      try simp only [Act.put, List.setIfInBounds_toArray, List.set_cons_zero, List.set_cons_succ]
      refine region_take 2 28 (v := ?vhb2) rfl rfl (by kernel_rfl) (by kernel_rfl) (by kernel_rfl) (fun _ _ _ h => h) (by rfl) (fun w' hS => ?hhb2) ?rhb2
      case hhb2 => go_simp; with_reducible rfl
      try simp only [Act.put, List.setIfInBounds_toArray, List.set_cons_zero, List.set_cons_succ]
      refine region_take 5 31 (v := ?vhb5) rfl rfl (by kernel_rfl) (by kernel_rfl) (by kernel_rfl) (fun _ _ _ h => h) (by rfl) (fun w' hS => ?hhb5) ?rhb5
      case hhb5 => go_simp; with_reducible rfl
      try simp only [Act.put, List.setIfInBounds_toArray, List.set_cons_zero, List.set_cons_succ]
      refine region_take 6 32 (v := ?vhb6) rfl rfl (by kernel_rfl) (by kernel_rfl) (by kernel_rfl) (fun _ _ _ h => h) (by rfl) (fun w' hS => ?hhb6) ?rhb6
      case hhb6 => go_simp; with_reducible rfl
      try simp only [Act.put, List.setIfInBounds_toArray, List.set_cons_zero, List.set_cons_succ]
      refine region_take 7 33 (v := ?vhb7) rfl rfl (by kernel_rfl) (by kernel_rfl) (by kernel_rfl) (fun _ _ _ h => h) (by rfl) (fun w' hS => ?hhb7) ?rhb7
      case hhb7 => go_simp; with_reducible rfl
      try simp only [Act.put, List.setIfInBounds_toArray, List.set_cons_zero, List.set_cons_succ]
      refine wpAnyH_ready (rs := [3]) (by kernel_rfl) (by simp) (AllReadyH.cons rfl (fun K hK => ?_) AllReadyH.nil)
      go_simp
      refine (HOf.out _).mono ?_
      rintro e w6 ⟨rfl, hP6⟩
      refine hK.out _ _ (hP6) (fun hHeld => ?_)
      clear hK K hHeld
      refine region_now (hP6) ?_
      try simp only [Act.put, List.setIfInBounds_toArray, List.set_cons_zero, List.set_cons_succ]
      refine region_take 4 30 (v := ?vhb4) rfl rfl (by kernel_rfl) (by kernel_rfl) (by kernel_rfl) (fun _ _ _ h => h) (by rfl) (fun w' hS => ?hhb4) ?rhb4
      case hhb4 => go_simp; with_reducible rfl
      try simp only [Act.put, List.setIfInBounds_toArray, List.set_cons_zero, List.set_cons_succ]
      refine wpAnyH_ready (rs := [8]) (by kernel_rfl) (by simp) (AllReadyH.cons rfl (fun K hK => ?_) AllReadyH.nil)
      go_simp
      refine (HOf.out _).mono ?_
      rintro e w7 ⟨rfl, hP7⟩
      refine hK.out _ _ (hP7) (fun hHeld => ?_)
      clear hK K hHeld
      refine region_now (hP7) ?_
      try simp only [Act.put, List.setIfInBounds_toArray, List.set_cons_zero, List.set_cons_succ]
      refine region_take 9 35 (v := ?vhb9) rfl rfl (by kernel_rfl) (by kernel_rfl) (by kernel_rfl) (fun _ _ _ h => h) (by rfl) (fun w' hS => ?hhb9) ?rhb9
      case hhb9 => go_simp; with_reducible rfl
      try simp only [Act.put, List.setIfInBounds_toArray, List.set_cons_zero, List.set_cons_succ]
      refine region_take 10 6 (v := ?vhb10) rfl rfl (by kernel_rfl) (by kernel_rfl) (by kernel_rfl) (fun _ _ _ h => h) (by rfl) (fun w' hS => ?hhb10) ?rhb10
      case hhb10 => go_simp; with_reducible rfl
      try simp only [Act.put, List.setIfInBounds_toArray, List.set_cons_zero, List.set_cons_succ]
      refine region_take 11 7 (v := ?vhb11) rfl rfl (by kernel_rfl) (by kernel_rfl) (by kernel_rfl) (fun _ _ _ h => h) (by rfl) (fun w' hS => ?hhb11) ?rhb11
      case hhb11 => go_simp; with_reducible rfl
      try simp only [Act.put, List.setIfInBounds_toArray, List.set_cons_zero, List.set_cons_succ]
      refine wpAnyH_done (by kernel_rfl) ?_ _
      have hP9 : Pure w w7 := (hPw.drew.pure hP6).pure hP7
      clear d0 d1 d2 k0 k1 k2 HOf hP6 hP7
      go_wp2_with fail
      go_roundw
      case rel => exact ⟨k + 1, min lo ln, max hi ln, by omega, by go_num, by congr 1; omega, by congr 1; omega, HL2, HI2, by omega, by omega, hP9⟩
      case measure => simp [intOf]; omega
    · have hki : ¬ (k : Int) < (n : Int) := by omega
      obtain rfl : n = k := by omega
      have hl : lo = LE := by rw [HL.out, List.take_of_length_le (by rw [HLEN.out]; omega), least_fold HNE.out, HLE.out]
      have hi' : hi = most h.ls := by rw [HI.out, List.take_of_length_le (by rw [HLEN.out]; omega), most_fold HNE.out]
      have hle : lo ≤ hi := by rw [hl, HLE.out, hi']; exact least_le_most HNE.out
      obtain ⟨dv, hdv⟩ : ∃ d, d = hi - lo := ⟨_, rfl⟩
      have hdi : (hi : Int) - (lo : Int) = (dv : Int) := by omega
      have hwid : wid dv = WI := by rw [HWI.out, hdv, hl, HLE.out, hi']; rfl
      have hud : IntKind.u32.wrap (dv : Int) = (dv : Int) := IntWalk.u32_in _ (by omega)
      have HW := Lib.hid (fun W => hwid ▸ width_any dv W (by omega))
      subst hl
      clear hi' hdv hwid HL HI HLE HWI
      go_wp2_with fail
      refine (HW.out _).mono ?_
      rintro e w9 ⟨rfl, hw9⟩
      obtain rfl := hw9.symm
      go_wp2_with fail
      go_ret2
      exact ⟨rfl, hPr⟩
end Go.Proofs.YtomcdhljjmnahaaGreat.P26
namespace Go.Proofs.YtomcdhljjmnahaaGreat.P26
set_option linter.unusedVariables false
set_option linter.unusedSimpArgs false
open Go.RowKit C26

/-- the widths of a head's numbers, and where each is -/
def szs : List Nat := [32, 32, 16, 32, 16, 32, 16, 32, 16, 16, 16, 16, 16]
def offs (k : Nat) : Nat := (szs.take k).sum
def hdv (bs : List Bool) (k : Nat) : List Nat := (List.range k).map (fun j => numAt bs (offs j) (szs.getD j 0))
def DecRes (bs : List Bool) (n : Int) (w : World) (e : Ending) (w' : World) : Prop := ∃ (r : DRes) (ps : List PH) (oa : Option Addr) (oc : Nat), e = .returned (.tuple #[.int .i64 r.a, .slice oa ps.length oc, .int .i64 r.m, .int .i64 r.e]) ∧ DecTo bs n r ∧ ps.map (fun p => (p.o, p.l, p.sh)) = resV r ∧ Hints w' oa ps ∧ (ps.length ≤ 2048 ∧ ∀ p ∈ ps, ∀ g, p.sa = some g → w.heap.size ≤ g.block) ∧ Pure w w'
theorem decRes_err {bs : List Bool} {n : Int} {w w' : World} {E : Int} (h : DecTo bs n (dErr E)) (hP : Pure w w') : DecRes bs n w (.returned (.tuple #[.int .i64 0, .slice none 0 0, .int .i64 0, .int .i64 E])) w' :=
  ⟨dErr E, [], none, 0, rfl, h, rfl, ⟨row_nil _ _, (fun p hp => by cases hp), (fun p hp => by cases hp)⟩, ⟨Nat.zero_le _, fun p hp => by cases hp⟩, hP⟩
end Go.Proofs.YtomcdhljjmnahaaGreat.P26
