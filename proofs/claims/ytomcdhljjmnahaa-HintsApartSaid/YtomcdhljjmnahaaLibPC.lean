/-
  Walked: bounds, of objects and of lengths.
  Walked: the reference's Decode.
  Walked: the program's Decode.
  Walked: the reference's low and fill.
  Walked: the reference's Table.
  Walked: which hints may be: the reference's Check.
  What a table of hints comes to; and walked: the reference's Encode.
  Walked: the page with the most shared numbers (slices.MaxFunc, and how two pages are held side by side).
  A writer of a call's own: what it has, and that all else is as it was; and walked: put (the closure), row of numbers.
  Walked: row, of objects, of lengths, of counts, and of shared numbers.
  Walked: row, of shared numbers.
  Walked: the program's Encode.
  Walked: the program's Encode, of any hints.
-/
import Derived.Test.YtomcdhljjmnahaaLibPB
import Derived.Test.YtomcdhljjmnahaaLibBB
import Derived.Test.YtomcdhljjmnahaaLibPA
import Derived.Test.YtomcdhljjmnahaaLibBA
import Derived.OwnWalk
import Derived.StillTailTactics
import Derived.Deep.DeepCutAuto
namespace Go.Proofs.Ytomcdhljjmnahaa.P26
set_option linter.unusedVariables false
set_option linter.unusedSimpArgs false
open Go.RowKit C26

set_option maxHeartbeats 2000000 in
set_option maxRecDepth 100000 in
theorem bounds_obj (ad : Option Addr) (c n : Nat) (h : HN) (w : World) (HPg : Hid (∀ W, Pure w W → ∀ k, k < n → PageAt W ad h k)) (hn1 : 1 ≤ n) (hn40 : n ≤ 40) (hlen : h.os.length = n) :
    Calls Try.prog 45 #[.slice ad n c, .func (.func 42) #[] #[]] w fun e w' => e = .returned (.tuple #[.int .i64 (least h.os : Nat), .int .i64 (width h.os : Nat)]) ∧ Pure w w' := by
  have HLEN := Lib.hid hlen
  obtain ⟨LE, hLE⟩ : ∃ z, z = least h.os := ⟨_, rfl⟩
  obtain ⟨WI, hWI⟩ : ∃ z, z = width h.os := ⟨_, rfl⟩
  rw [← hLE, ← hWI]
  have HLE := Lib.hid hLE
  have HWI := Lib.hid hWI
  clear hLE hWI hlen
  obtain ⟨b0, o0, on0, ln0, sa0, sc0, xs0, had, p0, p1, p2, hsub0, e0, e1, e2, bo0, bl0, bs0, bx0, bx1, bx2⟩ := HPg.out w (Ext.refl _ _) 0 (by omega)
  subst had
  obtain ⟨xn0, hxn0⟩ : ∃ z, z = xs0.length := ⟨_, rfl⟩
  rw [← hxn0] at p2 bx0 bx1
  have hne : h.os ≠ [] := fun e => by have := HLEN.out; rw [e] at this; simp at this; omega
  have hh0 : on0 = h.os.headD 0 := by
    cases hos : h.os with
    | nil => exact absurd hos hne
    | cons x xs => rw [hos] at e0; simp at e0; simp [e0]
  have HH0 : Hid (on0 = (h.os.take 0).foldl min (h.os.headD 0)) := Lib.hid (by rw [hh0]; rfl)
  have HH1 : Hid (on0 = (h.os.take 0).foldl max (h.os.headD 0)) := Lib.hid (by rw [hh0]; rfl)
  have HNE := Lib.hid hne
  simp only [Nat.zero_mul, Nat.add_zero] at p0 p1 p2
  have d0 : w.drew.cell? ⟨b0, o0, none⟩ = some (.int .i64 on0) := p0
  have d1 : w.drew.cell? ⟨b0, o0 + 1, none⟩ = some (.int .i64 ln0) := p1
  have d2 : w.drew.cell? ⟨b0, o0 + 2, none⟩ = some (.slice sa0 xn0 sc0) := p2
  have k0 := fun w' (hS : Ext (fun _ => False) w.drew w') => hS.cell_some d0 id
  have k1 := fun w' (hS : Ext (fun _ => False) w.drew w') => hS.cell_some d1 id
  have k2 := fun w' (hS : Ext (fun _ => False) w.drew w') => hS.cell_some d2 id
  have hB0i : (0 : Int) < (n : Int) := by omega
  have hB0 : 0 < n := by omega
  have HOf := Lib.hid (fun W => objects_any (on0 : Int) (ln0 : Int) sa0 xn0 sc0 W)
  unfold pageV at HOf
  clear p0 p1 p2 hsub0 e0 e1 e2 bs0 hxn0 hh0 hne
  go_enter Try.func45, Try.ntmps45
  go_wp2_with fail
  refine region_start (fun _ => False) (by kernel_rfl) ?_
  try simp only [Act.put, List.setIfInBounds_toArray, List.set_cons_zero, List.set_cons_succ]
  refine region_take 0 10 (v := ?vga0) rfl rfl (by kernel_rfl) (by kernel_rfl) (by kernel_rfl) (fun _ _ _ h => h) (by rfl) (fun w' hS => ?hga0) ?rga0
  case hga0 => go_simp; with_reducible rfl
  try simp only [Act.put, List.setIfInBounds_toArray, List.set_cons_zero, List.set_cons_succ]
  refine region_take 1 11 (v := ?vga1) rfl rfl (by kernel_rfl) (by kernel_rfl) (by kernel_rfl) (fun _ _ _ h => h) (by rfl) (fun w' hS => ?hga1) ?rga1
  case hga1 => go_simp; with_reducible rfl
  try simp only [Act.put, List.setIfInBounds_toArray, List.set_cons_zero, List.set_cons_succ]
  refine region_take 2 12 (v := ?vga2) rfl rfl (by kernel_rfl) (by kernel_rfl) (by kernel_rfl) (fun _ _ _ h => h) (by rfl) (fun w' hS => ?hga2) ?rga2
  case hga2 => go_simp; with_reducible rfl
  try simp only [Act.put, List.setIfInBounds_toArray, List.set_cons_zero, List.set_cons_succ]
  refine region_take 3 13 (v := ?vga3) rfl rfl (by kernel_rfl) (by kernel_rfl) (by kernel_rfl) (fun _ _ _ h => h) (by rfl) (fun w' hS => ?hga3) ?rga3
  case hga3 => go_simp; with_reducible rfl
  try simp only [Act.put, List.setIfInBounds_toArray, List.set_cons_zero, List.set_cons_succ]
  refine region_take 5 15 (v := ?vga5) rfl rfl (by kernel_rfl) (by kernel_rfl) (by kernel_rfl) (fun _ _ _ h => h) (by rfl) (fun w' hS => ?hga5) ?rga5
  case hga5 => go_simp; with_reducible rfl
  try simp only [Act.put, List.setIfInBounds_toArray, List.set_cons_zero, List.set_cons_succ]
  refine region_take 6 16 (v := ?vga6) rfl rfl (by kernel_rfl) (by kernel_rfl) (by kernel_rfl) (fun _ _ _ h => h) (by rfl) (fun w' hS => ?hga6) ?rga6
  case hga6 => go_simp; with_reducible rfl
  try simp only [Act.put, List.setIfInBounds_toArray, List.set_cons_zero, List.set_cons_succ]
  refine region_take 7 17 (v := ?vga7) rfl rfl (by kernel_rfl) (by kernel_rfl) (by kernel_rfl) (fun _ _ _ h => h) (by rfl) (fun w' hS => ?hga7) ?rga7
  case hga7 => go_simp; with_reducible rfl
  try simp only [Act.put, List.setIfInBounds_toArray, List.set_cons_zero, List.set_cons_succ]
  refine region_take 8 18 (v := ?vga8) rfl rfl (by kernel_rfl) (by kernel_rfl) (by kernel_rfl) (fun _ _ _ h => h) (by rfl) (fun w' hS => ?hga8) ?rga8
  case hga8 => go_simp; with_reducible rfl
  try simp only [Act.put, List.setIfInBounds_toArray, List.set_cons_zero, List.set_cons_succ]
  refine wpAnyH_ready (rs := [4]) (by kernel_rfl) (by simp) (AllReadyH.cons rfl (fun K hK => ?_) AllReadyH.nil)
  go_simp
  refine (HOf.out _).mono ?_
  rintro e w2 ⟨rfl, hP2⟩
  refine hK.out _ _ (hP2) (fun hHeld => ?_)
  clear hK K hHeld
  refine region_now (hP2) ?_
  try simp only [Act.put, List.setIfInBounds_toArray, List.set_cons_zero, List.set_cons_succ]
  refine wpAnyH_ready (rs := [9]) (by kernel_rfl) (by simp) (AllReadyH.cons rfl (fun K hK => ?_) AllReadyH.nil)
  go_simp
  refine (HOf.out _).mono ?_
  rintro e w3 ⟨rfl, hP3⟩
  refine hK.out _ _ (hP3) (fun hHeld => ?_)
  clear hK K hHeld
  refine region_now (hP3) ?_
  try simp only [Act.put, List.setIfInBounds_toArray, List.set_cons_zero, List.set_cons_succ]
  refine region_take 10 6 (v := ?vga10) rfl rfl (by kernel_rfl) (by kernel_rfl) (by kernel_rfl) (fun _ _ _ h => h) (by rfl) (fun w' hS => ?hga10) ?rga10
  case hga10 => go_simp; with_reducible rfl
  try simp only [Act.put, List.setIfInBounds_toArray, List.set_cons_zero, List.set_cons_succ]
  refine region_take 11 7 (v := ?vga11) rfl rfl (by kernel_rfl) (by kernel_rfl) (by kernel_rfl) (fun _ _ _ h => h) (by rfl) (fun w' hS => ?hga11) ?rga11
  case hga11 => go_simp; with_reducible rfl
  try simp only [Act.put, List.setIfInBounds_toArray, List.set_cons_zero, List.set_cons_succ]
  refine wpAnyH_done (by kernel_rfl) ?_ _
  have hP : Pure w w3 := ((Ext.refl (fun _ => False) w).drew.pure hP2).pure hP3
  clear d0 d1 d2 k0 k1 k2 HOf hP2 hP3
  go_wp2_with fail
  go_loopw [6, 7, 9, 22] (fun a b _ i W => ∃ (k lo hi : Nat), k ≤ n ∧ i = .int .i64 k ∧ a = .int .i64 lo ∧ b = .int .i64 hi ∧ Hid (lo = (h.os.take k).foldl min (h.os.headD 0)) ∧ Hid (hi = (h.os.take k).foldl max (h.os.headD 0)) ∧ lo ≤ 2147483647 ∧ hi ≤ 2147483647 ∧ Pure w W) (fun _ _ _ i _ => n - (intOf i).toNat)
  case atStart => exact ⟨0, on0, on0, Nat.zero_le _, rfl, rfl, rfl, HH0, HH1, by omega, by omega, hP⟩
  case round =>
    obtain ⟨k, lo, hi, hk, rfl, rfl, rfl, HL, HI, hlo, hhi, hPr⟩ := hrel
    clear hP
    by_cases hlt : k < n
    · have hki : (k : Int) < (n : Int) := by omega
      obtain ⟨b, o, on, ln, sa, sc, xs, had, p0, p1, p2, hsub, e0, e1, e2, bo, bl, bs, bx0, bx1, bx2⟩ := HPg.out wr hPr k hlt
      cases had
      obtain ⟨xn, hxn⟩ : ∃ z, z = xs.length := ⟨_, rfl⟩
      rw [← hxn] at p2 bx0 bx1
      have HL2 : Hid (min lo on = (h.os.take (k + 1)).foldl min (h.os.headD 0)) := Lib.hid (by rw [fold_take_succ min _ _ k on e0, HL.out])
      have HI2 : Hid (max hi on = (h.os.take (k + 1)).foldl max (h.os.headD 0)) := Lib.hid (by rw [fold_take_succ max _ _ k on e0, HI.out])
      have hTB := BlockIs.new wr [.int .i64 on, .int .i64 ln, .slice sa xn sc] 51
      have hPw := hPr.pure (ext_alloc wr (.cells #[.int .i64 on, .int .i64 ln, .slice sa xn sc] 51))
      have HOf := Lib.hid (fun W => objects_any (on : Int) (ln : Int) sa xn sc W)
      unfold pageV at HOf
      clear hsub e0 e1 e2 bs hxn
      go_wp2_with fail
      obtain ⟨tb, htb⟩ : ∃ tb, tb = wr.heap.size := ⟨_, rfl⟩
      rw [← htb]
      rw [← htb] at hTB
      clear htb p0 p1 p2
      generalize wr.alloc (.cells #[.int .i64 on, .int .i64 ln, .slice sa xn sc] 51) = w5 at *
      have d0 : w5.drew.cell? ⟨tb, 0, none⟩ = some (.int .i64 on) := hTB.cell 0
      have d1 : w5.drew.cell? ⟨tb, 0 + 1, none⟩ = some (.int .i64 ln) := hTB.cell 1
      have d2 : w5.drew.cell? ⟨tb, 0 + 2, none⟩ = some (.slice sa xn sc) := hTB.cell 2
      have k0 := fun w' (hS : Ext (fun _ => False) w5.drew w') => hS.cell_some d0 id
      have k1 := fun w' (hS : Ext (fun _ => False) w5.drew w') => hS.cell_some d1 id
      have k2 := fun w' (hS : Ext (fun _ => False) w5.drew w') => hS.cell_some d2 id
      refine region_start (fun _ => False) (by kernel_rfl) ?_
      try simp only [Act.put, List.setIfInBounds_toArray, List.set_cons_zero, List.set_cons_succ]
      refine region_take 0 26 (v := ?vha0) rfl rfl (by kernel_rfl) (by kernel_rfl) (by kernel_rfl) (fun _ _ _ h => h) (by rfl) (fun w' hS => ?hha0) ?rha0
      case hha0 => go_simp; with_reducible rfl
      try simp only [Act.put, List.setIfInBounds_toArray, List.set_cons_zero, List.set_cons_succ]
      refine region_take 1 27 (v := ?vha1) rfl rfl (by kernel_rfl) (by kernel_rfl) (by kernel_rfl) (fun _ _ _ h => h) (by rfl) (fun w' hS => ?hha1) ?rha1
      case hha1 => go_simp; with_reducible rfl
      try simp only [Act.put, List.setIfInBounds_toArray, List.set_cons_zero, List.set_cons_succ]
      refine region_take 2 28 (v := ?vha2) rfl rfl (by kernel_rfl) (by kernel_rfl) (by kernel_rfl) (fun _ _ _ h => h) (by rfl) (fun w' hS => ?hha2) ?rha2
      case hha2 => go_simp; with_reducible rfl
      try simp only [Act.put, List.setIfInBounds_toArray, List.set_cons_zero, List.set_cons_succ]
      refine region_take 5 31 (v := ?vha5) rfl rfl (by kernel_rfl) (by kernel_rfl) (by kernel_rfl) (fun _ _ _ h => h) (by rfl) (fun w' hS => ?hha5) ?rha5
      case hha5 => go_simp; with_reducible rfl
      try simp only [Act.put, List.setIfInBounds_toArray, List.set_cons_zero, List.set_cons_succ]
      refine region_take 6 32 (v := ?vha6) rfl rfl (by kernel_rfl) (by kernel_rfl) (by kernel_rfl) (fun _ _ _ h => h) (by rfl) (fun w' hS => ?hha6) ?rha6
      case hha6 => go_simp; with_reducible rfl
      try simp only [Act.put, List.setIfInBounds_toArray, List.set_cons_zero, List.set_cons_succ]
      refine region_take 7 33 (v := ?vha7) rfl rfl (by kernel_rfl) (by kernel_rfl) (by kernel_rfl) (fun _ _ _ h => h) (by rfl) (fun w' hS => ?hha7) ?rha7
      case hha7 => go_simp; with_reducible rfl
      try simp only [Act.put, List.setIfInBounds_toArray, List.set_cons_zero, List.set_cons_succ]
      refine wpAnyH_ready (rs := [3]) (by kernel_rfl) (by simp) (AllReadyH.cons rfl (fun K hK => ?_) AllReadyH.nil)
      go_simp
      refine (HOf.out _).mono ?_
      rintro e w6 ⟨rfl, hP6⟩
      refine hK.out _ _ (hP6) (fun hHeld => ?_)
      clear hK K hHeld
      refine region_now (hP6) ?_
      try simp only [Act.put, List.setIfInBounds_toArray, List.set_cons_zero, List.set_cons_succ]
      refine region_take 4 30 (v := ?vha4) rfl rfl (by kernel_rfl) (by kernel_rfl) (by kernel_rfl) (fun _ _ _ h => h) (by rfl) (fun w' hS => ?hha4) ?rha4
      case hha4 => go_simp; with_reducible rfl
      try simp only [Act.put, List.setIfInBounds_toArray, List.set_cons_zero, List.set_cons_succ]
      refine wpAnyH_ready (rs := [8]) (by kernel_rfl) (by simp) (AllReadyH.cons rfl (fun K hK => ?_) AllReadyH.nil)
      go_simp
      refine (HOf.out _).mono ?_
      rintro e w7 ⟨rfl, hP7⟩
      refine hK.out _ _ (hP7) (fun hHeld => ?_)
      clear hK K hHeld
      refine region_now (hP7) ?_
      try simp only [Act.put, List.setIfInBounds_toArray, List.set_cons_zero, List.set_cons_succ]
      refine region_take 9 35 (v := ?vha9) rfl rfl (by kernel_rfl) (by kernel_rfl) (by kernel_rfl) (fun _ _ _ h => h) (by rfl) (fun w' hS => ?hha9) ?rha9
      case hha9 => go_simp; with_reducible rfl
      try simp only [Act.put, List.setIfInBounds_toArray, List.set_cons_zero, List.set_cons_succ]
      refine region_take 10 6 (v := ?vha10) rfl rfl (by kernel_rfl) (by kernel_rfl) (by kernel_rfl) (fun _ _ _ h => h) (by rfl) (fun w' hS => ?hha10) ?rha10
      case hha10 => go_simp; with_reducible rfl
      try simp only [Act.put, List.setIfInBounds_toArray, List.set_cons_zero, List.set_cons_succ]
      refine region_take 11 7 (v := ?vha11) rfl rfl (by kernel_rfl) (by kernel_rfl) (by kernel_rfl) (fun _ _ _ h => h) (by rfl) (fun w' hS => ?hha11) ?rha11
      case hha11 => go_simp; with_reducible rfl
      try simp only [Act.put, List.setIfInBounds_toArray, List.set_cons_zero, List.set_cons_succ]
      refine wpAnyH_done (by kernel_rfl) ?_ _
      have hP9 : Pure w w7 := (hPw.drew.pure hP6).pure hP7
      clear d0 d1 d2 k0 k1 k2 HOf hP6 hP7
      go_wp2_with fail
      go_roundw
      case rel => exact ⟨k + 1, min lo on, max hi on, by omega, by go_num, by congr 1; omega, by congr 1; omega, HL2, HI2, by omega, by omega, hP9⟩
      case measure => simp [intOf]; omega
    · have hki : ¬ (k : Int) < (n : Int) := by omega
      obtain rfl : n = k := by omega
      have hl : lo = LE := by rw [HL.out, List.take_of_length_le (by rw [HLEN.out]; omega), least_fold HNE.out, HLE.out]
      have hi' : hi = most h.os := by rw [HI.out, List.take_of_length_le (by rw [HLEN.out]; omega), most_fold HNE.out]
      have hle : lo ≤ hi := by rw [hl, HLE.out, hi']; exact least_le_most HNE.out
      obtain ⟨dv, hdv⟩ : ∃ d, d = hi - lo := ⟨_, rfl⟩
      have hdi : (hi : Int) - (lo : Int) = (dv : Int) := by omega
      have hwid : wid dv = WI := by rw [HWI.out, hdv, hl, HLE.out, hi']; rfl
      have hud : IntKind.u32.wrap (dv : Int) = (dv : Int) := IntWalk.u32_in _ (by omega)
      have HW := Lib.hid (fun W => hwid ▸ width_any dv W (by omega))
      subst hl
      clear hi' hdv hwid HL HI HLE HWI
      go_wp2_with fail
      refine (HW.out _).mono ?_
      rintro e w9 ⟨rfl, hw9⟩
      obtain rfl := hw9.symm
      go_wp2_with fail
      go_ret2
      exact ⟨rfl, hPr⟩
set_option maxHeartbeats 2000000 in
set_option maxRecDepth 100000 in
theorem bounds_len (ad : Option Addr) (c n : Nat) (h : HN) (w : World) (HPg : Hid (∀ W, Pure w W → ∀ k, k < n → PageAt W ad h k)) (hn1 : 1 ≤ n) (hn40 : n ≤ 40) (hlen : h.ls.length = n) :
    Calls Try.prog 45 #[.slice ad n c, .func (.func 43) #[] #[]] w fun e w' => e = .returned (.tuple #[.int .i64 (least h.ls : Nat), .int .i64 (width h.ls : Nat)]) ∧ Pure w w' := by
  have HLEN := Lib.hid hlen
  obtain ⟨LE, hLE⟩ : ∃ z, z = least h.ls := ⟨_, rfl⟩
  obtain ⟨WI, hWI⟩ : ∃ z, z = width h.ls := ⟨_, rfl⟩
  rw [← hLE, ← hWI]
  have HLE := Lib.hid hLE
  have HWI := Lib.hid hWI
  clear hLE hWI hlen
  obtain ⟨b0, o0, on0, ln0, sa0, sc0, xs0, had, p0, p1, p2, hsub0, e0, e1, e2, bo0, bl0, bs0, bx0, bx1, bx2⟩ := HPg.out w (Ext.refl _ _) 0 (by omega)
  subst had
  obtain ⟨xn0, hxn0⟩ : ∃ z, z = xs0.length := ⟨_, rfl⟩
  rw [← hxn0] at p2 bx0 bx1
  have hne : h.ls ≠ [] := fun e => by have := HLEN.out; rw [e] at this; simp at this; omega
  have hh0 : ln0 = h.ls.headD 0 := by
    cases hos : h.ls with
    | nil => exact absurd hos hne
    | cons x xs => rw [hos] at e1; simp at e1; simp [e1]
  have HH0 : Hid (ln0 = (h.ls.take 0).foldl min (h.ls.headD 0)) := Lib.hid (by rw [hh0]; rfl)
  have HH1 : Hid (ln0 = (h.ls.take 0).foldl max (h.ls.headD 0)) := Lib.hid (by rw [hh0]; rfl)
  have HNE := Lib.hid hne
  simp only [Nat.zero_mul, Nat.add_zero] at p0 p1 p2
  have d0 : w.drew.cell? ⟨b0, o0, none⟩ = some (.int .i64 on0) := p0
  have d1 : w.drew.cell? ⟨b0, o0 + 1, none⟩ = some (.int .i64 ln0) := p1
  have d2 : w.drew.cell? ⟨b0, o0 + 2, none⟩ = some (.slice sa0 xn0 sc0) := p2
  have k0 := fun w' (hS : Ext (fun _ => False) w.drew w') => hS.cell_some d0 id
  have k1 := fun w' (hS : Ext (fun _ => False) w.drew w') => hS.cell_some d1 id
  have k2 := fun w' (hS : Ext (fun _ => False) w.drew w') => hS.cell_some d2 id
  have hB0i : (0 : Int) < (n : Int) := by omega
  have hB0 : 0 < n := by omega
  have HOf := Lib.hid (fun W => length_any (on0 : Int) (ln0 : Int) sa0 xn0 sc0 W)
  unfold pageV at HOf
  clear p0 p1 p2 hsub0 e0 e1 e2 bs0 hxn0 hh0 hne
  go_enter Try.func45, Try.ntmps45
  go_wp2_with fail
  refine region_start (fun _ => False) (by kernel_rfl) ?_
  try simp only [Act.put, List.setIfInBounds_toArray, List.set_cons_zero, List.set_cons_succ]
  refine region_take 0 10 (v := ?vgb0) rfl rfl (by kernel_rfl) (by kernel_rfl) (by kernel_rfl) (fun _ _ _ h => h) (by rfl) (fun w' hS => ?hgb0) ?rgb0
  case hgb0 => go_simp; with_reducible rfl
  try simp only [Act.put, List.setIfInBounds_toArray, List.set_cons_zero, List.set_cons_succ]
  refine region_take 1 11 (v := ?vgb1) rfl rfl (by kernel_rfl) (by kernel_rfl) (by kernel_rfl) (fun _ _ _ h => h) (by rfl) (fun w' hS => ?hgb1) ?rgb1
  case hgb1 => go_simp; with_reducible rfl
  try simp only [Act.put, List.setIfInBounds_toArray, List.set_cons_zero, List.set_cons_succ]
  refine region_take 2 12 (v := ?vgb2) rfl rfl (by kernel_rfl) (by kernel_rfl) (by kernel_rfl) (fun _ _ _ h => h) (by rfl) (fun w' hS => ?hgb2) ?rgb2
  case hgb2 => go_simp; with_reducible rfl
  try simp only [Act.put, List.setIfInBounds_toArray, List.set_cons_zero, List.set_cons_succ]
  refine region_take 3 13 (v := ?vgb3) rfl rfl (by kernel_rfl) (by kernel_rfl) (by kernel_rfl) (fun _ _ _ h => h) (by rfl) (fun w' hS => ?hgb3) ?rgb3
  case hgb3 => go_simp; with_reducible rfl
  try simp only [Act.put, List.setIfInBounds_toArray, List.set_cons_zero, List.set_cons_succ]
  refine region_take 5 15 (v := ?vgb5) rfl rfl (by kernel_rfl) (by kernel_rfl) (by kernel_rfl) (fun _ _ _ h => h) (by rfl) (fun w' hS => ?hgb5) ?rgb5
  case hgb5 => go_simp; with_reducible rfl
  try simp only [Act.put, List.setIfInBounds_toArray, List.set_cons_zero, List.set_cons_succ]
  refine region_take 6 16 (v := ?vgb6) rfl rfl (by kernel_rfl) (by kernel_rfl) (by kernel_rfl) (fun _ _ _ h => h) (by rfl) (fun w' hS => ?hgb6) ?rgb6
  case hgb6 => go_simp; with_reducible rfl
  try simp only [Act.put, List.setIfInBounds_toArray, List.set_cons_zero, List.set_cons_succ]
  refine region_take 7 17 (v := ?vgb7) rfl rfl (by kernel_rfl) (by kernel_rfl) (by kernel_rfl) (fun _ _ _ h => h) (by rfl) (fun w' hS => ?hgb7) ?rgb7
  case hgb7 => go_simp; with_reducible rfl
  try simp only [Act.put, List.setIfInBounds_toArray, List.set_cons_zero, List.set_cons_succ]
  refine region_take 8 18 (v := ?vgb8) rfl rfl (by kernel_rfl) (by kernel_rfl) (by kernel_rfl) (fun _ _ _ h => h) (by rfl) (fun w' hS => ?hgb8) ?rgb8
  case hgb8 => go_simp; with_reducible rfl
  try simp only [Act.put, List.setIfInBounds_toArray, List.set_cons_zero, List.set_cons_succ]
  refine wpAnyH_ready (rs := [4]) (by kernel_rfl) (by simp) (AllReadyH.cons rfl (fun K hK => ?_) AllReadyH.nil)
  go_simp
  refine (HOf.out _).mono ?_
  rintro e w2 ⟨rfl, hP2⟩
  refine hK.out _ _ (hP2) (fun hHeld => ?_)
  clear hK K hHeld
  refine region_now (hP2) ?_
  try simp only [Act.put, List.setIfInBounds_toArray, List.set_cons_zero, List.set_cons_succ]
  refine wpAnyH_ready (rs := [9]) (by kernel_rfl) (by simp) (AllReadyH.cons rfl (fun K hK => ?_) AllReadyH.nil)
  go_simp
  refine (HOf.out _).mono ?_
  rintro e w3 ⟨rfl, hP3⟩
  refine hK.out _ _ (hP3) (fun hHeld => ?_)
  clear hK K hHeld
  refine region_now (hP3) ?_
  try simp only [Act.put, List.setIfInBounds_toArray, List.set_cons_zero, List.set_cons_succ]
  refine region_take 10 6 (v := ?vgb10) rfl rfl (by kernel_rfl) (by kernel_rfl) (by kernel_rfl) (fun _ _ _ h => h) (by rfl) (fun w' hS => ?hgb10) ?rgb10
  case hgb10 => go_simp; with_reducible rfl
  try simp only [Act.put, List.setIfInBounds_toArray, List.set_cons_zero, List.set_cons_succ]
  refine region_take 11 7 (v := ?vgb11) rfl rfl (by kernel_rfl) (by kernel_rfl) (by kernel_rfl) (fun _ _ _ h => h) (by rfl) (fun w' hS => ?hgb11) ?rgb11
  case hgb11 => go_simp; with_reducible rfl
  try simp only [Act.put, List.setIfInBounds_toArray, List.set_cons_zero, List.set_cons_succ]
  refine wpAnyH_done (by kernel_rfl) ?_ _
  have hP : Pure w w3 := ((Ext.refl (fun _ => False) w).drew.pure hP2).pure hP3
  clear d0 d1 d2 k0 k1 k2 HOf hP2 hP3
  go_wp2_with fail
  go_loopw [6, 7, 9, 22] (fun a b _ i W => ∃ (k lo hi : Nat), k ≤ n ∧ i = .int .i64 k ∧ a = .int .i64 lo ∧ b = .int .i64 hi ∧ Hid (lo = (h.ls.take k).foldl min (h.ls.headD 0)) ∧ Hid (hi = (h.ls.take k).foldl max (h.ls.headD 0)) ∧ lo ≤ 2147483647 ∧ hi ≤ 2147483647 ∧ Pure w W) (fun _ _ _ i _ => n - (intOf i).toNat)
  case atStart => exact ⟨0, ln0, ln0, Nat.zero_le _, rfl, rfl, rfl, HH0, HH1, by omega, by omega, hP⟩
  case round =>
    obtain ⟨k, lo, hi, hk, rfl, rfl, rfl, HL, HI, hlo, hhi, hPr⟩ := hrel
    clear hP
    by_cases hlt : k < n
    · have hki : (k : Int) < (n : Int) := by omega
      obtain ⟨b, o, on, ln, sa, sc, xs, had, p0, p1, p2, hsub, e0, e1, e2, bo, bl, bs, bx0, bx1, bx2⟩ := HPg.out wr hPr k hlt
      cases had
      obtain ⟨xn, hxn⟩ : ∃ z, z = xs.length := ⟨_, rfl⟩
      rw [← hxn] at p2 bx0 bx1
      have HL2 : Hid (min lo ln = (h.ls.take (k + 1)).foldl min (h.ls.headD 0)) := Lib.hid (by rw [fold_take_succ min _ _ k ln e1, HL.out])
      have HI2 : Hid (max hi ln = (h.ls.take (k + 1)).foldl max (h.ls.headD 0)) := Lib.hid (by rw [fold_take_succ max _ _ k ln e1, HI.out])
      have hTB := BlockIs.new wr [.int .i64 on, .int .i64 ln, .slice sa xn sc] 51
      have hPw := hPr.pure (ext_alloc wr (.cells #[.int .i64 on, .int .i64 ln, .slice sa xn sc] 51))
      have HOf := Lib.hid (fun W => length_any (on : Int) (ln : Int) sa xn sc W)
      unfold pageV at HOf
      clear hsub e0 e1 e2 bs hxn
      go_wp2_with fail
      obtain ⟨tb, htb⟩ : ∃ tb, tb = wr.heap.size := ⟨_, rfl⟩
      rw [← htb]
      rw [← htb] at hTB
      clear htb p0 p1 p2
      generalize wr.alloc (.cells #[.int .i64 on, .int .i64 ln, .slice sa xn sc] 51) = w5 at *
      have d0 : w5.drew.cell? ⟨tb, 0, none⟩ = some (.int .i64 on) := hTB.cell 0
      have d1 : w5.drew.cell? ⟨tb, 0 + 1, none⟩ = some (.int .i64 ln) := hTB.cell 1
      have d2 : w5.drew.cell? ⟨tb, 0 + 2, none⟩ = some (.slice sa xn sc) := hTB.cell 2
      have k0 := fun w' (hS : Ext (fun _ => False) w5.drew w') => hS.cell_some d0 id
      have k1 := fun w' (hS : Ext (fun _ => False) w5.drew w') => hS.cell_some d1 id
      have k2 := fun w' (hS : Ext (fun _ => False) w5.drew w') => hS.cell_some d2 id
      refine region_start (fun _ => False) (by kernel_rfl) ?_
      try simp only [Act.put, List.setIfInBounds_toArray, List.set_cons_zero, List.set_cons_succ]
      refine region_take 0 26 (v := ?vhb0) rfl rfl (by kernel_rfl) (by kernel_rfl) (by kernel_rfl) (fun _ _ _ h => h) (by rfl) (fun w' hS => ?hhb0) ?rhb0
      case hhb0 => go_simp; with_reducible rfl
      try simp only [Act.put, List.setIfInBounds_toArray, List.set_cons_zero, List.set_cons_succ]
      refine region_take 1 27 (v := ?vhb1) rfl rfl (by kernel_rfl) (by kernel_rfl) (by kernel_rfl) (fun _ _ _ h => h) (by rfl) (fun w' hS => ?hhb1) ?rhb1
      case hhb1 => go_simp; with_reducible rfl
      try simp only [Act.put, List.setIfInBounds_toArray, List.set_cons_zero, List.set_cons_succ]
      refine region_take 2 28 (v := ?vhb2) rfl rfl (by kernel_rfl) (by kernel_rfl) (by kernel_rfl) (fun _ _ _ h => h) (by rfl) (fun w' hS => ?hhb2) ?rhb2
      case hhb2 => go_simp; with_reducible rfl
      try simp only [Act.put, List.setIfInBounds_toArray, List.set_cons_zero, List.set_cons_succ]
      refine region_take 5 31 (v := ?vhb5) rfl rfl (by kernel_rfl) (by kernel_rfl) (by kernel_rfl) (fun _ _ _ h => h) (by rfl) (fun w' hS => ?hhb5) ?rhb5
      case hhb5 => go_simp; with_reducible rfl
      try simp only [Act.put, List.setIfInBounds_toArray, List.set_cons_zero, List.set_cons_succ]
      refine region_take 6 32 (v := ?vhb6) rfl rfl (by kernel_rfl) (by kernel_rfl) (by kernel_rfl) (fun _ _ _ h => h) (by rfl) (fun w' hS => ?hhb6) ?rhb6
      case hhb6 => go_simp; with_reducible rfl
      try simp only [Act.put, List.setIfInBounds_toArray, List.set_cons_zero, List.set_cons_succ]
      refine region_take 7 33 (v := ?vhb7) rfl rfl (by kernel_rfl) (by kernel_rfl) (by kernel_rfl) (fun _ _ _ h => h) (by rfl) (fun w' hS => ?hhb7) ?rhb7
      case hhb7 => go_simp; with_reducible rfl
      try simp only [Act.put, List.setIfInBounds_toArray, List.set_cons_zero, List.set_cons_succ]
      refine wpAnyH_ready (rs := [3]) (by kernel_rfl) (by simp) (AllReadyH.cons rfl (fun K hK => ?_) AllReadyH.nil)
      go_simp
      refine (HOf.out _).mono ?_
      rintro e w6 ⟨rfl, hP6⟩
      refine hK.out _ _ (hP6) (fun hHeld => ?_)
      clear hK K hHeld
      refine region_now (hP6) ?_
      try simp only [Act.put, List.setIfInBounds_toArray, List.set_cons_zero, List.set_cons_succ]
      refine region_take 4 30 (v := ?vhb4) rfl rfl (by kernel_rfl) (by kernel_rfl) (by kernel_rfl) (fun _ _ _ h => h) (by rfl) (fun w' hS => ?hhb4) ?rhb4
      case hhb4 => go_simp; with_reducible rfl
      try simp only [Act.put, List.setIfInBounds_toArray, List.set_cons_zero, List.set_cons_succ]
      refine wpAnyH_ready (rs := [8]) (by kernel_rfl) (by simp) (AllReadyH.cons rfl (fun K hK => ?_) AllReadyH.nil)
      go_simp
      refine (HOf.out _).mono ?_
      rintro e w7 ⟨rfl, hP7⟩
      refine hK.out _ _ (hP7) (fun hHeld => ?_)
      clear hK K hHeld
      refine region_now (hP7) ?_
      try simp only [Act.put, List.setIfInBounds_toArray, List.set_cons_zero, List.set_cons_succ]
      refine region_take 9 35 (v := ?vhb9) rfl rfl (by kernel_rfl) (by kernel_rfl) (by kernel_rfl) (fun _ _ _ h => h) (by rfl) (fun w' hS => ?hhb9) ?rhb9
      case hhb9 => go_simp; with_reducible rfl
      try simp only [Act.put, List.setIfInBounds_toArray, List.set_cons_zero, List.set_cons_succ]
      refine region_take 10 6 (v := ?vhb10) rfl rfl (by kernel_rfl) (by kernel_rfl) (by kernel_rfl) (fun _ _ _ h => h) (by rfl) (fun w' hS => ?hhb10) ?rhb10
      case hhb10 => go_simp; with_reducible rfl
      try simp only [Act.put, List.setIfInBounds_toArray, List.set_cons_zero, List.set_cons_succ]
      refine region_take 11 7 (v := ?vhb11) rfl rfl (by kernel_rfl) (by kernel_rfl) (by kernel_rfl) (fun _ _ _ h => h) (by rfl) (fun w' hS => ?hhb11) ?rhb11
      case hhb11 => go_simp; with_reducible rfl
      try simp only [Act.put, List.setIfInBounds_toArray, List.set_cons_zero, List.set_cons_succ]
      refine wpAnyH_done (by kernel_rfl) ?_ _
      have hP9 : Pure w w7 := (hPw.drew.pure hP6).pure hP7
      clear d0 d1 d2 k0 k1 k2 HOf hP6 hP7
      go_wp2_with fail
      go_roundw
      case rel => exact ⟨k + 1, min lo ln, max hi ln, by omega, by go_num, by congr 1; omega, by congr 1; omega, HL2, HI2, by omega, by omega, hP9⟩
      case measure => simp [intOf]; omega
    · have hki : ¬ (k : Int) < (n : Int) := by omega
      obtain rfl : n = k := by omega
      have hl : lo = LE := by rw [HL.out, List.take_of_length_le (by rw [HLEN.out]; omega), least_fold HNE.out, HLE.out]
      have hi' : hi = most h.ls := by rw [HI.out, List.take_of_length_le (by rw [HLEN.out]; omega), most_fold HNE.out]
      have hle : lo ≤ hi := by rw [hl, HLE.out, hi']; exact least_le_most HNE.out
      obtain ⟨dv, hdv⟩ : ∃ d, d = hi - lo := ⟨_, rfl⟩
      have hdi : (hi : Int) - (lo : Int) = (dv : Int) := by omega
      have hwid : wid dv = WI := by rw [HWI.out, hdv, hl, HLE.out, hi']; rfl
      have hud : IntKind.u32.wrap (dv : Int) = (dv : Int) := IntWalk.u32_in _ (by omega)
      have HW := Lib.hid (fun W => hwid ▸ width_any dv W (by omega))
      subst hl
      clear hi' hdv hwid HL HI HLE HWI
      go_wp2_with fail
      refine (HW.out _).mono ?_
      rintro e w9 ⟨rfl, hw9⟩
      obtain rfl := hw9.symm
      go_wp2_with fail
      go_ret2
      exact ⟨rfl, hPr⟩
end Go.Proofs.Ytomcdhljjmnahaa.P26
namespace Go.Proofs.Ytomcdhljjmnahaa.P26
set_option linter.unusedVariables false
set_option linter.unusedSimpArgs false
open Go.RowKit C26

/-- the widths of a head's numbers, and where each is -/
def szs : List Nat := [32, 32, 16, 32, 16, 32, 16, 32, 16, 16, 16, 16, 16]
def offs (k : Nat) : Nat := (szs.take k).sum
theorem szs_at (k : Nat) (h : k < 13) : ∃ s, szs[k]? = some s ∧ s ≤ 32 ∧ offs k + s ≤ 288 ∧ offs (k + 1) = offs k + s := by
  have h' : k = 0 ∨ k = 1 ∨ k = 2 ∨ k = 3 ∨ k = 4 ∨ k = 5 ∨ k = 6 ∨ k = 7 ∨ k = 8 ∨ k = 9 ∨ k = 10 ∨ k = 11 ∨ k = 12 := by omega
  rcases h' with rfl | rfl | rfl | rfl | rfl | rfl | rfl | rfl | rfl | rfl | rfl | rfl | rfl <;> exact ⟨_, rfl, by decide, by decide, by decide⟩
def hdv (bs : List Bool) (k : Nat) : List Nat := (List.range k).map (fun j => numAt bs (offs j) (szs.getD j 0))
theorem hdv_succ (bs : List Bool) (k s : Nat) (h : szs[k]? = some s) : hdv bs (k + 1) = hdv bs k ++ [numAt bs (offs k) s] := by
  simp [hdv, List.range_succ, List.getD_eq_getElem?_getD, h]
def DecRes (bs : List Bool) (n : Int) (w : World) (e : Ending) (w' : World) : Prop := ∃ (r : DRes) (ps : List PH) (oa : Option Addr) (oc : Nat), e = .returned (.tuple #[.int .i64 r.a, .slice oa ps.length oc, .int .i64 r.m, .int .i64 r.e]) ∧ DecTo bs n r ∧ ps.map (fun p => (p.o, p.l, p.sh)) = resV r ∧ Hints w' oa ps ∧ (ps.length ≤ 2048 ∧ ∀ p ∈ ps, ∀ g, p.sa = some g → w.heap.size ≤ g.block) ∧ Pure w w'
theorem decRes_err {bs : List Bool} {n : Int} {w w' : World} {E : Int} (h : DecTo bs n (dErr E)) (hP : Pure w w') : DecRes bs n w (.returned (.tuple #[.int .i64 0, .slice none 0 0, .int .i64 0, .int .i64 E])) w' :=
  ⟨dErr E, [], none, 0, rfl, h, rfl, ⟨row_nil _ _, (fun p hp => by cases hp), (fun p hp => by cases hp)⟩, ⟨Nat.zero_le _, fun p hp => by cases hp⟩, hP⟩
end Go.Proofs.Ytomcdhljjmnahaa.P26
namespace Go.Proofs.Ytomcdhljjmnahaa.P26
set_option linter.unusedVariables false
set_option linter.unusedSimpArgs false
open Go.RowKit C26

set_option maxHeartbeats 8000000 in
set_option maxRecDepth 100000 in
theorem decode_any (bd : Option Addr) (bc : Nat) (bl : List UInt8) (n : Int) (w : World) (hb : Bytes w bd bl) (hnil : bd = none → bc = 0) (hle : bl.length ≤ bc) (hl : bl.length ≤ 5000000) :
    Calls Try.prog 33 #[.slice bd bl.length bc, .int .i64 n] w (DecRes (bitsOf true bl) n w) := by
  have HWi := Lib.hid (within_any n 1 2048 w)
  obtain ⟨B, hB⟩ : ∃ B, B = inB n 1 2048 := ⟨_, rfl⟩
  rw [← hB] at HWi
  cases B with
  | false =>
    have HTo : Hid (DecTo (bitsOf true bl) n (dErr 2)) := Lib.hid (Or.inl ⟨hB.symm, rfl⟩)
    clear hB
    go_enter Try.func33, Try.ntmps33
    go_wp2_with fail
    refine HWi.out.mono ?_
    rintro e w1 ⟨rfl, hw1⟩
    obtain rfl := hw1.symm
    go_wp2_with fail
    refine bodyPost_ret (v := .tuple #[.int .i64 0, .slice none 0 0, .int .i64 0, .int .i64 2]) (by simp [results, Try.results33, go_sem]) rfl (decRes_err HTo.out (Ext.refl _ _))
  | true =>
    have HIn := Lib.hid hB.symm
    obtain ⟨hn1, hn2⟩ := inB_true.1 hB.symm
    obtain ⟨N, rfl⟩ : ∃ N : Nat, n = (N : Int) := ⟨n.toNat, by omega⟩
    have hN1 : 1 ≤ N := by omega
    have hN2 : N ≤ 2048 := by omega
    have HR := Lib.hid (read_any2 bd bc bl true w hb hnil hle (by omega))
    clear hB hb
    go_enter Try.func33, Try.ntmps33
    go_wp2_with fail
    refine HWi.out.mono ?_
    rintro e w1 ⟨rfl, hw1⟩
    obtain rfl := hw1.symm
    clear HWi
    go_wp2_with fail
    refine HR.out.mono ?_
    rintro e w2 ⟨rb, a, c, rfl, hRd, hE2, hrb1, hrb2, hfa, halt⟩
    clear HR
    obtain ⟨rr, hrr⟩ : ∃ rr, rr = w2.heap.size := ⟨_, rfl⟩
    obtain ⟨w3, hw3⟩ : ∃ z, z = w2.alloc (.cells #[.pointer (some ⟨rb, 0, none⟩), .int .i64 0] 106) := ⟨_, rfl⟩
    have hRS : RS w3 rr rb bl (0, 0) a c :=
      ⟨by rw [hw3, hrr]; exact BlockIs.new w2 _ _, hw3 ▸ hRd.ext (ext_alloc w2 _) id (fun _ _ => id), Nat.zero_le _, by omega, fun g hg e => by have := halt g hg; omega⟩
    have hP3 : Pure w w3 := hw3 ▸ hE2.pure (ext_alloc w2 _)
    have hz3 : rr < w3.heap.size := hRS.blk.lt
    have hwr : w.heap.size ≤ rr := by rw [hrr]; exact hE2.size
    have halt3 : ∀ g, a = some g → g.block < w3.heap.size := fun g hg => by have := halt g hg; omega
    have HH := Lib.hid (head_any rr rb bl a c w3 hRS (by omega) halt3)
    have HW3 := Lib.hid hw3
    have HRr := Lib.hid hrr
    clear hRS hw3 hrr hRd hE2 halt
    go_wp2_with fail
    rw [← HRr.out, ← HW3.out]
    refine HH.out.mono ?_
    rintro e w4 ⟨v1, v2, v3, v4, v5, v7, v9, v10, v11, v12, q, er, rfl, hS4, hX4, hD⟩
    have hP4 : Pure w w4 := hP3.trans hX4 (fun i hi e => by rcases e with e | e <;> omega)
    have HD := Lib.hid hD
    obtain ⟨hb, hhb⟩ : ∃ z, z = w4.heap.size := ⟨_, rfl⟩
    have hrb4 : rr < hb ∧ rb < hb := ⟨by rw [hhb]; exact hS4.blk.lt, by rw [hhb]; exact hS4.rd.blk.lt⟩
    have halt4 : ∀ g, a = some g → g.block < hb := fun g hg => by
      have h1 := halt3 g hg
      have h2 := hX4.size
      omega
    obtain ⟨w5z, hw5z⟩ : ∃ z, z = w4.alloc (.cells #[.int .i64 0, .int .i64 0, .int .i64 0, .int .i64 0, .int .i64 0, .int .i64 0, .int .i64 0, .int .i64 0, .int .i64 0, .int .i64 0] 108) := ⟨_, rfl⟩
    have hZ : BlockIs w5z hb [.int .i64 0, .int .i64 0, .int .i64 0, .int .i64 0, .int .i64 0, .int .i64 0, .int .i64 0, .int .i64 0, .int .i64 0, .int .i64 0] 108 := by rw [hw5z, hhb]; exact BlockIs.new w4 _ _
    have hP5z : Pure w4 w5z := hw5z ▸ ext_alloc w4 _
    obtain ⟨w5, hw5⟩ : ∃ z, z = w5z.setCells hb 0 [.int .i64 (v1 : Nat), .int .i64 (v2 : Nat), .int .i64 (v3 : Nat), .int .i64 (v4 : Nat), .int .i64 (v5 : Nat), .int .i64 (v7 : Nat), .int .i64 (v9 : Nat), .int .i64 (v10 : Nat), .int .i64 (v11 : Nat), .int .i64 (v12 : Nat)] := ⟨_, rfl⟩
    have hH5 : BlockIs w5 hb [.int .i64 (v1 : Nat), .int .i64 (v2 : Nat), .int .i64 (v3 : Nat), .int .i64 (v4 : Nat), .int .i64 (v5 : Nat), .int .i64 (v7 : Nat), .int .i64 (v9 : Nat), .int .i64 (v10 : Nat), .int .i64 (v11 : Nat), .int .i64 (v12 : Nat)] 108 := hw5 ▸ hZ.setAll [.int .i64 (v1 : Nat), .int .i64 (v2 : Nat), .int .i64 (v3 : Nat), .int .i64 (v4 : Nat), .int .i64 (v5 : Nat), .int .i64 (v7 : Nat), .int .i64 (v9 : Nat), .int .i64 (v10 : Nat), .int .i64 (v11 : Nat), .int .i64 (v12 : Nat)] rfl
    have hX5 : Ext (fun i => i = hb) w5z w5 := hw5 ▸ Ext.setCells (S := fun i => i = hb) [.int .i64 (v1 : Nat), .int .i64 (v2 : Nat), .int .i64 (v3 : Nat), .int .i64 (v4 : Nat), .int .i64 (v5 : Nat), .int .i64 (v7 : Nat), .int .i64 (v9 : Nat), .int .i64 (v10 : Nat), .int .i64 (v11 : Nat), .int .i64 (v12 : Nat)] 0 w5z (Ext.refl _ _) (fun _ => rfl)
    have hS5 := (hS4.pure hP5z).ext hX5 (fun e => by have e' : rr = hb := e; omega) (fun e => by have e' : rb = hb := e; omega) (fun g hg e => by have := halt4 g hg; have e' : g.block = hb := e; omega)
    have hP5 : Pure w w5 := (hP4.pure hP5z).trans hX5 (fun i hi e => by have e' : i = hb := e; omega)
    have hAll : (#[.int .i64 (v1 : Nat), .int .i64 (v2 : Nat), .int .i64 (v3 : Nat), .int .i64 (v4 : Nat), .int .i64 (v5 : Nat), .int .i64 (v7 : Nat), .int .i64 (v9 : Nat), .int .i64 (v10 : Nat), .int .i64 (v11 : Nat), .int .i64 (v12 : Nat)] : Array Value).all (fun v => v.oneCell') = true := all_oneCell_toArray (cs := [.int .i64 (v1 : Nat), .int .i64 (v2 : Nat), .int .i64 (v3 : Nat), .int .i64 (v4 : Nat), .int .i64 (v5 : Nat), .int .i64 (v7 : Nat), .int .i64 (v9 : Nat), .int .i64 (v10 : Nat), .int .i64 (v11 : Nat), .int .i64 (v12 : Nat)]) (by intro v hv; simp only [List.mem_cons, List.not_mem_nil, or_false] at hv; rcases hv with rfl | rfl | rfl | rfl | rfl | rfl | rfl | rfl | rfl | rfl <;> rfl)
    have hThere := hZ.there 10 rfl
    have HAll := Lib.hid hAll
    have HW5z := Lib.hid hw5z
    have HW5 := Lib.hid hw5
    have HHb := Lib.hid hhb
    have g5 : w5.cell? ⟨rr, 0 + 1, none⟩ = some (.int .i64 er) := hS5.blk.cell 1
    have hsz5 : hb < w5.heap.size := hH5.lt
    clear HH hS4 hX4 hP3 HW3 HRr hZ hw5 hw5z hhb hX5 hAll hD hP4 hP5z
    by_cases he : er = 0
    · subst he
      have hD0 : 288 ≤ (bitsOf true bl).length ∧ HeadOk (bitsOf true bl) ∧ q = 288 ∧ v1 = h0 (bitsOf true bl) ∧ v2 = h1 (bitsOf true bl) ∧ v3 = h2 (bitsOf true bl) ∧ v4 = h3 (bitsOf true bl) ∧ v5 = h4 (bitsOf true bl) ∧ v7 = h6 (bitsOf true bl) ∧ v9 = h8 (bitsOf true bl) ∧ v10 = h9 (bitsOf true bl) ∧ v11 = h10 (bitsOf true bl) ∧ v12 = h11 (bitsOf true bl) := by
        rcases HD.out with ⟨_, h2⟩ | ⟨h1, ⟨_, h3⟩ | ⟨h2, _, h4⟩⟩
        · cases h2
        · cases h3
        · exact ⟨h1, h2, h4⟩
      obtain ⟨d1, d2, rfl, e1, e2, e3, e4, e5, e7, e9, e10, e11, e12⟩ := hD0
      have hPg := pages_any rr rb bl a c N w5 hS5 d2 hN1 hN2 hl (fun g hg => by have := halt4 g hg; omega)
      have eV : (headV (bitsOf true bl)).toArray = #[.int .i64 (v1 : Nat), .int .i64 (v2 : Nat), .int .i64 (v3 : Nat), .int .i64 (v4 : Nat), .int .i64 (v5 : Nat), .int .i64 (v7 : Nat), .int .i64 (v9 : Nat), .int .i64 (v10 : Nat), .int .i64 (v11 : Nat), .int .i64 (v12 : Nat)] := by rw [e1, e2, e3, e4, e5, e7, e9, e10, e11, e12]; rfl
      rw [eV] at hPg
      have HPg := Lib.hid hPg
      have HE2 := Lib.hid e2
      have HDk := Lib.hid (And.intro d1 d2)
      have hR5 := hH5.range
      have hlo : ∀ i, i < w.heap.size → RdS rr rb i → False := fun i hi e => by rcases e with e | e <;> omega
      clear hPg eV e1 e2 e3 e4 e5 e7 e9 e10 e11 e12 d1 d2 HD
      go_wp2_with (first | (refine wpList_store_mid rfl 108 (.tmp 9) (.tmp 19) rfl hb 0 #[.int .i64 (v1 : Nat), .int .i64 (v2 : Nat), .int .i64 (v3 : Nat), .int .i64 (v4 : Nat), .int .i64 (v5 : Nat), .int .i64 (v7 : Nat), .int .i64 (v9 : Nat), .int .i64 (v10 : Nat), .int .i64 (v11 : Nat), .int .i64 (v12 : Nat)] (by rw [HHb.out]; rfl) rfl (by rw [← HW5z.out]; exact hThere) (by kernel_rfl) HAll.out ?_; rw [← HW5z.out, show w5z.setCells hb 0 (#[.int .i64 (v1 : Nat), .int .i64 (v2 : Nat), .int .i64 (v3 : Nat), .int .i64 (v4 : Nat), .int .i64 (v5 : Nat), .int .i64 (v7 : Nat), .int .i64 (v9 : Nat), .int .i64 (v10 : Nat), .int .i64 (v11 : Nat), .int .i64 (v12 : Nat)] : Array Value).toList = w5 from HW5.out.symm]) | (refine wpList_load_mid rfl 108 (.tmp 9) rfl hb 0 (by rw [HHb.out]; rfl) [.int .i64 (v1 : Nat), .int .i64 (v2 : Nat), .int .i64 (v3 : Nat), .int .i64 (v4 : Nat), .int .i64 (v5 : Nat), .int .i64 (v7 : Nat), .int .i64 (v9 : Nat), .int .i64 (v10 : Nat), .int .i64 (v11 : Nat), .int .i64 (v12 : Nat)] _ hR5 Try.underlying108 rfl (by kernel_rfl) ?_))
      rw [← HHb.out]
      refine HPg.out.mono ?_
      rintro e w6 ⟨oa, len, oc, q', er, rfl, hS6, hX6, hR⟩
      have hP6 : Pure w w6 := hP5.trans hX6 (fun i hi e => hlo i hi e)
      have hH6 := hH5.ext hX6 (fun e => by rcases e with e | e <;> omega)
      have g6 : w6.cell? ⟨rr, 0 + 1, none⟩ = some (.int .i64 er) := hS6.blk.cell 1
      have HR := Lib.hid hR
      have HSz5 : Hid (w.heap.size ≤ w5.heap.size) := Lib.hid hP5.size
      clear HPg hR hThere g5 hR5 hH5 hS5 hP5 hX6
      by_cases he : er = 0
      · subst he
        have hR0 : Rest1 (bitsOf true bl) N (good (bitsOf true bl) N) ∧ q' = q7 (bitsOf true bl) N ∧ len = N ∧ ∃ ps, Hints w6 oa ps ∧ (ps.length = N ∧ ∀ p ∈ ps, ∀ g, p.sa = some g → w5.heap.size ≤ g.block) ∧ ps.map (fun p => (p.o, p.l, p.sh)) = resV (good (bitsOf true bl) N) := by
          rcases HR.out with ⟨h1, _⟩ | ⟨_, h2⟩
          · exact absurd rfl h1
          · exact h2
        obtain ⟨r1, r2, rfl, ps, r3, r4, r5⟩ := hR0
        have HTo : Hid (DecTo (bitsOf true bl) (len : Int) (good (bitsOf true bl) len)) := Lib.hid (Or.inr ⟨HIn.out, Or.inr ⟨HDk.out.1, Or.inr ⟨HDk.out.2, r1⟩⟩⟩)
        have HQ := Lib.hid r2
        have HPs := Lib.hid (And.intro r3 (And.intro r4 r5))
        have c1 : w6.drew.cell? ⟨hb, 1, none⟩ = some (.int .i64 (v2 : Nat)) := hH6.cell 1
        have c2 : w6.drew.cell? ⟨rr, 0, none⟩ = some (.pointer (some ⟨rb, 0, none⟩)) := hS6.blk.cell 0
        have kc1 := fun w' (hS : Ext (fun _ => False) w6.drew w') => hS.cell_some c1 id
        have kc2 := fun w' (hS : Ext (fun _ => False) w6.drew w') => hS.cell_some c2 id
        have hm8 : ((q' : Nat) : Int).tdiv 8 = ((q' / 8 : Nat) : Int) := by rw [Int.tdiv_eq_ediv_of_nonneg (by omega)]; omega
        have hle8 : q' ≤ 80000000 := by have := hS6.le; simp only at this; omega
        have hw8 : IntKind.i64.wrap (((q' : Nat) : Int) / 8) = ((q' : Nat) : Int) / 8 := IntWalk.i64_in _ (by omega)
        clear r1 r2 r3 r4 r5 HR
        go_wp2_with fail
        refine region_start (fun _ => False) (by kernel_rfl) ?_
        try simp only [Act.put, List.setIfInBounds_toArray, List.set_cons_zero, List.set_cons_succ]
        refine region_take 0 38 (v := ?vdz0) rfl rfl (by kernel_rfl) (by kernel_rfl) (by kernel_rfl) (fun _ _ _ h => h) (by rfl) (fun w' hS => ?hdz0) ?rdz0
        case hdz0 => go_simp; with_reducible rfl
        try simp only [Act.put, List.setIfInBounds_toArray, List.set_cons_zero, List.set_cons_succ]
        refine region_take 1 39 (v := ?vdz1) rfl rfl (by kernel_rfl) (by kernel_rfl) (by kernel_rfl) (fun _ _ _ h => h) (by rfl) (fun w' hS => ?hdz1) ?rdz1
        case hdz1 => go_simp; with_reducible rfl
        try simp only [Act.put, List.setIfInBounds_toArray, List.set_cons_zero, List.set_cons_succ]
        refine region_take 2 40 (v := ?vdz2) rfl rfl (by kernel_rfl) (by kernel_rfl) (by kernel_rfl) (fun _ _ _ h => h) (by rfl) (fun w' hS => ?hdz2) ?rdz2
        case hdz2 => go_simp; with_reducible rfl
        try simp only [Act.put, List.setIfInBounds_toArray, List.set_cons_zero, List.set_cons_succ]
        refine region_take 3 41 (v := ?vdz3) rfl rfl (by kernel_rfl) (by kernel_rfl) (by kernel_rfl) (fun _ _ _ h => h) (by rfl) (fun w' hS => ?hdz3) ?rdz3
        case hdz3 => go_simp; with_reducible rfl
        try simp only [Act.put, List.setIfInBounds_toArray, List.set_cons_zero, List.set_cons_succ]
        refine region_take 4 42 (v := ?vdz4) rfl rfl (by kernel_rfl) (by kernel_rfl) (by kernel_rfl) (fun _ _ _ h => h) (by rfl) (fun w' hS => ?hdz4) ?rdz4
        case hdz4 => go_simp; with_reducible rfl
        try simp only [Act.put, List.setIfInBounds_toArray, List.set_cons_zero, List.set_cons_succ]
        refine region_take 5 43 (v := ?vdz5) rfl rfl (by kernel_rfl) (by kernel_rfl) (by kernel_rfl) (fun _ _ _ h => h) (by rfl) (fun w' hS => ?hdz5) ?rdz5
        case hdz5 => go_simp; with_reducible rfl
        try simp only [Act.put, List.setIfInBounds_toArray, List.set_cons_zero, List.set_cons_succ]
        refine region_take 6 44 (v := ?vdz6) rfl rfl (by kernel_rfl) (by kernel_rfl) (by kernel_rfl) (fun _ _ _ h => h) (by rfl) (fun w' hS => ?hdz6) ?rdz6
        case hdz6 => go_simp; with_reducible rfl
        try simp only [Act.put, List.setIfInBounds_toArray, List.set_cons_zero, List.set_cons_succ]
        refine wpAnyH_ready (rs := [7]) (by kernel_rfl) (by simp) (AllReadyH.cons rfl (fun K hK => ?_) AllReadyH.nil)
        go_simp
        refine (at_any rb true bl q' a c _ (hS6.rd.ext ((Ext.refl (fun _ => False) w6).drew) id (fun _ _ => id))).mono ?_
        rintro e w13 ⟨rfl, rfl⟩
        refine hK.out _ _ (Ext.refl _ _) (fun hHeld => ?_)
        clear hK K hHeld
        refine region_now (Ext.refl _ _) ?_
        try simp only [Act.put, List.setIfInBounds_toArray, List.set_cons_zero, List.set_cons_succ]
        refine region_take 8 46 (v := ?vdz8) rfl rfl (by kernel_rfl) (by kernel_rfl) (by kernel_rfl) (fun _ _ _ h => h) (by rfl) (fun w' hS => ?hdz8) ?rdz8
        case hdz8 => go_simp; with_reducible rfl
        try simp only [Act.put, List.setIfInBounds_toArray, List.set_cons_zero, List.set_cons_succ]
        refine region_take 9 4 (v := ?vdz9) rfl rfl (by kernel_rfl) (by kernel_rfl) (by kernel_rfl) (fun _ _ _ h => h) (by rfl) (fun w' hS => ?hdz9) ?rdz9
        case hdz9 => go_simp; with_reducible rfl
        try simp only [Act.put, List.setIfInBounds_toArray, List.set_cons_zero, List.set_cons_succ]
        refine region_take 10 5 (v := ?vdz10) rfl rfl (by kernel_rfl) (by kernel_rfl) (by kernel_rfl) (fun _ _ _ h => h) (by rfl) (fun w' hS => ?hdz10) ?rdz10
        case hdz10 => go_simp; with_reducible rfl
        try simp only [Act.put, List.setIfInBounds_toArray, List.set_cons_zero, List.set_cons_succ]
        refine region_take 11 6 (v := ?vdz11) rfl rfl (by kernel_rfl) (by kernel_rfl) (by kernel_rfl) (fun _ _ _ h => h) (by rfl) (fun w' hS => ?hdz11) ?rdz11
        case hdz11 => go_simp; with_reducible rfl
        try simp only [Act.put, List.setIfInBounds_toArray, List.set_cons_zero, List.set_cons_succ]
        refine region_take 12 7 (v := ?vdz12) rfl rfl (by kernel_rfl) (by kernel_rfl) (by kernel_rfl) (fun _ _ _ h => h) (by rfl) (fun w' hS => ?hdz12) ?rdz12
        case hdz12 => go_simp; with_reducible rfl
        try simp only [Act.put, List.setIfInBounds_toArray, List.set_cons_zero, List.set_cons_succ]
        refine wpAnyH_done (by kernel_rfl) ?_ _
        clear kc1 kc2 c1 c2
        go_wp2_with fail
        refine bodyPost_ret (v := .tuple #[.int .i64 (v2 : Nat), .slice oa len oc, .int .i64 ((q' / 8 : Nat) : Int), .int .i64 0]) (by simp [results, Try.results33, go_sem, hw8]) rfl ?_
        refine ⟨good (bitsOf true bl) len, ps, oa, oc, ?_, HTo.out, HPs.out.2.2, HPs.out.1.pure ((Ext.refl (fun _ => False) w6).drew), ⟨by rw [HPs.out.2.1.1]; omega, fun p hp g hg => by have h1 := HPs.out.2.1.2 p hp g hg; have h2 := HSz5.out; omega⟩, hP6.drew⟩
        rw [HPs.out.2.1.1, HE2.out, HQ.out]; rfl
      · have hne : (er != 0) = true := by simpa using he
        have HTo : Hid (DecTo (bitsOf true bl) (N : Int) (dErr er)) := Lib.hid (Or.inr ⟨HIn.out, Or.inr ⟨HDk.out.1, Or.inr ⟨HDk.out.2, by
          rcases HR.out with ⟨_, h⟩ | ⟨h, _⟩
          · exact h
          · exact absurd h he⟩⟩⟩)
        clear he HR
        go_wp2_with fail
        go_quiet (fail)
        go_wp2_with fail
        refine bodyPost_ret (v := .tuple #[.int .i64 0, .slice none 0 0, .int .i64 0, .int .i64 er]) (by simp [results, Try.results33, go_sem]) rfl (decRes_err HTo.out (hP6.drewN _))
    · have hne : (er == 0) = false := by simpa using he
      have hne2 : (er != 0) = true := by simpa using he
      have HTo : Hid (DecTo (bitsOf true bl) (N : Int) (dErr er)) := Lib.hid (Or.inr ⟨HIn.out, by
        rcases HD.out with ⟨h1, h2⟩ | ⟨h1, ⟨h2, h3⟩ | ⟨h2, h3, _⟩⟩
        · exact Or.inl ⟨h1, by rw [h2]⟩
        · exact Or.inr ⟨h1, Or.inl ⟨h2, by rw [h3]⟩⟩
        · exact absurd h3 he⟩)
      clear he
      go_wp2_with (refine wpList_store_mid rfl 108 (.tmp 9) (.tmp 19) rfl hb 0 #[.int .i64 (v1 : Nat), .int .i64 (v2 : Nat), .int .i64 (v3 : Nat), .int .i64 (v4 : Nat), .int .i64 (v5 : Nat), .int .i64 (v7 : Nat), .int .i64 (v9 : Nat), .int .i64 (v10 : Nat), .int .i64 (v11 : Nat), .int .i64 (v12 : Nat)] (by rw [HHb.out]; rfl) rfl (by rw [← HW5z.out]; exact hThere) (by kernel_rfl) HAll.out ?_; rw [← HW5z.out, show w5z.setCells hb 0 (#[.int .i64 (v1 : Nat), .int .i64 (v2 : Nat), .int .i64 (v3 : Nat), .int .i64 (v4 : Nat), .int .i64 (v5 : Nat), .int .i64 (v7 : Nat), .int .i64 (v9 : Nat), .int .i64 (v10 : Nat), .int .i64 (v11 : Nat), .int .i64 (v12 : Nat)] : Array Value).toList = w5 from HW5.out.symm])
      clear hThere
      go_quiet (fail)
      go_wp2_with fail
      refine bodyPost_ret (v := .tuple #[.int .i64 0, .slice none 0 0, .int .i64 0, .int .i64 er]) (by simp [results, Try.results33, go_sem]) rfl (decRes_err HTo.out (hP5.drewN _))
end Go.Proofs.Ytomcdhljjmnahaa.P26
namespace Go.Proofs.Ytomcdhljjmnahaa.P26
set_option linter.unusedVariables false
set_option linter.unusedSimpArgs false
open Go.RowKit C26

end Go.Proofs.Ytomcdhljjmnahaa.P26
namespace Go.Proofs.Ytomcdhljjmnahaa.P26
set_option linter.unusedVariables false
set_option linter.unusedSimpArgs false
open Go.RowKit C26

theorem drewN_two' (w : World) (q n : Nat) : (w.drewN q).drewN n = w.drewN (q + n) := by unfold World.drewN; simp [Nat.add_assoc]
end Go.Proofs.Ytomcdhljjmnahaa.P26
namespace Go.Proofs.Ytomcdhljjmnahaa.P26
set_option linter.unusedVariables false
set_option linter.unusedSimpArgs false
open Go.RowKit

theorem odd_at {p : PH} {j : Nat} (hj : j < p.sh.length) (h : p.sh[j] < 0 ∨ 4095 < p.sh[j]) : okP p = false :=
  okP_no (Or.inl (any_of_at odd p.sh j hj (by unfold odd; rw [inB_false.2 h]; rfl)))
theorem odd_none {x : Int} (h : ¬ x < 0) (h' : ¬ 4095 < x) : odd x = false := by unfold odd; rw [inB_true.2 ⟨by omega, by omega⟩]; rfl
end Go.Proofs.Ytomcdhljjmnahaa.P26
namespace Go.Proofs.Ytomcdhljjmnahaa.P26
set_option linter.unusedVariables false
set_option linter.unusedSimpArgs false
open Go.RowKit C26

def encB (a : Int) (ps : List PH) : List UInt8 := if chk a ps = 0 then pack true (tabB a.toNat (toN ps) rest0) else []
def EncTo (a : Int) (ps : List PH) (w : World) (e : Ending) (w' : World) : Prop := ∃ ra rc, e = .returned (.tuple #[.slice ra (encB a ps).length rc, .int .i64 (chk a ps)]) ∧ NewRow w w' ra rc (encB a ps)
theorem new_nil {w w' : World} (h : Pure w w') : NewRow w w' none 0 [] := ⟨row_nil _ _, h, fun _ => rfl, fun g hg => (by cases hg), fun g hg => (by cases hg), Nat.le_refl _, Nat.zero_le _⟩
theorem newrow_own {w w1 w' : World} {ra : Option Addr} {rc : Nat} {l : List UInt8} (hP : Pure w w1) (hO : w'.ownsRow w1.heap.size 5 1 (.slice ra l.length rc) l.length (l.map byV)) (hP' : Pure w1 w') : NewRow w w' ra rc l := by
  obtain ⟨_, _, hh, h1, h2, h3, h4⟩ := own_form hO
  cases hh
  exact ⟨own_row hO, hP.pure hP', h3, fun g hg => Nat.le_trans hP.size (h4 g hg).1, fun g hg => (h4 g hg).2.1, h1, h2⟩
end Go.Proofs.Ytomcdhljjmnahaa.P26
namespace Go.Proofs.Ytomcdhljjmnahaa.P26
set_option linter.unusedVariables false
set_option linter.unusedSimpArgs false
open Go.RowKit C26

set_option maxRecDepth 100000 in
theorem cmp_any (o l : Int) (sa : Option Addr) (n sc : Nat) (o' l' : Int) (sa' : Option Addr) (n' sc' : Nat) (b : Nat) (w : World) (hn : n ≤ 1000000) (hn' : n' ≤ 1000000) (hc : w.cell? ⟨b, 0, none⟩ = some (.func (.func 44) #[] #[])) :
    Calls Try.prog 48 #[pageV o l sa n sc, pageV o' l' sa' n' sc', .pointer (some ⟨b, 0, none⟩)] w (GotInt ((n : Int) - n') w) := by
  have hb : b < w.heap.size := World.block_lt_of_cell? w ⟨b, 0, none⟩ hc
  have HC1 := Lib.hid (fun W => count_any o l sa n sc W (by omega))
  have HC2 := Lib.hid (fun W => count_any o' l' sa' n' sc' W (by omega))
  unfold pageV at HC1 HC2 ⊢
  obtain ⟨w1, hw1⟩ : ∃ w1, w1 = (w.alloc (.cells #[.int .i64 o, .int .i64 l, .slice sa n sc] 51)).alloc (.cells #[.int .i64 o', .int .i64 l', .slice sa' n' sc'] 51) := ⟨_, rfl⟩
  have hB1 : BlockIs w1 w.heap.size [.int .i64 o, .int .i64 l, .slice sa n sc] 51 := hw1 ▸ (BlockIs.new w _ _).alloc _
  have hB2 : BlockIs w1 (w.heap.size + 1) [.int .i64 o', .int .i64 l', .slice sa' n' sc'] 51 := by
    have h := BlockIs.new (w.alloc (.cells #[.int .i64 o, .int .i64 l, .slice sa n sc] 51)) [.int .i64 o', .int .i64 l', .slice sa' n' sc'] 51
    rw [World.size_alloc] at h
    rw [hw1]; exact h
  have hP1 : Pure w w1 := hw1 ▸ (ext_alloc w _).alloc _
  have f0 : w1.drew.cell? ⟨b, 0, none⟩ = some (.func (.func 44) #[] #[]) := hP1.cell_some hc id
  have d0 : w1.drew.cell? ⟨w.heap.size, 0, none⟩ = some (.int .i64 o) := hB1.cell 0
  have d1 : w1.drew.cell? ⟨w.heap.size, 0 + 1, none⟩ = some (.int .i64 l) := hB1.cell 1
  have d2 : w1.drew.cell? ⟨w.heap.size, 0 + 2, none⟩ = some (.slice sa n sc) := hB1.cell 2
  have x0 : w1.drew.cell? ⟨w.heap.size + 1, 0, none⟩ = some (.int .i64 o') := hB2.cell 0
  have x1 : w1.drew.cell? ⟨w.heap.size + 1, 0 + 1, none⟩ = some (.int .i64 l') := hB2.cell 1
  have x2 : w1.drew.cell? ⟨w.heap.size + 1, 0 + 2, none⟩ = some (.slice sa' n' sc') := hB2.cell 2
  have g0 := fun w' (hS : Ext (fun _ => False) w1.drew w') => hS.cell_some f0 id
  have k0 := fun w' (hS : Ext (fun _ => False) w1.drew w') => hS.cell_some d0 id
  have k1 := fun w' (hS : Ext (fun _ => False) w1.drew w') => hS.cell_some d1 id
  have k2 := fun w' (hS : Ext (fun _ => False) w1.drew w') => hS.cell_some d2 id
  have l0 := fun w' (hS : Ext (fun _ => False) w1.drew w') => hS.cell_some x0 id
  have l1 := fun w' (hS : Ext (fun _ => False) w1.drew w') => hS.cell_some x1 id
  have l2 := fun w' (hS : Ext (fun _ => False) w1.drew w') => hS.cell_some x2 id
  have hsub : IntKind.i64.wrap ((n : Int) - n') = (n : Int) - n' := IntWalk.i64_in _ (by omega)
  clear hc
  go_enter Try.func48, Try.ntmps48
  go_wp2_with fail
  rw [← hw1]
  clear hw1
  refine region_start (fun _ => False) (by kernel_rfl) ?_
  try simp only [Act.put, List.setIfInBounds_toArray, List.set_cons_zero, List.set_cons_succ]
  refine region_take 0 6 (v := ?vca0) rfl rfl (by kernel_rfl) (by kernel_rfl) (by kernel_rfl) (fun _ _ _ h => h) (by rfl) (fun w' hS => ?hca0) ?rca0
  case hca0 => go_simp; with_reducible rfl
  try simp only [Act.put, List.setIfInBounds_toArray, List.set_cons_zero, List.set_cons_succ]
  refine region_take 1 7 (v := ?vca1) rfl rfl (by kernel_rfl) (by kernel_rfl) (by kernel_rfl) (fun _ _ _ h => h) (by rfl) (fun w' hS => ?hca1) ?rca1
  case hca1 => go_simp; with_reducible rfl
  try simp only [Act.put, List.setIfInBounds_toArray, List.set_cons_zero, List.set_cons_succ]
  refine region_take 3 9 (v := ?vca3) rfl rfl (by kernel_rfl) (by kernel_rfl) (by kernel_rfl) (fun _ _ _ h => h) (by rfl) (fun w' hS => ?hca3) ?rca3
  case hca3 => go_simp; with_reducible rfl
  try simp only [Act.put, List.setIfInBounds_toArray, List.set_cons_zero, List.set_cons_succ]
  refine region_take 4 10 (v := ?vca4) rfl rfl (by kernel_rfl) (by kernel_rfl) (by kernel_rfl) (fun _ _ _ h => h) (by rfl) (fun w' hS => ?hca4) ?rca4
  case hca4 => go_simp; with_reducible rfl
  try simp only [Act.put, List.setIfInBounds_toArray, List.set_cons_zero, List.set_cons_succ]
  refine wpAnyH_ready (rs := [2]) (by kernel_rfl) (by simp) (AllReadyH.cons rfl (fun K hK => ?_) AllReadyH.nil)
  go_simp
  refine (HC1.out _).mono ?_
  rintro e w2 ⟨rfl, hP2⟩
  refine hK.out _ _ (hP2) (fun hHeld => ?_)
  clear hK K hHeld
  refine region_now (hP2) ?_
  try simp only [Act.put, List.setIfInBounds_toArray, List.set_cons_zero, List.set_cons_succ]
  refine wpAnyH_ready (rs := [5]) (by kernel_rfl) (by simp) (AllReadyH.cons rfl (fun K hK => ?_) AllReadyH.nil)
  go_simp
  refine (HC2.out _).mono ?_
  rintro e w3 ⟨rfl, hP3⟩
  refine hK.out _ _ (hP3) (fun hHeld => ?_)
  clear hK K hHeld
  refine region_now (hP3) ?_
  try simp only [Act.put, List.setIfInBounds_toArray, List.set_cons_zero, List.set_cons_succ]
  refine region_take 6 12 (v := ?vca6) rfl rfl (by kernel_rfl) (by kernel_rfl) (by kernel_rfl) (fun _ _ _ h => h) (by rfl) (fun w' hS => ?hca6) ?rca6
  case hca6 => go_simp; with_reducible rfl
  try simp only [Act.put, List.setIfInBounds_toArray, List.set_cons_zero, List.set_cons_succ]
  refine region_take 7 5 (v := ?vca7) rfl rfl (by kernel_rfl) (by kernel_rfl) (by kernel_rfl) (fun _ _ _ h => h) (by rfl) (fun w' hS => ?hca7) ?rca7
  case hca7 => go_simp; with_reducible rfl
  try simp only [Act.put, List.setIfInBounds_toArray, List.set_cons_zero, List.set_cons_succ]
  refine wpAnyH_done (by kernel_rfl) ?_ _
  clear hsub
  go_wp2_with fail
  go_ret
  exact ⟨rfl, (hP1.drew.pure hP2).pure hP3⟩

def MaxTo (m : Nat) (w : World) (e : Ending) (w' : World) : Prop := ∃ (o l : Nat) (sa : Option Addr) (sc : Nat), e = .returned (pageV o l sa m sc) ∧ Pure w w'
set_option maxHeartbeats 2000000 in
set_option maxRecDepth 100000 in
theorem max_any (ad : Option Addr) (c n : Nat) (h : HN) (b : Nat) (w : World) (HPg : Hid (∀ W, Pure w W → ∀ k, k < n → PageAt W ad h k)) (hn1 : 1 ≤ n) (hn40 : n ≤ 40) (hlen : h.counts.length = n) (hc : w.cell? ⟨b, 0, none⟩ = some (.func (.func 44) #[] #[])) :
    Calls Try.prog 47 #[.slice ad n c, .func (.func 48) #[] #[.pointer (some ⟨b, 0, none⟩)]] w (MaxTo (mx h.counts) w) := by
  have HLEN := Lib.hid hlen
  obtain ⟨M, hM⟩ : ∃ z, z = mx h.counts := ⟨_, rfl⟩
  rw [← hM]
  have HM := Lib.hid hM
  obtain ⟨w0, hw0⟩ : ∃ w0, w0 = w.alloc (.cells #[.int .i64 0, .int .i64 0, .slice none 0 0] 51) := ⟨_, rfl⟩
  have hR0 : BlockIs w0 w.heap.size [.int .i64 0, .int .i64 0, .slice none 0 0] 51 := hw0 ▸ BlockIs.new w _ _
  have hP0 : Pure w w0 := hw0 ▸ ext_alloc w _
  obtain ⟨b0, o0, on0, ln0, sa0, sc0, xs0, had, p0, p1, p2, hsub0, e0, e1, e2, bo0, bl0, bs0, bx0, bx1, bx2⟩ := HPg.out w0 hP0 0 (by omega)
  subst had
  obtain ⟨xn0, hxn0⟩ : ∃ z, z = xs0.length := ⟨_, rfl⟩
  rw [← hxn0] at p2 bx0 bx1
  have HH0 : Hid (xn0 = mx (h.counts.take 1)) := Lib.hid (by rw [mx_at (counts_at e2), hxn0]; simp [mx])
  simp only [Nat.zero_mul, Nat.add_zero] at p0 p1 p2
  have hB0i : (0 : Int) < (n : Int) := by omega
  have hB0 : 0 < n := by omega
  have hlt1 : ¬ (n : Int) < 1 := by omega
  have hTB := BlockIs.new w0 [.int .i64 on0, .int .i64 ln0, .slice sa0 xn0 sc0] 51
  have hPw := hP0.pure (ext_alloc w0 (.cells #[.int .i64 on0, .int .i64 ln0, .slice sa0 xn0 sc0] 51))
  have hR1 := hR0.ext (ext_alloc w0 (.cells #[.int .i64 on0, .int .i64 ln0, .slice sa0 xn0 sc0] 51)) id
  have hlt0 := hR0.lt
  have hbl : b < w.heap.size := World.block_lt_of_cell? w ⟨b, 0, none⟩ hc
  have HCb := Lib.hid hc
  clear hsub0 e0 e1 e2 bs0 hxn0 hM hlen hR0 hc
  rw [hw0] at p0 p1 p2
  go_enter Try.func47, Try.ntmps47
  go_wp2_with fail
  clear p0 p1 p2
  rw [← hw0]
  have hz0 : w0.heap.size = w.heap.size + 1 := by rw [hw0, World.size_alloc]
  obtain ⟨mb, hmb⟩ : ∃ mb, mb = w.heap.size + 1 := ⟨_, rfl⟩
  rw [← hmb]
  rw [hz0, ← hmb] at hTB
  have hlt0 : w.heap.size < mb := by omega
  clear hmb hz0 hw0
  generalize w0.alloc (.cells #[.int .i64 on0, .int .i64 ln0, .slice sa0 xn0 sc0] 51) = w1 at *
  obtain ⟨wo, hwo⟩ : ∃ W : World, W = w1 := ⟨_, rfl⟩
  rw [← hwo] at hPw hR1
  go_loopw [6] (fun i W => ∃ (k on ln : Nat) (sa : Option Addr) (m sc : Nat), 1 ≤ k ∧ k ≤ n ∧ i = .int .i64 k ∧ Hid (m = mx (h.counts.take k)) ∧ m ≤ 3000 ∧ BlockIs W mb [.int .i64 on, .int .i64 ln, .slice sa m sc] 51 ∧ Ext (fun i => i = mb) wo W) (fun i _ => n - (intOf i).toNat)
  case atStart => exact ⟨1, on0, ln0, sa0, xn0, sc0, by omega, hn1, rfl, HH0, bx0, hTB, hwo ▸ Ext.refl _ _⟩
  case round =>
    obtain ⟨k, om, lm, sm, m, cm, hk1, hk, rfl, HMx, hm3, hMB, hE⟩ := hrel
    clear hTB hwo
    have hPr : Pure w wr := hPw.trans hE (fun i hi e => by have e' : i = mb := e; omega)
    have hRr := hR1.ext hE (fun e => by have e' : w.heap.size = mb := e; omega)
    by_cases hlt : k < n
    · have hki : (k : Int) < (n : Int) := by omega
      obtain ⟨b1, o1, on, ln, sa, sc, xs, had, p0, p1, p2, hsub, e0, e1, e2, bo, bl, bs, bx0', bx1', bx2'⟩ := HPg.out wr hPr k hlt
      cases had
      obtain ⟨xn, hxn⟩ : ∃ z, z = xs.length := ⟨_, rfl⟩
      rw [← hxn] at p2 bx0' bx1'
      have HMs : Hid (mx (h.counts.take (k + 1)) = max m xn) := Lib.hid (by rw [mx_at (counts_at e2), HMx.out, hxn])
      have d0 : wr.drew.cell? ⟨b0, o0 + k * 3, none⟩ = some (.int .i64 on) := p0
      have d1 : wr.drew.cell? ⟨b0, o0 + k * 3 + 1, none⟩ = some (.int .i64 ln) := p1
      have d2 : wr.drew.cell? ⟨b0, o0 + k * 3 + 2, none⟩ = some (.slice sa xn sc) := p2
      have x0 : wr.drew.cell? ⟨mb, 0, none⟩ = some (.int .i64 om) := hMB.cell 0
      have x1 : wr.drew.cell? ⟨mb, 0 + 1, none⟩ = some (.int .i64 lm) := hMB.cell 1
      have x2 : wr.drew.cell? ⟨mb, 0 + 2, none⟩ = some (.slice sm m cm) := hMB.cell 2
      have k0 := fun w' (hS : Ext (fun _ => False) wr.drew w') => hS.cell_some d0 id
      have k1 := fun w' (hS : Ext (fun _ => False) wr.drew w') => hS.cell_some d1 id
      have k2 := fun w' (hS : Ext (fun _ => False) wr.drew w') => hS.cell_some d2 id
      have l0 := fun w' (hS : Ext (fun _ => False) wr.drew w') => hS.cell_some x0 id
      have l1 := fun w' (hS : Ext (fun _ => False) wr.drew w') => hS.cell_some x1 id
      have l2 := fun w' (hS : Ext (fun _ => False) wr.drew w') => hS.cell_some x2 id
      have HCm := Lib.hid (fun W (hP : Pure w W) => cmp_any (on : Int) ln sa xn sc om lm sm m cm b W (by omega) (by omega) (hP.cell_some HCb.out id))
      unfold pageV at HCm
      clear hsub e0 e1 e2 bs hxn
      by_cases hgt : (0 : Int) < (xn : Int) - (m : Int)
      · have hmax : max m xn = xn := by omega
        go_wp2_with fail
        refine region_start (fun _ => False) (by kernel_rfl) ?_
        try simp only [Act.put, List.setIfInBounds_toArray, List.set_cons_zero, List.set_cons_succ]
        refine region_take 0 20 (v := ?vma0) rfl rfl (by kernel_rfl) (by kernel_rfl) (by kernel_rfl) (fun _ _ _ h => h) (by rfl) (fun w' hS => ?hma0) ?rma0
        case hma0 => go_simp; with_reducible rfl
        try simp only [Act.put, List.setIfInBounds_toArray, List.set_cons_zero, List.set_cons_succ]
        refine region_take 1 21 (v := ?vma1) rfl rfl (by kernel_rfl) (by kernel_rfl) (by kernel_rfl) (fun _ _ _ h => h) (by rfl) (fun w' hS => ?hma1) ?rma1
        case hma1 => go_simp; with_reducible rfl
        try simp only [Act.put, List.setIfInBounds_toArray, List.set_cons_zero, List.set_cons_succ]
        refine region_take 2 22 (v := ?vma2) rfl rfl (by kernel_rfl) (by kernel_rfl) (by kernel_rfl) (fun _ _ _ h => h) (by rfl) (fun w' hS => ?hma2) ?rma2
        case hma2 => go_simp; with_reducible rfl
        try simp only [Act.put, List.setIfInBounds_toArray, List.set_cons_zero, List.set_cons_succ]
        refine region_take 3 23 (v := ?vma3) rfl rfl (by kernel_rfl) (by kernel_rfl) (by kernel_rfl) (fun _ _ _ h => h) (by rfl) (fun w' hS => ?hma3) ?rma3
        case hma3 => go_simp; with_reducible rfl
        try simp only [Act.put, List.setIfInBounds_toArray, List.set_cons_zero, List.set_cons_succ]
        refine region_take 4 24 (v := ?vma4) rfl rfl (by kernel_rfl) (by kernel_rfl) (by kernel_rfl) (fun _ _ _ h => h) (by rfl) (fun w' hS => ?hma4) ?rma4
        case hma4 => go_simp; with_reducible rfl
        try simp only [Act.put, List.setIfInBounds_toArray, List.set_cons_zero, List.set_cons_succ]
        refine region_take 5 25 (v := ?vma5) rfl rfl (by kernel_rfl) (by kernel_rfl) (by kernel_rfl) (fun _ _ _ h => h) (by rfl) (fun w' hS => ?hma5) ?rma5
        case hma5 => go_simp; with_reducible rfl
        try simp only [Act.put, List.setIfInBounds_toArray, List.set_cons_zero, List.set_cons_succ]
        refine wpAnyH_ready (rs := [6]) (by kernel_rfl) (by simp) (AllReadyH.cons rfl (fun K hK => ?_) AllReadyH.nil)
        go_simp
        refine (HCm.out _ hPr.drew).mono ?_
        rintro e w3 ⟨rfl, hP3⟩
        refine hK.out _ _ (hP3) (fun hHeld => ?_)
        clear hK K hHeld
        refine region_now (hP3) ?_
        try simp only [Act.put, List.setIfInBounds_toArray, List.set_cons_zero, List.set_cons_succ]
        refine region_take 7 27 (v := ?vma7) rfl rfl (by kernel_rfl) (by kernel_rfl) (by kernel_rfl) (fun _ _ _ h => h) (by rfl) (fun w' hS => ?hma7) ?rma7
        case hma7 => go_simp; with_reducible rfl
        try simp only [Act.put, List.setIfInBounds_toArray, List.set_cons_zero, List.set_cons_succ]
        refine wpAnyH_done (by kernel_rfl) ?_ _
        have q0 : w3.cell? ⟨b0, o0 + k * 3, none⟩ = some (.int .i64 on) := k0 w3 hP3
        have q1 : w3.cell? ⟨b0, o0 + k * 3 + 1, none⟩ = some (.int .i64 ln) := k1 w3 hP3
        have q2 : w3.cell? ⟨b0, o0 + k * 3 + 2, none⟩ = some (.slice sa xn sc) := k2 w3 hP3
        have hMB3 := (hMB.drew).ext hP3 id
        have y0 : w3.cell? ⟨mb, 0, none⟩ = some (.int .i64 om) := hMB3.cell 0
        have y1 : w3.cell? ⟨mb, 0 + 1, none⟩ = some (.int .i64 lm) := hMB3.cell 1
        have y2 : w3.cell? ⟨mb, 0 + 2, none⟩ = some (.slice sm m cm) := hMB3.cell 2
        have z0 : w3.frozen? ⟨mb, 0, none⟩ = false := hMB3.free 0
        have z1 : w3.frozen? ⟨mb, 0 + 1, none⟩ = false := hMB3.free 1
        have z2 : w3.frozen? ⟨mb, 0 + 2, none⟩ = false := hMB3.free 2
        clear d0 d1 d2 x0 x1 x2 k0 k1 k2 l0 l1 l2 p0 p1 p2
        go_wp2_with fail
        have hMB4 := ((hMB3.set 0 (.int .i64 on)).set 1 (.int .i64 ln)).set 2 (.slice sa xn sc)
        have hX4 : Ext (fun i => i = mb) w3 _ := (((Ext.refl (fun i => i = mb) w3).setCell (p := ⟨mb, 0, none⟩) (fun _ => rfl) (.int .i64 on)).setCell (p := ⟨mb, 1, none⟩) (fun _ => rfl) (.int .i64 ln)).setCell (p := ⟨mb, 2, none⟩) (fun _ => rfl) (.slice sa xn sc)
        have hE4 : Ext (fun i => i = mb) wo _ := ((hE.drew).trans hP3 (fun _ _ e => e.elim)).trans hX4 (fun _ _ e => e)
        simp only [List.set_cons_zero, List.set_cons_succ] at hMB4
        go_roundw
        case rel => exact ⟨k + 1, on, ln, sa, xn, sc, by omega, by omega, by go_num, Lib.hid (by rw [HMs.out, hmax]), by omega, hMB4, hE4⟩
        case measure => simp [intOf]; omega
      · have hmax : max m xn = m := by omega
        go_wp2_with fail
        refine region_start (fun _ => False) (by kernel_rfl) ?_
        try simp only [Act.put, List.setIfInBounds_toArray, List.set_cons_zero, List.set_cons_succ]
        refine region_take 0 20 (v := ?vmb0) rfl rfl (by kernel_rfl) (by kernel_rfl) (by kernel_rfl) (fun _ _ _ h => h) (by rfl) (fun w' hS => ?hmb0) ?rmb0
        case hmb0 => go_simp; with_reducible rfl
        try simp only [Act.put, List.setIfInBounds_toArray, List.set_cons_zero, List.set_cons_succ]
        refine region_take 1 21 (v := ?vmb1) rfl rfl (by kernel_rfl) (by kernel_rfl) (by kernel_rfl) (fun _ _ _ h => h) (by rfl) (fun w' hS => ?hmb1) ?rmb1
        case hmb1 => go_simp; with_reducible rfl
        try simp only [Act.put, List.setIfInBounds_toArray, List.set_cons_zero, List.set_cons_succ]
        refine region_take 2 22 (v := ?vmb2) rfl rfl (by kernel_rfl) (by kernel_rfl) (by kernel_rfl) (fun _ _ _ h => h) (by rfl) (fun w' hS => ?hmb2) ?rmb2
        case hmb2 => go_simp; with_reducible rfl
        try simp only [Act.put, List.setIfInBounds_toArray, List.set_cons_zero, List.set_cons_succ]
        refine region_take 3 23 (v := ?vmb3) rfl rfl (by kernel_rfl) (by kernel_rfl) (by kernel_rfl) (fun _ _ _ h => h) (by rfl) (fun w' hS => ?hmb3) ?rmb3
        case hmb3 => go_simp; with_reducible rfl
        try simp only [Act.put, List.setIfInBounds_toArray, List.set_cons_zero, List.set_cons_succ]
        refine region_take 4 24 (v := ?vmb4) rfl rfl (by kernel_rfl) (by kernel_rfl) (by kernel_rfl) (fun _ _ _ h => h) (by rfl) (fun w' hS => ?hmb4) ?rmb4
        case hmb4 => go_simp; with_reducible rfl
        try simp only [Act.put, List.setIfInBounds_toArray, List.set_cons_zero, List.set_cons_succ]
        refine region_take 5 25 (v := ?vmb5) rfl rfl (by kernel_rfl) (by kernel_rfl) (by kernel_rfl) (fun _ _ _ h => h) (by rfl) (fun w' hS => ?hmb5) ?rmb5
        case hmb5 => go_simp; with_reducible rfl
        try simp only [Act.put, List.setIfInBounds_toArray, List.set_cons_zero, List.set_cons_succ]
        refine wpAnyH_ready (rs := [6]) (by kernel_rfl) (by simp) (AllReadyH.cons rfl (fun K hK => ?_) AllReadyH.nil)
        go_simp
        refine (HCm.out _ hPr.drew).mono ?_
        rintro e w3 ⟨rfl, hP3⟩
        refine hK.out _ _ (hP3) (fun hHeld => ?_)
        clear hK K hHeld
        refine region_now (hP3) ?_
        try simp only [Act.put, List.setIfInBounds_toArray, List.set_cons_zero, List.set_cons_succ]
        refine region_take 7 27 (v := ?vmb7) rfl rfl (by kernel_rfl) (by kernel_rfl) (by kernel_rfl) (fun _ _ _ h => h) (by rfl) (fun w' hS => ?hmb7) ?rmb7
        case hmb7 => go_simp; with_reducible rfl
        try simp only [Act.put, List.setIfInBounds_toArray, List.set_cons_zero, List.set_cons_succ]
        refine wpAnyH_done (by kernel_rfl) ?_ _
        clear d0 d1 d2 x0 x1 x2 k0 k1 k2 l0 l1 l2 p0 p1 p2
        go_wp2_with fail
        go_roundw
        case rel => exact ⟨k + 1, om, lm, sm, m, cm, by omega, by omega, by go_num, Lib.hid (by rw [HMs.out, hmax]), hm3, (hMB.drew).ext hP3 id, (hE.drew).trans hP3 (fun _ _ e => e.elim)⟩
        case measure => simp [intOf]; omega
    · have hki : ¬ (k : Int) < (n : Int) := by omega
      obtain rfl : n = k := by omega
      have hMm : m = M := by rw [HMx.out, HM.out, List.take_of_length_le (by rw [HLEN.out]; omega)]
      subst hMm
      have x0 : wr.cell? ⟨mb, 0, none⟩ = some (.int .i64 om) := hMB.cell 0
      have x1 : wr.cell? ⟨mb, 0 + 1, none⟩ = some (.int .i64 lm) := hMB.cell 1
      have x2 : wr.cell? ⟨mb, 0 + 2, none⟩ = some (.slice sm m cm) := hMB.cell 2
      have y0 : wr.cell? ⟨w.heap.size, 0, none⟩ = some (.int .i64 0) := hRr.cell 0
      have y1 : wr.cell? ⟨w.heap.size, 0 + 1, none⟩ = some (.int .i64 0) := hRr.cell 1
      have y2 : wr.cell? ⟨w.heap.size, 0 + 2, none⟩ = some (.slice none 0 0) := hRr.cell 2
      have z0 : wr.frozen? ⟨w.heap.size, 0, none⟩ = false := hRr.free 0
      have z1 : wr.frozen? ⟨w.heap.size, 0 + 1, none⟩ = false := hRr.free 1
      have z2 : wr.frozen? ⟨w.heap.size, 0 + 2, none⟩ = false := hRr.free 2
      go_wp2_with fail
      have hR9 := ((hRr.set 0 (.int .i64 om)).set 1 (.int .i64 lm)).set 2 (.slice sm m cm)
      have hX9 : Ext (fun i => i = w.heap.size) wr _ := (((Ext.refl (fun i => i = w.heap.size) wr).setCell (p := ⟨w.heap.size, 0, none⟩) (fun _ => rfl) (.int .i64 om)).setCell (p := ⟨w.heap.size, 1, none⟩) (fun _ => rfl) (.int .i64 lm)).setCell (p := ⟨w.heap.size, 2, none⟩) (fun _ => rfl) (.slice sm m cm)
      have hP9 : Pure w _ := hPr.trans hX9 (fun i hi e => by have e' : i = w.heap.size := e; omega)
      obtain ⟨wZ, hwZ⟩ : ∃ wZ, wZ = ((wr.setCell ⟨w.heap.size, 0, none⟩ (.int .i64 om)).setCell ⟨w.heap.size, 1, none⟩ (.int .i64 lm)).setCell ⟨w.heap.size, 2, none⟩ (.slice sm m cm) := ⟨_, rfl⟩
      rw [← hwZ] at hR9 hP9
      rw [← hwZ]
      clear hwZ hX9
      simp only [List.set_cons_zero, List.set_cons_succ] at hR9
      have t0 : wZ.cell? ⟨w.heap.size, 0, none⟩ = some (.int .i64 om) := hR9.cell 0
      have t1 : wZ.cell? ⟨w.heap.size, 1, none⟩ = some (.int .i64 lm) := hR9.cell 1
      have t2 : wZ.cell? ⟨w.heap.size, 2, none⟩ = some (.slice sm m cm) := hR9.cell 2
      refine bodyPost_ret (v := .agg #[.int .i64 om, .int .i64 lm, .slice sm m cm]) (by simp [results, Try.results47, go_sem, t0, t1, t2]) rfl ⟨om, lm, sm, cm, rfl, hP9⟩
end Go.Proofs.Ytomcdhljjmnahaa.P26
namespace Go.Proofs.Ytomcdhljjmnahaa.P26
set_option linter.unusedVariables false
set_option linter.unusedSimpArgs false
open Go.RowKit C26

/-- a writer has so many bits; behind a world only it, and what is new, may have been written -/
def WSt (w0 : World) (wb : Nat) (bs : List Bool) (W : World) : Prop := ∃ wa wc, WrIs W wb true bs wa wc ∧ Ext (fun i => i = wb) w0 W ∧ (∀ g, wa = some g → w0.heap.size ≤ g.block) ∧ wb < w0.heap.size
theorem WSt.ext {w0 W : World} {wb : Nat} {bs : List Bool} (h : WSt w0 wb bs W) : Ext (fun i => i = wb) w0 W := by obtain ⟨_, _, _, h, _⟩ := h; exact h
theorem WSt.later {w0 W W' : World} {wb : Nat} {bs : List Bool} (h : WSt w0 wb bs W) (hE : Pure W W') : WSt w0 wb bs W' := by
  obtain ⟨wa, wc, hW, hX, hf, hb⟩ := h
  exact ⟨wa, wc, hW.pure hE, hX.trans hE (fun _ _ e => e.elim), hf, hb⟩
def PutTo (w0 : World) (wb : Nat) (bs : List Bool) (e : Ending) (W' : World) : Prop := e = .returned (.int .i64 0) ∧ WSt w0 wb bs W'
def DoneTo (w0 : World) (wb : Nat) (bs : List Bool) (e : Ending) (W' : World) : Prop := e = .returned (.tuple #[]) ∧ WSt w0 wb bs W'
theorem wsput {w0 W : World} {wb : Nat} {bs : List Bool} (h : WSt w0 wb bs W) (x n : Nat) (hlen : bs.length ≤ 900000000) (hn : n ≤ 32) (hx : x < 4294967296) (hxn : x < 2 ^ n) :
    Calls Try.prog 52 #[.pointer (some ⟨wb, 0, none⟩), .int .u32 x, .int .i64 n] W (PutTo w0 wb (bs ++ bN x n)) := by
  obtain ⟨wa, wc, hW, hX, hf, hb⟩ := h
  refine (put_yes wb true bs wa wc x n W hW hlen hn hx hxn).mono ?_
  rintro e W' ⟨rfl, wa', wc', hW', hE, hf'⟩
  refine ⟨rfl, wa', wc', hW', hX.trans hE (fun i hi e => ?_), fun g hg => ?_, hb⟩
  · rcases e with e | ⟨g, hg, e⟩
    · exact e
    · have := hf g hg; omega
  · rcases hf' g hg with e | e
    · exact hf g e
    · exact Nat.le_trans hX.size e
theorem wsalign {w0 W : World} {wb : Nat} {bs : List Bool} (h : WSt w0 wb bs W) (hlen : bs.length ≤ 1000000000) :
    Calls Try.prog 60 #[.pointer (some ⟨wb, 0, none⟩)] W (DoneTo w0 wb (align bs)) := by
  obtain ⟨wa, wc, hW, hX, hf, hb⟩ := h
  refine (walign_any wb true bs wa wc W hW hlen).mono ?_
  rintro e W' ⟨rfl, hW', hE⟩
  exact ⟨rfl, wa, wc, hW', hX.trans hE (fun _ _ e => e), hf, hb⟩
def PutcTo (wb : Nat) (a : Option Addr) (bs : List Bool) (W : World) (e : Ending) (W' : World) : Prop := e = .returned (.tuple #[]) ∧ ∃ a' c', WrIs W' wb true bs a' c' ∧ Ext (WrS wb a) W W' ∧ (∀ g, a' = some g → a = some g ∨ W.heap.size ≤ g.block)
set_option maxHeartbeats 1000000 in
set_option maxRecDepth 100000 in
theorem putc_any (wb : Nat) (bs : List Bool) (a : Option Addr) (c : Nat) (W : World) (h : WrIs W wb true bs a c) (pc ab n cap wd : Nat) (xs : List Nat) (hn : xs.length = n) (hrow : RowOf W (some ⟨ab, 0, none⟩) (xs.map intV)) (hab : ¬ WrS wb a ab) (hcell : W.cell? ⟨pc, 0, none⟩ = some (.pointer (some ⟨wb, 0, none⟩))) (hpc : ¬ WrS wb a pc) (hlen : bs.length ≤ 100000000) (hw : wd ≤ 32) (hn8 : n ≤ 8) (hx : ∀ x ∈ xs, x < 4294967296 ∧ x < 2 ^ wd) :
    Calls Try.prog 51 #[.int .i64 wd, .slice (some ⟨ab, 0, none⟩) n cap, .pointer (some ⟨pc, 0, none⟩)] W (PutcTo wb a (bs ++ numsB xs wd) W) := by
  have HX := Lib.hid hx
  have HN := Lib.hid hn
  have hablt : 0 < n → ab < W.heap.size := fun hp => by
    obtain ⟨b, o, e, hc⟩ := hrow 0 (intV (xs[0]'(by omega))) (by rw [List.getElem?_map, List.getElem?_eq_getElem (by omega)]; rfl)
    cases e
    exact World.block_lt_of_cell? W _ hc
  have hpclt := World.block_lt_of_cell? W _ hcell
  clear hx hn
  go_enter Try.func51, Try.ntmps51
  go_wp2_with fail
  go_loopw [6, 9] (fun _ i W' => ∃ (k : Nat) (wa : Option Addr) (wc : Nat), k ≤ n ∧ i = .int .i64 k ∧ WrIs W' wb true (bs ++ numsB (xs.take k) wd) wa wc ∧ Ext (WrS wb a) W W' ∧ Hid (∀ g, wa = some g → a = some g ∨ W.heap.size ≤ g.block)) (fun _ i _ => n - (intOf i).toNat)
  case atStart => exact ⟨0, a, c, Nat.zero_le _, rfl, by simpa [numsB] using h, Ext.refl _ _, Lib.hid (fun g hg => Or.inl hg)⟩
  case round =>
    obtain ⟨k, wa, wc, hk, rfl, hW, hE, hf⟩ := hrel
    by_cases hlt : k < n
    · have hki : (k : Int) < (n : Int) := by omega
      have hkx : k < xs.length := by rw [HN.out]; exact hlt
      obtain ⟨x, hxx⟩ : ∃ x, x = xs[k] := ⟨_, rfl⟩
      obtain ⟨b, o, e, hc⟩ := hrow k (intV x) (by rw [List.getElem?_map, List.getElem?_eq_getElem hkx, hxx]; rfl)
      cases e
      have hc2 : wr.cell? ⟨ab, k, none⟩ = some (.int .i64 x) := hE.cell_some (by rw [Nat.zero_add] at hc; exact hc) hab
      have hp2 : wr.cell? ⟨pc, 0, none⟩ = some (.pointer (some ⟨wb, 0, none⟩)) := hE.cell_some hcell hpc
      have hx1 := HX.out x (hxx ▸ List.getElem_mem hkx)
      have hln : (bs ++ numsB (xs.take k) wd).length ≤ 100000256 := by
        rw [List.length_append, numsB_len, List.length_take]
        have : min k xs.length * wd ≤ 8 * 32 := Nat.mul_le_mul (by omega) hw
        omega
      have HS : Hid (bs ++ numsB (xs.take k) wd ++ bitsNum true x wd = bs ++ numsB (xs.take (k + 1)) wd) := Lib.hid (by rw [numsB_take_at (List.getElem?_eq_getElem hkx), hxx, List.append_assoc]; rfl)
      have HPut := Lib.hid (put_yes wb true _ wa wc x wd wr hW (by omega) hw hx1.1 hx1.2)
      have hu : IntKind.u32.wrap (x : Int) = (x : Int) := IntWalk.u32_in _ (by omega)
      have hx32 := hx1.1
      clear hc hkx hxx hx1 hln hW
      go_wp2_with fail
      refine HPut.out.mono ?_
      rintro e w5 ⟨rfl, wa5, wc5, hW5, hE5, hf5⟩
      rw [HS.out] at hW5
      obtain ⟨hX5, hF5⟩ := wrs_trans hE hf.out hE5 hf5
      clear HPut hE5 hf5 hc2 hp2
      go_wp2_with fail
      go_roundw
      case rel => exact ⟨k + 1, wa5, wc5, by omega, by go_num, hW5, hX5, Lib.hid hF5⟩
      case measure => simp [intOf]; omega
    · have hki : ¬ (k : Int) < (n : Int) := by omega
      obtain rfl : n = k := by omega
      rw [List.take_of_length_le (by rw [HN.out]; omega)] at hW
      go_wp2_with fail
      go_end0
      exact ⟨rfl, wa, wc, hW, hE, hf.out⟩
/-- the closure put, on a writer of the call's own -/
theorem wsputc {w0 W : World} {wb : Nat} {bs : List Bool} (h : WSt w0 wb bs W) (pc ab n cap wd : Nat) (xs : List Nat) (C : Array Value) (hC : C = (xs.map intV).toArray) (habq : W.heap.size = ab) (hn : xs.length = n) (hcell : w0.cell? ⟨pc, 0, none⟩ = some (.pointer (some ⟨wb, 0, none⟩))) (hpc : pc ≠ wb) (hlen : bs.length ≤ 100000000) (hw : wd ≤ 32) (hn8 : n ≤ 8) (hx : ∀ x ∈ xs, x < 4294967296 ∧ x < 2 ^ wd) :
    Calls Try.prog 51 #[.int .i64 wd, .slice (some ⟨ab, 0, none⟩) n cap, .pointer (some ⟨pc, 0, none⟩)] (W.alloc (.cells C 3)) (DoneTo w0 wb (bs ++ numsB xs wd)) := by
  obtain ⟨wa, wc, hW, hX, hf, hb⟩ := h
  have hpl := World.block_lt_of_cell? w0 _ hcell
  have hwl := hW.lt
  have hbl := hW.blk.lt
  refine (putc_any wb bs wa wc _ (hW.pure (ext_alloc W (.cells C 3))) pc ab n cap wd xs hn (row_at _ habq hC) ?_ (((hX.alloc _).cell_some hcell (fun e => hpc e))) ?_ hlen hw hn8 hx).mono ?_
  · rintro (e | ⟨g, hg, e⟩)
    · omega
    · have := hwl g hg; omega
  · rintro (e | ⟨g, hg, e⟩)
    · exact hpc e
    · have := hf g hg; simp only at hpl; omega
  · rintro e W' ⟨rfl, a', c', hW', hE, hf'⟩
    refine ⟨rfl, a', c', hW', (hX.alloc _).trans hE (fun i hi e => ?_), fun g hg => ?_, hb⟩
    · rcases e with e | ⟨g, hg, e⟩
      · exact e
      · have := hf g hg; omega
    · rcases hf' g hg with e | e
      · exact hf g e
      · exact Nat.le_trans (hX.alloc (.cells C 3)).size e
end Go.Proofs.Ytomcdhljjmnahaa.P26
namespace Go.Proofs.Ytomcdhljjmnahaa.P26
set_option linter.unusedVariables false
set_option linter.unusedSimpArgs false
open Go.RowKit C26

set_option maxHeartbeats 2000000 in
set_option maxRecDepth 100000 in
theorem row_obj (ad : Option Addr) (c n : Nat) (h : HN) (w0 W : World) (wb : Nat) (bs : List Bool) (HPg : Hid (∀ W, Ext (fun i => i = wb) w0 W → ∀ k, k < n → PageAt W ad h k)) (hn40 : n ≤ 40) (hlst : (HN.above h.os).length = n) (hS : WSt w0 wb bs W) (hlen : bs.length ≤ 1000000) (lob : Nat) (hos : ∀ x ∈ h.os, x ≤ 4096) (hlob : w0.cell? ⟨lob, 0, none⟩ = some (.int .i64 (least h.os : Nat))) (hne : lob ≠ wb) :
    Calls Try.prog 53 #[.pointer (some ⟨wb, 0, none⟩), .slice ad n c, .int .i64 (h.wa : Nat), .func (.func 54) #[] #[.pointer (some ⟨lob, 0, none⟩)]] W (DoneTo w0 wb (align (bs ++ numsB (HN.above h.os) (h.wa)))) := by
  obtain ⟨wv, hwv⟩ : ∃ z, z = h.wa := ⟨_, rfl⟩
  obtain ⟨LS, hls⟩ : ∃ z : List Nat, z = HN.above h.os := ⟨_, rfl⟩
  rw [← hwv, ← hls]
  rw [← hls] at hlst
  have hwl : wv ≤ 32 := by rw [hwv]; exact width_le (fun y hy => by have := hos y hy; omega)
  have HWV := Lib.hid hwv
  have HLS := Lib.hid hls
  have HLL := Lib.hid hlst
  clear hwv hls hlst
  obtain ⟨lo, hlo⟩ : ∃ z, z = least h.os := ⟨_, rfl⟩
  rw [← hlo] at hlob
  have HLO := Lib.hid hlo
  have HLOB := Lib.hid hlob
  clear hlo hlob
  go_enter Try.func53, Try.ntmps53
  go_wp2_with fail
  go_loopw [9, 12] (fun _ i W' => ∃ k : Nat, k ≤ n ∧ i = .int .i64 k ∧ WSt w0 wb (bs ++ numsB (LS.take k) wv) W') (fun _ i _ => n - (intOf i).toNat)
  case atStart => exact ⟨0, Nat.zero_le _, rfl, by simpa [numsB] using hS⟩
  case round =>
    obtain ⟨k, hk, rfl, hT⟩ := hrel
    clear hS
    have hlk2 : (bs ++ numsB (LS.take k) wv).length ≤ 1001280 := by
      rw [List.length_append, numsB_len, List.length_take]
      have : min k LS.length * wv ≤ 40 * 32 := Nat.mul_le_mul (by rw [HLL.out]; omega) hwl
      omega
    by_cases hlt : k < n
    · have hki : (k : Int) < (n : Int) := by omega
      obtain ⟨b, o, on, ln, sa, sc, xs, had, p0, p1, p2, hsub, e0, e1, e2, bo, bl, bs', bx0, bx1, bx2⟩ := HPg.out wr hT.ext k hlt
      subst had
      obtain ⟨xn, hxn⟩ : ∃ z, z = xs.length := ⟨_, rfl⟩
      rw [← hxn] at p2 bx0 bx1
      have hge : lo ≤ on := by rw [HLO.out]; exact least_le (mem_of_at e0)
      have hab : on - lo < 2 ^ wv := by rw [HLO.out, HWV.out]; exact above_lt (mem_of_at e0)
      obtain ⟨d, hdd⟩ : ∃ d, d = on - lo := ⟨_, rfl⟩
      have hd : LS[k]? = some d := by rw [HLS.out, hdd, HLO.out]; exact above_at e0
      have hdi : (on : Int) - (lo : Int) = (d : Int) := by omega
      have hd1 : d < 2 ^ wv := hdd ▸ hab
      have HOf0 := fun W (hP : Pure wr W) => above_obj_any (on : Int) (ln : Int) sa xn sc (lo : Int) lob W ((hT.ext.trans hP (fun _ _ e => e.elim)).cell_some HLOB.out hne) (by omega) (by omega) (by omega)
      rw [hdi] at HOf0
      unfold pageV at HOf0
      have hd2 : d ≤ 2147483647 := by omega
      clear hab hdi hdd
      have HOf := Lib.hid HOf0
      have HS2 : Hid (bs ++ numsB (LS.take k) wv ++ bN d wv = bs ++ numsB (LS.take (k + 1)) wv) := Lib.hid (by rw [numsB_take_at hd, List.append_assoc])
      have HPut := Lib.hid (fun W'' (hP : Pure wr W'') => wsput (hT.later hP) d wv (by omega) hwl (by omega) hd1)
      have hu : IntKind.u32.wrap (d : Int) = (d : Int) := IntWalk.u32_in _ (by omega)
      clear hd hd1 hT hsub e0 e1 e2 bs' hxn hlk2 HOf0
      go_wp2_with fail
      refine (HOf.out _ (ext_alloc wr _)).mono ?_
      rintro e w3 ⟨rfl, hP3⟩
      go_wp2_with fail
      refine (HPut.out _ ((ext_alloc wr _).pure hP3)).mono ?_
      rintro e w4 ⟨rfl, hT4⟩
      rw [HS2.out] at hT4
      clear HPut HOf
      go_wp2_with fail
      go_roundw
      case rel => exact ⟨k + 1, by omega, by go_num, hT4⟩
      case measure => simp [intOf]; omega
    · have hki : ¬ (k : Int) < (n : Int) := by omega
      obtain rfl : n = k := by omega
      have hf : bs ++ numsB (LS.take n) wv = bs ++ numsB LS wv := by rw [List.take_of_length_le (by rw [HLL.out]; omega)]
      rw [hf] at hT hlk2
      have HA := Lib.hid (wsalign hT (by omega))
      clear hf hT
      go_wp2_with fail
      refine HA.out.mono ?_
      rintro e w4 ⟨rfl, hT4⟩
      go_wp2_with fail
      go_end0
      exact ⟨rfl, hT4⟩
set_option maxHeartbeats 2000000 in
set_option maxRecDepth 100000 in
theorem row_len (ad : Option Addr) (c n : Nat) (h : HN) (w0 W : World) (wb : Nat) (bs : List Bool) (HPg : Hid (∀ W, Ext (fun i => i = wb) w0 W → ∀ k, k < n → PageAt W ad h k)) (hn40 : n ≤ 40) (hlst : (HN.above h.ls).length = n) (hS : WSt w0 wb bs W) (hlen : bs.length ≤ 1000000) (lob : Nat) (hos : ∀ x ∈ h.ls, x ≤ 2147483647) (hlob : w0.cell? ⟨lob, 0, none⟩ = some (.int .i64 (least h.ls : Nat))) (hne : lob ≠ wb) :
    Calls Try.prog 53 #[.pointer (some ⟨wb, 0, none⟩), .slice ad n c, .int .i64 (h.wb : Nat), .func (.func 55) #[] #[.pointer (some ⟨lob, 0, none⟩)]] W (DoneTo w0 wb (align (bs ++ numsB (HN.above h.ls) (h.wb)))) := by
  obtain ⟨wv, hwv⟩ : ∃ z, z = h.wb := ⟨_, rfl⟩
  obtain ⟨LS, hls⟩ : ∃ z : List Nat, z = HN.above h.ls := ⟨_, rfl⟩
  rw [← hwv, ← hls]
  rw [← hls] at hlst
  have hwl : wv ≤ 32 := by rw [hwv]; exact width_le (fun y hy => by have := hos y hy; omega)
  have HWV := Lib.hid hwv
  have HLS := Lib.hid hls
  have HLL := Lib.hid hlst
  clear hwv hls hlst
  obtain ⟨lo, hlo⟩ : ∃ z, z = least h.ls := ⟨_, rfl⟩
  rw [← hlo] at hlob
  have HLO := Lib.hid hlo
  have HLOB := Lib.hid hlob
  clear hlo hlob
  go_enter Try.func53, Try.ntmps53
  go_wp2_with fail
  go_loopw [9, 12] (fun _ i W' => ∃ k : Nat, k ≤ n ∧ i = .int .i64 k ∧ WSt w0 wb (bs ++ numsB (LS.take k) wv) W') (fun _ i _ => n - (intOf i).toNat)
  case atStart => exact ⟨0, Nat.zero_le _, rfl, by simpa [numsB] using hS⟩
  case round =>
    obtain ⟨k, hk, rfl, hT⟩ := hrel
    clear hS
    have hlk2 : (bs ++ numsB (LS.take k) wv).length ≤ 1001280 := by
      rw [List.length_append, numsB_len, List.length_take]
      have : min k LS.length * wv ≤ 40 * 32 := Nat.mul_le_mul (by rw [HLL.out]; omega) hwl
      omega
    by_cases hlt : k < n
    · have hki : (k : Int) < (n : Int) := by omega
      obtain ⟨b, o, on, ln, sa, sc, xs, had, p0, p1, p2, hsub, e0, e1, e2, bo, bl, bs', bx0, bx1, bx2⟩ := HPg.out wr hT.ext k hlt
      subst had
      obtain ⟨xn, hxn⟩ : ∃ z, z = xs.length := ⟨_, rfl⟩
      rw [← hxn] at p2 bx0 bx1
      have hge : lo ≤ ln := by rw [HLO.out]; exact least_le (mem_of_at e1)
      have hab : ln - lo < 2 ^ wv := by rw [HLO.out, HWV.out]; exact above_lt (mem_of_at e1)
      obtain ⟨d, hdd⟩ : ∃ d, d = ln - lo := ⟨_, rfl⟩
      have hd : LS[k]? = some d := by rw [HLS.out, hdd, HLO.out]; exact above_at e1
      have hdi : (ln : Int) - (lo : Int) = (d : Int) := by omega
      have hd1 : d < 2 ^ wv := hdd ▸ hab
      have HOf0 := fun W (hP : Pure wr W) => above_len_any (on : Int) (ln : Int) sa xn sc (lo : Int) lob W ((hT.ext.trans hP (fun _ _ e => e.elim)).cell_some HLOB.out hne) (by omega) (by omega) (by omega)
      rw [hdi] at HOf0
      unfold pageV at HOf0
      have hd2 : d ≤ 2147483647 := by omega
      clear hab hdi hdd
      have HOf := Lib.hid HOf0
      have HS2 : Hid (bs ++ numsB (LS.take k) wv ++ bN d wv = bs ++ numsB (LS.take (k + 1)) wv) := Lib.hid (by rw [numsB_take_at hd, List.append_assoc])
      have HPut := Lib.hid (fun W'' (hP : Pure wr W'') => wsput (hT.later hP) d wv (by omega) hwl (by omega) hd1)
      have hu : IntKind.u32.wrap (d : Int) = (d : Int) := IntWalk.u32_in _ (by omega)
      clear hd hd1 hT hsub e0 e1 e2 bs' hxn hlk2 HOf0
      go_wp2_with fail
      refine (HOf.out _ (ext_alloc wr _)).mono ?_
      rintro e w3 ⟨rfl, hP3⟩
      go_wp2_with fail
      refine (HPut.out _ ((ext_alloc wr _).pure hP3)).mono ?_
      rintro e w4 ⟨rfl, hT4⟩
      rw [HS2.out] at hT4
      clear HPut HOf
      go_wp2_with fail
      go_roundw
      case rel => exact ⟨k + 1, by omega, by go_num, hT4⟩
      case measure => simp [intOf]; omega
    · have hki : ¬ (k : Int) < (n : Int) := by omega
      obtain rfl : n = k := by omega
      have hf : bs ++ numsB (LS.take n) wv = bs ++ numsB LS wv := by rw [List.take_of_length_le (by rw [HLL.out]; omega)]
      rw [hf] at hT hlk2
      have HA := Lib.hid (wsalign hT (by omega))
      clear hf hT
      go_wp2_with fail
      refine HA.out.mono ?_
      rintro e w4 ⟨rfl, hT4⟩
      go_wp2_with fail
      go_end0
      exact ⟨rfl, hT4⟩
set_option maxHeartbeats 2000000 in
set_option maxRecDepth 100000 in
theorem row_cnt (ad : Option Addr) (c n : Nat) (h : HN) (w0 W : World) (wb : Nat) (bs : List Bool) (HPg : Hid (∀ W, Ext (fun i => i = wb) w0 W → ∀ k, k < n → PageAt W ad h k)) (hn40 : n ≤ 40) (hlst : (h.counts).length = n) (hS : WSt w0 wb bs W) (hlen : bs.length ≤ 1000000) (hos : ∀ x ∈ h.counts, x ≤ 3000) :
    Calls Try.prog 53 #[.pointer (some ⟨wb, 0, none⟩), .slice ad n c, .int .i64 (h.wc : Nat), .func (.func 44) #[] #[]] W (DoneTo w0 wb (align (bs ++ numsB (h.counts) (h.wc)))) := by
  obtain ⟨wv, hwv⟩ : ∃ z, z = h.wc := ⟨_, rfl⟩
  obtain ⟨LS, hls⟩ : ∃ z : List Nat, z = h.counts := ⟨_, rfl⟩
  rw [← hwv, ← hls]
  rw [← hls] at hlst
  have hwl : wv ≤ 32 := by rw [hwv]; exact wid_le.2 (mx_lt (by decide) (fun y hy => by have := hos y hy; omega))
  have HWV := Lib.hid hwv
  have HLS := Lib.hid hls
  have HLL := Lib.hid hlst
  clear hwv hls hlst
  skip
  go_enter Try.func53, Try.ntmps53
  go_wp2_with fail
  go_loopw [9, 12] (fun _ i W' => ∃ k : Nat, k ≤ n ∧ i = .int .i64 k ∧ WSt w0 wb (bs ++ numsB (LS.take k) wv) W') (fun _ i _ => n - (intOf i).toNat)
  case atStart => exact ⟨0, Nat.zero_le _, rfl, by simpa [numsB] using hS⟩
  case round =>
    obtain ⟨k, hk, rfl, hT⟩ := hrel
    clear hS
    have hlk2 : (bs ++ numsB (LS.take k) wv).length ≤ 1001280 := by
      rw [List.length_append, numsB_len, List.length_take]
      have : min k LS.length * wv ≤ 40 * 32 := Nat.mul_le_mul (by rw [HLL.out]; omega) hwl
      omega
    by_cases hlt : k < n
    · have hki : (k : Int) < (n : Int) := by omega
      obtain ⟨b, o, on, ln, sa, sc, xs, had, p0, p1, p2, hsub, e0, e1, e2, bo, bl, bs', bx0, bx1, bx2⟩ := HPg.out wr hT.ext k hlt
      subst had
      obtain ⟨xn, hxn⟩ : ∃ z, z = xs.length := ⟨_, rfl⟩
      rw [← hxn] at p2 bx0 bx1
      have hab : xn < 2 ^ wv := by rw [hxn, HWV.out]; exact Nat.lt_of_le_of_lt (le_mx (mem_of_at (counts_at e2))) (lt_wid _)
      obtain ⟨d, hdd⟩ : ∃ d, d = xn := ⟨_, rfl⟩
      have hd : LS[k]? = some d := by rw [HLS.out, hdd, hxn]; exact counts_at e2
      have hd1 : d < 2 ^ wv := hdd ▸ hab
      have HOf0 := fun W (hP : Pure wr W) => count_any (on : Int) (ln : Int) sa xn sc W (by omega)
      rw [← hdd] at HOf0 p2 bx0 bx1
      unfold pageV at HOf0
      clear hab hdd
      have HOf := Lib.hid HOf0
      have HS2 : Hid (bs ++ numsB (LS.take k) wv ++ bN d wv = bs ++ numsB (LS.take (k + 1)) wv) := Lib.hid (by rw [numsB_take_at hd, List.append_assoc])
      have HPut := Lib.hid (fun W'' (hP : Pure wr W'') => wsput (hT.later hP) d wv (by omega) hwl (by omega) hd1)
      have hu : IntKind.u32.wrap (d : Int) = (d : Int) := IntWalk.u32_in _ (by omega)
      clear hd hd1 hT hsub e0 e1 e2 bs' hxn hlk2 HOf0
      go_wp2_with fail
      refine (HOf.out _ (ext_alloc wr _)).mono ?_
      rintro e w3 ⟨rfl, hP3⟩
      go_wp2_with fail
      refine (HPut.out _ ((ext_alloc wr _).pure hP3)).mono ?_
      rintro e w4 ⟨rfl, hT4⟩
      rw [HS2.out] at hT4
      clear HPut HOf
      go_wp2_with fail
      go_roundw
      case rel => exact ⟨k + 1, by omega, by go_num, hT4⟩
      case measure => simp [intOf]; omega
    · have hki : ¬ (k : Int) < (n : Int) := by omega
      obtain rfl : n = k := by omega
      have hf : bs ++ numsB (LS.take n) wv = bs ++ numsB LS wv := by rw [List.take_of_length_le (by rw [HLL.out]; omega)]
      rw [hf] at hT hlk2
      have HA := Lib.hid (wsalign hT (by omega))
      clear hf hT
      go_wp2_with fail
      refine HA.out.mono ?_
      rintro e w4 ⟨rfl, hT4⟩
      go_wp2_with fail
      go_end0
      exact ⟨rfl, hT4⟩
end Go.Proofs.Ytomcdhljjmnahaa.P26
namespace Go.Proofs.Ytomcdhljjmnahaa.P26
set_option linter.unusedVariables false
set_option linter.unusedSimpArgs false
open Go.RowKit C26

set_option maxHeartbeats 2000000 in
set_option maxRecDepth 100000 in
theorem row_int (ad : Option Addr) (c n : Nat) (LS : List Nat) (w0 W : World) (wb : Nat) (bs : List Bool) (wv : Nat) (hRow : RowOf w0 ad (LS.map intV)) (had : ∀ g, ad = some g → g.block ≠ wb) (hn : n ≤ 65536) (hlst : LS.length = n) (hS : WSt w0 wb bs W) (hlen : bs.length ≤ 1000000) (hx : ∀ x ∈ LS, x ≤ 4095 ∧ x < 2 ^ wv) (hwl : wv ≤ 32) :
    Calls Try.prog 56 #[.pointer (some ⟨wb, 0, none⟩), .slice ad n c, .int .i64 wv, .func (.func 57) #[] #[]] W (DoneTo w0 wb (align (bs ++ numsB LS wv))) := by
  have HLL := Lib.hid hlst
  have HX := Lib.hid hx
  have HId := Lib.hid (fun (x : Int) W => id_any x W)
  clear hlst hx
  go_enter Try.func56, Try.ntmps56
  go_wp2_with fail
  go_loopw [9, 12] (fun _ i W' => ∃ k : Nat, k ≤ n ∧ i = .int .i64 k ∧ WSt w0 wb (bs ++ numsB (LS.take k) wv) W') (fun _ i _ => n - (intOf i).toNat)
  case atStart => exact ⟨0, Nat.zero_le _, rfl, by simpa [numsB] using hS⟩
  case round =>
    obtain ⟨k, hk, rfl, hT⟩ := hrel
    clear hS
    have hlk2 : (bs ++ numsB (LS.take k) wv).length ≤ 1000000 + 65536 * 32 := by
      rw [List.length_append, numsB_len, List.length_take]
      have : min k LS.length * wv ≤ 65536 * 32 := Nat.mul_le_mul (by rw [HLL.out]; omega) hwl
      omega
    by_cases hlt : k < n
    · have hki : (k : Int) < (n : Int) := by omega
      have hkx : k < LS.length := by rw [HLL.out]; exact hlt
      obtain ⟨d, hdd⟩ : ∃ d, d = LS[k] := ⟨_, rfl⟩
      obtain ⟨b, o, rfl, hc⟩ := (hRow.ext hT.ext (fun g hg e => had g hg e)) k (intV d) (by rw [List.getElem?_map, List.getElem?_eq_getElem hkx, hdd]; rfl)
      have hc2 : wr.cell? ⟨b, o + k, none⟩ = some (.int .i64 d) := hc
      have hd : LS[k]? = some d := by rw [List.getElem?_eq_getElem hkx, hdd]
      have hd1 := HX.out d (hdd ▸ List.getElem_mem hkx)
      have hd2 : d ≤ 4095 := hd1.1
      have HS2 : Hid (bs ++ numsB (LS.take k) wv ++ bN d wv = bs ++ numsB (LS.take (k + 1)) wv) := Lib.hid (by rw [numsB_take_at hd, List.append_assoc])
      have HPut := Lib.hid (fun W'' (hP : Pure wr W'') => wsput (hT.later hP) d wv (by omega) (by omega) (by omega) hd1.2)
      have hu : IntKind.u32.wrap (d : Int) = (d : Int) := IntWalk.u32_in _ (by omega)
      clear hd hd1 hT hc hkx hdd hlk2
      go_wp2_with fail
      refine (HId.out (d : Int) _).mono ?_
      rintro e w3 ⟨rfl, hP3⟩
      go_wp2_with fail
      refine (HPut.out _ hP3).mono ?_
      rintro e w4 ⟨rfl, hT4⟩
      rw [HS2.out] at hT4
      clear HPut
      go_wp2_with fail
      go_roundw
      case rel => exact ⟨k + 1, by omega, by go_num, hT4⟩
      case measure => simp [intOf]; omega
    · have hki : ¬ (k : Int) < (n : Int) := by omega
      obtain rfl : n = k := by omega
      have hf : bs ++ numsB (LS.take n) wv = bs ++ numsB LS wv := by rw [List.take_of_length_le (by rw [HLL.out]; omega)]
      rw [hf] at hT hlk2
      have HA := Lib.hid (wsalign hT (by omega))
      clear hf hT
      go_wp2_with fail
      refine HA.out.mono ?_
      rintro e w4 ⟨rfl, hT4⟩
      go_wp2_with fail
      go_end0
      exact ⟨rfl, hT4⟩
end Go.Proofs.Ytomcdhljjmnahaa.P26
namespace Go.Proofs.Ytomcdhljjmnahaa.P26
set_option linter.unusedVariables false
set_option linter.unusedSimpArgs false
open Go.RowKit C26

theorem run_store_func (P : Program) (w : World) (a : Addr) (m : Mode) (f : Fn) (xs ys : Array Value) : (store a (.func f xs ys) m).run P w = stored P w a (.func f xs ys) m := run_store P w a _ m rfl
attribute [local go_sem] run_store_func
theorem row_flat {W : World} {a : Option Addr} {xs : List Nat} (h : RowOf W a (xs.map intV)) : RowOf W a (xs.map intV) := h
set_option maxHeartbeats 8000000 in
set_option maxRecDepth 100000 in
theorem encode_yes (a : Nat) (ad : Option Addr) (c : Nat) (ps : List PH) (w : World) (hW : Hints w ad ps) (hm : Mod ps) (hz : chk a ps = 0) :
    Calls Try.prog 25 #[.int .i64 a, .slice ad ps.length c] w (EncTo a ps w) := by
  have hk := chk_ok hz hm
  have HC0 := check_any a ad c ps w hW hm
  unfold IntRes at HC0
  rw [hz] at HC0
  have HC := Lib.hid HC0
  have hB : encB a ps = pack true (tabB a (toN ps) rest0) := by unfold encB; rw [if_pos hz]; rfl
  have HB := Lib.hid hB
  have HZ := Lib.hid hz
  obtain ⟨h, hh⟩ : ∃ h, h = toN ps := ⟨_, rfl⟩
  obtain ⟨n, hn⟩ : ∃ n, n = ps.length := ⟨_, rfl⟩
  rw [← hh] at HB
  rw [← hn] at HC ⊢
  have hok : h.Ok := hh ▸ hk.ok
  have hnl : h.os.length = n := by rw [hh, hn, toN_os_len]
  have hn1 : 1 ≤ n := by have := hok.pos; omega
  have hn40 : n ≤ 40 := by have := hok.le; omega
  have hal : a ≤ 2147483647 := by have := hk.a; omega
  have hct : ∀ x ∈ h.counts, x ≤ 3000 := by
    intro x hx
    rw [hh] at hx
    unfold HN.counts toN at hx
    obtain ⟨row, hr, rfl⟩ := List.mem_map.1 hx
    obtain ⟨p, hp, rfl⟩ := List.mem_map.1 hr
    rw [List.length_map]; exact hm.numbers p hp
  have HPg := Lib.hid (fun W (hP : Pure w W) k (hk' : k < n) => page_at (hW.pure hP) hk.nat hm hh hn k hk')
  have HOK := Lib.hid hok
  have HNL := Lib.hid hnl
  have HCT := Lib.hid hct
  clear hW hm hk hok hnl hh hn HC0 hz hB hct
  go_enter Try.func25, Try.ntmps25
  go_wp2_with fail
  refine HC.out.mono ?_
  rintro e w1 ⟨rfl, hP1⟩
  clear HC
  go_wp2_with fail
  obtain ⟨fb, hfb⟩ : ∃ fb, fb = w1.heap.size := ⟨_, rfl⟩
  have hF := BlockIs.new w1 [.func (.func 44) #[] #[]] 84
  have hP2 := hP1.pure (ext_alloc w1 (.cells #[.func (.func 44) #[] #[]] 84))
  have hfb1 : w.heap.size ≤ fb := by rw [hfb]; exact hP1.size
  rw [← hfb]
  rw [← hfb] at hF
  clear hfb hP1
  generalize w1.alloc (.cells #[.func (.func 44) #[] #[]] 84) = w2 at *
  have hMany : h.all.length ≤ 65536 := HOK.out.many
  have HMany := Lib.hid hMany
  clear hMany
  obtain ⟨wo, hwo⟩ : ∃ W : World, W = w2 := ⟨_, rfl⟩
  go_loopw [10, 12, 29] (fun v _ i W => ∃ (k m : Nat) (oa : Option Addr) (oc : Nat), k ≤ n ∧ i = .int .i64 k ∧ v = .slice oa m oc ∧ Hid (m = (h.shs.take k).flatten.length) ∧ m ≤ 3000 * k ∧ W.ownsRow wo.heap.size 3 1 (.slice oa m oc) m ((h.shs.take k).flatten.map intV) ∧ Pure wo W) (fun _ _ i _ => n - (intOf i).toNat)
  case atStart => exact ⟨0, 0, none, 0, Nat.zero_le _, rfl, rfl, Lib.hid rfl, by omega, by rw [List.take_zero]; exact World.ownsRow_nil _ _ _ _, hwo ▸ Ext.refl _ _⟩
  case round =>
    obtain ⟨k, m, oa, oc, hk, rfl, rfl, HMl, hml, hO, hE⟩ := hrel
    have hP2' : Pure w wo := by rw [hwo]; exact hP2
    by_cases hlt : k < n
    · have hki : (k : Int) < (n : Int) := by omega
      obtain ⟨b, o, on, ln, sa, sc, xs, had, p0, p1, p2, hsub, e0, e1, e2, bo, bl, bs', bx0, bx1, bx2⟩ := HPg.out wr (hP2'.pure hE) k hlt
      subst had
      have HFl := Lib.hid (flat_take_succ e2)
      have hszB := hE.size
      have HSub := Lib.hid hsub
      obtain ⟨zs, hzs⟩ : ∃ zs, zs = (h.shs.take (k + 1)).flatten.map intV := ⟨_, rfl⟩
      have HZs := Lib.hid hzs
      clear hzs
      clear hsub e0 e1 e2 bs' hP2' hwo hP2 hF
      go_wp2_with (at_builtin; refine wpList_append_fresh rfl (.tmp 33) (.tmp 35) 23 rfl wo.heap.size 3 (.int .i64 0) 1 8 Try.underlying23 infoInt rfl (by decide) (.slice oa m oc) m ((h.shs.take k).flatten.map intV) rfl (hO.alloc _) sa xs.length sc (xs.map intV) rfl (fun e => ⟨by have := bx2 e; omega, bx2 e⟩) (by simp) (HSub.out.ext (ext_alloc wr _) (fun _ _ => id)) (intV_one _) (m + xs.length) rfl zs (by rw [HZs.out, HFl.out, List.map_append]) (by omega) (by unfold maxLen; omega) (by simp; omega) ?_)
      intro a2 c2 w3 hO3 hg3 hfr3
      have hE3 : Pure wo w3 := Ext.own (hE.alloc _) (hO.alloc _) hg3
      have HMl2 : Hid (m + xs.length = (h.shs.take (k + 1)).flatten.length) := Lib.hid (by rw [HFl.out, List.length_append, HMl.out])
      clear hE hO hg3 hfr3
      go_wp2_with fail
      go_roundw
      case rel => exact ⟨k + 1, m + xs.length, a2, c2, by omega, by go_num, rfl, HMl2, by omega, by rw [← HZs.out]; exact hO3, hE3⟩
      case measure => simp [intOf]; omega
    · have hki : ¬ (k : Int) < (n : Int) := by omega
      obtain rfl : n = k := by omega
      have hall : (h.shs.take n).flatten = h.all := by rw [List.take_of_length_le (by rw [HOK.out.lsh, HNL.out]; omega)]; rfl
      rw [hall] at HMl hO
      have hF3 := (hwo ▸ hF : BlockIs wo fb _ _).ext hE id
      have hP3 := hP2'.pure hE
      have hfbl := hF3.lt
      have hAll := own_row hO
      have hOa : ∀ g, oa = some g → g.block < wr.heap.size := by
        obtain ⟨_, _, hh, _, _, _, h4⟩ := own_form hO
        cases hh
        exact fun g hg => (h4 g hg).2.1
      have hc3 : wr.cell? ⟨fb, 0, none⟩ = some (.func (.func 44) #[] #[]) := hF3.cell 0
      have HPg3 := Lib.hid (fun W (hP : Pure wr W) k (hk' : k < n) => HPg.out W (hP3.pure hP) k hk')
      have HBo := Lib.hid (fun W (hP : Pure wr W) => bounds_obj ad c n h W (Lib.hid (fun W' hP' => HPg3.out W' (hP.pure hP'))) hn1 hn40 HNL.out)
      have HBl := Lib.hid (fun W (hP : Pure wr W) => bounds_len ad c n h W (Lib.hid (fun W' hP' => HPg3.out W' (hP.pure hP'))) hn1 hn40 (by rw [HOK.out.ll]; exact HNL.out))
      have HMx := Lib.hid (fun W (hP : Pure wr W) => max_any ad c n h fb W (Lib.hid (fun W' hP' => HPg3.out W' (hP.pure hP'))) hn1 hn40 (by unfold HN.counts; rw [List.length_map, HOK.out.lsh]; exact HNL.out) (hP.cell_some hc3 id))
      have HC3 := Lib.hid hc3
      clear hwo hP2 hP2' hF hO hall hE hF3 hc3
      obtain ⟨lo, hlo⟩ : ∃ z, z = least h.os := ⟨_, rfl⟩
      obtain ⟨sh, hsh⟩ : ∃ z, z = least h.ls := ⟨_, rfl⟩
      obtain ⟨wa, hwa⟩ : ∃ z, z = width h.os := ⟨_, rfl⟩
      obtain ⟨wbb, hwbb⟩ : ∃ z, z = width h.ls := ⟨_, rfl⟩
      obtain ⟨ct, hct⟩ : ∃ z, z = mx h.counts := ⟨_, rfl⟩
      obtain ⟨wc, hwc⟩ : ∃ z, z = h.wc := ⟨_, rfl⟩
      obtain ⟨wd, hwd⟩ : ∃ z, z = h.wd := ⟨_, rfl⟩
      rw [← hlo, ← hwa] at HBo
      rw [← hsh, ← hwbb] at HBl
      rw [← hct] at HMx
      have hne1 : h.os ≠ [] := fun e => by have := HNL.out; rw [e] at this; simp at this; omega
      have hne2 : h.ls ≠ [] := fun e => by have := HNL.out; have h8 := HOK.out.ll; rw [e] at h8; simp at h8; omega
      have hlol : lo ≤ 4096 := by
        obtain ⟨x, hx⟩ := List.exists_mem_of_ne_nil _ hne1
        have := least_le hx; have := HOK.out.os x hx; omega
      have hshl : sh ≤ 2147483647 := by
        obtain ⟨x, hx⟩ := List.exists_mem_of_ne_nil _ hne2
        have := least_le hx; have := HOK.out.ls x hx; omega
      have hctl : ct ≤ 3000 := by
        rw [hct]; exact Nat.le_of_lt_succ (mx_lt (by decide) (fun y hy => by have := HCT.out y hy; omega))
      have hwal : wa ≤ 32 := by rw [hwa]; exact width_le (fun y hy => by have := HOK.out.os y hy; omega)
      have hwbl : wbb ≤ 32 := by rw [hwbb]; exact width_le (fun y hy => by have := HOK.out.ls y hy; omega)
      have hvc : wid ct = wc := by rw [hwc, hct]; rfl
      have hwcl : wc ≤ 32 := by rw [← hvc]; exact wid_le.2 (by omega)
      have hsdl : mx h.all ≤ 4095 := Nat.le_of_lt_succ (mx_lt (by decide) (fun y hy => by have := HOK.out.sh y hy; omega))
      have hwdl : wd ≤ 32 := by rw [hwd]; exact wid_le.2 (by omega)
      have HWC := Lib.hid (fun W => hvc ▸ width_any ct W (by omega))
      have huc : IntKind.u32.wrap (ct : Int) = (ct : Int) := IntWalk.u32_in _ (by omega)
      have HLO := Lib.hid hlo
      have HSH := Lib.hid hsh
      have HWa := Lib.hid hwa
      have HWb := Lib.hid hwbb
      have HWc := Lib.hid hwc
      have HWd := Lib.hid hwd
      have HSD := Lib.hid hsdl
      clear hlo hsh hwa hwbb hct hwc hwd hne1 hne2 hvc hsdl
      go_wp2_with fail
      refine (HBo.out wr (Ext.refl _ _)).mono ?_
      rintro e w4 ⟨rfl, hP4⟩
      have hL5 := BlockIs.new w4 [.int .i64 lo] 3
      have hP5 := hP4.pure (ext_alloc w4 (.cells #[.int .i64 lo] 3))
      have hz5 : fb < w4.heap.size := Nat.lt_of_lt_of_le hfbl hP4.size
      clear HBo hP4
      go_wp2_with fail
      obtain ⟨lb, hlb⟩ : ∃ z, z = w4.heap.size := ⟨_, rfl⟩
      rw [← hlb]
      rw [← hlb] at hL5 hz5
      clear hlb
      generalize w4.alloc (.cells #[.int .i64 lo] 3) = w5 at *
      refine (HBl.out w5 hP5).mono ?_
      rintro e w6 ⟨rfl, hP6⟩
      have hS7 := BlockIs.new w6 [.int .i64 sh] 3
      have hA7 := hP6.pure (ext_alloc w6 (.cells #[.int .i64 sh] 3))
      have hL7 := hL5.ext hA7 id
      have hP7 := hP5.pure hA7
      have hz7 : lb < w6.heap.size := Nat.lt_of_lt_of_le hL5.lt hP6.size
      clear HBl hP5 hP6 hL5 hA7
      go_wp2_with fail
      obtain ⟨sb, hsb⟩ : ∃ z, z = w6.heap.size := ⟨_, rfl⟩
      rw [← hsb]
      rw [← hsb] at hS7 hz7
      clear hsb
      generalize w6.alloc (.cells #[.int .i64 sh] 3) = w7 at *
      have hc7 : w7.drew.cell? ⟨fb, 0, none⟩ = some (.func (.func 44) #[] #[]) := hP7.cell_some HC3.out id
      have kf := fun w' (hS : Ext (fun _ => False) w7.drew w') => hS.cell_some hc7 id
      have HCt := Lib.hid (fun o l sa sc W => count_any o l sa ct sc W (by omega))
      unfold pageV at HCt
      refine region_start (fun _ => False) (by kernel_rfl) ?_
      try simp only [Act.put, List.setIfInBounds_toArray, List.set_cons_zero, List.set_cons_succ]
      refine region_take 0 50 (v := ?vea0) rfl rfl (by kernel_rfl) (by kernel_rfl) (by kernel_rfl) (fun _ _ _ h => h) (by rfl) (fun w' hS => ?hea0) ?rea0
      case hea0 => go_simp; with_reducible rfl
      try simp only [Act.put, List.setIfInBounds_toArray, List.set_cons_zero, List.set_cons_succ]
      refine region_take 1 51 (v := ?vea1) rfl rfl (by kernel_rfl) (by kernel_rfl) (by kernel_rfl) (fun _ _ _ h => h) (by rfl) (fun w' hS => ?hea1) ?rea1
      case hea1 => go_simp; with_reducible rfl
      try simp only [Act.put, List.setIfInBounds_toArray, List.set_cons_zero, List.set_cons_succ]
      refine wpAnyH_ready (rs := [2]) (by kernel_rfl) (by simp) (AllReadyH.cons rfl (fun K hK => ?_) AllReadyH.nil)
      go_simp
      refine hK.out _ _ (Ext.refl _ _) (fun hHeld => ?_)
      clear hK K hHeld
      refine region_now (Ext.refl _ _) ?_
      try simp only [Act.put, List.setIfInBounds_toArray, List.set_cons_zero, List.set_cons_succ]
      refine wpAnyH_ready (rs := [3]) (by kernel_rfl) (by simp) (AllReadyH.cons rfl (fun K hK => ?_) AllReadyH.nil)
      go_simp
      refine (HMx.out _ hP7.drew).mono ?_
      rintro e w8 ⟨om, lm, sm, cm, rfl, hP8⟩
      unfold pageV
      refine hK.out _ _ (hP8) (fun hHeld => ?_)
      clear hK K hHeld
      refine region_now (hP8) ?_
      try simp only [Act.put, List.setIfInBounds_toArray, List.set_cons_zero, List.set_cons_succ]
      refine wpAnyH_ready (rs := [4]) (by kernel_rfl) (by simp) (AllReadyH.cons rfl (fun K hK => ?_) AllReadyH.nil)
      go_simp
      refine (HCt.out om lm sm cm _).mono ?_
      rintro e w9 ⟨rfl, hP9⟩
      refine hK.out _ _ (hP9) (fun hHeld => ?_)
      clear hK K hHeld
      refine region_now (hP9) ?_
      try simp only [Act.put, List.setIfInBounds_toArray, List.set_cons_zero, List.set_cons_succ]
      refine region_take 5 55 (v := ?vea5) rfl rfl (by kernel_rfl) (by kernel_rfl) (by kernel_rfl) (fun _ _ _ h => h) (by rfl) (fun w' hS => ?hea5) ?rea5
      case hea5 => go_simp; with_reducible rfl
      try simp only [Act.put, List.setIfInBounds_toArray, List.set_cons_zero, List.set_cons_succ]
      refine wpAnyH_ready (rs := [6]) (by kernel_rfl) (by simp) (AllReadyH.cons rfl (fun K hK => ?_) AllReadyH.nil)
      go_simp
      refine (HWC.out _).mono ?_
      rintro e w10 ⟨rfl, hw10⟩
      obtain rfl := hw10.symm
      refine hK.out _ _ (Ext.refl _ _) (fun hHeld => ?_)
      clear hK K hHeld
      refine region_now (Ext.refl _ _) ?_
      try simp only [Act.put, List.setIfInBounds_toArray, List.set_cons_zero, List.set_cons_succ]
      refine region_take 7 17 (v := ?vea7) rfl rfl (by kernel_rfl) (by kernel_rfl) (by kernel_rfl) (fun _ _ _ h => h) (by rfl) (fun w' hS => ?hea7) ?rea7
      case hea7 => go_simp; with_reducible rfl
      try simp only [Act.put, List.setIfInBounds_toArray, List.set_cons_zero, List.set_cons_succ]
      refine wpAnyH_done (by kernel_rfl) ?_ _
      have hA9 : Pure w7 w9 := ((Ext.refl (fun _ => False) w7).drew.pure hP8).pure hP9
      have hL9 := hL7.ext hA9 id
      have hS9 := hS7.ext hA9 id
      have hP9' := hP7.pure hA9
      have hz9 := hA9.size
      clear kf hc7 HCt HMx HWC huc hP8 hP9 hA9 hL7 hS7 hP7
      have hAll9 := hAll.ext hP9' (fun _ _ => id)
      have HMx0 := fun (hne : h.all ≠ []) => maxN_any oa oc h.all w9 hAll9 hne (by have := HMany.out; omega)
      rw [← HMl.out] at HMx0
      obtain ⟨sd, hsd⟩ : ∃ z, z = mx h.all := ⟨_, rfl⟩
      rw [← hsd] at HMx0
      have hsdl : sd ≤ 4095 := by rw [hsd]; exact HSD.out
      have hvd : wid sd = wd := by rw [HWd.out, hsd]; rfl
      have HWD := Lib.hid (fun W => hvd ▸ width_any sd W (by omega))
      have hud : IntKind.u32.wrap (sd : Int) = (sd : Int) := IntWalk.u32_in _ (by omega)
      have HSd := Lib.hid hsd
      have HVd := Lib.hid hvd
      have HMx := Lib.hid HMx0
      clear hsd hvd HMx0
      go_upto_if 59 with (fail)
      go_cut [18] (fun x W => x = .int .i64 wd ∧ W = w9)
      case first =>
        by_cases hm0 : (0 : Int) < (m : Int)
        · have hne : h.all ≠ [] := fun e => by have := HMl.out; rw [e] at this; simp at this; omega
          have HMx2 := Lib.hid (HMx.out hne)
          clear hne
          go_wp2_with fail
          refine HMx2.out.mono ?_
          rintro e w10 ⟨rfl, hw10⟩
          obtain rfl := hw10.symm
          go_wp2_with fail
          refine (HWD.out _).mono ?_
          rintro e w10 ⟨rfl, hw10⟩
          obtain rfl := hw10.symm
          go_wp2_with fail
          go_meet
          exact ⟨rfl, rfl⟩
        · have hwd0 : wd = 0 := by
            have h0 : h.all = [] := List.length_eq_zero_iff.1 (by have := HMl.out; omega)
            have := HVd.out
            rw [HSd.out, h0] at this
            rw [← this]; rfl
          clear HMx
          go_wp2_with fail
          go_meet
          exact ⟨by rw [hwd0]; rfl, rfl⟩
      case rest =>
        obtain ⟨rfl, hwx⟩ := hcut
        obtain rfl := hwx.symm
        clear HMx HWD hud HSd HVd
        go_wp2_with fail
        refine (new_any true w9).mono ?_
        rintro e w10 ⟨rfl, hW10, hP10⟩
        obtain ⟨wb, hwb⟩ : ∃ z, z = w9.heap.size := ⟨_, rfl⟩
        rw [← hwb] at hW10 ⊢
        have hl9 := hS9.lt
        have hl9b := hL9.lt
        have hwbl0 := hW10.blk.lt
        have hPc := BlockIs.new w10 [.pointer (some ⟨wb, 0, none⟩)] 91
        have hA11 := hP10.pure (ext_alloc w10 (.cells #[.pointer (some ⟨wb, 0, none⟩)] 91))
        have hW11 := hW10.pure (ext_alloc w10 (.cells #[.pointer (some ⟨wb, 0, none⟩)] 91))
        have hL11 := hL9.ext hA11 id
        have hS11 := hS9.ext hA11 id
        have hP11 := hP9'.pure hA11
        have hOw : ∀ g, oa = some g → g.block ≠ wb := fun g hg => by have := hOa g hg; have := hP9'.size; omega
        have hsw : sb ≠ wb := by omega
        have hlw : lb ≠ wb := by omega
        have hwr : wr.heap.size ≤ wb := by have := hP9'.size; omega
        have cl0 : (w10.alloc (.cells #[.pointer (some ⟨wb, 0, none⟩)] 91)).cell? ⟨lb, 0, none⟩ = some (.int .i64 lo) := hL11.cell 0
        clear hL9 hS9 hP9' hA11 hW10 hP10 hz9 hz7 hz5 hwb
        go_wp2_with fail
        clear cl0
        obtain ⟨pc, hpc⟩ : ∃ z, z = w10.heap.size := ⟨_, rfl⟩
        rw [← hpc]
        rw [← hpc] at hPc hwbl0
        have hzp : (w10.alloc (.cells #[.pointer (some ⟨wb, 0, none⟩)] 91)).heap.size = pc + 1 := by rw [World.size_alloc, hpc]
        have hpcn : pc ≠ wb := by omega
        clear hpc
        obtain ⟨w0, hw0⟩ : ∃ z, z = w10.alloc (.cells #[.pointer (some ⟨wb, 0, none⟩)] 91) := ⟨_, rfl⟩
        rw [← hw0] at hPc hW11 hL11 hS11 hP11 hzp
        have hz0 : w0.heap.size = pc + 1 := hzp
        clear hzp
        rw [← hw0]
        clear hw0
        have T0 : WSt w0 wb [] w0 := ⟨none, 0, hW11, Ext.refl _ _, fun g hg => (by cases hg), hW11.blk.lt⟩
        have HPC : Hid (w0.cell? ⟨pc, 0, none⟩ = some (.pointer (some ⟨wb, 0, none⟩))) := Lib.hid (hPc.cell 0)
        have HLB : Hid (w0.cell? ⟨lb, 0, none⟩ = some (.int .i64 lo)) := Lib.hid (hL11.cell 0)
        have HSB : Hid (w0.cell? ⟨sb, 0, none⟩ = some (.int .i64 sh)) := Lib.hid (hS11.cell 0)
        have HFB : Hid (w0.cell? ⟨fb, 0, none⟩ = some (.func (.func 44) #[] #[])) := Lib.hid (hP11.cell_some HC3.out id)
        have hfw : fb ≠ wb := by omega
        have HRow : Hid (RowOf w0 oa (h.all.map intV)) := Lib.hid (hAll.ext hP11 (fun _ _ => id))
        have HPw := Lib.hid (fun W (hE : Ext (fun i => i = wb) w0 W) k (hk' : k < n) => HPg3.out W (hP11.trans hE (fun i hi e => by have e' : i = wb := e; omega)) k hk')
        have HP0 : Hid (Pure w w0) := Lib.hid (hP3.pure hP11)
        have hl0 : ([] : List Bool).length ≤ 0 := Nat.le_refl _
        clear hPc hW11 hL11 hS11 hP11 hAll hAll9 hP3 HPg HPg3 HC3
        have cpc := T0.ext.cell_some HPC.out hpcn
        have csb := T0.ext.cell_some HSB.out hsw
        have clb := T0.ext.cell_some HLB.out hlw
        have cfb := T0.ext.cell_some HFB.out hfw
        have HPut := Lib.hid (fun (W : World) ab (hab : W.heap.size = ab) (hT : WSt w0 wb ([] : List Bool) W) => wsputc hT pc ab 2 2 32 [lo, a] #[.int .i64 lo, .int .i64 a] rfl hab rfl HPC.out hpcn (by omega) (by omega) (by omega) (by intro x hx; simp at hx; omega))
        skip
        refine (HPut.out _ _ hz0 T0).mono ?_
        rintro e v1 ⟨rfl, T1⟩
        clear HPut
        obtain ⟨q1, hbn⟩ : ∃ z, z = ([] : List Bool) ++ numsB [lo, a] 32 := ⟨_, rfl⟩
        rw [← hbn] at T1
        have hl1 : q1.length ≤ 64 := by rw [hbn, List.length_append, numsB_len]; simp only [List.length_cons, List.length_nil] at hl0 ⊢; omega
        have HQ1 := Lib.hid hbn
        clear hbn T0 cpc csb clb cfb
        have cpc := T1.ext.cell_some HPC.out hpcn
        have csb := T1.ext.cell_some HSB.out hsw
        have clb := T1.ext.cell_some HLB.out hlw
        have cfb := T1.ext.cell_some HFB.out hfw
        have HPut := Lib.hid (fun (W : World) ab (hab : W.heap.size = ab) (hT : WSt w0 wb q1 W) => wsputc hT pc ab 1 1 16 [wa] #[.int .i64 wa] rfl hab rfl HPC.out hpcn (by omega) (by omega) (by omega) (by intro x hx; simp at hx; omega))
        go_wp2_with fail
        refine (HPut.out _ _ rfl T1).mono ?_
        rintro e v2 ⟨rfl, T2⟩
        clear HPut
        obtain ⟨q2, hbn⟩ : ∃ z, z = q1 ++ numsB [wa] 16 := ⟨_, rfl⟩
        rw [← hbn] at T2
        have hl2 : q2.length ≤ 80 := by rw [hbn, List.length_append, numsB_len]; simp only [List.length_cons, List.length_nil] at hl1 ⊢; omega
        have HQ2 := Lib.hid hbn
        clear hbn T1 cpc csb clb cfb
        have cpc := T2.ext.cell_some HPC.out hpcn
        have csb := T2.ext.cell_some HSB.out hsw
        have clb := T2.ext.cell_some HLB.out hlw
        have cfb := T2.ext.cell_some HFB.out hfw
        have HPut := Lib.hid (fun (W : World) ab (hab : W.heap.size = ab) (hT : WSt w0 wb q2 W) => wsputc hT pc ab 1 1 32 [sh] #[.int .i64 sh] rfl hab rfl HPC.out hpcn (by omega) (by omega) (by omega) (by intro x hx; simp at hx; omega))
        go_wp2_with fail
        refine (HPut.out _ _ rfl T2).mono ?_
        rintro e v3 ⟨rfl, T3⟩
        clear HPut
        obtain ⟨q3, hbn⟩ : ∃ z, z = q2 ++ numsB [sh] 32 := ⟨_, rfl⟩
        rw [← hbn] at T3
        have hl3 : q3.length ≤ 112 := by rw [hbn, List.length_append, numsB_len]; simp only [List.length_cons, List.length_nil] at hl2 ⊢; omega
        have HQ3 := Lib.hid hbn
        clear hbn T2 cpc csb clb cfb
        have cpc := T3.ext.cell_some HPC.out hpcn
        have csb := T3.ext.cell_some HSB.out hsw
        have clb := T3.ext.cell_some HLB.out hlw
        have cfb := T3.ext.cell_some HFB.out hfw
        have HPut := Lib.hid (fun (W : World) ab (hab : W.heap.size = ab) (hT : WSt w0 wb q3 W) => wsputc hT pc ab 1 1 16 [wbb] #[.int .i64 wbb] rfl hab rfl HPC.out hpcn (by omega) (by omega) (by omega) (by intro x hx; simp at hx; omega))
        go_wp2_with fail
        refine (HPut.out _ _ rfl T3).mono ?_
        rintro e v4 ⟨rfl, T4⟩
        clear HPut
        obtain ⟨q4, hbn⟩ : ∃ z, z = q3 ++ numsB [wbb] 16 := ⟨_, rfl⟩
        rw [← hbn] at T4
        have hl4 : q4.length ≤ 128 := by rw [hbn, List.length_append, numsB_len]; simp only [List.length_cons, List.length_nil] at hl3 ⊢; omega
        have HQ4 := Lib.hid hbn
        clear hbn T3 cpc csb clb cfb
        have cpc := T4.ext.cell_some HPC.out hpcn
        have csb := T4.ext.cell_some HSB.out hsw
        have clb := T4.ext.cell_some HLB.out hlw
        have cfb := T4.ext.cell_some HFB.out hfw
        have HPut := Lib.hid (fun (W : World) ab (hab : W.heap.size = ab) (hT : WSt w0 wb q4 W) => wsputc hT pc ab 1 1 32 [0] #[.int .i64 0] rfl hab rfl HPC.out hpcn (by omega) (by omega) (by omega) (by intro x hx; simp at hx; omega))
        go_wp2_with fail
        refine (HPut.out _ _ rfl T4).mono ?_
        rintro e v5 ⟨rfl, T5⟩
        clear HPut
        obtain ⟨q5, hbn⟩ : ∃ z, z = q4 ++ numsB [0] 32 := ⟨_, rfl⟩
        rw [← hbn] at T5
        have hl5 : q5.length ≤ 160 := by rw [hbn, List.length_append, numsB_len]; simp only [List.length_cons, List.length_nil] at hl4 ⊢; omega
        have HQ5 := Lib.hid hbn
        clear hbn T4 cpc csb clb cfb
        have cpc := T5.ext.cell_some HPC.out hpcn
        have csb := T5.ext.cell_some HSB.out hsw
        have clb := T5.ext.cell_some HLB.out hlw
        have cfb := T5.ext.cell_some HFB.out hfw
        have HPut := Lib.hid (fun (W : World) ab (hab : W.heap.size = ab) (hT : WSt w0 wb q5 W) => wsputc hT pc ab 1 1 16 [0] #[.int .i64 0] rfl hab rfl HPC.out hpcn (by omega) (by omega) (by omega) (by intro x hx; simp at hx; omega))
        go_wp2_with fail
        refine (HPut.out _ _ rfl T5).mono ?_
        rintro e v6 ⟨rfl, T6⟩
        clear HPut
        obtain ⟨q6, hbn⟩ : ∃ z, z = q5 ++ numsB [0] 16 := ⟨_, rfl⟩
        rw [← hbn] at T6
        have hl6 : q6.length ≤ 176 := by rw [hbn, List.length_append, numsB_len]; simp only [List.length_cons, List.length_nil] at hl5 ⊢; omega
        have HQ6 := Lib.hid hbn
        clear hbn T5 cpc csb clb cfb
        have cpc := T6.ext.cell_some HPC.out hpcn
        have csb := T6.ext.cell_some HSB.out hsw
        have clb := T6.ext.cell_some HLB.out hlw
        have cfb := T6.ext.cell_some HFB.out hfw
        have HPut := Lib.hid (fun (W : World) ab (hab : W.heap.size = ab) (hT : WSt w0 wb q6 W) => wsputc hT pc ab 1 1 32 [0] #[.int .i64 0] rfl hab rfl HPC.out hpcn (by omega) (by omega) (by omega) (by intro x hx; simp at hx; omega))
        go_wp2_with fail
        refine (HPut.out _ _ rfl T6).mono ?_
        rintro e v7 ⟨rfl, T7⟩
        clear HPut
        obtain ⟨q7, hbn⟩ : ∃ z, z = q6 ++ numsB [0] 32 := ⟨_, rfl⟩
        rw [← hbn] at T7
        have hl7 : q7.length ≤ 208 := by rw [hbn, List.length_append, numsB_len]; simp only [List.length_cons, List.length_nil] at hl6 ⊢; omega
        have HQ7 := Lib.hid hbn
        clear hbn T6 cpc csb clb cfb
        have cpc := T7.ext.cell_some HPC.out hpcn
        have csb := T7.ext.cell_some HSB.out hsw
        have clb := T7.ext.cell_some HLB.out hlw
        have cfb := T7.ext.cell_some HFB.out hfw
        have HPut := Lib.hid (fun (W : World) ab (hab : W.heap.size = ab) (hT : WSt w0 wb q7 W) => wsputc hT pc ab 5 5 16 [0, wc, wd, 0, 1] #[.int .i64 0, .int .i64 wc, .int .i64 wd, .int .i64 0, .int .i64 1] rfl hab rfl HPC.out hpcn (by omega) (by omega) (by omega) (by intro x hx; simp at hx; omega))
        go_wp2_with fail
        refine (HPut.out _ _ rfl T7).mono ?_
        rintro e v8 ⟨rfl, T8⟩
        clear HPut
        obtain ⟨q8, hbn⟩ : ∃ z, z = q7 ++ numsB [0, wc, wd, 0, 1] 16 := ⟨_, rfl⟩
        rw [← hbn] at T8
        have hl8 : q8.length ≤ 288 := by rw [hbn, List.length_append, numsB_len]; simp only [List.length_cons, List.length_nil] at hl7 ⊢; omega
        have HQ8 := Lib.hid hbn
        clear hbn T7 cpc csb clb cfb
        have HHd : Hid (q8 = headB a h rest0) := Lib.hid (by
          rw [HQ8.out, HQ7.out, HQ6.out, HQ5.out, HQ4.out, HQ3.out, HQ2.out, HQ1.out]
          unfold headB HN.wa HN.wb
          rw [← HLO.out, ← HSH.out, ← HWa.out, ← HWb.out, ← HWc.out, ← HWd.out]
          simp [numsB, rest0, RestN.x])
        clear HQ1 HQ2 HQ3 HQ4 HQ5 HQ6 HQ7 HQ8 hl0 hl1 hl2 hl3 hl4 hl5 hl6 hl7
        have cpc := T8.ext.cell_some HPC.out hpcn
        have csb := T8.ext.cell_some HSB.out hsw
        have clb := T8.ext.cell_some HLB.out hlw
        have cfb := T8.ext.cell_some HFB.out hfw
        obtain ⟨g1, hgn⟩ : ∃ z, z = align (q8 ++ numsB (HN.above h.os) wa) := ⟨_, rfl⟩
        have hg1 : g1.length ≤ 1576 := by
          rw [hgn, align_length, List.length_append, numsB_len, (show (HN.above h.os).length = n by unfold HN.above; rw [List.length_map]; exact HNL.out)]
          have := Nat.mul_le_mul hn40 hwal
          omega
        have HRw := Lib.hid (fun (W : World) (hT : WSt w0 wb q8 W) => (by have hr := row_obj ad c n h w0 W wb q8 HPw hn40 (by unfold HN.above; rw [List.length_map]; exact HNL.out) hT (by omega) lb (fun x hx => (HOK.out.os x hx).2) (by rw [← HLO.out]; exact HLB.out) hlw; rw [show h.wa = wa from HWa.out.symm, ← hgn] at hr; exact hr : Calls Try.prog _ _ W (DoneTo w0 wb g1)))
        have HG1 := Lib.hid hgn
        clear hgn
        go_wp2_with fail
        refine (HRw.out _ T8).mono ?_
        rintro e x1 ⟨rfl, U1⟩
        clear HRw T8 cpc csb clb cfb
        have cpc := U1.ext.cell_some HPC.out hpcn
        have csb := U1.ext.cell_some HSB.out hsw
        have clb := U1.ext.cell_some HLB.out hlw
        have cfb := U1.ext.cell_some HFB.out hfw
        obtain ⟨g2, hgn⟩ : ∃ z, z = align (g1 ++ numsB (HN.above h.ls) wbb) := ⟨_, rfl⟩
        have hg2 : g2.length ≤ 2864 := by
          rw [hgn, align_length, List.length_append, numsB_len, (show (HN.above h.ls).length = n by unfold HN.above; rw [List.length_map, HOK.out.ll]; exact HNL.out)]
          have := Nat.mul_le_mul hn40 hwbl
          omega
        have HRw := Lib.hid (fun (W : World) (hT : WSt w0 wb g1 W) => (by have hr := row_len ad c n h w0 W wb g1 HPw hn40 (by unfold HN.above; rw [List.length_map, HOK.out.ll]; exact HNL.out) hT (by omega) sb (fun x hx => (HOK.out.ls x hx).2) (by rw [← HSH.out]; exact HSB.out) hsw; rw [show h.wb = wbb from HWb.out.symm, ← hgn] at hr; exact hr : Calls Try.prog _ _ W (DoneTo w0 wb g2)))
        have HG2 := Lib.hid hgn
        clear hgn
        go_wp2_with fail
        refine (HRw.out _ U1).mono ?_
        rintro e x2 ⟨rfl, U2⟩
        clear HRw U1 cpc csb clb cfb
        have cpc := U2.ext.cell_some HPC.out hpcn
        have csb := U2.ext.cell_some HSB.out hsw
        have clb := U2.ext.cell_some HLB.out hlw
        have cfb := U2.ext.cell_some HFB.out hfw
        obtain ⟨g3, hgn⟩ : ∃ z, z = align (g2 ++ numsB h.counts wc) := ⟨_, rfl⟩
        have hg3 : g3.length ≤ 4152 := by
          rw [hgn, align_length, List.length_append, numsB_len, (show h.counts.length = n by unfold HN.counts; rw [List.length_map, HOK.out.lsh]; exact HNL.out)]
          have := Nat.mul_le_mul hn40 hwcl
          omega
        have HRw := Lib.hid (fun (W : World) (hT : WSt w0 wb g2 W) => (by have hr := row_cnt ad c n h w0 W wb g2 HPw hn40 (by unfold HN.counts; rw [List.length_map, HOK.out.lsh]; exact HNL.out) hT (by omega) HCT.out; rw [show h.wc = wc from HWc.out.symm, ← hgn] at hr; exact hr : Calls Try.prog _ _ W (DoneTo w0 wb g3)))
        have HG3 := Lib.hid hgn
        clear hgn
        go_wp2_with fail
        refine (HRw.out _ U2).mono ?_
        rintro e x3 ⟨rfl, U3⟩
        clear HRw U2 cpc csb clb cfb
        have cpc := U3.ext.cell_some HPC.out hpcn
        have csb := U3.ext.cell_some HSB.out hsw
        have clb := U3.ext.cell_some HLB.out hlw
        have cfb := U3.ext.cell_some HFB.out hfw
        obtain ⟨g4, hgn⟩ : ∃ z, z = align (g3 ++ numsB h.all wd) := ⟨_, rfl⟩
        have hg4 : g4.length ≤ 2200000 := by
          rw [hgn, align_length, List.length_append, numsB_len, (show h.all.length = m from HMl.out.symm)]
          have := Nat.mul_le_mul (show m ≤ 65536 by rw [HMl.out]; exact HMany.out) hwdl
          omega
        have HRw := Lib.hid (fun (W : World) (hT : WSt w0 wb g3 W) => (by have hr := row_int oa oc m h.all w0 W wb g3 wd HRow.out hOw (by rw [HMl.out]; exact HMany.out) HMl.out.symm hT (by omega) (fun x hx => ⟨HOK.out.sh x hx, by rw [HWd.out]; exact Nat.lt_of_le_of_lt (le_mx hx) (lt_wid _)⟩) hwdl; rw [show wd = wd from rfl, ← hgn] at hr; exact hr : Calls Try.prog _ _ W (DoneTo w0 wb g4)))
        have HG4 := Lib.hid hgn
        clear hgn
        go_wp2_with fail
        refine (HRw.out _ U3).mono ?_
        rintro e x4 ⟨rfl, U4⟩
        clear HRw U3 cpc csb clb cfb
        have HG5 : Hid (g4 = tabB a h rest0) := Lib.hid (by
          have e1 : g1 = part1 a h rest0 := by rw [HG1.out, HHd.out, HWa.out]; rfl
          have e2 : g2 = part2 a h rest0 := by rw [HG2.out, e1, HWb.out]; rfl
          have e3 : g3 = part3 a h rest0 := by rw [HG3.out, e2, HWc.out]; rfl
          rw [tabB_plain, HG4.out, e3, HWd.out]; rfl)
        have hwwb : w.heap.size ≤ wb := by omega
        have cpc := U4.ext.cell_some HPC.out hpcn
        have hE4 := U4.ext
        obtain ⟨ya, yc, hWr, _, _, _⟩ := U4
        have hP4 : Pure w x4 := HP0.out.trans hE4 (fun i hi e => by have e' : i = wb := e; omega)
        have HBy := Lib.hid (bytes_any wb true g4 ya yc x4 hWr (by omega))
        clear hWr hE4
        go_wp2_with fail
        refine HBy.out.mono ?_
        rintro e x5 ⟨ra, rc, rfl, hN⟩
        go_wp2_with fail
        go_ret2
        rw [HG5.out, ← HB.out] at hN
        rw [HG5.out, ← HB.out]
        exact ⟨ra, rc, by rw [HZ.out]; rfl, hN.bytes, hP4.pure hN.ext, hN.nil, fun g hg => Nat.le_trans hP4.size (hN.fresh g hg), hN.lt, hN.le, hN.most⟩
end Go.Proofs.Ytomcdhljjmnahaa.P26
namespace Go.Proofs.Ytomcdhljjmnahaa.P26
set_option linter.unusedVariables false
set_option linter.unusedSimpArgs false
open Go.RowKit C26

set_option maxRecDepth 100000 in
theorem encode_any (a : Int) (ad : Option Addr) (c : Nat) (ps : List PH) (w : World) (h : Hints w ad ps) (hm : Mod ps) :
    Calls Try.prog 25 #[.int .i64 a, .slice ad ps.length c] w (EncTo a ps w) := by
  by_cases hz : chk a ps = 0
  · have hk := chk_ok hz hm
    have e1 : a = (a.toNat : Int) := by have := hk.a; omega
    have key := encode_yes a.toNat ad c ps w h hm (by rw [← e1]; exact hz)
    rw [← e1] at key
    exact key
  · have HC0 := check_any a ad c ps w h hm
    have hB : encB a ps = [] := if_neg hz
    have hne : (chk a ps != 0) = true := by simpa using hz
    unfold IntRes at HC0
    obtain ⟨E, hE⟩ : ∃ E, E = chk a ps := ⟨_, rfl⟩
    rw [← hE] at HC0 hne
    have HC := Lib.hid HC0
    have HB := Lib.hid hB
    have HE := Lib.hid hE
    clear HC0 hB hz hE h
    go_enter Try.func25, Try.ntmps25
    go_wp2_with fail
    refine HC.out.mono ?_
    rintro e w2 ⟨rfl, hP2⟩
    go_wp2_with fail
    go_ret2
    refine ⟨none, 0, by rw [HB.out, ← HE.out]; rfl, ?_⟩
    rw [HB.out]
    exact new_nil hP2
end Go.Proofs.Ytomcdhljjmnahaa.P26
