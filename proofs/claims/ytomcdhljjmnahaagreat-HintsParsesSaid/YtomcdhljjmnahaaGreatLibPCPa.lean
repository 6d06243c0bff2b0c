import Derived.Test.YtomcdhljjmnahaaGreatLibPBPa
import Derived.Test.YtomcdhljjmnahaaGreatLibBBPa
import Derived.Test.YtomcdhljjmnahaaGreatLibPAPa
import Derived.Test.YtomcdhljjmnahaaGreatLibBAPa
import Derived.OwnWalk
import Derived.Test.YtomcdhljjmnahaaGreatSqPa
set_option linter.unusedVariables false
set_option linter.unusedSimpArgs false
set_option maxRecDepth 100000
namespace Go.Proofs.YtomcdhljjmnahaaGreat.P26
open Go.RowKit C26
set_option maxHeartbeats 2000000 in
theorem bounds_obj (ad : Option Addr) (c n : Nat) (h : HN) (w : World) (HPg : Hid (∀ W, Pure w W → ∀ k, k < n → PageAt W ad h k)) (hn1 : 1 ≤ n) (hn40 : n ≤ 40) (hlen : h.os.length = n) :
 Calls Tryz.prog 57 #[.slice ad n c, .func (.func 54) #[] #[]] w fun e w' => e = .returned (.tuple #[.int .i64 (least h.os : Nat), .int .i64 (width h.os : Nat)]) ∧ Pure w w' := by
 have HLEN := qh hlen
 obtain ⟨LE, hLE⟩ : ∃ z, z = least h.os := ⟨_, rfl⟩
 obtain ⟨WI, hWI⟩ : ∃ z, z = width h.os := ⟨_, rfl⟩
 rw [← hLE, ← hWI]
 have HLE := qh hLE
 have HWI := qh hWI
 clear hLE hWI hlen
 obtain ⟨b0, o0, on0, ln0, sa0, sc0, xs0, had, p0, p1, p2, hsub0, e0, e1, e2, bo0, bl0, bs0, bx0, bx1, bx2⟩ := HPg.out w (Ext.refl _ _) 0 (by omega)
 subst had
 obtain ⟨xn0, hxn0⟩ : ∃ z, z = xs0.length := ⟨_, rfl⟩
 rw [← hxn0] at p2 bx0 bx1
 have hne : h.os ≠ [] := fun e => by have := HLEN.out; rw [e] at this; simp at this; omega
 have hh0 : on0 = h.os.headD 0 := by
  cases hos : h.os with
  | nil => exact absurd hos hne
  | cons x xs => rw [hos] at e0; simp at e0; simp [e0]
 have HH0 : Hid (on0 = (h.os.take 0).foldl min (h.os.headD 0)) := qh (by rw [hh0]; rfl)
 have HH1 : Hid (on0 = (h.os.take 0).foldl max (h.os.headD 0)) := qh (by rw [hh0]; rfl)
 have HNE := qh hne
 simp only [Nat.zero_mul, Nat.add_zero] at p0 p1 p2
 have d0 : w.drew.cell? ⟨b0, o0, none⟩ = some (.int .i64 on0) := p0
 have d1 : w.drew.cell? ⟨b0, o0 + 1, none⟩ = some (.int .i64 ln0) := p1
 have d2 : w.drew.cell? ⟨b0, o0 + 2, none⟩ = some (.slice sa0 xn0 sc0) := p2
 have k0 := fun w' (hS : Ext (fun _ => False) w.drew w') => hS.cell_some d0 id
 have k1 := fun w' (hS : Ext (fun _ => False) w.drew w') => hS.cell_some d1 id
 have k2 := fun w' (hS : Ext (fun _ => False) w.drew w') => hS.cell_some d2 id
 have hB0i : (0 : Int) < (n : Int) := by omega
 have hB0 : 0 < n := by omega
 have HOf := qh (fun W => objects_any (on0 : Int) (ln0 : Int) sa0 xn0 sc0 W)
 unfold pageV at HOf
 clear p0 p1 p2 hsub0 e0 e1 e2 bs0 hxn0 hh0 hne
 go_enter Tryz.func57, Tryz.ntmps57
 go_wp2_with fail
 refine region_start (fun _ => False) (by kernel_rfl) ?_
 try simp only [Act.put, sA, sZ, sS]
 refine region_take 0 10 (v := ?vga0) rfl rfl (by kernel_rfl) (by kernel_rfl) (by kernel_rfl) (fun _ _ _ h => h) (by rfl) (fun w' hS => ?hga0) ?rga0
 case hga0 => go_simp; with_reducible rfl
 try simp only [Act.put, sA, sZ, sS]
 refine region_take 1 11 (v := ?vga1) rfl rfl (by kernel_rfl) (by kernel_rfl) (by kernel_rfl) (fun _ _ _ h => h) (by rfl) (fun w' hS => ?hga1) ?rga1
 case hga1 => go_simp; with_reducible rfl
 try simp only [Act.put, sA, sZ, sS]
 refine region_take 2 12 (v := ?vga2) rfl rfl (by kernel_rfl) (by kernel_rfl) (by kernel_rfl) (fun _ _ _ h => h) (by rfl) (fun w' hS => ?hga2) ?rga2
 case hga2 => go_simp; with_reducible rfl
 try simp only [Act.put, sA, sZ, sS]
 refine region_take 3 13 (v := ?vga3) rfl rfl (by kernel_rfl) (by kernel_rfl) (by kernel_rfl) (fun _ _ _ h => h) (by rfl) (fun w' hS => ?hga3) ?rga3
 case hga3 => go_simp; with_reducible rfl
 try simp only [Act.put, sA, sZ, sS]
 refine region_take 5 15 (v := ?vga5) rfl rfl (by kernel_rfl) (by kernel_rfl) (by kernel_rfl) (fun _ _ _ h => h) (by rfl) (fun w' hS => ?hga5) ?rga5
 case hga5 => go_simp; with_reducible rfl
 try simp only [Act.put, sA, sZ, sS]
 refine region_take 6 16 (v := ?vga6) rfl rfl (by kernel_rfl) (by kernel_rfl) (by kernel_rfl) (fun _ _ _ h => h) (by rfl) (fun w' hS => ?hga6) ?rga6
 case hga6 => go_simp; with_reducible rfl
 try simp only [Act.put, sA, sZ, sS]
 refine region_take 7 17 (v := ?vga7) rfl rfl (by kernel_rfl) (by kernel_rfl) (by kernel_rfl) (fun _ _ _ h => h) (by rfl) (fun w' hS => ?hga7) ?rga7
 case hga7 => go_simp; with_reducible rfl
 try simp only [Act.put, sA, sZ, sS]
 refine region_take 8 18 (v := ?vga8) rfl rfl (by kernel_rfl) (by kernel_rfl) (by kernel_rfl) (fun _ _ _ h => h) (by rfl) (fun w' hS => ?hga8) ?rga8
 case hga8 => go_simp; with_reducible rfl
 try simp only [Act.put, sA, sZ, sS]
 refine wpAnyH_ready (rs := [4]) (by kernel_rfl) (by simp) (AllReadyH.cons rfl (fun K hK => ?_) AllReadyH.nil)
 go_simp
 refine (HOf.out _).mono ?_
 rintro e w2 ⟨rfl, hP2⟩
 refine hK.out _ _ (hP2) (fun hHeld => ?_)
 clear hK K hHeld
 refine region_now (hP2) ?_
 try simp only [Act.put, sA, sZ, sS]
 refine wpAnyH_ready (rs := [9]) (by kernel_rfl) (by simp) (AllReadyH.cons rfl (fun K hK => ?_) AllReadyH.nil)
 go_simp
 refine (HOf.out _).mono ?_
 rintro e w3 ⟨rfl, hP3⟩
 refine hK.out _ _ (hP3) (fun hHeld => ?_)
 clear hK K hHeld
 refine region_now (hP3) ?_
 try simp only [Act.put, sA, sZ, sS]
 refine region_take 10 6 (v := ?vga10) rfl rfl (by kernel_rfl) (by kernel_rfl) (by kernel_rfl) (fun _ _ _ h => h) (by rfl) (fun w' hS => ?hga10) ?rga10
 case hga10 => go_simp; with_reducible rfl
 try simp only [Act.put, sA, sZ, sS]
 refine region_take 11 7 (v := ?vga11) rfl rfl (by kernel_rfl) (by kernel_rfl) (by kernel_rfl) (fun _ _ _ h => h) (by rfl) (fun w' hS => ?hga11) ?rga11
 case hga11 => go_simp; with_reducible rfl
 try simp only [Act.put, sA, sZ, sS]
 refine wpAnyH_done (by kernel_rfl) ?_ _
 have hP : Pure w w3 := ((Ext.refl (fun _ => False) w).drew.pure hP2).pure hP3
 clear d0 d1 d2 k0 k1 k2 HOf hP2 hP3
 go_wp2_with fail
 go_loopw [6, 7, 9, 22] (fun a b _ i W => ∃ (k lo hi : Nat), k ≤ n ∧ i = .int .i64 k ∧ a = .int .i64 lo ∧ b = .int .i64 hi ∧ Hid (lo = (h.os.take k).foldl min (h.os.headD 0)) ∧ Hid (hi = (h.os.take k).foldl max (h.os.headD 0)) ∧ lo ≤ 2147483647 ∧ hi ≤ 2147483647 ∧ Pure w W) (fun _ _ _ i _ => n - (intOf i).toNat)
 case atStart => exact ⟨0, on0, on0, Nat.zero_le _, rfl, rfl, rfl, HH0, HH1, by omega, by omega, hP⟩
 case round =>
  obtain ⟨k, lo, hi, hk, rfl, rfl, rfl, HL, HI, hlo, hhi, hPr⟩ := hrel
  clear hP
  by_cases hlt : k < n
  ·have hki : (k : Int) < (n : Int) := by omega
   obtain ⟨b, o, on, ln, sa, sc, xs, had, p0, p1, p2, hsub, e0, e1, e2, bo, bl, bs, bx0, bx1, bx2⟩ := HPg.out wr hPr k hlt
   cases had
   obtain ⟨xn, hxn⟩ : ∃ z, z = xs.length := ⟨_, rfl⟩
   rw [← hxn] at p2 bx0 bx1
   have HL2 : Hid (min lo on = (h.os.take (k + 1)).foldl min (h.os.headD 0)) := qh (by rw [fold_take_succ min _ _ k on e0, HL.out])
   have HI2 : Hid (max hi on = (h.os.take (k + 1)).foldl max (h.os.headD 0)) := qh (by rw [fold_take_succ max _ _ k on e0, HI.out])
   have hTB := BlockIs.new wr [.int .i64 on, .int .i64 ln, .slice sa xn sc] 53
   have hPw := hPr.pure (ext_alloc wr (.cells #[.int .i64 on, .int .i64 ln, .slice sa xn sc] 53))
   have HOf := qh (fun W => objects_any (on : Int) (ln : Int) sa xn sc W)
   unfold pageV at HOf
   clear hsub e0 e1 e2 bs hxn
   go_wp2_with fail
   obtain ⟨tb, htb⟩ : ∃ tb, tb = wr.heap.size := ⟨_, rfl⟩
   rw [← htb]
   rw [← htb] at hTB
   clear htb p0 p1 p2
   generalize wr.alloc (.cells #[.int .i64 on, .int .i64 ln, .slice sa xn sc] 53) = w5 at *
   have d0 : w5.drew.cell? ⟨tb, 0, none⟩ = some (.int .i64 on) := hTB.cell 0
   have d1 : w5.drew.cell? ⟨tb, 0 + 1, none⟩ = some (.int .i64 ln) := hTB.cell 1
   have d2 : w5.drew.cell? ⟨tb, 0 + 2, none⟩ = some (.slice sa xn sc) := hTB.cell 2
   have k0 := fun w' (hS : Ext (fun _ => False) w5.drew w') => hS.cell_some d0 id
   have k1 := fun w' (hS : Ext (fun _ => False) w5.drew w') => hS.cell_some d1 id
   have k2 := fun w' (hS : Ext (fun _ => False) w5.drew w') => hS.cell_some d2 id
   refine region_start (fun _ => False) (by kernel_rfl) ?_
   try simp only [Act.put, sA, sZ, sS]
   refine region_take 0 26 (v := ?vha0) rfl rfl (by kernel_rfl) (by kernel_rfl) (by kernel_rfl) (fun _ _ _ h => h) (by rfl) (fun w' hS => ?hha0) ?rha0
   case hha0 => go_simp; with_reducible rfl
   try simp only [Act.put, sA, sZ, sS]
   refine region_take 1 27 (v := ?vha1) rfl rfl (by kernel_rfl) (by kernel_rfl) (by kernel_rfl) (fun _ _ _ h => h) (by rfl) (fun w' hS => ?hha1) ?rha1
   case hha1 => go_simp; with_reducible rfl
   try simp only [Act.put, sA, sZ, sS]
   refine region_take 2 28 (v := ?vha2) rfl rfl (by kernel_rfl) (by kernel_rfl) (by kernel_rfl) (fun _ _ _ h => h) (by rfl) (fun w' hS => ?hha2) ?rha2
   case hha2 => go_simp; with_reducible rfl
   try simp only [Act.put, sA, sZ, sS]
   refine region_take 5 31 (v := ?vha5) rfl rfl (by kernel_rfl) (by kernel_rfl) (by kernel_rfl) (fun _ _ _ h => h) (by rfl) (fun w' hS => ?hha5) ?rha5
   case hha5 => go_simp; with_reducible rfl
   try simp only [Act.put, sA, sZ, sS]
   refine region_take 6 32 (v := ?vha6) rfl rfl (by kernel_rfl) (by kernel_rfl) (by kernel_rfl) (fun _ _ _ h => h) (by rfl) (fun w' hS => ?hha6) ?rha6
   case hha6 => go_simp; with_reducible rfl
   try simp only [Act.put, sA, sZ, sS]
   refine region_take 7 33 (v := ?vha7) rfl rfl (by kernel_rfl) (by kernel_rfl) (by kernel_rfl) (fun _ _ _ h => h) (by rfl) (fun w' hS => ?hha7) ?rha7
   case hha7 => go_simp; with_reducible rfl
   try simp only [Act.put, sA, sZ, sS]
   refine wpAnyH_ready (rs := [3]) (by kernel_rfl) (by simp) (AllReadyH.cons rfl (fun K hK => ?_) AllReadyH.nil)
   go_simp
   refine (HOf.out _).mono ?_
   rintro e w6 ⟨rfl, hP6⟩
   refine hK.out _ _ (hP6) (fun hHeld => ?_)
   clear hK K hHeld
   refine region_now (hP6) ?_
   try simp only [Act.put, sA, sZ, sS]
   refine region_take 4 30 (v := ?vha4) rfl rfl (by kernel_rfl) (by kernel_rfl) (by kernel_rfl) (fun _ _ _ h => h) (by rfl) (fun w' hS => ?hha4) ?rha4
   case hha4 => go_simp; with_reducible rfl
   try simp only [Act.put, sA, sZ, sS]
   refine wpAnyH_ready (rs := [8]) (by kernel_rfl) (by simp) (AllReadyH.cons rfl (fun K hK => ?_) AllReadyH.nil)
   go_simp
   refine (HOf.out _).mono ?_
   rintro e w7 ⟨rfl, hP7⟩
   refine hK.out _ _ (hP7) (fun hHeld => ?_)
   clear hK K hHeld
   refine region_now (hP7) ?_
   try simp only [Act.put, sA, sZ, sS]
   refine region_take 9 35 (v := ?vha9) rfl rfl (by kernel_rfl) (by kernel_rfl) (by kernel_rfl) (fun _ _ _ h => h) (by rfl) (fun w' hS => ?hha9) ?rha9
   case hha9 => go_simp; with_reducible rfl
   try simp only [Act.put, sA, sZ, sS]
   refine region_take 10 6 (v := ?vha10) rfl rfl (by kernel_rfl) (by kernel_rfl) (by kernel_rfl) (fun _ _ _ h => h) (by rfl) (fun w' hS => ?hha10) ?rha10
   case hha10 => go_simp; with_reducible rfl
   try simp only [Act.put, sA, sZ, sS]
   refine region_take 11 7 (v := ?vha11) rfl rfl (by kernel_rfl) (by kernel_rfl) (by kernel_rfl) (fun _ _ _ h => h) (by rfl) (fun w' hS => ?hha11) ?rha11
   case hha11 => go_simp; with_reducible rfl
   try simp only [Act.put, sA, sZ, sS]
   refine wpAnyH_done (by kernel_rfl) ?_ _
   have hP9 : Pure w w7 := (hPw.drew.pure hP6).pure hP7
   clear d0 d1 d2 k0 k1 k2 HOf hP6 hP7
   go_wp2_with fail
   go_roundw
   case rel => exact ⟨k + 1, min lo on, max hi on, by omega, by go_num, by congr 1; omega, by congr 1; omega, HL2, HI2, by omega, by omega, hP9⟩
   case measure => simp [intOf]; omega
  ·have hki : ¬ (k : Int) < (n : Int) := by omega
   obtain rfl : n = k := by omega
   have hl : lo = LE := by rw [HL.out, List.take_of_length_le (by rw [HLEN.out]; omega), least_fold HNE.out, HLE.out]
   have hi' : hi = most h.os := by rw [HI.out, List.take_of_length_le (by rw [HLEN.out]; omega), most_fold HNE.out]
   have hle : lo ≤ hi := by rw [hl, HLE.out, hi']; exact least_le_most HNE.out
   obtain ⟨dv, hdv⟩ : ∃ d, d = hi - lo := ⟨_, rfl⟩
   have hdi : (hi : Int) - (lo : Int) = (dv : Int) := by omega
   have hwid : wid dv = WI := by rw [HWI.out, hdv, hl, HLE.out, hi']; rfl
   have hud : IntKind.u32.wrap (dv : Int) = (dv : Int) := IntWalk.u32_in _ (by omega)
   have HW := qh (fun W => hwid ▸ width_any dv W (by omega))
   subst hl
   clear hi' hdv hwid HL HI HLE HWI
   go_wp2_with fail
   refine (HW.out _).mono ?_
   rintro e w9 ⟨rfl, hw9⟩
   obtain rfl := hw9.symm
   go_wp2_with fail
   go_ret2
   exact ⟨rfl, hPr⟩
set_option maxHeartbeats 2000000 in
theorem bounds_len (ad : Option Addr) (c n : Nat) (h : HN) (w : World) (HPg : Hid (∀ W, Pure w W → ∀ k, k < n → PageAt W ad h k)) (hn1 : 1 ≤ n) (hn40 : n ≤ 40) (hlen : h.ls.length = n) :
 Calls Tryz.prog 57 #[.slice ad n c, .func (.func 55) #[] #[]] w fun e w' => e = .returned (.tuple #[.int .i64 (least h.ls : Nat), .int .i64 (width h.ls : Nat)]) ∧ Pure w w' := by
 have HLEN := qh hlen
 obtain ⟨LE, hLE⟩ : ∃ z, z = least h.ls := ⟨_, rfl⟩
 obtain ⟨WI, hWI⟩ : ∃ z, z = width h.ls := ⟨_, rfl⟩
 rw [← hLE, ← hWI]
 have HLE := qh hLE
 have HWI := qh hWI
 clear hLE hWI hlen
 obtain ⟨b0, o0, on0, ln0, sa0, sc0, xs0, had, p0, p1, p2, hsub0, e0, e1, e2, bo0, bl0, bs0, bx0, bx1, bx2⟩ := HPg.out w (Ext.refl _ _) 0 (by omega)
 subst had
 obtain ⟨xn0, hxn0⟩ : ∃ z, z = xs0.length := ⟨_, rfl⟩
 rw [← hxn0] at p2 bx0 bx1
 have hne : h.ls ≠ [] := fun e => by have := HLEN.out; rw [e] at this; simp at this; omega
 have hh0 : ln0 = h.ls.headD 0 := by
  cases hos : h.ls with
  | nil => exact absurd hos hne
  | cons x xs => rw [hos] at e1; simp at e1; simp [e1]
 have HH0 : Hid (ln0 = (h.ls.take 0).foldl min (h.ls.headD 0)) := qh (by rw [hh0]; rfl)
 have HH1 : Hid (ln0 = (h.ls.take 0).foldl max (h.ls.headD 0)) := qh (by rw [hh0]; rfl)
 have HNE := qh hne
 simp only [Nat.zero_mul, Nat.add_zero] at p0 p1 p2
 have d0 : w.drew.cell? ⟨b0, o0, none⟩ = some (.int .i64 on0) := p0
 have d1 : w.drew.cell? ⟨b0, o0 + 1, none⟩ = some (.int .i64 ln0) := p1
 have d2 : w.drew.cell? ⟨b0, o0 + 2, none⟩ = some (.slice sa0 xn0 sc0) := p2
 have k0 := fun w' (hS : Ext (fun _ => False) w.drew w') => hS.cell_some d0 id
 have k1 := fun w' (hS : Ext (fun _ => False) w.drew w') => hS.cell_some d1 id
 have k2 := fun w' (hS : Ext (fun _ => False) w.drew w') => hS.cell_some d2 id
 have hB0i : (0 : Int) < (n : Int) := by omega
 have hB0 : 0 < n := by omega
 have HOf := qh (fun W => length_any (on0 : Int) (ln0 : Int) sa0 xn0 sc0 W)
 unfold pageV at HOf
 clear p0 p1 p2 hsub0 e0 e1 e2 bs0 hxn0 hh0 hne
 go_enter Tryz.func57, Tryz.ntmps57
 go_wp2_with fail
 refine region_start (fun _ => False) (by kernel_rfl) ?_
 try simp only [Act.put, sA, sZ, sS]
 refine region_take 0 10 (v := ?vgb0) rfl rfl (by kernel_rfl) (by kernel_rfl) (by kernel_rfl) (fun _ _ _ h => h) (by rfl) (fun w' hS => ?hgb0) ?rgb0
 case hgb0 => go_simp; with_reducible rfl
 try simp only [Act.put, sA, sZ, sS]
 refine region_take 1 11 (v := ?vgb1) rfl rfl (by kernel_rfl) (by kernel_rfl) (by kernel_rfl) (fun _ _ _ h => h) (by rfl) (fun w' hS => ?hgb1) ?rgb1
 case hgb1 => go_simp; with_reducible rfl
 try simp only [Act.put, sA, sZ, sS]
 refine region_take 2 12 (v := ?vgb2) rfl rfl (by kernel_rfl) (by kernel_rfl) (by kernel_rfl) (fun _ _ _ h => h) (by rfl) (fun w' hS => ?hgb2) ?rgb2
 case hgb2 => go_simp; with_reducible rfl
 try simp only [Act.put, sA, sZ, sS]
 refine region_take 3 13 (v := ?vgb3) rfl rfl (by kernel_rfl) (by kernel_rfl) (by kernel_rfl) (fun _ _ _ h => h) (by rfl) (fun w' hS => ?hgb3) ?rgb3
 case hgb3 => go_simp; with_reducible rfl
 try simp only [Act.put, sA, sZ, sS]
 refine region_take 5 15 (v := ?vgb5) rfl rfl (by kernel_rfl) (by kernel_rfl) (by kernel_rfl) (fun _ _ _ h => h) (by rfl) (fun w' hS => ?hgb5) ?rgb5
 case hgb5 => go_simp; with_reducible rfl
 try simp only [Act.put, sA, sZ, sS]
 refine region_take 6 16 (v := ?vgb6) rfl rfl (by kernel_rfl) (by kernel_rfl) (by kernel_rfl) (fun _ _ _ h => h) (by rfl) (fun w' hS => ?hgb6) ?rgb6
 case hgb6 => go_simp; with_reducible rfl
 try simp only [Act.put, sA, sZ, sS]
 refine region_take 7 17 (v := ?vgb7) rfl rfl (by kernel_rfl) (by kernel_rfl) (by kernel_rfl) (fun _ _ _ h => h) (by rfl) (fun w' hS => ?hgb7) ?rgb7
 case hgb7 => go_simp; with_reducible rfl
 try simp only [Act.put, sA, sZ, sS]
 refine region_take 8 18 (v := ?vgb8) rfl rfl (by kernel_rfl) (by kernel_rfl) (by kernel_rfl) (fun _ _ _ h => h) (by rfl) (fun w' hS => ?hgb8) ?rgb8
 case hgb8 => go_simp; with_reducible rfl
 try simp only [Act.put, sA, sZ, sS]
 refine wpAnyH_ready (rs := [4]) (by kernel_rfl) (by simp) (AllReadyH.cons rfl (fun K hK => ?_) AllReadyH.nil)
 go_simp
 refine (HOf.out _).mono ?_
 rintro e w2 ⟨rfl, hP2⟩
 refine hK.out _ _ (hP2) (fun hHeld => ?_)
 clear hK K hHeld
 refine region_now (hP2) ?_
 try simp only [Act.put, sA, sZ, sS]
 refine wpAnyH_ready (rs := [9]) (by kernel_rfl) (by simp) (AllReadyH.cons rfl (fun K hK => ?_) AllReadyH.nil)
 go_simp
 refine (HOf.out _).mono ?_
 rintro e w3 ⟨rfl, hP3⟩
 refine hK.out _ _ (hP3) (fun hHeld => ?_)
 clear hK K hHeld
 refine region_now (hP3) ?_
 try simp only [Act.put, sA, sZ, sS]
 refine region_take 10 6 (v := ?vgb10) rfl rfl (by kernel_rfl) (by kernel_rfl) (by kernel_rfl) (fun _ _ _ h => h) (by rfl) (fun w' hS => ?hgb10) ?rgb10
 case hgb10 => go_simp; with_reducible rfl
 try simp only [Act.put, sA, sZ, sS]
 refine region_take 11 7 (v := ?vgb11) rfl rfl (by kernel_rfl) (by kernel_rfl) (by kernel_rfl) (fun _ _ _ h => h) (by rfl) (fun w' hS => ?hgb11) ?rgb11
 case hgb11 => go_simp; with_reducible rfl
 try simp only [Act.put, sA, sZ, sS]
 refine wpAnyH_done (by kernel_rfl) ?_ _
 have hP : Pure w w3 := ((Ext.refl (fun _ => False) w).drew.pure hP2).pure hP3
 clear d0 d1 d2 k0 k1 k2 HOf hP2 hP3
 go_wp2_with fail
 go_loopw [6, 7, 9, 22] (fun a b _ i W => ∃ (k lo hi : Nat), k ≤ n ∧ i = .int .i64 k ∧ a = .int .i64 lo ∧ b = .int .i64 hi ∧ Hid (lo = (h.ls.take k).foldl min (h.ls.headD 0)) ∧ Hid (hi = (h.ls.take k).foldl max (h.ls.headD 0)) ∧ lo ≤ 2147483647 ∧ hi ≤ 2147483647 ∧ Pure w W) (fun _ _ _ i _ => n - (intOf i).toNat)
 case atStart => exact ⟨0, ln0, ln0, Nat.zero_le _, rfl, rfl, rfl, HH0, HH1, by omega, by omega, hP⟩
 case round =>
  obtain ⟨k, lo, hi, hk, rfl, rfl, rfl, HL, HI, hlo, hhi, hPr⟩ := hrel
  clear hP
  by_cases hlt : k < n
  ·have hki : (k : Int) < (n : Int) := by omega
   obtain ⟨b, o, on, ln, sa, sc, xs, had, p0, p1, p2, hsub, e0, e1, e2, bo, bl, bs, bx0, bx1, bx2⟩ := HPg.out wr hPr k hlt
   cases had
   obtain ⟨xn, hxn⟩ : ∃ z, z = xs.length := ⟨_, rfl⟩
   rw [← hxn] at p2 bx0 bx1
   have HL2 : Hid (min lo ln = (h.ls.take (k + 1)).foldl min (h.ls.headD 0)) := qh (by rw [fold_take_succ min _ _ k ln e1, HL.out])
   have HI2 : Hid (max hi ln = (h.ls.take (k + 1)).foldl max (h.ls.headD 0)) := qh (by rw [fold_take_succ max _ _ k ln e1, HI.out])
   have hTB := BlockIs.new wr [.int .i64 on, .int .i64 ln, .slice sa xn sc] 53
   have hPw := hPr.pure (ext_alloc wr (.cells #[.int .i64 on, .int .i64 ln, .slice sa xn sc] 53))
   have HOf := qh (fun W => length_any (on : Int) (ln : Int) sa xn sc W)
   unfold pageV at HOf
   clear hsub e0 e1 e2 bs hxn
   go_wp2_with fail
   obtain ⟨tb, htb⟩ : ∃ tb, tb = wr.heap.size := ⟨_, rfl⟩
   rw [← htb]
   rw [← htb] at hTB
   clear htb p0 p1 p2
   generalize wr.alloc (.cells #[.int .i64 on, .int .i64 ln, .slice sa xn sc] 53) = w5 at *
   have d0 : w5.drew.cell? ⟨tb, 0, none⟩ = some (.int .i64 on) := hTB.cell 0
   have d1 : w5.drew.cell? ⟨tb, 0 + 1, none⟩ = some (.int .i64 ln) := hTB.cell 1
   have d2 : w5.drew.cell? ⟨tb, 0 + 2, none⟩ = some (.slice sa xn sc) := hTB.cell 2
   have k0 := fun w' (hS : Ext (fun _ => False) w5.drew w') => hS.cell_some d0 id
   have k1 := fun w' (hS : Ext (fun _ => False) w5.drew w') => hS.cell_some d1 id
   have k2 := fun w' (hS : Ext (fun _ => False) w5.drew w') => hS.cell_some d2 id
   refine region_start (fun _ => False) (by kernel_rfl) ?_
   try simp only [Act.put, sA, sZ, sS]
   refine region_take 0 26 (v := ?vhb0) rfl rfl (by kernel_rfl) (by kernel_rfl) (by kernel_rfl) (fun _ _ _ h => h) (by rfl) (fun w' hS => ?hhb0) ?rhb0
   case hhb0 => go_simp; with_reducible rfl
   try simp only [Act.put, sA, sZ, sS]
   refine region_take 1 27 (v := ?vhb1) rfl rfl (by kernel_rfl) (by kernel_rfl) (by kernel_rfl) (fun _ _ _ h => h) (by rfl) (fun w' hS => ?hhb1) ?rhb1
   case hhb1 => go_simp; with_reducible rfl
   try simp only [Act.put, sA, sZ, sS]
   refine region_take 2 28 (v := ?vhb2) rfl rfl (by kernel_rfl) (by kernel_rfl) (by kernel_rfl) (fun _ _ _ h => h) (by rfl) (fun w' hS => ?hhb2) ?rhb2
   case hhb2 => go_simp; with_reducible rfl
   try simp only [Act.put, sA, sZ, sS]
   refine region_take 5 31 (v := ?vhb5) rfl rfl (by kernel_rfl) (by kernel_rfl) (by kernel_rfl) (fun _ _ _ h => h) (by rfl) (fun w' hS => ?hhb5) ?rhb5
   case hhb5 => go_simp; with_reducible rfl
   try simp only [Act.put, sA, sZ, sS]
   refine region_take 6 32 (v := ?vhb6) rfl rfl (by kernel_rfl) (by kernel_rfl) (by kernel_rfl) (fun _ _ _ h => h) (by rfl) (fun w' hS => ?hhb6) ?rhb6
   case hhb6 => go_simp; with_reducible rfl
   try simp only [Act.put, sA, sZ, sS]
   refine region_take 7 33 (v := ?vhb7) rfl rfl (by kernel_rfl) (by kernel_rfl) (by kernel_rfl) (fun _ _ _ h => h) (by rfl) (fun w' hS => ?hhb7) ?rhb7
   case hhb7 => go_simp; with_reducible rfl
   try simp only [Act.put, sA, sZ, sS]
   refine wpAnyH_ready (rs := [3]) (by kernel_rfl) (by simp) (AllReadyH.cons rfl (fun K hK => ?_) AllReadyH.nil)
   go_simp
   refine (HOf.out _).mono ?_
   rintro e w6 ⟨rfl, hP6⟩
   refine hK.out _ _ (hP6) (fun hHeld => ?_)
   clear hK K hHeld
   refine region_now (hP6) ?_
   try simp only [Act.put, sA, sZ, sS]
   refine region_take 4 30 (v := ?vhb4) rfl rfl (by kernel_rfl) (by kernel_rfl) (by kernel_rfl) (fun _ _ _ h => h) (by rfl) (fun w' hS => ?hhb4) ?rhb4
   case hhb4 => go_simp; with_reducible rfl
   try simp only [Act.put, sA, sZ, sS]
   refine wpAnyH_ready (rs := [8]) (by kernel_rfl) (by simp) (AllReadyH.cons rfl (fun K hK => ?_) AllReadyH.nil)
   go_simp
   refine (HOf.out _).mono ?_
   rintro e w7 ⟨rfl, hP7⟩
   refine hK.out _ _ (hP7) (fun hHeld => ?_)
   clear hK K hHeld
   refine region_now (hP7) ?_
   try simp only [Act.put, sA, sZ, sS]
   refine region_take 9 35 (v := ?vhb9) rfl rfl (by kernel_rfl) (by kernel_rfl) (by kernel_rfl) (fun _ _ _ h => h) (by rfl) (fun w' hS => ?hhb9) ?rhb9
   case hhb9 => go_simp; with_reducible rfl
   try simp only [Act.put, sA, sZ, sS]
   refine region_take 10 6 (v := ?vhb10) rfl rfl (by kernel_rfl) (by kernel_rfl) (by kernel_rfl) (fun _ _ _ h => h) (by rfl) (fun w' hS => ?hhb10) ?rhb10
   case hhb10 => go_simp; with_reducible rfl
   try simp only [Act.put, sA, sZ, sS]
   refine region_take 11 7 (v := ?vhb11) rfl rfl (by kernel_rfl) (by kernel_rfl) (by kernel_rfl) (fun _ _ _ h => h) (by rfl) (fun w' hS => ?hhb11) ?rhb11
   case hhb11 => go_simp; with_reducible rfl
   try simp only [Act.put, sA, sZ, sS]
   refine wpAnyH_done (by kernel_rfl) ?_ _
   have hP9 : Pure w w7 := (hPw.drew.pure hP6).pure hP7
   clear d0 d1 d2 k0 k1 k2 HOf hP6 hP7
   go_wp2_with fail
   go_roundw
   case rel => exact ⟨k + 1, min lo ln, max hi ln, by omega, by go_num, by congr 1; omega, by congr 1; omega, HL2, HI2, by omega, by omega, hP9⟩
   case measure => simp [intOf]; omega
  ·have hki : ¬ (k : Int) < (n : Int) := by omega
   obtain rfl : n = k := by omega
   have hl : lo = LE := by rw [HL.out, List.take_of_length_le (by rw [HLEN.out]; omega), least_fold HNE.out, HLE.out]
   have hi' : hi = most h.ls := by rw [HI.out, List.take_of_length_le (by rw [HLEN.out]; omega), most_fold HNE.out]
   have hle : lo ≤ hi := by rw [hl, HLE.out, hi']; exact least_le_most HNE.out
   obtain ⟨dv, hdv⟩ : ∃ d, d = hi - lo := ⟨_, rfl⟩
   have hdi : (hi : Int) - (lo : Int) = (dv : Int) := by omega
   have hwid : wid dv = WI := by rw [HWI.out, hdv, hl, HLE.out, hi']; rfl
   have hud : IntKind.u32.wrap (dv : Int) = (dv : Int) := IntWalk.u32_in _ (by omega)
   have HW := qh (fun W => hwid ▸ width_any dv W (by omega))
   subst hl
   clear hi' hdv hwid HL HI HLE HWI
   go_wp2_with fail
   refine (HW.out _).mono ?_
   rintro e w9 ⟨rfl, hw9⟩
   obtain rfl := hw9.symm
   go_wp2_with fail
   go_ret2
   exact ⟨rfl, hPr⟩
def szs : List Nat := [32, 32, 16, 32, 16, 32, 16, 32, 16, 16, 16, 16, 16]
def offs (k : Nat) : Nat := (szs.take k).sum
theorem szs_at (k : Nat) (h : k < 13) : ∃ s, szs[k]? = some s ∧ s ≤ 32 ∧ offs k + s ≤ 288 ∧ offs (k + 1) = offs k + s := by
 have h' : k = 0 ∨ k = 1 ∨ k = 2 ∨ k = 3 ∨ k = 4 ∨ k = 5 ∨ k = 6 ∨ k = 7 ∨ k = 8 ∨ k = 9 ∨ k = 10 ∨ k = 11 ∨ k = 12 := by omega
 rcases h' with rfl | rfl | rfl | rfl | rfl | rfl | rfl | rfl | rfl | rfl | rfl | rfl | rfl <;> exact ⟨_, rfl, by decide, by decide, by decide⟩
def hdv (bs : List Bool) (k : Nat) : List Nat := (List.range k).map (fun j => numAt bs (offs j) (szs.getD j 0))
theorem hdv_succ (bs : List Bool) (k s : Nat) (h : szs[k]? = some s) : hdv bs (k + 1) = hdv bs k ++ [numAt bs (offs k) s] := by
 simp [hdv, List.range_succ, List.getD_eq_getElem?_getD, h]
def DecRes (bs : List Bool) (n : Int) (w : World) (e : Ending) (w' : World) : Prop := ∃ (r : DRes) (ps : List PH) (oa : Option Addr) (oc : Nat), e = .returned (.tuple #[.int .i64 r.a, .slice oa ps.length oc, .int .i64 r.m, .int .i64 r.e]) ∧ DecTo bs n r ∧ ps.map (fun p => (p.o, p.l, p.sh)) = resV r ∧ Hints w' oa ps ∧ (ps.length ≤ 2048 ∧ ∀ p ∈ ps, ∀ g, p.sa = some g → w.heap.size ≤ g.block) ∧ Pure w w'
theorem decRes_err {bs : List Bool} {n : Int} {w w' : World} {E : Int} (h : DecTo bs n (dErr E)) (hP : Pure w w') : DecRes bs n w (.returned (.tuple #[.int .i64 0, .slice none 0 0, .int .i64 0, .int .i64 E])) w' :=
 ⟨dErr E, [], none, 0, rfl, h, rfl, ⟨row_nil _ _, (fun p hp => by cases hp), (fun p hp => by cases hp)⟩, ⟨Nat.zero_le _, fun p hp => by cases hp⟩, hP⟩
set_option maxHeartbeats 8000000 in
theorem refdecode_any (bd : Option Addr) (bc : Nat) (bl : List UInt8) (n : Int) (w : World) (hb : Bytes w bd bl) (hnil : bd = none → bc = 0) (hle : bl.length ≤ bc) (hl : bl.length ≤ 5000000) :
 Calls Tryz.prog 48 #[.slice bd bl.length bc, .int .i64 n] w (DecRes (bitsOf true bl) n w) := by
 have HBits := qh (refbits_any true bd bc bl w hb (by omega))
 obtain ⟨bs, hbs⟩ : ∃ bs, bs = bitsOf true bl := ⟨_, rfl⟩
 have hb8 : bs.length = 8 * bl.length := by rw [hbs]; exact bitsOf_length true bl
 rw [← hbs] at HBits ⊢
 have HB8 : Hid (bs.length % 8 = 0) := qh (by omega)
 have hbl8 : bs.length ≤ 40000000 := by omega
 clear hbs hb8 hb
 by_cases hn0 : n < 1
 ·have HTo : Hid (DecTo bs n (dErr 2)) := qh (Or.inl ⟨inB_false.2 (Or.inl hn0), rfl⟩)
  go_enter Tryz.func48, Tryz.ntmps48
  go_wp2_with fail
  refine bodyPost_ret (v := .tuple #[.int .i64 0, .slice none 0 0, .int .i64 0, .int .i64 2]) (by simp [results, Tryz.results48, go_sem]) rfl (decRes_err HTo.out (Ext.refl _ _))
 ·by_cases hn1 : 2048 < n
  ·have HTo : Hid (DecTo bs n (dErr 2)) := qh (Or.inl ⟨inB_false.2 (Or.inr hn1), rfl⟩)
   go_enter Tryz.func48, Tryz.ntmps48
   go_wp2_with fail
   refine bodyPost_ret (v := .tuple #[.int .i64 0, .slice none 0 0, .int .i64 0, .int .i64 2]) (by simp [results, Tryz.results48, go_sem]) rfl (decRes_err HTo.out (Ext.refl _ _))
  ·have HIn : Hid (inB n 1 2048 = true) := qh (inB_true.2 ⟨by omega, by omega⟩)
   obtain ⟨N, rfl⟩ : ∃ N : Nat, n = (N : Int) := ⟨n.toNat, by omega⟩
   have hN1 : 1 ≤ N := by omega
   have hN2 : N ≤ 2048 := by omega
   have g1 : decide ((N : Int) < 1) = false := decide_eq_false hn0
   have g2 : decide ((2048 : Int) < (N : Int)) = false := decide_eq_false hn1
   go_enter Tryz.func48, Tryz.ntmps48
   go_wp2_with fail
   clear g1 g2
   refine HBits.out.mono ?_
   rintro e w2 ⟨ba, bcap, rfl, hBR⟩
   obtain ⟨_, _, hh, hbc, _, hba, hbx⟩ := own_form hBR.own
   cases hh
   have hRow := own_row hBR.own
   have hP2 := hBR.pure
   have hbn : ∀ g, ba = some g → g.block < w2.heap.size := fun g hg => (hbx g hg).2.1
   clear hBR hbx HBits
   by_cases hlen : (bs.length : Int) < 288
   ·have HTo : Hid (DecTo bs (N : Int) (dErr 10)) := qh (Or.inr ⟨HIn.out, Or.inl ⟨by omega, rfl⟩⟩)
    go_wp2_with fail
    refine bodyPost_ret (v := .tuple #[.int .i64 0, .slice none 0 0, .int .i64 0, .int .i64 10]) (by simp [results, Tryz.results48, go_sem]) rfl (decRes_err HTo.out hP2)
   ·have HLen : Hid (288 ≤ bs.length) := qh (by omega)
    obtain ⟨i, hi, hz, hsz, hby⟩ := info_parts infoInt
    have HI := qh hi
    have HZ := qh hz
    have HSZ := qh hsz
    have HBY := qh hby
    clear hi hz hsz hby
    have hSz := row_at (w := w2) (e := 3) (m := (0, 0)) (b := w2.heap.size) (szs.map intV) rfl rfl
    have hP3 := hP2.pure (ext_alloc w2 (.cells #[.int .i64 32, .int .i64 32, .int .i64 16, .int .i64 32, .int .i64 16, .int .i64 32, .int .i64 16, .int .i64 32, .int .i64 16, .int .i64 16, .int .i64 16, .int .i64 16, .int .i64 16] 3))
    go_wp2_with (refine wpList_make_full _ rfl (.const (.int .i64 13)) (.const (.int .i64 13)) 23 rfl (w2.heap.size + 1) 3 i (.int .i64 0) 1 Tryz.underlying23 HI.out HZ.out HSZ.out .i64 .i64 13 13 13 rfl rfl rfl rfl (by rw [HBY.out]; omega) (by unfold maxLen; omega) (by simp) ?_)
    intro w4 hO4 hg4
    have hA4 := (ext_alloc w2 (.cells #[.int .i64 32, .int .i64 32, .int .i64 16, .int .i64 32, .int .i64 16, .int .i64 32, .int .i64 16, .int .i64 32, .int .i64 16, .int .i64 16, .int .i64 16, .int .i64 16, .int .i64 16] 3)).pure ((ext_of_grown hg4).mono (fun _ _ e => by cases e))
    have hP4 := hP2.pure hA4
    have hSz4 := hSz.ext ((ext_of_grown hg4).mono (fun _ _ e => by cases e) : Pure _ w4) (fun _ _ => id)
    have hRow4 := hRow.ext hA4 (fun _ _ => id)
    have hz4 : w2.heap.size + 1 < w4.heap.size := (hO4.lt _ rfl).2
    obtain ⟨sb, hsb⟩ : ∃ z, z = w2.heap.size := ⟨_, rfl⟩
    rw [← hsb] at hO4 hSz4 hz4 hbn ⊢
    have hsw : w.heap.size ≤ sb := by rw [hsb]; exact hP2.size
    clear hg4 hA4 hP3 hSz hRow hP2 hsb
    obtain ⟨hd, hhd⟩ : ∃ z, z = sb + 1 := ⟨_, rfl⟩
    rw [← hhd] at hO4 hz4 ⊢
    have hsd : sb < hd := by omega
    clear hhd
    have hlen' : 288 ≤ bs.length := HLen.out
    go_wp2_with fail
    go_loopw [11, 12] (fun p i W => ∃ (k : Nat) (xs : List Value), k ≤ 13 ∧ i = .int .i64 k ∧ p = .int .i64 (offs k : Nat) ∧ Hid (xs.take k = (hdv bs k).map intV) ∧ W.ownsRow hd 3 1 (.slice (some ⟨hd, 0, none⟩) 13 13) 13 xs ∧ Ext (fun i => i = hd) w4 W) (fun _ i _ => 13 - (intOf i).toNat)
    case atStart => exact ⟨0, _, Nat.zero_le _, rfl, rfl, qh (by simp [hdv]), hO4, Ext.refl _ _⟩
    case round =>
     obtain ⟨k, xs, hk, rfl, rfl, HX, hO, hE⟩ := hrel
     clear hO4
     have hRowk := hRow4.ext hE (fun g hg e => by have := hbn g hg; have e' : g.block = hd := e; omega)
     obtain ⟨ok, hok⟩ : ∃ z, z = offs k := ⟨_, rfl⟩
     rw [← hok]
     by_cases hlt : k < 13
     ·
      have hki : (k : Int) < 13 := by omega
      obtain ⟨s, hs, hs32, hos, hon⟩ := szs_at k hlt
      rw [← hok] at hos hon
      obtain ⟨b', o', e', hc⟩ := hSz4 k (intV s) (by rw [List.getElem?_map, hs]; rfl)
      cases e'
      have hc2 : wr.cell? ⟨sb, k, none⟩ = some (.int .i64 s) := hE.cell_some (by rw [Nat.zero_add] at hc; exact hc) (fun e => by have e' : sb = hd := e; omega)
      obtain ⟨v, hv⟩ : ∃ z, z = numAt bs ok s := ⟨_, rfl⟩
      have HG0 := refget_yes bs ba bcap ok s wr hRowk hbc hba (by omega) hs32 (by omega)
      rw [← hv] at HG0
      have HG := qh HG0
      obtain ⟨g, hg, _, ⟨y, hy⟩, hf, hO'⟩ := own_set hO k hlt (.int .i64 v)
      cases hg
      have hxl : xs.length = 13 := by have := hO.1; omega
      have HX' : Hid ((xs.set k (.int .i64 v)).take (k + 1) = (hdv bs (k + 1)).map intV) := qh (by
       rw [List.take_succ_eq_append_getElem (by simpa using (by omega : k < xs.length))]
       rw [hdv_succ bs k s hs, List.map_append, ← HX.out, ← hok, ← hv]
       simp [List.take_set_of_le, intV])
      have HON := qh hon
      have hE' := hE.setCell (p := ⟨hd, k, none⟩) (fun _ => rfl) (.int .i64 v)
      clear hO HG0 hc hv hok hs hon hRowk hE
      go_wp2_with fail
      refine HG.out.mono ?_
      rintro e w5 ⟨rfl, hw5⟩
      obtain rfl := hw5.symm
      clear HG
      go_wp2_with fail
      go_roundw
      case rel => exact ⟨k + 1, _, by omega, by go_num, by rw [HON.out]; go_num, HX', hO', hE'⟩
      case measure => simp [intOf]; omega
     ·have hki : ¬ (k : Int) < 13 := by omega
      obtain rfl : k = 13 := by omega
      have hok8 : ok = 288 := by rw [hok]; decide
      have hxs : xs = (hdv bs 13).map intV := by
       have hxl : xs.length = 13 := by have := hO.1; omega
       have := HX.out
       rwa [List.take_of_length_le (by omega)] at this
      have hHd : ∀ (j x : Nat), (hdv bs 13)[j]? = some x → wr.cell? ⟨hd, j, none⟩ = some (.int .i64 x) := fun j x hj => by
       obtain ⟨b', o', e', hc⟩ := own_row hO j (intV x) (by rw [hxs, List.getElem?_map, hj]; rfl)
       cases e'
       rw [Nat.zero_add] at hc; exact hc
      obtain ⟨v0, hv0⟩ : ∃ z, z = h0 bs := ⟨_, rfl⟩
      have c0 : wr.cell? ⟨hd, 0, none⟩ = some (.int .i64 v0) := hHd 0 v0 (by rw [hv0]; rfl)
      have HV0 := qh hv0
      obtain ⟨v1, hv1⟩ : ∃ z, z = h1 bs := ⟨_, rfl⟩
      have c1 : wr.cell? ⟨hd, 1, none⟩ = some (.int .i64 v1) := hHd 1 v1 (by rw [hv1]; rfl)
      have HV1 := qh hv1
      obtain ⟨v2, hv2⟩ : ∃ z, z = h2 bs := ⟨_, rfl⟩
      have c2 : wr.cell? ⟨hd, 2, none⟩ = some (.int .i64 v2) := hHd 2 v2 (by rw [hv2]; rfl)
      have HV2 := qh hv2
      obtain ⟨v3, hv3⟩ : ∃ z, z = h3 bs := ⟨_, rfl⟩
      have c3 : wr.cell? ⟨hd, 3, none⟩ = some (.int .i64 v3) := hHd 3 v3 (by rw [hv3]; rfl)
      have HV3 := qh hv3
      obtain ⟨v4, hv4⟩ : ∃ z, z = h4 bs := ⟨_, rfl⟩
      have c4 : wr.cell? ⟨hd, 4, none⟩ = some (.int .i64 v4) := hHd 4 v4 (by rw [hv4]; rfl)
      have HV4 := qh hv4
      obtain ⟨v6, hv6⟩ : ∃ z, z = h6 bs := ⟨_, rfl⟩
      have c6 : wr.cell? ⟨hd, 6, none⟩ = some (.int .i64 v6) := hHd 6 v6 (by rw [hv6]; rfl)
      have HV6 := qh hv6
      obtain ⟨v8, hv8⟩ : ∃ z, z = h8 bs := ⟨_, rfl⟩
      have c8 : wr.cell? ⟨hd, 8, none⟩ = some (.int .i64 v8) := hHd 8 v8 (by rw [hv8]; rfl)
      have HV8 := qh hv8
      obtain ⟨v9, hv9⟩ : ∃ z, z = h9 bs := ⟨_, rfl⟩
      have c9 : wr.cell? ⟨hd, 9, none⟩ = some (.int .i64 v9) := hHd 9 v9 (by rw [hv9]; rfl)
      have HV9 := qh hv9
      obtain ⟨v10, hv10⟩ : ∃ z, z = h10 bs := ⟨_, rfl⟩
      have c10 : wr.cell? ⟨hd, 10, none⟩ = some (.int .i64 v10) := hHd 10 v10 (by rw [hv10]; rfl)
      have HV10 := qh hv10
      obtain ⟨v11, hv11⟩ : ∃ z, z = h11 bs := ⟨_, rfl⟩
      have c11 : wr.cell? ⟨hd, 11, none⟩ = some (.int .i64 v11) := hHd 11 v11 (by rw [hv11]; rfl)
      have HV11 := qh hv11
      have lv0 : v0 < 4294967296 := hv0 ▸ numAt_lt32 bs _ 32 (by omega)
      have lv3 : v3 < 4294967296 := hv3 ▸ numAt_lt32 bs _ 32 (by omega)
      have hPk : Pure w wr := hP4.trans hE (fun i hi e => by have e' : i = hd := e; omega)
      have hRowk2 := hRowk
      have HHd := qh hHd
      subst hok8
      clear hxs HX hHd hok hRowk hv0 hv1 hv2 hv3 hv4 hv6 hv8 hv9 hv10 hv11
      have z13 : (1 : Int) < 13 := by omega
      by_cases d1 : (2147483647 : Int) < ((v1 : Nat) : Int)
      ·
       have HTo : Hid (DecTo bs (N : Int) (dErr 27)) := qh (Or.inr ⟨HIn.out, Or.inr ⟨HLen.out, Or.inl ⟨fun hk => by obtain ⟨k1, k2, k3, k4, k5, k6, k7, k8⟩ := hk; have r1 := HV1.out; have r2 := HV2.out; have r4 := HV4.out; have r6 := HV6.out; have r8 := HV8.out; have r9 := HV9.out; have r10 := HV10.out; have r11 := HV11.out; omega, rfl⟩⟩⟩)
       go_wp2_with fail
       refine bodyPost_ret (v := .tuple #[.int .i64 0, .slice none 0 0, .int .i64 0, .int .i64 27]) (by simp [results, Tryz.results48, go_sem]) rfl (decRes_err HTo.out hPk)
      ·have e1 : decide ((2147483647 : Int) < ((v1 : Nat) : Int)) = false := decide_eq_false d1
       by_cases d2 : (32 : Int) < ((v2 : Nat) : Int)
       ·
        have HTo : Hid (DecTo bs (N : Int) (dErr 27)) := qh (Or.inr ⟨HIn.out, Or.inr ⟨HLen.out, Or.inl ⟨fun hk => by obtain ⟨k1, k2, k3, k4, k5, k6, k7, k8⟩ := hk; have r1 := HV1.out; have r2 := HV2.out; have r4 := HV4.out; have r6 := HV6.out; have r8 := HV8.out; have r9 := HV9.out; have r10 := HV10.out; have r11 := HV11.out; omega, rfl⟩⟩⟩)
        go_wp2_with fail
        refine bodyPost_ret (v := .tuple #[.int .i64 0, .slice none 0 0, .int .i64 0, .int .i64 27]) (by simp [results, Tryz.results48, go_sem]) rfl (decRes_err HTo.out hPk)
       ·have e2 : decide ((32 : Int) < ((v2 : Nat) : Int)) = false := decide_eq_false d2
        by_cases d4 : (32 : Int) < ((v4 : Nat) : Int)
        ·
         have HTo : Hid (DecTo bs (N : Int) (dErr 27)) := qh (Or.inr ⟨HIn.out, Or.inr ⟨HLen.out, Or.inl ⟨fun hk => by obtain ⟨k1, k2, k3, k4, k5, k6, k7, k8⟩ := hk; have r1 := HV1.out; have r2 := HV2.out; have r4 := HV4.out; have r6 := HV6.out; have r8 := HV8.out; have r9 := HV9.out; have r10 := HV10.out; have r11 := HV11.out; omega, rfl⟩⟩⟩)
         go_wp2_with fail
         refine bodyPost_ret (v := .tuple #[.int .i64 0, .slice none 0 0, .int .i64 0, .int .i64 27]) (by simp [results, Tryz.results48, go_sem]) rfl (decRes_err HTo.out hPk)
        ·have e4 : decide ((32 : Int) < ((v4 : Nat) : Int)) = false := decide_eq_false d4
         by_cases d6 : (32 : Int) < ((v6 : Nat) : Int)
         ·
          have HTo : Hid (DecTo bs (N : Int) (dErr 27)) := qh (Or.inr ⟨HIn.out, Or.inr ⟨HLen.out, Or.inl ⟨fun hk => by obtain ⟨k1, k2, k3, k4, k5, k6, k7, k8⟩ := hk; have r1 := HV1.out; have r2 := HV2.out; have r4 := HV4.out; have r6 := HV6.out; have r8 := HV8.out; have r9 := HV9.out; have r10 := HV10.out; have r11 := HV11.out; omega, rfl⟩⟩⟩)
          go_wp2_with fail
          refine bodyPost_ret (v := .tuple #[.int .i64 0, .slice none 0 0, .int .i64 0, .int .i64 27]) (by simp [results, Tryz.results48, go_sem]) rfl (decRes_err HTo.out hPk)
         ·have e6 : decide ((32 : Int) < ((v6 : Nat) : Int)) = false := decide_eq_false d6
          by_cases d8 : (32 : Int) < ((v8 : Nat) : Int)
          ·
           have HTo : Hid (DecTo bs (N : Int) (dErr 27)) := qh (Or.inr ⟨HIn.out, Or.inr ⟨HLen.out, Or.inl ⟨fun hk => by obtain ⟨k1, k2, k3, k4, k5, k6, k7, k8⟩ := hk; have r1 := HV1.out; have r2 := HV2.out; have r4 := HV4.out; have r6 := HV6.out; have r8 := HV8.out; have r9 := HV9.out; have r10 := HV10.out; have r11 := HV11.out; omega, rfl⟩⟩⟩)
           go_wp2_with fail
           refine bodyPost_ret (v := .tuple #[.int .i64 0, .slice none 0 0, .int .i64 0, .int .i64 27]) (by simp [results, Tryz.results48, go_sem]) rfl (decRes_err HTo.out hPk)
          ·have e8 : decide ((32 : Int) < ((v8 : Nat) : Int)) = false := decide_eq_false d8
           by_cases d9 : (32 : Int) < ((v9 : Nat) : Int)
           ·
            have HTo : Hid (DecTo bs (N : Int) (dErr 27)) := qh (Or.inr ⟨HIn.out, Or.inr ⟨HLen.out, Or.inl ⟨fun hk => by obtain ⟨k1, k2, k3, k4, k5, k6, k7, k8⟩ := hk; have r1 := HV1.out; have r2 := HV2.out; have r4 := HV4.out; have r6 := HV6.out; have r8 := HV8.out; have r9 := HV9.out; have r10 := HV10.out; have r11 := HV11.out; omega, rfl⟩⟩⟩)
            go_wp2_with fail
            refine bodyPost_ret (v := .tuple #[.int .i64 0, .slice none 0 0, .int .i64 0, .int .i64 27]) (by simp [results, Tryz.results48, go_sem]) rfl (decRes_err HTo.out hPk)
           ·have e9 : decide ((32 : Int) < ((v9 : Nat) : Int)) = false := decide_eq_false d9
            by_cases d10 : (32 : Int) < ((v10 : Nat) : Int)
            ·
             have HTo : Hid (DecTo bs (N : Int) (dErr 27)) := qh (Or.inr ⟨HIn.out, Or.inr ⟨HLen.out, Or.inl ⟨fun hk => by obtain ⟨k1, k2, k3, k4, k5, k6, k7, k8⟩ := hk; have r1 := HV1.out; have r2 := HV2.out; have r4 := HV4.out; have r6 := HV6.out; have r8 := HV8.out; have r9 := HV9.out; have r10 := HV10.out; have r11 := HV11.out; omega, rfl⟩⟩⟩)
             go_wp2_with fail
             refine bodyPost_ret (v := .tuple #[.int .i64 0, .slice none 0 0, .int .i64 0, .int .i64 27]) (by simp [results, Tryz.results48, go_sem]) rfl (decRes_err HTo.out hPk)
            ·have e10 : decide ((32 : Int) < ((v10 : Nat) : Int)) = false := decide_eq_false d10
             by_cases d11 : (32 : Int) < ((v11 : Nat) : Int)
             ·
              have HTo : Hid (DecTo bs (N : Int) (dErr 27)) := qh (Or.inr ⟨HIn.out, Or.inr ⟨HLen.out, Or.inl ⟨fun hk => by obtain ⟨k1, k2, k3, k4, k5, k6, k7, k8⟩ := hk; have r1 := HV1.out; have r2 := HV2.out; have r4 := HV4.out; have r6 := HV6.out; have r8 := HV8.out; have r9 := HV9.out; have r10 := HV10.out; have r11 := HV11.out; omega, rfl⟩⟩⟩)
              go_wp2_with fail
              refine bodyPost_ret (v := .tuple #[.int .i64 0, .slice none 0 0, .int .i64 0, .int .i64 27]) (by simp [results, Tryz.results48, go_sem]) rfl (decRes_err HTo.out hPk)
             ·have e11 : decide ((32 : Int) < ((v11 : Nat) : Int)) = false := decide_eq_false d11
              clear e1 e2 e4 e6 e8 e9 e10 e11
              obtain ⟨pi, hpi, hpz, hps, hpb⟩ := info_parts infoPage
              have HPI := qh hpi
              have HPZ := qh hpz
              have HPS := qh hps
              have HPB := qh hpb
              clear hpi hpz hps hpb
              go_wp2_with (refine wpList_make_full _ rfl (.tmp 111) (.tmp 111) 22 rfl wr.heap.size 53 pi (.agg #[.int .i64 0, .int .i64 0, .slice none 0 0]) 3 Tryz.underlying22 HPI.out HPZ.out HPS.out .i64 .i64 (N : Int) (N : Int) N rfl rfl rfl rfl (by rw [HPB.out]; omega) (by unfold maxLen; omega) (Nat.le_refl _) ?_)
              intro w6 hO6 hg6
              have hA6 : Pure wr w6 := (ext_of_grown hg6).mono (fun _ _ e => by cases e)
              rw [made_pages] at hO6
              obtain ⟨ob, hob⟩ : ∃ z, z = wr.heap.size := ⟨_, rfl⟩
              have hOut6 : OutIs w6 ob N (List.replicate N noPage) := ⟨by rw [hob]; exact hO6, List.length_replicate⟩
              have hRow6 := hRowk2.ext hA6 (fun _ _ => id)
              have hP6 := hPk.pure hA6
              have hHd6 : Hid (∀ j x : Nat, (hdv bs 13)[j]? = some x → w6.cell? ⟨hd, j, none⟩ = some (.int .i64 x)) := qh (fun j x hj => hA6.cell_some (HHd.out j x hj) id)
              have hdo : hd < ob := by rw [hob]; exact Nat.lt_of_lt_of_le hz4 hE.size
              have hwo : w.heap.size ≤ ob := by rw [hob]; exact hPk.size
              have hbo : ∀ g, ba = some g → g.block ≠ ob := fun g hg => by have := hbn g hg; omega
              have m2 : w6.cell? ⟨hd, 2, none⟩ = some (.int .i64 v2) := hA6.cell_some c2 id
              rw [← hob]
              clear hob hg6 hA6 hO6 hRowk2 hPk hO hE c0 c1 c2 c3 c4 c6 c8 c9 c10 c11 hP4 hRow4 hSz4
              have HR1 := qh (refrow_any bs ba bcap 288 N v2 w6 hRow6 hbc hba (by omega) (by omega) (by omega) (by omega))
              go_wp2_with fail
              refine HR1.out.mono ?_
              clear HR1 m2
              have HER1 : Hid (∀ e : Int, e ≠ 0 → RowE bs 288 N v2 (okO v0) e → DecTo bs (N : Int) (dErr e)) := qh (fun e he h => Or.inr ⟨HIn.out, Or.inr ⟨HLen.out, Or.inr ⟨⟨by rw [← HV1.out]; omega, by rw [← HV2.out]; omega, by rw [← HV4.out]; omega, by rw [← HV6.out]; omega, by rw [← HV8.out]; omega, by rw [← HV9.out]; omega, by rw [← HV10.out]; omega, by rw [← HV11.out]; omega⟩, e, by rw [HV2.out, HV0.out] at h; exact h, Or.inl ⟨he, rfl⟩⟩⟩⟩)
              rintro e w7 ⟨K, xa, xc, hFit, rfl, hOx, hEx⟩
              obtain ⟨at2, hatv⟩ : ∃ z : Int, z = (if K = N then ((al8 (288 + N * v2) : Nat) : Int) else 0) := ⟨_, rfl⟩
              obtain ⟨is2, hisv⟩ : ∃ z : Bool, z = decide (K = N) := ⟨_, rfl⟩
              rw [← hatv, ← hisv]
              have HAT := qh hatv
              have HIS := qh hisv
              clear hatv hisv
              obtain ⟨_, _, hh, hxc, _, hxa, hxb⟩ := own_form hOx
              cases hh
              have hRx := own_row hOx
              have hxn : ∀ g, xa = some g → w6.heap.size ≤ g.block := fun g hg => (hxb g hg).1
              have hobl := hOut6.lt
              have hOut7 := hOut6.ext hEx id
              have hRow7 := hRow6.ext hEx (fun _ _ => id)
              have hP7 := hP6.pure hEx
              have hHd7 : Hid (∀ j x : Nat, (hdv bs 13)[j]? = some x → w7.cell? ⟨hd, j, none⟩ = some (.int .i64 x)) := qh (fun j x hj => hEx.cell_some (hHd6.out j x hj) id)
              have hKle := hFit.le
              clear hxb hOx hEx hOut6 hRow6 hP6 hHd6
              go_wp2_with fail
              go_loopw [17] (fun i W => ∃ (k : Nat) (ps : List PH), k ≤ K ∧ i = .int .i64 k ∧ OutIs W ob N ps ∧ Hid ((ps.take k).map (fun p => p.o) = (vals bs 288 v2 k).map (fun x => ((v0 + x : Nat) : Int))) ∧ Hid (True) ∧ Hid (okO v0 (vals bs 288 v2 k)) ∧ Ext (fun i => i = ob) w7 W) (fun i _ => K - (intOf i).toNat)
              case atStart => exact ⟨0, List.replicate N noPage, Nat.zero_le _, rfl, hOut7, qh (by simp [vals]), qh trivial, qh (fun x hx => by simp [vals] at hx), Ext.refl _ _⟩
              case round =>
               obtain ⟨k, ps, hk, rfl, hOut, HO, HKp, HOk, hE⟩ := hrel
               clear hOut7
               have hPk := hP7.trans hE (fun i hi e => by have e' : i = ob := e; omega)
               by_cases hlt : k < K
               ·
                have hki : (k : Int) < (K : Int) := by omega
                have hkN : k < N := by omega
                have hkNi : (k : Int) < (N : Int) := by omega
                have hkp : k < ps.length := by have := hOut.len; omega
                obtain ⟨x, hx⟩ : ∃ x, x = numAt bs (288 + k * v2) v2 := ⟨_, rfl⟩
                have hx32 : x < 4294967296 := hx ▸ numAt_lt32 bs _ v2 (by omega)
                obtain ⟨xb, xo, rfl, hcx⟩ := hRx k (intV x) (by rw [List.getElem?_map, vals_at bs 288 v2 K k hlt, ← hx]; rfl)
                have hxbn : w6.heap.size ≤ xb := hxn _ rfl
                have hxob : xb ≠ ob := by omega
                have hcx2 : wr.drew.cell? ⟨xb, xo + k, none⟩ = some (.int .i64 x) := hE.cell_some hcx (fun e => hxob e)
                have hch : wr.drew.cell? ⟨hd, 0, none⟩ = some (.int .i64 v0) := hE.cell_some (hHd7.out 0 v0 (by rw [HV0.out]; rfl)) (fun e => by have e' : hd = ob := e; omega)
                have kx := fun w' (hS : Ext (fun i => i = ob) wr.drew w') => hS.cell_some hcx2 (fun e => hxob e)
                have kh := fun w' (hS : Ext (fun i => i = ob) wr.drew w') => hS.cell_some hch (fun e => by have e' : hd = ob := e; omega)
                have hwk : IntKind.i64.wrap ((v0 : Int) + (x : Int)) = (v0 : Int) + (x : Int) := IntWalk.i64_in _ (by omega)
                obtain ⟨pp, hpp⟩ : ∃ pp : PH, pp = { ps[k] with o := (v0 : Int) + (x : Int) } := ⟨_, rfl⟩
                obtain ⟨⟨y, hy⟩, hf, hOut'⟩ := hOut.set k 0 hkp (by omega) (.int .i64 ((v0 : Int) + (x : Int))) pp (by rw [hpp]; rfl)
                try simp only [Nat.add_zero] at hy hf hOut'
                have hyd : wr.drew.cell? ⟨ob, k * 3, none⟩ = some y := hy
                have hfd : wr.drew.frozen? ⟨ob, k * 3, none⟩ = false := hf
                have HO' : Hid (((ps.set k pp).take (k + 1)).map (fun p => p.o) = (vals bs 288 v2 (k + 1)).map (fun x => ((v0 + x : Nat) : Int))) := qh (by
                 rw [take_map_set (fun p => p.o) ps k pp hkp, HO.out, vals_succ, ← hx, List.map_append, hpp]; simp)
                have HKpp : Hid (True) := qh (by trivial)
                have hOut2 : OutIs (wr.setCell ⟨ob, k * 3, none⟩ (.int .i64 ((v0 : Int) + (x : Int)))).drew ob N (ps.set k pp) := hOut'.ext ((Ext.refl (fun _ => False) _).drew) id
                have hcell : (cellsP ((ps.set k pp)[k]'(by simpa using hkp)))[0]? = some (.int .i64 ((v0 : Int) + (x : Int))) := by rw [List.getElem_set_self, hpp]; rfl
                have HX := qh hx
                clear hx hcx hOut hOut' hy hf
                go_wp2_with fail
                refine region_start (fun i => i = ob) (by kernel_rfl) ?_
                try simp only [Act.put, sA, sZ, sS]
                refine region_take 0 130 (v := ?vpg0) rfl rfl (by kernel_rfl) (by kernel_rfl) (by kernel_rfl) (fun _ _ _ h => h) (by rfl) (fun w' hS => ?hpg0) ?rpg0
                case hpg0 => go_simp; with_reducible rfl
                try simp only [Act.put, sA, sZ, sS]
                refine region_take 1 131 (v := ?vpg1) rfl rfl (by kernel_rfl) (by kernel_rfl) (by kernel_rfl) (fun _ _ _ h => h) (by rfl) (fun w' hS => ?hpg1) ?rpg1
                case hpg1 => go_simp; with_reducible rfl
                try simp only [Act.put, sA, sZ, sS]
                refine region_take 2 132 (v := ?vpg2) rfl rfl (by kernel_rfl) (by kernel_rfl) (by kernel_rfl) (fun _ _ _ h => h) (by rfl) (fun w' hS => ?hpg2) ?rpg2
                case hpg2 => go_simp; with_reducible rfl
                try simp only [Act.put, sA, sZ, sS]
                refine region_take 3 133 (v := ?vpg3) rfl rfl (by kernel_rfl) (by kernel_rfl) (by kernel_rfl) (fun _ _ _ h => h) (by rfl) (fun w' hS => ?hpg3) ?rpg3
                case hpg3 => go_simp; with_reducible rfl
                try simp only [Act.put, sA, sZ, sS]
                refine region_take 4 134 (v := ?vpg4) rfl rfl (by kernel_rfl) (by kernel_rfl) (by kernel_rfl) (fun _ _ _ h => h) (by rfl) (fun w' hS => ?hpg4) ?rpg4
                case hpg4 => go_simp; with_reducible rfl
                try simp only [Act.put, sA, sZ, sS]
                refine region_take 5 135 (v := ?vpg5) rfl rfl (by kernel_rfl) (by kernel_rfl) (by kernel_rfl) (fun _ _ _ h => h) (by rfl) (fun w' hS => ?hpg5) ?rpg5
                case hpg5 => go_simp; with_reducible rfl
                try simp only [Act.put, sA, sZ, sS]
                refine region_take 6 136 (v := ?vpg6) rfl rfl (by kernel_rfl) (by kernel_rfl) (by kernel_rfl) (fun _ _ _ h => h) (by rfl) (fun w' hS => ?hpg6) ?rpg6
                case hpg6 => go_simp; with_reducible rfl
                try simp only [Act.put, sA, sZ, sS]
                refine region_take 7 137 (v := ?vpg7) rfl rfl (by kernel_rfl) (by kernel_rfl) (by kernel_rfl) (fun _ _ _ h => h) (by rfl) (fun w' hS => ?hpg7) ?rpg7
                case hpg7 => go_simp; with_reducible rfl
                try simp only [Act.put, sA, sZ, sS]
                refine region_take 8 138 (v := ?vpg8) rfl rfl (by kernel_rfl) (by kernel_rfl) (by kernel_rfl) (fun _ _ _ h => h) (by rfl) (fun w' hS => ?hpg8) ?rpg8
                case hpg8 => go_simp; with_reducible rfl
                try simp only [Act.put, sA, sZ, sS]
                refine region_take 9 139 (v := ?vpg9) rfl rfl (by kernel_rfl) (by kernel_rfl) (by kernel_rfl) (fun _ _ _ h => h) (by rfl) (fun w' hS => ?hpg9) ?rpg9
                case hpg9 => go_simp; with_reducible rfl
                try simp only [Act.put, sA, sZ, sS]
                refine region_take 10 140 (v := ?vpg10) rfl rfl (by kernel_rfl) (by kernel_rfl) (by kernel_rfl) (fun _ _ _ h => h) (by rfl) (fun w' hS => ?hpg10) ?rpg10
                case hpg10 => go_simp; with_reducible rfl
                try simp only [Act.put, sA, sZ, sS]
                refine region_take 11 141 (v := ?vpg11) rfl rfl (by kernel_rfl) (by kernel_rfl) (by kernel_rfl) (fun _ _ _ h => h) (by rfl) (fun w' hS => ?hpg11) ?rpg11
                case hpg11 => go_simp; with_reducible rfl
                try simp only [Act.put, sA, sZ, sS]
                refine wpAnyH_ready (rs := [12]) (by kernel_rfl) (by simp) (AllReadyH.cons rfl (fun K hK => ?_) AllReadyH.nil)
                go_simp
                refine hK.out _ _ ((Ext.refl (fun i => i = ob) wr.drew).setCell (p := ⟨ob, k * 3, none⟩) (fun _ => rfl) _) (fun hHeld => ?_)
                clear hK K hHeld
                refine region_now ((Ext.refl (fun i => i = ob) wr.drew).setCell (p := ⟨ob, k * 3, none⟩) (fun _ => rfl) _) ?_
                try simp only [Act.put, sA, sZ, sS]
                refine wpAnyH_done (by kernel_rfl) ?_ _
                obtain ⟨wS, hwS⟩ : ∃ z, z = (wr.setCell ⟨ob, k * 3, none⟩ (.int .i64 ((v0 : Int) + (x : Int)))).drew := ⟨_, rfl⟩
                have hES : Ext (fun i => i = ob) w7 wS := hwS ▸ (hE.setCell (p := ⟨ob, k * 3, none⟩) (fun _ => rfl) (.int .i64 ((v0 : Int) + (x : Int)))).drew
                have hOS : OutIs wS ob N (ps.set k pp) := hwS ▸ hOut2
                have hPS : Pure w wS := hP7.trans hES (fun i hi e => by have e' : i = ob := e; omega)
                have hcS : wS.cell? ⟨ob, k * 3, none⟩ = some (.int .i64 ((v0 : Int) + (x : Int))) := hOS.cell k 0 (by simpa using hkp) (by omega) hcell
                rw [← hwS]
                clear hwS hyd hfd hcx2 hch kx kh hwk hcell hOut2 hE hPk hpp
                by_cases c7 : (v0 : Int) + (x : Int) < 1
                ·have HTo : Hid (DecTo bs (N : Int) (dErr 27)) := qh (HER1.out 27 (by decide) ⟨K, hFit, Or.inl ⟨fun h => by
                  have h1 := h x (by rw [HX.out]; exact vals_mem bs 288 v2 K k hlt)
                  have := inB_true.1 h1
                  omega, rfl⟩⟩)
                 go_wp2_with fail
                 refine bodyPost_ret (v := .tuple #[.int .i64 0, .slice none 0 0, .int .i64 0, .int .i64 27]) (by simp [results, Tryz.results48, go_sem]) rfl (decRes_err HTo.out hPS)
                ·by_cases c8 : (4096 : Int) < (v0 : Int) + (x : Int)
                 ·have HTo : Hid (DecTo bs (N : Int) (dErr 27)) := qh (HER1.out 27 (by decide) ⟨K, hFit, Or.inl ⟨fun h => by
                   have h1 := h x (by rw [HX.out]; exact vals_mem bs 288 v2 K k hlt)
                   have := inB_true.1 h1
                   omega, rfl⟩⟩)
                  go_wp2_with fail
                  refine bodyPost_ret (v := .tuple #[.int .i64 0, .slice none 0 0, .int .i64 0, .int .i64 27]) (by simp [results, Tryz.results48, go_sem]) rfl (decRes_err HTo.out hPS)
                 ·have HOk' : Hid (okO v0 (vals bs 288 v2 (k + 1))) := qh (fun z hz => by
                   rw [vals_succ, ← HX.out] at hz
                   rcases List.mem_append.1 hz with hz | hz
                   ·exact HOk.out z hz
                   ·rw [List.mem_singleton] at hz; rw [hz]; exact inB_true.2 ⟨by omega, by omega⟩)
                  have g7 : decide ((v0 : Int) + (x : Int) < 1) = false := decide_eq_false c7
                  have g8 : decide ((4096 : Int) < (v0 : Int) + (x : Int)) = false := decide_eq_false c8
                  have hk1 : k + 1 ≤ K := by omega
                  go_wp2_with fail
                  clear g7 g8
                  go_roundw
                  case rel => exact ⟨k + 1, ps.set k pp, hk1, by go_num, hOS, HO', HKpp, HOk', hES⟩
                  case measure => simp [intOf]; omega
               ·have hki : ¬ (k : Int) < (K : Int) := by omega
                obtain rfl : K = k := by omega
                have hROWk := hRow7.ext hE (fun g hg e => by have := hbo g hg; exact this e)
                have hHDk : Hid (∀ j x : Nat, (hdv bs 13)[j]? = some x → wr.cell? ⟨hd, j, none⟩ = some (.int .i64 x)) := qh (fun j x hj => hE.cell_some (hHd7.out j x hj) (fun e => by have e' : hd = ob := e; omega))
                clear hRow7 hP7 hHd7 hRx hxn hE
                by_cases hKn : ¬ K = N
                ·have his : is2 = false := by rw [HIS.out]; exact decide_eq_false hKn
                 subst his
                 have HTo : Hid (DecTo bs (N : Int) (dErr 10)) := qh (HER1.out 10 (by decide) ⟨K, hFit, Or.inr ⟨HOk.out, Or.inl ⟨hKn, rfl⟩⟩⟩)
                 go_wp2_with fail
                 refine bodyPost_ret (v := .tuple #[.int .i64 0, .slice none 0 0, .int .i64 0, .int .i64 10]) (by simp [results, Tryz.results48, go_sem]) rfl (decRes_err HTo.out hPk)
                ·obtain rfl : N = K := by omega
                 obtain ⟨p1, hpnx⟩ : ∃ z, z = al8 (288 + N * v2) := ⟨_, rfl⟩
                 have hat : at2 = (p1 : Int) := by rw [HAT.out, if_pos rfl, hpnx]
                 have his : is2 = true := by rw [HIS.out]; exact decide_eq_true rfl
                 have hp1l : p1 ≤ bs.length := by rw [hpnx]; exact al8_le' hFit.fits HB8.out
                 have HP1 := qh hpnx
                 have HFits1 := qh hFit.fits
                 have HAllO1 := qh HOk.out
                 have htake : ps.take N = ps := List.take_of_length_le (by rw [hOut.len]; omega)
                 have hOS := HO.out
                 rw [htake] at hOS
                 have HOS1 := qh hOS
                 subst hat his
                 clear hpnx HAT HIS hKn hFit htake hOS HO
                 obtain ⟨wq, rfl⟩ : ∃ z : World, z = wr := ⟨_, rfl⟩
                 have HGo1 : Hid (∀ r, Rest2 bs N r → DecTo bs (N : Int) r) := qh (fun r h => Or.inr ⟨HIn.out, Or.inr ⟨HLen.out, Or.inr ⟨⟨by rw [← HV1.out]; omega, by rw [← HV2.out]; omega, by rw [← HV4.out]; omega, by rw [← HV6.out]; omega, by rw [← HV8.out]; omega, by rw [← HV9.out]; omega, by rw [← HV10.out]; omega, by rw [← HV11.out]; omega⟩, 0, by rw [← HV2.out, ← HV0.out]; exact RowE.of_zero HFits1.out HAllO1.out, Or.inr ⟨rfl, h⟩⟩⟩⟩)
                 have HQ1 : Hid (p1 = q1 bs N) := qh (by rw [HP1.out, HV2.out]; rfl)
                 have HER2 : Hid (∀ e : Int, e ≠ 0 → RowE bs p1 N v4 (okL v3) e → DecTo bs (N : Int) (dErr e)) := qh (fun e he h => HGo1.out _ ⟨e, by rw [HQ1.out, HV4.out, HV3.out] at h; exact h, Or.inl ⟨he, rfl⟩⟩)
                 have m4 : wq.cell? ⟨hd, 4, none⟩ = some (.int .i64 v4) := hHDk.out 4 v4 (by rw [HV4.out]; rfl)
                 have HR2 := qh (refrow_any bs ba bcap p1 N v4 wq hROWk hbc hba (by omega) (by omega) hp1l (by omega))
                 clear HER1 hki
                 go_wp2_with fail
                 refine HR2.out.mono ?_
                 clear HR2 m4
                 rintro e w8 ⟨K2, xa2, xc2, hFit2, rfl, hOx, hEx⟩
                 obtain ⟨at3, hatv⟩ : ∃ z : Int, z = (if K2 = N then ((al8 (p1 + N * v4) : Nat) : Int) else 0) := ⟨_, rfl⟩
                 obtain ⟨is3, hisv⟩ : ∃ z : Bool, z = decide (K2 = N) := ⟨_, rfl⟩
                 rw [← hatv, ← hisv]
                 have HAT := qh hatv
                 have HIS := qh hisv
                 clear hatv hisv
                 obtain ⟨_, _, hh, hxc, _, hxa, hxb⟩ := own_form hOx
                 cases hh
                 have hRx := own_row hOx
                 have hxn : ∀ g, xa2 = some g → wq.heap.size ≤ g.block := fun g hg => (hxb g hg).1
                 have hobl := hOut.lt
                 have hOut8 := hOut.ext hEx id
                 have hRow8 := hROWk.ext hEx (fun _ _ => id)
                 have hP8 := hPk.pure hEx
                 have hHd8 : Hid (∀ j x : Nat, (hdv bs 13)[j]? = some x → w8.cell? ⟨hd, j, none⟩ = some (.int .i64 x)) := qh (fun j x hj => hEx.cell_some (hHDk.out j x hj) id)
                 have hKle := hFit2.le
                 clear hxb hOx hEx hOut hROWk hPk hHDk
                 go_wp2_with fail
                 go_loopw [18] (fun i W => ∃ (k : Nat) (ps : List PH), k ≤ K2 ∧ i = .int .i64 k ∧ OutIs W ob N ps ∧ Hid ((ps.take k).map (fun p => p.l) = (vals bs p1 v4 k).map (fun x => ((v3 + x : Nat) : Int))) ∧ Hid (ps.map (fun p => p.o) = (vals bs 288 v2 N).map (fun x => ((v0 + x : Nat) : Int))) ∧ Hid (okL v3 (vals bs p1 v4 k)) ∧ Ext (fun i => i = ob) w8 W) (fun i _ => K2 - (intOf i).toNat)
                 case atStart => exact ⟨0, ps, Nat.zero_le _, rfl, hOut8, qh (by simp [vals]), qh HOS1.out, qh (fun x hx => by simp [vals] at hx), Ext.refl _ _⟩
                 case round =>
                  obtain ⟨k, ps, hk, rfl, hOut, HO, HKp, HOk, hE⟩ := hrel
                  clear hOut8
                  have hPm := hP8.trans hE (fun i hi e => by have e' : i = ob := e; omega)
                  by_cases hlt : k < K2
                  ·
                   have hki : (k : Int) < (K2 : Int) := by omega
                   have hkN : k < N := by omega
                   have hkNi : (k : Int) < (N : Int) := by omega
                   have hkp : k < ps.length := by have := hOut.len; omega
                   obtain ⟨x, hx⟩ : ∃ x, x = numAt bs (p1 + k * v4) v4 := ⟨_, rfl⟩
                   have hx32 : x < 4294967296 := hx ▸ numAt_lt32 bs _ v4 (by omega)
                   obtain ⟨xb, xo, rfl, hcx⟩ := hRx k (intV x) (by rw [List.getElem?_map, vals_at bs p1 v4 K2 k hlt, ← hx]; rfl)
                   have hxbn : wq.heap.size ≤ xb := hxn _ rfl
                   have hxob : xb ≠ ob := by omega
                   have hcx2 : wr.drew.cell? ⟨xb, xo + k, none⟩ = some (.int .i64 x) := hE.cell_some hcx (fun e => hxob e)
                   have hch : wr.drew.cell? ⟨hd, 3, none⟩ = some (.int .i64 v3) := hE.cell_some (hHd8.out 3 v3 (by rw [HV3.out]; rfl)) (fun e => by have e' : hd = ob := e; omega)
                   have kx := fun w' (hS : Ext (fun i => i = ob) wr.drew w') => hS.cell_some hcx2 (fun e => hxob e)
                   have kh := fun w' (hS : Ext (fun i => i = ob) wr.drew w') => hS.cell_some hch (fun e => by have e' : hd = ob := e; omega)
                   have hwk : IntKind.i64.wrap ((v3 : Int) + (x : Int)) = (v3 : Int) + (x : Int) := IntWalk.i64_in _ (by omega)
                   obtain ⟨pp, hpp⟩ : ∃ pp : PH, pp = { ps[k] with l := (v3 : Int) + (x : Int) } := ⟨_, rfl⟩
                   obtain ⟨⟨y, hy⟩, hf, hOut'⟩ := hOut.set k 1 hkp (by omega) (.int .i64 ((v3 : Int) + (x : Int))) pp (by rw [hpp]; rfl)
                   try simp only [Nat.add_zero] at hy hf hOut'
                   have hyd : wr.drew.cell? ⟨ob, k * 3 + 1, none⟩ = some y := hy
                   have hfd : wr.drew.frozen? ⟨ob, k * 3 + 1, none⟩ = false := hf
                   have HO' : Hid (((ps.set k pp).take (k + 1)).map (fun p => p.l) = (vals bs p1 v4 (k + 1)).map (fun x => ((v3 + x : Nat) : Int))) := qh (by
                    rw [take_map_set (fun p => p.l) ps k pp hkp, HO.out, vals_succ, ← hx, List.map_append, hpp]; simp)
                   have HKpp : Hid ((ps.set k pp).map (fun p => p.o) = (vals bs 288 v2 N).map (fun x => ((v0 + x : Nat) : Int))) := qh (by rw [map_set_same (fun p => p.o) ps k pp hkp (by rw [hpp])]; exact HKp.out)
                   have hOut2 : OutIs (wr.setCell ⟨ob, k * 3 + 1, none⟩ (.int .i64 ((v3 : Int) + (x : Int)))).drew ob N (ps.set k pp) := hOut'.ext ((Ext.refl (fun _ => False) _).drew) id
                   have hcell : (cellsP ((ps.set k pp)[k]'(by simpa using hkp)))[1]? = some (.int .i64 ((v3 : Int) + (x : Int))) := by rw [List.getElem_set_self, hpp]; rfl
                   have HX := qh hx
                   clear hx hcx hOut hOut' hy hf
                   go_wp2_with fail
                   refine region_start (fun i => i = ob) (by kernel_rfl) ?_
                   try simp only [Act.put, sA, sZ, sS]
                   refine region_take 0 175 (v := ?vph0) rfl rfl (by kernel_rfl) (by kernel_rfl) (by kernel_rfl) (fun _ _ _ h => h) (by rfl) (fun w' hS => ?hph0) ?rph0
                   case hph0 => go_simp; with_reducible rfl
                   try simp only [Act.put, sA, sZ, sS]
                   refine region_take 1 176 (v := ?vph1) rfl rfl (by kernel_rfl) (by kernel_rfl) (by kernel_rfl) (fun _ _ _ h => h) (by rfl) (fun w' hS => ?hph1) ?rph1
                   case hph1 => go_simp; with_reducible rfl
                   try simp only [Act.put, sA, sZ, sS]
                   refine region_take 2 177 (v := ?vph2) rfl rfl (by kernel_rfl) (by kernel_rfl) (by kernel_rfl) (fun _ _ _ h => h) (by rfl) (fun w' hS => ?hph2) ?rph2
                   case hph2 => go_simp; with_reducible rfl
                   try simp only [Act.put, sA, sZ, sS]
                   refine region_take 3 178 (v := ?vph3) rfl rfl (by kernel_rfl) (by kernel_rfl) (by kernel_rfl) (fun _ _ _ h => h) (by rfl) (fun w' hS => ?hph3) ?rph3
                   case hph3 => go_simp; with_reducible rfl
                   try simp only [Act.put, sA, sZ, sS]
                   refine region_take 4 179 (v := ?vph4) rfl rfl (by kernel_rfl) (by kernel_rfl) (by kernel_rfl) (fun _ _ _ h => h) (by rfl) (fun w' hS => ?hph4) ?rph4
                   case hph4 => go_simp; with_reducible rfl
                   try simp only [Act.put, sA, sZ, sS]
                   refine region_take 5 180 (v := ?vph5) rfl rfl (by kernel_rfl) (by kernel_rfl) (by kernel_rfl) (fun _ _ _ h => h) (by rfl) (fun w' hS => ?hph5) ?rph5
                   case hph5 => go_simp; with_reducible rfl
                   try simp only [Act.put, sA, sZ, sS]
                   refine region_take 6 181 (v := ?vph6) rfl rfl (by kernel_rfl) (by kernel_rfl) (by kernel_rfl) (fun _ _ _ h => h) (by rfl) (fun w' hS => ?hph6) ?rph6
                   case hph6 => go_simp; with_reducible rfl
                   try simp only [Act.put, sA, sZ, sS]
                   refine region_take 7 182 (v := ?vph7) rfl rfl (by kernel_rfl) (by kernel_rfl) (by kernel_rfl) (fun _ _ _ h => h) (by rfl) (fun w' hS => ?hph7) ?rph7
                   case hph7 => go_simp; with_reducible rfl
                   try simp only [Act.put, sA, sZ, sS]
                   refine region_take 8 183 (v := ?vph8) rfl rfl (by kernel_rfl) (by kernel_rfl) (by kernel_rfl) (fun _ _ _ h => h) (by rfl) (fun w' hS => ?hph8) ?rph8
                   case hph8 => go_simp; with_reducible rfl
                   try simp only [Act.put, sA, sZ, sS]
                   refine region_take 9 184 (v := ?vph9) rfl rfl (by kernel_rfl) (by kernel_rfl) (by kernel_rfl) (fun _ _ _ h => h) (by rfl) (fun w' hS => ?hph9) ?rph9
                   case hph9 => go_simp; with_reducible rfl
                   try simp only [Act.put, sA, sZ, sS]
                   refine region_take 10 185 (v := ?vph10) rfl rfl (by kernel_rfl) (by kernel_rfl) (by kernel_rfl) (fun _ _ _ h => h) (by rfl) (fun w' hS => ?hph10) ?rph10
                   case hph10 => go_simp; with_reducible rfl
                   try simp only [Act.put, sA, sZ, sS]
                   refine region_take 11 186 (v := ?vph11) rfl rfl (by kernel_rfl) (by kernel_rfl) (by kernel_rfl) (fun _ _ _ h => h) (by rfl) (fun w' hS => ?hph11) ?rph11
                   case hph11 => go_simp; with_reducible rfl
                   try simp only [Act.put, sA, sZ, sS]
                   refine wpAnyH_ready (rs := [12]) (by kernel_rfl) (by simp) (AllReadyH.cons rfl (fun K hK => ?_) AllReadyH.nil)
                   go_simp
                   refine hK.out _ _ ((Ext.refl (fun i => i = ob) wr.drew).setCell (p := ⟨ob, k * 3 + 1, none⟩) (fun _ => rfl) _) (fun hHeld => ?_)
                   clear hK K hHeld
                   refine region_now ((Ext.refl (fun i => i = ob) wr.drew).setCell (p := ⟨ob, k * 3 + 1, none⟩) (fun _ => rfl) _) ?_
                   try simp only [Act.put, sA, sZ, sS]
                   refine wpAnyH_done (by kernel_rfl) ?_ _
                   obtain ⟨wS, hwS⟩ : ∃ z, z = (wr.setCell ⟨ob, k * 3 + 1, none⟩ (.int .i64 ((v3 : Int) + (x : Int)))).drew := ⟨_, rfl⟩
                   have hES : Ext (fun i => i = ob) w8 wS := hwS ▸ (hE.setCell (p := ⟨ob, k * 3 + 1, none⟩) (fun _ => rfl) (.int .i64 ((v3 : Int) + (x : Int)))).drew
                   have hOS : OutIs wS ob N (ps.set k pp) := hwS ▸ hOut2
                   have hPS : Pure w wS := hP8.trans hES (fun i hi e => by have e' : i = ob := e; omega)
                   have hcS : wS.cell? ⟨ob, k * 3 + 1, none⟩ = some (.int .i64 ((v3 : Int) + (x : Int))) := hOS.cell k 1 (by simpa using hkp) (by omega) hcell
                   rw [← hwS]
                   clear hwS hyd hfd hcx2 hch kx kh hwk hcell hOut2 hE hPm hpp
                   by_cases c7 : (v3 : Int) + (x : Int) < 1
                   ·have HTo : Hid (DecTo bs (N : Int) (dErr 27)) := qh (HER2.out 27 (by decide) ⟨K2, hFit2, Or.inl ⟨fun h => by
                     have h1 := h x (by rw [HX.out]; exact vals_mem bs p1 v4 K2 k hlt)
                     have := inB_true.1 h1
                     omega, rfl⟩⟩)
                    go_wp2_with fail
                    refine bodyPost_ret (v := .tuple #[.int .i64 0, .slice none 0 0, .int .i64 0, .int .i64 27]) (by simp [results, Tryz.results48, go_sem]) rfl (decRes_err HTo.out hPS)
                   ·by_cases c8 : (2147483647 : Int) < (v3 : Int) + (x : Int)
                    ·have HTo : Hid (DecTo bs (N : Int) (dErr 27)) := qh (HER2.out 27 (by decide) ⟨K2, hFit2, Or.inl ⟨fun h => by
                      have h1 := h x (by rw [HX.out]; exact vals_mem bs p1 v4 K2 k hlt)
                      have := inB_true.1 h1
                      omega, rfl⟩⟩)
                     go_wp2_with fail
                     refine bodyPost_ret (v := .tuple #[.int .i64 0, .slice none 0 0, .int .i64 0, .int .i64 27]) (by simp [results, Tryz.results48, go_sem]) rfl (decRes_err HTo.out hPS)
                    ·have HOk' : Hid (okL v3 (vals bs p1 v4 (k + 1))) := qh (fun z hz => by
                      rw [vals_succ, ← HX.out] at hz
                      rcases List.mem_append.1 hz with hz | hz
                      ·exact HOk.out z hz
                      ·rw [List.mem_singleton] at hz; rw [hz]; exact inB_true.2 ⟨by omega, by omega⟩)
                     have g7 : decide ((v3 : Int) + (x : Int) < 1) = false := decide_eq_false c7
                     have g8 : decide ((2147483647 : Int) < (v3 : Int) + (x : Int)) = false := decide_eq_false c8
                     have hk1 : k + 1 ≤ K2 := by omega
                     go_wp2_with fail
                     clear g7 g8
                     go_roundw
                     case rel => exact ⟨k + 1, ps.set k pp, hk1, by go_num, hOS, HO', HKpp, HOk', hES⟩
                     case measure => simp [intOf]; omega
                  ·have hki : ¬ (k : Int) < (K2 : Int) := by omega
                   obtain rfl : K2 = k := by omega
                   have hROWm := hRow8.ext hE (fun g hg e => by have := hbo g hg; exact this e)
                   have hHDm : Hid (∀ j x : Nat, (hdv bs 13)[j]? = some x → wr.cell? ⟨hd, j, none⟩ = some (.int .i64 x)) := qh (fun j x hj => hE.cell_some (hHd8.out j x hj) (fun e => by have e' : hd = ob := e; omega))
                   clear hRow8 hP8 hHd8 hRx hxn hE
                   by_cases hKn : ¬ K2 = N
                   ·have his : is3 = false := by rw [HIS.out]; exact decide_eq_false hKn
                    subst his
                    have HTo : Hid (DecTo bs (N : Int) (dErr 10)) := qh (HER2.out 10 (by decide) ⟨K2, hFit2, Or.inr ⟨HOk.out, Or.inl ⟨hKn, rfl⟩⟩⟩)
                    go_wp2_with fail
                    refine bodyPost_ret (v := .tuple #[.int .i64 0, .slice none 0 0, .int .i64 0, .int .i64 10]) (by simp [results, Tryz.results48, go_sem]) rfl (decRes_err HTo.out hPm)
                   ·obtain rfl : N = K2 := by omega
                    obtain ⟨p2, hpnx⟩ : ∃ z, z = al8 (p1 + N * v4) := ⟨_, rfl⟩
                    have hat : at3 = (p2 : Int) := by rw [HAT.out, if_pos rfl, hpnx]
                    have his : is3 = true := by rw [HIS.out]; exact decide_eq_true rfl
                    have hp2l : p2 ≤ bs.length := by rw [hpnx]; exact al8_le' hFit2.fits HB8.out
                    have HP2 := qh hpnx
                    have HFits2 := qh hFit2.fits
                    have HAllO2 := qh HOk.out
                    have htake : ps.take N = ps := List.take_of_length_le (by rw [hOut.len]; omega)
                    have hOS := HO.out
                    rw [htake] at hOS
                    have HOS2 := qh hOS
                    subst hat his
                    clear hpnx HAT HIS hKn hFit2 htake hOS HO
                    obtain ⟨wq2, rfl⟩ : ∃ z : World, z = wr := ⟨_, rfl⟩
                    have HGo2 : Hid (∀ r, Rest3 bs N r → DecTo bs (N : Int) r) := qh (fun r h => HGo1.out _ ⟨0, by rw [← HV4.out, ← HV3.out, ← HQ1.out]; exact RowE.of_zero HFits2.out HAllO2.out, Or.inr ⟨rfl, h⟩⟩)
                    have HQ2 : Hid (p2 = q2 bs N) := qh (by rw [HP2.out, HQ1.out, HV4.out]; rfl)
                    have HER3 : Hid (∀ e : Int, e ≠ 0 → RowE bs p2 N v9 okC e → DecTo bs (N : Int) (dErr e)) := qh (fun e he h => HGo2.out _ ⟨e, by rw [HQ2.out, HV9.out] at h; exact h, Or.inl ⟨he, rfl⟩⟩)
                    have m9 : wq2.cell? ⟨hd, 9, none⟩ = some (.int .i64 v9) := hHDm.out 9 v9 (by rw [HV9.out]; rfl)
                    have HR3 := qh (refrow_any bs ba bcap p2 N v9 wq2 hROWm hbc hba (by omega) (by omega) hp2l (by omega))
                    clear HER2 hki
                    go_wp2_with fail
                    refine HR3.out.mono ?_
                    clear HR3 m9
                    rintro e w9 ⟨K3, xa3, xc3, hFit3, rfl, hOx, hEx⟩
                    obtain ⟨at4, hatv⟩ : ∃ z : Int, z = (if K3 = N then ((al8 (p2 + N * v9) : Nat) : Int) else 0) := ⟨_, rfl⟩
                    obtain ⟨is4, hisv⟩ : ∃ z : Bool, z = decide (K3 = N) := ⟨_, rfl⟩
                    rw [← hatv, ← hisv]
                    have HAT := qh hatv
                    have HIS := qh hisv
                    clear hatv hisv
                    obtain ⟨_, _, hh, hxc3, _, hxa3, hxb3⟩ := own_form hOx
                    cases hh
                    have hRx3 := own_row hOx
                    have hobl3 := hOut.lt
                    have hxn3 : ∀ g, xa3 = some g → g.block ≠ ob := fun g hg => by have := (hxb3 g hg).1; omega
                    have hOut9 := hOut.ext hEx id
                    have hRow9 := hROWm.ext hEx (fun _ _ => id)
                    have hP9 := hPm.pure hEx
                    have hHd9 : Hid (∀ j x : Nat, (hdv bs 13)[j]? = some x → w9.cell? ⟨hd, j, none⟩ = some (.int .i64 x)) := qh (fun j x hj => hEx.cell_some (hHDm.out j x hj) id)
                    have hKle3 := hFit3.le
                    clear hxb3 hOx hEx hOut hROWm hPm hHDm
                    go_wp2_with fail
                    go_loop [22, 23] (fun m i => ∃ k t : Nat, k ≤ K3 ∧ i = .int .i64 k ∧ m = .int .i64 t ∧ Hid (t = (vals bs p2 v9 k).sum) ∧ t ≤ 65536) (fun _ i => K3 - (intOf i).toNat)
                    case atStart => exact ⟨0, 0, Nat.zero_le _, rfl, rfl, qh (by simp [vals]), by omega⟩
                    case round =>
                     obtain ⟨k, t, hk, rfl, rfl, HT, ht⟩ := hrel
                     by_cases hlt : k < K3
                     ·
                      have hki : (k : Int) < (K3 : Int) := by omega
                      have hkN : k < N := by omega
                      obtain ⟨x, hx⟩ : ∃ x, x = numAt bs (p2 + k * v9) v9 := ⟨_, rfl⟩
                      have hx32 : x < 4294967296 := hx ▸ numAt_lt32 bs _ v9 (by omega)
                      obtain ⟨xb, xo, rfl, hcx⟩ := hRx3 k (intV x) (by rw [List.getElem?_map, vals_at bs p2 v9 K3 k hlt, ← hx]; rfl)
                      have hcx2 : w9.cell? ⟨xb, xo + k, none⟩ = some (.int .i64 x) := hcx
                      have HT2 : Hid (t + x = (vals bs p2 v9 (k + 1)).sum) := qh (by rw [vals_succ, List.sum_append, ← hx, HT.out]; simp)
                      clear hx hcx
                      by_cases hbig : (65536 : Int) < (t : Int) + (x : Int)
                      ·have HTo : Hid (DecTo bs (N : Int) (dErr 27)) := qh (HER3.out 27 (by decide) ⟨K3, hFit3, Or.inl ⟨fun h => by
                        have h1 : (vals bs p2 v9 (k + 1)).sum ≤ (vals bs p2 v9 K3).sum := vals_sum_mono bs p2 v9 (by omega)
                        have h2 : (vals bs p2 v9 K3).sum ≤ 65536 := h
                        have := HT2.out
                        omega, rfl⟩⟩)
                       go_wp2_with fail
                       refine bodyPost_ret (v := .tuple #[.int .i64 0, .slice none 0 0, .int .i64 0, .int .i64 27]) (by simp [results, Tryz.results48, go_sem]) rfl (decRes_err HTo.out hP9)
                      ·go_wp2_with fail
                       go_round
                       case rel => exact ⟨k + 1, t + x, by omega, by go_num, by go_num, HT2, by omega⟩
                       case measure => simp [intOf]; omega
                     ·have hki : ¬ (k : Int) < (K3 : Int) := by omega
                      obtain rfl : K3 = k := by omega
                      by_cases hKn : ¬ K3 = N
                      ·have his : is4 = false := by rw [HIS.out]; exact decide_eq_false hKn
                       subst his
                       have HTo : Hid (DecTo bs (N : Int) (dErr 10)) := qh (HER3.out 10 (by decide) ⟨K3, hFit3, Or.inr ⟨by show (vals bs p2 v9 K3).sum ≤ 65536; rw [← HT.out]; exact ht, Or.inl ⟨hKn, rfl⟩⟩⟩)
                       go_wp2_with fail
                       refine bodyPost_ret (v := .tuple #[.int .i64 0, .slice none 0 0, .int .i64 0, .int .i64 10]) (by simp [results, Tryz.results48, go_sem]) rfl (decRes_err HTo.out hP9)
                      ·obtain rfl : N = K3 := by omega
                       obtain ⟨p3, hp3⟩ : ∃ z, z = al8 (p2 + N * v9) := ⟨_, rfl⟩
                       have hat : at4 = (p3 : Int) := by rw [HAT.out, if_pos rfl, hp3]
                       have his : is4 = true := by rw [HIS.out]; exact decide_eq_true rfl
                       have hp3l : p3 ≤ bs.length := by rw [hp3]; exact al8_le' hFit3.fits HB8.out
                       have HGo3 : Hid (∀ r, Rest4 bs N r → DecTo bs (N : Int) r) := qh (fun r h => HGo2.out _ ⟨0, by rw [← HV9.out, ← HQ2.out]; exact RowE.of_zero hFit3.fits (by show (vals bs p2 v9 N).sum ≤ 65536; rw [← HT.out]; exact ht), Or.inr ⟨rfl, h⟩⟩)
                       have HMy : Hid (t = mny bs N) := qh (by rw [HT.out, HQ2.out, HV9.out]; rfl)
                       have HQ3 : Hid (p3 = q3 bs N) := qh (by rw [hp3, HQ2.out, HV9.out]; rfl)
                       have HER4 : Hid (∀ e : Int, e ≠ 0 → RowE bs p3 t v10 okS e → DecTo bs (N : Int) (dErr e)) := qh (fun e he h => HGo3.out _ ⟨e, by rw [HQ3.out, HV10.out, HMy.out] at h; exact h, Or.inl ⟨he, rfl⟩⟩)
                       have m10 : w9.cell? ⟨hd, 10, none⟩ = some (.int .i64 v10) := hHd9.out 10 v10 (by rw [HV10.out]; rfl)
                       have HR4 := qh (refrow_any bs ba bcap p3 t v10 w9 hRow9 hbc hba (by omega) (by omega) hp3l (by omega))
                       subst hat his
                       clear HAT HIS hKn hp3 HER3 hki
                       go_wp2_with fail
                       refine HR4.out.mono ?_
                       clear HR4 m10
                       rintro e w10 ⟨K4, xa4, xc4, hFit4, rfl, hOx, hEx⟩
                       obtain ⟨at5, hatv⟩ : ∃ z : Int, z = (if K4 = t then ((al8 (p3 + t * v10) : Nat) : Int) else 0) := ⟨_, rfl⟩
                       obtain ⟨is5, hisv⟩ : ∃ z : Bool, z = decide (K4 = t) := ⟨_, rfl⟩
                       rw [← hatv, ← hisv]
                       have HAT := qh hatv
                       have HIS := qh hisv
                       clear hatv hisv
                       obtain ⟨_, _, hh, hxc4, _, hxa4, hxb4⟩ := own_form hOx
                       cases hh
                       have hRx4 := own_row hOx
                       have hobl4 := hOut9.lt
                       have hxn4 : ∀ g, xa4 = some g → g.block ≠ ob := fun g hg => by have := (hxb4 g hg).1; omega
                       have hOut10 := hOut9.ext hEx id
                       have hRow10 := hRow9.ext hEx (fun _ _ => id)
                       have hRx3' := hRx3.ext hEx (fun _ _ => id)
                       have hP10 := hP9.pure hEx
                       have hHd10 : Hid (∀ j x : Nat, (hdv bs 13)[j]? = some x → w10.cell? ⟨hd, j, none⟩ = some (.int .i64 x)) := qh (fun j x hj => hEx.cell_some (hHd9.out j x hj) id)
                       have hKle4 := hFit4.le
                       clear hxb4 hOx hEx hOut9 hRow9 hP9 hHd9 hRx3
                       go_wp2_with fail
                       go_loop [24] (fun i => ∃ k : Nat, k ≤ K4 ∧ i = .int .i64 k ∧ Hid (okS (vals bs p3 v10 k))) (fun i => K4 - (intOf i).toNat)
                       case atStart => exact ⟨0, Nat.zero_le _, rfl, qh (fun x hx => by simp [vals] at hx)⟩
                       case round =>
                        obtain ⟨k, hk, rfl, HOk4⟩ := hrel
                        by_cases hlt : k < K4
                        ·
                         have hki : (k : Int) < (K4 : Int) := by omega
                         obtain ⟨x, hx⟩ : ∃ x, x = numAt bs (p3 + k * v10) v10 := ⟨_, rfl⟩
                         have hx32 : x < 4294967296 := hx ▸ numAt_lt32 bs _ v10 (by omega)
                         obtain ⟨xb, xo, rfl, hcx⟩ := hRx4 k (intV x) (by rw [List.getElem?_map, vals_at bs p3 v10 K4 k hlt, ← hx]; rfl)
                         have hcx2 : w10.cell? ⟨xb, xo + k, none⟩ = some (.int .i64 x) := hcx
                         have HX := qh hx
                         clear hx hcx
                         by_cases hbig : (4095 : Int) < (x : Int)
                         ·have HTo : Hid (DecTo bs (N : Int) (dErr 27)) := qh (HER4.out 27 (by decide) ⟨K4, hFit4, Or.inl ⟨fun h => by
                           have h1 := h x (by rw [HX.out]; exact vals_mem bs p3 v10 K4 k hlt)
                           omega, rfl⟩⟩)
                          go_wp2_with fail
                          refine bodyPost_ret (v := .tuple #[.int .i64 0, .slice none 0 0, .int .i64 0, .int .i64 27]) (by simp [results, Tryz.results48, go_sem]) rfl (decRes_err HTo.out hP10)
                         ·have HOk5 : Hid (okS (vals bs p3 v10 (k + 1))) := qh (fun z hz => by
                           rw [vals_succ, ← HX.out] at hz
                           rcases List.mem_append.1 hz with hz | hz
                           ·exact HOk4.out z hz
                           ·rw [List.mem_singleton] at hz; omega)
                          go_wp2_with fail
                          go_round
                          case rel => exact ⟨k + 1, by omega, by go_num, HOk5⟩
                          case measure => simp [intOf]; omega
                        ·have hki : ¬ (k : Int) < (K4 : Int) := by omega
                         obtain rfl : K4 = k := by omega
                         by_cases hKn : ¬ K4 = t
                         ·have his : is5 = false := by rw [HIS.out]; exact decide_eq_false hKn
                          subst his
                          have HTo : Hid (DecTo bs (N : Int) (dErr 10)) := qh (HER4.out 10 (by decide) ⟨K4, hFit4, Or.inr ⟨HOk4.out, Or.inl ⟨hKn, rfl⟩⟩⟩)
                          go_wp2_with fail
                          refine bodyPost_ret (v := .tuple #[.int .i64 0, .slice none 0 0, .int .i64 0, .int .i64 10]) (by simp [results, Tryz.results48, go_sem]) rfl (decRes_err HTo.out hP10)
                         ·
                          obtain rfl : t = K4 := by omega
                          obtain ⟨p4, hp4⟩ : ∃ z, z = al8 (p3 + t * v10) := ⟨_, rfl⟩
                          have hat : at5 = (p4 : Int) := by rw [HAT.out, if_pos rfl, hp4]
                          have his : is5 = true := by rw [HIS.out]; exact decide_eq_true rfl
                          have hp4l : p4 ≤ bs.length := by rw [hp4]; exact al8_le' hFit4.fits HB8.out
                          have HGo4 : Hid (∀ r, Rest5 bs N r → DecTo bs (N : Int) r) := qh (fun r h => HGo3.out _ ⟨0, by rw [← HV10.out, ← HQ3.out, ← HMy.out]; exact RowE.of_zero hFit4.fits HOk4.out, Or.inr ⟨rfl, h⟩⟩)
                          have HQ4 : Hid (p4 = q4 bs N) := qh (by rw [hp4, HQ3.out, HV10.out, HMy.out]; rfl)
                          obtain ⟨X, hX⟩ : ∃ z, z = vals bs p3 v10 t := ⟨_, rfl⟩
                          obtain ⟨C, hC⟩ : ∃ z, z = vals bs p2 v9 N := ⟨_, rfl⟩
                          obtain ⟨os, hos⟩ : ∃ z, z = (vals bs 288 v2 N).map (fun x => ((v0 + x : Nat) : Int)) := ⟨_, rfl⟩
                          obtain ⟨ls, hls⟩ : ∃ z, z = (vals bs p1 v4 N).map (fun x => ((v3 + x : Nat) : Int)) := ⟨_, rfl⟩
                          have hcut0 : CutIs w10 w10 ob N os ls X C 0 ps := ⟨hOut10, by rw [hos]; exact HKp.out, by rw [hls]; exact HOS2.out, by simp [cut], (fun p hp => by simp at hp), Ext.refl _ _⟩
                          have hXl : X.length = t := by rw [hX]; exact vals_len _ _ _ _
                          have hCl : C.length = N := by rw [hC]; exact vals_len _ _ _ _
                          have hCs : C.sum = t := by rw [hC, HT.out]
                          have HX := qh hX
                          have HC := qh hC
                          have HOs := qh hos
                          have HLs := qh hls
                          have HXl := qh hXl
                          have HCl := qh hCl
                          have HCs := qh hCs
                          rw [← hX] at hRx4
                          rw [← hC] at hRx3'
                          subst hat his
                          clear HAT HIS hKn hp4 hFit4 hX hC hos hls hXl hCl hCs HER4 HKp HOS2 HOk4 hki hOut10
                          go_wp2_with fail
                          go_loopw [25, 26] (fun j i W => ∃ (k : Nat) (qs : List PH), k ≤ N ∧ i = .int .i64 k ∧ j = .int .i64 ((C.take k).sum : Nat) ∧ CutIs w10 W ob N os ls X C k qs) (fun _ i _ => N - (intOf i).toNat)
                          case atStart => exact ⟨0, ps, Nat.zero_le _, rfl, by simp, hcut0⟩
                          case round =>
                           obtain ⟨k, qs, hk, rfl, rfl, hCut⟩ := hrel
                           clear hcut0
                           obtain ⟨j, hj⟩ : ∃ z, z = (C.take k).sum := ⟨_, rfl⟩
                           rw [← hj]
                           have hcE := hCut.ext
                           have hob : ob < wr.heap.size := hCut.out.lt
                           by_cases hlt : k < N
                           ·have hki : (k : Int) < (N : Int) := by omega
                            obtain ⟨c, hc⟩ : ∃ c, C[k]? = some c := ⟨_, List.getElem?_eq_getElem (by rw [HCl.out]; exact hlt)⟩
                            have hj1 : (C.take (k + 1)).sum = j + c := by rw [sum_take_succ C k c hc, hj]
                            have hjt : j + c ≤ t := by
                             have h1 := sum_take_le C (k + 1)
                             have h2 := HCs.out
                             omega
                            obtain ⟨cb, co, rfl, hcc⟩ := (hRx3'.ext hcE (fun g hg e => hxn3 g hg e)) k (intV c) (by rw [List.getElem?_map, hc]; rfl)
                            have hcc2 : wr.cell? ⟨cb, co + k, none⟩ = some (.int .i64 c) := hcc
                            have hcb := World.block_lt_of_cell? wr _ hcc2
                            have hcob : cb ≠ ob := hxn3 _ rfl
                            have hRX := hRx4.ext hcE (fun g hg e => hxn4 g hg e)
                            have hkN : k * 3 + 2 < 6146 := by omega
                            have hjx : j ≤ xc4 := by omega
                            have hjx2 : j + c ≤ xc4 := by omega
                            have hLen : ((X.drop j).take c).length = c := by rw [List.length_take, List.length_drop, HXl.out]; omega
                            have HLen2 := qh hLen
                            obtain ⟨new, hnew⟩ : ∃ z, z = (X.drop j).take c := ⟨_, rfl⟩
                            have HNew := qh hnew
                            have HNl : Hid (new.length = c) := qh (by rw [hnew]; exact hLen)
                            have HRM : Hid (RowOf (wr.alloc (.cells #[] 3)) (if xc4 = j then xa4 else xa4.map fun x => x.add j) (new.map intV)) := qh (by
                             split
                             ·have : new = [] := List.length_eq_zero_iff.1 (HNl.out.trans (by omega))
                              rw [this]; exact row_nil _ _
                             ·rw [hnew, List.map_take, List.map_drop]; exact row_take (row_drop (hRX.ext (ext_alloc wr _) (fun _ _ => id)) j) c)
                            have HNM : Hid ((if xc4 = j then xa4 else xa4.map fun x => x.add j) = none → j + c - j = 0 ∧ xc4 - j = 0) := qh (fun e => by
                             have h0 : xa4 = none := by
                              split at e
                              ·exact e
                              ·simpa using e
                             have h1 := hxa4 h0
                             exact ⟨by omega, by omega⟩)
                            have HJ := qh hj
                            have HJ1 := qh hj1
                            have HHC := qh hc
                            have HCut := qh hCut
                            clear hcc hj hj1 hc hCut hLen hnew hRX
                            go_wp2_with (at_builtin; refine wpList_append_fresh rfl (.tmp 261) (.tmp 270) 23 rfl wr.heap.size 3 (.int .i64 0) 1 8 Tryz.underlying23 infoInt rfl (by decide) _ 0 [] rfl (own_new (by simp) (by simp) _ (Nat.le_refl _)) (if xc4 = j then xa4 else xa4.map fun x => x.add j) (j + c - j) (xc4 - j) (new.map intV) rfl HNM.out (by rw [List.length_map, HNl.out]; omega) HRM.out (intV_one _) c (by omega) (new.map intV) rfl (by omega) (by unfold maxLen; omega) (by simp) ?_; generalize (if xc4 = j then xa4 else xa4.map fun x => x.add j) = sa4; generalize j + c - j = m4; generalize xc4 - j = c4)
                            ·
                             intro a1 c1 w1 hown hg hfr
                             have hE1 : Pure wr w1 := ((Ext.refl _ wr).alloc _).grown hg (fun k hk hlt => by cases hk; exact absurd hlt (Nat.lt_irrefl _))
                             obtain ⟨_, _, hh, g1, g2, g3, g4⟩ := own_form hown
                             cases hh
                             obtain ⟨⟨y, hy⟩, hf, qs', hCut'⟩ := HCut.out.step hlt HHC.out hE1 HJ.out (by rw [← HNew.out]; exact own_row hown) HLen2.out ⟨g1, g2, g3⟩ (fun g hg => ⟨fun e => by have := (g4 g hg).1; omega, by have h1 := (g4 g hg).1; have h2 := HCut.out.ext.size; omega⟩)
                             have hX1 : Ext (fun i => i = ob) w1 (w1.setCell ⟨ob, k * 3 + 2, none⟩ (.slice a1 c c1)) := (Ext.refl (fun i => i = ob) w1).setCell (p := ⟨ob, k * 3 + 2, none⟩) (fun _ => rfl) _
                             have hcc3 : w1.cell? ⟨cb, co + k, none⟩ = some (.int .i64 c) := hE1.cell_some hcc2 id
                             have hcc4 : (w1.setCell ⟨ob, k * 3 + 2, none⟩ (.slice a1 c c1)).cell? ⟨cb, co + k, none⟩ = some (.int .i64 c) := hX1.cell_some hcc3 (fun e => hcob e)
                             clear hown hg hfr g1 g2 g3 g4 hE1 hcc2
                             go_wp2_with fail
                             go_roundw
                             case rel => exact ⟨k + 1, qs', by omega, by go_num, by rw [HJ1.out]; go_num, hCut'⟩
                             case measure => simp [intOf]; omega
                           ·have hki : ¬ (k : Int) < (N : Int) := by omega
                            obtain rfl : N = k := by omega
                            clear hj
                            have HCut := qh hCut
                            have m11 : wr.cell? ⟨hd, 11, none⟩ = some (.int .i64 v11) := hcE.cell_some (hHd10.out 11 v11 (by rw [HV11.out]; rfl)) (fun e => by have e' : hd = ob := e; omega)
                            have m6 : wr.cell? ⟨hd, 6, none⟩ = some (.int .i64 v6) := hcE.cell_some (hHd10.out 6 v6 (by rw [HV6.out]; rfl)) (fun e => by have e' : hd = ob := e; omega)
                            have m8 : wr.cell? ⟨hd, 8, none⟩ = some (.int .i64 v8) := hcE.cell_some (hHd10.out 8 v8 (by rw [HV8.out]; rfl)) (fun e => by have e' : hd = ob := e; omega)
                            have m1 : wr.cell? ⟨hd, 1, none⟩ = some (.int .i64 v1) := hcE.cell_some (hHd10.out 1 v1 (by rw [HV1.out]; rfl)) (fun e => by have e' : hd = ob := e; omega)
                            have hPk : Pure w wr := hP10.trans hcE (fun i hi e => by have e' : i = ob := e; omega)
                            have HRest := qh (refrest_any bs ba bcap p4 t N v11 v6 v8 hd wr (hRow10.ext hcE (fun g hg e => by have := hbo g hg; exact this e)) hbc hba (by omega) HB8.out hp4l (by omega) (by omega) (by omega) (by omega) (by omega) m11 m6 m8)
                            clear hCut hcE m11 m6 m8 hki
                            go_wp2_with fail
                            refine HRest.out.mono ?_
                            clear HRest
                            rintro e w12 ⟨z, rfl, hz, hP12⟩
                            have m12 : w12.cell? ⟨hd, 1, none⟩ = some (.int .i64 v1) := hP12.cell_some m1 id
                            clear m1
                            by_cases hfit : Fit3 bs p4 t N v11 v6 v8
                            ·obtain ⟨zz, hzz⟩ : ∃ zz, zz = al8 (al8 (al8 (p4 + t * v11) + N * v6) + N * v8) := ⟨_, rfl⟩
                             have hz' := hz hfit
                             rw [← hzz] at hz'
                             subst hz'
                             rw [decide_eq_true hfit]
                             have HZZ : Hid (zz = q7 bs N) := qh (by rw [hzz, HQ4.out, HMy.out, HV11.out, HV6.out, HV8.out]; rfl)
                             have HTo : Hid (DecTo bs (N : Int) (good bs N)) := qh (HGo4.out _ (rest5_yes (by rw [← HQ4.out, ← HMy.out, ← HV11.out, ← HV6.out, ← HV8.out]; exact hfit)))
                             have hPP := hPk.pure hP12
                             have hzl : zz ≤ bs.length := by rw [hzz]; exact al8_le' hfit.2.2 HB8.out
                             have hzl2 : (zz : Int) ≤ 40000000 := by omega
                             clear hz hzz hfit
                             go_wp2_with fail
                             refine bodyPost_ret (v := .tuple #[.int .i64 v1, .slice (some ⟨ob, 0, none⟩) N N, .int .i64 ((zz : Int) / 8), .int .i64 0]) (by simp [results, Tryz.results48, go_sem]) rfl ?_
                             have hLn := HCut.out.out.len
                             refine ⟨good bs N, qs, some ⟨ob, 0, none⟩, N, ?_, HTo.out, resV_of qs _ ?_ ?_ ?_, HCut.out.hints.pure hP12, ⟨by omega, fun p hp g hg => by have h1 := HCut.out.fresh p hp g hg; have h2 := hP10.size; omega⟩, hPP⟩
                             ·rw [hLn, HV1.out, show (zz : Int) / 8 = ((zz / 8 : Nat) : Int) from by omega, HZZ.out]; rfl
                             ·rw [HCut.out.hos, HOs.out]; simp only [good, List.map_map, HV0.out, HV2.out]; rfl
                             ·rw [HCut.out.hls, HLs.out]; simp only [good, List.map_map, HV3.out, HV4.out, HQ1.out]; rfl
                             ·have h1 := HCut.out.hsh
                              rw [List.take_of_length_le (by omega), List.take_of_length_le (by rw [HCl.out]; exact Nat.le_refl _)] at h1
                              rw [h1, HC.out, HX.out, HQ2.out, HQ3.out, HV9.out, HV10.out, HMy.out]; rfl
                            ·rw [decide_eq_false hfit]
                             have HTo : Hid (DecTo bs (N : Int) (dErr 10)) := qh (HGo4.out _ (rest5_no (by rw [← HQ4.out]; exact hp4l) HB8.out (by rw [← HQ4.out, ← HMy.out, ← HV11.out, ← HV6.out, ← HV8.out]; exact hfit)))
                             have hPP := hPk.pure hP12
                             clear hz hfit
                             go_wp2_with fail
                             refine bodyPost_ret (v := .tuple #[.int .i64 0, .slice none 0 0, .int .i64 0, .int .i64 10]) (by simp [results, Tryz.results48, go_sem]) rfl (decRes_err HTo.out hPP)
