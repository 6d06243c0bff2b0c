/-
  ShareHintBack: what is encoded is decoded, by the program and by the reference, whatever is behind. No condition.
-/
import Derived.Test.YtjnpjkenmkgooaaOpenTab
namespace Go.Proofs.Ytjnpjkenmkgooaa.shareHintBack
open Go.ChangeShapes Go.WideShapes Go.ChangeAt Go.RowKit Go.Proofs.Ytjnpjkenmkgooaa C27
set_option linter.unusedVariables false

set_option maxHeartbeats 1000000 in
set_option maxRecDepth 100000 in
theorem walk_yes (o a f : Nat) (la : Option Addr) (c : Nat) (ls : List Nat) (bd : Option Addr) (bc : Nat) (bl : List UInt8) (w : World) (hr : RowOf w la (ls.map intV)) (hok : okT o a f (ints ls) = true) (h100 : ls.length ≤ 100) (hb : Bytes w bd bl) (hnil : bd = none → bc = 0) (hle : bl.length ≤ bc) (h300 : bl.length ≤ 300) :
    Calls Try.prog 5 #[tblV o a f la ls.length c, .slice bd bl.length bc] w fun e w' => e = .returned (.bool true) ∧ Below w.heap.size w w' := by
  obtain ⟨w1, hw1⟩ : ∃ w1, w1 = w.alloc (.cells #[.int .i64 o, .int .i64 a, .int .i64 f, .slice la ls.length c] 24) := ⟨_, rfl⟩
  have hB1 : BlockIs w1 w.heap.size [.int .i64 o, .int .i64 a, .int .i64 f, .slice la ls.length c] 24 := hw1 ▸ BlockIs.new w _ _
  have hP1 : Pure w w1 := hw1 ▸ ext_alloc w _
  obtain ⟨P, hPP⟩ : ∃ P, P = pack true (tabB o a f ls 0 []) := ⟨_, rfl⟩
  have htl : P.length ≤ 5100 := by
    have := tab_len (signed := []) hok (by decide : 0 ≤ 32)
    rw [hPP]; omega
  have HEn0 := fun W (hP : Pure w W) => encode_yes o a f la c ls W (hr.ext hP (fun _ _ => id)) hok
  unfold EncRes at HEn0
  have HTo0 := fun W => to_any (o : Int) a f la ls.length c W
  have HDe0 := fun (ra : Option Addr) (rc : Nat) W (h1 : Bytes W ra (P ++ bl)) (h2 : ra = none → rc = 0) (h3 : (P ++ bl).length ≤ rc) => decode_tab (o := o) (a := a) (f := f) (ls := ls) (groups := 0) (signed := []) bl ra rc (P ++ bl) (by rw [hPP]) W hok (by decide) h1 h2 h3 (by rw [List.length_append]; omega)
  have HRe0 := fun (ra : Option Addr) (rc : Nat) W (h1 : Bytes W ra (P ++ bl)) (h2 : ra = none → rc = 0) (h3 : (P ++ bl).length ≤ rc) => refdecode_tab (o := o) (a := a) (f := f) (ls := ls) (groups := 0) (signed := []) bl ra rc (P ++ bl) (by rw [hPP]) W hok (by decide) h1 h2 h3 (by rw [List.length_append]; omega)
  have hPl : (P ++ bl).length = P.length + bl.length := List.length_append
  rw [← hPP] at HEn0 HDe0 HRe0
  rw [hPl] at HDe0 HRe0
  have HSa0 := fun W (lb : Option Addr) (ld : Nat) (hP : Ext (fun _ => False) w W) (h1 : RowOf W lb (ls.map intV)) => refsame_any (o : Int) a f lb ld (ints ls) o a f la c (ints ls) W (row_ints h1) (row_ints (hr.ext hP (fun _ _ => id))) (by rw [ints_len]; omega) (by rw [ints_len]; omega)
  rw [ints_len, alike_refl] at HSa0
  have HOf0 := fun lb ld W => of_any (o : Int) a f lb ls.length ld W
  have HEn := Lib.hid HEn0
  have HTo := Lib.hid HTo0
  have HDe := Lib.hid HDe0
  have HRe := Lib.hid HRe0
  have HSa := Lib.hid HSa0
  have HOf := Lib.hid HOf0
  have HPL := Lib.hid hPl
  unfold tblV at HEn HTo HSa HOf ⊢
  clear HEn0 HTo0 HDe0 HRe0 HSa0 HOf0 hPP hok hr hPl
  go_enter Try.func5, Try.ntmps5
  go_wp2_with fail
  rw [← hw1]
  clear hw1
  refine (HTo.out _).mono ?_
  rintro e w2 ⟨rfl, hP2⟩
  have hB2 := hB1.ext hP2 id
  have hQ2 := hP1.pure hP2
  go_wp2_with fail
  refine (HEn.out _ hQ2).mono ?_
  rintro e w3 ⟨ra, rc, rfl, hN⟩
  have hB3 := hB2.ext hN.ext id
  have hQ3 := hQ2.pure hN.ext
  have hPr := hN.bytes
  have hN3 := hN.nil
  have hN4 := hN.le
  have hsz := hQ3.size
  have hlt3 := hB3.lt
  clear hN hP2 hB2 hQ2
  go_wp2_with (at_builtin; refine wpList_append_fresh rfl (.tmp 43) (.tmp 44) 26 rfl w3.heap.size 5 (.int .u8 0) 1 1 Try.underlying26 infoByte rfl (by decide) (.slice (some ⟨w3.heap.size, 0, none⟩) 0 0) 0 [] rfl (own_new (cs := []) rfl (Nat.zero_le _) w3.heap.size (Nat.le_refl _)) ra P.length rc (P.map byV) rfl (fun h => ⟨by have := hN3 h; omega, hN3 h⟩) (by simp) (hPr.ext (ext_alloc w3 _) (fun _ _ => id)) (byV_one _) P.length (by simp) (P.map byV) (by simp) (by omega) (by unfold maxLen; omega) (by simp) ?_)
  intro a4 c4 w4 hO4 hg4 hfr4
  have hX4 : Ext (fun i => i = w3.heap.size) w3 w4 := (ext_alloc w3 (.cells #[] 5)).trans' (ext_of_grown hg4) (fun _ _ e => e.elim) (fun i hi e => (Option.some.inj e).symm)
  have hB4 := hB3.ext hX4 (fun e => by have e' : w.heap.size = w3.heap.size := e; omega)
  have hQ4 : Pure w w4 := hQ3.trans hX4 (fun i hi e => by have e' : i = w3.heap.size := e; omega)
  have hb4 := hb.pure hQ4
  have hsz4 := hX4.size
  clear hX4 hg4 hfr4 hB3 hQ3 hPr hb
  go_wp2_with (at_builtin; refine wpList_append_fresh rfl (.tmp 45) (.tmp 46) 26 rfl w3.heap.size 5 (.int .u8 0) 1 1 Try.underlying26 infoByte rfl (by decide) (.slice a4 P.length c4) P.length (P.map byV) rfl hO4 bd bl.length bc (bl.map byV) rfl (fun h => ⟨by have := hnil h; omega, hnil h⟩) (by simp) hb4 (byV_one _) (P.length + bl.length) rfl ((P ++ bl).map byV) (by simp) (by omega) (by unfold maxLen; omega) (by omega) ?_)
  intro a5 c5 w5 hO5 hg5 hfr5
  have hX5 := ext_of_grown hg5
  have hB5 := hB4.ext hX5 (fun e => by have := (hO4.lt _ e).1; omega)
  have hQ5 : Pure w w5 := hQ4.trans hX5 (fun i hi e => by have := (hO4.lt _ e).1; omega)
  obtain ⟨_, _, hh, h1, h2, h3, h4⟩ := own_form hO5
  cases hh
  have hby5 : Bytes w5 a5 (P ++ bl) := by unfold Bytes; rw [List.map_append]; exact own_row hO5
  have HD := Lib.hid (HDe.out a5 c5 w5 hby5 h3 h1)
  have hRd := fun W (hP : Pure w5 W) => HRe.out a5 c5 W (hby5.pure hP) h3 h1
  have HRd := Lib.hid hRd
  clear hRd h1 h2 h3 h4 hX5 hg5 hfr5 hO5 hO4 hB4 hQ4 hb4 hby5 HDe HRe HEn HTo
  go_wp2_with fail
  refine HD.out.mono ?_
  rintro e w6 ⟨lb, ld, rfl, hR6, hn6, hl6, hP6⟩
  have hTB := BlockIs.new w6 [.int .i64 o, .int .i64 a, .int .i64 f, .slice lb ls.length ld] 30
  have hA6 := hP6.pure (ext_alloc w6 (.cells #[.int .i64 o, .int .i64 a, .int .i64 f, .slice lb ls.length ld] 30))
  have hB7 := hB5.ext hA6 id
  have hQ7 := hQ5.pure hA6
  have hR7 := hR6.ext (ext_alloc w6 (.cells #[.int .i64 o, .int .i64 a, .int .i64 f, .slice lb ls.length ld] 30)) (fun _ _ => id)
  clear HD hR6 hP6 hn6 hl6 hB5 hQ5
  go_wp2_with fail
  obtain ⟨tb, htb⟩ : ∃ tb, tb = w6.heap.size := ⟨_, rfl⟩
  rw [← htb]
  rw [← htb] at hTB
  clear htb
  generalize w6.alloc (.cells #[.int .i64 o, .int .i64 a, .int .i64 f, .slice lb ls.length ld] 30) = w7 at *
  refine (HRd.out w7 hA6).mono ?_
  rintro e w8 ⟨lm, lk, rfl, hR8, hn8, hl8, hP8⟩
  have hUB := BlockIs.new w8 [.int .i64 o, .int .i64 a, .int .i64 f, .slice lm ls.length lk] 24
  have hA8 := hP8.pure (ext_alloc w8 (.cells #[.int .i64 o, .int .i64 a, .int .i64 f, .slice lm ls.length lk] 24))
  have hB9 := hB7.ext hA8 id
  have hTB9 := hTB.ext hA8 id
  have hQ9 := hQ7.pure hA8
  have hR9 := hR7.ext hA8 (fun _ _ => id)
  have hS9 := hR8.ext (ext_alloc w8 (.cells #[.int .i64 o, .int .i64 a, .int .i64 f, .slice lm ls.length lk] 24)) (fun _ _ => id)
  clear HRd hR8 hP8 hn8 hl8 hB7 hQ7 hTB hR7 hA6 hA8
  go_wp2_with fail
  obtain ⟨ub, hub⟩ : ∃ ub, ub = w8.heap.size := ⟨_, rfl⟩
  rw [← hub]
  rw [← hub] at hUB
  clear hub
  generalize w8.alloc (.cells #[.int .i64 o, .int .i64 a, .int .i64 f, .slice lm ls.length lk] 24) = w9 at *
  have d0 : w9.drew.cell? ⟨tb, 0, none⟩ = some (.int .i64 o) := hTB9.cell 0
  have d1 : w9.drew.cell? ⟨tb, 0 + 1, none⟩ = some (.int .i64 a) := hTB9.cell 1
  have d2 : w9.drew.cell? ⟨tb, 0 + 2, none⟩ = some (.int .i64 f) := hTB9.cell 2
  have d3 : w9.drew.cell? ⟨tb, 0 + 3, none⟩ = some (.slice lb ls.length ld) := hTB9.cell 3
  have x0 : w9.drew.cell? ⟨w.heap.size, 0, none⟩ = some (.int .i64 o) := hB9.cell 0
  have x1 : w9.drew.cell? ⟨w.heap.size, 0 + 1, none⟩ = some (.int .i64 a) := hB9.cell 1
  have x2 : w9.drew.cell? ⟨w.heap.size, 0 + 2, none⟩ = some (.int .i64 f) := hB9.cell 2
  have x3 : w9.drew.cell? ⟨w.heap.size, 0 + 3, none⟩ = some (.slice la ls.length c) := hB9.cell 3
  have y0 : w9.drew.cell? ⟨ub, 0, none⟩ = some (.int .i64 o) := hUB.cell 0
  have y1 : w9.drew.cell? ⟨ub, 0 + 1, none⟩ = some (.int .i64 a) := hUB.cell 1
  have y2 : w9.drew.cell? ⟨ub, 0 + 2, none⟩ = some (.int .i64 f) := hUB.cell 2
  have y3 : w9.drew.cell? ⟨ub, 0 + 3, none⟩ = some (.slice lm ls.length lk) := hUB.cell 3
  have k0 := fun w' (hS : Ext (fun _ => False) w9.drew w') => hS.cell_some d0 id
  have k1 := fun w' (hS : Ext (fun _ => False) w9.drew w') => hS.cell_some d1 id
  have k2 := fun w' (hS : Ext (fun _ => False) w9.drew w') => hS.cell_some d2 id
  have k3 := fun w' (hS : Ext (fun _ => False) w9.drew w') => hS.cell_some d3 id
  have l0 := fun w' (hS : Ext (fun _ => False) w9.drew w') => hS.cell_some x0 id
  have l1 := fun w' (hS : Ext (fun _ => False) w9.drew w') => hS.cell_some x1 id
  have l2 := fun w' (hS : Ext (fun _ => False) w9.drew w') => hS.cell_some x2 id
  have l3 := fun w' (hS : Ext (fun _ => False) w9.drew w') => hS.cell_some x3 id
  have m0 := fun w' (hS : Ext (fun _ => False) w9.drew w') => hS.cell_some y0 id
  have m1 := fun w' (hS : Ext (fun _ => False) w9.drew w') => hS.cell_some y1 id
  have m2 := fun w' (hS : Ext (fun _ => False) w9.drew w') => hS.cell_some y2 id
  have m3 := fun w' (hS : Ext (fun _ => False) w9.drew w') => hS.cell_some y3 id
  have hR9d : RowOf w9.drew lb (ls.map intV) := hR9.ext ((Ext.refl (fun _ => False) w9).drew) (fun _ _ => id)
  have hS9d : RowOf w9.drew lm (ls.map intV) := hS9.ext ((Ext.refl (fun _ => False) w9).drew) (fun _ _ => id)
  refine region_start (fun _ => False) (by kernel_rfl) ?_
  try simp only [Act.put, List.setIfInBounds_toArray, List.set_cons_zero, List.set_cons_succ]
  refine region_take 0 60 (v := ?vbz0) rfl rfl (by kernel_rfl) (by kernel_rfl) (by kernel_rfl) (fun _ _ _ h => h) (by rfl) (fun w' hS => ?hbz0) ?rbz0
  case hbz0 => go_simp; with_reducible rfl
  try simp only [Act.put, List.setIfInBounds_toArray, List.set_cons_zero, List.set_cons_succ]
  refine region_take 1 61 (v := ?vbz1) rfl rfl (by kernel_rfl) (by kernel_rfl) (by kernel_rfl) (fun _ _ _ h => h) (by rfl) (fun w' hS => ?hbz1) ?rbz1
  case hbz1 => go_simp; with_reducible rfl
  try simp only [Act.put, List.setIfInBounds_toArray, List.set_cons_zero, List.set_cons_succ]
  refine region_take 2 62 (v := ?vbz2) rfl rfl (by kernel_rfl) (by kernel_rfl) (by kernel_rfl) (fun _ _ _ h => h) (by rfl) (fun w' hS => ?hbz2) ?rbz2
  case hbz2 => go_simp; with_reducible rfl
  try simp only [Act.put, List.setIfInBounds_toArray, List.set_cons_zero, List.set_cons_succ]
  refine region_take 3 63 (v := ?vbz3) rfl rfl (by kernel_rfl) (by kernel_rfl) (by kernel_rfl) (fun _ _ _ h => h) (by rfl) (fun w' hS => ?hbz3) ?rbz3
  case hbz3 => go_simp; with_reducible rfl
  try simp only [Act.put, List.setIfInBounds_toArray, List.set_cons_zero, List.set_cons_succ]
  refine region_take 5 65 (v := ?vbz5) rfl rfl (by kernel_rfl) (by kernel_rfl) (by kernel_rfl) (fun _ _ _ h => h) (by rfl) (fun w' hS => ?hbz5) ?rbz5
  case hbz5 => go_simp; with_reducible rfl
  try simp only [Act.put, List.setIfInBounds_toArray, List.set_cons_zero, List.set_cons_succ]
  refine wpAnyH_ready (rs := [4]) (by kernel_rfl) (by simp) (AllReadyH.cons rfl (fun K hK => ?_) AllReadyH.nil)
  go_simp
  refine (HOf.out lb ld _).mono ?_
  rintro e w10 ⟨rfl, hP10⟩
  refine hK.out _ _ (hP10) (fun hHeld => ?_)
  clear hK K hHeld
  refine region_now (hP10) ?_
  try simp only [Act.put, List.setIfInBounds_toArray, List.set_cons_zero, List.set_cons_succ]
  refine wpAnyH_ready (rs := [6]) (by kernel_rfl) (by simp) (AllReadyH.cons rfl (fun K hK => ?_) AllReadyH.nil)
  go_simp
  refine (HSa.out _ lb ld (hQ9.drew.pure hP10) (hR9d.ext hP10 (fun _ _ => id))).mono ?_
  rintro e w11 ⟨rfl, hP11⟩
  refine hK.out _ _ (hP11) (fun hHeld => ?_)
  clear hK K hHeld
  refine region_now (hP11) ?_
  try simp only [Act.put, List.setIfInBounds_toArray, List.set_cons_zero, List.set_cons_succ]
  refine region_take 7 67 (v := ?vbz7) rfl rfl (by kernel_rfl) (by kernel_rfl) (by kernel_rfl) (fun _ _ _ h => h) (by rfl) (fun w' hS => ?hbz7) ?rbz7
  case hbz7 => go_simp; with_reducible rfl
  try simp only [Act.put, List.setIfInBounds_toArray, List.set_cons_zero, List.set_cons_succ]
  refine region_take 8 68 (v := ?vbz8) rfl rfl (by kernel_rfl) (by kernel_rfl) (by kernel_rfl) (fun _ _ _ h => h) (by rfl) (fun w' hS => ?hbz8) ?rbz8
  case hbz8 => go_simp; with_reducible rfl
  try simp only [Act.put, List.setIfInBounds_toArray, List.set_cons_zero, List.set_cons_succ]
  refine region_take 9 69 (v := ?vbz9) rfl rfl (by kernel_rfl) (by kernel_rfl) (by kernel_rfl) (fun _ _ _ h => h) (by rfl) (fun w' hS => ?hbz9) ?rbz9
  case hbz9 => go_simp; with_reducible rfl
  try simp only [Act.put, List.setIfInBounds_toArray, List.set_cons_zero, List.set_cons_succ]
  refine region_take 10 70 (v := ?vbz10) rfl rfl (by kernel_rfl) (by kernel_rfl) (by kernel_rfl) (fun _ _ _ h => h) (by rfl) (fun w' hS => ?hbz10) ?rbz10
  case hbz10 => go_simp; with_reducible rfl
  try simp only [Act.put, List.setIfInBounds_toArray, List.set_cons_zero, List.set_cons_succ]
  refine region_take 11 71 (v := ?vbz11) rfl rfl (by kernel_rfl) (by kernel_rfl) (by kernel_rfl) (fun _ _ _ h => h) (by rfl) (fun w' hS => ?hbz11) ?rbz11
  case hbz11 => go_simp; with_reducible rfl
  try simp only [Act.put, List.setIfInBounds_toArray, List.set_cons_zero, List.set_cons_succ]
  refine region_take 12 72 (v := ?vbz12) rfl rfl (by kernel_rfl) (by kernel_rfl) (by kernel_rfl) (fun _ _ _ h => h) (by rfl) (fun w' hS => ?hbz12) ?rbz12
  case hbz12 => go_simp; with_reducible rfl
  try simp only [Act.put, List.setIfInBounds_toArray, List.set_cons_zero, List.set_cons_succ]
  refine region_take 13 73 (v := ?vbz13) rfl rfl (by kernel_rfl) (by kernel_rfl) (by kernel_rfl) (fun _ _ _ h => h) (by rfl) (fun w' hS => ?hbz13) ?rbz13
  case hbz13 => go_simp; with_reducible rfl
  try simp only [Act.put, List.setIfInBounds_toArray, List.set_cons_zero, List.set_cons_succ]
  refine region_take 14 74 (v := ?vbz14) rfl rfl (by kernel_rfl) (by kernel_rfl) (by kernel_rfl) (fun _ _ _ h => h) (by rfl) (fun w' hS => ?hbz14) ?rbz14
  case hbz14 => go_simp; with_reducible rfl
  try simp only [Act.put, List.setIfInBounds_toArray, List.set_cons_zero, List.set_cons_succ]
  refine region_take 15 75 (v := ?vbz15) rfl rfl (by kernel_rfl) (by kernel_rfl) (by kernel_rfl) (fun _ _ _ h => h) (by rfl) (fun w' hS => ?hbz15) ?rbz15
  case hbz15 => go_simp; with_reducible rfl
  try simp only [Act.put, List.setIfInBounds_toArray, List.set_cons_zero, List.set_cons_succ]
  refine region_take 16 76 (v := ?vbz16) rfl rfl (by kernel_rfl) (by kernel_rfl) (by kernel_rfl) (fun _ _ _ h => h) (by rfl) (fun w' hS => ?hbz16) ?rbz16
  case hbz16 => go_simp; with_reducible rfl
  try simp only [Act.put, List.setIfInBounds_toArray, List.set_cons_zero, List.set_cons_succ]
  refine region_take 17 77 (v := ?vbz17) rfl rfl (by kernel_rfl) (by kernel_rfl) (by kernel_rfl) (fun _ _ _ h => h) (by rfl) (fun w' hS => ?hbz17) ?rbz17
  case hbz17 => go_simp; with_reducible rfl
  try simp only [Act.put, List.setIfInBounds_toArray, List.set_cons_zero, List.set_cons_succ]
  refine region_take 18 78 (v := ?vbz18) rfl rfl (by kernel_rfl) (by kernel_rfl) (by kernel_rfl) (fun _ _ _ h => h) (by rfl) (fun w' hS => ?hbz18) ?rbz18
  case hbz18 => go_simp; with_reducible rfl
  try simp only [Act.put, List.setIfInBounds_toArray, List.set_cons_zero, List.set_cons_succ]
  have hE11 := hP10.pure hP11
  have l0' := fun w' (hS : Ext (fun _ => False) w11 w') => hS.cell_some (l0 w11 hE11) id
  have l1' := fun w' (hS : Ext (fun _ => False) w11 w') => hS.cell_some (l1 w11 hE11) id
  have l2' := fun w' (hS : Ext (fun _ => False) w11 w') => hS.cell_some (l2 w11 hE11) id
  have l3' := fun w' (hS : Ext (fun _ => False) w11 w') => hS.cell_some (l3 w11 hE11) id
  have m0' := fun w' (hS : Ext (fun _ => False) w11 w') => hS.cell_some (m0 w11 hE11) id
  have m1' := fun w' (hS : Ext (fun _ => False) w11 w') => hS.cell_some (m1 w11 hE11) id
  have m2' := fun w' (hS : Ext (fun _ => False) w11 w') => hS.cell_some (m2 w11 hE11) id
  have m3' := fun w' (hS : Ext (fun _ => False) w11 w') => hS.cell_some (m3 w11 hE11) id
  refine region_take 19 79 (v := ?vbz19) rfl rfl (by kernel_rfl) (by kernel_rfl) (by kernel_rfl) (fun _ _ _ h => h) (by rfl) (fun w' hS => ?hbz19) ?rbz19
  case hbz19 => go_simp; with_reducible rfl
  try simp only [Act.put, List.setIfInBounds_toArray, List.set_cons_zero, List.set_cons_succ]
  refine region_take 20 80 (v := ?vbz20) rfl rfl (by kernel_rfl) (by kernel_rfl) (by kernel_rfl) (fun _ _ _ h => h) (by rfl) (fun w' hS => ?hbz20) ?rbz20
  case hbz20 => go_simp; with_reducible rfl
  try simp only [Act.put, List.setIfInBounds_toArray, List.set_cons_zero, List.set_cons_succ]
  refine wpAnyH_ready (rs := [21]) (by kernel_rfl) (by simp) (AllReadyH.cons rfl (fun K hK => ?_) AllReadyH.nil)
  go_simp
  refine (HSa.out _ lm lk ((hQ9.drew.pure hP10).pure hP11) ((hS9d.ext hP10 (fun _ _ => id)).ext hP11 (fun _ _ => id))).mono ?_
  rintro e w12 ⟨rfl, hP12⟩
  refine hK.out _ _ (hP12) (fun hHeld => ?_)
  clear hK K hHeld
  refine region_now (hP12) ?_
  try simp only [Act.put, List.setIfInBounds_toArray, List.set_cons_zero, List.set_cons_succ]
  refine region_take 22 82 (v := ?vbz22) rfl rfl (by kernel_rfl) (by kernel_rfl) (by kernel_rfl) (fun _ _ _ h => h) (by rfl) (fun w' hS => ?hbz22) ?rbz22
  case hbz22 => go_simp; with_reducible rfl
  try simp only [Act.put, List.setIfInBounds_toArray, List.set_cons_zero, List.set_cons_succ]
  refine region_take 23 83 (v := ?vbz23) rfl rfl (by kernel_rfl) (by kernel_rfl) (by kernel_rfl) (fun _ _ _ h => h) (by rfl) (fun w' hS => ?hbz23) ?rbz23
  case hbz23 => go_simp; with_reducible rfl
  try simp only [Act.put, List.setIfInBounds_toArray, List.set_cons_zero, List.set_cons_succ]
  refine region_take 24 84 (v := ?vbz24) rfl rfl (by kernel_rfl) (by kernel_rfl) (by kernel_rfl) (fun _ _ _ h => h) (by rfl) (fun w' hS => ?hbz24) ?rbz24
  case hbz24 => go_simp; with_reducible rfl
  try simp only [Act.put, List.setIfInBounds_toArray, List.set_cons_zero, List.set_cons_succ]
  refine region_take 25 85 (v := ?vbz25) rfl rfl (by kernel_rfl) (by kernel_rfl) (by kernel_rfl) (fun _ _ _ h => h) (by rfl) (fun w' hS => ?hbz25) ?rbz25
  case hbz25 => go_simp; with_reducible rfl
  try simp only [Act.put, List.setIfInBounds_toArray, List.set_cons_zero, List.set_cons_succ]
  refine region_take 26 86 (v := ?vbz26) rfl rfl (by kernel_rfl) (by kernel_rfl) (by kernel_rfl) (fun _ _ _ h => h) (by rfl) (fun w' hS => ?hbz26) ?rbz26
  case hbz26 => go_simp; with_reducible rfl
  try simp only [Act.put, List.setIfInBounds_toArray, List.set_cons_zero, List.set_cons_succ]
  refine region_take 27 87 (v := ?vbz27) rfl rfl (by kernel_rfl) (by kernel_rfl) (by kernel_rfl) (fun _ _ _ h => h) (by rfl) (fun w' hS => ?hbz27) ?rbz27
  case hbz27 => go_simp; with_reducible rfl
  try simp only [Act.put, List.setIfInBounds_toArray, List.set_cons_zero, List.set_cons_succ]
  refine region_take 28 88 (v := ?vbz28) rfl rfl (by kernel_rfl) (by kernel_rfl) (by kernel_rfl) (fun _ _ _ h => h) (by rfl) (fun w' hS => ?hbz28) ?rbz28
  case hbz28 => go_simp; with_reducible rfl
  try simp only [Act.put, List.setIfInBounds_toArray, List.set_cons_zero, List.set_cons_succ]
  refine wpAnyH_ready (rs := [29]) (by kernel_rfl) (by simp) (AllReadyH.cons rfl (fun K hK => ?_) AllReadyH.nil)
  go_simp
  refine (works_any _).mono ?_
  rintro e w13 ⟨rfl, hP13⟩
  refine hK.out _ _ (hP13) (fun hHeld => ?_)
  clear hK K hHeld
  refine region_now (hP13) ?_
  try simp only [Act.put, List.setIfInBounds_toArray, List.set_cons_zero, List.set_cons_succ]
  refine region_take 30 90 (v := ?vbz30) rfl rfl (by kernel_rfl) (by kernel_rfl) (by kernel_rfl) (fun _ _ _ h => h) (by rfl) (fun w' hS => ?hbz30) ?rbz30
  case hbz30 => go_simp; with_reducible rfl
  try simp only [Act.put, List.setIfInBounds_toArray, List.set_cons_zero, List.set_cons_succ]
  refine region_take 31 4 (v := ?vbz31) rfl rfl (by kernel_rfl) (by kernel_rfl) (by kernel_rfl) (fun _ _ _ h => h) (by rfl) (fun w' hS => ?hbz31) ?rbz31
  case hbz31 => go_simp; with_reducible rfl
  try simp only [Act.put, List.setIfInBounds_toArray, List.set_cons_zero, List.set_cons_succ]
  refine wpAnyH_done (by kernel_rfl) ?_ _
  go_wp2_with fail
  go_ret
  exact ⟨rfl, ((((hQ9.drew.pure hP10).pure hP11).pure hP12).pure hP13).below⟩
set_option maxRecDepth 100000 in
theorem walk (o a f : Int) (la : Option Addr) (c : Nat) (ls : List Int) (bd : Option Addr) (bc : Nat) (bl : List UInt8) (w : World) (hl : (ls.length : Int) ≤ 9223372036854775807) (hr : RowOf w la (ls.map numV)) (hb : Bytes w bd bl) (hnil : bd = none → bc = 0) (hle : bl.length ≤ bc) :
    Calls Try.prog 5 #[tblV o a f la ls.length c, .slice bd bl.length bc] w fun e w' => e = .returned (.bool true) ∧ Below w.heap.size w w' := by
  by_cases h100 : (100 : Int) < (ls.length : Int)
  · clear hr hb
    unfold tblV
    go_enter Try.func5, Try.ntmps5
    go_wp2_with fail
    refine (works_any _).mono ?_
    rintro e w2 ⟨rfl, hP⟩
    go_wp2_with fail
    go_ret
    exact ⟨rfl, ((ext_alloc w _).pure hP).below⟩
  · by_cases h300 : (300 : Int) < (bl.length : Int)
    · clear hr hb
      unfold tblV
      go_enter Try.func5, Try.ntmps5
      go_wp2_with fail
      refine (works_any _).mono ?_
      rintro e w2 ⟨rfl, hP⟩
      go_wp2_with fail
      go_ret
      exact ⟨rfl, ((ext_alloc w _).pure hP).below⟩
    · by_cases h : okT o a f ls = true
      · obtain ⟨e1, e2, e3, e4⟩ := okT_ints h
        have key := walk_yes o.toNat a.toNat f.toNat la c (nats ls) bd bc bl w (by rw [← intV_map, ← e4]; exact hr) (by unfold ints; rw [← e4, ← e1, ← e2, ← e3]; exact h) (by rw [nats_len]; omega) hb hnil hle (by omega)
        rw [← e1, ← e2, ← e3, nats_len] at key
        exact key
      · have h' : okT o a f ls = false := by simpa using h
        obtain ⟨w1, hw1⟩ : ∃ w1, w1 = w.alloc (.cells #[.int .i64 o, .int .i64 a, .int .i64 f, .slice la ls.length c] 24) := ⟨_, rfl⟩
        have hB1 : BlockIs w1 w.heap.size [.int .i64 o, .int .i64 a, .int .i64 f, .slice la ls.length c] 24 := hw1 ▸ BlockIs.new w _ _
        have hP1 : Pure w w1 := hw1 ▸ ext_alloc w _
        have HTo := Lib.hid (fun W => to_any o a f la ls.length c W)
        have HEn := Lib.hid (fun W (hP : Pure w W) => encode_no o a f la c ls W (hr.ext hP (fun _ _ => id)) hl h')
        have HCh0 := fun W (hP : Pure w W) => refcheck_any o a f la c ls W (hr.ext hP (fun _ _ => id)) hl
        unfold ChkRes at HCh0
        rw [h'] at HCh0
        have HCh := Lib.hid HCh0
        clear HCh0 h h' hr hb
        unfold tblV at HCh HTo HEn ⊢
        go_enter Try.func5, Try.ntmps5
        go_wp2_with fail
        rw [← hw1]
        clear hw1
        refine (HTo.out _).mono ?_
        rintro e w2 ⟨rfl, hP2⟩
        have hB2 := hB1.ext hP2 id
        have hQ2 := hP1.pure hP2
        go_wp2_with fail
        refine (HEn.out _ hQ2).mono ?_
        rintro e w3 ⟨rfl, hP3⟩
        have hB3 := hB2.ext hP3 id
        have hQ3 := hQ2.pure hP3
        have x0 : w3.cell? ⟨w.heap.size, 0, none⟩ = some (.int .i64 o) := hB3.cell 0
        have x1 : w3.cell? ⟨w.heap.size, 0 + 1, none⟩ = some (.int .i64 a) := hB3.cell 1
        have x2 : w3.cell? ⟨w.heap.size, 0 + 2, none⟩ = some (.int .i64 f) := hB3.cell 2
        have x3 : w3.cell? ⟨w.heap.size, 0 + 3, none⟩ = some (.slice la ls.length c) := hB3.cell 3
        go_wp2_with fail
        refine (HCh.out _ hQ3).mono ?_
        rintro e w4 ⟨rfl, hP4⟩
        go_wp2_with fail
        refine (works_any _).mono ?_
        rintro e w5 ⟨rfl, hP5⟩
        go_wp2_with fail
        go_ret
        exact ⟨rfl, ((hQ3.pure hP4).pure hP5).below⟩

theorem lifted (os : Os) (started : os.Started) (H : Type) (enc : TypeId × Value → H) :
    ReturnsInHanded {} Try.checked os 5 .any (Rows.shareHintBackSpec.pre6 enc Try.prog Try.f5 Rows.shareHintBackRow.domain false) (Rows.shareHintBackSpec.post enc Try.prog Try.f5 false true false false) := by
  refine returnsInHanded_of_change (C := Try.checked) own started (by kernel_rfl) Try.func5
    (ChangeSpec.witness6 (enc := enc) (C := Try.checked) false ⟨#[], #[.agg #[.int .i64 0, .int .i64 0, .int .i64 0, .slice none 0 0], .slice none 0 0], []⟩ 8 (by kernel_rfl) (by kernel_rfl) (by kernel_rfl) (by kernel_rfl)) ?_
  intro W base args ds gs before hval0 hW hcnd _
  have hval : ∀ (j : Nat) t v, Try.f5.params[j]? = some t → args[j]? = some v → Value.okWide Try.prog W .any base t v := hval0
  have hW' := hW
  obtain ⟨p, q, hA0, hV, rfl, hfz, hnd⟩ := hW
  have hA : DataW.TrodAll enc Try.prog W 0 (fun _ => true) true Try.f5.params.toList args.toList ds p := hA0
  rw [Try.params5] at hA hval
  obtain ⟨v0, vs0, d0, ds0, p0, q0, hargs, rfl, rfl, h0, r0⟩ := trodAll_cons hA
  obtain ⟨v1, vs1, d1, ds1, p1, q1, rfl, rfl, rfl, h1, r1⟩ := trodAll_cons r0
  obtain ⟨rfl, rfl, rfl⟩ := trodAll_nil r1
  obtain rfl : args = #[v0, v1] := by cases args; simp_all
  obtain ⟨rfl, rfl⟩ := trodVars_none hV
  have k0 := h0
  have lt0 : ∀ x ∈ p0, x.block < W.heap.size := by obtain ⟨m, hm⟩ := k0; exact DataW.trod_lt m _ _ _ hm
  have k1 := h1
  have lt1 : ∀ x ∈ p1, x.block < W.heap.size := by obtain ⟨m, hm⟩ := k1; exact DataW.trod_lt m _ _ _ hm
  obtain ⟨o, a, f, la, c, ls, rfl, hl, hrow⟩ := open_tab (hval 0 24 v0 rfl rfl) h0
  obtain ⟨bd, bc, bl, rfl, hble, hbn, hbb⟩ := open_byts (hval 1 26 v1 rfl rfl) h1
  clear hA0 hval0
  refine (walk o a f la c ls bd bc bl W hl hrow hbb hbn hble).mono fun e W' ⟨he, bel⟩ => ?_
  subst he
  exact ⟨_, rfl, _, _, _, [], _, [], hW', trodAll_mk1 (shut_bool Try.underlying4 _), (trodAll_cons_mk (Below.trod laidOut (by kernel_rfl) (of_decide_eq_true (by kernel_rfl)) k0 bel lt0) (trodAll_cons_mk (Below.trod laidOut (by kernel_rfl) (of_decide_eq_true (by kernel_rfl)) k1 bel lt1) trodAll_mk0)), rfl, bel.frame _, fun h => by cases h⟩

theorem proved : Rows.ShareHintBackSaid :=
  OpenClaim.holds_of_wide 5 Try.f5 rfl rfl rfl rfl rfl rfl rfl ⟨rfl, rfl, rfl, rfl, rfl⟩ rfl rfl rfl rfl rfl (by kernel_rfl) Try.func5 (by kernel_rfl)
    (of_decide_eq_true (by kernel_rfl)) (by unfold Func.isWrapper; first | (rw [if_pos (by decide +kernel)]; kernel_rfl) | (rw [if_neg (by decide +kernel)]; exact ⟨rfl, rfl⟩))
    (fun os started H enc _ => lifted os started H enc)
#print axioms proved
end Go.Proofs.Ytjnpjkenmkgooaa.shareHintBack
