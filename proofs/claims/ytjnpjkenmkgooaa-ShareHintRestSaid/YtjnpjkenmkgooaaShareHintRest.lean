/-
  ShareHintRest: whatever signatures there are, and whatever width groups have, the program decodes the same table from the reference's text. No condition.
-/
import Derived.Test.YtjnpjkenmkgooaaOpenTab
namespace Go.Proofs.Ytjnpjkenmkgooaa.shareHintRest
open Go.ChangeShapes Go.WideShapes Go.ChangeAt Go.RowKit Go.Proofs.Ytjnpjkenmkgooaa C27
set_option linter.unusedVariables false

set_option maxRecDepth 100000 in
theorem walk_yes (o a f : Nat) (la : Option Addr) (c : Nat) (ls : List Nat) (sa : Option Addr) (sc : Nat) (signed : List Bool) (g : Nat) (w : World) (hr : RowOf w la (ls.map intV)) (hok : okT o a f (ints ls) = true) (h100 : ls.length ≤ 100) (hs : RowOf w sa (signed.map Value.bool)) (hsl : (signed.length : Int) ≤ 9223372036854775807) (hg : g ≤ 255) :
    Calls Try.prog 6 #[tblV o a f la ls.length c, .slice sa signed.length sc, .int .u8 g] w fun e w' => e = .returned (.bool true) ∧ Below w.heap.size w w' := by
  obtain ⟨w1, hw1⟩ : ∃ w1, w1 = w.alloc (.cells #[.int .i64 o, .int .i64 a, .int .i64 f, .slice la ls.length c] 24) := ⟨_, rfl⟩
  have hB1 : BlockIs w1 w.heap.size [.int .i64 o, .int .i64 a, .int .i64 f, .slice la ls.length c] 24 := hw1 ▸ BlockIs.new w _ _
  have hP1 : Pure w w1 := hw1 ▸ ext_alloc w _
  have HCh0 := fun W (hP : Pure w W) => refcheck_any o a f la c (ints ls) W (row_ints (hr.ext hP (fun _ _ => id))) (by rw [ints_len]; omega)
  unfold ChkRes at HCh0
  rw [hok, ints_len] at HCh0
  obtain ⟨gr, hgr⟩ : ∃ gr, gr = g % 33 := ⟨_, rfl⟩
  have hgrl : gr ≤ 32 := by omega
  have hgi : (g : Int) % 33 = (gr : Int) := by omega
  have HTx0 := fun W (hP : Pure w W) => text_any o a f la c ls sa sc signed gr W (hr.ext hP (fun _ _ => id)) hok hgrl (hs.ext hP (fun _ _ => id)) hsl
  obtain ⟨P, hPP⟩ : ∃ P, P = pack true (tabB o a f ls gr signed) := ⟨_, rfl⟩
  have htl : P.length ≤ 10000000 := by
    have := tab_len (signed := signed) hok hgrl
    rw [hPP]; omega
  have HDe0 := fun (ra : Option Addr) (rc : Nat) W (h1 : Bytes W ra P) (h2 : ra = none → rc = 0) (h3 : P.length ≤ rc) => decode_tab (o := o) (a := a) (f := f) (ls := ls) (groups := gr) (signed := signed) [] ra rc P (by rw [List.append_nil]; exact hPP) W hok hgrl h1 h2 h3 htl
  rw [← hPP] at HTx0 HDe0
  have HSa0 := fun W (lb : Option Addr) (ld : Nat) (hP : Ext (fun _ => False) w W) (h1 : RowOf W lb (ls.map intV)) => refsame_any (o : Int) a f lb ld (ints ls) o a f la c (ints ls) W (row_ints h1) (row_ints (hr.ext hP (fun _ _ => id))) (by rw [ints_len]; omega) (by rw [ints_len]; omega)
  rw [ints_len, alike_refl] at HSa0
  have HOf0 := fun lb ld W => of_any (o : Int) a f lb ls.length ld W
  have HCh := Lib.hid HCh0
  have HTx := Lib.hid HTx0
  have HDe := Lib.hid HDe0
  have HSa := Lib.hid HSa0
  have HOf := Lib.hid HOf0
  unfold tblV at HCh HTx HSa HOf ⊢
  clear HCh0 HTx0 HDe0 HSa0 HOf0 hPP hok hr hs hgr
  go_enter Try.func6, Try.ntmps6
  go_wp2_with fail
  rw [← hw1]
  clear hw1
  refine (HCh.out _ hP1).mono ?_
  rintro e w2 ⟨rfl, hP2⟩
  have hB2 := hB1.ext hP2 id
  have hQ2 := hP1.pure hP2
  have b0 : w2.cell? ⟨w.heap.size, 0, none⟩ = some (.int .i64 o) := hB2.cell 0
  have b1 : w2.cell? ⟨w.heap.size, 0 + 1, none⟩ = some (.int .i64 a) := hB2.cell 1
  have b2 : w2.cell? ⟨w.heap.size, 0 + 2, none⟩ = some (.int .i64 f) := hB2.cell 2
  have b3 : w2.cell? ⟨w.heap.size, 0 + 3, none⟩ = some (.slice la ls.length c) := hB2.cell 3
  go_wp2_with fail
  refine (HTx.out _ hQ2).mono ?_
  rintro e w3 ⟨ra, rc, rfl, hO, hP3⟩
  obtain ⟨_, _, hh, h1, h2, h3, h4⟩ := own_form hO
  cases hh
  have HD := Lib.hid (HDe.out ra rc w3 (bytes_of_own hO) h3 h1)
  have hB3 := hB2.ext hP3 id
  have hQ3 := hQ2.pure hP3
  clear hO h1 h2 h3 h4 HDe HTx HCh b0 b1 b2 b3
  go_wp2_with fail
  refine HD.out.mono ?_
  rintro e w4 ⟨lb, ld, rfl, hR4, hn4, hl4, hP4⟩
  have hTB := BlockIs.new w4 [.int .i64 o, .int .i64 a, .int .i64 f, .slice lb ls.length ld] 30
  have hB5 := (hB3.ext hP4 id).ext (ext_alloc w4 (.cells #[.int .i64 o, .int .i64 a, .int .i64 f, .slice lb ls.length ld] 30)) id
  have hQ5 := (hQ3.pure hP4).pure (ext_alloc w4 (.cells #[.int .i64 o, .int .i64 a, .int .i64 f, .slice lb ls.length ld] 30))
  have hR5 := hR4.ext (ext_alloc w4 (.cells #[.int .i64 o, .int .i64 a, .int .i64 f, .slice lb ls.length ld] 30)) (fun _ _ => id)
  clear HD hR4 hP4 hn4 hl4
  go_wp2_with fail
  obtain ⟨tb, htb⟩ : ∃ tb, tb = w4.heap.size := ⟨_, rfl⟩
  rw [← htb]
  rw [← htb] at hTB
  clear htb
  generalize w4.alloc (.cells #[.int .i64 o, .int .i64 a, .int .i64 f, .slice lb ls.length ld] 30) = w5 at *
  have d0 : w5.drew.cell? ⟨tb, 0, none⟩ = some (.int .i64 o) := hTB.cell 0
  have d1 : w5.drew.cell? ⟨tb, 0 + 1, none⟩ = some (.int .i64 a) := hTB.cell 1
  have d2 : w5.drew.cell? ⟨tb, 0 + 2, none⟩ = some (.int .i64 f) := hTB.cell 2
  have d3 : w5.drew.cell? ⟨tb, 0 + 3, none⟩ = some (.slice lb ls.length ld) := hTB.cell 3
  have x0 : w5.drew.cell? ⟨w.heap.size, 0, none⟩ = some (.int .i64 o) := hB5.cell 0
  have x1 : w5.drew.cell? ⟨w.heap.size, 0 + 1, none⟩ = some (.int .i64 a) := hB5.cell 1
  have x2 : w5.drew.cell? ⟨w.heap.size, 0 + 2, none⟩ = some (.int .i64 f) := hB5.cell 2
  have x3 : w5.drew.cell? ⟨w.heap.size, 0 + 3, none⟩ = some (.slice la ls.length c) := hB5.cell 3
  have k0 := fun w' (hS : Ext (fun _ => False) w5.drew w') => hS.cell_some d0 id
  have k1 := fun w' (hS : Ext (fun _ => False) w5.drew w') => hS.cell_some d1 id
  have k2 := fun w' (hS : Ext (fun _ => False) w5.drew w') => hS.cell_some d2 id
  have k3 := fun w' (hS : Ext (fun _ => False) w5.drew w') => hS.cell_some d3 id
  have l0 := fun w' (hS : Ext (fun _ => False) w5.drew w') => hS.cell_some x0 id
  have l1 := fun w' (hS : Ext (fun _ => False) w5.drew w') => hS.cell_some x1 id
  have l2 := fun w' (hS : Ext (fun _ => False) w5.drew w') => hS.cell_some x2 id
  have l3 := fun w' (hS : Ext (fun _ => False) w5.drew w') => hS.cell_some x3 id
  refine region_start (fun _ => False) (by kernel_rfl) ?_
  try simp only [Act.put, List.setIfInBounds_toArray, List.set_cons_zero, List.set_cons_succ]
  refine region_take 0 33 (v := ?vrz0) rfl rfl (by kernel_rfl) (by kernel_rfl) (by kernel_rfl) (fun _ _ _ h => h) (by rfl) (fun w' hS => ?hrz0) ?rrz0
  case hrz0 => go_simp; with_reducible rfl
  try simp only [Act.put, List.setIfInBounds_toArray, List.set_cons_zero, List.set_cons_succ]
  refine region_take 1 34 (v := ?vrz1) rfl rfl (by kernel_rfl) (by kernel_rfl) (by kernel_rfl) (fun _ _ _ h => h) (by rfl) (fun w' hS => ?hrz1) ?rrz1
  case hrz1 => go_simp; with_reducible rfl
  try simp only [Act.put, List.setIfInBounds_toArray, List.set_cons_zero, List.set_cons_succ]
  refine region_take 2 35 (v := ?vrz2) rfl rfl (by kernel_rfl) (by kernel_rfl) (by kernel_rfl) (fun _ _ _ h => h) (by rfl) (fun w' hS => ?hrz2) ?rrz2
  case hrz2 => go_simp; with_reducible rfl
  try simp only [Act.put, List.setIfInBounds_toArray, List.set_cons_zero, List.set_cons_succ]
  refine region_take 3 36 (v := ?vrz3) rfl rfl (by kernel_rfl) (by kernel_rfl) (by kernel_rfl) (fun _ _ _ h => h) (by rfl) (fun w' hS => ?hrz3) ?rrz3
  case hrz3 => go_simp; with_reducible rfl
  try simp only [Act.put, List.setIfInBounds_toArray, List.set_cons_zero, List.set_cons_succ]
  refine region_take 5 38 (v := ?vrz5) rfl rfl (by kernel_rfl) (by kernel_rfl) (by kernel_rfl) (fun _ _ _ h => h) (by rfl) (fun w' hS => ?hrz5) ?rrz5
  case hrz5 => go_simp; with_reducible rfl
  try simp only [Act.put, List.setIfInBounds_toArray, List.set_cons_zero, List.set_cons_succ]
  refine wpAnyH_ready (rs := [4]) (by kernel_rfl) (by simp) (AllReadyH.cons rfl (fun K hK => ?_) AllReadyH.nil)
  go_simp
  refine (HOf.out lb ld _).mono ?_
  rintro e w6 ⟨rfl, hP6⟩
  refine hK.out _ _ (hP6) (fun hHeld => ?_)
  clear hK K hHeld
  refine region_now (hP6) ?_
  try simp only [Act.put, List.setIfInBounds_toArray, List.set_cons_zero, List.set_cons_succ]
  refine wpAnyH_ready (rs := [6]) (by kernel_rfl) (by simp) (AllReadyH.cons rfl (fun K hK => ?_) AllReadyH.nil)
  go_simp
  refine (HSa.out _ lb ld (hQ5.drew.pure hP6) ((hR5.ext ((Ext.refl (fun _ => False) w5).drew) (fun _ _ => id)).ext hP6 (fun _ _ => id))).mono ?_
  rintro e w7 ⟨rfl, hP7⟩
  refine hK.out _ _ (hP7) (fun hHeld => ?_)
  clear hK K hHeld
  refine region_now (hP7) ?_
  try simp only [Act.put, List.setIfInBounds_toArray, List.set_cons_zero, List.set_cons_succ]
  refine region_take 7 40 (v := ?vrz7) rfl rfl (by kernel_rfl) (by kernel_rfl) (by kernel_rfl) (fun _ _ _ h => h) (by rfl) (fun w' hS => ?hrz7) ?rrz7
  case hrz7 => go_simp; with_reducible rfl
  try simp only [Act.put, List.setIfInBounds_toArray, List.set_cons_zero, List.set_cons_succ]
  refine region_take 8 41 (v := ?vrz8) rfl rfl (by kernel_rfl) (by kernel_rfl) (by kernel_rfl) (fun _ _ _ h => h) (by rfl) (fun w' hS => ?hrz8) ?rrz8
  case hrz8 => go_simp; with_reducible rfl
  try simp only [Act.put, List.setIfInBounds_toArray, List.set_cons_zero, List.set_cons_succ]
  refine region_take 9 42 (v := ?vrz9) rfl rfl (by kernel_rfl) (by kernel_rfl) (by kernel_rfl) (fun _ _ _ h => h) (by rfl) (fun w' hS => ?hrz9) ?rrz9
  case hrz9 => go_simp; with_reducible rfl
  try simp only [Act.put, List.setIfInBounds_toArray, List.set_cons_zero, List.set_cons_succ]
  refine region_take 10 43 (v := ?vrz10) rfl rfl (by kernel_rfl) (by kernel_rfl) (by kernel_rfl) (fun _ _ _ h => h) (by rfl) (fun w' hS => ?hrz10) ?rrz10
  case hrz10 => go_simp; with_reducible rfl
  try simp only [Act.put, List.setIfInBounds_toArray, List.set_cons_zero, List.set_cons_succ]
  refine region_take 11 44 (v := ?vrz11) rfl rfl (by kernel_rfl) (by kernel_rfl) (by kernel_rfl) (fun _ _ _ h => h) (by rfl) (fun w' hS => ?hrz11) ?rrz11
  case hrz11 => go_simp; with_reducible rfl
  try simp only [Act.put, List.setIfInBounds_toArray, List.set_cons_zero, List.set_cons_succ]
  refine region_take 12 45 (v := ?vrz12) rfl rfl (by kernel_rfl) (by kernel_rfl) (by kernel_rfl) (fun _ _ _ h => h) (by rfl) (fun w' hS => ?hrz12) ?rrz12
  case hrz12 => go_simp; with_reducible rfl
  try simp only [Act.put, List.setIfInBounds_toArray, List.set_cons_zero, List.set_cons_succ]
  refine region_take 13 46 (v := ?vrz13) rfl rfl (by kernel_rfl) (by kernel_rfl) (by kernel_rfl) (fun _ _ _ h => h) (by rfl) (fun w' hS => ?hrz13) ?rrz13
  case hrz13 => go_simp; with_reducible rfl
  try simp only [Act.put, List.setIfInBounds_toArray, List.set_cons_zero, List.set_cons_succ]
  refine region_take 14 47 (v := ?vrz14) rfl rfl (by kernel_rfl) (by kernel_rfl) (by kernel_rfl) (fun _ _ _ h => h) (by rfl) (fun w' hS => ?hrz14) ?rrz14
  case hrz14 => go_simp; with_reducible rfl
  try simp only [Act.put, List.setIfInBounds_toArray, List.set_cons_zero, List.set_cons_succ]
  refine wpAnyH_ready (rs := [15]) (by kernel_rfl) (by simp) (AllReadyH.cons rfl (fun K hK => ?_) AllReadyH.nil)
  go_simp
  refine (works_any _).mono ?_
  rintro e w8 ⟨rfl, hP8⟩
  refine hK.out _ _ (hP8) (fun hHeld => ?_)
  clear hK K hHeld
  refine region_now (hP8) ?_
  try simp only [Act.put, List.setIfInBounds_toArray, List.set_cons_zero, List.set_cons_succ]
  refine region_take 16 49 (v := ?vrz16) rfl rfl (by kernel_rfl) (by kernel_rfl) (by kernel_rfl) (fun _ _ _ h => h) (by rfl) (fun w' hS => ?hrz16) ?rrz16
  case hrz16 => go_simp; with_reducible rfl
  try simp only [Act.put, List.setIfInBounds_toArray, List.set_cons_zero, List.set_cons_succ]
  refine region_take 17 6 (v := ?vrz17) rfl rfl (by kernel_rfl) (by kernel_rfl) (by kernel_rfl) (fun _ _ _ h => h) (by rfl) (fun w' hS => ?hrz17) ?rrz17
  case hrz17 => go_simp; with_reducible rfl
  try simp only [Act.put, List.setIfInBounds_toArray, List.set_cons_zero, List.set_cons_succ]
  refine wpAnyH_done (by kernel_rfl) ?_ _
  go_wp2_with fail
  go_ret
  exact ⟨rfl, (((hQ5.drew.pure hP6).pure hP7).pure hP8).below⟩
set_option maxRecDepth 100000 in
theorem walk (o a f : Int) (la : Option Addr) (c : Nat) (ls : List Int) (sa : Option Addr) (sc : Nat) (signed : List Bool) (g : Int) (w : World) (hl : (ls.length : Int) ≤ 9223372036854775807) (hr : RowOf w la (ls.map numV)) (hs : RowOf w sa (signed.map Value.bool)) (hsl : (signed.length : Int) ≤ 9223372036854775807) (hg0 : 0 ≤ g) (hg : g ≤ 255) :
    Calls Try.prog 6 #[tblV o a f la ls.length c, .slice sa signed.length sc, .int .u8 g] w fun e w' => e = .returned (.bool true) ∧ Below w.heap.size w w' := by
  by_cases h100 : (100 : Int) < (ls.length : Int)
  · clear hr hs
    unfold tblV
    go_enter Try.func6, Try.ntmps6
    go_wp2_with fail
    refine (works_any _).mono ?_
    rintro e w2 ⟨rfl, hP⟩
    go_wp2_with fail
    go_ret
    exact ⟨rfl, ((ext_alloc w _).pure hP).below⟩
  · by_cases h : okT o a f ls = true
    · obtain ⟨e1, e2, e3, e4⟩ := okT_ints h
      have key := walk_yes o.toNat a.toNat f.toNat la c (nats ls) sa sc signed g.toNat w (by rw [← intV_map, ← e4]; exact hr) (by unfold ints; rw [← e4, ← e1, ← e2, ← e3]; exact h) (by rw [nats_len]; omega) hs hsl (by omega)
      rw [← e1, ← e2, ← e3, nats_len, show (g.toNat : Int) = g from by omega] at key
      exact key
    · have h' : okT o a f ls = false := by simpa using h
      have HCh0 := fun W (hP : Pure w W) => refcheck_any o a f la c ls W (hr.ext hP (fun _ _ => id)) hl
      unfold ChkRes at HCh0
      rw [h'] at HCh0
      have HCh := Lib.hid HCh0
      clear HCh0 h h' hr hs
      unfold tblV at HCh ⊢
      go_enter Try.func6, Try.ntmps6
      go_wp2_with fail
      refine (HCh.out _ (ext_alloc w _)).mono ?_
      rintro e w2 ⟨rfl, hP2⟩
      go_wp2_with fail
      refine (works_any _).mono ?_
      rintro e w3 ⟨rfl, hP3⟩
      go_wp2_with fail
      go_ret
      exact ⟨rfl, (((ext_alloc w _).pure hP2).pure hP3).below⟩

theorem lifted (os : Os) (started : os.Started) (H : Type) (enc : TypeId × Value → H) :
    ReturnsInHanded {} Try.checked os 6 .any (Rows.shareHintRestSpec.pre6 enc Try.prog Try.f6 Rows.shareHintRestRow.domain false) (Rows.shareHintRestSpec.post enc Try.prog Try.f6 false true false false) := by
  refine returnsInHanded_of_change (C := Try.checked) own started (by kernel_rfl) Try.func6
    (ChangeSpec.witness6 (enc := enc) (C := Try.checked) false ⟨#[], #[.agg #[.int .i64 0, .int .i64 0, .int .i64 0, .slice none 0 0], .slice none 0 0, .int .u8 0], []⟩ 8 (by kernel_rfl) (by kernel_rfl) (by kernel_rfl) (by kernel_rfl)) ?_
  intro W base args ds gs before hval0 hW hcnd _
  have hval : ∀ (j : Nat) t v, Try.f6.params[j]? = some t → args[j]? = some v → Value.okWide Try.prog W .any base t v := hval0
  have hW' := hW
  obtain ⟨p, q, hA0, hV, rfl, hfz, hnd⟩ := hW
  have hA : DataW.TrodAll enc Try.prog W 0 (fun _ => true) true Try.f6.params.toList args.toList ds p := hA0
  rw [Try.params6] at hA hval
  obtain ⟨v0, vs0, d0, ds0, p0, q0, hargs, rfl, rfl, h0, r0⟩ := trodAll_cons hA
  obtain ⟨v1, vs1, d1, ds1, p1, q1, rfl, rfl, rfl, h1, r1⟩ := trodAll_cons r0
  obtain ⟨v2, vs2, d2, ds2, p2, q2, rfl, rfl, rfl, h2, r2⟩ := trodAll_cons r1
  obtain ⟨rfl, rfl, rfl⟩ := trodAll_nil r2
  obtain rfl : args = #[v0, v1, v2] := by cases args; simp_all
  obtain ⟨rfl, rfl⟩ := trodVars_none hV
  have k0 := h0
  have lt0 : ∀ x ∈ p0, x.block < W.heap.size := by obtain ⟨m, hm⟩ := k0; exact DataW.trod_lt m _ _ _ hm
  have k1 := h1
  have lt1 : ∀ x ∈ p1, x.block < W.heap.size := by obtain ⟨m, hm⟩ := k1; exact DataW.trod_lt m _ _ _ hm
  have k2 := h2
  have lt2 : ∀ x ∈ p2, x.block < W.heap.size := by obtain ⟨m, hm⟩ := k2; exact DataW.trod_lt m _ _ _ hm
  obtain ⟨o, a, f, la, c, ls, rfl, hl, hrow⟩ := open_tab (hval 0 24 v0 rfl rfl) h0
  obtain ⟨sa, sc, sg, rfl, hsl, hsr⟩ := open_truths (hval 1 45 v1 rfl rfl) h1
  obtain ⟨x, rfl, rfl, rfl, wx⟩ := open_int Try.underlying5 (hval 2 5 v2 rfl rfl) h2
  clear hA0 hval0
  have hx : 0 ≤ x ∧ x ≤ 255 := by simpa [Lit.wf, IntKind.min, IntKind.max, IntKind.signed, IntKind.bits] using wx
  refine (walk o a f la c ls sa sc sg x W hl hrow hsr hsl hx.1 hx.2).mono fun e W' ⟨he, bel⟩ => ?_
  subst he
  exact ⟨_, rfl, _, _, _, [], _, [], hW', trodAll_mk1 (shut_bool Try.underlying4 _), (trodAll_cons_mk (Below.trod laidOut (by kernel_rfl) (of_decide_eq_true (by kernel_rfl)) k0 bel lt0) (trodAll_cons_mk (Below.trod laidOut (by kernel_rfl) (of_decide_eq_true (by kernel_rfl)) k1 bel lt1) (trodAll_cons_mk (Below.trod laidOut (by kernel_rfl) (of_decide_eq_true (by kernel_rfl)) k2 bel lt2) trodAll_mk0))), rfl, bel.frame _, fun h => by cases h⟩

theorem proved : Rows.ShareHintRestSaid :=
  OpenClaim.holds_of_wide 6 Try.f6 rfl rfl rfl rfl rfl rfl rfl ⟨rfl, rfl, rfl, rfl, rfl⟩ rfl rfl rfl rfl rfl (by kernel_rfl) Try.func6 (by kernel_rfl)
    (of_decide_eq_true (by kernel_rfl)) (by unfold Func.isWrapper; first | (rw [if_pos (by decide +kernel)]; kernel_rfl) | (rw [if_neg (by decide +kernel)]; exact ⟨rfl, rfl⟩))
    (fun os started H enc _ => lifted os started H enc)
#print axioms proved
end Go.Proofs.Ytjnpjkenmkgooaa.shareHintRest
