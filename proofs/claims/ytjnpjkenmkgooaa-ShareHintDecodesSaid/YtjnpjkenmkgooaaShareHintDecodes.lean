/-
  ShareHintDecodes: for every row of bytes the program's Decode and the reference's tell the same table, the same length and the same error. No condition.
-/
import Derived.Test.YtjnpjkenmkgooaaOpenTab
namespace Go.Proofs.Ytjnpjkenmkgooaa.shareHintDecodes
open Go.ChangeShapes Go.WideShapes Go.ChangeAt Go.RowKit Go.Proofs.Ytjnpjkenmkgooaa C27
set_option linter.unusedVariables false

theorem dec_len {bs : List Bool} {r : DRes} (h : DecTo bs r) : r.ls.length ≤ 4096 := by
  rcases h with ⟨_, rfl⟩ | ⟨_, ⟨_, rfl⟩ | ⟨hk, s', out, ⟨K, _, hR⟩, ⟨_, rfl⟩ | ⟨h0, rfl⟩⟩⟩
  · exact Nat.zero_le _
  · exact Nat.zero_le _
  · exact Nat.zero_le _
  · rcases hR with ⟨_, e⟩ | ⟨_, ⟨_, e⟩ | ⟨_, _, rfl⟩⟩
    · omega
    · omega
    · simp only [List.length_map, vals_len]; exact hk.2.2.1
set_option maxRecDepth 100000 in
theorem walk (bd : Option Addr) (bc : Nat) (bl : List UInt8) (w : World) (hb : Bytes w bd bl) (hnil : bd = none → bc = 0) (hle : bl.length ≤ bc) :
    Calls Try.prog 4 #[.slice bd bl.length bc] w fun e w' => e = .returned (.bool true) ∧ Below w.heap.size w w' := by
  by_cases h400 : (400 : Int) < (bl.length : Int)
  · clear hb
    go_enter Try.func4, Try.ntmps4
    go_wp2_with fail
    refine (works_any _).mono ?_
    rintro e w2 ⟨rfl, hP⟩
    go_wp2_with fail
    go_ret
    exact ⟨rfl, hP.below⟩
  · have HD := Lib.hid (decode_any bd bc bl w hb hnil hle (by omega))
    have HR := Lib.hid (fun W (hP : Pure w W) => refdecode_any bd bc bl W (hb.pure hP) hnil hle (by omega))
    clear hb
    go_enter Try.func4, Try.ntmps4
    go_wp2_with fail
    refine HD.out.mono ?_
    rintro e w1 ⟨r, la, lc, rfl, hT, hRow, hn, hl, hP1⟩
    clear HD
    obtain ⟨o, a, f, ls, m, er, rfl⟩ : ∃ o a f ls m er, r = ⟨er, o, a, f, ls, m⟩ := ⟨r.o, r.a, r.f, r.ls, r.m, r.e, rfl⟩
    have hls : ls.length ≤ 4096 := dec_len hT
    have HT := Lib.hid hT
    clear hT
    unfold tblV
    have hRow : RowOf w1 la (ls.map intV) := hRow
    have hTB := BlockIs.new w1 [.int .i64 o, .int .i64 a, .int .i64 f, .slice la ls.length lc] 30
    have hP2 := hP1.pure (ext_alloc w1 (.cells #[.int .i64 o, .int .i64 a, .int .i64 f, .slice la ls.length lc] 30))
    have hRow2 := hRow.ext (ext_alloc w1 (.cells #[.int .i64 o, .int .i64 a, .int .i64 f, .slice la ls.length lc] 30)) (fun _ _ => id)
    have hz1 := hP1.size
    clear hRow hP1
    go_wp2_with fail
    obtain ⟨tb, htb⟩ : ∃ tb, tb = w1.heap.size := ⟨_, rfl⟩
    have HD2 := HR.out _ hP2
    rw [← htb]
    rw [← htb] at hTB
    clear htb
    generalize w1.alloc (.cells #[.int .i64 o, .int .i64 a, .int .i64 f, .slice la ls.length lc] 30) = w2 at *
    refine HD2.mono ?_
    rintro e w3 ⟨r, lb, ld, rfl, hT, hRowb, hnb, hlb, hP3⟩
    obtain rfl := dec_unique HT.out hT
    have hRowb : RowOf w3 lb (ls.map intV) := hRowb
    have hTB3 := hTB.ext hP3 id
    have hRow3 := hRow2.ext hP3 (fun _ _ => id)
    have hQ3 := hP2.pure hP3
    clear hT HD2 HR HT hTB hRow2 hP2 hP3 hlb
    unfold tblV
    have hUB := BlockIs.new w3 [.int .i64 o, .int .i64 a, .int .i64 f, .slice lb ls.length ld] 24
    have hTB4 := hTB3.ext (ext_alloc w3 (.cells #[.int .i64 o, .int .i64 a, .int .i64 f, .slice lb ls.length ld] 24)) id
    have hQ4 := hQ3.pure (ext_alloc w3 (.cells #[.int .i64 o, .int .i64 a, .int .i64 f, .slice lb ls.length ld] 24))
    have hRow4 := hRow3.ext (ext_alloc w3 (.cells #[.int .i64 o, .int .i64 a, .int .i64 f, .slice lb ls.length ld] 24)) (fun _ _ => id)
    have hRowb4 := hRowb.ext (ext_alloc w3 (.cells #[.int .i64 o, .int .i64 a, .int .i64 f, .slice lb ls.length ld] 24)) (fun _ _ => id)
    clear hTB3 hRow3 hRowb hQ3 hRow
    go_wp2_with fail
    obtain ⟨ub, hub⟩ : ∃ ub, ub = w3.heap.size := ⟨_, rfl⟩
    rw [← hub]
    rw [← hub] at hUB
    clear hub
    generalize w3.alloc (.cells #[.int .i64 o, .int .i64 a, .int .i64 f, .slice lb ls.length ld] 24) = w4 at *
    have d0 : w4.drew.cell? ⟨tb, 0, none⟩ = some (.int .i64 o) := hTB4.cell 0
    have d1 : w4.drew.cell? ⟨tb, 0 + 1, none⟩ = some (.int .i64 a) := hTB4.cell 1
    have d2 : w4.drew.cell? ⟨tb, 0 + 2, none⟩ = some (.int .i64 f) := hTB4.cell 2
    have d3 : w4.drew.cell? ⟨tb, 0 + 3, none⟩ = some (.slice la ls.length lc) := hTB4.cell 3
    have x0 : w4.drew.cell? ⟨ub, 0, none⟩ = some (.int .i64 o) := hUB.cell 0
    have x1 : w4.drew.cell? ⟨ub, 0 + 1, none⟩ = some (.int .i64 a) := hUB.cell 1
    have x2 : w4.drew.cell? ⟨ub, 0 + 2, none⟩ = some (.int .i64 f) := hUB.cell 2
    have x3 : w4.drew.cell? ⟨ub, 0 + 3, none⟩ = some (.slice lb ls.length ld) := hUB.cell 3
    have k0 := fun w' (hS : Ext (fun _ => False) w4.drew w') => hS.cell_some d0 id
    have k1 := fun w' (hS : Ext (fun _ => False) w4.drew w') => hS.cell_some d1 id
    have k2 := fun w' (hS : Ext (fun _ => False) w4.drew w') => hS.cell_some d2 id
    have k3 := fun w' (hS : Ext (fun _ => False) w4.drew w') => hS.cell_some d3 id
    have l0 := fun w' (hS : Ext (fun _ => False) w4.drew w') => hS.cell_some x0 id
    have l1 := fun w' (hS : Ext (fun _ => False) w4.drew w') => hS.cell_some x1 id
    have l2 := fun w' (hS : Ext (fun _ => False) w4.drew w') => hS.cell_some x2 id
    have l3 := fun w' (hS : Ext (fun _ => False) w4.drew w') => hS.cell_some x3 id
    have HOf := Lib.hid (fun W => of_any (o : Int) a f la ls.length lc W)
    have HSa0 := fun W (hP : Ext (fun _ => False) w4 W) => refsame_any (o : Int) a f la lc (ints ls) o a f lb ld (ints ls) W (row_ints (hRow4.ext hP (fun _ _ => id))) (row_ints (hRowb4.ext hP (fun _ _ => id))) (by rw [ints_len]; omega) (by rw [ints_len]; omega)
    rw [ints_len, alike_refl] at HSa0
    have HSa := Lib.hid HSa0
    clear HSa0
    unfold tblV at HOf HSa
    refine region_start (fun _ => False) (by kernel_rfl) ?_
    try simp only [Act.put, List.setIfInBounds_toArray, List.set_cons_zero, List.set_cons_succ]
    refine region_take 0 25 (v := ?vdz0) rfl rfl (by kernel_rfl) (by kernel_rfl) (by kernel_rfl) (fun _ _ _ h => h) (by rfl) (fun w' hS => ?hdz0) ?rdz0
    case hdz0 => go_simp; with_reducible rfl
    try simp only [Act.put, List.setIfInBounds_toArray, List.set_cons_zero, List.set_cons_succ]
    refine region_take 2 27 (v := ?vdz2) rfl rfl (by kernel_rfl) (by kernel_rfl) (by kernel_rfl) (fun _ _ _ h => h) (by rfl) (fun w' hS => ?hdz2) ?rdz2
    case hdz2 => go_simp; with_reducible rfl
    try simp only [Act.put, List.setIfInBounds_toArray, List.set_cons_zero, List.set_cons_succ]
    refine wpAnyH_ready (rs := [1]) (by kernel_rfl) (by simp) (AllReadyH.cons rfl (fun K hK => ?_) AllReadyH.nil)
    go_simp
    refine (HOf.out _).mono ?_
    rintro e w5 ⟨rfl, hP5⟩
    refine hK.out _ _ (hP5) (fun hHeld => ?_)
    clear hK K hHeld
    refine region_now (hP5) ?_
    try simp only [Act.put, List.setIfInBounds_toArray, List.set_cons_zero, List.set_cons_succ]
    refine wpAnyH_ready (rs := [3]) (by kernel_rfl) (by simp) (AllReadyH.cons rfl (fun K hK => ?_) AllReadyH.nil)
    go_simp
    refine (HSa.out _ ((Ext.refl (fun _ => False) w4).drew.pure hP5)).mono ?_
    rintro e w6 ⟨rfl, hP6⟩
    refine hK.out _ _ (hP6) (fun hHeld => ?_)
    clear hK K hHeld
    refine region_now (hP6) ?_
    try simp only [Act.put, List.setIfInBounds_toArray, List.set_cons_zero, List.set_cons_succ]
    refine region_take 4 29 (v := ?vdz4) rfl rfl (by kernel_rfl) (by kernel_rfl) (by kernel_rfl) (fun _ _ _ h => h) (by rfl) (fun w' hS => ?hdz4) ?rdz4
    case hdz4 => go_simp; with_reducible rfl
    try simp only [Act.put, List.setIfInBounds_toArray, List.set_cons_zero, List.set_cons_succ]
    refine region_take 5 30 (v := ?vdz5) rfl rfl (by kernel_rfl) (by kernel_rfl) (by kernel_rfl) (fun _ _ _ h => h) (by rfl) (fun w' hS => ?hdz5) ?rdz5
    case hdz5 => go_simp; with_reducible rfl
    try simp only [Act.put, List.setIfInBounds_toArray, List.set_cons_zero, List.set_cons_succ]
    refine region_take 6 31 (v := ?vdz6) rfl rfl (by kernel_rfl) (by kernel_rfl) (by kernel_rfl) (fun _ _ _ h => h) (by rfl) (fun w' hS => ?hdz6) ?rdz6
    case hdz6 => go_simp; with_reducible rfl
    try simp only [Act.put, List.setIfInBounds_toArray, List.set_cons_zero, List.set_cons_succ]
    refine region_take 7 32 (v := ?vdz7) rfl rfl (by kernel_rfl) (by kernel_rfl) (by kernel_rfl) (fun _ _ _ h => h) (by rfl) (fun w' hS => ?hdz7) ?rdz7
    case hdz7 => go_simp; with_reducible rfl
    try simp only [Act.put, List.setIfInBounds_toArray, List.set_cons_zero, List.set_cons_succ]
    refine region_take 8 33 (v := ?vdz8) rfl rfl (by kernel_rfl) (by kernel_rfl) (by kernel_rfl) (fun _ _ _ h => h) (by rfl) (fun w' hS => ?hdz8) ?rdz8
    case hdz8 => go_simp; with_reducible rfl
    try simp only [Act.put, List.setIfInBounds_toArray, List.set_cons_zero, List.set_cons_succ]
    refine region_take 9 34 (v := ?vdz9) rfl rfl (by kernel_rfl) (by kernel_rfl) (by kernel_rfl) (fun _ _ _ h => h) (by rfl) (fun w' hS => ?hdz9) ?rdz9
    case hdz9 => go_simp; with_reducible rfl
    try simp only [Act.put, List.setIfInBounds_toArray, List.set_cons_zero, List.set_cons_succ]
    refine region_take 10 35 (v := ?vdz10) rfl rfl (by kernel_rfl) (by kernel_rfl) (by kernel_rfl) (fun _ _ _ h => h) (by rfl) (fun w' hS => ?hdz10) ?rdz10
    case hdz10 => go_simp; with_reducible rfl
    try simp only [Act.put, List.setIfInBounds_toArray, List.set_cons_zero, List.set_cons_succ]
    refine region_take 11 36 (v := ?vdz11) rfl rfl (by kernel_rfl) (by kernel_rfl) (by kernel_rfl) (fun _ _ _ h => h) (by rfl) (fun w' hS => ?hdz11) ?rdz11
    case hdz11 => go_simp; with_reducible rfl
    try simp only [Act.put, List.setIfInBounds_toArray, List.set_cons_zero, List.set_cons_succ]
    refine region_take 12 37 (v := ?vdz12) rfl rfl (by kernel_rfl) (by kernel_rfl) (by kernel_rfl) (fun _ _ _ h => h) (by rfl) (fun w' hS => ?hdz12) ?rdz12
    case hdz12 => go_simp; with_reducible rfl
    try simp only [Act.put, List.setIfInBounds_toArray, List.set_cons_zero, List.set_cons_succ]
    refine region_take 13 38 (v := ?vdz13) rfl rfl (by kernel_rfl) (by kernel_rfl) (by kernel_rfl) (fun _ _ _ h => h) (by rfl) (fun w' hS => ?hdz13) ?rdz13
    case hdz13 => go_simp; with_reducible rfl
    try simp only [Act.put, List.setIfInBounds_toArray, List.set_cons_zero, List.set_cons_succ]
    refine region_take 14 39 (v := ?vdz14) rfl rfl (by kernel_rfl) (by kernel_rfl) (by kernel_rfl) (fun _ _ _ h => h) (by rfl) (fun w' hS => ?hdz14) ?rdz14
    case hdz14 => go_simp; with_reducible rfl
    try simp only [Act.put, List.setIfInBounds_toArray, List.set_cons_zero, List.set_cons_succ]
    refine wpAnyH_ready (rs := [15]) (by kernel_rfl) (by simp) (AllReadyH.cons rfl (fun K hK => ?_) AllReadyH.nil)
    go_simp
    refine (works_any _).mono ?_
    rintro e w7 ⟨rfl, hP7⟩
    refine hK.out _ _ (hP7) (fun hHeld => ?_)
    clear hK K hHeld
    refine region_now (hP7) ?_
    try simp only [Act.put, List.setIfInBounds_toArray, List.set_cons_zero, List.set_cons_succ]
    refine region_take 16 41 (v := ?vdz16) rfl rfl (by kernel_rfl) (by kernel_rfl) (by kernel_rfl) (fun _ _ _ h => h) (by rfl) (fun w' hS => ?hdz16) ?rdz16
    case hdz16 => go_simp; with_reducible rfl
    try simp only [Act.put, List.setIfInBounds_toArray, List.set_cons_zero, List.set_cons_succ]
    refine region_take 17 2 (v := ?vdz17) rfl rfl (by kernel_rfl) (by kernel_rfl) (by kernel_rfl) (fun _ _ _ h => h) (by rfl) (fun w' hS => ?hdz17) ?rdz17
    case hdz17 => go_simp; with_reducible rfl
    try simp only [Act.put, List.setIfInBounds_toArray, List.set_cons_zero, List.set_cons_succ]
    refine wpAnyH_done (by kernel_rfl) ?_ _
    go_wp2_with fail
    go_ret
    exact ⟨rfl, (((hQ4.drew.pure hP5).pure hP6).pure hP7).below⟩

theorem lifted (os : Os) (started : os.Started) (H : Type) (enc : TypeId × Value → H) :
    ReturnsInHanded {} Try.checked os 4 .any (Rows.shareHintDecodesSpec.pre6 enc Try.prog Try.f4 Rows.shareHintDecodesRow.domain false) (Rows.shareHintDecodesSpec.post enc Try.prog Try.f4 false true false false) := by
  refine returnsInHanded_of_change (C := Try.checked) own started (by kernel_rfl) Try.func4
    (ChangeSpec.witness6 (enc := enc) (C := Try.checked) false ⟨#[], #[.slice none 0 0], []⟩ 8 (by kernel_rfl) (by kernel_rfl) (by kernel_rfl) (by kernel_rfl)) ?_
  intro W base args ds gs before hval0 hW hcnd _
  have hval : ∀ (j : Nat) t v, Try.f4.params[j]? = some t → args[j]? = some v → Value.okWide Try.prog W .any base t v := hval0
  have hW' := hW
  obtain ⟨p, q, hA0, hV, rfl, hfz, hnd⟩ := hW
  have hA : DataW.TrodAll enc Try.prog W 0 (fun _ => true) true Try.f4.params.toList args.toList ds p := hA0
  rw [Try.params4] at hA hval
  obtain ⟨v0, vs0, d0, ds0, p0, q0, hargs, rfl, rfl, h0, r0⟩ := trodAll_cons hA
  obtain ⟨rfl, rfl, rfl⟩ := trodAll_nil r0
  obtain rfl : args = #[v0] := by cases args; simp_all
  obtain ⟨rfl, rfl⟩ := trodVars_none hV
  have k0 := h0
  have lt0 : ∀ x ∈ p0, x.block < W.heap.size := by obtain ⟨m, hm⟩ := k0; exact DataW.trod_lt m _ _ _ hm
  obtain ⟨bd, bc, bl, rfl, hble, hbn, hbb⟩ := open_byts (hval 0 26 v0 rfl rfl) h0
  clear hA0 hval0
  refine (walk bd bc bl W hbb hbn hble).mono fun e W' ⟨he, bel⟩ => ?_
  subst he
  exact ⟨_, rfl, _, _, _, [], _, [], hW', trodAll_mk1 (shut_bool Try.underlying4 _), (trodAll_cons_mk (Below.trod laidOut (by kernel_rfl) (of_decide_eq_true (by kernel_rfl)) k0 bel lt0) trodAll_mk0), rfl, bel.frame _, fun h => by cases h⟩

theorem proved : Rows.ShareHintDecodesSaid :=
  OpenClaim.holds_of_wide 4 Try.f4 rfl rfl rfl rfl rfl rfl rfl ⟨rfl, rfl, rfl, rfl, rfl⟩ rfl rfl rfl rfl rfl (by kernel_rfl) Try.func4 (by kernel_rfl)
    (of_decide_eq_true (by kernel_rfl)) (by unfold Func.isWrapper; first | (rw [if_pos (by decide +kernel)]; kernel_rfl) | (rw [if_neg (by decide +kernel)]; exact ⟨rfl, rfl⟩))
    (fun os started H enc _ => lifted os started H enc)
#print axioms proved
end Go.Proofs.Ytjnpjkenmkgooaa.shareHintDecodes
