/-
  Proved: AdlerSees: for all bytes, every place and byte the law returns true, and writes nothing that was there. Conditions: none.
-/
import Derived.Test.YtclnicnieapojaaRow
import Derived.Test.YtclnicnieapojaaBytes
import Derived.Test.YtclnicnieapojaaReg
import Derived.Test.YtclnicnieapojaaOwn
import Derived.Test.YtclnicnieapojaaSeesPlain
namespace Go.Proofs.Ytclnicnieapojaa.adlerSees
open Go.ChangeShapes Go.WideShapes Go.ChangeAt Go.RowKit
set_option linter.unusedVariables false

theorem info5 : (Try.prog.info? 5).map (fun i => (i.zero, i.size, i.bytes)) = some (some (.int .u8 0), 1, 1) := by kernel_rfl
theorem rowOf_bytes {w : World} {ad : Option Addr} {l : List UInt8} (h : Bytes w ad l) : RowOf w ad (l.map byV) := by
  intro i u hu
  rw [List.getElem?_map] at hu
  cases hi : l[i]? with
  | none => rw [hi] at hu; cases hu
  | some y =>
    rw [hi] at hu; cases hu
    have hlt := (List.getElem?_eq_some_iff.1 hi).1
    obtain ⟨b, o, h1, h2⟩ := h i hlt
    exact ⟨b, o, h1, by rw [h2]; simp [List.getD_eq_getElem?_getD, hi]⟩
theorem bytes_rowOf {w : World} {ad : Option Addr} {l : List UInt8} (h : RowOf w ad (l.map byV)) : Bytes w ad l := by
  intro i hi
  obtain ⟨b, o, h1, h2⟩ := h i (byV l[i]) (by simp [hi])
  exact ⟨b, o, h1, by rw [h2]; simp [List.getD_eq_getElem?_getD, hi]⟩

theorem walk_out (ad : Option Addr) (cap : Nat) (l : List UInt8) (t x : Int) (w : World) (hl : l.length ≤ cap) (hm : cap ≤ maxLen) (hout : l.length = 0 ∨ 20000 < l.length) :
    Calls Try.prog 5 #[.slice ad l.length cap, .int .u16 t, .int .u8 x] w fun e w' => e = .returned (.bool true) ∧ Below w.heap.size w w' := by
  have hlen : (l.length : Int) ≤ 9223372036854775807 := by unfold maxLen at hm; omega
  rcases hout with h | h
  · rw [h]
    go_enter Try.func5, Try.ntmps5
    go_wp2_with fail
    refine (works_any w).mono ?_
    rintro e w1 ⟨rfl, hP⟩
    go_wp2_with fail
    go_ret
    exact ⟨rfl, hP.below⟩
  · have h0 : ((l.length : Int) == 0) = false := beq_eq_false_iff_ne.2 (by omega)
    go_enter Try.func5, Try.ntmps5
    go_wp2_with fail
    refine (works_any w).mono ?_
    rintro e w1 ⟨rfl, hP⟩
    go_wp2_with fail
    go_ret
    exact ⟨rfl, hP.below⟩

set_option maxHeartbeats 1000000 in
theorem walk_in (ad : Option Addr) (cap : Nat) (l : List UInt8) (t x : Int) (w : World) (hl : l.length ≤ cap) (hm : cap ≤ maxLen) (hnil : ad = none → cap = 0) (hb : Bytes w ad l)
    (ht : 0 ≤ t ∧ t ≤ 65535) (hx : 0 ≤ x ∧ x ≤ 255) (hpos : 0 < l.length) (h20 : l.length ≤ 20000) :
    Calls Try.prog 5 #[.slice ad l.length cap, .int .u16 t, .int .u8 x] w fun e w' => e = .returned (.bool true) ∧ Below w.heap.size w w' := by
  have hcap : (cap : Int) ≤ 9223372036854775807 := by unfold maxLen at hm; omega
  have h0 : ((l.length : Int) == 0) = false := beq_eq_false_iff_ne.2 (by omega)
  obtain ⟨k, hk⟩ : ∃ k : Nat, t % (l.length : Int) = k := ⟨(t % (l.length : Int)).toNat, by rw [Int.toNat_of_nonneg (Int.emod_nonneg _ (by omega))]⟩
  have hkl : k < l.length := by have := Int.emod_lt_of_pos t (show (0 : Int) < l.length by omega); omega
  have hkl' : (k : Int) < l.length := by omega
  go_enter Try.func5, Try.ntmps5
  have HK := Lib.hid hk
  clear hk
  go_wp2_with (at_builtin; refine wpList_append_any rfl (.tmp 18) (.tmp 19) 22 rfl w.heap.size 5 (.int .u8 0) 1 1 Try.underlying22 info5 rfl (by decide) _ 0 [] rfl (own_new (by simp) (by simp) _ (Nat.le_refl _)) ad l.length cap (l.map byV) rfl (fun h => by have := hnil h; omega) (by simp) (rowOf_bytes (hb.ext (ext_alloc _ _) (fun _ _ => id))) (by intro u hu; simp at hu; obtain ⟨y, _, rfl⟩ := hu; rfl) l.length (by omega) (l.map byV) rfl (by omega) (by unfold maxLen; omega) (by simp) ?_)
  intro a1 c1 w1 hown hg
  have hE : Pure w w1 := ((Ext.refl (fun _ => False) w).alloc _).grown hg (fun k hk hlt => by cases hk; exact absurd hlt (Nat.lt_irrefl _))
  have hb1 := hb.ext hE (fun _ _ => id)
  obtain ⟨g, rfl, hgB, ⟨y, hcy⟩, hfr, hown2⟩ := own_set hown k hkl (.int .u8 x)
  have hk := HK.out
  go_wp2_with fail
  have hE2 : Pure w (w1.setCell ⟨g, k, none⟩ (.int .u8 x)) := hE.setCell (fun h => absurd h (by show ¬ g < _; omega)) _
  have hset : (l.map byV).set k (.int .u8 x) = (l.set k (toByte x)).map byV := by
    rw [List.map_set]; unfold byV; rw [toByte_toNat (by simp [Lit.wf, IntKind.min, IntKind.max, IntKind.signed, IntKind.bits]; omega)]
  rw [hset] at hown2
  have hbc : Bytes (w1.setCell ⟨g, k, none⟩ (.int .u8 x)) (some ⟨g, 0, none⟩) (l.set k (toByte x)) := bytes_rowOf (own_row hown2)
  obtain ⟨a1', c1x, he1, hlc, hmc, _⟩ := own_form hown2
  cases he1
  have hb2 := hb.ext hE2 (fun _ _ => id)
  clear hown hown2 hg hfr hcy hE hb1 hset
  have hsees := sum_sees l k hkl (toByte x)
  rw [toByte_toNat (by simp [Lit.wf, IntKind.min, IntKind.max, IntKind.signed, IntKind.bits]; omega)] at hsees
  obtain ⟨b, o, rfl, hck⟩ := hb2 k hkl
  have hlk : byV (l.getD k 0) = .int .u8 (l[k].toNat : Int) := by simp [byV, List.getD_eq_getElem?_getD, hkl]
  rw [hlk] at hck
  have hl2 : (l.set k (toByte x)).length = l.length := by simp
  have HL2 := Lib.hid hl2
  clear hl2 hlk
  generalize (w1.setCell ⟨g, k, none⟩ (.int .u8 x)) = w2 at *
  have hk0 : (0 : Int) ≤ (k : Int) := by omega
  have cl := fun w' (hS : Ext (fun _ => False) w2.drew w') => (((Ext.refl (fun _ => False) w2).drew).pure hS).cell_some hck id
  clear hck hb hnil
  have hc1 : (c1 : Int) ≤ 9223372036854775807 := by unfold maxLen at hmc; omega
  have hsum1 := sum_any (some ⟨g, 0, none⟩) c1 (l.set k (toByte x)) 
  rw [HL2.out] at hsum1
  have HS1 := Lib.hid hsum1
  clear hsum1
  generalize hS1 : sumOf (run (l.set k (toByte x))) = S1 at *
  generalize hS2 : sumOf (run l) = S2 at *
  have G1 := Lib.hid hS1
  have G2 := Lib.hid hS2
  clear hS1 hS2
  generalize hbeta : (((l[k].toNat : Nat) : Int) != x) = β at *
  refine region_start (fun _ => False) (by kernel_rfl) ?_
  try simp only [Act.put, List.setIfInBounds_toArray, List.set_cons_zero, List.set_cons_succ]
  refine region_take 0 30 (v := ?v0) rfl rfl (by kernel_rfl) (by kernel_rfl) (by kernel_rfl) (fun _ _ _ h => h) (by rfl) (fun w' hS => ?h0) ?r0
  case h0 => go_simp; with_reducible rfl
  try simp only [Act.put, List.setIfInBounds_toArray, List.set_cons_zero, List.set_cons_succ]
  refine region_take 2 32 (v := ?v2) rfl rfl (by kernel_rfl) (by kernel_rfl) (by kernel_rfl) (fun _ _ _ h => h) (by rfl) (fun w' hS => ?h2) ?r2
  case h2 => go_simp; with_reducible rfl
  try simp only [Act.put, List.setIfInBounds_toArray, List.set_cons_zero, List.set_cons_succ]
  refine region_take 5 35 (v := ?v5) rfl rfl (by kernel_rfl) (by kernel_rfl) (by kernel_rfl) (fun _ _ _ h => h) (by rfl) (fun w' hS => ?h5) ?r5
  case h5 => go_simp; with_reducible rfl
  try simp only [Act.put, List.setIfInBounds_toArray, List.set_cons_zero, List.set_cons_succ]
  refine region_take 6 36 (v := ?v6) rfl rfl (by kernel_rfl) (by kernel_rfl) (by kernel_rfl) (fun _ _ _ h => h) (by rfl) (fun w' hS => ?h6) ?r6
  case h6 => go_simp; with_reducible rfl
  try simp only [Act.put, List.setIfInBounds_toArray, List.set_cons_zero, List.set_cons_succ]
  refine region_take 7 37 (v := ?v7) rfl rfl (by kernel_rfl) (by kernel_rfl) (by kernel_rfl) (fun _ _ _ h => h) (by rfl) (fun w' hS => ?h7) ?r7
  case h7 => go_simp; with_reducible rfl
  try simp only [Act.put, List.setIfInBounds_toArray, List.set_cons_zero, List.set_cons_succ]
  refine region_take 8 38 (v := ?v8) rfl rfl (by kernel_rfl) (by kernel_rfl) (by kernel_rfl) (fun _ _ _ h => h) (by rfl) (fun w' hS => ?h8) ?r8
  case h8 => go_simp; with_reducible rfl
  try simp only [Act.put, List.setIfInBounds_toArray, List.set_cons_zero, List.set_cons_succ]
  refine region_take 9 39 (v := ?v9) rfl rfl (by kernel_rfl) (by kernel_rfl) (by kernel_rfl) (fun _ _ _ h => h) (by rfl) (fun w' hS => ?h9) ?r9
  case h9 => go_simp; with_reducible rfl
  try simp only [Act.put, List.setIfInBounds_toArray, List.set_cons_zero, List.set_cons_succ]
  refine region_take 10 40 (v := ?v10) rfl rfl (by kernel_rfl) (by kernel_rfl) (by kernel_rfl) (fun _ _ _ h => h) (by rfl) (fun w' hS => ?h10) ?r10
  case h10 => go_simp; with_reducible rfl
  try simp only [Act.put, List.setIfInBounds_toArray, List.set_cons_zero, List.set_cons_succ]
  refine wpAnyH_ready (rs := [1]) (by kernel_rfl) (by simp) (AllReadyH.cons rfl (fun K hK => ?_) AllReadyH.nil)
  go_simp
  refine (HS1.out _ hlc hc1 (hbc.ext (Ext.refl (fun _ => False) w2).drew (fun _ _ => id))).mono ?_
  rintro e w3 ⟨rfl, hE3⟩
  refine hK.out _ _ (hE3) (fun hHeld => ?_)
  clear hK K hHeld
  refine region_now (hE3) ?_
  try simp only [Act.put, List.setIfInBounds_toArray, List.set_cons_zero, List.set_cons_succ]
  refine wpAnyH_ready (rs := [3]) (by kernel_rfl) (by simp) (AllReadyH.cons rfl (fun K hK => ?_) AllReadyH.nil)
  go_simp
  refine (sum_any (some ⟨b, o, none⟩) cap l _ hl hcap ((hb2.ext (Ext.refl (fun _ => False) w2).drew (fun _ _ => id)).ext hE3 (fun _ _ => id))).mono ?_
  rw [G2.out]
  rintro e w4 ⟨rfl, hE4⟩
  refine hK.out _ _ (hE4) (fun hHeld => ?_)
  clear hK K hHeld
  refine region_now (hE4) ?_
  try simp only [Act.put, List.setIfInBounds_toArray, List.set_cons_zero, List.set_cons_succ]
  refine region_take 4 34 (v := ?v4) rfl rfl (by kernel_rfl) (by kernel_rfl) (by kernel_rfl) (fun _ _ _ h => h) (by rfl) (fun w' hS => ?h4) ?r4
  case h4 => go_simp; with_reducible rfl
  try simp only [Act.put, List.setIfInBounds_toArray, List.set_cons_zero, List.set_cons_succ]
  refine region_take 11 41 (v := ?v11) rfl rfl (by kernel_rfl) (by kernel_rfl) (by kernel_rfl) (fun _ _ _ h => h) (by rfl) (fun w' hS => ?h11) ?r11
  case h11 => go_simp; with_reducible rfl
  try simp only [Act.put, List.setIfInBounds_toArray, List.set_cons_zero, List.set_cons_succ]
  refine region_take 12 42 (v := ?v12) rfl rfl (by kernel_rfl) (by kernel_rfl) (by kernel_rfl) (fun _ _ _ h => h) (by rfl) (fun w' hS => ?h12) ?r12
  case h12 => go_simp; with_reducible rfl
  try simp only [Act.put, List.setIfInBounds_toArray, List.set_cons_zero, List.set_cons_succ]
  refine wpAnyH_ready (rs := [13]) (by kernel_rfl) (by simp) (AllReadyH.cons rfl (fun K hK => ?_) AllReadyH.nil)
  go_simp
  refine (works_any _).mono ?_
  rintro e w5 ⟨rfl, hE5⟩
  refine hK.out _ _ (hE5) (fun hHeld => ?_)
  clear hK K hHeld
  refine region_now (hE5) ?_
  try simp only [Act.put, List.setIfInBounds_toArray, List.set_cons_zero, List.set_cons_succ]
  refine region_take 14 44 (v := ?v14) rfl rfl (by kernel_rfl) (by kernel_rfl) (by kernel_rfl) (fun _ _ _ h => h) (by rfl) (fun w' hS => ?h14) ?r14
  case h14 => go_simp; with_reducible rfl
  try simp only [Act.put, List.setIfInBounds_toArray, List.set_cons_zero, List.set_cons_succ]
  refine region_take 15 6 (v := ?v15) rfl rfl (by kernel_rfl) (by kernel_rfl) (by kernel_rfl) (fun _ _ _ h => h) (by rfl) (fun w' hS => ?h15) ?r15
  case h15 => go_simp; with_reducible rfl
  try simp only [Act.put, List.setIfInBounds_toArray, List.set_cons_zero, List.set_cons_succ]
  refine wpAnyH_done (by kernel_rfl) ?_ _
  go_wp2_with fail
  go_ret
  exact ⟨rfl, ((hE2.drew.pure hE3).pure (hE4.pure hE5)).below⟩

set_option maxRecDepth 100000 in
theorem lifted (os : Os) (started : os.Started) (H : Type) (enc : TypeId × Value → H) :
    ReturnsInHanded {} Try.checked os 5 .any (Rows.adlerSeesSpec.pre6 enc Try.prog Try.f5 Rows.adlerSeesRow.domain false) (Rows.adlerSeesSpec.post enc Try.prog Try.f5 false true false false) := by
  refine returnsInHanded_of_change (C := Try.checked) own started (by kernel_rfl) Try.func5
    (ChangeSpec.witness6 (enc := enc) (C := Try.checked) false ⟨#[], #[.slice none 0 0, .int .u16 0, .int .u8 0], []⟩ 8 (by kernel_rfl) (by kernel_rfl) (by kernel_rfl) (by kernel_rfl)) ?_
  intro W base args ds gs before hval0 hW hcnd _
  have hval : ∀ (j : Nat) t v, Try.f5.params[j]? = some t → args[j]? = some v → Value.okWide Try.prog W .any base t v := hval0
  have hW' := hW
  obtain ⟨p, q, hA0, hV, rfl, hfz, hnd⟩ := hW
  have hA : DataW.TrodAll enc Try.prog W 0 (fun _ => true) true Try.f5.params.toList args.toList ds p := hA0
  rw [Try.params5] at hA hval
  obtain ⟨v0, vs0, d0, ds0, p0, q0, hargs, rfl, rfl, h0, r0⟩ := trodAll_cons hA
  obtain ⟨v1, vs1, d1, ds1, p1, q1, rfl, rfl, rfl, h1, r1⟩ := trodAll_cons r0
  obtain ⟨v2, vs2, d2, ds2, p2, q2, rfl, rfl, rfl, h2, r2⟩ := trodAll_cons r1
  obtain ⟨rfl, rfl, rfl⟩ := trodAll_nil r2
  obtain rfl : args = #[v0, v1, v2] := by cases args; simp_all
  obtain ⟨rfl, rfl⟩ := trodVars_none hV
  obtain ⟨t, rfl, rfl, rfl, wt⟩ := open_int Try.underlying37 (hval 1 37 v1 rfl rfl) h1
  obtain ⟨x, rfl, rfl, rfl, wx⟩ := open_int Try.underlying5 (hval 2 5 v2 rfl rfl) h2
  have ht : 0 ≤ t ∧ t ≤ 65535 := by simpa [Lit.wf, IntKind.min, IntKind.max, IntKind.signed, IntKind.bits] using wt
  have hx : 0 ≤ x ∧ x ≤ 255 := by simpa [Lit.wf, IntKind.min, IntKind.max, IntKind.signed, IntKind.bits] using wx
  have k0 := h0
  have lt0 : ∀ x ∈ p0, x.block < W.heap.size := by obtain ⟨m, hm⟩ := k0; exact DataW.trod_lt m _ _ _ hm
  obtain ⟨a, cap, l, rfl, hl, hm, hnil, hb⟩ := open_bytes (hval 0 22 v0 rfl rfl) Try.underlying22 h0
  clear hA0 hval0
  have walk : Calls Try.prog 5 #[.slice a l.length cap, .int .u16 t, .int .u8 x] W fun e w' => e = .returned (.bool true) ∧ Below W.heap.size W w' := by
    by_cases h : l.length = 0 ∨ 20000 < l.length
    · exact walk_out a cap l t x W hl hm h
    · exact walk_in a cap l t x W hl hm hnil hb ht hx (by omega) (by omega)
  refine walk.mono fun e W' ⟨he, bel⟩ => ?_
  subst he
  exact ⟨_, rfl, _, _, _, [], _, [], hW', trodAll_mk1 (shut_bool Try.underlying4 _), (trodAll_cons_mk (Below.trod laidOut (by kernel_rfl) (of_decide_eq_true (by kernel_rfl)) k0 bel lt0) (trodAll_cons_mk (shut_int Try.underlying37 wt) (trodAll_cons_mk (shut_int Try.underlying5 wx) trodAll_mk0))), rfl, bel.frame _, fun h => by cases h⟩

theorem proved : Rows.AdlerSeesSaid :=
  OpenClaim.holds_of_wide 5 Try.f5 rfl rfl rfl rfl rfl rfl rfl ⟨rfl, rfl, rfl, rfl, rfl⟩ rfl rfl rfl rfl rfl (by kernel_rfl) Try.func5 (by kernel_rfl)
    (of_decide_eq_true (by kernel_rfl)) (by unfold Func.isWrapper; first | (rw [if_pos (by decide +kernel)]; kernel_rfl) | (rw [if_neg (by decide +kernel)]; exact ⟨rfl, rfl⟩))
    (fun os started H enc _ => lifted os started H enc)
#print axioms proved
end Go.Proofs.Ytclnicnieapojaa.adlerSees
