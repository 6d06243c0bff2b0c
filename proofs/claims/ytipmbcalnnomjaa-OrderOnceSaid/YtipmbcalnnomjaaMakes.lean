/-
  Walked: IntOf, RefTo, DictOf.
-/
import Derived.Test.YtipmbcalnnomjaaPut
import Derived.Test.YtipmbcalnnomjaaRegList
namespace Go.Proofs.Ytipmbcalnnomjaa
open Go.RowKit
set_option linter.unusedVariables false
set_option linter.unusedSimpArgs false

def intV (n : Int) : V := .mk 2 n ⟨#[]⟩ []
def refV (n : Int) : V := .mk 8 n ⟨#[]⟩ []
theorem ref_any (n : Int) (w : World) : Calls Try.prog 53 #[.int .i64 n] w (fun e w' => e = .returned (.agg #[.int .i64 8, .int .i64 n, .string ⟨#[]⟩, .slice none 0 0]) ∧ Pure w w') := by
  go_enter Try.func53, Try.ntmps53
  go_wp2_with fail
  refine bodyPost_ret (results_row1 rfl _ _ w.heap.size _ [.int .i64 8, .int .i64 n, .string ⟨#[]⟩, .slice none 0 0] _ rfl (BlockIs.new w _ _) Try.underlying59 rfl size24) rfl ?_
  exact ⟨rfl, ext_alloc w _⟩
/-- names and values, put one behind the other -/
def dictL : List V → V → V
  | k :: x :: r, v => dictL r (v.put k.s x)
  | _, v => v
def emptyD : V := .mk 7 0 ⟨#[]⟩ []
def emptyCs : List Value := [.int .i64 7, .int .i64 0, .string ⟨#[]⟩, .slice none 0 0]
theorem dictL_step {l : List V} {K : Nat} {t t2 v : V} (ht : l[K]? = some t) (ht2 : l[K + 1]? = some t2) : dictL (l.drop K) v = dictL (l.drop (K + 2)) (v.put t.s t2) := by
  obtain ⟨h1, rfl⟩ := List.getElem?_eq_some_iff.1 ht
  obtain ⟨h2, rfl⟩ := List.getElem?_eq_some_iff.1 ht2
  rw [List.drop_eq_getElem_cons h1, List.drop_eq_getElem_cons h2]
  rfl
theorem dictL_end {l : List V} {K : Nat} {v : V} (h : l.length ≤ K + 1) : dictL (l.drop K) v = v := by
  have : (l.drop K).length ≤ 1 := by rw [List.length_drop]; omega
  match l.drop K, this with
  | [], _ => rfl
  | [x], _ => rfl
theorem put_length (v : V) (key : ByteArray) (x : V) : (v.put key x).l.length ≤ v.l.length + 2 := by
  rw [put_eq]
  split
  · unfold V.putAt
    split <;> (simp only [V.l, List.length_append, List.length_take, List.length_drop, List.length_cons, List.length_nil]; omega)
  · omega
theorem zero_off (b : Nat) : Off b zeroCs := fun x n c h => by cases h
theorem empty_off (b : Nat) : Off b emptyCs := fun x n c h => by cases h
theorem Top.leaf (w0 W : World) (d : Nat) (k n : Int) (s : ByteArray) (hs : s.size ≤ maxLen) : Top w0 W d (.mk k n s []) [.int .i64 k, .int .i64 n, .string s, .slice none 0 0] :=
  ⟨none, 0, [], rfl, Nat.le_refl _, Nat.zero_le _, fun _ => ⟨rfl, rfl⟩, .nil, (fun i u h => by simp at h), hs⟩
set_option maxHeartbeats 2000000 in
set_option maxRecDepth 100000 in
theorem dictof_any (d : Nat) (l : List V) (xs : List Value) (a : Option Addr) (n c : Nat) (w : World) (hf : Fit w (d + 1) l xs) (hr : RowOf w a xs) (hn : n = l.length) (hl : n ≤ 80000) :
    Calls Try.prog 81 #[.slice a n c] w (ValTop w (dictL l emptyD) (d + 1) zeroCs w) := by
  obtain ⟨w1, hw1⟩ : ∃ z, z = w.alloc (.cells zeroCs.toArray 59) := ⟨_, rfl⟩
  have hB1 : BlockIs w1 w.heap.size zeroCs 59 := hw1 ▸ BlockIs.new w _ _
  have hP1 : Pure w w1 := hw1 ▸ ext_alloc w _
  obtain ⟨rb, hrb⟩ : ∃ b, b = w.heap.size := ⟨_, rfl⟩
  have hs1 : w1.heap.size = rb + 1 := by rw [hw1, World.size_alloc, hrb]
  rw [← hrb] at hB1
  obtain ⟨w2, hw2⟩ : ∃ z, z = w1.alloc (.cells emptyCs.toArray 59) := ⟨_, rfl⟩
  have hs2 : w2.heap.size = rb + 2 := by rw [hw2, World.size_alloc, hs1]
  have hB12 : BlockIs w2 rb zeroCs 59 := hw2 ▸ hB1.alloc _
  have hB22 : BlockIs w2 (rb + 1) emptyCs 59 := by rw [← hs1, hw2]; exact BlockIs.new w1 _ _
  have hP2 : Pure w w2 := hP1.pure (hw2 ▸ ext_alloc w1 _)
  have HW : Hid ((w.alloc (.cells #[.int .i64 0, .int .i64 0, .string ⟨#[]⟩, .slice none 0 0] 59)).alloc (.cells #[.int .i64 7, .int .i64 0, .string ⟨#[]⟩, .slice none 0 0] 59) = w2) := Lib.hid (by rw [hw2, hw1]; rfl)
  have HRb := Lib.hid hrb
  have HS2 := Lib.hid hs2
  have HB1 := Lib.hid hB12
  have HB2 := Lib.hid hB22
  have HP2 := Lib.hid hP2
  have HFit := Lib.hid hf
  have HRow := Lib.hid hr
  have HN := Lib.hid hn
  obtain ⟨F, hF⟩ : ∃ F, F = dictL l emptyD := ⟨_, rfl⟩
  rw [← hF]
  have HF := Lib.hid hF
  clear hw1 hw2 hrb hs1 hs2 hB1 hB12 hB22 hP1 hP2 hf hr hn hF
  go_enter Try.func81, Try.ntmps81
  go_wp2_with fail
  rw [HW.out, ← HRb.out]
  go_loopw [4] (fun k W => ∃ (K : Nat) (v : V) (cs : List Value), K ≤ n + 1 ∧ k = .int .i64 K ∧ Hid (dictL (l.drop K) v = F) ∧ Hid (BlockIs W rb zeroCs 59) ∧ Hid (BlockIs W (rb + 1) cs 59) ∧ Hid (Top w W (d + 1) v cs) ∧ v.l.length ≤ K ∧ Hid (∀ b, b < rb + 2 → Off b cs) ∧ Hid (Pure w W) ∧ Hid (rb + 2 ≤ W.heap.size)) (fun i _ => n + 1 - (intOf i).toNat)
  case atStart => exact ⟨0, emptyD, emptyCs, by omega, rfl, Lib.hid (by rw [List.drop_zero]; exact HF.out.symm), HB1, HB2, Lib.hid (Top.leaf _ _ _ _ _ _ (Nat.zero_le _)), Nat.le_refl _, Lib.hid (fun b _ => empty_off b), HP2, Lib.hid (by rw [HS2.out]; exact Nat.le_refl _)⟩
  case round =>
    obtain ⟨K, v, cs, hkn, rfl, HD, HBr, HBv, HT, hvl, HOff, HP, HSz⟩ := hrel
    have hw1 : IntKind.i64.wrap ((K : Int) + 1) = (K : Int) + 1 := by rw [IntKind.wrap_i64]; omega
    by_cases hlt : K + 1 < n
    · have hki : (K : Int) + 1 < (n : Int) := by omega
      have hkn' : (K : Int) < (n : Int) := by omega
      have hk0 : (0 : Int) ≤ (K : Int) + 1 := by omega
      obtain ⟨t, ht⟩ : ∃ t, l[K]? = some t := ⟨_, List.getElem?_eq_getElem (by rw [← HN.out]; omega)⟩
      obtain ⟨t2, ht2⟩ : ∃ t2, l[K + 1]? = some t2 := ⟨_, List.getElem?_eq_getElem (by rw [← HN.out]; exact hlt)⟩
      obtain ⟨b, o, q, rfl, hr1, hL1⟩ := HFit.out.full HRow.out K t ht
      obtain ⟨b2, o2, q2, hbb, hr2, hL2⟩ := HFit.out.full HRow.out (K + 1) t2 ht2
      cases hbb
      have hks : t.s.size ≤ maxLen := by obtain ⟨_, _, _, _, _, _, _, _, h⟩ := hL1.kids; exact h
      have HPut := Lib.hid (fun W' (hP : Pure wr W') => put_top w d v cs t.s t2 _ W' (HP.out.pure hP) (HT.out.pure hP) hL2 (by omega) hks)
      have HD2 : Hid (dictL (l.drop (K + 2)) (v.put t.s t2) = F) := Lib.hid (by rw [← HD.out, dictL_step ht ht2])
      have hlen2 := put_length v t.s t2
      obtain ⟨v2, hv2⟩ : ∃ z, z = v.put t.s t2 := ⟨_, rfl⟩
      rw [← hv2] at HD2 hlen2 HPut
      have hbl : b < rb := by have := World.block_lt_of_cell? w _ (hr1 0 _ rfl); have h2 := HRb.out; simp only at this; omega
      have hrx1 := range_ext hr1 HP.out
      have hrx2 := range_ext hr2 HP.out
      have e2 : wr.cell? ⟨b, o + K * 4 + 2, none⟩ = some (.string t.s) := hrx1 2 _ rfl
      have hRv := HBv.out.range
      have hcl : cs.length = 4 := HT.out.len
      have HCl := Lib.hid hcl
      have HRx1 := Lib.hid hrx1
      have HRx2 := Lib.hid hrx2
      generalize t.s = ts at *
      generalize t.kind = tk at *
      generalize t.n = tn at *
      generalize t2.s = ts2 at *
      generalize t2.kind = tk2 at *
      generalize t2.n = tn2 at *
      clear ht ht2 hr1 hr2 hL1 hL2 hv2 hrx1 hrx2 hcl
      go_wp2_with fail
      refine region_start (fun k => k = rb + 1) (by kernel_rfl) ?_
      try simp only [Act.put, List.setIfInBounds_toArray, List.set_cons_zero, List.set_cons_succ]
      refine region_take 1 14 (v := ?vda1) rfl rfl (by kernel_rfl) (by kernel_rfl) (by kernel_rfl) (fun _ _ _ h => h) (by rfl) (fun w' hS => ?hda1) ?rda1
      case hda1 => go_simp; with_reducible rfl
      try simp only [Act.put, List.setIfInBounds_toArray, List.set_cons_zero, List.set_cons_succ]
      refine region_take 2 15 (v := ?vda2) rfl rfl (by kernel_rfl) (by kernel_rfl) (by kernel_rfl) (fun _ _ _ h => h) (by rfl) (fun w' hS => ?hda2) ?rda2
      case hda2 => go_simp; with_reducible rfl
      try simp only [Act.put, List.setIfInBounds_toArray, List.set_cons_zero, List.set_cons_succ]
      refine region_take 3 16 (v := ?vda3) rfl rfl (by kernel_rfl) (by kernel_rfl) (by kernel_rfl) (fun _ _ _ h => h) (by rfl) (fun w' hS => ?hda3) ?rda3
      case hda3 => go_simp; with_reducible rfl
      try simp only [Act.put, List.setIfInBounds_toArray, List.set_cons_zero, List.set_cons_succ]
      refine region_take 4 17 (v := ?vda4) rfl rfl (by kernel_rfl) (by kernel_rfl) (by kernel_rfl) (fun _ _ _ h => h) (by rfl) (fun w' hS => ?hda4) ?rda4
      case hda4 => go_simp; with_reducible rfl
      try simp only [Act.put, List.setIfInBounds_toArray, List.set_cons_zero, List.set_cons_succ]
      refine region_take 5 18 (v := ?vda5) rfl rfl (by kernel_rfl) (by kernel_rfl) (by kernel_rfl) (fun _ _ _ h => h) (by rfl) (fun w' hS => ?hda5) ?rda5
      case hda5 => (have e := hS.cell_some (show wr.drew.cell? ⟨b, o + K * 4 + 2, none⟩ = _ from e2) (by intro e; simp only at e; omega); go_simp; with_reducible rfl)
      try simp only [Act.put, List.setIfInBounds_toArray, List.set_cons_zero, List.set_cons_succ]
      refine region_take 6 19 (v := ?vda6) rfl rfl (by kernel_rfl) (by kernel_rfl) (by kernel_rfl) (fun _ _ _ h => h) (by rfl) (fun w' hS => ?hda6) ?rda6
      case hda6 => go_simp; with_reducible rfl
      try simp only [Act.put, List.setIfInBounds_toArray, List.set_cons_zero, List.set_cons_succ]
      refine region_take 7 20 (v := ?vda7) rfl rfl (by kernel_rfl) (by kernel_rfl) (by kernel_rfl) (fun _ _ _ h => h) (by rfl) (fun w' hS => ?hda7) ?rda7
      case hda7 => go_simp; with_reducible rfl
      try simp only [Act.put, List.setIfInBounds_toArray, List.set_cons_zero, List.set_cons_succ]
      refine region_take 8 21 (v := ?vda8) rfl rfl (by kernel_rfl) (by kernel_rfl) (by kernel_rfl) (fun _ _ _ h => h) (by rfl) (fun w' hS => ?hda8) ?rda8
      case hda8 => go_simp; with_reducible rfl
      try simp only [Act.put, List.setIfInBounds_toArray, List.set_cons_zero, List.set_cons_succ]
      refine region_take 9 22 (v := ?vda9) rfl rfl (by kernel_rfl) (by kernel_rfl) (by kernel_rfl) (fun _ _ _ h => h) (by rfl) (fun w' hS => ?hda9) ?rda9
      case hda9 => go_simp; with_reducible rfl
      try simp only [Act.put, List.setIfInBounds_toArray, List.set_cons_zero, List.set_cons_succ]
      refine region_take 10 23 (v := ?vda10) rfl rfl (by kernel_rfl) (by kernel_rfl) (by kernel_rfl) (fun _ _ _ h => h) (by rfl) (fun w' hS => ?hda10) ?rda10
      case hda10 => (have hx := fun j v hv => hS.cell_some (HRx2.out j v hv) (by intro e; simp only at e; omega); have m0 : w'.cell? ⟨b, o + (K + 1) * 4, none⟩ = some (.int .i64 tk2) := hx 0 _ rfl; have m1 : w'.cell? ⟨b, o + (K + 1) * 4 + 1, none⟩ = some (.int .i64 tn2) := hx 1 _ rfl; have m2 : w'.cell? ⟨b, o + (K + 1) * 4 + 2, none⟩ = some (.string ts2) := hx 2 _ rfl; have m3 : w'.cell? ⟨b, o + (K + 1) * 4 + 3, none⟩ = some q2 := hx 3 _ rfl; go_simp; with_reducible rfl)
      try simp only [Act.put, List.setIfInBounds_toArray, List.set_cons_zero, List.set_cons_succ]
      refine wpAnyH_ready (rs := [0]) (by kernel_rfl) (by simp) (AllReadyH.cons rfl (fun K hK => ?_) AllReadyH.nil)
      refine step_of_list ?_
      refine wpList_load_mid rfl 59 (.tmp 3) rfl (rb + 1) 0 rfl cs _ hRv Try.underlying59 rfl (by rw [HCl.out]; kernel_rfl) ?_
      refine hK.out _ _ (Ext.refl _ _) (fun hHeld => ?_)
      clear hK K hHeld
      refine region_now (Ext.refl _ _) ?_
      try simp only [Act.put, List.setIfInBounds_toArray, List.set_cons_zero, List.set_cons_succ]
      refine wpAnyH_ready (rs := [11]) (by kernel_rfl) (by simp) (AllReadyH.cons rfl (fun K hK => ?_) AllReadyH.nil)
      go_simp
      refine (HPut.out _ ((Ext.refl _ wr).drew)).mono ?_
      rintro e w4 ⟨cs4, rfl, hT4, hP4, hO4⟩
      have hP44 : Pure wr w4 := (Ext.refl _ wr).drew.pure hP4
      have HT4 := Lib.hid hT4
      have HO4 := Lib.hid hO4
      have HP4 := Lib.hid hP4
      have HP44 := Lib.hid hP44
      have HCl4 := Lib.hid hT4.len
      have HOne4 := Lib.hid hT4.one
      have hB4 := HBv.out.ext hP44 id
      have HTh4 : Hid (w4.there (rb + 1) 0 cs4.toArray.size) := Lib.hid (by rw [List.size_toArray, HCl4.out]; exact hB4.there 4 HCl.out.symm)
      have HSi4 : Hid ((Try.prog.info? 59).map (·.size) = some cs4.toArray.size) := Lib.hid (by rw [List.size_toArray, HCl4.out]; exact size24)
      have HB4 := Lib.hid hB4
      clear hT4 hP4 hO4 hP44 hB4
      refine hK.out _ _ (HP4.out.mono (fun _ _ e => e.elim)) (fun hHeld => ?_)
      clear hK K hHeld
      refine region_now (HP4.out.mono (fun _ _ e => e.elim)) ?_
      try simp only [Act.put, List.setIfInBounds_toArray, List.set_cons_zero, List.set_cons_succ]
      refine wpAnyH_ready (rs := [12]) (by kernel_rfl) (by simp) (AllReadyH.cons rfl (fun K hK => ?_) AllReadyH.nil)
      refine step_of_list ?_
      refine wpList_store_mid rfl 59 (.tmp 3) (.tmp 24) rfl (rb + 1) 0 cs4.toArray rfl rfl HTh4.out HSi4.out HOne4.out ?_
      refine hK.out _ _ (Ext.setCells cs4 0 _ (Ext.refl _ _) (fun _ => rfl)) (fun hHeld => ?_)
      clear hK K hHeld
      refine region_now (Ext.setCells cs4 0 _ (Ext.refl _ _) (fun _ => rfl)) ?_
      try simp only [Act.put, List.setIfInBounds_toArray, List.set_cons_zero, List.set_cons_succ]
      refine wpAnyH_done (by kernel_rfl) ?_ _
      have HBz := Lib.hid (HB4.out.setAll cs4 (by rw [HCl4.out, HCl.out]))
      have hX := Ext.setCells cs4 0 w4 (Ext.refl (fun k => k = rb + 1) w4) (b := rb + 1) (fun _ => rfl)
      have HBr4 := Lib.hid ((HBr.out.ext HP44.out id).ext hX (by omega))
      have HP5 : Hid (Pure w (w4.setCells (rb + 1) 0 cs4)) := Lib.hid (Ext.setCells cs4 0 w4 (HP.out.pure HP44.out) (b := rb + 1) (fun h => by have := HRb.out; omega))
      have HOff4 : Hid (∀ b, b < rb + 2 → Off b cs4) := Lib.hid (fun b hb => HO4.out b (by have h1 := HSz.out; have h2 : wr.drew.heap.size = wr.heap.size := rfl; omega) (HOff.out b hb))
      have HT5 := Lib.hid (HT4.out.ext hX (fun b hb => by subst hb; exact HOff4.out _ (by omega)))
      have HSz5 : Hid (rb + 2 ≤ (w4.setCells (rb + 1) 0 cs4).heap.size) := Lib.hid (by have h1 := HSz.out; have h2 := HP44.out.size; have h3 := hX.size; omega)
      clear hX HB4 HTh4 HSi4
      go_wp2_with fail
      go_roundw
      case rel => exact ⟨K + 2, v2, cs4, by omega, by go_num, HD2, HBr4, HBz, HT5, by omega, HOff4, HP5, HSz5⟩
      case measure => simp [intOf]; omega
    · have hki : ¬ (K : Int) + 1 < (n : Int) := by omega
      have HFv : Hid (F = v) := Lib.hid (by rw [← HD.out, dictL_end (by rw [← HN.out]; omega)])
      have hRv := HBv.out.range
      have HCl := Lib.hid HT.out.len
      have HOne := Lib.hid HT.out.one
      have hth := HBr.out.there 4 rfl
      have HTh : Hid (wr.there rb 0 cs.toArray.size) := Lib.hid (by rw [List.size_toArray, HCl.out]; exact hth)
      have HSi : Hid ((Try.prog.info? 59).map (·.size) = some cs.toArray.size) := Lib.hid (by rw [List.size_toArray, HCl.out]; exact size24)
      have HBz := Lib.hid (HBr.out.setAll cs (by rw [HCl.out]; rfl))
      have HPz : Hid (Pure w (wr.setCells rb 0 cs)) := Lib.hid (Ext.setCells cs 0 wr HP.out (b := rb) (fun h => by have := HRb.out; omega))
      have HTz : Hid (Top w (wr.setCells rb 0 cs) (d + 1) v cs) := Lib.hid (HT.out.ext (Ext.setCells cs 0 wr (Ext.refl (fun k => k = rb) wr) (b := rb) (fun _ => rfl)) (fun b hb => by subst hb; exact HOff.out _ (by omega)))
      have HOz : Hid (∀ b, b < w.heap.size → Off b zeroCs → Off b cs) := Lib.hid (fun b hb _ => HOff.out b (by have := HRb.out; omega))
      clear hth
      go_wp2_with (first
        | (with_reducible refine at_load 59 (.tmp 3) ?_; refine wpList_load_mid rfl 59 (.tmp 3) rfl (rb + 1) 0 rfl cs _ hRv Try.underlying59 rfl (by rw [HCl.out]; kernel_rfl) ?_)
        | (with_reducible refine at_store 59 (.tmp 2) (.tmp 25) ?_; refine wpList_store_mid rfl 59 (.tmp 2) (.tmp 25) rfl rb 0 cs.toArray rfl rfl HTh.out HSi.out HOne.out ?_; try simp only [List.toArray_toList]))
      refine bodyPost_ret (results_row1 rfl _ _ rb _ cs _ rfl HBz.out Try.underlying59 rfl (by rw [HCl.out]; exact size24)) rfl ?_
      exact ⟨cs, rfl, by rw [HFv.out]; exact HTz.out, HPz.out, HOz.out⟩
end Go.Proofs.Ytipmbcalnnomjaa
