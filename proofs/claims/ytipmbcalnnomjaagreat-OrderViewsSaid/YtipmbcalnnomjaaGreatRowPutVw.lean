import Derived.Test.YtipmbcalnnomjaaGreatFindPlVw
import Derived.Test.YtipmbcalnnomjaaGreatRefsRVw
import Derived.Test.YtipmbcalnnomjaaGreatWalkDVw
import Derived.Maps.OwnSet
import Derived.Deep.DeepCutAuto
import Derived.Test.YtipmbcalnnomjaaGreatSqVw
set_option linter.unusedVariables false
set_option linter.unusedSimpArgs false
set_option maxRecDepth 100000
namespace Go.Proofs.YtipmbcalnnomjaaGreat
open Go.RowKit
theorem snocInd {P : List Int → Prop} (nil : P []) (app : ∀ ys y, P ys → P (ys ++ [y])) (ys : List Int) : P ys := by
 have h : ∀ zs : List Int, P zs.reverse := by
  intro zs
  induction zs with
  | nil => exact nil
  | cons z zs ih => rw [List.reverse_cons]; exact app _ _ ih
 have h2 := h ys.reverse
 rwa [List.reverse_reverse] at h2
def onP (xs ys : List Int) : List Int := ys.foldl (fun l x => if x ∈ l then l else l ++ [x]) xs
theorem onP_snoc (xs ys : List Int) (y : Int) : onP xs (ys ++ [y]) = if y ∈ onP xs ys then onP xs ys else onP xs ys ++ [y] := by
 unfold onP
 rw [List.foldl_append]
 rfl
theorem onP_len (xs : List Int) : ∀ ys : List Int, (onP xs ys).length ≤ xs.length + ys.length := by
 intro ys
 induction ys using snocInd with
 | nil => exact Nat.le_refl _
 | app ys y ih =>
   rw [onP_snoc]
   split
   ·rw [List.length_append]; omega
   ·rw [List.length_append, List.length_append]; simp; omega
theorem onP_mem {xs : List Int} {x : Int} : ∀ {ys : List Int}, x ∈ onP xs ys ↔ x ∈ xs ∨ x ∈ ys := by
 intro ys
 induction ys using snocInd with
 | nil => simp [onP]
 | app ys y ih =>
   rw [onP_snoc, List.mem_append, List.mem_singleton, ← or_assoc, ← ih]
   split
   ·rename_i hy
    exact ⟨Or.inl, fun h => h.elim id (fun e => e ▸ hy)⟩
   ·rw [List.mem_append, List.mem_singleton]
theorem onP_nodup {xs : List Int} (h : xs.Nodup) : ∀ {ys : List Int}, (onP xs ys).Nodup := by
 intro ys
 induction ys using snocInd with
 | nil => exact h
 | app ys y ih =>
   rw [onP_snoc]
   split
   ·exact ih
   ·rename_i hy
    rw [List.nodup_append]
    refine ⟨ih, by simp, fun a ha b hb e => ?_⟩
    rw [List.mem_singleton] at hb
    subst hb
    subst e
    exact hy ha
theorem onP_len_ge (xs : List Int) : ∀ ys : List Int, xs.length ≤ (onP xs ys).length := by
 intro ys
 induction ys using snocInd with
 | nil => exact Nat.le_refl _
 | app ys y ih =>
   rw [onP_snoc]
   split
   ·exact ih
   ·rw [List.length_append]; omega
theorem onP_get {xs : List Int} {i : Nat} (hi : i < xs.length) : ∀ {ys : List Int}, (onP xs ys)[i]? = xs[i]? := by
 intro ys
 induction ys using snocInd with
 | nil => rfl
 | app ys y ih =>
   rw [onP_snoc]
   split
   ·exact ih
   ·rw [List.getElem?_append_left (by have := onP_len_ge xs ys; omega)]
    exact ih
def nextR (v : V) : List Int := (v.more []).filter fun x => decide (1 ≤ x ∧ x ≤ 4096)
def firstR (v g : V) : List Int := onP (onP [] (nextR (v.dropped "Parent".toUTF8))) (nextR g)
def closR (l : List Ob) (g : V) : Nat → List Int → Nat → List Int
 | 0, row, _ => row
 | f + 1, row, k =>
   if k < row.length then closR l g f (onP row (if k = 0 then firstR (obAt l (row.getD k 0)).v g else nextR (obAt l (row.getD k 0)).v)) (k + 1)
   else row
def closP (l : List Ob) (n : Int) (g : V) : List Int := closR l g 5000 [n] 0
end Go.Proofs.YtipmbcalnnomjaaGreat
namespace Go.Proofs.YtipmbcalnnomjaaGreat
open Go.RowKit Go.Maps
structure RowI (rb B R0 : Nat) (xs : List Int) (a : Option Addr) (c : Nat) (D : DataW Unit) (W : World) : Prop where
 blk : BlockIs W rb [.slice a xs.length c, .map (some B)] 142
 row : W.ownsRow R0 3 1 (.slice a xs.length c) xs.length (intsV xs)
 own : W.ownsMap Tryz.prog 3 (plainElem Tryz.prog 3) B xs.length D
 is : IsMap D
 has : ∀ x, Maps.has D (.int .i64 x) = decide (x ∈ xs)
 rs : R0 ≤ W.heap.size
 lo : rb < R0 ∧ B < R0 ∧ rb ≠ B
def RowS (rb B : Nat) (a : Option Addr) (k : Nat) : Prop := k = rb ∨ k = B ∨ ∃ x, a = some x ∧ x.block = k
theorem RowI.pure {rb B R0 : Nat} {xs : List Int} {a : Option Addr} {c : Nat} {D : DataW Unit} {W W' : World} (h : RowI rb B R0 xs a c D W) (hP : Pure W W') : RowI rb B R0 xs a c D W' :=
 ⟨h.blk.ext hP id, own_ext h.row hP (fun _ _ => id), own_map_ext h.own hP id, h.is, h.has, Nat.le_trans h.rs hP.size, h.lo⟩
theorem RowS.of_own {rb B : Nat} {a : Option Addr} {n c b : Nat} (h : (Value.slice a n c).ownBlock = some b) : RowS rb B a b := by
 cases a with
 | none => cases h
 | some x => exact Or.inr (Or.inr ⟨x, rfl, Option.some.inj h⟩)
theorem RowI.snoc {rb B R0 : Nat} {xs : List Int} {a a2 : Option Addr} {c c2 : Nat} {D : DataW Unit} {W W1 W2 W3 : World} {y z : Int} (h : RowI rb B R0 xs a c D W)
 (hO1 : W1.ownsMap Tryz.prog 3 (plainElem Tryz.prog 3) B (xs.length + 1) (D.put (.int .i64 y) (.lit (.int .i64 z)))) (hg1 : W.grownBy W1 (some B)) (hP : Pure W1 W2)
 (hO3 : W3.ownsRow R0 3 1 (.slice a2 (xs.length + 1) c2) (xs.length + 1) (intsV xs ++ [.int .i64 y])) (hg3 : W2.grownBy W3 (Value.slice a xs.length c).ownBlock) :
 RowI rb B R0 (xs ++ [y]) a2 c2 (D.put (.int .i64 y) (.lit (.int .i64 z))) (W3.setCell ⟨rb, 0, none⟩ (.slice a2 (xs.length + 1) c2)) ∧ Ext (RowS rb B a) W (W3.setCell ⟨rb, 0, none⟩ (.slice a2 (xs.length + 1) c2)) := by
 have hE1 := ext_of_grown hg1
 have hE3 := ext_of_grown hg3
 have hX : Ext (fun i => i = rb) W3 (W3.setCell ⟨rb, 0, none⟩ (.slice a2 (xs.length + 1) c2)) := Ext.setCell (S := fun i => i = rb) (Ext.refl _ _) (p := ⟨rb, 0, none⟩) (fun _ => rfl) _
 obtain ⟨h1, h2, h3⟩ := h.lo
 have hn : ∀ i, i < R0 → ¬ ((Value.slice a xs.length c).ownBlock = some i) := fun i hi e => by have := (h.row.lt i e).1; omega
 have hl : (xs ++ [y]).length = xs.length + 1 := by simp
 have hrs := h.rs
 have hs1 := hE1.size
 have hs2 := hP.size
 have hs3 := hE3.size
 refine ⟨⟨?_, ?_, ?_, h.is.put _ _, fun x => ?_, by have := hX.size; omega, h.lo⟩, ?_⟩
 ·rw [hl]
  exact (((h.blk.ext hE1 (fun e => h3 (Option.some.inj e).symm)).ext hP id).ext hE3 (hn rb h1)).set 0 _
 ·rw [hl, intsV_snoc]
  exact own_ext hO3 hX (fun g hg e => by have := (hO3.lt g hg).1; omega)
 ·rw [hl]
  exact own_map_ext (own_map_ext (own_map_ext hO1 hP id) hE3 (hn B h2)) hX (fun e => h3 e.symm)
 ·by_cases e : x = y
  ·subst e
   rw [has_put_same h.is (k := .int .i64 x) trivial]
   simp
  ·rw [has_put_other (fun e' => e (by cases e'; rfl)), h.has]
   exact decide_eq_decide.2 (by simp [e])
 ·exact (((hE1.mono (T := RowS rb B a) (fun i _ e => Or.inr (Or.inl (Option.some.inj e).symm))).pure hP).trans hE3 (fun i _ e => RowS.of_own e)).trans hX (fun i _ e => Or.inl e)
def PutTo (rb B R0 : Nat) (zs : List Int) (a : Option Addr) (W : World) (e : Ending) (W' : World) : Prop :=
 e = .returned (.tuple #[]) ∧ ∃ ax cx Dx, RowI rb B R0 zs ax cx Dx W' ∧ Ext (RowS rb B a) W W' ∧ (∀ x, ax = some x → (∃ y, a = some y ∧ y.block = x.block) ∨ W.heap.size ≤ x.block)
set_option maxHeartbeats 4000000 in
theorem rowput_any {rb B R0 : Nat} {xs : List Int} {a : Option Addr} {c : Nat} {D : DataW Unit} {W : World} (hI : RowI rb B R0 xs a c D W) (ys : List Int) (la : Option Addr) (lc : Nat) (hR : RowOf W la (intsV ys))
 (hoff : ∀ x, la = some x → ¬ RowS rb B a x.block) (hwf : ∀ y ∈ ys, (Lit.int .i64 y).wf = true) (hlen : xs.length + ys.length ≤ 1000000) :
 Calls Tryz.prog 78 #[.pointer (some ⟨rb, 0, none⟩), .slice la ys.length lc] W (PutTo rb B R0 (onP xs ys) a W) := by
 obtain ⟨n, hn⟩ : ∃ z, z = ys.length := ⟨_, rfl⟩
 rw [← hn] at hlen ⊢
 have HN := qh hn
 have HR := qh hR
 have HOff := qh hoff
 have HWf := qh hwf
 have HI0 := qh hI
 clear hn hR hoff hwf hI
 go_enter Tryz.func78, Tryz.ntmps78
 go_wp2_with fail
 go_loopw [10] (fun x wr => ∃ (k : Nat) (ax : Option Addr) (cx : Nat) (Dx : DataW Unit), k ≤ n ∧ x = .int .i64 k ∧ Hid (RowI rb B R0 (onP xs (ys.take k)) ax cx Dx wr) ∧ Hid (Ext (RowS rb B a) W wr) ∧ Hid (∀ x, ax = some x → (∃ y, a = some y ∧ y.block = x.block) ∨ W.heap.size ≤ x.block)) (fun x _ => n - (intOf x).toNat)
 case atStart => exact ⟨0, a, c, D, Nat.zero_le _, rfl, qh (by rw [List.take_zero]; exact HI0.out), qh (Ext.refl _ _), qh (fun x hx => Or.inl ⟨x, hx, rfl⟩)⟩
 case round =>
  obtain ⟨k, ax, cx, Dx, hk, rfl, HI, HE, HFr⟩ := hrel
  by_cases hlt : k < n
  ·have hki : (k : Int) < (n : Int) := by omega
   have hk0 : (0 : Int) ≤ (k : Int) := by omega
   have hkl : k < ys.length := by rw [← HN.out]; exact hlt
   obtain ⟨yb, yo, hla, hyc⟩ := (HR.out.ext HE.out (fun x hx => HOff.out x hx)) k _ (intsV_get hkl)
   obtain ⟨y, hy⟩ : ∃ z, z = ys[k] := ⟨_, rfl⟩
   rw [← hy] at hyc
   have HYw : Hid ((Lit.int .i64 y).wf = true) := qh (by rw [hy]; exact HWf.out _ (List.getElem_mem hkl))
   have HSn : Hid (onP xs (ys.take (k + 1)) = if y ∈ onP xs (ys.take k) then onP xs (ys.take k) else onP xs (ys.take k) ++ [y]) := qh (by rw [List.take_succ_eq_append_getElem hkl, onP_snoc, hy])
   have hzl : (onP xs (ys.take k)).length ≤ 1000000 := by
    have h1 := onP_len xs (ys.take k)
    rw [List.length_take] at h1
    omega
   obtain ⟨zs, hzs⟩ : ∃ z, z = onP xs (ys.take k) := ⟨_, rfl⟩
   rw [← hzs] at HI HSn hzl
   subst hla
   clear hzs hy hkl
   have r0 : wr.cell? ⟨rb, 0, none⟩ = some (.slice ax zs.length cx) := HI.out.blk.cell 0
   have r1 : wr.cell? ⟨rb, 1, none⟩ = some (.map (some B)) := HI.out.blk.cell 1
   by_cases hm : y ∈ zs
   ·have hhas : Maps.has Dx (.int .i64 y) = true := by rw [HI.out.has]; exact decide_eq_true hm
    have HNx : Hid (onP xs (ys.take (k + 1)) = zs) := qh (by rw [HSn.out, if_pos hm])
    clear hm
    go_wp2_with (at_lookup; refine wpList_lookup_own_ok_int _ rfl (.tmp 18) (.tmp 19) 122 rfl 3 3 .i64 lawInt Tryz.underlying122 Tryz.underlying3 (zeroI _) B zs.length Dx rfl HI.out.own _ _ rfl (keyOf_int_mk Tryz.underlying3 HYw.out) ?_; intro cq hat hwq; clear hat hwq)
    go_roundw
    case rel => exact ⟨k + 1, ax, cx, Dx, by omega, by go_num, qh (by rw [HNx.out]; exact HI.out), HE, HFr⟩
    case measure => simp [intOf]; omega
   ·have hhas : Maps.has Dx (.int .i64 y) = false := by rw [HI.out.has]; exact decide_eq_false hm
    have HNx : Hid (onP xs (ys.take (k + 1)) = zs ++ [y]) := qh (by rw [HSn.out, if_neg hm])
    have HKm : Hid (zs.length < maxLen) := qh (by unfold maxLen; omega)
    have HWl : Hid ((Lit.int .i64 (zs.length : Int)).wf = true) := qh (by unfold Lit.wf; simp [IntKind.min, IntKind.max, IntKind.bits, IntKind.signed]; omega)
    clear hm
    go_wp2_with (at_lookup; refine wpList_lookup_own_ok_int _ rfl (.tmp 18) (.tmp 19) 122 rfl 3 3 .i64 lawInt Tryz.underlying122 Tryz.underlying3 (zeroI _) B zs.length Dx rfl HI.out.own _ _ rfl (keyOf_int_mk Tryz.underlying3 HYw.out) ?_; intro cq hat hwq; clear hat hwq)
    have hBd := HI.out.blk.drew
    have hnB : ¬ rb = B := HI.out.lo.2.2
    have HId := qh (show RowI rb B R0 zs ax cx Dx wr.drew from HI.out.pure (Ext.refl _ _).drew)
    clear r0 r1
    refine region_start (fun b => b = B) (by kernel_rfl) ?_
    try simp only [Act.put, sA, sZ, sS]
    refine region_take 0 25 (v := ?vmp0) rfl rfl (by kernel_rfl) (by kernel_rfl) (by kernel_rfl) (fun _ _ _ h => h) (by rfl) (fun w' hS => ?hmp0) ?rmp0
    case hmp0 => go_simp; with_reducible rfl
    try simp only [Act.put, sA, sZ, sS]
    refine region_take 1 26 (v := ?vmp1) rfl rfl (by kernel_rfl) (by kernel_rfl) (by kernel_rfl) (fun _ _ _ h => h) (by rfl) (fun w' hS => ?hmp1) ?rmp1
    case hmp1 => go_simp; with_reducible rfl
    try simp only [Act.put, sA, sZ, sS]
    refine region_take 2 27 (v := ?vmp2) rfl rfl (by kernel_rfl) (by kernel_rfl) (by kernel_rfl) (fun _ _ _ h => h) (by rfl) (fun w' hS => ?hmp2) ?rmp2
    case hmp2 => go_simp; with_reducible rfl
    try simp only [Act.put, sA, sZ, sS]
    refine region_take 3 28 (v := ?vmp3) rfl rfl (by kernel_rfl) (by kernel_rfl) (by kernel_rfl) (fun _ _ _ h => h) (by rfl) (fun w' hS => ?hmp3) ?rmp3
    case hmp3 => (have e : w'.cell? ⟨rb, 1, none⟩ = some (.map (some B)) := (hBd.ext hS hnB).cell 1; go_simp; with_reducible rfl)
    try simp only [Act.put, sA, sZ, sS]
    refine region_take 4 29 (v := ?vmp4) rfl rfl (by kernel_rfl) (by kernel_rfl) (by kernel_rfl) (fun _ _ _ h => h) (by rfl) (fun w' hS => ?hmp4) ?rmp4
    case hmp4 => go_simp; with_reducible rfl
    try simp only [Act.put, sA, sZ, sS]
    refine region_take 5 30 (v := ?vmp5) rfl rfl (by kernel_rfl) (by kernel_rfl) (by kernel_rfl) (fun _ _ _ h => h) (by rfl) (fun w' hS => ?hmp5) ?rmp5
    case hmp5 => go_simp; with_reducible rfl
    try simp only [Act.put, sA, sZ, sS]
    refine region_take 6 31 (v := ?vmp6) rfl rfl (by kernel_rfl) (by kernel_rfl) (by kernel_rfl) (fun _ _ _ h => h) (by rfl) (fun w' hS => ?hmp6) ?rmp6
    case hmp6 => go_simp; with_reducible rfl
    try simp only [Act.put, sA, sZ, sS]
    refine region_take 7 32 (v := ?vmp7) rfl rfl (by kernel_rfl) (by kernel_rfl) (by kernel_rfl) (fun _ _ _ h => h) (by rfl) (fun w' hS => ?hmp7) ?rmp7
    case hmp7 => go_simp; with_reducible rfl
    try simp only [Act.put, sA, sZ, sS]
    refine region_take 8 33 (v := ?vmp8) rfl rfl (by kernel_rfl) (by kernel_rfl) (by kernel_rfl) (fun _ _ _ h => h) (by rfl) (fun w' hS => ?hmp8) ?rmp8
    case hmp8 => (have e : w'.cell? ⟨rb, 0, none⟩ = some (.slice ax zs.length cx) := (hBd.ext hS hnB).cell 0; go_simp; with_reducible rfl)
    try simp only [Act.put, sA, sZ, sS]
    refine region_take 9 34 (v := ?vmp9) rfl rfl (by kernel_rfl) (by kernel_rfl) (by kernel_rfl) (fun _ _ _ h => h) (by rfl) (fun w' hS => ?hmp9) ?rmp9
    case hmp9 => go_simp; with_reducible rfl
    try simp only [Act.put, sA, sZ, sS]
    refine wpAnyH_ready (rs := [10]) (by kernel_rfl) (by simp) (AllReadyH.cons rfl (fun K hK => ?_) AllReadyH.nil)
    refine step_of_list ?_
    refine wpList_mapUpdate_own _ rfl (.tmp 28) (.tmp 29) (.tmp 34) 122 rfl 3 3 lawInt Tryz.underlying122 _ B zs.length Dx rfl HId.out.own HKm.out _ _ _ rfl rfl (keyOf_int_mk Tryz.underlying3 HYw.out) _ [] (plainElem_int Tryz.underlying3 HWl.out) ?_
    intro W1 hO1 hg1
    have hX1 : Ext (fun b => b = B) wr.drew W1 := (ext_of_grown hg1).mono (fun b _ e => (Option.some.inj e).symm)
    refine hK.out _ _ (hX1) (fun hHeld => ?_)
    clear hK K hHeld
    refine region_now (hX1) ?_
    try simp only [Act.put, sA, sZ, sS]
    refine wpAnyH_done (by kernel_rfl) ?_ _
    go_simp
    try simp only [Act.put, sA, sZ, sS]
    obtain ⟨W2, hW2⟩ : ∃ z, z = W1.alloc (.cells #[.int .i64 y] 3) := ⟨_, rfl⟩
    have hP2 : Pure W1 W2 := by rw [hW2]; exact ext_alloc W1 _
    have HO1 := qh hO1
    have HG1 := qh hg1
    have HP2 := qh hP2
    have hb1 := hBd.ext hX1 hnB
    have r0 : W1.cell? ⟨rb, 0, none⟩ = some (.slice ax zs.length cx) := hb1.cell 0
    have hrl : rb < W1.heap.size := hb1.lt
    have HO2 : Hid (W2.ownsRow R0 3 1 (.slice ax zs.length cx) zs.length (intsV zs)) := qh (own_ext (own_ext HId.out.row hX1 (fun g hg e => by have h1 := (HId.out.row.lt g hg).1; have h2 := HId.out.lo; omega)) hP2 (fun _ _ => id))
    have HRw : Hid (RowOf W2 (some ⟨W1.heap.size, 0, none⟩) [.int .i64 y]) := qh (fun i u hu => ⟨W1.heap.size, 0, rfl, by rw [hW2, (BlockIs.new W1 [.int .i64 y] 3).cell, Nat.zero_add]; exact hu⟩)
    have HB1 : Hid ((zs.length + 1) * 8 ≤ 140737488355328) := qh (by omega)
    have HB2 : Hid (zs.length + 1 ≤ maxLen) := qh (by unfold maxLen; omega)
    have HRs : Hid (R0 ≤ W2.heap.size) := qh (Nat.le_trans HId.out.rs (Nat.le_trans hX1.size hP2.size))
    have HW2 := qh hW2
    have hbr := hb1.ext hP2 id
    have HBr := qh hbr
    have HSz : Hid (wr.heap.size ≤ W2.heap.size) := qh (Nat.le_trans hX1.size hP2.size)
    clear hO1 hg1 hX1 hW2 hP2 hb1 hbr hBd
    go_wp2_with (at_builtin; rw [← HW2.out]; refine wpList_append_fresh rfl (.tmp 39) (.tmp 41) 25 rfl R0 3 (.int .i64 0) 1 8 Tryz.underlying25 infoI rfl (by decide) (.slice ax zs.length cx) zs.length (intsV zs) rfl HO2.out (some ⟨W1.heap.size, 0, none⟩) 1 1 [.int .i64 y] rfl (fun e => by cases e) rfl HRw.out (fun u hu => by simp at hu; subst hu; rfl) (zs.length + 1) rfl (intsV zs ++ [.int .i64 y]) rfl HB1.out HB2.out HRs.out ?_; intro a6 c6 W6 hO6 hg6 hf6; have hb6 := HBr.out.ext (ext_of_grown hg6) (fun e => by have h1 := (HO2.out.lt rb e).1; have h2 := HId.out.lo; omega); have r6 : W6.cell? ⟨rb, 0, none⟩ = some (.slice ax zs.length cx) := hb6.cell 0; have f6 : W6.frozen? ⟨rb, 0, none⟩ = false := hb6.free 0)
    have hst := HId.out.snoc HO1.out HG1.out HP2.out hO6 hg6
    have HNew : Hid (RowI rb B R0 (onP xs (ys.take (k + 1))) a6 c6 (Dx.put (.int .i64 y) (.lit (.int .i64 (zs.length : Int)))) (W6.setCell ⟨rb, 0, none⟩ (.slice a6 (zs.length + 1) c6))) := qh (by rw [HNx.out]; exact hst.1)
    have HFn : Hid (∀ x, a6 = some x → (∃ y, a = some y ∧ y.block = x.block) ∨ W.heap.size ≤ x.block) := qh (fun x hx => by
     rcases hf6 x hx with hf | hf
     ·cases ax with
      | none => cases hf
      | some z =>
        have hz : z.block = x.block := Option.some.inj hf
        rw [← hz]
        exact HFr.out z rfl
     ·exact Or.inr (by have h1 := HE.out.size; have h2 := HSz.out; omega))
    have HEn : Hid (Ext (RowS rb B a) W (W6.setCell ⟨rb, 0, none⟩ (.slice a6 (zs.length + 1) c6))) := qh ((HE.out.drew).trans hst.2 (fun i hi e => by
     rcases e with e | e | ⟨x, hx, e⟩
     ·exact Or.inl e
     ·exact Or.inr (Or.inl e)
     ·rcases HFr.out x hx with ⟨z, hz, hzb⟩ | hs
      ·exact Or.inr (Or.inr ⟨z, hz, hzb.trans e⟩)
      ·omega))
    clear hO6 hg6 hf6 hst hb6 r6 f6
    go_roundw
    case rel => exact ⟨k + 1, a6, c6, _, by omega, by go_num, HNew, HEn, HFn⟩
    case measure => simp [intOf]; omega
  ·have hki : ¬ (k : Int) < (n : Int) := by omega
   have HIf : Hid (RowI rb B R0 (onP xs ys) ax cx Dx wr) := qh (by have h := HI.out; rwa [List.take_of_length_le (by rw [← HN.out]; omega)] at h)
   go_wp2_with fail
   go_end0
   exact ⟨rfl, ax, cx, Dx, HIf.out, HE.out, HFr.out⟩
