import Derived.Test.YtipmbcalnnomjaaGreatRef24Tu
import Derived.Deep.DeepCutAuto
import Derived.Test.YtipmbcalnnomjaaGreatSqTu
set_option linter.unusedVariables false
set_option linter.unusedSimpArgs false
set_option maxRecDepth 100000
namespace Go.Proofs.YtipmbcalnnomjaaGreat
open Go.RowKit
def mostP (l : List Int) : Nat := l.foldl (fun m x => if x ≤ 4096 then max m x.toNat else m) 0
def toP (s : List (Int × Nat)) (most : Nat) : List Int := (List.range most).map fun i : Nat => ((s.find? fun q => decide (q.1 = (i : Int) + 1)).map fun q => (q.2 : Int)).getD 0
structure OrderP where
 nums : List Int
 main : List Int
 head : List Int
 first : List Int
def seqP (main head first : List Int) : List (Int × Nat) := main.zipIdx 1 ++ head.zipIdx (main.length + 2) ++ first.zipIdx (main.length + head.length + 3)
def orderP (p : PartsP) : OrderP :=
 ⟨toP (seqP (p.own.flatten ++ p.shared ++ p.others) p.tree p.first) (mostP (p.own.flatten ++ p.shared ++ p.others ++ p.tree ++ p.first)), p.own.flatten ++ p.shared ++ p.others, p.tree, p.first⟩
theorem mostP_snoc (l : List Int) (x : Int) : mostP (l ++ [x]) = if x ≤ 4096 then max (mostP l) x.toNat else mostP l := by
 unfold mostP
 rw [List.foldl_append]
 rfl
theorem mostP_le (l : List Int) : mostP l ≤ 4096 := by
 induction l using snocInd with
 | nil => exact Nat.zero_le _
 | app l x ih =>
   rw [mostP_snoc]
   split
   ·omega
   ·exact ih
theorem mostP_mem {l : List Int} {x : Int} (hx : x ∈ l) (h : x ≤ 4096) : x ≤ mostP l := by
 induction l using snocInd with
 | nil => cases hx
 | app l y ih =>
   rw [mostP_snoc]
   rcases List.mem_append.1 hx with hx | hx
   ·have := ih hx
    split <;> omega
   ·rw [List.mem_singleton] at hx
    subst hx
    rw [if_pos h]
    omega
theorem mostP_in {l : List Int} (h : 0 < mostP l) : ((mostP l : Nat) : Int) ∈ l := by
 induction l using snocInd with
 | nil => exact absurd h (by decide)
 | app l y ih =>
   rw [mostP_snoc] at h ⊢
   split at h
   ·rename_i hy
    rw [if_pos hy]
    by_cases hm : mostP l < y.toNat
    ·rw [show max (mostP l) y.toNat = y.toNat by omega, show ((y.toNat : Nat) : Int) = y by omega]
     simp
    ·rw [show max (mostP l) y.toNat = mostP l by omega] at h ⊢
     exact List.mem_append.2 (Or.inl (ih h))
   ·rename_i hy
    rw [if_neg hy]
    exact List.mem_append.2 (Or.inl (ih h))
theorem toP_len (s : List (Int × Nat)) (m : Nat) : (toP s m).length = m := by unfold toP; rw [List.length_map, List.length_range]
theorem toP_get (s : List (Int × Nat)) {m i : Nat} (hi : i < m) : (toP s m)[i]? = some (((s.find? fun q => decide (q.1 = (i : Int) + 1)).map fun q => (q.2 : Int)).getD 0) := by
 unfold toP
 rw [List.getElem?_map, List.getElem?_range hi]
 rfl
theorem toP_nil (m : Nat) : toP [] m = List.replicate m 0 := by
 apply List.ext_getElem?
 intro i
 by_cases hi : i < m
 ·rw [toP_get [] hi, List.getElem?_replicate, if_pos hi]
  rfl
 ·rw [List.getElem?_eq_none (by rw [toP_len]; omega), List.getElem?_eq_none (by rw [List.length_replicate]; omega)]
theorem toP_snoc (s : List (Int × Nat)) (m : Nat) (x : Int) (k : Nat) (hk : 0 < k) (hs : ∀ q ∈ s, 0 < q.2) :
 (∀ i, i < m → x = (i : Int) + 1 → (toP s m)[i]? = some 0 → toP (s ++ [(x, k)]) m = (toP s m).set i (k : Int)) ∧ (∀ i, i < m → x = (i : Int) + 1 → (toP s m)[i]? ≠ some 0 → toP (s ++ [(x, k)]) m = toP s m) ∧ (¬ (1 ≤ x ∧ x ≤ m) → toP (s ++ [(x, k)]) m = toP s m) := by
 have key : ∀ i, i < m → (toP (s ++ [(x, k)]) m)[i]? = some (((s.find? fun q => decide (q.1 = (i : Int) + 1)).or (if x = (i : Int) + 1 then some (x, k) else none) |>.map fun q => (q.2 : Int)).getD 0) := fun i hi => by
  rw [toP_get _ hi, List.find?_append]
  congr 4
  by_cases e : x = (i : Int) + 1
  ·simp [e]
  ·simp [e]
 have hz : ∀ i, i < m → ((toP s m)[i]? = some 0 ↔ (s.find? fun q => decide (q.1 = (i : Int) + 1)) = none) := fun i hi => by
  rw [toP_get s hi]
  cases h : s.find? fun q => decide (q.1 = (i : Int) + 1) with
  | none => simp
  | some q =>
    have := hs q (List.mem_of_find?_eq_some h)
    simp
    omega
 refine ⟨fun i hi hx h0 => ?_, fun i hi hx h0 => ?_, fun hx => ?_⟩
 ·apply List.ext_getElem?
  intro j
  by_cases hj : j < m
  ·rw [key j hj]
   by_cases e : i = j
   ·subst e
    rw [List.getElem?_set_self (by rw [toP_len]; exact hi), (hz i hi).1 h0, if_pos hx]
    rfl
   ·rw [List.getElem?_set_ne e, toP_get s hj, if_neg (by omega)]
    simp
  ·rw [List.getElem?_eq_none (by rw [toP_len]; omega), List.getElem?_eq_none (by rw [List.length_set, toP_len]; omega)]
 ·apply List.ext_getElem?
  intro j
  by_cases hj : j < m
  ·rw [key j hj, toP_get s hj]
   by_cases e : i = j
   ·subst e
    have hn := mt (hz i hi).2 h0
    cases h : s.find? fun q => decide (q.1 = (i : Int) + 1) with
    | none => exact absurd h hn
    | some q => simp
   ·rw [if_neg (by omega)]
    simp
  ·rw [List.getElem?_eq_none (by rw [toP_len]; omega), List.getElem?_eq_none (by rw [toP_len]; omega)]
 ·apply List.ext_getElem?
  intro j
  by_cases hj : j < m
  ·rw [key j hj, toP_get s hj, if_neg (by omega)]
   simp
  ·rw [List.getElem?_eq_none (by rw [toP_len]; omega), List.getElem?_eq_none (by rw [toP_len]; omega)]
theorem toP_cons (s : List (Int × Nat)) (m : Nat) (x : Int) (k : Nat) :
 (∀ i, i < m → x = (i : Int) + 1 → toP ((x, k) :: s) m = (toP s m).set i (k : Int)) ∧ (¬ (1 ≤ x ∧ x ≤ m) → toP ((x, k) :: s) m = toP s m) := by
 refine ⟨fun i hi hx => ?_, fun hx => ?_⟩
 ·apply List.ext_getElem?
  intro j
  by_cases hj : j < m
  ·rw [toP_get _ hj, List.find?_cons]
   by_cases e : i = j
   ·subst e
    rw [List.getElem?_set_self (by rw [toP_len]; exact hi)]
    simp [hx]
   ·rw [List.getElem?_set_ne e, toP_get s hj]
    have : ¬ (x = (j : Int) + 1) := by omega
    simp [this]
  ·rw [List.getElem?_eq_none (by rw [toP_len]; omega), List.getElem?_eq_none (by rw [List.length_set, toP_len]; omega)]
 ·apply List.ext_getElem?
  intro j
  by_cases hj : j < m
  ·have : ¬ (x = (j : Int) + 1) := by omega
   rw [toP_get _ hj, toP_get s hj, List.find?_cons]
   simp [this]
  ·rw [List.getElem?_eq_none (by rw [toP_len]; omega), List.getElem?_eq_none (by rw [toP_len]; omega)]
def allO (main head first : List Int) : List Int := main ++ [0] ++ head ++ [0] ++ first
theorem toP_zero {s t : List (Int × Nat)} {m k : Nat} : toP (s ++ [((0 : Int), k)] ++ t) m = toP (s ++ t) m := by
 unfold toP
 apply List.map_congr_left
 intro i hi
 rw [List.find?_append, List.find?_append, List.find?_append]
 have : ¬ ((0 : Int) = (i : Int) + 1) := by omega
 simp [this]
theorem seqP_all (main head first : List Int) (m : Nat) : toP ((allO main head first).zipIdx 1) m = toP (seqP main head first) m := by
 unfold allO seqP
 rw [List.zipIdx_append, List.zipIdx_append, List.zipIdx_append, List.zipIdx_append]
 simp only [List.length_append, List.length_singleton, List.zipIdx_cons, List.zipIdx_nil]
 rw [List.append_assoc (main.zipIdx 1 ++ [((0 : Int), 1 + main.length)] ++ head.zipIdx (1 + (main.length + 1)))]
 rw [show ((main.zipIdx 1 ++ [((0 : Int), 1 + main.length)]) ++ head.zipIdx (1 + (main.length + 1))) ++ ([((0 : Int), 1 + (main.length + 1 + head.length))] ++ first.zipIdx (1 + (main.length + 1 + head.length + 1))) = main.zipIdx 1 ++ [((0 : Int), 1 + main.length)] ++ (head.zipIdx (1 + (main.length + 1)) ++ ([((0 : Int), 1 + (main.length + 1 + head.length))] ++ first.zipIdx (1 + (main.length + 1 + head.length + 1)))) by simp [List.append_assoc]]
 rw [toP_zero]
 rw [show main.zipIdx 1 ++ (head.zipIdx (1 + (main.length + 1)) ++ ([((0 : Int), 1 + (main.length + 1 + head.length))] ++ first.zipIdx (1 + (main.length + 1 + head.length + 1)))) = (main.zipIdx 1 ++ head.zipIdx (1 + (main.length + 1))) ++ [((0 : Int), 1 + (main.length + 1 + head.length))] ++ first.zipIdx (1 + (main.length + 1 + head.length + 1)) by simp [List.append_assoc]]
 rw [toP_zero, show 1 + (main.length + 1) = main.length + 2 by omega, show 1 + (main.length + 1 + head.length + 1) = main.length + head.length + 3 by omega]
theorem mostP_zero {l l' : List Int} (h : ∀ x, x ≠ 0 → (x ∈ l ↔ x ∈ l')) : mostP l = mostP l' := by
 have key : ∀ {a b : List Int}, (∀ x, x ≠ 0 → x ∈ a → x ∈ b) → mostP a ≤ mostP b := fun {a b} hab => by
  by_cases h0 : mostP a = 0
  ·omega
  ·have h1 := mostP_in (l := a) (by omega)
   have h2 := mostP_mem (hab _ (by omega) h1) (by have := mostP_le a; omega)
   omega
 have h1 := key (fun x hn hx => (h x hn).1 hx)
 have h2 := key (fun x hn hx => (h x hn).2 hx)
 omega
end Go.Proofs.YtipmbcalnnomjaaGreat
namespace Go.Proofs.YtipmbcalnnomjaaGreat
open Go.RowKit Go.Maps
theorem seqP_len (main head first : List Int) : (seqP main head first).length = main.length + head.length + first.length := by
 unfold seqP
 simp only [List.length_append, List.length_zipIdx]
theorem seqP_main (main head first : List Int) {k : Nat} (hk : k < main.length) : (seqP main head first)[k]? = some (main[k], k + 1) := by
 unfold seqP
 rw [List.append_assoc, List.getElem?_append_left (by simpa using hk), List.getElem?_zipIdx, List.getElem?_eq_getElem hk]
 simp [Nat.add_comm]
theorem seqP_head (main head first : List Int) {k : Nat} (hk : k < head.length) : (seqP main head first)[main.length + k]? = some (head[k], main.length + 2 + k) := by
 unfold seqP
 rw [List.append_assoc, List.getElem?_append_right (by simp), List.length_zipIdx, Nat.add_sub_cancel_left, List.getElem?_append_left (by simpa using hk), List.getElem?_zipIdx, List.getElem?_eq_getElem hk]
 simp
theorem seqP_first (main head first : List Int) {k : Nat} (hk : k < first.length) : (seqP main head first)[main.length + head.length + k]? = some (first[k], main.length + head.length + 3 + k) := by
 unfold seqP
 rw [List.getElem?_append_right (by simp only [List.length_append, List.length_zipIdx]; omega), List.length_append, List.length_zipIdx, List.length_zipIdx, Nat.add_sub_cancel_left, List.getElem?_zipIdx, List.getElem?_eq_getElem hk]
 simp
def EachTo (S : Nat → Prop) (I : Nat → World → Prop) (n : Nat) (w : World) (e : Ending) (w' : World) : Prop := e = .returned (.tuple #[]) ∧ I n w' ∧ Ext S w w'
set_option maxHeartbeats 4000000 in
theorem each_any (g : Nat) (caps : Array Value) (S : Nat → Prop) (I : Nat → World → Prop) (main head first : List Int) (ta ma ha fa : Option Addr) (tn tc mc hc fc : Nat) (lin hint : Int) (w : World)
 (hg : ∀ args w, (callFunc g args).run Tryz.prog w = .ok (.enter g args) w)
 (hR : ∀ W, Ext S w W → RowOf W ma (intsV main) ∧ RowOf W ha (intsV head) ∧ RowOf W fa (intsV first)) (hS : ∀ b, S b → b < w.heap.size)
 (hI0 : I 0 w) (hIp : ∀ k W W', I k W → Pure W W' → I k W')
 (hstep : ∀ (k : Nat) (q : Int × Nat) (W : World), (seqP main head first)[k]? = some q → Ext S w W → I k W → Calls Tryz.prog g (#[.int .i64 q.1, .int .i64 (q.2 : Int)] ++ caps) W (EachTo S I (k + 1) W))
 (hl : main.length ≤ 1000000 ∧ head.length ≤ 1000000 ∧ first.length ≤ 1000000) :
 Calls Tryz.prog 22 #[.agg #[.slice ta tn tc, .slice ma main.length mc, .slice ha head.length hc, .slice fa first.length fc, .int .i64 lin, .int .i64 hint], .func (.func g) #[] caps] w (EachTo S I (main.length + head.length + first.length) w) := by
 obtain ⟨hl1, hl2, hl3⟩ := hl
 have HR := qh hR
 have HS := qh hS
 have HIp := qh hIp
 have HSt := qh hstep
 obtain ⟨mn, hmn⟩ : ∃ z, z = main.length := ⟨_, rfl⟩
 obtain ⟨hn, hhn⟩ : ∃ z, z = head.length := ⟨_, rfl⟩
 obtain ⟨fn, hfn⟩ : ∃ z, z = first.length := ⟨_, rfl⟩
 rw [← hmn] at hl1
 rw [← hhn] at hl2
 rw [← hfn] at hl3
 rw [← hmn, ← hhn, ← hfn]
 have HMn := qh hmn
 have HHn := qh hhn
 have HFn := qh hfn
 obtain ⟨w1, hw1⟩ : ∃ z, z = w.alloc (.cells #[.slice ta tn tc, .slice ma mn mc, .slice ha hn hc, .slice fa fn fc, .int .i64 lin, .int .i64 hint] 34) := ⟨_, rfl⟩
 have hP1 : Pure w w1 := by rw [hw1]; exact ext_alloc w _
 have HP1 := qh hP1
 have HB1 : Hid (BlockIs w1 w.heap.size [.slice ta tn tc, .slice ma mn mc, .slice ha hn hc, .slice fa fn fc, .int .i64 lin, .int .i64 hint] 34) := qh (by rw [hw1]; exact BlockIs.new w _ _)
 have HW1 := qh hw1.symm
 have HI1 : Hid (I 0 w1) := qh (hIp 0 w w1 hI0 hP1)
 have HNs : Hid (¬ S w.heap.size) := qh (fun h => by have := hS _ h; omega)
 obtain ⟨tb, htb⟩ : ∃ z, z = w.heap.size := ⟨_, rfl⟩
 rw [← htb] at HB1 HNs
 have HTb := qh htb.symm
 have x1 : w1.cell? ⟨tb, 1, none⟩ = some (.slice ma mn mc) := HB1.out.cell 1
 have HWx : Hid (∀ W, Ext S w1 W → Ext S w W) := qh (fun W hE => (HP1.out.mono (fun _ _ e => e.elim)).trans hE (fun _ _ e => e))
 clear hR hS hI0 hIp hstep hmn hhn hfn hw1 hP1 htb
 go_enter Tryz.func22, Tryz.ntmps22
 go_upto_region 1 with (fail)
 rw [HW1.out, HTb.out]
 go_wp2_with fail
 clear x1
 go_loopw [13] (fun i W => ∃ k : Nat, k ≤ mn ∧ i = .int .i64 k ∧ Hid (I k W) ∧ Hid (Ext S w1 W)) (fun i _ => mn - (intOf i).toNat)
 case atStart => exact ⟨0, Nat.zero_le _, rfl, HI1, qh (Ext.refl _ _)⟩
 case round =>
  clear HI1
  obtain ⟨k, hk, rfl, HI, HE⟩ := hrel
  by_cases hlt : k < mn
  ·have hki : (k : Int) < (mn : Int) := by omega
   have hk0 : (0 : Int) ≤ (k : Int) := by omega
   have hkm : k < main.length := by rw [← HMn.out]; exact hlt
   obtain ⟨b, o, rfl, hc⟩ := (HR.out wr (HWx.out wr HE.out)).1 k _ (intsV_get hkm)
   have hC := HSt.out k _ wr (seqP_main main head first hkm) (HWx.out wr HE.out) HI.out
   obtain ⟨x, hx⟩ : ∃ z, z = main[k] := ⟨_, rfl⟩
   rw [← hx] at hc hC
   rw [show (((x, k + 1) : Int × Nat).2 : Int) = (k : Int) + 1 by simp] at hC
   have HC := qh hC
   clear hx hC
   go_wp2_with fail
   refine HC.out.mono ?_
   rintro e W2 ⟨rfl, hI2, hE2⟩
   have HI2 := qh hI2
   have HE2 := qh (HE.out.trans hE2 (fun _ _ e => e))
   clear hI2 hE2 HC
   go_wp2_with fail
   go_roundw
   case rel => exact ⟨k + 1, by omega, by go_num, HI2, HE2⟩
   case measure => simp [intOf]; omega
  ·have hki : ¬ (k : Int) < (mn : Int) := by omega
   obtain rfl : k = mn := by omega
   have x2 : wr.cell? ⟨tb, 2, none⟩ = some (.slice ha hn hc) := (HB1.out.ext HE.out HNs.out).cell 2
   have HI0 : Hid (I (k + 0) wr) := HI
   go_wp2_with fail
   obtain ⟨wo, rfl⟩ : ∃ wo : World, wo = wr := ⟨_, rfl⟩
   clear x2
   go_loopw [27] (fun i W => ∃ j : Nat, j ≤ hn ∧ i = .int .i64 j ∧ Hid (I (k + j) W) ∧ Hid (Ext S w1 W)) (fun i _ => hn - (intOf i).toNat)
   case atStart => exact ⟨0, Nat.zero_le _, rfl, HI0, HE⟩
   case round =>
    clear HI0 HI HE
    obtain ⟨j, hj, rfl, HI, HE⟩ := hrel
    by_cases hltj : j < hn
    ·have hkj : (j : Int) < (hn : Int) := by omega
     have hj0 : (0 : Int) ≤ (j : Int) := by omega
     have hkm : j < head.length := by rw [← HHn.out]; exact hltj
     obtain ⟨b, o, rfl, hcl⟩ := (HR.out wr (HWx.out wr HE.out)).2.1 j _ (intsV_get hkm)
     have hq := seqP_head main head first hkm
     rw [← HMn.out] at hq
     have hC := HSt.out (k + j) _ wr hq (HWx.out wr HE.out) HI.out
     have x1 : wr.cell? ⟨tb, 1, none⟩ = some (.slice ma k mc) := (HB1.out.ext HE.out HNs.out).cell 1
     have htl : tb < wr.heap.size := (HB1.out.ext HE.out HNs.out).lt
     obtain ⟨x, hx⟩ : ∃ z, z = head[j] := ⟨_, rfl⟩
     rw [← hx] at hcl hC
     rw [show (((x, k + 2 + j) : Int × Nat).2 : Int) = (k : Int) + 2 + (j : Int) by simp] at hC
     have HC := qh hC
     clear hx hC hq
     go_wp2_with fail
     refine HC.out.mono ?_
     rintro e W2 ⟨rfl, hI2, hE2⟩
     have HI2 : Hid (I (k + (j + 1)) W2) := qh hI2
     have HE2 := qh (HE.out.trans hE2 (fun _ _ e => e))
     clear hI2 hE2 HC x1
     go_wp2_with fail
     go_roundw
     case rel => exact ⟨j + 1, by omega, by go_num, HI2, HE2⟩
     case measure => simp [intOf]; omega
    ·have hkj : ¬ (j : Int) < (hn : Int) := by omega
     obtain rfl : j = hn := by omega
     have x3 : wr.cell? ⟨tb, 3, none⟩ = some (.slice fa fn fc) := (HB1.out.ext HE.out HNs.out).cell 3
     have HI0 : Hid (I (k + j + 0) wr) := HI
     go_wp2_with fail
     obtain ⟨wo2, rfl⟩ : ∃ wo2 : World, wo2 = wr := ⟨_, rfl⟩
     clear x3
     go_loopw [45] (fun i W => ∃ r : Nat, r ≤ fn ∧ i = .int .i64 r ∧ Hid (I (k + j + r) W) ∧ Hid (Ext S w1 W)) (fun i _ => fn - (intOf i).toNat)
     case atStart => exact ⟨0, Nat.zero_le _, rfl, HI0, HE⟩
     case round =>
      clear HI0 HI HE
      obtain ⟨r, hr, rfl, HI, HE⟩ := hrel
      by_cases hltr : r < fn
      ·have hkr : (r : Int) < (fn : Int) := by omega
       have hr0 : (0 : Int) ≤ (r : Int) := by omega
       have hkm : r < first.length := by rw [← HFn.out]; exact hltr
       obtain ⟨b, o, rfl, hcl⟩ := (HR.out wr (HWx.out wr HE.out)).2.2 r _ (intsV_get hkm)
       have hq := seqP_first main head first hkm
       rw [← HMn.out, ← HHn.out] at hq
       have hC := HSt.out (k + j + r) _ wr hq (HWx.out wr HE.out) HI.out
       have x1 : wr.cell? ⟨tb, 1, none⟩ = some (.slice ma k mc) := (HB1.out.ext HE.out HNs.out).cell 1
       have x2 : wr.cell? ⟨tb, 2, none⟩ = some (.slice ha j hc) := (HB1.out.ext HE.out HNs.out).cell 2
       have htl : tb < wr.heap.size := (HB1.out.ext HE.out HNs.out).lt
       obtain ⟨x, hx⟩ : ∃ z, z = first[r] := ⟨_, rfl⟩
       rw [← hx] at hcl hC
       rw [show (((x, k + j + 3 + r) : Int × Nat).2 : Int) = (k : Int) + (j : Int) + 3 + (r : Int) by simp] at hC
       have HC := qh hC
       clear hx hC hq
       go_wp2_with fail
       refine HC.out.mono ?_
       rintro e W2 ⟨rfl, hI2, hE2⟩
       have HI2 : Hid (I (k + j + (r + 1)) W2) := qh hI2
       have HE2 := qh (HE.out.trans hE2 (fun _ _ e => e))
       clear hI2 hE2 HC x1 x2
       go_wp2_with fail
       go_roundw
       case rel => exact ⟨r + 1, by omega, by go_num, HI2, HE2⟩
       case measure => simp [intOf]; omega
      ·have hkr : ¬ (r : Int) < (fn : Int) := by omega
       obtain rfl : r = fn := by omega
       go_wp2_with fail
       go_end0
       exact ⟨rfl, HI.out, HWx.out wr HE.out⟩
