import Derived.Test.YtipmbcalnnomjaaGreatObjsEVw
import Derived.Test.YtipmbcalnnomjaaGreatSlxVw
import Derived.Test.YtipmbcalnnomjaaGreatRefsRVw
import Derived.Test.YtipmbcalnnomjaaGreatRowPutVw
import Derived.Test.YtipmbcalnnomjaaGreatDropPVw
import Derived.Test.YtipmbcalnnomjaaGreatSqVw
set_option linter.unusedVariables false
set_option linter.unusedSimpArgs false
set_option maxRecDepth 100000
namespace Go.Proofs.YtipmbcalnnomjaaGreat
open Go.RowKit
def FirstTo (q : Int → Bool) (ls : List Int) (w : World) (e : Ending) (w' : World) : Prop :=
 ∃ r : Int, e = .returned (.int .i64 r) ∧ Pure w w' ∧ ((r = -1 ∧ ls.any q = false) ∨ ∃ (k : Nat) (h : k < ls.length), r = k ∧ (ls.take k).any q = false ∧ q ls[k] = true)
set_option maxHeartbeats 1000000 in
theorem index_first (g : Nat) (caps : Array Value) (q : Int → Bool) (ad : Option Addr) (cap : Nat) (ls : List Int) (w : World) (hr : RowOf w ad (intsV ls)) (hl : ls.length ≤ 1000000000)
 (HQ : Hid (∀ x W, Calls Tryz.prog g (#[.int .i64 x] ++ caps) W (BoolTo (q x) W))) (hg : ∀ args w, (callFunc g args).run Tryz.prog w = .ok (.enter g args) w) :
 Calls Tryz.prog 92 #[.slice ad ls.length cap, .func (.func g) #[] caps] w (FirstTo q ls w) := by
 go_enter Tryz.func92, Tryz.ntmps92
 go_wp2_with fail
 go_loopw [8, 5] (fun i _ W => ∃ k : Nat, k ≤ ls.length ∧ i = .int .i64 k ∧ Hid ((ls.take k).any q = false) ∧ Pure w W) (fun i _ _ => ls.length - (intOf i).toNat)
 case atStart => exact ⟨0, Nat.zero_le _, rfl, qh rfl, Ext.refl _ _⟩
 case round =>
  obtain ⟨k, hk, rfl, HNo, hP⟩ := hrel
  by_cases hlt : k < ls.length
  ·have hki : (k : Int) < (ls.length : Int) := by omega
   have hk0 : (0 : Int) ≤ (k : Int) := by omega
   obtain ⟨b, o, rfl, h0⟩ := iV_at (hr.ext hP (fun _ _ => id)) k hlt
   obtain ⟨x, hx⟩ : ∃ x, x = ls[k] := ⟨_, rfl⟩
   rw [← hx] at h0
   have HB := qh (HQ.out x wr)
   have HT := qh (show (ls.take (k + 1)).any q = ((ls.take k).any q || q x) by rw [hx]; exact any_take_s q ls k hlt)
   cases hb : q x with
   | true =>
     have HY : Hid (∃ (j : Nat) (h : j < ls.length), (k : Int) = j ∧ (ls.take j).any q = false ∧ q ls[j] = true) := qh ⟨k, hlt, rfl, HNo.out, by rw [← hx]; exact hb⟩
     rw [hb] at HB
     clear hb hlt hx
     go_wp2_with fail
     refine HB.out.mono ?_
     rintro e w2 ⟨rfl, hP2⟩
     go_wp2_with fail
     go_ret
     exact ⟨k, rfl, hP.pure hP2, Or.inr HY.out⟩
   | false =>
     rw [hb, HNo.out] at HT
     have HB' := qh (hb ▸ HB.out)
     clear HB hb hx
     go_wp2_with fail
     refine HB'.out.mono ?_
     rintro e w2 ⟨rfl, hP2⟩
     go_wp2_with fail
     go_roundw
     case rel => exact ⟨k + 1, by omega, by go_num, HT, hP.pure hP2⟩
     case measure => simp [intOf]; omega
  ·have hki : ¬ (k : Int) < (ls.length : Int) := by omega
   have HN2 : Hid (ls.any q = false) := qh (by have := HNo.out; rwa [List.take_of_length_le (by omega)] at this)
   go_wp2_with fail
   go_ret
   exact ⟨-1, rfl, hP, Or.inl ⟨rfl, HN2.out⟩⟩
theorem filter_none {q : Int → Bool} {l : List Int} (h : l.any q = false) : l.filter (fun x => !q x) = l := by
 rw [List.filter_eq_self]
 intro x hx
 have := List.any_eq_false.1 h x hx
 simpa using this
def DelTo (R : Nat) (q : Int → Bool) (ls : List Int) (ad : Option Addr) (cap : Nat) (w : World) (e : Ending) (w' : World) : Prop :=
 e = .returned (.slice ad (ls.filter fun x => !q x).length cap) ∧ w'.ownsRow R 3 1 (.slice ad (ls.filter fun x => !q x).length cap) (ls.filter fun x => !q x).length (intsV (ls.filter fun x => !q x)) ∧ Ext (fun b => (Value.slice ad ls.length cap).ownBlock = some b) w w'
theorem intsV_set' (l : List Int) (i : Nat) (x : Int) : (intsV l).set i (.int .i64 x) = intsV (l.set i x) := by unfold intsV; rw [List.map_set]
theorem own_take {W : World} {R m n g cap : Nat} {ys : List Int} {cur : List Value} (hB : BlockIs W g cur 3) (hR : R ≤ g) (hl : cur.length = cap) (hm : cap ≤ maxLen) (hmn : m ≤ cap) (hc : cur.take m = intsV ys) (hy : ys.length = m) : W.ownsRow R 3 1 (.slice (some ⟨g, 0, none⟩) m cap) m (intsV ys) := by
 refine ⟨by rw [intsV_len, hy]; omega, Or.inr ⟨g, cap, cur.toArray, rfl, hR, hB, hmn, hm, by simpa using hl, ?_⟩⟩
 simpa using hc
theorem zeroInt (w : World) : (zeroValue 3).run Tryz.prog w = .ok (.int .i64 0) w := by kernel_rfl
set_option maxHeartbeats 4000000 in
theorem delfn_any (R g : Nat) (caps : Array Value) (q : Int → Bool) (ad : Option Addr) (cap : Nat) (ls : List Int) (w : World) (hO : w.ownsRow R 3 1 (.slice ad ls.length cap) ls.length (intsV ls)) (hl : ls.length ≤ 1000000)
 (HQ : Hid (∀ x W, Calls Tryz.prog g (#[.int .i64 x] ++ caps) W (BoolTo (q x) W))) (hg : ∀ args w, (callFunc g args).run Tryz.prog w = .ok (.enter g args) w) :
 Calls Tryz.prog 105 #[.slice ad ls.length cap, .func (.func g) #[] caps] w (DelTo R q ls ad cap w) := by
 have HIx := qh (index_first g caps q ad cap ls w (own_row hO) (by omega) HQ hg)
 have HO := qh hO
 obtain ⟨n, hn⟩ : ∃ z, z = ls.length := ⟨_, rfl⟩
 rw [← hn] at HIx hl ⊢
 have HN := qh hn
 clear hO hn
 go_enter Tryz.func105, Tryz.ntmps105
 go_wp2_with fail
 refine HIx.out.mono ?_
 rintro e w2 ⟨r, rfl, hP, hr⟩
 have HP := qh hP
 clear hP HIx
 rcases hr with ⟨rfl, hno⟩ | ⟨i0, hi0, rfl, hno, hyes⟩
 ·have HF : Hid (ls.filter (fun x => !q x) = ls) := qh (filter_none hno)
  clear hno
  go_wp2_with fail
  go_ret
  unfold DelTo
  rw [HF.out, ← HN.out]
  exact ⟨rfl, by rw [HN.out]; exact own_ext HO.out HP.out (fun _ _ => id), HP.out.mono (fun _ _ e => e.elim)⟩
 ·have hin : i0 < n := by rw [HN.out]; exact hi0
  have HF0 : Hid ((ls.take (i0 + 1)).filter (fun x => !q x) = ls.take i0) := qh (by
   rw [List.take_succ_eq_append_getElem hi0, List.filter_append, filter_none hno]
   simp [hyes])
  have hO2 : w2.ownsRow R 3 1 (.slice ad n cap) n (intsV ls) := by rw [HN.out]; exact own_ext HO.out HP.out (fun _ _ => id)
  obtain ⟨a1, c1, e1, hnc, hcm, _, hab2⟩ := own_form hO2
  cases e1
  have HO2 := qh hO2
  have hi1 : ((i0 : Int) == -1) = false := by
   have h : (i0 : Int) ≠ -1 := by omega
   exact beq_eq_false_iff_ne.2 h
  clear hno hyes hi0 hO2
  go_wp2_with fail
  go_loopw [5, 6, 7] (fun ii jj _ wr => ∃ (i j : Nat) (ys : List Int), i < j ∧ j ≤ n ∧ ii = .int .i64 i ∧ jj = .int .i64 j ∧ Hid (ys.length = n ∧ ys.take i = (ls.take j).filter (fun x => !q x) ∧ ys.drop j = ls.drop j) ∧ Hid (wr.ownsRow R 3 1 (.slice ad n cap) n (intsV ys)) ∧ Hid (Ext (fun b => (Value.slice ad n cap).ownBlock = some b) w2 wr)) (fun _ jj _ _ => n - (intOf jj).toNat)
  case atStart => exact ⟨i0, i0 + 1, ls, by omega, by omega, rfl, by go_num, qh ⟨HN.out.symm, HF0.out.symm, rfl⟩, HO2, qh (Ext.refl _ _)⟩
  case round =>
   obtain ⟨i, j, ys, hij, hj, rfl, rfl, HY, HOr, HE⟩ := hrel
   by_cases hlt : j < n
   ·have hji : (j : Int) < (n : Int) := by omega
    have hj0 : (0 : Int) ≤ (j : Int) := by omega
    have hjy : j < ys.length := by rw [HY.out.1]; exact hlt
    have hjl : j < ls.length := by rw [← HN.out]; exact hlt
    have hyj : ys[j] = ls[j] := by
     have h := HY.out.2.2
     rw [List.drop_eq_getElem_cons hjy, List.drop_eq_getElem_cons hjl] at h
     exact (List.cons.inj h).1
    obtain ⟨b2, o2, hab3, hc⟩ := own_row HOr.out j _ (intsV_get hjy)
    rw [hyj] at hc
    have HB := qh (HQ.out ls[j])
    have HFn : Hid ((ls.take (j + 1)).filter (fun x => !q x) = (ls.take j).filter (fun x => !q x) ++ (if q ls[j] = true then [] else [ls[j]])) := qh (by
     rw [List.take_succ_eq_append_getElem hjl, List.filter_append]
     congr 1
     cases h : q ls[j] <;> simp [h])
    obtain ⟨v, hv⟩ : ∃ z, z = ls[j] := ⟨_, rfl⟩
    rw [← hv] at hc HB HFn
    have HV := qh (hyj.trans hv.symm)
    subst hab3
    clear hyj hv
    cases hb : q v with
    | true =>
      have HB' := qh (hb ▸ HB.out)
      have HFx : Hid ((ls.take (j + 1)).filter (fun x => !q x) = (ls.take j).filter (fun x => !q x)) := qh (by rw [HFn.out, if_pos hb, List.append_nil])
      clear HB hb
      go_wp2_with fail
      refine (HB'.out wr).mono ?_
      rintro e w3 ⟨rfl, hP3⟩
      have HO3 := qh (own_ext HOr.out hP3 (fun _ _ => id))
      have HE3 := qh (HE.out.pure hP3)
      have HY3 : Hid (ys.length = n ∧ ys.take i = (ls.take (j + 1)).filter (fun x => !q x) ∧ ys.drop (j + 1) = ls.drop (j + 1)) := qh ⟨HY.out.1, by rw [HFx.out]; exact HY.out.2.1, by
       have h := HY.out.2.2
       rw [List.drop_eq_getElem_cons hjy, List.drop_eq_getElem_cons hjl] at h
       exact (List.cons.inj h).2⟩
      clear hP3
      go_wp2_with fail
      go_roundw
      case rel => exact ⟨i, j + 1, ys, by omega, by omega, rfl, by go_num, HY3, HO3, HE3⟩
      case measure => simp [intOf]; omega
    | false =>
      have HB' := qh (hb ▸ HB.out)
      have HFx : Hid ((ls.take (j + 1)).filter (fun x => !q x) = (ls.take j).filter (fun x => !q x) ++ [v]) := qh (by rw [HFn.out, if_neg (by rw [hb]; decide)])
      clear HB hb
      have hiin : (i : Int) < (n : Int) := by omega
      have hi0 : (0 : Int) ≤ (i : Int) := by omega
      go_wp2_with fail
      refine (HB'.out wr).mono ?_
      rintro e w3 ⟨rfl, hP3⟩
      have hO3 := own_ext HOr.out hP3 (fun _ _ => id)
      obtain ⟨gb, hgb, hgR, ⟨yo, hyo⟩, hfz, hset⟩ := own_set hO3 i (by omega) (.int .i64 v)
      cases hgb
      rw [intsV_set'] at hset
      have HSet := qh hset
      have HE3 : Hid (Ext (fun b => (Value.slice (some ⟨b2, 0, none⟩) n cap).ownBlock = some b) w2 (w3.setCell ⟨b2, i, none⟩ (.int .i64 v))) := qh ((HE.out.pure hP3).trans (Ext.setCell (S := fun b => b = b2) (Ext.refl _ _) (p := ⟨b2, i, none⟩) (fun _ => rfl) _) (fun b _ e => by rw [e]; rfl))
      have HY3 : Hid ((ys.set i v).length = n ∧ (ys.set i v).take (i + 1) = (ls.take (j + 1)).filter (fun x => !q x) ∧ (ys.set i v).drop (j + 1) = ls.drop (j + 1)) := qh ⟨by rw [List.length_set]; exact HY.out.1, by
       have hi2 : i < ys.length := by rw [HY.out.1]; omega
       rw [List.take_succ_eq_append_getElem (by rw [List.length_set]; exact hi2), List.getElem_set_self, List.take_set_of_le (Nat.le_refl _), HFx.out, HY.out.2.1], by
       have h := HY.out.2.2
       rw [List.drop_eq_getElem_cons hjy, List.drop_eq_getElem_cons hjl] at h
       rw [List.drop_set_of_lt (by omega)]
       exact (List.cons.inj h).2⟩
      clear hP3 hO3 hset hgR
      go_wp2_with fail
      go_roundw
      case rel => exact ⟨i + 1, j + 1, ys.set i v, by omega, by omega, by go_num, by go_num, HY3, HSet, HE3⟩
      case measure => simp [intOf]; omega
   ·have hji : ¬ (j : Int) < (n : Int) := by omega
    obtain rfl : j = n := by omega
    have HM : Hid (ys.take i = ls.filter (fun x => !q x)) := qh (by rw [HY.out.2.1, List.take_of_length_le (by rw [← HN.out]; exact Nat.le_refl _)])
    have HMl : Hid ((ls.filter (fun x => !q x)).length = i) := qh (by rw [← HM.out, List.length_take, HY.out.1]; omega)
    have hOr := HOr.out
    rcases hOr.2 with ⟨_, h0⟩ | ⟨gb, cp, cur, hv, hgR, hh, h1, h2, h3, h4⟩
    ·omega
    ·cases hv
     have hG : BlockIs wr gb cur.toList 3 := by unfold BlockIs; simpa using hh
     have HG := qh hG
     have hcl : cur.toList.length = cap := by rw [Array.length_toList, h3]; omega
     have HFit : Hid (i + (j - i) * (Value.int .i64 0).cells.size ≤ cur.toList.length) := qh (by rw [hcl]; show i + (j - i) * 1 ≤ cap; omega)
     have HTk : Hid (cur.toList.take i = intsV (ls.filter (fun x => !q x))) := qh (by
      rw [← HM.out, show intsV (ys.take i) = (intsV ys).take i by unfold intsV; rw [List.map_take], ← h4, List.take_take, Nat.min_eq_left (by omega)])
     have HCl := qh hcl
     have HGR := qh hgR
     have HCm := qh h2
     have hic : (i : Int) ≤ (j : Int) := by omega
     have hic2 : i ≤ cap := by omega
     have HIc := qh hic2
     clear hOr hG hcl h3 h4 hh hgR h2
     go_wp2_with (refine wpList_clear_big rfl (.tmp 38) 25 rfl 3 Tryz.underlying25 (.int .i64 0) zeroInt (fun u hu => by simp [Value.cells] at hu; subst hu; rfl) _ (j - i) _ rfl gb i cur.toList 3 HG.out (fun _ => rfl) HFit.out ?_; intro w5 cur5 hG5 hl5 ht5 hE5)
     have HFin : Hid (w5.ownsRow R 3 1 (.slice (some ⟨gb, 0, none⟩) i cap) i (intsV (ls.filter (fun x => !q x)))) := qh (own_take (n := 0) hG5 HGR.out (by rw [hl5]; exact HCl.out) HCm.out HIc.out (by rw [ht5]; exact HTk.out) HMl.out)
     have HEz : Hid (Ext (fun b => (Value.slice (some ⟨gb, 0, none⟩) j cap).ownBlock = some b) w w5) := qh ((HP.out.mono (fun _ _ e => e.elim)).trans (HE.out.trans hE5 (fun b _ e => by rw [e]; rfl)) (fun _ _ e => e))
     clear hG5 hl5 ht5 hE5
     go_wp2_with fail
     go_ret
     unfold DelTo
     rw [HMl.out, ← HN.out]
     exact ⟨rfl, HFin.out, HEz.out⟩
end Go.Proofs.YtipmbcalnnomjaaGreat
namespace Go.Proofs.YtipmbcalnnomjaaGreat
open Go.RowKit Go.Maps
def NumsOwn (S : List Int) (w : World) (e : Ending) (w' : World) : Prop :=
 ∃ a c, e = .returned (.slice a S.length c) ∧ w'.ownsRow w.heap.size 3 1 (.slice a S.length c) S.length (intsV S) ∧ Pure w w'
set_option maxHeartbeats 2000000 in
theorem refs_own (d : Nat) (v : V) (cs : List Value) (w : World) (h : Lies w d v cs) (hsz : v.size ≤ 100000) (hwf : ∀ x ∈ v.nums, (Lit.int .i64 x).wf = true) :
 Calls Tryz.prog 61 #[.agg cs.toArray] w (NumsOwn (v.more []) w) := by
 have h4 := h.len
 have hmm := @run_makeMap Tryz.prog
 obtain ⟨w1, hw1⟩ : ∃ z, z = w.alloc (.cells cs.toArray 48) := ⟨_, rfl⟩
 obtain ⟨w2, hw2⟩ : ∃ z, z = w1.alloc (.cells #[.slice none 0 0] 25) := ⟨_, rfl⟩
 obtain ⟨w3, hw3⟩ : ∃ z, z = w2.alloc (.map #[] 0) := ⟨_, rfl⟩
 obtain ⟨w4, hw4⟩ : ∃ z, z = w3.alloc (.cells #[.map (some (w.heap.size + 1 + 1))] 161) := ⟨_, rfl⟩
 have hs1 : w1.heap.size = w.heap.size + 1 := by rw [hw1, World.size_alloc]
 have hs2 : w2.heap.size = w.heap.size + 1 + 1 := by rw [hw2, World.size_alloc, hs1]
 have hs3 : w3.heap.size = w.heap.size + 1 + 1 + 1 := by rw [hw3, World.size_alloc, hs2]
 have hs4 : w4.heap.size = w.heap.size + 1 + 1 + 1 + 1 := by rw [hw4, World.size_alloc, hs3]
 have hP1 : Pure w w1 := hw1 ▸ ext_alloc w _
 have hP2 : Pure w1 w2 := hw2 ▸ ext_alloc w1 _
 have hP3 : Pure w2 w3 := hw3 ▸ ext_alloc w2 _
 have hP4 : Pure w3 w4 := hw4 ▸ ext_alloc w3 _
 have hB1 : BlockIs w1 w.heap.size cs 48 := hw1 ▸ BlockIs.new w _ _
 have hB2 : BlockIs w2 (w.heap.size + 1) [.slice none 0 0] 25 := by rw [← hs1, hw2]; exact BlockIs.new w1 _ _
 have hO3 : w3.ownsMap Tryz.prog 3 (plainElem (H := Unit) Tryz.prog 4) (w.heap.size + 1 + 1) 0 (.map []) := by rw [← hs2, hw3]; exact World.ownsMap_made _ _ _ _
 have hB4 : BlockIs w4 (w.heap.size + 1 + 1 + 1) [.map (some (w.heap.size + 1 + 1))] 161 := by rw [← hs3, hw4]; exact BlockIs.new w3 _ _
 have hP : Pure w w4 := ((hP1.pure hP2).pure hP3).pure hP4
 have hI : RefsI w v.nums (w.heap.size + 1 + 1 + 1) (w.heap.size + 1) (w.heap.size + 1 + 1) (w.heap.size + 1 + 1 + 1 + 1) ⟨[], none, 0, .map []⟩ w4 :=
  ⟨hP, hB4, (hB2.ext hP3 id).ext hP4 id, own_map_ext hO3 hP4 id, World.ownsRow_nil _ _ _ _, isMap_empty, fun x => by kernel_rfl, by rw [hs4]; exact Nat.le_refl _, List.nodup_nil, fun x hx => by cases hx⟩
 have hWk := see_walker (w0 := w) (L := v.nums) (tm := w.heap.size + 1 + 1 + 1) (ts := w.heap.size + 1) (B := w.heap.size + 1 + 1) (R := w.heap.size + 1 + 1 + 1 + 1) hwf (by rw [V.nums_len]; exact hsz) (by omega) (by omega) (by omega) ⟨by omega, by omega, by omega⟩ (by omega) (by omega) (by omega)
 have HC := qh (walk_ok (qh hWk) hWk.goes d v cs _ w4 h hsz (fun x hx => hx) hI)
 have HW : Hid ((((w.alloc (.cells cs.toArray 48)).alloc (.cells #[.slice none 0 0] 25)).alloc (.map #[] 0)).alloc (.cells #[.map (some (w.heap.size + 1 + 1))] 161) = w4) := qh (by rw [hw4, hw3, hw2, hw1])
 have hRv : ((((w.alloc (.cells cs.toArray 48)).alloc (.cells #[.slice none 0 0] 25)).alloc (.map #[] 0)).alloc (.cells #[.map (some (w.heap.size + 1 + 1))] 161)).rangeAt w.heap.size 0 cs := by
  rw [HW.out]; exact (((hB1.ext hP2 id).ext hP3 id).ext hP4 id).range
 have HP := qh hP
 clear hw1 hw2 hw3 hw4 hs1 hs2 hs3 hs4 hP1 hP2 hP3 hP4 hB1 hB2 hO3 hB4 hP hI hWk hwf h
 go_enter Tryz.func61, Tryz.ntmps61
 go_wp2_with (refine wpList_load_mid rfl 48 (.tmp 1) rfl w.heap.size 0 rfl cs _ hRv Tryz.underlying48 rfl (by rw [h4]; kernel_rfl) ?_)
 rw [HW.out]
 refine HC.out.mono ?_
 rintro e w5 ⟨γ, rfl, hv, hst⟩
 have hv2 : γ.S = v.more [] := by rw [hv]; exact congrArg Prod.fst (V.walk_more v [])
 have c3 : w5.cell? ⟨w.heap.size + 1, 0, none⟩ = some (.slice γ.a γ.S.length γ.c) := hst.inv.sl.cell 0
 have HRow := qh hst.inv.row
 have HBs := qh hst.inv.base
 have HV := qh hv2
 obtain ⟨n, hn⟩ : ∃ z, z = γ.S.length := ⟨_, rfl⟩
 rw [← hn] at c3
 have HN := qh hn
 clear hv hv2 hst hn HC
 go_wp2_with fail
 go_ret
 have hr := HRow.out
 rw [← HN.out] at hr
 have e : (v.more []).length = n := by rw [← HV.out, HN.out]
 rw [HV.out] at hr
 refine ⟨γ.a, γ.c, by rw [e]; rfl, ?_, HBs.out⟩
 rw [e]
 exact own_base hr (by omega)
def outB (x : Int) : Bool := decide (x < 1) || decide (4096 < x)
set_option maxHeartbeats 1000000 in
theorem next1_any (x : Int) (W : World) : Calls Tryz.prog 106 (#[.int .i64 x] ++ #[]) W (BoolTo (outB x) W) := by
 obtain ⟨F, hF⟩ : ∃ z, z = outB x := ⟨_, rfl⟩
 rw [← hF]
 unfold outB at hF
 have HF := qh hF
 clear hF
 show Calls Tryz.prog 106 #[.int .i64 x] W (BoolTo F W)
 by_cases h1 : x < 1
 ·have hd : decide (x < 1) = true := decide_eq_true h1
  have HFr : Hid (F = true) := qh (by rw [HF.out, hd]; rfl)
  go_enter Tryz.func106, Tryz.ntmps106
  go_wp2_with fail
  go_ret
  exact ⟨by rw [HFr.out]; first | rfl | simp [hd], Ext.refl _ _⟩
 ·have hd : decide (x < 1) = false := decide_eq_false h1
  by_cases h2 : (4096 : Int) < x
  ·have hd2 : decide ((4096 : Int) < x) = true := decide_eq_true h2
   have HFr : Hid (F = true) := qh (by rw [HF.out, hd, hd2]; rfl)
   go_enter Tryz.func106, Tryz.ntmps106
   go_wp2_with fail
   go_ret
   exact ⟨by rw [HFr.out]; first | rfl | simp [hd, hd2], Ext.refl _ _⟩
  ·have hd2 : decide ((4096 : Int) < x) = false := decide_eq_false h2
   have HFr : Hid (F = false) := qh (by rw [HF.out, hd, hd2]; rfl)
   go_enter Tryz.func106, Tryz.ntmps106
   go_wp2_with fail
   go_ret
   exact ⟨by rw [HFr.out]; first | rfl | simp [hd, hd2], Ext.refl _ _⟩
theorem next1_goes : ∀ args w, (callFunc 106 args).run Tryz.prog w = .ok (.enter 106 args) w := by intro args w; rfl
theorem nextR_eq (v : V) : (v.more []).filter (fun x => !outB x) = nextR v := by
 unfold nextR outB
 congr 1
 funext x
 by_cases h1 : x < 1
 ·simp [h1] <;> omega
 ·by_cases h2 : (4096 : Int) < x
  ·simp [h1, h2] <;> omega
  ·simp [h1, h2] <;> omega
set_option maxHeartbeats 1000000 in
theorem next_any (d : Nat) (v : V) (cs : List Value) (w : World) (h : Lies w (d + 1) v cs) (hsz : v.size ≤ 100000) (hwf : ∀ x ∈ v.nums, (Lit.int .i64 x).wf = true) :
 Calls Tryz.prog 80 #[.agg cs.toArray] w (NumsOwn (nextR v) w) := by
 have HRf := qh (fun W (hP : Pure w W) => refs_own (d + 1) v cs W (h.pure hP) hsz hwf)
 have HLn : Hid ((v.more []).length ≤ 1000000) := qh (by have := V.more_len v []; simp at this; omega)
 have HNe := qh (nextR_eq v)
 obtain ⟨va, vc, vrows, hcs, _⟩ := h.kids
 unfold NumsOwn at HRf
 rw [hcs] at HRf ⊢
 clear h hsz hwf hcs
 generalize v.l.length = vm at *
 generalize v.kind = vk at *
 generalize v.n = vn at *
 generalize v.s = vs at *
 obtain ⟨M, hM⟩ : ∃ z, z = v.more [] := ⟨_, rfl⟩
 rw [← hM] at HRf HLn HNe
 clear hM
 go_enter Tryz.func80, Tryz.ntmps80
 go_wp2_with fail
 refine (HRf.out _ (ext_alloc w _)).mono ?_
 rintro e w2 ⟨a, c, rfl, hO, hP⟩
 have HO := qh (own_base hO (B' := w.heap.size) (by rw [World.size_alloc]; omega))
 have HP := qh ((ext_alloc w (.cells #[.int .i64 vk, .int .i64 vn, .string vs, .slice va vm vc] 48)).pure hP)
 have HDl := qh (delfn_any w.heap.size 106 #[] outB a c M w2 HO.out HLn.out (qh next1_any) next1_goes)
 obtain ⟨mn, hmn⟩ : ∃ z, z = M.length := ⟨_, rfl⟩
 rw [← hmn] at HDl ⊢
 have HMn := qh hmn
 clear hO hP hmn HRf
 unfold DelTo at HDl
 go_wp2_with fail
 refine HDl.out.mono ?_
 rintro e w3 ⟨rfl, hO3, hE3⟩
 rw [HNe.out] at hO3 ⊢
 have HO3 := qh hO3
 have HP3 : Hid (Pure w w3) := qh (HP.out.trans hE3 (fun b hb e => by
  rw [← HMn.out] at e
  have h1 := HO.out.lt b (by rw [← HMn.out]; exact e)
  omega))
 obtain ⟨k, hk⟩ : ∃ z, z = (nextR v).length := ⟨_, rfl⟩
 rw [← hk]
 have HK := qh hk
 clear hO3 hE3 hk HDl
 go_wp2_with fail
 go_ret
 exact ⟨a, c, by rw [← HK.out]; rfl, HO3.out, HP3.out⟩
theorem nextR_wf {v : V} : ∀ y ∈ nextR v, (Lit.int .i64 y).wf = true := by
 intro y hy
 unfold nextR at hy
 have h := of_decide_eq_true (List.mem_filter.1 hy).2
 unfold Lit.wf
 simp [IntKind.min, IntKind.max, IntKind.bits, IntKind.signed]
 omega
theorem nextR_len (v : V) : (nextR v).length ≤ v.size := by
 unfold nextR
 have h1 := List.length_filter_le (fun x => decide (1 ≤ x ∧ x ≤ 4096)) (v.more [])
 have h2 := V.more_len v []
 simp at h2
 omega
theorem row_empty {W : World} {rb B R0 : Nat} (hB : BlockIs W rb [.slice none 0 0, .map (some B)] 142) (hO : W.ownsMap Tryz.prog 3 (plainElem (H := Unit) Tryz.prog 3) B 0 (.map [])) (hR : R0 ≤ W.heap.size) (hlo : rb < R0 ∧ B < R0 ∧ rb ≠ B) : RowI rb B R0 [] none 0 (.map []) W :=
 ⟨hB, World.ownsRow_nil _ _ _ _, hO, isMap_empty, fun x => by simp [has_eq], hR, hlo⟩
set_option maxHeartbeats 4000000 in
theorem firstr_any (d e0 : Nat) (v : V) (vcs : List Value) (g : V) (gcs : List Value) (w : World) (hv : Lies w (d + 1) v vcs) (hg : Lies w (e0 + 1) g gcs) (hvz : v.size ≤ 100000) (hvw : v.wf) (hgz : g.size ≤ 100000) (hgw : g.wf) :
 Calls Tryz.prog 79 #[.agg vcs.toArray, .agg gcs.toArray] w (NumsOwn (firstR v g) w) := by
 have hmm := @run_makeMap Tryz.prog
 have hk : (⟨#[80, 97, 114, 101, 110, 116]⟩ : ByteArray) = "Parent".toUTF8 := k_parent
 obtain ⟨va, vc, vrows, hvc, _⟩ := hv.kids
 obtain ⟨ga, gc, grows, hgc, _⟩ := hg.kids
 obtain ⟨w1, hw1⟩ : ∃ z, z = w.alloc (.cells vcs.toArray 48) := ⟨_, rfl⟩
 obtain ⟨w2, hw2⟩ : ∃ z, z = w1.alloc (.cells gcs.toArray 48) := ⟨_, rfl⟩
 obtain ⟨w3, hw3⟩ : ∃ z, z = w2.alloc (.map #[] 0) := ⟨_, rfl⟩
 obtain ⟨w4, hw4⟩ : ∃ z, z = w3.alloc (.cells #[.slice none 0 0, .map (some (w.heap.size + 1 + 1))] 142) := ⟨_, rfl⟩
 obtain ⟨tb, htb⟩ : ∃ z, z = w.heap.size := ⟨_, rfl⟩
 have hs1 : w1.heap.size = tb + 1 := by rw [hw1, World.size_alloc, htb]
 have hs2 : w2.heap.size = tb + 1 + 1 := by rw [hw2, World.size_alloc, hs1]
 have hs3 : w3.heap.size = tb + 1 + 1 + 1 := by rw [hw3, World.size_alloc, hs2]
 have hs4 : w4.heap.size = tb + 1 + 1 + 1 + 1 := by rw [hw4, World.size_alloc, hs3]
 have hP1 : Pure w w1 := hw1 ▸ ext_alloc w _
 have hP2 : Pure w1 w2 := hw2 ▸ ext_alloc w1 _
 have hP3 : Pure w2 w3 := hw3 ▸ ext_alloc w2 _
 have hP4 : Pure w3 w4 := hw4 ▸ ext_alloc w3 _
 have hBv : BlockIs w4 tb vcs 48 := (((show BlockIs w1 tb vcs 48 by rw [hw1, htb]; exact BlockIs.new w _ _).ext hP2 id).ext hP3 id).ext hP4 id
 have hBg : BlockIs w4 (tb + 1) gcs 48 := ((show BlockIs w2 (tb + 1) gcs 48 by rw [← hs1, hw2]; exact BlockIs.new w1 _ _).ext hP3 id).ext hP4 id
 have hO3 : w3.ownsMap Tryz.prog 3 (plainElem (H := Unit) Tryz.prog 3) (tb + 1 + 1) 0 (.map []) := by rw [← hs2, hw3]; exact World.ownsMap_made _ _ _ _
 have hBr : BlockIs w4 (tb + 1 + 1 + 1) [.slice none 0 0, .map (some (tb + 1 + 1))] 142 := by rw [hw4, ← hs3, htb]; exact BlockIs.new w3 [.slice none 0 0, .map (some (w.heap.size + 1 + 1))] _
 have HP := qh (show Pure w w4 from ((hP1.pure hP2).pure hP3).pure hP4)
 have HI := qh (row_empty (R0 := tb + 1 + 1 + 1 + 1) hBr (own_map_ext hO3 hP4 id) (by omega) ⟨by omega, by omega, by omega⟩)
 have HW : Hid ((((w.alloc (.cells vcs.toArray 48)).alloc (.cells gcs.toArray 48)).alloc (.map #[] 0)).alloc (.cells #[.slice none 0 0, .map (some (w.heap.size + 1 + 1))] 142) = w4) := qh (by rw [hw4, hw3, hw2, hw1])
 have HTb := qh htb
 have HDr := qh (fun W (hP : Pure w W) => drop_top W d v vcs "Parent".toUTF8 W (Ext.refl _ _) (hv.pure hP).top (by have := V.len_size v; omega))
 have HNv := qh (fun cs W (hL : Lies W (d + 1) (v.dropped "Parent".toUTF8) cs) => next_any d (v.dropped "Parent".toUTF8) cs W hL (Nat.le_trans (dropped_size v _) hvz) (dropped_wf hvw _))
 have HNg := qh (fun W (hP : Pure w W) => next_any e0 g gcs W (hg.pure hP) hgz hgw)
 have HSv := qh (Nat.le_trans (nextR_len (v.dropped "Parent".toUTF8)) (Nat.le_trans (dropped_size v _) hvz))
 have HSg := qh (Nat.le_trans (nextR_len g) hgz)
 have HFi : Hid (firstR v g = onP (onP [] (nextR (v.dropped "Parent".toUTF8))) (nextR g)) := qh rfl
 rw [← hk] at HDr HNv HSv HFi
 have HBv := qh hBv
 have HBg := qh hBg
 rw [hvc] at HBv HDr
 rw [hgc] at HBg HNg
 rw [hvc, hgc] at HW ⊢
 unfold ValTop at HDr
 unfold NumsOwn at HNv HNg
 clear hw1 hw2 hw3 hw4 htb hs1 hs2 hs3 hs4 hP1 hP2 hP3 hP4 hBv hBg hO3 hBr hv hg hvz hvw hgz hgw hk hvc hgc
 generalize v.l.length = vm at *
 generalize v.kind = vk at *
 generalize v.n = vn at *
 generalize v.s = vs at *
 generalize g.l.length = gm at *
 generalize g.kind = gk at *
 generalize g.n = gn at *
 generalize g.s = gs at *
 go_enter Tryz.func79, Tryz.ntmps79
 go_upto_region 2 with (fail)
 rw [HW.out, ← HTb.out]
 have v0 : w4.cell? ⟨tb, 0, none⟩ = some (.int .i64 vk) := HBv.out.cell 0
 have v1 : w4.cell? ⟨tb, 1, none⟩ = some (.int .i64 vn) := HBv.out.cell 1
 have v2 : w4.cell? ⟨tb, 2, none⟩ = some (.string vs) := HBv.out.cell 2
 have v3 : w4.cell? ⟨tb, 3, none⟩ = some (.slice va vm vc) := HBv.out.cell 3
 go_wp2_with fail
 refine (HDr.out w4 HP.out).mono ?_
 rintro e W5 ⟨cs5, rfl, hT5, hP5, hO5⟩
 have HN5 := qh (HNv.out cs5 W5 (hT5.lies hP5))
 obtain ⟨ca, cc, cxs, hcc, _⟩ := hT5.parts
 rw [hcc] at HN5 ⊢
 have HP5 := qh hP5
 obtain ⟨dv, hdv⟩ : ∃ z, z = v.dropped ⟨#[80, 97, 114, 101, 110, 116]⟩ := ⟨_, rfl⟩
 rw [← hdv] at HN5 HSv HFi ⊢
 clear hT5 hP5 hO5 hcc hdv HDr HNv v0 v1 v2 v3
 generalize dv.l.length = dm at *
 generalize dv.kind = dk at *
 generalize dv.n = dn at *
 generalize dv.s = ds at *
 go_wp2_with fail
 refine HN5.out.mono ?_
 rintro e W6 ⟨la, lc, rfl, hO6, hP6⟩
 have HP6 := qh (HP5.out.pure hP6)
 have HI6 := qh (HI.out.pure HP6.out)
 have hlt4 := HI.out.rs
 have hput := rowput_any HI6.out (nextR dv) la lc (own_row hO6) (fun x hx hs => by
  have h1 := (hO6.lt x.block (by rw [hx]; rfl)).1
  have h2 := HP5.out.size
  rcases hs with e | e | ⟨y, hy, _⟩
  ·omega
  ·omega
  ·cases hy) nextR_wf (by have := HSv.out; simp only [List.length_nil]; omega)
 have HPut := qh hput
 obtain ⟨ln, hln⟩ : ∃ z, z = (nextR dv).length := ⟨_, rfl⟩
 rw [← hln] at HPut ⊢
 have HLn := qh hln
 unfold PutTo at HPut
 clear hO6 hP6 hlt4 hput hln HN5
 go_wp2_with fail
 refine HPut.out.mono ?_
 rintro e W7 ⟨rfl, a7, c7, D7, hI7, hE7, hf7⟩
 have HI7 := qh hI7
 have HP7 : Hid (Pure w W7) := qh ((HP.out.pure HP6.out).trans hE7 (fun b hb e => by
  have h1 := HTb.out
  rcases e with e | e | ⟨y, hy, _⟩
  ·omega
  ·omega
  ·cases hy))
 have HF7 : Hid (∀ x, a7 = some x → tb + 1 + 1 + 1 + 1 ≤ x.block ∧ x.block < W7.heap.size) := qh (fun x hx => hI7.row.lt x.block (by rw [hx]; rfl))
 have hg7 := (HBg.out.ext HP6.out id).ext hE7 (fun e => by
  rcases e with e | e | ⟨y, hy, _⟩
  ·omega
  ·omega
  ·cases hy)
 have g0 : W7.cell? ⟨tb + 1, 0, none⟩ = some (.int .i64 gk) := hg7.cell 0
 have g1 : W7.cell? ⟨tb + 1, 1, none⟩ = some (.int .i64 gn) := hg7.cell 1
 have g2 : W7.cell? ⟨tb + 1, 2, none⟩ = some (.string gs) := hg7.cell 2
 have g3 : W7.cell? ⟨tb + 1, 3, none⟩ = some (.slice ga gm gc) := hg7.cell 3
 clear hI7 hE7 hf7 hg7 HPut
 go_wp2_with fail
 refine (HNg.out W7 HP7.out).mono ?_
 rintro e W8 ⟨lb, lc8, rfl, hO8, hP8⟩
 have HP8 := qh (HP7.out.pure hP8)
 have HI8 := qh (HI7.out.pure hP8)
 have hput := rowput_any HI8.out (nextR g) lb lc8 (own_row hO8) (fun x hx hs => by
  have h1 := (hO8.lt x.block (by rw [hx]; rfl)).1
  have h2 := HI7.out.rs
  rcases hs with e | e | ⟨y, hy, e⟩
  ·omega
  ·omega
  ·have := (HF7.out y hy).2
   omega) nextR_wf (by
  have h1 := HSv.out
  have h2 := HSg.out
  have h3 := onP_len [] (nextR dv)
  simp only [List.length_nil] at h3
  omega)
 have HPut := qh hput
 obtain ⟨kn, hkn⟩ : ∃ z, z = (nextR g).length := ⟨_, rfl⟩
 rw [← hkn] at HPut ⊢
 unfold PutTo at HPut
 rw [← HFi.out] at HPut
 clear hO8 hP8 hput hkn HNg g0 g1 g2 g3
 go_wp2_with fail
 refine HPut.out.mono ?_
 rintro e W9 ⟨rfl, a9, c9, D9, hI9, hE9, hf9⟩
 have HI9 := qh hI9
 have HP9 : Hid (Pure w W9) := qh (HP8.out.trans hE9 (fun b hb e => by
  have h1 := HTb.out
  rcases e with e | e | ⟨y, hy, e⟩
  ·omega
  ·omega
  ·have := (HF7.out y hy).1
   omega))
 have r0 : W9.cell? ⟨tb + 1 + 1 + 1, 0, none⟩ = some (.slice a9 (firstR v g).length c9) := hI9.blk.cell 0
 obtain ⟨fn, hfn⟩ : ∃ z, z = (firstR v g).length := ⟨_, rfl⟩
 rw [← hfn] at r0
 have HFn := qh hfn
 clear hI9 hE9 hf9 hfn HPut
 go_wp2_with fail
 go_ret
 exact ⟨a9, c9, by rw [← HFn.out]; rfl, own_base HI9.out.row (by have := HTb.out; omega), HP9.out⟩
