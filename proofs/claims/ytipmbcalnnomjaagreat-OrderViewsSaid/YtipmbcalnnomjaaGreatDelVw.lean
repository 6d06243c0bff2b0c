import Derived.Test.YtipmbcalnnomjaaGreatValCmpVw
import Derived.Test.YtipmbcalnnomjaaGreatSlxVw
import Derived.Deep.RegionLaw
import Derived.OwnWalk
import Derived.Test.YtipmbcalnnomjaaGreatRegListVw
import Derived.Test.YtipmbcalnnomjaaGreatSqVw
set_option linter.unusedVariables false
set_option linter.unusedSimpArgs false
set_option maxRecDepth 100000
namespace Go.Proofs.YtipmbcalnnomjaaGreat
open Go.RowKit
theorem info24 : (Tryz.prog.info? 48).map (fun i => (i.zero, i.size, i.bytes)) = some (some (.agg #[.int .i64 0, .int .i64 0, .string ⟨#[]⟩, .slice none 0 0]), 4, 56) := by kernel_rfl
def OwnTo (B n : Nat) (xs : List Value) (T : Nat → Prop) (w : World) (e : Ending) (w' : World) : Prop :=
 ∃ (a : Option Addr) (c : Nat), e = .returned (.slice a n c) ∧ w'.ownsRow B 48 4 (.slice a n c) n xs ∧ Ext T w w'
set_option maxHeartbeats 1000000 in
theorem clone_any (a : Option Addr) (n c : Nat) (cs : List Value) (w : World) (hl : cs.length = n * 4) (hr : RowOf w a cs) (hnil : a = none → n = 0 ∧ c = 0) (hn : n ≤ 100000) (h1 : ∀ u ∈ cs, u.oneCell' = true) :
 Calls Tryz.prog 99 #[.slice a n c] w (OwnTo w.heap.size n cs (fun _ => False) w) := by
 have he := eql_nil Tryz.underlying46
 cases a with
 | none =>
   obtain ⟨rfl, rfl⟩ := hnil rfl
   obtain rfl : cs = [] := by simpa using hl
   go_enter Tryz.func99, Tryz.ntmps99
   go_wp2_with fail
   go_ret
   exact ⟨none, 0, rfl, ⟨rfl, Or.inl ⟨rfl, rfl⟩⟩, Ext.refl _ _⟩
 | some ad =>
   have HR := qh hr
   have HL := qh hl
   have H1 := qh h1
   clear hr hl h1 hnil
   go_enter Tryz.func99, Tryz.ntmps99
   go_wp2_with (at_builtin; refine wpList_append_any rfl (.tmp 5) (.tmp 6) 46 rfl w.heap.size 48 (.agg #[.int .i64 0, .int .i64 0, .string ⟨#[]⟩, .slice none 0 0]) 4 56 Tryz.underlying46 info24 rfl (by decide) (.slice (some ⟨w.heap.size, 0, none⟩) 0 0) 0 [] rfl (own_new (cs := []) rfl (Nat.zero_le _) _ (Nat.le_refl _)) (some ad) n c cs rfl (fun e => by cases e) HL.out (HR.out.ext (ext_alloc w _) (fun _ _ => id)) H1.out n (Nat.zero_add n) cs rfl (by omega) (by unfold maxLen; omega) (ext_alloc w _).size ?_)
   intro a' c' w' hO hg
   have hE : Ext (fun _ => False) w w' := (ext_alloc w (.cells #[] 48)).trans (ext_of_grown hg) (fun i hi e => by cases e; exact absurd hi (Nat.lt_irrefl _))
   have HO := qh hO
   clear hO hg
   go_wp2_with fail
   go_ret
   exact ⟨a', c', rfl, HO.out, hE⟩
theorem own_cut {w : World} {B e n c : Nat} {a : Option Addr} {xs : List Value} (h : w.ownsRow B e 4 (.slice a n c) n xs) (i : Nat) (hi : i ≤ n) (ha : a ≠ none) : w.ownsRow B e 4 (.slice a i c) i (xs.take (i * 4)) := by
 refine ⟨by rw [List.length_take, h.1]; omega, ?_⟩
 rcases h.2 with ⟨hv, rfl⟩ | ⟨g, cap, cur, hv, hg, hh, h1, h2, h3, h4⟩
 ·cases hv; exact absurd rfl ha
 ·cases hv
  exact Or.inr ⟨g, c, cur, rfl, hg, hh, by omega, h2, h3, by rw [← h4, List.take_take, Nat.min_eq_left (by omega)]⟩
set_option maxHeartbeats 2000000 in
theorem insert_end (B : Nat) (a : Option Addr) (n c : Nat) (xs : List Value) (vb m : Nat) (news : List Value) (w : World) (hO : w.ownsRow B 48 4 (.slice a n c) n xs) (hV : BlockIs w vb news 48) (hnl : news.length = m * 4) (hm : 0 < m) (hm2 : m ≤ 2) (hn : n ≤ 100000) (hB : B ≤ w.heap.size) (h1 : ∀ u ∈ news, u.oneCell' = true) :
 Calls Tryz.prog 131 #[.slice a n c, .int .i64 n, .slice (some ⟨vb, 0, none⟩) m m] w (OwnTo B (n + m) (xs ++ news) (fun k => (Value.slice a n c).ownBlock = some k) w) := by
 obtain ⟨a0, c0, he, hnc, hcm, hnil, _⟩ := own_form hO
 cases he
 have HO := qh hO
 have hR : RowOf w (some ⟨vb, 0, none⟩) news := fun i u hu => ⟨vb, 0, rfl, by rw [Nat.zero_add, hV.cell, hu]⟩
 have HR := qh hR
 have HL := qh hnl
 have H1 := qh h1
 have hm0 : ¬ (m : Int) = 0 := by omega
 have hm0' : ((m : Int) == 0) = false := by simp; omega
 unfold maxLen at hcm
 clear hO hV hR hnl h1
 have hin : (n : Int) ≤ n := Int.le_refl _
 go_enter Tryz.func131, Tryz.ntmps131
 go_wp2_with (at_builtin; refine wpList_append_any rfl (.tmp 23) (.tmp 24) 46 rfl B 48 (.agg #[.int .i64 0, .int .i64 0, .string ⟨#[]⟩, .slice none 0 0]) 4 56 Tryz.underlying46 info24 rfl (by decide) _ n xs rfl HO.out (some ⟨vb, 0, none⟩) m m news rfl (fun e => by cases e) HL.out HR.out H1.out (n + m) rfl (xs ++ news) rfl (by omega) (by unfold maxLen; omega) hB ?_)
 all_goals
  intro a' c' w' hO' hg
  have hE := qh (ext_of_grown hg)
  have HO' := qh hO'
  clear hO' hg
  go_wp2_with fail
  go_ret
  exact ⟨a', c', rfl, HO'.out, by first | exact hE.out | (cases a <;> exact hE.out)⟩
theorem take3 {α : Type} {A N D R : List α} {k : Nat} (h : A.length + N.length + D.length = k) : (A ++ (N ++ (D ++ R))).take k = A ++ (N ++ D) := by
 have e : A ++ (N ++ (D ++ R)) = (A ++ (N ++ D)) ++ R := by simp
 rw [e, List.take_left' (by simp; omega)]
theorem splice_ins {α : Type} {cur xs news : List α} {n i m : Nat} (hx : cur.take (n * 4) = xs) (hi : i ≤ n) (hnl : news.length = m * 4) (hl : (n + m) * 4 ≤ cur.length) :
 (splice (splice cur ((i + m) * 4) (xs.drop (i * 4))) (i * 4) news).take ((n + m) * 4) = xs.take (i * 4) ++ (news ++ xs.drop (i * 4)) := by
 have hxl : xs.length = n * 4 := by rw [← hx, List.length_take]; omega
 have hd : (xs.drop (i * 4)).length = (n - i) * 4 := by rw [List.length_drop, hxl]; omega
 have e1 : (splice cur ((i + m) * 4) (xs.drop (i * 4))).take (i * 4) = xs.take (i * 4) := by
  rw [splice, List.take_append_of_le_length (by rw [List.length_take]; omega), List.take_take, ← hx, List.take_take, Nat.min_eq_left (by omega), Nat.min_eq_left (by omega)]
 have e2 : (splice cur ((i + m) * 4) (xs.drop (i * 4))).drop (i * 4 + news.length) = xs.drop (i * 4) ++ cur.drop ((i + m) * 4 + (xs.drop (i * 4)).length) := by
  rw [splice, List.drop_left' (by rw [List.length_take]; omega)]
 generalize splice cur ((i + m) * 4) (xs.drop (i * 4)) = L at *
 rw [splice, e1, e2, take3]
 rw [hd, hnl, List.length_take]; omega
theorem splice_ins2 {α : Type} {xs rest news : List α} {n i m : Nat} (hxl : xs.length = n * 4) (hi : i ≤ n) (hnl : news.length = m * 4) (hl : (n + m) * 4 ≤ (xs.take (i * 4) ++ rest).length) :
 (splice (splice (xs.take (i * 4) ++ rest) (i * 4) news) ((i + m) * 4) (xs.drop (i * 4))).take ((n + m) * 4) = xs.take (i * 4) ++ (news ++ xs.drop (i * 4)) := by
 have hd : (xs.drop (i * 4)).length = (n - i) * 4 := by rw [List.length_drop, hxl]; omega
 have ht : (xs.take (i * 4)).length = i * 4 := by rw [List.length_take]; omega
 have e1 : (splice (xs.take (i * 4) ++ rest) (i * 4) news).take ((i + m) * 4) = xs.take (i * 4) ++ news := by
  rw [splice, List.take_left' ht, ← List.append_assoc, List.take_left' (by simp only [List.length_append, ht, hnl]; omega)]
 generalize splice (xs.take (i * 4) ++ rest) (i * 4) news = L at *
 rw [splice, e1, List.append_assoc, take3]
 rw [hd, hnl, ht]; omega
theorem run59 {w : World} (a b : Addr) (la ca lb cb : Nat) (hne : a.block ≠ b.block) {tA tB : TypeId} {curA curB : List Value} (hA : BlockIs w a.block curA tA) (hB : BlockIs w b.block curB tB) (hkB : curB.length ≠ 0) (has : a.spot = none) :
 (callFunc 150 #[.slice (some a) la ca, .slice (some b) lb cb]).run Tryz.prog w = .ok (.value (.bool false)) w := by
 rw [run_callFunc_extern Tryz.func150 (by kernel_rfl) (by kernel_rfl) (by kernel_rfl) (e := Extern.SlicesOverlaps.overlaps #[46, 46] #[4]) (by kernel_rfl),
  run_overlaps_rows Tryz.underlying46 4 (fun w => by kernel_rfl) a b la ca lb cb hne hA hB hkB has]
 rfl
set_option maxHeartbeats 2000000 in
theorem insert_room (B g n c i : Nat) (cur : List Value) (vb m : Nat) (news : List Value) (w : World) (hG : BlockIs w g cur 48) (hcl : cur.length = c * 4) (hnc : n + m ≤ c) (hcm : c ≤ maxLen) (hV : BlockIs w vb news 48) (hne : vb ≠ g) (hnl : news.length = m * 4) (hm : 0 < m) (hm2 : m ≤ 2) (hn : n ≤ 100000) (hi : i < n) (hB : B ≤ g) (h1 : ∀ u ∈ news, u.oneCell' = true) (h2 : ∀ u ∈ cur.take (n * 4), u.oneCell' = true) :
 Calls Tryz.prog 131 #[.slice (some ⟨g, 0, none⟩) n c, .int .i64 i, .slice (some ⟨vb, 0, none⟩) m m] w (OwnTo B (n + m) ((cur.take (n * 4)).take (i * 4) ++ (news ++ (cur.take (n * 4)).drop (i * 4))) (fun k => k = g) w) := by
 obtain ⟨xs, hx⟩ : ∃ xs, xs = cur.take (n * 4) := ⟨_, rfl⟩
 rw [← hx] at h2 ⊢
 have hxl : xs.length = n * 4 := by rw [hx, List.length_take]; omega
 have hsp := splice_ins (cur := cur) (n := n) (i := i) (m := m) hx.symm (by omega) hnl (by omega)
 have h59 := fun (lb cb : Nat) => run59 (w := w) ⟨vb, 0, none⟩ ⟨g, (i + m) * 4, none⟩ m m lb cb hne hV hG (by omega) rfl
 have hdl : (xs.drop (i * 4)).length = (n - i) * 4 := by rw [List.length_drop, hxl]; omega
 have hw1 : IntKind.i64.wrap ((i : Int) + (m : Int)) = (i : Int) + (m : Int) := by rw [IntKind.wrap_i64]; omega
 have hb1 : (0 : Int) ≤ (i : Int) + (m : Int) := by omega
 have htn : ((i : Int) + (m : Int)).toNat = i + m := by omega
 have hb2 : ¬ (c = i + m) := by omega
 have hb3 : (i : Int) ≤ (n : Int) + (m : Int) := by omega
 have hb4 : ¬ (c = i) := by omega
 have hz1 : ¬ ((m : Int) = 0) := by omega
 have hz2 : ¬ ((i : Int) = (n : Int)) := by omega
 have hin : i ≤ n := by omega
 have hR : RowOf w (some ⟨vb, 0, none⟩) news := fun i u hu => ⟨vb, 0, rfl, by rw [Nat.zero_add, hV.cell, hu]⟩
 have HA1 : Hid ((xs.drop (i * 4)).length = Nat.min (n + m - i) (n + m - (i + m)) * 4) := qh (by rw [hdl]; simp only [Nat.min_def]; split <;> omega)
 have HA2 : Hid (RowOf w.drew (some ⟨g, i * 4, none⟩) (xs.drop (i * 4))) := qh (fun j u hu => ⟨g, i * 4, rfl, by
  rw [hG.drew.cell]
  rw [List.getElem?_drop, hx, List.getElem?_take] at hu
  split at hu
  ·exact hu
  ·cases hu⟩)
 have HA3 : Hid ((i + m) * 4 + (xs.drop (i * 4)).length ≤ cur.length) := qh (by rw [hdl]; omega)
 have HA4 : Hid (∀ v ∈ xs.drop (i * 4), v.oneCell' = true) := qh (fun v hv => h2 v (List.mem_of_mem_drop hv))
 have HL1 : Hid ((splice cur ((i + m) * 4) (xs.drop (i * 4))).length = cur.length) := qh (length_splice _ _ _ HA3.out)
 have HB1 : Hid (news.length = Nat.min m (n + m - i) * 4) := qh (by rw [hnl]; simp only [Nat.min_def]; split <;> omega)
 have HB4 := qh h1
 have HX := qh hx
 have HNL := qh hnl
 have HXL := qh hxl
 have HCL := qh hcl
 have HSP := qh hsp
 unfold maxLen at hcm
 clear h1 h2 hx hnl hxl hcl hsp hdl
 go_enter Tryz.func131, Tryz.ntmps131
 go_wp2_with (simp only [h59])
 refine region_start (fun k => k = g) (by kernel_rfl) ?_
 try simp only [Act.put, sA, sZ, sS]
 refine region_take 0 69 (v := ?vca0) rfl rfl (by kernel_rfl) (by kernel_rfl) (by kernel_rfl) (fun _ _ _ h => h) (by rfl) (fun w' hS => ?hca0) ?rca0
 case hca0 => go_simp; with_reducible rfl
 try simp only [Act.put, sA, sZ, sS]
 refine region_take 1 70 (v := ?vca1) rfl rfl (by kernel_rfl) (by kernel_rfl) (by kernel_rfl) (fun _ _ _ h => h) (by rfl) (fun w' hS => ?hca1) ?rca1
 case hca1 => go_simp; with_reducible rfl
 try simp only [Act.put, sA, sZ, sS]
 refine region_take 2 71 (v := ?vca2) rfl rfl (by kernel_rfl) (by kernel_rfl) (by kernel_rfl) (fun _ _ _ h => h) (by rfl) (fun w' hS => ?hca2) ?rca2
 case hca2 => go_simp; with_reducible rfl
 try simp only [Act.put, sA, sZ, sS]
 refine region_take 3 72 (v := ?vca3) rfl rfl (by kernel_rfl) (by kernel_rfl) (by kernel_rfl) (fun _ _ _ h => h) (by rfl) (fun w' hS => ?hca3) ?rca3
 case hca3 => go_simp; with_reducible rfl
 try simp only [Act.put, sA, sZ, sS]
 refine region_take 4 73 (v := ?vca4) rfl rfl (by kernel_rfl) (by kernel_rfl) (by kernel_rfl) (fun _ _ _ h => h) (by rfl) (fun w' hS => ?hca4) ?rca4
 case hca4 => go_simp; with_reducible rfl
 try simp only [Act.put, sA, sZ, sS]
 refine region_take 5 74 (v := ?vca5) rfl rfl (by kernel_rfl) (by kernel_rfl) (by kernel_rfl) (fun _ _ _ h => h) (by rfl) (fun w' hS => ?hca5) ?rca5
 case hca5 => go_simp; with_reducible rfl
 try simp only [Act.put, sA, sZ, sS]
 refine region_take 6 75 (v := ?vca6) rfl rfl (by kernel_rfl) (by kernel_rfl) (by kernel_rfl) (fun _ _ _ h => h) (by rfl) (fun w' hS => ?hca6) ?rca6
 case hca6 => go_simp; with_reducible rfl
 try simp only [Act.put, sA, sZ, sS]
 refine region_take 7 76 (v := ?vca7) rfl rfl (by kernel_rfl) (by kernel_rfl) (by kernel_rfl) (fun _ _ _ h => h) (by rfl) (fun w' hS => ?hca7) ?rca7
 case hca7 => go_simp; with_reducible rfl
 try simp only [Act.put, sA, sZ, sS]
 refine wpAnyH_ready (rs := [8]) (by kernel_rfl) (by simp) (AllReadyH.cons rfl (fun K hK => ?_) AllReadyH.nil)
 refine step_copy_big rfl (.tmp 73) (.tmp 76) 46 46 rfl 48 4 Tryz.underlying46 (by kernel_rfl) (some ⟨g, (i + m) * 4, none⟩) (some ⟨g, i * 4, none⟩) (n + m - (i + m)) (c - (i + m)) (n + m - i) (c - i) rfl rfl g ((i + m) * 4) cur 48 hG.drew (xs.drop (i * 4)) HA1.out (fun _ => ⟨rfl, HA2.out⟩) HA3.out HA4.out ?_
 intro w2 hG2 hE2
 refine hK.out _ _ (hE2) (fun hHeld => ?_)
 clear hK K hHeld
 refine region_now (hE2) ?_
 try simp only [Act.put, sA, sZ, sS]
 refine wpAnyH_done (by kernel_rfl) ?_ _
 obtain ⟨L1, hL1⟩ : ∃ L1, L1 = splice cur ((i + m) * 4) (xs.drop (i * 4)) := ⟨_, rfl⟩
 rw [← hL1] at HL1 HSP hG2
 have hR2 : RowOf w2 (some ⟨vb, 0, none⟩) news := (show RowOf w.drew _ _ from hR).ext hE2 (fun a ha e => by cases ha; exact hne e)
 have HR2 := qh hR2
 have HE2 : Hid (Ext (fun k => k = g) w w2) := qh ((Ext.refl _ w).drew.trans hE2 (fun _ _ e => e))
 clear hL1 hR hR2 h59 hV hG HA1 HA2 HA3 HA4
 go_wp2_with (refine wpList_copy_big rfl (.tmp 80) (.tmp 81) 46 46 rfl 48 4 Tryz.underlying46 (by kernel_rfl) (some ⟨g, i * 4, none⟩) (some ⟨vb, 0, none⟩) (n + m - i) (c - i) m m rfl rfl g (i * 4) L1 48 hG2 news HB1.out (fun _ => ⟨rfl, HR2.out⟩) (by rw [HL1.out, HCL.out, HNL.out]; omega) HB4.out ?_; intro w3 hG3 hE3)
 have HG3 := qh hG3
 have HE3 := qh hE3
 clear hG3 hE3 hG2 hE2
 go_wp2_with fail
 go_ret
 refine ⟨some ⟨g, 0, none⟩, c, rfl, ⟨?_, Or.inr ⟨g, c, _, rfl, hB, HG3.out, hnc, by unfold maxLen; omega, ?_, by simpa using HSP.out⟩⟩, HE2.out.trans HE3.out (fun _ _ e => e)⟩
 ·simp only [List.length_append, List.length_take, List.length_drop, HNL.out, HXL.out]; omega
 ·have := length_splice L1 (i * 4) news (by rw [HL1.out, HCL.out, HNL.out]; omega)
  simp only [List.size_toArray, this, HL1.out, HCL.out]
set_option maxHeartbeats 2000000 in
theorem insert_grow (B g n c i : Nat) (xs : List Value) (vb m : Nat) (news : List Value) (w : World) (hG : RowOf w (some ⟨g, 0, none⟩) xs) (hxl : xs.length = n * 4) (hnc : n ≤ c) (hroom : c < n + m) (hV : BlockIs w vb news 48) (hnl : news.length = m * 4) (hm : 0 < m) (hm2 : m ≤ 2) (hn : n ≤ 100000) (hi : i < n) (hB : B ≤ w.heap.size) (h1 : ∀ u ∈ news, u.oneCell' = true) (h2 : ∀ u ∈ xs, u.oneCell' = true) :
 Calls Tryz.prog 131 #[.slice (some ⟨g, 0, none⟩) n c, .int .i64 i, .slice (some ⟨vb, 0, none⟩) m m] w (OwnTo B (n + m) (xs.take (i * 4) ++ (news ++ xs.drop (i * 4))) (fun k => False) w) := by
 have hdl : (xs.drop (i * 4)).length = (n - i) * 4 := by rw [List.length_drop, hxl]; omega
 have htl : (xs.take (i * 4)).length = i * 4 := by rw [List.length_take, hxl]; omega
 have hsub : IntKind.i64.wrap ((n : Int) + (m : Int) - (i : Int)) = ((n + m - i : Nat) : Int) := by rw [IntKind.wrap_i64]; omega
 have hw1 : IntKind.i64.wrap ((i : Int) + (m : Int)) = (i : Int) + (m : Int) := by rw [IntKind.wrap_i64]; omega
 have hb1 : (0 : Int) ≤ (i : Int) + (m : Int) := by omega
 have htn : ((i : Int) + (m : Int)).toNat = i + m := by omega
 have hb4 : ¬ (c = i) := by omega
 have hz1 : ¬ ((m : Int) = 0) := by omega
 have hz2 : ¬ ((i : Int) = (n : Int)) := by omega
 have hz3 : (c : Int) < (n : Int) + (m : Int) := by omega
 have hin : i ≤ n := by omega
 have hR : RowOf w (some ⟨vb, 0, none⟩) news := fun i u hu => ⟨vb, 0, rfl, by rw [Nat.zero_add, hV.cell, hu]⟩
 have HT : Hid (RowOf w (some ⟨g, 0, none⟩) (xs.take (i * 4))) := qh (row_take hG _)
 have HD : Hid (RowOf w (some ⟨g, i * 4, none⟩) (xs.drop (i * 4))) := qh (by simpa [addr_add] using row_drop hG (i * 4))
 have HR := qh hR
 have HDL := qh hdl
 have HTL := qh htl
 have HXL := qh hxl
 have HNL := qh hnl
 have H1 := qh h1
 have H2 := qh h2
 have HVB := qh hV.lt
 clear hR hdl htl hxl hnl h1 h2 hG hV
 go_enter Tryz.func131, Tryz.ntmps131
 go_wp2_with (first
  | (at_builtin
     refine wpList_append_make rfl (.tmp 34) (.tmp 39) 46 3 rfl 48 Tryz.underlying46 Tryz.underlying3 (.agg #[.int .i64 0, .int .i64 0, .string ⟨#[]⟩, .slice none 0 0]) 4 56 info24 rfl (by decide) (some ⟨g, 0, none⟩) i c (n + m - i) (xs.take (i * 4)) rfl (by simp [go_sem, hsub]) HTL.out (fun _ => HT.out) (fun e => by cases e) (by omega) (by omega) (by omega) (by unfold maxLen; omega) ?_
     intro w2 G rest hG2 hGl hGn hGm hE2
     have hre : i + (n + m - i) = n + m := by omega
     rw [hre] at hGn ⊢
     obtain ⟨C0, hC0⟩ : ∃ C0, C0 = xs.take (i * 4) ++ rest := ⟨_, rfl⟩
     have hCl : C0.length = G * 4 := by rw [hC0, List.length_append]; omega
     have hsp := splice_ins2 (xs := xs) (rest := rest) (n := n) (i := i) (m := m) HXL.out (by omega) HNL.out (by rw [← hC0, hCl]; omega)
     rw [← hC0] at hG2 hsp
     have hb5 : ¬ (G = i) := by omega
     have hb6 : ¬ (G = i + m) := by omega
     have hb7 : (i : Int) ≤ (n : Int) + (m : Int) := by omega
     have hR2 : RowOf w2 (some ⟨vb, 0, none⟩) news := HR.out.ext hE2 (fun _ _ => id)
     have HR2 := qh hR2
     have HB1 : Hid (news.length = Nat.min m (n + m - i) * 4) := qh (by rw [HNL.out]; simp only [Nat.min_def]; split <;> omega)
     have HCl := qh hCl
     have HSP := qh hsp
     have HE2 := qh hE2
     obtain ⟨H, hH⟩ : ∃ H, H = w.heap.size := ⟨_, rfl⟩
     rw [← hH] at hG2 ⊢
     have HH := qh hH
     clear hC0 hCl hsp hR2 hre hH hGl)
  | (refine wpList_copy_big rfl (.tmp 43) (.tmp 44) 46 46 rfl 48 4 Tryz.underlying46 (by kernel_rfl) (some ⟨H, i * 4, none⟩) (some ⟨vb, 0, none⟩) (n + m - i) (G - i) m m rfl rfl H (i * 4) C0 48 hG2 news HB1.out (fun _ => ⟨rfl, HR2.out⟩) (by rw [HCl.out, HNL.out]; omega) H1.out ?_; intro w3 hG3 hE3))
 obtain ⟨L1, hL1⟩ : ∃ L1, L1 = splice C0 (i * 4) news := ⟨_, rfl⟩
 have hLl : L1.length = G * 4 := by rw [hL1, length_splice C0 (i * 4) news (by rw [HCl.out, HNL.out]; omega)]; exact HCl.out
 rw [← hL1] at hG3
 have HSP2 : Hid ((splice L1 ((i + m) * 4) (xs.drop (i * 4))).take ((n + m) * 4) = xs.take (i * 4) ++ (news ++ xs.drop (i * 4))) := qh (by rw [hL1]; exact HSP.out)
 have HLl := qh hLl
 have hE03 : Ext (fun _ => False) w w3 := HE2.out.trans hE3 (fun k hk e => by rw [e, HH.out] at hk; exact absurd hk (Nat.lt_irrefl _))
 have HA1 : Hid ((xs.drop (i * 4)).length = Nat.min (n - i) (n + m - (i + m)) * 4) := qh (by rw [HDL.out]; simp only [Nat.min_def]; split <;> omega)
 have HA2 : Hid (RowOf w3.drew (some ⟨g, i * 4, none⟩) (xs.drop (i * 4))) := qh (HD.out.ext hE03.drew (fun _ _ => id))
 have HA3 : Hid ((i + m) * 4 + (xs.drop (i * 4)).length ≤ L1.length) := qh (by rw [HLl.out, HDL.out]; omega)
 have HA4 : Hid (∀ v ∈ xs.drop (i * 4), v.oneCell' = true) := qh (fun v hv => H2.out v (List.mem_of_mem_drop hv))
 have HE03 := qh hE03
 clear hL1 hLl hE03 HR2 HB1 HSP
 go_wp2_with fail
 refine region_start (fun k => k = H) (by kernel_rfl) ?_
 try simp only [Act.put, sA, sZ, sS]
 refine region_take 0 46 (v := ?vcb0) rfl rfl (by kernel_rfl) (by kernel_rfl) (by kernel_rfl) (fun _ _ _ h => h) (by rfl) (fun w' hS => ?hcb0) ?rcb0
 case hcb0 => go_simp; with_reducible rfl
 try simp only [Act.put, sA, sZ, sS]
 refine region_take 1 47 (v := ?vcb1) rfl rfl (by kernel_rfl) (by kernel_rfl) (by kernel_rfl) (fun _ _ _ h => h) (by rfl) (fun w' hS => ?hcb1) ?rcb1
 case hcb1 => go_simp; with_reducible rfl
 try simp only [Act.put, sA, sZ, sS]
 refine region_take 2 48 (v := ?vcb2) rfl rfl (by kernel_rfl) (by kernel_rfl) (by kernel_rfl) (fun _ _ _ h => h) (by rfl) (fun w' hS => ?hcb2) ?rcb2
 case hcb2 => go_simp; with_reducible rfl
 try simp only [Act.put, sA, sZ, sS]
 refine region_take 3 49 (v := ?vcb3) rfl rfl (by kernel_rfl) (by kernel_rfl) (by kernel_rfl) (fun _ _ _ h => h) (by rfl) (fun w' hS => ?hcb3) ?rcb3
 case hcb3 => go_simp; with_reducible rfl
 try simp only [Act.put, sA, sZ, sS]
 refine region_take 4 50 (v := ?vcb4) rfl rfl (by kernel_rfl) (by kernel_rfl) (by kernel_rfl) (fun _ _ _ h => h) (by rfl) (fun w' hS => ?hcb4) ?rcb4
 case hcb4 => go_simp; with_reducible rfl
 try simp only [Act.put, sA, sZ, sS]
 refine region_take 5 51 (v := ?vcb5) rfl rfl (by kernel_rfl) (by kernel_rfl) (by kernel_rfl) (fun _ _ _ h => h) (by rfl) (fun w' hS => ?hcb5) ?rcb5
 case hcb5 => go_simp; with_reducible rfl
 try simp only [Act.put, sA, sZ, sS]
 refine region_take 6 52 (v := ?vcb6) rfl rfl (by kernel_rfl) (by kernel_rfl) (by kernel_rfl) (fun _ _ _ h => h) (by rfl) (fun w' hS => ?hcb6) ?rcb6
 case hcb6 => go_simp; with_reducible rfl
 try simp only [Act.put, sA, sZ, sS]
 refine region_take 7 53 (v := ?vcb7) rfl rfl (by kernel_rfl) (by kernel_rfl) (by kernel_rfl) (fun _ _ _ h => h) (by rfl) (fun w' hS => ?hcb7) ?rcb7
 case hcb7 => go_simp; with_reducible rfl
 try simp only [Act.put, sA, sZ, sS]
 refine wpAnyH_ready (rs := [8]) (by kernel_rfl) (by simp) (AllReadyH.cons rfl (fun K hK => ?_) AllReadyH.nil)
 refine step_copy_big rfl (.tmp 50) (.tmp 53) 46 46 rfl 48 4 Tryz.underlying46 (by kernel_rfl) (some ⟨H, (i + m) * 4, none⟩) (some ⟨g, i * 4, none⟩) (n + m - (i + m)) (G - (i + m)) (n - i) (c - i) rfl rfl H ((i + m) * 4) L1 48 hG3.drew (xs.drop (i * 4)) HA1.out (fun _ => ⟨rfl, HA2.out⟩) HA3.out HA4.out ?_
 intro w4 hG4 hE4
 refine hK.out _ _ (hE4) (fun hHeld => ?_)
 clear hK K hHeld
 refine region_now (hE4) ?_
 try simp only [Act.put, sA, sZ, sS]
 refine wpAnyH_done (by kernel_rfl) ?_ _
 have HG4 := qh hG4
 have HE4 : Hid (Ext (fun _ => False) w w4) := qh (HE03.out.drew.trans hE4 (fun k hk e => by rw [e, HH.out] at hk; exact absurd hk (Nat.lt_irrefl _)))
 clear hG4 hE4 hG3 hE3 hG2 hE2
 go_wp2_with fail
 go_ret
 refine ⟨some ⟨H, 0, none⟩, G, rfl, ⟨?_, Or.inr ⟨H, G, _, rfl, by rw [HH.out]; exact hB, HG4.out, hGn, by assumption, ?_, by simpa using HSP2.out⟩⟩, HE4.out⟩
 ·simp only [List.length_append, HNL.out, HTL.out, HDL.out]; omega
 ·have := length_splice L1 ((i + m) * 4) (xs.drop (i * 4)) HA3.out
  simp only [List.size_toArray, this, HLl.out]
theorem OwnTo.mono {B n : Nat} {xs : List Value} {T T' : Nat → Prop} {w : World} {e : Ending} {w' : World} (h : OwnTo B n xs T w e w') (hT : ∀ i, i < w.heap.size → T i → T' i) : OwnTo B n xs T' w e w' := by
 obtain ⟨a, c, h1, h2, h3⟩ := h
 exact ⟨a, c, h1, h2, h3.mono hT⟩
theorem insert_any (B : Nat) (a : Option Addr) (n c i : Nat) (xs : List Value) (vb m : Nat) (news : List Value) (w : World) (hO : w.ownsRow B 48 4 (.slice a n c) n xs) (hV : BlockIs w vb news 48) (hne : (Value.slice a n c).ownBlock ≠ some vb) (hnl : news.length = m * 4) (hm : 0 < m) (hm2 : m ≤ 2) (hn : n ≤ 100000) (hi : i ≤ n) (hB : B ≤ w.heap.size) (h1 : ∀ u ∈ news, u.oneCell' = true) (h2 : ∀ u ∈ xs, u.oneCell' = true) :
 Calls Tryz.prog 131 #[.slice a n c, .int .i64 i, .slice (some ⟨vb, 0, none⟩) m m] w (OwnTo B (n + m) (xs.take (i * 4) ++ (news ++ xs.drop (i * 4))) (fun k => (Value.slice a n c).ownBlock = some k) w) := by
 have hxl := hO.1
 by_cases he : i = n
 ·subst he
  have := insert_end B a i c xs vb m news w hO hV hnl hm hm2 hn hB h1
  rw [List.take_of_length_le (by omega), List.drop_eq_nil_of_le (by omega), List.append_nil]
  exact this
 ·rcases hO.2 with ⟨hv, rfl⟩ | ⟨g, cap, cur, hv, hg, hh, e1, e2, e3, e4⟩
  ·omega
  ·cases hv
   have hG : BlockIs w g cur.toList 48 := hh
   have e3' : cur.toList.length = c * 4 := by simpa using e3
   by_cases hr : n + m ≤ c
   ·have := insert_room B g n c i cur.toList vb m news w hG e3' hr e2 hV (fun e => hne (by rw [e]; rfl)) hnl hm hm2 hn (by omega) hg h1 (by rw [e4]; exact h2)
    rw [e4] at this
    exact this.mono fun e w' h => h.mono (fun k _ hk => by subst hk; rfl)
   ·have hR : RowOf w (some ⟨g, 0, none⟩) xs := own_row hO
    exact (insert_grow B g n c i xs vb m news w hR hxl e1 (by omega) hV hnl hm hm2 hn (by omega) hB h1 h2).mono fun e w' h => h.mono (fun k _ hk => hk.elim)
set_option maxHeartbeats 2000000 in
theorem replace_last (B : Nat) (a : Option Addr) (n c i : Nat) (xs : List Value) (vb : Nat) (news : List Value) (w : World) (hO : w.ownsRow B 48 4 (.slice a n c) n xs) (hV : BlockIs w vb news 48) (hnl : news.length = 4) (hn : n ≤ 100000) (hi : i + 1 = n) (hB : B ≤ w.heap.size) (h1 : ∀ u ∈ news, u.oneCell' = true) :
 Calls Tryz.prog 130 #[.slice a n c, .int .i64 i, .int .i64 n, .slice (some ⟨vb, 0, none⟩) 1 1] w (OwnTo B n (xs.take (i * 4) ++ news) (fun k => (Value.slice a n c).ownBlock = some k) w) := by
 obtain ⟨a0, c0, he, hnc, hcm, hnil, _⟩ := own_form hO
 cases he
 cases a with
 | none => have := hnil rfl; omega
 | some ad =>
 have hO2 := own_cut hO i (by omega) (fun e => by cases e)
 have had : ∃ g, ad = ⟨g, 0, none⟩ := by
  rcases hO.2 with ⟨hv, _⟩ | ⟨g, cap, cur, hv, _⟩
  ·cases hv
  ·cases hv; exact ⟨g, rfl⟩
 obtain ⟨g, rfl⟩ := had
 have HO := qh hO2
 have hR : RowOf w (some ⟨vb, 0, none⟩) news := fun i u hu => ⟨vb, 0, rfl, by rw [Nat.zero_add, hV.cell, hu]⟩
 have HR := qh hR
 have HL : Hid (news.length = 1 * 4) := qh (by rw [hnl])
 have H1 := qh h1
 have HI := qh hi
 have hz0 : ¬ (i : Int) = (n : Int) := by omega
 have hle : i ≤ n := by omega
 have hlc : i ≤ c := by omega
 have hnn : n ≤ n := Nat.le_refl n
 unfold maxLen at hcm
 clear hO hO2 hV hR hnl h1
 go_enter Tryz.func130, Tryz.ntmps130
 go_wp2_with (at_builtin; refine wpList_append_any rfl (.tmp 32) (.tmp 33) 46 rfl B 48 (.agg #[.int .i64 0, .int .i64 0, .string ⟨#[]⟩, .slice none 0 0]) 4 56 Tryz.underlying46 info24 rfl (by decide) _ i (xs.take (i * 4)) rfl HO.out (some ⟨vb, 0, none⟩) 1 1 news rfl (fun e => by cases e) HL.out HR.out H1.out n HI.out (xs.take (i * 4) ++ news) rfl (by omega) (by unfold maxLen; omega) hB ?_)
 intro a' c' w' hO' hg
 have hE := qh (ext_of_grown hg)
 have HO' := qh hO'
 clear hO' hg
 go_wp2_with fail
 go_ret
 exact ⟨a', c', rfl, HO'.out, hE.out⟩
theorem zero_cells : ∀ v ∈ (Value.agg #[.int .i64 0, .int .i64 0, .string ⟨#[]⟩, .slice none 0 0]).cells, v.oneCell' = true := by
 intro u hu
 simp only [Value.cells, List.mem_toArray, List.mem_cons, List.not_mem_nil, or_false] at hu
 rcases hu with rfl | rfl | rfl | rfl <;> rfl
theorem splice_self {α : Type} {L tail : List α} {k : Nat} (h : (L.drop k).take tail.length = tail) (hl : k + tail.length ≤ L.length) : splice L k tail = L := by
 rw [splice]
 conv => rhs; rw [← List.take_append_drop k L, ← List.take_append_drop tail.length (L.drop k), h, List.drop_drop]
theorem splice_rep {α : Type} {cur xs news : List α} {n i : Nat} (hx : cur.take (n * 4) = xs) (hi : i + 1 < n) (hnl : news.length = 4) (hl : n * 4 ≤ cur.length) :
 splice (splice cur (i * 4) news) ((i + 1) * 4) (xs.drop ((i + 1) * 4)) = splice cur (i * 4) news ∧ (splice cur (i * 4) news).take (n * 4) = xs.take (i * 4) ++ (news ++ xs.drop ((i + 1) * 4)) := by
 have hxl : xs.length = n * 4 := by rw [← hx, List.length_take]; omega
 have hd : (xs.drop ((i + 1) * 4)).length = (n - (i + 1)) * 4 := by rw [List.length_drop, hxl]; omega
 have e : splice cur (i * 4) news = xs.take (i * 4) ++ (news ++ (xs.drop ((i + 1) * 4) ++ cur.drop (n * 4))) := by
  rw [splice, ← hx, List.take_take, Nat.min_eq_left (by omega), hnl, List.drop_take]
  congr 2
  rw [show i * 4 + 4 = (i + 1) * 4 by omega]
  conv => lhs; rw [← List.take_append_drop (n * 4 - (i + 1) * 4) (cur.drop ((i + 1) * 4)), List.drop_drop, show (i + 1) * 4 + (n * 4 - (i + 1) * 4) = n * 4 by omega]
 have ht : (xs.take (i * 4)).length = i * 4 := by rw [List.length_take, hxl]; omega
 refine ⟨splice_self ?_ (by rw [length_splice _ _ _ (by omega)]; omega), ?_⟩
 ·rw [e, ← List.append_assoc, List.drop_left' (by simp only [List.length_append, ht, hnl]; omega), List.take_left' rfl]
 ·rw [e, take3]; rw [ht, hnl, hd]; omega
set_option maxHeartbeats 2000000 in
theorem replace_mid (B g n c i : Nat) (cur : List Value) (vb : Nat) (news : List Value) (w : World) (hG : BlockIs w g cur 48) (hcl : cur.length = c * 4) (hnc : n ≤ c) (hcm : c ≤ maxLen) (hV : BlockIs w vb news 48) (hnl : news.length = 4) (hn : n ≤ 100000) (hi : i + 1 < n) (hB : B ≤ g) (h1 : ∀ u ∈ news, u.oneCell' = true) (h2 : ∀ u ∈ cur.take (n * 4), u.oneCell' = true) :
 Calls Tryz.prog 130 #[.slice (some ⟨g, 0, none⟩) n c, .int .i64 i, .int .i64 ((i + 1 : Nat) : Int), .slice (some ⟨vb, 0, none⟩) 1 1] w (OwnTo B n ((cur.take (n * 4)).take (i * 4) ++ (news ++ (cur.take (n * 4)).drop ((i + 1) * 4))) (fun k => k = g) w) := by
 obtain ⟨xs, hx⟩ : ∃ xs, xs = cur.take (n * 4) := ⟨_, rfl⟩
 rw [← hx] at h2 ⊢
 have hxl : xs.length = n * 4 := by rw [hx, List.length_take]; omega
 obtain ⟨hsp1, hsp2⟩ := splice_rep (cur := cur) (n := n) (i := i) hx.symm hi hnl (by omega)
 obtain ⟨j, hj⟩ : ∃ j, j = i + 1 := ⟨_, rfl⟩
 rw [← hj] at hsp1 hsp2 hi ⊢
 have hR : RowOf w.drew (some ⟨vb, 0, none⟩) news := fun i u hu => ⟨vb, 0, rfl, by rw [Nat.zero_add, hV.drew.cell, hu]⟩
 have HA1 : Hid ((xs.drop (j * 4)).length = Nat.min (n - j) (n - j) * 4) := qh (by rw [List.length_drop, hxl, show Nat.min (n - j) (n - j) = n - j from Nat.min_self _]; omega)
 have HB1 : Hid (news.length = Nat.min 1 (n - i) * 4) := qh (by rw [hnl]; simp only [Nat.min_def]; split <;> omega)
 have HB3 : Hid (i * 4 + news.length ≤ cur.length) := qh (by rw [hnl, hcl]; omega)
 have hL1 := length_splice cur (i * 4) news HB3.out
 have HA3 : Hid (j * 4 + (xs.drop (j * 4)).length ≤ (splice cur (i * 4) news).length) := qh (by rw [hL1, List.length_drop, hxl, hcl]; omega)
 have HA4 : Hid (∀ v ∈ xs.drop (j * 4), v.oneCell' = true) := qh (fun v hv => h2 v (List.mem_of_mem_drop hv))
 have hrow : ∀ k u, (xs.drop (j * 4))[k]? = some u → (splice cur (i * 4) news)[j * 4 + k]? = some u := by
  intro k u hu
  have e := congrArg (fun L => L[j * 4 + k]?) hsp1.symm
  rw [show (splice cur (i * 4) news)[j * 4 + k]? = (splice (splice cur (i * 4) news) (j * 4) (xs.drop (j * 4)))[j * 4 + k]? from e, splice, List.getElem?_append_right (by rw [List.length_take, hL1]; omega)]
  rw [show j * 4 + k - (List.take (j * 4) (splice cur (i * 4) news)).length = k by rw [List.length_take, hL1]; omega]
  rw [List.getElem?_append_left (List.getElem?_eq_some_iff.1 hu).1]
  exact hu
 have HRow := qh hrow
 have HR := qh hR
 have HH1 := qh h1
 have HSP1 := qh hsp1
 have HSP2 := qh hsp2
 have HX := qh hx
 have HNL := qh hnl
 have HXL := qh hxl
 have HCL := qh hcl
 have HL1 := qh hL1
 have HJ := qh hj
 have hij : i ≤ j := by omega
 have hjn : j < n := by omega
 have hjn' : j ≤ n := by omega
 have hin : i ≤ n := by omega
 have hic : i ≤ c := by omega
 have hz1 : ¬ (i : Int) = (j : Int) := by omega
 have hz2 : ¬ (j : Int) = (n : Int) := by omega
 have hw1 : IntKind.i64.wrap ((i : Int) + 1) = (j : Int) := by rw [IntKind.wrap_i64]; omega
 have hw2 : (j : Int) + ((n - j : Nat) : Int) = (n : Int) := by omega
 have hw3 : IntKind.i64.wrap (n : Int) = (n : Int) := by rw [IntKind.wrap_i64]; omega
 have hwj : IntKind.i64.wrap (j : Int) = (j : Int) := by rw [IntKind.wrap_i64]; omega
 have hb0 : (0 : Int) ≤ (j : Int) := by omega
 have htj : ((j : Int)).toNat = j := by omega
 have hcn : ¬ (c : Int) < (n : Int) := by omega
 have hjj : (j : Int) ≤ (j : Int) := Int.le_refl _
 have hij1 : (i : Int) + 1 = (j : Int) := by omega
 have hci : ¬ (c = i) := by omega
 have hcj : ¬ (c = j) := by omega
 unfold maxLen at hcm
 clear h1 h2 hx hnl hxl hcl hsp1 hsp2 hR hrow hL1 hj
 go_enter Tryz.func130, Tryz.ntmps130
 go_wp2_with fail
 go_quiet (fail)
 go_wp2_with (refine wpList_copy_big rfl (.tmp 95) (.tmp 96) 46 46 rfl 48 4 Tryz.underlying46 (by kernel_rfl) (some ⟨g, i * 4, none⟩) (some ⟨vb, 0, none⟩) (n - i) (c - i) 1 1 rfl rfl g (i * 4) cur 48 hG.drew news HB1.out (fun _ => ⟨rfl, HR.out⟩) HB3.out HH1.out ?_; intro w3 hG3 hE3)
 obtain ⟨L1, hL1⟩ : ∃ L1, L1 = splice cur (i * 4) news := ⟨_, rfl⟩
 rw [← hL1] at hG3 HSP1 HSP2 HL1 HA3 HRow
 have HA2 : Hid (RowOf w3.drew (some ⟨g, j * 4, none⟩) (xs.drop (j * 4))) := qh (fun k u hu => ⟨g, j * 4, rfl, by rw [hG3.drew.cell]; exact HRow.out k u hu⟩)
 have hE03 : Ext (fun k => k = g) w w3 := ((Ext.refl _ w).drewN nq).trans hE3 (fun _ _ e => e)
 have HE03 := qh hE03
 clear hL1 hE03 HR HB1
 go_wp2_with fail
 refine region_start (fun k => k = g) (by kernel_rfl) ?_
 try simp only [Act.put, sA, sZ, sS]
 refine region_take 0 98 (v := ?vca0) rfl rfl (by kernel_rfl) (by kernel_rfl) (by kernel_rfl) (fun _ _ _ h => h) (by rfl) (fun w' hS => ?hca0) ?rca0
 case hca0 => go_simp; with_reducible rfl
 try simp only [Act.put, sA, sZ, sS]
 refine region_take 1 99 (v := ?vca1) rfl rfl (by kernel_rfl) (by kernel_rfl) (by kernel_rfl) (fun _ _ _ h => h) (by rfl) (fun w' hS => ?hca1) ?rca1
 case hca1 => go_simp; with_reducible rfl
 try simp only [Act.put, sA, sZ, sS]
 refine region_take 2 100 (v := ?vca2) rfl rfl (by kernel_rfl) (by kernel_rfl) (by kernel_rfl) (fun _ _ _ h => h) (by rfl) (fun w' hS => ?hca2) ?rca2
 case hca2 => go_simp; with_reducible rfl
 try simp only [Act.put, sA, sZ, sS]
 refine region_take 3 101 (v := ?vca3) rfl rfl (by kernel_rfl) (by kernel_rfl) (by kernel_rfl) (fun _ _ _ h => h) (by rfl) (fun w' hS => ?hca3) ?rca3
 case hca3 => go_simp; with_reducible rfl
 try simp only [Act.put, sA, sZ, sS]
 refine region_take 4 102 (v := ?vca4) rfl rfl (by kernel_rfl) (by kernel_rfl) (by kernel_rfl) (fun _ _ _ h => h) (by rfl) (fun w' hS => ?hca4) ?rca4
 case hca4 => go_simp; with_reducible rfl
 try simp only [Act.put, sA, sZ, sS]
 refine region_take 5 103 (v := ?vca5) rfl rfl (by kernel_rfl) (by kernel_rfl) (by kernel_rfl) (fun _ _ _ h => h) (by rfl) (fun w' hS => ?hca5) ?rca5
 case hca5 => go_simp; with_reducible rfl
 try simp only [Act.put, sA, sZ, sS]
 refine region_take 6 104 (v := ?vca6) rfl rfl (by kernel_rfl) (by kernel_rfl) (by kernel_rfl) (fun _ _ _ h => h) (by rfl) (fun w' hS => ?hca6) ?rca6
 case hca6 => go_simp; with_reducible rfl
 try simp only [Act.put, sA, sZ, sS]
 refine region_take 7 105 (v := ?vca7) rfl rfl (by kernel_rfl) (by kernel_rfl) (by kernel_rfl) (fun _ _ _ h => h) (by rfl) (fun w' hS => ?hca7) ?rca7
 case hca7 => go_simp; with_reducible rfl
 try simp only [Act.put, sA, sZ, sS]
 refine region_take 8 106 (v := ?vca8) rfl rfl (by kernel_rfl) (by kernel_rfl) (by kernel_rfl) (fun _ _ _ h => h) (by rfl) (fun w' hS => ?hca8) ?rca8
 case hca8 => go_simp; with_reducible rfl
 try simp only [Act.put, sA, sZ, sS]
 refine wpAnyH_ready (rs := [9]) (by kernel_rfl) (by simp) (AllReadyH.cons rfl (fun K hK => ?_) AllReadyH.nil)
 refine step_copy_big rfl (.tmp 103) (.tmp 106) 46 46 rfl 48 4 Tryz.underlying46 (by kernel_rfl) (some ⟨g, j * 4, none⟩) (some ⟨g, j * 4, none⟩) (n - j) (c - j) (n - j) (c - j) rfl rfl g (j * 4) L1 48 hG3.drew (xs.drop (j * 4)) HA1.out (fun _ => ⟨rfl, HA2.out⟩) HA3.out HA4.out ?_
 intro w4 hG4 hE4
 refine hK.out _ _ (hE4) (fun hHeld => ?_)
 clear hK K hHeld
 refine region_now (hE4) ?_
 try simp only [Act.put, sA, sZ, sS]
 refine wpAnyH_done (by kernel_rfl) ?_ _
 rw [HSP1.out] at hG4
 have hE04 : Ext (fun k => k = g) w w4 := HE03.out.drew.trans hE4 (fun _ _ e => e)
 have HE04 := qh hE04
 clear hG3 hE3 hE4 hE04 HE03
 have HN4 : Hid (n * 4 ≤ L1.length) := qh (by rw [HL1.out, HCL.out]; omega)
 have HNc := qh (show n ≤ c from hnc)
 have HHB := qh hB
 by_cases hcn2 : n = c
 ·subst hcn2
  go_wp2_with (refine wpList_clear_big rfl (.tmp 110) 46 rfl 48 Tryz.underlying46 (.agg #[.int .i64 0, .int .i64 0, .string ⟨#[]⟩, .slice none 0 0]) (fun w => by kernel_rfl) zero_cells _ 0 _ rfl g (n * 4) L1 48 hG4 (fun e => absurd e (Nat.lt_irrefl 0)) (by have := HN4.out; omega) ?_; intro w5 cur5 hG5 hl5 ht5 hE5)
  have HG5 := qh hG5
  have HL5 := qh hl5
  have HT5 := qh ht5
  have HE5 := qh hE5
  clear hG5 hl5 ht5 hE5 hG4
  go_wp2_with fail
  go_ret
  refine ⟨some ⟨g, 0, none⟩, n, rfl, ⟨?_, Or.inr ⟨g, n, _, rfl, HHB.out, HG5.out, Nat.le_refl _, by unfold maxLen; omega, ?_, by simp only [List.toList_toArray]; rw [HT5.out, HSP2.out]⟩⟩, HE04.out.trans HE5.out (fun _ _ e => e)⟩
  ·simp only [List.length_append, List.length_take, List.length_drop, HNL.out, HXL.out]; have := HJ.out; omega
  ·simp only [List.size_toArray, HL5.out, HL1.out, HCL.out]
 ·have hcn3 : ¬ (c = n) := fun e => hcn2 e.symm
  go_wp2_with (refine wpList_clear_big rfl (.tmp 110) 46 rfl 48 Tryz.underlying46 (.agg #[.int .i64 0, .int .i64 0, .string ⟨#[]⟩, .slice none 0 0]) (fun w => by kernel_rfl) zero_cells _ 0 _ rfl g (n * 4) L1 48 hG4 (fun e => absurd e (Nat.lt_irrefl 0)) (by have := HN4.out; omega) ?_; intro w5 cur5 hG5 hl5 ht5 hE5)
  have HG5 := qh hG5
  have HL5 := qh hl5
  have HT5 := qh ht5
  have HE5 := qh hE5
  clear hG5 hl5 ht5 hE5 hG4
  go_wp2_with fail
  go_ret
  refine ⟨some ⟨g, 0, none⟩, c, rfl, ⟨?_, Or.inr ⟨g, c, _, rfl, HHB.out, HG5.out, HNc.out, by unfold maxLen; omega, ?_, by simp only [List.toList_toArray]; rw [HT5.out, HSP2.out]⟩⟩, HE04.out.trans HE5.out (fun _ _ e => e)⟩
  ·simp only [List.length_append, List.length_take, List.length_drop, HNL.out, HXL.out]; have := HJ.out; omega
  ·simp only [List.size_toArray, HL5.out, HL1.out, HCL.out]
set_option maxHeartbeats 1000000 in
theorem replace_none (B : Nat) (a : Option Addr) (n c : Nat) (xs : List Value) (vb : Nat) (news : List Value) (w : World) (hO : w.ownsRow B 48 4 (.slice a n c) n xs) (hV : BlockIs w vb news 48) (hnl : news.length = 4) (hn : n ≤ 100000) (hn0 : 0 < n) (hB : B ≤ w.heap.size) (h1 : ∀ u ∈ news, u.oneCell' = true) :
 Calls Tryz.prog 130 #[.slice a n c, .int .i64 n, .int .i64 n, .slice (some ⟨vb, 0, none⟩) 1 1] w (OwnTo B (n + 1) (xs ++ news) (fun k => (Value.slice a n c).ownBlock = some k) w) := by
 obtain ⟨a0, c0, he, hnc, hcm, hnil, _⟩ := own_form hO
 cases he
 have HC := qh (insert_end B a n c xs vb 1 news w hO hV (by rw [hnl]) (by omega) (by omega) hn hB h1)
 have hnn : n ≤ n := Nat.le_refl n
 unfold maxLen at hcm
 cases a with
 | none => have := hnil rfl; omega
 | some ad =>
 clear hO hV
 rcases Decidable.em (c = n) with rfl | hcn
 all_goals
  go_enter Tryz.func130, Tryz.ntmps130
  go_wp2_with fail
  refine HC.out.mono ?_
  rintro e w1 ⟨a', c', rfl, hO', hE⟩
  have HO' := qh hO'
  have HE := qh hE
  clear hO' hE HC
  go_wp2_with fail
  go_ret
  exact ⟨a', c', rfl, HO'.out, HE.out⟩
theorem replace_any (B : Nat) (a : Option Addr) (n c i j : Nat) (xs : List Value) (vb : Nat) (news : List Value) (w : World) (hO : w.ownsRow B 48 4 (.slice a n c) n xs) (hV : BlockIs w vb news 48) (hnl : news.length = 4) (hn : n ≤ 100000) (hn0 : 0 < n) (hi : i ≤ n) (hj : j = min (i + 1) n) (hB : B ≤ w.heap.size) (h1 : ∀ u ∈ news, u.oneCell' = true) (h2 : ∀ u ∈ xs, u.oneCell' = true) :
 Calls Tryz.prog 130 #[.slice a n c, .int .i64 i, .int .i64 j, .slice (some ⟨vb, 0, none⟩) 1 1] w (OwnTo B (i + 1 + (n - j)) (xs.take (i * 4) ++ (news ++ xs.drop (j * 4))) (fun k => (Value.slice a n c).ownBlock = some k) w) := by
 have hxl := hO.1
 by_cases he : i = n
 ·obtain rfl : j = n := by omega
  subst he
  have := replace_none B a i c xs vb news w hO hV hnl hn hn0 hB h1
  rw [List.take_of_length_le (by omega), List.drop_eq_nil_of_le (by omega), List.append_nil, show i + 1 + (i - i) = i + 1 by omega]
  exact this
 ·obtain rfl : j = i + 1 := by omega
  by_cases he2 : i + 1 = n
  ·have := replace_last B a n c i xs vb news w hO hV hnl hn he2 hB h1
   rw [← he2] at this hxl ⊢
   rw [List.drop_eq_nil_of_le (by omega), List.append_nil, show i + 1 + (i + 1 - (i + 1)) = i + 1 by omega]
   exact this
  ·rcases hO.2 with ⟨hv, rfl⟩ | ⟨g, cap, cur, hv, hg, hh, e1, e2, e3, e4⟩
   ·omega
   ·cases hv
    have hG : BlockIs w g cur.toList 48 := hh
    have := replace_mid B g n c i cur.toList vb news w hG (by simpa using e3) e1 e2 hV hnl hn (by omega) hg h1 (by rw [e4]; exact h2)
    rw [e4] at this
    rw [show i + 1 + (n - (i + 1)) = n by omega]
    exact this.mono fun e w' h => h.mono (fun k _ hk => by subst hk; rfl)
set_option maxHeartbeats 2000000 in
theorem delete_any (B : Nat) (a : Option Addr) (n c i j : Nat) (xs : List Value) (w : World) (hO : w.ownsRow B 48 4 (.slice a n c) n xs) (hn : n ≤ 100000) (hi : i < j) (hj : j ≤ n) (hB : B ≤ w.heap.size) (h2 : ∀ u ∈ xs, u.oneCell' = true) :
 Calls Tryz.prog 98 #[.slice a n c, .int .i64 i, .int .i64 j] w (OwnTo B (i + (n - j)) (xs.take (i * 4) ++ xs.drop (j * 4)) (fun k => (Value.slice a n c).ownBlock = some k) w) := by
 have hxl := hO.1
 rcases hO.2 with ⟨hv, rfl⟩ | ⟨g, cap, cur, hv, hg, hh, e1, e2, e3, e4⟩
 ·omega
 ·cases hv
  have hO2 := own_cut hO i (by omega) (fun e => by cases e)
  have hR := own_row hO
  obtain ⟨inf, hi0, _, hsz0, _⟩ := info_parts info24
  have HO2 : Hid (w.drew.ownsRow B 48 4 (.slice (some ⟨g, 0, none⟩) i c) i (xs.take (i * 4))) := qh hO2
  obtain ⟨m, hm⟩ : ∃ m, m = n - j := ⟨_, rfl⟩
  have HA1 : Hid ((xs.drop (j * 4)).length = m * 4) := qh (by rw [List.length_drop, hxl]; omega)
  have HA2 : Hid (∀ ad, (if c = j then some (⟨g, 0, none⟩ : Addr) else some ⟨g, j * 4, none⟩) = some ad → ∀ k u, (xs.drop (j * 4))[k]? = some u → w.cell? (ad.add k) = some u) := qh (by
   intro ad had k u hu
   have hlt := (List.getElem?_eq_some_iff.1 hu).1
   have hcj : ¬ (c = j) := by rw [HA1.out] at hlt; omega
   rw [if_neg hcj] at had
   cases had
   rw [addr_add]
   rw [List.getElem?_drop] at hu
   obtain ⟨b, o, hb, hc⟩ := hR _ _ hu
   cases hb
   rw [Nat.zero_add] at hc
   exact hc)
  have HA4 : Hid (∀ v ∈ xs.drop (j * 4), v.oneCell' = true) := qh (fun v hv => h2 v (List.mem_of_mem_drop hv))
  have HI0 := qh hi0
  have HS0 := qh hsz0
  have HXL := qh hxl
  have HM := qh hm
  have hz1 : ¬ (i : Int) = (j : Int) := by omega
  have hij : i ≤ j := by omega
  have hnn : n ≤ n := Nat.le_refl n
  have hic : i ≤ c := by omega
  have hin : i ≤ n := by omega
  have himc : i + m ≤ c := by omega
  have himn : i + m ≤ n := by omega
  have hcim : ¬ (c = i + m) := by omega
  have hjc : j ≤ c := by omega
  unfold maxLen at e2
  clear hO hO2 hR hi0 hsz0 hxl h2 hh e3 e4
  rw [← hm]
  clear hm
  go_enter Tryz.func98, Tryz.ntmps98
  go_wp2_with fail
  refine region_start (fun k => k = g) (by kernel_rfl) ?_
  try simp only [Act.put, sA, sZ, sS]
  refine region_take 0 20 (v := ?vca0) rfl rfl (by kernel_rfl) (by kernel_rfl) (by kernel_rfl) (fun _ _ _ h => h) (by rfl) (fun w' hS => ?hca0) ?rca0
  case hca0 => go_simp; with_reducible rfl
  try simp only [Act.put, sA, sZ, sS]
  refine region_take 1 21 (v := ?vca1) rfl rfl (by kernel_rfl) (by kernel_rfl) (by kernel_rfl) (fun _ _ _ h => h) (by rfl) (fun w' hS => ?hca1) ?rca1
  case hca1 => go_simp; with_reducible rfl
  try simp only [Act.put, sA, sZ, sS]
  refine region_take 2 22 (v := ?vca2) rfl rfl (by kernel_rfl) (by kernel_rfl) (by kernel_rfl) (fun _ _ _ h => h) (by rfl) (fun w' hS => ?hca2) ?rca2
  case hca2 => go_simp; with_reducible rfl
  try simp only [Act.put, sA, sZ, sS]
  refine region_take 3 23 (v := ?vca3) rfl rfl (by kernel_rfl) (by kernel_rfl) (by kernel_rfl) (fun _ _ _ h => h) (by rfl) (fun w' hS => ?hca3) ?rca3
  case hca3 => go_simp; with_reducible rfl
  try simp only [Act.put, sA, sZ, sS]
  refine region_take 4 24 (v := ?vca4) rfl rfl (by kernel_rfl) (by kernel_rfl) (by kernel_rfl) (fun _ _ _ h => h) (by rfl) (fun w' hS => ?hca4) ?rca4
  case hca4 => go_simp; with_reducible rfl
  try simp only [Act.put, sA, sZ, sS]
  refine region_take 5 25 (v := ?vca5) rfl rfl (by kernel_rfl) (by kernel_rfl) (by kernel_rfl) (fun _ _ _ h => h) (by rfl) (fun w' hS => ?hca5) ?rca5
  case hca5 => go_simp; with_reducible rfl
  try simp only [Act.put, sA, sZ, sS]
  refine wpAnyH_ready (rs := [6]) (by kernel_rfl) (by simp) (AllReadyH.cons rfl (fun K hK => ?_) AllReadyH.nil)
  refine step_of_list ?_
  refine wpList_append_fits_any _ rfl (.tmp 22) (.tmp 25) 46 rfl B 48 inf 4 Tryz.underlying46 HI0.out HS0.out g i c (xs.take (i * 4)) rfl HO2.out (if c = j then some (⟨g, 0, none⟩ : Addr) else some ⟨g, j * 4, none⟩) m (c - j) (xs.drop (j * 4)) (by rw [HM.out]; rfl) HA1.out (fun e => by split at e <;> cases e) HA2.out HA4.out himc ?_
  intro w4 hO4 hg4
  refine hK.out _ _ (Ext.grown (Ext.refl _ _) hg4 (fun k hk _ => by cases hk; rfl)) (fun hHeld => ?_)
  clear hK K hHeld
  refine region_now (Ext.grown (Ext.refl _ _) hg4 (fun k hk _ => by cases hk; rfl)) ?_
  try simp only [Act.put, sA, sZ, sS]
  refine region_take 7 0 (v := ?vca7) rfl rfl (by kernel_rfl) (by kernel_rfl) (by kernel_rfl) (fun _ _ _ h => h) (by rfl) (fun w' hS => ?hca7) ?rca7
  case hca7 => go_simp; with_reducible rfl
  try simp only [Act.put, sA, sZ, sS]
  refine wpAnyH_done (by kernel_rfl) ?_ _
  have hol := hO4.1
  rcases hO4.2 with ⟨hv, _⟩ | ⟨g4, c4, cur4, hv4, hg44, hh4, f1, f2, f3, f4⟩
  ·cases hv
  cases hv4
  have hG4 : BlockIs w4 g cur4.toList 48 := hh4
  have hE4 : Ext (fun k => (Value.slice (some ⟨g, 0, none⟩) n c).ownBlock = some k) w w4 := ((Ext.refl _ w).drew).grown hg4 (fun k hk _ => hk)
  have HE4 := qh hE4
  have HOl := qh hol
  have HF4 := qh f4
  have HF3 := qh f3
  have HG4 := qh hG4
  have hdl : n - (i + m) = j - i := by have := HM.out; omega
  clear hO4 hol f4 f3 hh4 hE4 hg4
  rcases Decidable.em (c = j) with rfl | hcj
  all_goals
   go_wp2_with (refine wpList_clear_big rfl (.tmp 31) 46 rfl 48 Tryz.underlying46 (.agg #[.int .i64 0, .int .i64 0, .string ⟨#[]⟩, .slice none 0 0]) (fun w => by kernel_rfl) zero_cells _ (n - (i + m)) _ rfl g ((i + m) * 4) cur4.toList 48 HG4.out (fun _ => rfl) (by have := HF3.out; simp only [Value.cells, List.size_toArray, List.length_cons, List.length_nil, Array.length_toList]; omega) ?_; intro w5 cur5 hG5 hl5 ht5 hE5)
   have HG5 := qh hG5
   have HL5 := qh hl5
   have HT5 := qh ht5
   have HE5 := qh hE5
   have HHg := qh hg
   clear hG5 hl5 ht5 hE5 hG4
   go_wp2_with fail
   go_ret
   refine ⟨some ⟨g, 0, none⟩, c, rfl, ⟨HOl.out, Or.inr ⟨g, c, _, rfl, HHg.out, HG5.out, himc, f2, ?_, by simp only [List.toList_toArray]; rw [HT5.out, HF4.out]⟩⟩, HE4.out.trans HE5.out (fun k _ e => by rw [e]; rfl)⟩
   simp only [List.size_toArray, HL5.out, Array.length_toList, HF3.out]
