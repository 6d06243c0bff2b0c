/-
  Walked: slices.Insert of values into a row of the call's own.
-/
import Derived.Test.YtnibjjpohhknkaaClone
import Derived.Deep.RegionLaw
namespace Go.Proofs.Ytnibjjpohhknkaa
open Go.RowKit
set_option linter.unusedVariables false
set_option linter.unusedSimpArgs false

theorem own_cut {w : World} {B e n c : Nat} {a : Option Addr} {xs : List Value} (h : w.ownsRow B e 4 (.slice a n c) n xs) (i : Nat) (hi : i ≤ n) (ha : a ≠ none) : w.ownsRow B e 4 (.slice a i c) i (xs.take (i * 4)) := by
  refine ⟨by rw [List.length_take, h.1]; omega, ?_⟩
  rcases h.2 with ⟨hv, rfl⟩ | ⟨g, cap, cur, hv, hg, hh, h1, h2, h3, h4⟩
  · cases hv; exact absurd rfl ha
  · cases hv
    exact Or.inr ⟨g, c, cur, rfl, hg, hh, by omega, h2, h3, by rw [← h4, List.take_take, Nat.min_eq_left (by omega)]⟩
set_option maxHeartbeats 2000000 in
set_option maxRecDepth 100000 in
theorem insert_end (B : Nat) (a : Option Addr) (n c : Nat) (xs : List Value) (vb m : Nat) (news : List Value) (w : World) (hO : w.ownsRow B 24 4 (.slice a n c) n xs) (hV : BlockIs w vb news 24) (hnl : news.length = m * 4) (hm : 0 < m) (hm2 : m ≤ 2) (hn : n ≤ 100000) (hB : B ≤ w.heap.size) (h1 : ∀ u ∈ news, u.oneCell' = true) :
    Calls Try.prog 56 #[.slice a n c, .int .i64 n, .slice (some ⟨vb, 0, none⟩) m m] w (OwnTo B (n + m) (xs ++ news) (fun k => (Value.slice a n c).ownBlock = some k) w) := by
  obtain ⟨a0, c0, he, hnc, hcm, hnil, _⟩ := own_form hO
  cases he
  have HO := Lib.hid hO
  have hR : RowOf w (some ⟨vb, 0, none⟩) news := fun i u hu => ⟨vb, 0, rfl, by rw [Nat.zero_add, hV.cell, hu]⟩
  have HR := Lib.hid hR
  have HL := Lib.hid hnl
  have H1 := Lib.hid h1
  have hm0 : ¬ (m : Int) = 0 := by omega
  have hm0' : ((m : Int) == 0) = false := by simp; omega
  unfold maxLen at hcm
  clear hO hV hR hnl h1
  have hin : (n : Int) ≤ n := Int.le_refl _
  go_enter Try.func56, Try.ntmps56
  go_wp2_with (at_builtin; refine wpList_append_any rfl (.tmp 23) (.tmp 24) 22 rfl B 24 (.agg #[.int .i64 0, .int .i64 0, .string ⟨#[]⟩, .slice none 0 0]) 4 56 Try.underlying22 info24 rfl (by decide) _ n xs rfl HO.out (some ⟨vb, 0, none⟩) m m news rfl (fun e => by cases e) HL.out HR.out H1.out (n + m) rfl (xs ++ news) rfl (by omega) (by unfold maxLen; omega) hB ?_)
  all_goals
    intro a' c' w' hO' hg
    have hE := Lib.hid (ext_of_grown hg)
    have HO' := Lib.hid hO'
    clear hO' hg
    go_wp2_with fail
    go_ret
    exact ⟨a', c', rfl, HO'.out, by first | exact hE.out | (cases a <;> exact hE.out)⟩
theorem take3 {α : Type} {A N D R : List α} {k : Nat} (h : A.length + N.length + D.length = k) : (A ++ (N ++ (D ++ R))).take k = A ++ (N ++ D) := by
  have e : A ++ (N ++ (D ++ R)) = (A ++ (N ++ D)) ++ R := by simp
  rw [e, List.take_left' (by simp; omega)]
theorem splice_ins {α : Type} {cur xs news : List α} {n i m : Nat} (hx : cur.take (n * 4) = xs) (hi : i ≤ n) (hnl : news.length = m * 4) (hl : (n + m) * 4 ≤ cur.length) :
    (splice (splice cur ((i + m) * 4) (xs.drop (i * 4))) (i * 4) news).take ((n + m) * 4) = xs.take (i * 4) ++ (news ++ xs.drop (i * 4)) := by
  have hxl : xs.length = n * 4 := by rw [← hx, List.length_take]; omega
  have hd : (xs.drop (i * 4)).length = (n - i) * 4 := by rw [List.length_drop, hxl]; omega
  have e1 : (splice cur ((i + m) * 4) (xs.drop (i * 4))).take (i * 4) = xs.take (i * 4) := by
    rw [splice, List.take_append_of_le_length (by rw [List.length_take]; omega), List.take_take, ← hx, List.take_take, Nat.min_eq_left (by omega), Nat.min_eq_left (by omega)]
  have e2 : (splice cur ((i + m) * 4) (xs.drop (i * 4))).drop (i * 4 + news.length) = xs.drop (i * 4) ++ cur.drop ((i + m) * 4 + (xs.drop (i * 4)).length) := by
    rw [splice, List.drop_left' (by rw [List.length_take]; omega)]
  generalize splice cur ((i + m) * 4) (xs.drop (i * 4)) = L at *
  rw [splice, e1, e2, take3]
  rw [hd, hnl, List.length_take]; omega
theorem splice_ins2 {α : Type} {xs rest news : List α} {n i m : Nat} (hxl : xs.length = n * 4) (hi : i ≤ n) (hnl : news.length = m * 4) (hl : (n + m) * 4 ≤ (xs.take (i * 4) ++ rest).length) :
    (splice (splice (xs.take (i * 4) ++ rest) (i * 4) news) ((i + m) * 4) (xs.drop (i * 4))).take ((n + m) * 4) = xs.take (i * 4) ++ (news ++ xs.drop (i * 4)) := by
  have hd : (xs.drop (i * 4)).length = (n - i) * 4 := by rw [List.length_drop, hxl]; omega
  have ht : (xs.take (i * 4)).length = i * 4 := by rw [List.length_take]; omega
  have e1 : (splice (xs.take (i * 4) ++ rest) (i * 4) news).take ((i + m) * 4) = xs.take (i * 4) ++ news := by
    rw [splice, List.take_left' ht, ← List.append_assoc, List.take_left' (by simp only [List.length_append, ht, hnl]; omega)]
  generalize splice (xs.take (i * 4) ++ rest) (i * 4) news = L at *
  rw [splice, e1, List.append_assoc, take3]
  rw [hd, hnl, ht]; omega
theorem f59 : Try.f58.body = none := rfl
theorem run59 {w : World} (a b : Addr) (la ca lb cb : Nat) (hne : a.block ≠ b.block) {tA tB : TypeId} {curA curB : List Value} (hA : BlockIs w a.block curA tA) (hB : BlockIs w b.block curB tB) (hkB : curB.length ≠ 0) (has : a.spot = none) :
    (callFunc 58 #[.slice (some a) la ca, .slice (some b) lb cb]).run Try.prog w = .ok (.value (.bool false)) w := by
  rw [run_callFunc_extern Try.func58 (by kernel_rfl) (by kernel_rfl) (by kernel_rfl) (e := Extern.SlicesOverlaps.overlaps #[22, 22] #[4]) (by kernel_rfl),
    run_overlaps_rows Try.underlying22 4 (fun w => by kernel_rfl) a b la ca lb cb hne hA hB hkB has]
  rfl
set_option maxHeartbeats 2000000 in
set_option maxRecDepth 100000 in
theorem insert_room (B g n c i : Nat) (cur : List Value) (vb m : Nat) (news : List Value) (w : World) (hG : BlockIs w g cur 24) (hcl : cur.length = c * 4) (hnc : n + m ≤ c) (hcm : c ≤ maxLen) (hV : BlockIs w vb news 24) (hne : vb ≠ g) (hnl : news.length = m * 4) (hm : 0 < m) (hm2 : m ≤ 2) (hn : n ≤ 100000) (hi : i < n) (hB : B ≤ g) (h1 : ∀ u ∈ news, u.oneCell' = true) (h2 : ∀ u ∈ cur.take (n * 4), u.oneCell' = true) :
    Calls Try.prog 56 #[.slice (some ⟨g, 0, none⟩) n c, .int .i64 i, .slice (some ⟨vb, 0, none⟩) m m] w (OwnTo B (n + m) ((cur.take (n * 4)).take (i * 4) ++ (news ++ (cur.take (n * 4)).drop (i * 4))) (fun k => k = g) w) := by
  obtain ⟨xs, hx⟩ : ∃ xs, xs = cur.take (n * 4) := ⟨_, rfl⟩
  rw [← hx] at h2 ⊢
  have hxl : xs.length = n * 4 := by rw [hx, List.length_take]; omega
  have hsp := splice_ins (cur := cur) (n := n) (i := i) (m := m) hx.symm (by omega) hnl (by omega)
  have h59 := fun (lb cb : Nat) => run59 (w := w) ⟨vb, 0, none⟩ ⟨g, (i + m) * 4, none⟩ m m lb cb hne hV hG (by omega) rfl
  have hdl : (xs.drop (i * 4)).length = (n - i) * 4 := by rw [List.length_drop, hxl]; omega
  have hw1 : IntKind.i64.wrap ((i : Int) + (m : Int)) = (i : Int) + (m : Int) := by rw [IntKind.wrap_i64]; omega
  have hb1 : (0 : Int) ≤ (i : Int) + (m : Int) := by omega
  have htn : ((i : Int) + (m : Int)).toNat = i + m := by omega
  have hb2 : ¬ (c = i + m) := by omega
  have hb3 : (i : Int) ≤ (n : Int) + (m : Int) := by omega
  have hb4 : ¬ (c = i) := by omega
  have hz1 : ¬ ((m : Int) = 0) := by omega
  have hz2 : ¬ ((i : Int) = (n : Int)) := by omega
  have hin : i ≤ n := by omega
  have hR : RowOf w (some ⟨vb, 0, none⟩) news := fun i u hu => ⟨vb, 0, rfl, by rw [Nat.zero_add, hV.cell, hu]⟩
  have HA1 : Hid ((xs.drop (i * 4)).length = Nat.min (n + m - i) (n + m - (i + m)) * 4) := Lib.hid (by rw [hdl]; simp only [Nat.min_def]; split <;> omega)
  have HA2 : Hid (RowOf w.drew (some ⟨g, i * 4, none⟩) (xs.drop (i * 4))) := Lib.hid (fun j u hu => ⟨g, i * 4, rfl, by
    rw [hG.drew.cell]
    rw [List.getElem?_drop, hx, List.getElem?_take] at hu
    split at hu
    · exact hu
    · cases hu⟩)
  have HA3 : Hid ((i + m) * 4 + (xs.drop (i * 4)).length ≤ cur.length) := Lib.hid (by rw [hdl]; omega)
  have HA4 : Hid (∀ v ∈ xs.drop (i * 4), v.oneCell' = true) := Lib.hid (fun v hv => h2 v (List.mem_of_mem_drop hv))
  have HL1 : Hid ((splice cur ((i + m) * 4) (xs.drop (i * 4))).length = cur.length) := Lib.hid (length_splice _ _ _ HA3.out)
  have HB1 : Hid (news.length = Nat.min m (n + m - i) * 4) := Lib.hid (by rw [hnl]; simp only [Nat.min_def]; split <;> omega)
  have HB4 := Lib.hid h1
  have HX := Lib.hid hx
  have HNL := Lib.hid hnl
  have HXL := Lib.hid hxl
  have HCL := Lib.hid hcl
  have HSP := Lib.hid hsp
  unfold maxLen at hcm
  clear h1 h2 hx hnl hxl hcl hsp hdl
  go_enter Try.func56, Try.ntmps56
  go_wp2_with (simp only [h59])
  refine region_start (fun k => k = g) (by kernel_rfl) ?_
  try simp only [Act.put, List.setIfInBounds_toArray, List.set_cons_zero, List.set_cons_succ]
  refine region_take 0 69 (v := ?vca0) rfl rfl (by kernel_rfl) (by kernel_rfl) (by kernel_rfl) (fun _ _ _ h => h) (by rfl) (fun w' hS => ?hca0) ?rca0
  case hca0 => go_simp; with_reducible rfl
  try simp only [Act.put, List.setIfInBounds_toArray, List.set_cons_zero, List.set_cons_succ]
  refine region_take 1 70 (v := ?vca1) rfl rfl (by kernel_rfl) (by kernel_rfl) (by kernel_rfl) (fun _ _ _ h => h) (by rfl) (fun w' hS => ?hca1) ?rca1
  case hca1 => go_simp; with_reducible rfl
  try simp only [Act.put, List.setIfInBounds_toArray, List.set_cons_zero, List.set_cons_succ]
  refine region_take 2 71 (v := ?vca2) rfl rfl (by kernel_rfl) (by kernel_rfl) (by kernel_rfl) (fun _ _ _ h => h) (by rfl) (fun w' hS => ?hca2) ?rca2
  case hca2 => go_simp; with_reducible rfl
  try simp only [Act.put, List.setIfInBounds_toArray, List.set_cons_zero, List.set_cons_succ]
  refine region_take 3 72 (v := ?vca3) rfl rfl (by kernel_rfl) (by kernel_rfl) (by kernel_rfl) (fun _ _ _ h => h) (by rfl) (fun w' hS => ?hca3) ?rca3
  case hca3 => go_simp; with_reducible rfl
  try simp only [Act.put, List.setIfInBounds_toArray, List.set_cons_zero, List.set_cons_succ]
  refine region_take 4 73 (v := ?vca4) rfl rfl (by kernel_rfl) (by kernel_rfl) (by kernel_rfl) (fun _ _ _ h => h) (by rfl) (fun w' hS => ?hca4) ?rca4
  case hca4 => go_simp; with_reducible rfl
  try simp only [Act.put, List.setIfInBounds_toArray, List.set_cons_zero, List.set_cons_succ]
  refine region_take 5 74 (v := ?vca5) rfl rfl (by kernel_rfl) (by kernel_rfl) (by kernel_rfl) (fun _ _ _ h => h) (by rfl) (fun w' hS => ?hca5) ?rca5
  case hca5 => go_simp; with_reducible rfl
  try simp only [Act.put, List.setIfInBounds_toArray, List.set_cons_zero, List.set_cons_succ]
  refine region_take 6 75 (v := ?vca6) rfl rfl (by kernel_rfl) (by kernel_rfl) (by kernel_rfl) (fun _ _ _ h => h) (by rfl) (fun w' hS => ?hca6) ?rca6
  case hca6 => go_simp; with_reducible rfl
  try simp only [Act.put, List.setIfInBounds_toArray, List.set_cons_zero, List.set_cons_succ]
  refine region_take 7 76 (v := ?vca7) rfl rfl (by kernel_rfl) (by kernel_rfl) (by kernel_rfl) (fun _ _ _ h => h) (by rfl) (fun w' hS => ?hca7) ?rca7
  case hca7 => go_simp; with_reducible rfl
  try simp only [Act.put, List.setIfInBounds_toArray, List.set_cons_zero, List.set_cons_succ]
  refine wpAnyH_ready (rs := [8]) (by kernel_rfl) (by simp) (AllReadyH.cons rfl (fun K hK => ?_) AllReadyH.nil)
  refine step_copy_big rfl (.tmp 73) (.tmp 76) 22 22 rfl 24 4 Try.underlying22 (by kernel_rfl) (some ⟨g, (i + m) * 4, none⟩) (some ⟨g, i * 4, none⟩) (n + m - (i + m)) (c - (i + m)) (n + m - i) (c - i) rfl rfl g ((i + m) * 4) cur 24 hG.drew (xs.drop (i * 4)) HA1.out (fun _ => ⟨rfl, HA2.out⟩) HA3.out HA4.out ?_
  intro w2 hG2 hE2
  refine hK.out _ _ (hE2) (fun hHeld => ?_)
  clear hK K hHeld
  refine region_now (hE2) ?_
  try simp only [Act.put, List.setIfInBounds_toArray, List.set_cons_zero, List.set_cons_succ]
  refine wpAnyH_done (by kernel_rfl) ?_ _
  obtain ⟨L1, hL1⟩ : ∃ L1, L1 = splice cur ((i + m) * 4) (xs.drop (i * 4)) := ⟨_, rfl⟩
  rw [← hL1] at HL1 HSP hG2
  have hR2 : RowOf w2 (some ⟨vb, 0, none⟩) news := (show RowOf w.drew _ _ from hR).ext hE2 (fun a ha e => by cases ha; exact hne e)
  have HR2 := Lib.hid hR2
  have HE2 : Hid (Ext (fun k => k = g) w w2) := Lib.hid ((Ext.refl _ w).drew.trans hE2 (fun _ _ e => e))
  clear hL1 hR hR2 h59 hV hG HA1 HA2 HA3 HA4
  go_wp2_with (refine wpList_copy_big rfl (.tmp 80) (.tmp 81) 22 22 rfl 24 4 Try.underlying22 (by kernel_rfl) (some ⟨g, i * 4, none⟩) (some ⟨vb, 0, none⟩) (n + m - i) (c - i) m m rfl rfl g (i * 4) L1 24 hG2 news HB1.out (fun _ => ⟨rfl, HR2.out⟩) (by rw [HL1.out, HCL.out, HNL.out]; omega) HB4.out ?_; intro w3 hG3 hE3)
  have HG3 := Lib.hid hG3
  have HE3 := Lib.hid hE3
  clear hG3 hE3 hG2 hE2
  go_wp2_with fail
  go_ret
  refine ⟨some ⟨g, 0, none⟩, c, rfl, ⟨?_, Or.inr ⟨g, c, _, rfl, hB, HG3.out, hnc, by unfold maxLen; omega, ?_, by simpa using HSP.out⟩⟩, HE2.out.trans HE3.out (fun _ _ e => e)⟩
  · simp only [List.length_append, List.length_take, List.length_drop, HNL.out, HXL.out]; omega
  · have := length_splice L1 (i * 4) news (by rw [HL1.out, HCL.out, HNL.out]; omega)
    simp only [List.size_toArray, this, HL1.out, HCL.out]
set_option maxHeartbeats 2000000 in
set_option maxRecDepth 100000 in
theorem insert_grow (B g n c i : Nat) (xs : List Value) (vb m : Nat) (news : List Value) (w : World) (hG : RowOf w (some ⟨g, 0, none⟩) xs) (hxl : xs.length = n * 4) (hnc : n ≤ c) (hroom : c < n + m) (hV : BlockIs w vb news 24) (hnl : news.length = m * 4) (hm : 0 < m) (hm2 : m ≤ 2) (hn : n ≤ 100000) (hi : i < n) (hB : B ≤ w.heap.size) (h1 : ∀ u ∈ news, u.oneCell' = true) (h2 : ∀ u ∈ xs, u.oneCell' = true) :
    Calls Try.prog 56 #[.slice (some ⟨g, 0, none⟩) n c, .int .i64 i, .slice (some ⟨vb, 0, none⟩) m m] w (OwnTo B (n + m) (xs.take (i * 4) ++ (news ++ xs.drop (i * 4))) (fun k => False) w) := by
  have hdl : (xs.drop (i * 4)).length = (n - i) * 4 := by rw [List.length_drop, hxl]; omega
  have htl : (xs.take (i * 4)).length = i * 4 := by rw [List.length_take, hxl]; omega
  have hsub : IntKind.i64.wrap ((n : Int) + (m : Int) - (i : Int)) = ((n + m - i : Nat) : Int) := by rw [IntKind.wrap_i64]; omega
  have hw1 : IntKind.i64.wrap ((i : Int) + (m : Int)) = (i : Int) + (m : Int) := by rw [IntKind.wrap_i64]; omega
  have hb1 : (0 : Int) ≤ (i : Int) + (m : Int) := by omega
  have htn : ((i : Int) + (m : Int)).toNat = i + m := by omega
  have hb4 : ¬ (c = i) := by omega
  have hz1 : ¬ ((m : Int) = 0) := by omega
  have hz2 : ¬ ((i : Int) = (n : Int)) := by omega
  have hz3 : (c : Int) < (n : Int) + (m : Int) := by omega
  have hin : i ≤ n := by omega
  have hR : RowOf w (some ⟨vb, 0, none⟩) news := fun i u hu => ⟨vb, 0, rfl, by rw [Nat.zero_add, hV.cell, hu]⟩
  have HT : Hid (RowOf w (some ⟨g, 0, none⟩) (xs.take (i * 4))) := Lib.hid (row_take hG _)
  have HD : Hid (RowOf w (some ⟨g, i * 4, none⟩) (xs.drop (i * 4))) := Lib.hid (by simpa [addr_add] using row_drop hG (i * 4))
  have HR := Lib.hid hR
  have HDL := Lib.hid hdl
  have HTL := Lib.hid htl
  have HXL := Lib.hid hxl
  have HNL := Lib.hid hnl
  have H1 := Lib.hid h1
  have H2 := Lib.hid h2
  have HVB := Lib.hid hV.lt
  clear hR hdl htl hxl hnl h1 h2 hG hV
  go_enter Try.func56, Try.ntmps56
  go_wp2_with (first
    | (at_builtin
       refine wpList_append_make rfl (.tmp 34) (.tmp 39) 22 3 rfl 24 Try.underlying22 Try.underlying3 (.agg #[.int .i64 0, .int .i64 0, .string ⟨#[]⟩, .slice none 0 0]) 4 56 info24 rfl (by decide) (some ⟨g, 0, none⟩) i c (n + m - i) (xs.take (i * 4)) rfl (by simp [go_sem, hsub]) HTL.out (fun _ => HT.out) (fun e => by cases e) (by omega) (by omega) (by omega) (by unfold maxLen; omega) ?_
       intro w2 G rest hG2 hGl hGn hGm hE2
       have hre : i + (n + m - i) = n + m := by omega
       rw [hre] at hGn ⊢
       obtain ⟨C0, hC0⟩ : ∃ C0, C0 = xs.take (i * 4) ++ rest := ⟨_, rfl⟩
       have hCl : C0.length = G * 4 := by rw [hC0, List.length_append]; omega
       have hsp := splice_ins2 (xs := xs) (rest := rest) (n := n) (i := i) (m := m) HXL.out (by omega) HNL.out (by rw [← hC0, hCl]; omega)
       rw [← hC0] at hG2 hsp
       have hb5 : ¬ (G = i) := by omega
       have hb6 : ¬ (G = i + m) := by omega
       have hb7 : (i : Int) ≤ (n : Int) + (m : Int) := by omega
       have hR2 : RowOf w2 (some ⟨vb, 0, none⟩) news := HR.out.ext hE2 (fun _ _ => id)
       have HR2 := Lib.hid hR2
       have HB1 : Hid (news.length = Nat.min m (n + m - i) * 4) := Lib.hid (by rw [HNL.out]; simp only [Nat.min_def]; split <;> omega)
       have HCl := Lib.hid hCl
       have HSP := Lib.hid hsp
       have HE2 := Lib.hid hE2
       obtain ⟨H, hH⟩ : ∃ H, H = w.heap.size := ⟨_, rfl⟩
       rw [← hH] at hG2 ⊢
       have HH := Lib.hid hH
       clear hC0 hCl hsp hR2 hre hH hGl)
    | (refine wpList_copy_big rfl (.tmp 43) (.tmp 44) 22 22 rfl 24 4 Try.underlying22 (by kernel_rfl) (some ⟨H, i * 4, none⟩) (some ⟨vb, 0, none⟩) (n + m - i) (G - i) m m rfl rfl H (i * 4) C0 24 hG2 news HB1.out (fun _ => ⟨rfl, HR2.out⟩) (by rw [HCl.out, HNL.out]; omega) H1.out ?_; intro w3 hG3 hE3))
  obtain ⟨L1, hL1⟩ : ∃ L1, L1 = splice C0 (i * 4) news := ⟨_, rfl⟩
  have hLl : L1.length = G * 4 := by rw [hL1, length_splice C0 (i * 4) news (by rw [HCl.out, HNL.out]; omega)]; exact HCl.out
  rw [← hL1] at hG3
  have HSP2 : Hid ((splice L1 ((i + m) * 4) (xs.drop (i * 4))).take ((n + m) * 4) = xs.take (i * 4) ++ (news ++ xs.drop (i * 4))) := Lib.hid (by rw [hL1]; exact HSP.out)
  have HLl := Lib.hid hLl
  have hE03 : Ext (fun _ => False) w w3 := HE2.out.trans hE3 (fun k hk e => by rw [e, HH.out] at hk; exact absurd hk (Nat.lt_irrefl _))
  have HA1 : Hid ((xs.drop (i * 4)).length = Nat.min (n - i) (n + m - (i + m)) * 4) := Lib.hid (by rw [HDL.out]; simp only [Nat.min_def]; split <;> omega)
  have HA2 : Hid (RowOf w3.drew (some ⟨g, i * 4, none⟩) (xs.drop (i * 4))) := Lib.hid (HD.out.ext hE03.drew (fun _ _ => id))
  have HA3 : Hid ((i + m) * 4 + (xs.drop (i * 4)).length ≤ L1.length) := Lib.hid (by rw [HLl.out, HDL.out]; omega)
  have HA4 : Hid (∀ v ∈ xs.drop (i * 4), v.oneCell' = true) := Lib.hid (fun v hv => H2.out v (List.mem_of_mem_drop hv))
  have HE03 := Lib.hid hE03
  clear hL1 hLl hE03 HR2 HB1 HSP
  go_wp2_with fail
  refine region_start (fun k => k = H) (by kernel_rfl) ?_
  try simp only [Act.put, List.setIfInBounds_toArray, List.set_cons_zero, List.set_cons_succ]
  refine region_take 0 46 (v := ?vcb0) rfl rfl (by kernel_rfl) (by kernel_rfl) (by kernel_rfl) (fun _ _ _ h => h) (by rfl) (fun w' hS => ?hcb0) ?rcb0
  case hcb0 => go_simp; with_reducible rfl
  try simp only [Act.put, List.setIfInBounds_toArray, List.set_cons_zero, List.set_cons_succ]
  refine region_take 1 47 (v := ?vcb1) rfl rfl (by kernel_rfl) (by kernel_rfl) (by kernel_rfl) (fun _ _ _ h => h) (by rfl) (fun w' hS => ?hcb1) ?rcb1
  case hcb1 => go_simp; with_reducible rfl
  try simp only [Act.put, List.setIfInBounds_toArray, List.set_cons_zero, List.set_cons_succ]
  refine region_take 2 48 (v := ?vcb2) rfl rfl (by kernel_rfl) (by kernel_rfl) (by kernel_rfl) (fun _ _ _ h => h) (by rfl) (fun w' hS => ?hcb2) ?rcb2
  case hcb2 => go_simp; with_reducible rfl
  try simp only [Act.put, List.setIfInBounds_toArray, List.set_cons_zero, List.set_cons_succ]
  refine region_take 3 49 (v := ?vcb3) rfl rfl (by kernel_rfl) (by kernel_rfl) (by kernel_rfl) (fun _ _ _ h => h) (by rfl) (fun w' hS => ?hcb3) ?rcb3
  case hcb3 => go_simp; with_reducible rfl
  try simp only [Act.put, List.setIfInBounds_toArray, List.set_cons_zero, List.set_cons_succ]
  refine region_take 4 50 (v := ?vcb4) rfl rfl (by kernel_rfl) (by kernel_rfl) (by kernel_rfl) (fun _ _ _ h => h) (by rfl) (fun w' hS => ?hcb4) ?rcb4
  case hcb4 => go_simp; with_reducible rfl
  try simp only [Act.put, List.setIfInBounds_toArray, List.set_cons_zero, List.set_cons_succ]
  refine region_take 5 51 (v := ?vcb5) rfl rfl (by kernel_rfl) (by kernel_rfl) (by kernel_rfl) (fun _ _ _ h => h) (by rfl) (fun w' hS => ?hcb5) ?rcb5
  case hcb5 => go_simp; with_reducible rfl
  try simp only [Act.put, List.setIfInBounds_toArray, List.set_cons_zero, List.set_cons_succ]
  refine region_take 6 52 (v := ?vcb6) rfl rfl (by kernel_rfl) (by kernel_rfl) (by kernel_rfl) (fun _ _ _ h => h) (by rfl) (fun w' hS => ?hcb6) ?rcb6
  case hcb6 => go_simp; with_reducible rfl
  try simp only [Act.put, List.setIfInBounds_toArray, List.set_cons_zero, List.set_cons_succ]
  refine region_take 7 53 (v := ?vcb7) rfl rfl (by kernel_rfl) (by kernel_rfl) (by kernel_rfl) (fun _ _ _ h => h) (by rfl) (fun w' hS => ?hcb7) ?rcb7
  case hcb7 => go_simp; with_reducible rfl
  try simp only [Act.put, List.setIfInBounds_toArray, List.set_cons_zero, List.set_cons_succ]
  refine wpAnyH_ready (rs := [8]) (by kernel_rfl) (by simp) (AllReadyH.cons rfl (fun K hK => ?_) AllReadyH.nil)
  refine step_copy_big rfl (.tmp 50) (.tmp 53) 22 22 rfl 24 4 Try.underlying22 (by kernel_rfl) (some ⟨H, (i + m) * 4, none⟩) (some ⟨g, i * 4, none⟩) (n + m - (i + m)) (G - (i + m)) (n - i) (c - i) rfl rfl H ((i + m) * 4) L1 24 hG3.drew (xs.drop (i * 4)) HA1.out (fun _ => ⟨rfl, HA2.out⟩) HA3.out HA4.out ?_
  intro w4 hG4 hE4
  refine hK.out _ _ (hE4) (fun hHeld => ?_)
  clear hK K hHeld
  refine region_now (hE4) ?_
  try simp only [Act.put, List.setIfInBounds_toArray, List.set_cons_zero, List.set_cons_succ]
  refine wpAnyH_done (by kernel_rfl) ?_ _
  have HG4 := Lib.hid hG4
  have HE4 : Hid (Ext (fun _ => False) w w4) := Lib.hid (HE03.out.drew.trans hE4 (fun k hk e => by rw [e, HH.out] at hk; exact absurd hk (Nat.lt_irrefl _)))
  clear hG4 hE4 hG3 hE3 hG2 hE2
  go_wp2_with fail
  go_ret
  refine ⟨some ⟨H, 0, none⟩, G, rfl, ⟨?_, Or.inr ⟨H, G, _, rfl, by rw [HH.out]; exact hB, HG4.out, hGn, by assumption, ?_, by simpa using HSP2.out⟩⟩, HE4.out⟩
  · simp only [List.length_append, HNL.out, HTL.out, HDL.out]; omega
  · have := length_splice L1 ((i + m) * 4) (xs.drop (i * 4)) HA3.out
    simp only [List.size_toArray, this, HLl.out]
end Go.Proofs.Ytnibjjpohhknkaa
