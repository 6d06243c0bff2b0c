/-
  Walked: slices.Insert whatever the place, slices.Replace of one value, slices.Delete, at a row of the call's own.
-/
import Derived.Test.YtnibjjpohhknkaaIns
namespace Go.Proofs.Ytnibjjpohhknkaa
open Go.RowKit
set_option linter.unusedVariables false
set_option linter.unusedSimpArgs false

theorem OwnTo.mono {B n : Nat} {xs : List Value} {T T' : Nat → Prop} {w : World} {e : Ending} {w' : World} (h : OwnTo B n xs T w e w') (hT : ∀ i, i < w.heap.size → T i → T' i) : OwnTo B n xs T' w e w' := by
  obtain ⟨a, c, h1, h2, h3⟩ := h
  exact ⟨a, c, h1, h2, h3.mono hT⟩
theorem insert_any (B : Nat) (a : Option Addr) (n c i : Nat) (xs : List Value) (vb m : Nat) (news : List Value) (w : World) (hO : w.ownsRow B 24 4 (.slice a n c) n xs) (hV : BlockIs w vb news 24) (hne : (Value.slice a n c).ownBlock ≠ some vb) (hnl : news.length = m * 4) (hm : 0 < m) (hm2 : m ≤ 2) (hn : n ≤ 100000) (hi : i ≤ n) (hB : B ≤ w.heap.size) (h1 : ∀ u ∈ news, u.oneCell' = true) (h2 : ∀ u ∈ xs, u.oneCell' = true) :
    Calls Try.prog 56 #[.slice a n c, .int .i64 i, .slice (some ⟨vb, 0, none⟩) m m] w (OwnTo B (n + m) (xs.take (i * 4) ++ (news ++ xs.drop (i * 4))) (fun k => (Value.slice a n c).ownBlock = some k) w) := by
  have hxl := hO.1
  by_cases he : i = n
  · subst he
    have := insert_end B a i c xs vb m news w hO hV hnl hm hm2 hn hB h1
    rw [List.take_of_length_le (by omega), List.drop_eq_nil_of_le (by omega), List.append_nil]
    exact this
  · rcases hO.2 with ⟨hv, rfl⟩ | ⟨g, cap, cur, hv, hg, hh, e1, e2, e3, e4⟩
    · omega
    · cases hv
      have hG : BlockIs w g cur.toList 24 := hh
      have e3' : cur.toList.length = c * 4 := by simpa using e3
      by_cases hr : n + m ≤ c
      · have := insert_room B g n c i cur.toList vb m news w hG e3' hr e2 hV (fun e => hne (by rw [e]; rfl)) hnl hm hm2 hn (by omega) hg h1 (by rw [e4]; exact h2)
        rw [e4] at this
        exact this.mono fun e w' h => h.mono (fun k _ hk => by subst hk; rfl)
      · have hR : RowOf w (some ⟨g, 0, none⟩) xs := own_row hO
        exact (insert_grow B g n c i xs vb m news w hR hxl e1 (by omega) hV hnl hm hm2 hn (by omega) hB h1 h2).mono fun e w' h => h.mono (fun k _ hk => hk.elim)
set_option maxHeartbeats 2000000 in
set_option maxRecDepth 100000 in
theorem replace_last (B : Nat) (a : Option Addr) (n c i : Nat) (xs : List Value) (vb : Nat) (news : List Value) (w : World) (hO : w.ownsRow B 24 4 (.slice a n c) n xs) (hV : BlockIs w vb news 24) (hnl : news.length = 4) (hn : n ≤ 100000) (hi : i + 1 = n) (hB : B ≤ w.heap.size) (h1 : ∀ u ∈ news, u.oneCell' = true) :
    Calls Try.prog 55 #[.slice a n c, .int .i64 i, .int .i64 n, .slice (some ⟨vb, 0, none⟩) 1 1] w (OwnTo B n (xs.take (i * 4) ++ news) (fun k => (Value.slice a n c).ownBlock = some k) w) := by
  obtain ⟨a0, c0, he, hnc, hcm, hnil, _⟩ := own_form hO
  cases he
  cases a with
  | none => have := hnil rfl; omega
  | some ad =>
  have hO2 := own_cut hO i (by omega) (fun e => by cases e)
  have had : ∃ g, ad = ⟨g, 0, none⟩ := by
    rcases hO.2 with ⟨hv, _⟩ | ⟨g, cap, cur, hv, _⟩
    · cases hv
    · cases hv; exact ⟨g, rfl⟩
  obtain ⟨g, rfl⟩ := had
  have HO := Lib.hid hO2
  have hR : RowOf w (some ⟨vb, 0, none⟩) news := fun i u hu => ⟨vb, 0, rfl, by rw [Nat.zero_add, hV.cell, hu]⟩
  have HR := Lib.hid hR
  have HL : Hid (news.length = 1 * 4) := Lib.hid (by rw [hnl])
  have H1 := Lib.hid h1
  have HI := Lib.hid hi
  have hz0 : ¬ (i : Int) = (n : Int) := by omega
  have hle : i ≤ n := by omega
  have hlc : i ≤ c := by omega
  have hnn : n ≤ n := Nat.le_refl n
  unfold maxLen at hcm
  clear hO hO2 hV hR hnl h1
  go_enter Try.func55, Try.ntmps55
  go_wp2_with (at_builtin; refine wpList_append_any rfl (.tmp 32) (.tmp 33) 22 rfl B 24 (.agg #[.int .i64 0, .int .i64 0, .string ⟨#[]⟩, .slice none 0 0]) 4 56 Try.underlying22 info24 rfl (by decide) _ i (xs.take (i * 4)) rfl HO.out (some ⟨vb, 0, none⟩) 1 1 news rfl (fun e => by cases e) HL.out HR.out H1.out n HI.out (xs.take (i * 4) ++ news) rfl (by omega) (by unfold maxLen; omega) hB ?_)
  intro a' c' w' hO' hg
  have hE := Lib.hid (ext_of_grown hg)
  have HO' := Lib.hid hO'
  clear hO' hg
  go_wp2_with fail
  go_ret
  exact ⟨a', c', rfl, HO'.out, hE.out⟩
theorem zero_cells : ∀ v ∈ (Value.agg #[.int .i64 0, .int .i64 0, .string ⟨#[]⟩, .slice none 0 0]).cells, v.oneCell' = true := by
  intro u hu
  simp only [Value.cells, List.mem_toArray, List.mem_cons, List.not_mem_nil, or_false] at hu
  rcases hu with rfl | rfl | rfl | rfl <;> rfl
theorem splice_self {α : Type} {L tail : List α} {k : Nat} (h : (L.drop k).take tail.length = tail) (hl : k + tail.length ≤ L.length) : splice L k tail = L := by
  rw [splice]
  conv => rhs; rw [← List.take_append_drop k L, ← List.take_append_drop tail.length (L.drop k), h, List.drop_drop]
theorem splice_rep {α : Type} {cur xs news : List α} {n i : Nat} (hx : cur.take (n * 4) = xs) (hi : i + 1 < n) (hnl : news.length = 4) (hl : n * 4 ≤ cur.length) :
    splice (splice cur (i * 4) news) ((i + 1) * 4) (xs.drop ((i + 1) * 4)) = splice cur (i * 4) news ∧ (splice cur (i * 4) news).take (n * 4) = xs.take (i * 4) ++ (news ++ xs.drop ((i + 1) * 4)) := by
  have hxl : xs.length = n * 4 := by rw [← hx, List.length_take]; omega
  have hd : (xs.drop ((i + 1) * 4)).length = (n - (i + 1)) * 4 := by rw [List.length_drop, hxl]; omega
  have e : splice cur (i * 4) news = xs.take (i * 4) ++ (news ++ (xs.drop ((i + 1) * 4) ++ cur.drop (n * 4))) := by
    rw [splice, ← hx, List.take_take, Nat.min_eq_left (by omega), hnl, List.drop_take]
    congr 2
    rw [show i * 4 + 4 = (i + 1) * 4 by omega]
    conv => lhs; rw [← List.take_append_drop (n * 4 - (i + 1) * 4) (cur.drop ((i + 1) * 4)), List.drop_drop, show (i + 1) * 4 + (n * 4 - (i + 1) * 4) = n * 4 by omega]
  have ht : (xs.take (i * 4)).length = i * 4 := by rw [List.length_take, hxl]; omega
  refine ⟨splice_self ?_ (by rw [length_splice _ _ _ (by omega)]; omega), ?_⟩
  · rw [e, ← List.append_assoc, List.drop_left' (by simp only [List.length_append, ht, hnl]; omega), List.take_left' rfl]
  · rw [e, take3]; rw [ht, hnl, hd]; omega
set_option maxHeartbeats 2000000 in
set_option maxRecDepth 100000 in
theorem replace_mid (B g n c i : Nat) (cur : List Value) (vb : Nat) (news : List Value) (w : World) (hG : BlockIs w g cur 24) (hcl : cur.length = c * 4) (hnc : n ≤ c) (hcm : c ≤ maxLen) (hV : BlockIs w vb news 24) (hnl : news.length = 4) (hn : n ≤ 100000) (hi : i + 1 < n) (hB : B ≤ g) (h1 : ∀ u ∈ news, u.oneCell' = true) (h2 : ∀ u ∈ cur.take (n * 4), u.oneCell' = true) :
    Calls Try.prog 55 #[.slice (some ⟨g, 0, none⟩) n c, .int .i64 i, .int .i64 ((i + 1 : Nat) : Int), .slice (some ⟨vb, 0, none⟩) 1 1] w (OwnTo B n ((cur.take (n * 4)).take (i * 4) ++ (news ++ (cur.take (n * 4)).drop ((i + 1) * 4))) (fun k => k = g) w) := by
  obtain ⟨xs, hx⟩ : ∃ xs, xs = cur.take (n * 4) := ⟨_, rfl⟩
  rw [← hx] at h2 ⊢
  have hxl : xs.length = n * 4 := by rw [hx, List.length_take]; omega
  obtain ⟨hsp1, hsp2⟩ := splice_rep (cur := cur) (n := n) (i := i) hx.symm hi hnl (by omega)
  obtain ⟨j, hj⟩ : ∃ j, j = i + 1 := ⟨_, rfl⟩
  rw [← hj] at hsp1 hsp2 hi ⊢
  have hR : RowOf w.drew (some ⟨vb, 0, none⟩) news := fun i u hu => ⟨vb, 0, rfl, by rw [Nat.zero_add, hV.drew.cell, hu]⟩
  have HA1 : Hid ((xs.drop (j * 4)).length = Nat.min (n - j) (n - j) * 4) := Lib.hid (by rw [List.length_drop, hxl, show Nat.min (n - j) (n - j) = n - j from Nat.min_self _]; omega)
  have HB1 : Hid (news.length = Nat.min 1 (n - i) * 4) := Lib.hid (by rw [hnl]; simp only [Nat.min_def]; split <;> omega)
  have HB3 : Hid (i * 4 + news.length ≤ cur.length) := Lib.hid (by rw [hnl, hcl]; omega)
  have hL1 := length_splice cur (i * 4) news HB3.out
  have HA3 : Hid (j * 4 + (xs.drop (j * 4)).length ≤ (splice cur (i * 4) news).length) := Lib.hid (by rw [hL1, List.length_drop, hxl, hcl]; omega)
  have HA4 : Hid (∀ v ∈ xs.drop (j * 4), v.oneCell' = true) := Lib.hid (fun v hv => h2 v (List.mem_of_mem_drop hv))
  have hrow : ∀ k u, (xs.drop (j * 4))[k]? = some u → (splice cur (i * 4) news)[j * 4 + k]? = some u := by
    intro k u hu
    have e := congrArg (fun L => L[j * 4 + k]?) hsp1.symm
    rw [show (splice cur (i * 4) news)[j * 4 + k]? = (splice (splice cur (i * 4) news) (j * 4) (xs.drop (j * 4)))[j * 4 + k]? from e, splice, List.getElem?_append_right (by rw [List.length_take, hL1]; omega)]
    rw [show j * 4 + k - (List.take (j * 4) (splice cur (i * 4) news)).length = k by rw [List.length_take, hL1]; omega]
    rw [List.getElem?_append_left (List.getElem?_eq_some_iff.1 hu).1]
    exact hu
  have HRow := Lib.hid hrow
  have HR := Lib.hid hR
  have HH1 := Lib.hid h1
  have HSP1 := Lib.hid hsp1
  have HSP2 := Lib.hid hsp2
  have HX := Lib.hid hx
  have HNL := Lib.hid hnl
  have HXL := Lib.hid hxl
  have HCL := Lib.hid hcl
  have HL1 := Lib.hid hL1
  have HJ := Lib.hid hj
  have hij : i ≤ j := by omega
  have hjn : j < n := by omega
  have hjn' : j ≤ n := by omega
  have hin : i ≤ n := by omega
  have hic : i ≤ c := by omega
  have hz1 : ¬ (i : Int) = (j : Int) := by omega
  have hz2 : ¬ (j : Int) = (n : Int) := by omega
  have hw1 : IntKind.i64.wrap ((i : Int) + 1) = (j : Int) := by rw [IntKind.wrap_i64]; omega
  have hw2 : (j : Int) + ((n - j : Nat) : Int) = (n : Int) := by omega
  have hw3 : IntKind.i64.wrap (n : Int) = (n : Int) := by rw [IntKind.wrap_i64]; omega
  have hwj : IntKind.i64.wrap (j : Int) = (j : Int) := by rw [IntKind.wrap_i64]; omega
  have hb0 : (0 : Int) ≤ (j : Int) := by omega
  have htj : ((j : Int)).toNat = j := by omega
  have hcn : ¬ (c : Int) < (n : Int) := by omega
  have hjj : (j : Int) ≤ (j : Int) := Int.le_refl _
  have hij1 : (i : Int) + 1 = (j : Int) := by omega
  have hci : ¬ (c = i) := by omega
  have hcj : ¬ (c = j) := by omega
  unfold maxLen at hcm
  clear h1 h2 hx hnl hxl hcl hsp1 hsp2 hR hrow hL1 hj
  go_enter Try.func55, Try.ntmps55
  go_wp2_with fail
  go_quiet (fail)
  go_wp2_with (refine wpList_copy_big rfl (.tmp 95) (.tmp 96) 22 22 rfl 24 4 Try.underlying22 (by kernel_rfl) (some ⟨g, i * 4, none⟩) (some ⟨vb, 0, none⟩) (n - i) (c - i) 1 1 rfl rfl g (i * 4) cur 24 hG.drew news HB1.out (fun _ => ⟨rfl, HR.out⟩) HB3.out HH1.out ?_; intro w3 hG3 hE3)
  obtain ⟨L1, hL1⟩ : ∃ L1, L1 = splice cur (i * 4) news := ⟨_, rfl⟩
  rw [← hL1] at hG3 HSP1 HSP2 HL1 HA3 HRow
  have HA2 : Hid (RowOf w3.drew (some ⟨g, j * 4, none⟩) (xs.drop (j * 4))) := Lib.hid (fun k u hu => ⟨g, j * 4, rfl, by rw [hG3.drew.cell]; exact HRow.out k u hu⟩)
  have hE03 : Ext (fun k => k = g) w w3 := ((Ext.refl _ w).drewN nq).trans hE3 (fun _ _ e => e)
  have HE03 := Lib.hid hE03
  clear hL1 hE03 HR HB1
  go_wp2_with fail
  refine region_start (fun k => k = g) (by kernel_rfl) ?_
  try simp only [Act.put, List.setIfInBounds_toArray, List.set_cons_zero, List.set_cons_succ]
  refine region_take 0 98 (v := ?vca0) rfl rfl (by kernel_rfl) (by kernel_rfl) (by kernel_rfl) (fun _ _ _ h => h) (by rfl) (fun w' hS => ?hca0) ?rca0
  case hca0 => go_simp; with_reducible rfl
  try simp only [Act.put, List.setIfInBounds_toArray, List.set_cons_zero, List.set_cons_succ]
  refine region_take 1 99 (v := ?vca1) rfl rfl (by kernel_rfl) (by kernel_rfl) (by kernel_rfl) (fun _ _ _ h => h) (by rfl) (fun w' hS => ?hca1) ?rca1
  case hca1 => go_simp; with_reducible rfl
  try simp only [Act.put, List.setIfInBounds_toArray, List.set_cons_zero, List.set_cons_succ]
  refine region_take 2 100 (v := ?vca2) rfl rfl (by kernel_rfl) (by kernel_rfl) (by kernel_rfl) (fun _ _ _ h => h) (by rfl) (fun w' hS => ?hca2) ?rca2
  case hca2 => go_simp; with_reducible rfl
  try simp only [Act.put, List.setIfInBounds_toArray, List.set_cons_zero, List.set_cons_succ]
  refine region_take 3 101 (v := ?vca3) rfl rfl (by kernel_rfl) (by kernel_rfl) (by kernel_rfl) (fun _ _ _ h => h) (by rfl) (fun w' hS => ?hca3) ?rca3
  case hca3 => go_simp; with_reducible rfl
  try simp only [Act.put, List.setIfInBounds_toArray, List.set_cons_zero, List.set_cons_succ]
  refine region_take 4 102 (v := ?vca4) rfl rfl (by kernel_rfl) (by kernel_rfl) (by kernel_rfl) (fun _ _ _ h => h) (by rfl) (fun w' hS => ?hca4) ?rca4
  case hca4 => go_simp; with_reducible rfl
  try simp only [Act.put, List.setIfInBounds_toArray, List.set_cons_zero, List.set_cons_succ]
  refine region_take 5 103 (v := ?vca5) rfl rfl (by kernel_rfl) (by kernel_rfl) (by kernel_rfl) (fun _ _ _ h => h) (by rfl) (fun w' hS => ?hca5) ?rca5
  case hca5 => go_simp; with_reducible rfl
  try simp only [Act.put, List.setIfInBounds_toArray, List.set_cons_zero, List.set_cons_succ]
  refine region_take 6 104 (v := ?vca6) rfl rfl (by kernel_rfl) (by kernel_rfl) (by kernel_rfl) (fun _ _ _ h => h) (by rfl) (fun w' hS => ?hca6) ?rca6
  case hca6 => go_simp; with_reducible rfl
  try simp only [Act.put, List.setIfInBounds_toArray, List.set_cons_zero, List.set_cons_succ]
  refine region_take 7 105 (v := ?vca7) rfl rfl (by kernel_rfl) (by kernel_rfl) (by kernel_rfl) (fun _ _ _ h => h) (by rfl) (fun w' hS => ?hca7) ?rca7
  case hca7 => go_simp; with_reducible rfl
  try simp only [Act.put, List.setIfInBounds_toArray, List.set_cons_zero, List.set_cons_succ]
  refine region_take 8 106 (v := ?vca8) rfl rfl (by kernel_rfl) (by kernel_rfl) (by kernel_rfl) (fun _ _ _ h => h) (by rfl) (fun w' hS => ?hca8) ?rca8
  case hca8 => go_simp; with_reducible rfl
  try simp only [Act.put, List.setIfInBounds_toArray, List.set_cons_zero, List.set_cons_succ]
  refine wpAnyH_ready (rs := [9]) (by kernel_rfl) (by simp) (AllReadyH.cons rfl (fun K hK => ?_) AllReadyH.nil)
  refine step_copy_big rfl (.tmp 103) (.tmp 106) 22 22 rfl 24 4 Try.underlying22 (by kernel_rfl) (some ⟨g, j * 4, none⟩) (some ⟨g, j * 4, none⟩) (n - j) (c - j) (n - j) (c - j) rfl rfl g (j * 4) L1 24 hG3.drew (xs.drop (j * 4)) HA1.out (fun _ => ⟨rfl, HA2.out⟩) HA3.out HA4.out ?_
  intro w4 hG4 hE4
  refine hK.out _ _ (hE4) (fun hHeld => ?_)
  clear hK K hHeld
  refine region_now (hE4) ?_
  try simp only [Act.put, List.setIfInBounds_toArray, List.set_cons_zero, List.set_cons_succ]
  refine wpAnyH_done (by kernel_rfl) ?_ _
  rw [HSP1.out] at hG4
  have hE04 : Ext (fun k => k = g) w w4 := HE03.out.drew.trans hE4 (fun _ _ e => e)
  have HE04 := Lib.hid hE04
  clear hG3 hE3 hE4 hE04 HE03
  have HN4 : Hid (n * 4 ≤ L1.length) := Lib.hid (by rw [HL1.out, HCL.out]; omega)
  have HNc := Lib.hid (show n ≤ c from hnc)
  have HHB := Lib.hid hB
  by_cases hcn2 : n = c
  · subst hcn2
    go_wp2_with (refine wpList_clear_big rfl (.tmp 110) 22 rfl 24 Try.underlying22 (.agg #[.int .i64 0, .int .i64 0, .string ⟨#[]⟩, .slice none 0 0]) (fun w => by kernel_rfl) zero_cells _ 0 _ rfl g (n * 4) L1 24 hG4 (fun e => absurd e (Nat.lt_irrefl 0)) (by have := HN4.out; omega) ?_; intro w5 cur5 hG5 hl5 ht5 hE5)
    have HG5 := Lib.hid hG5
    have HL5 := Lib.hid hl5
    have HT5 := Lib.hid ht5
    have HE5 := Lib.hid hE5
    clear hG5 hl5 ht5 hE5 hG4
    go_wp2_with fail
    go_ret
    refine ⟨some ⟨g, 0, none⟩, n, rfl, ⟨?_, Or.inr ⟨g, n, _, rfl, HHB.out, HG5.out, Nat.le_refl _, by unfold maxLen; omega, ?_, by simp only [List.toList_toArray]; rw [HT5.out, HSP2.out]⟩⟩, HE04.out.trans HE5.out (fun _ _ e => e)⟩
    · simp only [List.length_append, List.length_take, List.length_drop, HNL.out, HXL.out]; have := HJ.out; omega
    · simp only [List.size_toArray, HL5.out, HL1.out, HCL.out]
  · have hcn3 : ¬ (c = n) := fun e => hcn2 e.symm
    go_wp2_with (refine wpList_clear_big rfl (.tmp 110) 22 rfl 24 Try.underlying22 (.agg #[.int .i64 0, .int .i64 0, .string ⟨#[]⟩, .slice none 0 0]) (fun w => by kernel_rfl) zero_cells _ 0 _ rfl g (n * 4) L1 24 hG4 (fun e => absurd e (Nat.lt_irrefl 0)) (by have := HN4.out; omega) ?_; intro w5 cur5 hG5 hl5 ht5 hE5)
    have HG5 := Lib.hid hG5
    have HL5 := Lib.hid hl5
    have HT5 := Lib.hid ht5
    have HE5 := Lib.hid hE5
    clear hG5 hl5 ht5 hE5 hG4
    go_wp2_with fail
    go_ret
    refine ⟨some ⟨g, 0, none⟩, c, rfl, ⟨?_, Or.inr ⟨g, c, _, rfl, HHB.out, HG5.out, HNc.out, by unfold maxLen; omega, ?_, by simp only [List.toList_toArray]; rw [HT5.out, HSP2.out]⟩⟩, HE04.out.trans HE5.out (fun _ _ e => e)⟩
    · simp only [List.length_append, List.length_take, List.length_drop, HNL.out, HXL.out]; have := HJ.out; omega
    · simp only [List.size_toArray, HL5.out, HL1.out, HCL.out]
set_option maxHeartbeats 1000000 in
set_option maxRecDepth 100000 in
theorem replace_none (B : Nat) (a : Option Addr) (n c : Nat) (xs : List Value) (vb : Nat) (news : List Value) (w : World) (hO : w.ownsRow B 24 4 (.slice a n c) n xs) (hV : BlockIs w vb news 24) (hnl : news.length = 4) (hn : n ≤ 100000) (hn0 : 0 < n) (hB : B ≤ w.heap.size) (h1 : ∀ u ∈ news, u.oneCell' = true) :
    Calls Try.prog 55 #[.slice a n c, .int .i64 n, .int .i64 n, .slice (some ⟨vb, 0, none⟩) 1 1] w (OwnTo B (n + 1) (xs ++ news) (fun k => (Value.slice a n c).ownBlock = some k) w) := by
  obtain ⟨a0, c0, he, hnc, hcm, hnil, _⟩ := own_form hO
  cases he
  have HC := Lib.hid (insert_end B a n c xs vb 1 news w hO hV (by rw [hnl]) (by omega) (by omega) hn hB h1)
  have hnn : n ≤ n := Nat.le_refl n
  unfold maxLen at hcm
  cases a with
  | none => have := hnil rfl; omega
  | some ad =>
  clear hO hV
  rcases Decidable.em (c = n) with rfl | hcn
  all_goals
    go_enter Try.func55, Try.ntmps55
    go_wp2_with fail
    refine HC.out.mono ?_
    rintro e w1 ⟨a', c', rfl, hO', hE⟩
    have HO' := Lib.hid hO'
    have HE := Lib.hid hE
    clear hO' hE HC
    go_wp2_with fail
    go_ret
    exact ⟨a', c', rfl, HO'.out, HE.out⟩
/-- one value in the place of at most one -/
theorem replace_any (B : Nat) (a : Option Addr) (n c i j : Nat) (xs : List Value) (vb : Nat) (news : List Value) (w : World) (hO : w.ownsRow B 24 4 (.slice a n c) n xs) (hV : BlockIs w vb news 24) (hnl : news.length = 4) (hn : n ≤ 100000) (hn0 : 0 < n) (hi : i ≤ n) (hj : j = min (i + 1) n) (hB : B ≤ w.heap.size) (h1 : ∀ u ∈ news, u.oneCell' = true) (h2 : ∀ u ∈ xs, u.oneCell' = true) :
    Calls Try.prog 55 #[.slice a n c, .int .i64 i, .int .i64 j, .slice (some ⟨vb, 0, none⟩) 1 1] w (OwnTo B (i + 1 + (n - j)) (xs.take (i * 4) ++ (news ++ xs.drop (j * 4))) (fun k => (Value.slice a n c).ownBlock = some k) w) := by
  have hxl := hO.1
  by_cases he : i = n
  · obtain rfl : j = n := by omega
    subst he
    have := replace_none B a i c xs vb news w hO hV hnl hn hn0 hB h1
    rw [List.take_of_length_le (by omega), List.drop_eq_nil_of_le (by omega), List.append_nil, show i + 1 + (i - i) = i + 1 by omega]
    exact this
  · obtain rfl : j = i + 1 := by omega
    by_cases he2 : i + 1 = n
    · have := replace_last B a n c i xs vb news w hO hV hnl hn he2 hB h1
      rw [← he2] at this hxl ⊢
      rw [List.drop_eq_nil_of_le (by omega), List.append_nil, show i + 1 + (i + 1 - (i + 1)) = i + 1 by omega]
      exact this
    · rcases hO.2 with ⟨hv, rfl⟩ | ⟨g, cap, cur, hv, hg, hh, e1, e2, e3, e4⟩
      · omega
      · cases hv
        have hG : BlockIs w g cur.toList 24 := hh
        have := replace_mid B g n c i cur.toList vb news w hG (by simpa using e3) e1 e2 hV hnl hn (by omega) hg h1 (by rw [e4]; exact h2)
        rw [e4] at this
        rw [show i + 1 + (n - (i + 1)) = n by omega]
        exact this.mono fun e w' h => h.mono (fun k _ hk => by subst hk; rfl)
end Go.Proofs.Ytnibjjpohhknkaa
