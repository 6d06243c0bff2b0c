/-
  Walked: slices.Delete at a row of the call's own.
-/
import Derived.Test.YtiakphjkcpbccaaRep
import Derived.OwnWalk
import Derived.Test.YtiakphjkcpbccaaRegList
namespace Go.Proofs.Ytiakphjkcpbccaa
open Go.RowKit
set_option linter.unusedVariables false

set_option maxHeartbeats 2000000 in
set_option maxRecDepth 100000 in
theorem delete_any (B : Nat) (a : Option Addr) (n c i j : Nat) (xs : List Value) (w : World) (hO : w.ownsRow B 24 4 (.slice a n c) n xs) (hn : n ≤ 100000) (hi : i < j) (hj : j ≤ n) (hB : B ≤ w.heap.size) (h2 : ∀ u ∈ xs, u.oneCell' = true) :
    Calls Try.prog 47 #[.slice a n c, .int .i64 i, .int .i64 j] w (OwnTo B (i + (n - j)) (xs.take (i * 4) ++ xs.drop (j * 4)) (fun k => (Value.slice a n c).ownBlock = some k) w) := by
  have hxl := hO.1
  rcases hO.2 with ⟨hv, rfl⟩ | ⟨g, cap, cur, hv, hg, hh, e1, e2, e3, e4⟩
  · omega
  · cases hv
    have hO2 := own_cut hO i (by omega) (fun e => by cases e)
    have hR := own_row hO
    obtain ⟨inf, hi0, _, hsz0, _⟩ := info_parts info24
    have HO2 : Hid (w.drew.ownsRow B 24 4 (.slice (some ⟨g, 0, none⟩) i c) i (xs.take (i * 4))) := Lib.hid hO2
    obtain ⟨m, hm⟩ : ∃ m, m = n - j := ⟨_, rfl⟩
    have HA1 : Hid ((xs.drop (j * 4)).length = m * 4) := Lib.hid (by rw [List.length_drop, hxl]; omega)
    have HA2 : Hid (∀ ad, (if c = j then some (⟨g, 0, none⟩ : Addr) else some ⟨g, j * 4, none⟩) = some ad → ∀ k u, (xs.drop (j * 4))[k]? = some u → w.cell? (ad.add k) = some u) := Lib.hid (by
      intro ad had k u hu
      have hlt := (List.getElem?_eq_some_iff.1 hu).1
      have hcj : ¬ (c = j) := by rw [HA1.out] at hlt; omega
      rw [if_neg hcj] at had
      cases had
      rw [addr_add]
      rw [List.getElem?_drop] at hu
      obtain ⟨b, o, hb, hc⟩ := hR _ _ hu
      cases hb
      rw [Nat.zero_add] at hc
      exact hc)
    have HA4 : Hid (∀ v ∈ xs.drop (j * 4), v.oneCell' = true) := Lib.hid (fun v hv => h2 v (List.mem_of_mem_drop hv))
    have HI0 := Lib.hid hi0
    have HS0 := Lib.hid hsz0
    have HXL := Lib.hid hxl
    have HM := Lib.hid hm
    have hz1 : ¬ (i : Int) = (j : Int) := by omega
    have hij : i ≤ j := by omega
    have hnn : n ≤ n := Nat.le_refl n
    have hic : i ≤ c := by omega
    have hin : i ≤ n := by omega
    have himc : i + m ≤ c := by omega
    have himn : i + m ≤ n := by omega
    have hcim : ¬ (c = i + m) := by omega
    have hjc : j ≤ c := by omega
    unfold maxLen at e2
    clear hO hO2 hR hi0 hsz0 hxl h2 hh e3 e4
    rw [← hm]
    clear hm
    go_enter Try.func47, Try.ntmps47
    go_wp2_with fail
    refine region_start (fun k => k = g) (by kernel_rfl) ?_
    try simp only [Act.put, List.setIfInBounds_toArray, List.set_cons_zero, List.set_cons_succ]
    refine region_take 0 20 (v := ?vca0) rfl rfl (by kernel_rfl) (by kernel_rfl) (by kernel_rfl) (fun _ _ _ h => h) (by rfl) (fun w' hS => ?hca0) ?rca0
    case hca0 => go_simp; with_reducible rfl
    try simp only [Act.put, List.setIfInBounds_toArray, List.set_cons_zero, List.set_cons_succ]
    refine region_take 1 21 (v := ?vca1) rfl rfl (by kernel_rfl) (by kernel_rfl) (by kernel_rfl) (fun _ _ _ h => h) (by rfl) (fun w' hS => ?hca1) ?rca1
    case hca1 => go_simp; with_reducible rfl
    try simp only [Act.put, List.setIfInBounds_toArray, List.set_cons_zero, List.set_cons_succ]
    refine region_take 2 22 (v := ?vca2) rfl rfl (by kernel_rfl) (by kernel_rfl) (by kernel_rfl) (fun _ _ _ h => h) (by rfl) (fun w' hS => ?hca2) ?rca2
    case hca2 => go_simp; with_reducible rfl
    try simp only [Act.put, List.setIfInBounds_toArray, List.set_cons_zero, List.set_cons_succ]
    refine region_take 3 23 (v := ?vca3) rfl rfl (by kernel_rfl) (by kernel_rfl) (by kernel_rfl) (fun _ _ _ h => h) (by rfl) (fun w' hS => ?hca3) ?rca3
    case hca3 => go_simp; with_reducible rfl
    try simp only [Act.put, List.setIfInBounds_toArray, List.set_cons_zero, List.set_cons_succ]
    refine region_take 4 24 (v := ?vca4) rfl rfl (by kernel_rfl) (by kernel_rfl) (by kernel_rfl) (fun _ _ _ h => h) (by rfl) (fun w' hS => ?hca4) ?rca4
    case hca4 => go_simp; with_reducible rfl
    try simp only [Act.put, List.setIfInBounds_toArray, List.set_cons_zero, List.set_cons_succ]
    refine region_take 5 25 (v := ?vca5) rfl rfl (by kernel_rfl) (by kernel_rfl) (by kernel_rfl) (fun _ _ _ h => h) (by rfl) (fun w' hS => ?hca5) ?rca5
    case hca5 => go_simp; with_reducible rfl
    try simp only [Act.put, List.setIfInBounds_toArray, List.set_cons_zero, List.set_cons_succ]
    refine wpAnyH_ready (rs := [6]) (by kernel_rfl) (by simp) (AllReadyH.cons rfl (fun K hK => ?_) AllReadyH.nil)
    refine step_of_list ?_
    refine wpList_append_fits_any _ rfl (.tmp 22) (.tmp 25) 22 rfl B 24 inf 4 Try.underlying22 HI0.out HS0.out g i c (xs.take (i * 4)) rfl HO2.out (if c = j then some (⟨g, 0, none⟩ : Addr) else some ⟨g, j * 4, none⟩) m (c - j) (xs.drop (j * 4)) (by rw [HM.out]; rfl) HA1.out (fun e => by split at e <;> cases e) HA2.out HA4.out himc ?_
    intro w4 hO4 hg4
    refine hK.out _ _ (Ext.grown (Ext.refl _ _) hg4 (fun k hk _ => by cases hk; rfl)) (fun hHeld => ?_)
    clear hK K hHeld
    refine region_now (Ext.grown (Ext.refl _ _) hg4 (fun k hk _ => by cases hk; rfl)) ?_
    try simp only [Act.put, List.setIfInBounds_toArray, List.set_cons_zero, List.set_cons_succ]
    refine region_take 7 0 (v := ?vca7) rfl rfl (by kernel_rfl) (by kernel_rfl) (by kernel_rfl) (fun _ _ _ h => h) (by rfl) (fun w' hS => ?hca7) ?rca7
    case hca7 => go_simp; with_reducible rfl
    try simp only [Act.put, List.setIfInBounds_toArray, List.set_cons_zero, List.set_cons_succ]
    refine wpAnyH_done (by kernel_rfl) ?_ _
    have hol := hO4.1
    rcases hO4.2 with ⟨hv, _⟩ | ⟨g4, c4, cur4, hv4, hg44, hh4, f1, f2, f3, f4⟩
    · cases hv
    cases hv4
    have hG4 : BlockIs w4 g cur4.toList 24 := hh4
    have hE4 : Ext (fun k => (Value.slice (some ⟨g, 0, none⟩) n c).ownBlock = some k) w w4 := ((Ext.refl _ w).drew).grown hg4 (fun k hk _ => hk)
    have HE4 := Lib.hid hE4
    have HOl := Lib.hid hol
    have HF4 := Lib.hid f4
    have HF3 := Lib.hid f3
    have HG4 := Lib.hid hG4
    have hdl : n - (i + m) = j - i := by have := HM.out; omega
    clear hO4 hol f4 f3 hh4 hE4 hg4
    rcases Decidable.em (c = j) with rfl | hcj
    all_goals
      go_wp2_with (refine wpList_clear_big rfl (.tmp 31) 22 rfl 24 Try.underlying22 (.agg #[.int .i64 0, .int .i64 0, .string ⟨#[]⟩, .slice none 0 0]) (fun w => by kernel_rfl) zero_cells _ (n - (i + m)) _ rfl g ((i + m) * 4) cur4.toList 24 HG4.out (fun _ => rfl) (by have := HF3.out; simp only [Value.cells, List.size_toArray, List.length_cons, List.length_nil, Array.length_toList]; omega) ?_; intro w5 cur5 hG5 hl5 ht5 hE5)
      have HG5 := Lib.hid hG5
      have HL5 := Lib.hid hl5
      have HT5 := Lib.hid ht5
      have HE5 := Lib.hid hE5
      have HHg := Lib.hid hg
      clear hG5 hl5 ht5 hE5 hG4
      go_wp2_with fail
      go_ret
      refine ⟨some ⟨g, 0, none⟩, c, rfl, ⟨HOl.out, Or.inr ⟨g, c, _, rfl, HHg.out, HG5.out, himc, f2, ?_, by simp only [List.toList_toArray]; rw [HT5.out, HF4.out]⟩⟩, HE4.out.trans HE5.out (fun k _ e => by rw [e]; rfl)⟩
      simp only [List.size_toArray, HL5.out, Array.length_toList, HF3.out]
end Go.Proofs.Ytiakphjkcpbccaa
