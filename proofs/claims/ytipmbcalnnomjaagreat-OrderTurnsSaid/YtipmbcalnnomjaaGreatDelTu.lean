import Derived.Test.YtipmbcalnnomjaaGreatValCmpTu
import Derived.Test.YtipmbcalnnomjaaGreatSlxTu
import Derived.Deep.RegionLaw
import Derived.OwnWalk
import Derived.Test.YtipmbcalnnomjaaGreatRegListTu
import Derived.Test.YtipmbcalnnomjaaGreatSqTu
set_option linter.unusedVariables false
set_option linter.unusedSimpArgs false
set_option maxRecDepth 100000
namespace Go.Proofs.YtipmbcalnnomjaaGreat
open Go.RowKit
theorem info24 : (Tryz.prog.info? 48).map (fun i => (i.zero, i.size, i.bytes)) = some (some (.agg #[.int .i64 0, .int .i64 0, .string ⟨#[]⟩, .slice none 0 0]), 4, 56) := by kernel_rfl
def OwnTo (B n : Nat) (xs : List Value) (T : Nat → Prop) (w : World) (e : Ending) (w' : World) : Prop :=
 ∃ (a : Option Addr) (c : Nat), e = .returned (.slice a n c) ∧ w'.ownsRow B 48 4 (.slice a n c) n xs ∧ Ext T w w'
set_option maxHeartbeats 1000000 in
theorem clone_any (a : Option Addr) (n c : Nat) (cs : List Value) (w : World) (hl : cs.length = n * 4) (hr : RowOf w a cs) (hnil : a = none → n = 0 ∧ c = 0) (hn : n ≤ 100000) (h1 : ∀ u ∈ cs, u.oneCell' = true) :
 Calls Tryz.prog 99 #[.slice a n c] w (OwnTo w.heap.size n cs (fun _ => False) w) := by
 have he := eql_nil Tryz.underlying46
 cases a with
 | none =>
   obtain ⟨rfl, rfl⟩ := hnil rfl
   obtain rfl : cs = [] := by simpa using hl
   go_enter Tryz.func99, Tryz.ntmps99
   go_wp2_with fail
   go_ret
   exact ⟨none, 0, rfl, ⟨rfl, Or.inl ⟨rfl, rfl⟩⟩, Ext.refl _ _⟩
 | some ad =>
   have HR := qh hr
   have HL := qh hl
   have H1 := qh h1
   clear hr hl h1 hnil
   go_enter Tryz.func99, Tryz.ntmps99
   go_wp2_with (at_builtin; refine wpList_append_any rfl (.tmp 5) (.tmp 6) 46 rfl w.heap.size 48 (.agg #[.int .i64 0, .int .i64 0, .string ⟨#[]⟩, .slice none 0 0]) 4 56 Tryz.underlying46 info24 rfl (by decide) (.slice (some ⟨w.heap.size, 0, none⟩) 0 0) 0 [] rfl (own_new (cs := []) rfl (Nat.zero_le _) _ (Nat.le_refl _)) (some ad) n c cs rfl (fun e => by cases e) HL.out (HR.out.ext (ext_alloc w _) (fun _ _ => id)) H1.out n (Nat.zero_add n) cs rfl (by omega) (by unfold maxLen; omega) (ext_alloc w _).size ?_)
   intro a' c' w' hO hg
   have hE : Ext (fun _ => False) w w' := (ext_alloc w (.cells #[] 48)).trans (ext_of_grown hg) (fun i hi e => by cases e; exact absurd hi (Nat.lt_irrefl _))
   have HO := qh hO
   clear hO hg
   go_wp2_with fail
   go_ret
   exact ⟨a', c', rfl, HO.out, hE⟩
theorem own_cut {w : World} {B e n c : Nat} {a : Option Addr} {xs : List Value} (h : w.ownsRow B e 4 (.slice a n c) n xs) (i : Nat) (hi : i ≤ n) (ha : a ≠ none) : w.ownsRow B e 4 (.slice a i c) i (xs.take (i * 4)) := by
 refine ⟨by rw [List.length_take, h.1]; omega, ?_⟩
 rcases h.2 with ⟨hv, rfl⟩ | ⟨g, cap, cur, hv, hg, hh, h1, h2, h3, h4⟩
 ·cases hv; exact absurd rfl ha
 ·cases hv
  exact Or.inr ⟨g, c, cur, rfl, hg, hh, by omega, h2, h3, by rw [← h4, List.take_take, Nat.min_eq_left (by omega)]⟩
theorem zero_cells : ∀ v ∈ (Value.agg #[.int .i64 0, .int .i64 0, .string ⟨#[]⟩, .slice none 0 0]).cells, v.oneCell' = true := by
 intro u hu
 simp only [Value.cells, List.mem_toArray, List.mem_cons, List.not_mem_nil, or_false] at hu
 rcases hu with rfl | rfl | rfl | rfl <;> rfl
set_option maxHeartbeats 2000000 in
theorem delete_any (B : Nat) (a : Option Addr) (n c i j : Nat) (xs : List Value) (w : World) (hO : w.ownsRow B 48 4 (.slice a n c) n xs) (hn : n ≤ 100000) (hi : i < j) (hj : j ≤ n) (hB : B ≤ w.heap.size) (h2 : ∀ u ∈ xs, u.oneCell' = true) :
 Calls Tryz.prog 98 #[.slice a n c, .int .i64 i, .int .i64 j] w (OwnTo B (i + (n - j)) (xs.take (i * 4) ++ xs.drop (j * 4)) (fun k => (Value.slice a n c).ownBlock = some k) w) := by
 have hxl := hO.1
 rcases hO.2 with ⟨hv, rfl⟩ | ⟨g, cap, cur, hv, hg, hh, e1, e2, e3, e4⟩
 ·omega
 ·cases hv
  have hO2 := own_cut hO i (by omega) (fun e => by cases e)
  have hR := own_row hO
  obtain ⟨inf, hi0, _, hsz0, _⟩ := info_parts info24
  have HO2 : Hid (w.drew.ownsRow B 48 4 (.slice (some ⟨g, 0, none⟩) i c) i (xs.take (i * 4))) := qh hO2
  obtain ⟨m, hm⟩ : ∃ m, m = n - j := ⟨_, rfl⟩
  have HA1 : Hid ((xs.drop (j * 4)).length = m * 4) := qh (by rw [List.length_drop, hxl]; omega)
  have HA2 : Hid (∀ ad, (if c = j then some (⟨g, 0, none⟩ : Addr) else some ⟨g, j * 4, none⟩) = some ad → ∀ k u, (xs.drop (j * 4))[k]? = some u → w.cell? (ad.add k) = some u) := qh (by
   intro ad had k u hu
   have hlt := (List.getElem?_eq_some_iff.1 hu).1
   have hcj : ¬ (c = j) := by rw [HA1.out] at hlt; omega
   rw [if_neg hcj] at had
   cases had
   rw [addr_add]
   rw [List.getElem?_drop] at hu
   obtain ⟨b, o, hb, hc⟩ := hR _ _ hu
   cases hb
   rw [Nat.zero_add] at hc
   exact hc)
  have HA4 : Hid (∀ v ∈ xs.drop (j * 4), v.oneCell' = true) := qh (fun v hv => h2 v (List.mem_of_mem_drop hv))
  have HI0 := qh hi0
  have HS0 := qh hsz0
  have HXL := qh hxl
  have HM := qh hm
  have hz1 : ¬ (i : Int) = (j : Int) := by omega
  have hij : i ≤ j := by omega
  have hnn : n ≤ n := Nat.le_refl n
  have hic : i ≤ c := by omega
  have hin : i ≤ n := by omega
  have himc : i + m ≤ c := by omega
  have himn : i + m ≤ n := by omega
  have hcim : ¬ (c = i + m) := by omega
  have hjc : j ≤ c := by omega
  unfold maxLen at e2
  clear hO hO2 hR hi0 hsz0 hxl h2 hh e3 e4
  rw [← hm]
  clear hm
  go_enter Tryz.func98, Tryz.ntmps98
  go_wp2_with fail
  refine region_start (fun k => k = g) (by kernel_rfl) ?_
  try simp only [Act.put, sA, sZ, sS]
  refine region_take 0 20 (v := ?vca0) rfl rfl (by kernel_rfl) (by kernel_rfl) (by kernel_rfl) (fun _ _ _ h => h) (by rfl) (fun w' hS => ?hca0) ?rca0
  case hca0 => go_simp; with_reducible rfl
  try simp only [Act.put, sA, sZ, sS]
  refine region_take 1 21 (v := ?vca1) rfl rfl (by kernel_rfl) (by kernel_rfl) (by kernel_rfl) (fun _ _ _ h => h) (by rfl) (fun w' hS => ?hca1) ?rca1
  case hca1 => go_simp; with_reducible rfl
  try simp only [Act.put, sA, sZ, sS]
  refine region_take 2 22 (v := ?vca2) rfl rfl (by kernel_rfl) (by kernel_rfl) (by kernel_rfl) (fun _ _ _ h => h) (by rfl) (fun w' hS => ?hca2) ?rca2
  case hca2 => go_simp; with_reducible rfl
  try simp only [Act.put, sA, sZ, sS]
  refine region_take 3 23 (v := ?vca3) rfl rfl (by kernel_rfl) (by kernel_rfl) (by kernel_rfl) (fun _ _ _ h => h) (by rfl) (fun w' hS => ?hca3) ?rca3
  case hca3 => go_simp; with_reducible rfl
  try simp only [Act.put, sA, sZ, sS]
  refine region_take 4 24 (v := ?vca4) rfl rfl (by kernel_rfl) (by kernel_rfl) (by kernel_rfl) (fun _ _ _ h => h) (by rfl) (fun w' hS => ?hca4) ?rca4
  case hca4 => go_simp; with_reducible rfl
  try simp only [Act.put, sA, sZ, sS]
  refine region_take 5 25 (v := ?vca5) rfl rfl (by kernel_rfl) (by kernel_rfl) (by kernel_rfl) (fun _ _ _ h => h) (by rfl) (fun w' hS => ?hca5) ?rca5
  case hca5 => go_simp; with_reducible rfl
  try simp only [Act.put, sA, sZ, sS]
  refine wpAnyH_ready (rs := [6]) (by kernel_rfl) (by simp) (AllReadyH.cons rfl (fun K hK => ?_) AllReadyH.nil)
  refine step_of_list ?_
  refine wpList_append_fits_any _ rfl (.tmp 22) (.tmp 25) 46 rfl B 48 inf 4 Tryz.underlying46 HI0.out HS0.out g i c (xs.take (i * 4)) rfl HO2.out (if c = j then some (⟨g, 0, none⟩ : Addr) else some ⟨g, j * 4, none⟩) m (c - j) (xs.drop (j * 4)) (by rw [HM.out]; rfl) HA1.out (fun e => by split at e <;> cases e) HA2.out HA4.out himc ?_
  intro w4 hO4 hg4
  refine hK.out _ _ (Ext.grown (Ext.refl _ _) hg4 (fun k hk _ => by cases hk; rfl)) (fun hHeld => ?_)
  clear hK K hHeld
  refine region_now (Ext.grown (Ext.refl _ _) hg4 (fun k hk _ => by cases hk; rfl)) ?_
  try simp only [Act.put, sA, sZ, sS]
  refine region_take 7 0 (v := ?vca7) rfl rfl (by kernel_rfl) (by kernel_rfl) (by kernel_rfl) (fun _ _ _ h => h) (by rfl) (fun w' hS => ?hca7) ?rca7
  case hca7 => go_simp; with_reducible rfl
  try simp only [Act.put, sA, sZ, sS]
  refine wpAnyH_done (by kernel_rfl) ?_ _
  have hol := hO4.1
  rcases hO4.2 with ⟨hv, _⟩ | ⟨g4, c4, cur4, hv4, hg44, hh4, f1, f2, f3, f4⟩
  ·cases hv
  cases hv4
  have hG4 : BlockIs w4 g cur4.toList 48 := hh4
  have hE4 : Ext (fun k => (Value.slice (some ⟨g, 0, none⟩) n c).ownBlock = some k) w w4 := ((Ext.refl _ w).drew).grown hg4 (fun k hk _ => hk)
  have HE4 := qh hE4
  have HOl := qh hol
  have HF4 := qh f4
  have HF3 := qh f3
  have HG4 := qh hG4
  have hdl : n - (i + m) = j - i := by have := HM.out; omega
  clear hO4 hol f4 f3 hh4 hE4 hg4
  rcases Decidable.em (c = j) with rfl | hcj
  all_goals
   go_wp2_with (refine wpList_clear_big rfl (.tmp 31) 46 rfl 48 Tryz.underlying46 (.agg #[.int .i64 0, .int .i64 0, .string ⟨#[]⟩, .slice none 0 0]) (fun w => by kernel_rfl) zero_cells _ (n - (i + m)) _ rfl g ((i + m) * 4) cur4.toList 48 HG4.out (fun _ => rfl) (by have := HF3.out; simp only [Value.cells, List.size_toArray, List.length_cons, List.length_nil, Array.length_toList]; omega) ?_; intro w5 cur5 hG5 hl5 ht5 hE5)
   have HG5 := qh hG5
   have HL5 := qh hl5
   have HT5 := qh ht5
   have HE5 := qh hE5
   have HHg := qh hg
   clear hG5 hl5 ht5 hE5 hG4
   go_wp2_with fail
   go_ret
   refine ⟨some ⟨g, 0, none⟩, c, rfl, ⟨HOl.out, Or.inr ⟨g, c, _, rfl, HHg.out, HG5.out, himc, f2, ?_, by simp only [List.toList_toArray]; rw [HT5.out, HF4.out]⟩⟩, HE4.out.trans HE5.out (fun k _ e => by rw [e]; rfl)⟩
   simp only [List.size_toArray, HL5.out, Array.length_toList, HF3.out]
