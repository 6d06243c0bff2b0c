/-
  Plain: what the reference's Decode comes to, end by end.
-/
import Derived.Test.YtjnpjkenmkgooaaDecPlain
namespace Go.Proofs.Ytjnpjkenmkgooaa
open Go.RowKit C27
set_option linter.unusedVariables false

theorem al8_le {x L : Nat} (h : x ≤ L) (h8 : L % 8 = 0) : al8 x ≤ L := by unfold al8; omega
theorem dec_bad {bs : List Bool} {v4 v6 v7 K x : Nat} (hl : 192 ≤ bs.length) (hok : HeadOk bs) (q4 : v4 = hN bs) (q6 : v6 = hL bs) (q7 : v7 = hW bs) (hF : Fit bs.length 192 v7 v4 K) (hx : x ∈ vals bs 192 v7 K) (hb : okL v6 x = false) : DecTo bs (dErr 27) := by
  subst q4 q6 q7
  exact Or.inr ⟨hl, Or.inr ⟨hok, (0, 27), [], ⟨K, hF, Or.inl ⟨⟨x, hx, hb⟩, rfl⟩⟩, Or.inl ⟨by decide, rfl⟩⟩⟩
theorem dec_cut {bs : List Bool} {v4 v5 v6 v7 K : Nat} (hl : 192 ≤ bs.length) (hok : HeadOk bs) (q4 : v4 = hN bs) (q5 : v5 = hG bs) (q6 : v6 = hL bs) (q7 : v7 = hW bs) (hF : Fit bs.length 192 v7 v4 K) (hx : ∀ x ∈ vals bs 192 v7 K, okL v6 x = true) (hn : ¬ AllFit bs 192 v4 v7 v5) : DecTo bs (dErr 10) := by
  subst q4 q5 q6 q7
  exact Or.inr ⟨hl, Or.inr ⟨hok, (0, 10), [], ⟨K, hF, Or.inr ⟨hx, Or.inl ⟨hn, rfl⟩⟩⟩, Or.inl ⟨by decide, rfl⟩⟩⟩
theorem dec_good {bs : List Bool} {v1 v2 v3 v4 v5 v6 v7 : Nat} (hl : 192 ≤ bs.length) (hok : HeadOk bs) (q1 : v1 = hO bs) (q2 : v2 = hA bs) (q3 : v3 = hF bs) (q4 : v4 = hN bs) (q5 : v5 = hG bs) (q6 : v6 = hL bs) (q7 : v7 = hW bs) (hF : Fit bs.length 192 v7 v4 v4) (hx : ∀ x ∈ vals bs 192 v7 v4, okL v6 x = true) (ha : AllFit bs 192 v4 v7 v5) : DecTo bs ⟨0, v1, v2, v3, (vals bs 192 v7 v4).map (fun x => v6 + x), P4 bs 192 v4 v7 v5 / 8⟩ := by
  subst q1 q2 q3 q4 q5 q6 q7
  exact Or.inr ⟨hl, Or.inr ⟨hok, (P4 bs 192 _ _ _, 0), _, ⟨_, hF, Or.inr ⟨hx, Or.inr ⟨ha, rfl, rfl⟩⟩⟩, Or.inr ⟨rfl, rfl⟩⟩⟩
theorem fit_lt {L p w n K : Nat} (h : Fit L p w n K) (hne : K ≠ n) : L < p + n * w := by
  have h1 : K < n := by have := h.le; omega
  have h2 := h.cut h1
  have h3 : (K + 1) * w ≤ n * w := Nat.mul_le_mul_right w h1
  omega
theorem fit_yes {L p w n : Nat} (h : Fit L p w n n) : p + n * w ≤ L := h.fits
theorem not_all1 {bs : List Bool} {n wd g : Nat} (h : bs.length < 192 + n * wd) : ¬ AllFit bs 192 n wd g := fun ⟨a, _⟩ => by omega
theorem not_all2 {bs : List Bool} {n wd g : Nat} (h : bs.length < P1 192 n wd + n * 1) : ¬ AllFit bs 192 n wd g := fun ⟨_, a, _⟩ => by omega
theorem not_all3 {bs : List Bool} {n wd g : Nat} (h : bs.length < P2 192 n wd + (4 * sgn bs 192 n wd) * 32) : ¬ AllFit bs 192 n wd g := fun ⟨_, _, a, _⟩ => by omega
theorem not_all4 {bs : List Bool} {n wd g : Nat} (h : bs.length < P3 bs 192 n wd + n * g) : ¬ AllFit bs 192 n wd g := fun ⟨_, _, _, a⟩ => by omega
theorem okL_low {v6 x : Nat} (h : (v6 : Int) + (x : Int) < 1) : okL v6 x = false := inB_false.2 (Or.inl h)
theorem okL_high {v6 x : Nat} (h : (2147483647 : Int) < (v6 : Int) + (x : Int)) : okL v6 x = false := inB_false.2 (Or.inr h)
theorem okL_yes {v6 x : Nat} (h : ¬ (v6 : Int) + (x : Int) < 1) (h' : ¬ (2147483647 : Int) < (v6 : Int) + (x : Int)) : okL v6 x = true := inB_true.2 ⟨by omega, by omega⟩
theorem vals_get (bs : List Bool) (p w K k : Nat) (h : k < (vals bs p w K).length) : (vals bs p w K)[k] = numAt bs (p + k * w) w := by simp [vals]
theorem vals_at (bs : List Bool) (p w K k : Nat) (h : k < K) : (vals bs p w K)[k]? = some (numAt bs (p + k * w) w) := by simp [vals, h]
theorem vals_mem (bs : List Bool) (p w K k : Nat) (h : k < K) : numAt bs (p + k * w) w ∈ vals bs p w K := by simp only [vals, List.mem_map, List.mem_range]; exact ⟨k, h, rfl⟩
theorem all_succ {bs : List Bool} {p w k v6 : Nat} (h : ∀ x ∈ vals bs p w k, okL v6 x = true) (h' : okL v6 (numAt bs (p + k * w) w) = true) : ∀ x ∈ vals bs p w (k + 1), okL v6 x = true := by
  intro x hx
  rw [vals_succ, List.mem_append] at hx
  rcases hx with hx | hx
  · exact h x hx
  · rw [List.mem_singleton] at hx; rw [hx]; exact h'
theorem vals_sum_succ (bs : List Bool) (p w k : Nat) : (vals bs p w (k + 1)).sum = (vals bs p w k).sum + numAt bs (p + k * w) w := by rw [vals_succ, List.sum_append]; simp
end Go.Proofs.Ytjnpjkenmkgooaa
