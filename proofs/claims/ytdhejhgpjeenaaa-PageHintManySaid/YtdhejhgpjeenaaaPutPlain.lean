/-
  Plain mathematics of rows of bits that are filled one after the other.
-/
import Derived.Test.YtdhejhgpjeenaaaNums
namespace Go.Proofs.Ytdhejhgpjeenaaa
set_option linter.unusedVariables false

theorem high_none (x n : Nat) (hx : x < 4294967296) (h : ∀ k, n ≤ k → k < 32 → x.testBit k = false) : x < 2 ^ n := by
  refine Nat.lt_pow_two_of_testBit x fun k hk => ?_
  by_cases h32 : k < 32
  · exact h k hk h32
  · exact Nat.testBit_lt_two_pow (Nat.lt_of_lt_of_le (show x < 2 ^ 32 from hx) (Nat.pow_le_pow_right (by decide) (by omega)))
theorem bitsNum_take (high : Bool) (x n k : Nat) (h : k < n) : (bitsNum high x n).take (k + 1) = (bitsNum high x n).take k ++ [x.testBit (turn high k n)] := by
  rw [List.take_add_one, List.getElem?_eq_getElem (by simpa [bitsNum_length] using h)]; simp [bitsNum]
/-- the first k bits, the others not yet -/
def fillB (l : List Bool) (k : Nat) : List Bool := l.take k ++ List.replicate (l.length - k) false
theorem fillB_len (l : List Bool) (k : Nat) (h : k ≤ l.length) : (fillB l k).length = l.length := by simp [fillB]; omega
theorem fillB_all (l : List Bool) : fillB l l.length = l := by simp [fillB]
theorem fillB_get (l : List Bool) (k i : Nat) (hk : k ≤ l.length) : (fillB l k).getD i false = (decide (i < k) && l.getD i false) := by
  unfold fillB
  rw [List.getD_eq_getElem?_getD, List.getD_eq_getElem?_getD]
  by_cases h : i < k
  · rw [List.getElem?_append_left (by simp; omega)]; simp [List.getElem?_take, h]
  · rw [List.getElem?_append_right (by simp; omega), List.getElem?_replicate]; simp [h]; split <;> rfl
theorem byte8_add (high : Bool) (f g : Nat → Bool) (j0 : Nat) (h0 : j0 < 8) (hf : f j0 = false) (hg : ∀ j, j < 8 → g j = (f j || decide (j = j0))) : byte8 high g = byte8 high f + wt high j0 := by
  have h : j0 = 0 ∨ j0 = 1 ∨ j0 = 2 ∨ j0 = 3 ∨ j0 = 4 ∨ j0 = 5 ∨ j0 = 6 ∨ j0 = 7 := by omega
  have g0 := hg 0 (by omega)
  have g1 := hg 1 (by omega)
  have g2 := hg 2 (by omega)
  have g3 := hg 3 (by omega)
  have g4 := hg 4 (by omega)
  have g5 := hg 5 (by omega)
  have g6 := hg 6 (by omega)
  have g7 := hg 7 (by omega)
  unfold byte8
  rcases h with rfl | rfl | rfl | rfl | rfl | rfl | rfl | rfl <;> simp at g0 g1 g2 g3 g4 g5 g6 g7 <;> rw [g0, g1, g2, g3, g4, g5, g6, g7, hf] <;> simp <;> omega
theorem pack_fill_step (high : Bool) (l : List Bool) (k : Nat) (hk : k < l.length) (h8 : k / 8 < (pack high (fillB l k)).length) (hl : l[k] = true) :
    pack high (fillB l (k + 1)) = (pack high (fillB l k)).set (k / 8) (UInt8.ofNat ((pack high (fillB l k))[k / 8].toNat + wt high (k % 8))) ∧ (pack high (fillB l k))[k / 8].toNat + wt high (k % 8) < 256 := by
  have ho : byteAt high (fillB l (k + 1)) (k / 8) = byteAt high (fillB l k) (k / 8) + wt high (k % 8) := by
    refine byte8_add high _ _ _ (by omega) ?_ fun j hj => ?_
    · rw [fillB_get _ _ _ (by omega)]; simp; omega
    · rw [fillB_get _ _ _ (by omega), fillB_get _ _ _ (by omega)]
      by_cases e : j = k % 8
      · subst e
        have e2 : 8 * (k / 8) + k % 8 = k := by omega
        rw [e2]; simp [List.getD_eq_getElem?_getD, hk, hl]
      · have e1 : decide (8 * (k / 8) + j < k + 1) = decide (8 * (k / 8) + j < k) := by
          by_cases h : 8 * (k / 8) + j < k <;> simp [h] <;> omega
        rw [e1]; simp [e]
  have h0 := pack_get high (fillB l k) _ h8
  rw [h0, ← ho]
  refine ⟨?_, byteAt_lt _ _ _⟩
  refine (pack_ext high _ _ (by simp [pack_length, fillB_len, hk, Nat.le_of_lt hk, Nat.succ_le_of_lt hk]) fun i hi => ?_).symm
  rw [List.getElem_set]
  split
  · next e => subst e; rw [ofNat_toNat _ (byteAt_lt _ _ _)]
  · next e =>
    rw [pack_get]
    unfold byteAt
    simp only [byte8]
    have hk : ∀ j, j < 8 → (fillB l k).getD (8 * i + j) false = (fillB l (k + 1)).getD (8 * i + j) false := by
      intro j hj; rw [fillB_get _ _ _ (by omega), fillB_get _ _ _ (by omega)]
      congr 1
      by_cases h : 8 * i + j < k <;> simp [h] <;> omega
    rw [hk 0 (by omega), hk 1 (by omega), hk 2 (by omega), hk 3 (by omega), hk 4 (by omega), hk 5 (by omega), hk 6 (by omega), hk 7 (by omega)]
theorem fillB_false (l : List Bool) (k : Nat) (hk : k < l.length) (hl : l[k] = false) : fillB l (k + 1) = fillB l k := by
  unfold fillB
  rw [List.take_add_one, List.getElem?_eq_getElem hk, hl, show l.length - k = (l.length - (k + 1)) + 1 from by omega, List.replicate_succ]
  simp
theorem pack_falses (high : Bool) (n : Nat) : pack high (List.replicate n false) = List.replicate ((n + 7) / 8) 0 := by
  refine (pack_ext high _ _ (by simp) fun i hi => ?_).symm
  unfold byteAt
  have : (fun j => (List.replicate n false).getD (8 * i + j) false) = fun _ => false := by
    funext j; rw [List.getD_eq_getElem?_getD, List.getElem?_replicate]; split <;> rfl
  rw [this]; cases high <;> simp <;> rfl
theorem fillB_zero (l : List Bool) : fillB l 0 = List.replicate l.length false := by simp [fillB]
/-- one more bit of nothing, or none: aligned -/
theorem align_step (bs : List Bool) (h : bs.length % 8 ≠ 0) : align (bs ++ [false]) = align bs := by
  unfold align
  rw [List.append_assoc, List.length_append, List.length_singleton]
  congr 1
  rw [show (8 * ((bs.length + 7) / 8) - bs.length) = (8 * ((bs.length + 1 + 7) / 8) - (bs.length + 1)) + 1 from by omega, List.replicate_succ]
  rfl
theorem align_done (bs : List Bool) (h : bs.length % 8 = 0) : align bs = bs := by
  unfold align
  rw [show 8 * ((bs.length + 7) / 8) - bs.length = 0 from by omega]; simp
end Go.Proofs.Ytdhejhgpjeenaaa
