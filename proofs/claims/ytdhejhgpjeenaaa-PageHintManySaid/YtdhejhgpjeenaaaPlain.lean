/-
  Plain mathematics of bits in bytes, from either end.
-/
import Derived.RowKit
namespace Go.Proofs.Ytdhejhgpjeenaaa
set_option linter.unusedVariables false

/-- the worth of a byte's j-th bit -/
def wt (high : Bool) (j : Nat) : Nat := if high then 2 ^ (7 - j) else 2 ^ j
def byte8 (high : Bool) (f : Nat → Bool) : Nat :=
  (f 0).toNat * wt high 0 + (f 1).toNat * wt high 1 + (f 2).toNat * wt high 2 + (f 3).toNat * wt high 3 + (f 4).toNat * wt high 4 + (f 5).toNat * wt high 5 + (f 6).toNat * wt high 6 + (f 7).toNat * wt high 7
theorem byte8_lt (high : Bool) (f : Nat → Bool) : byte8 high f < 256 := by
  unfold byte8
  generalize f 0 = b0; generalize f 1 = b1; generalize f 2 = b2; generalize f 3 = b3; generalize f 4 = b4; generalize f 5 = b5; generalize f 6 = b6; generalize f 7 = b7
  revert high b0 b1 b2 b3 b4 b5 b6 b7; decide
/-- the place of a byte's j-th bit -/
def pl (high : Bool) (j : Nat) : Nat := if high then 7 - j else j
theorem wt_pl (high : Bool) (j : Nat) : wt high j = 2 ^ pl high j := by unfold wt pl; cases high <;> rfl
theorem byte8_bit (high : Bool) (f : Nat → Bool) (j : Nat) (hj : j < 8) : (byte8 high f).testBit (pl high j) = f j := by
  have h : j = 0 ∨ j = 1 ∨ j = 2 ∨ j = 3 ∨ j = 4 ∨ j = 5 ∨ j = 6 ∨ j = 7 := by omega
  unfold byte8
  rcases h with rfl | rfl | rfl | rfl | rfl | rfl | rfl | rfl <;>
  · generalize f 0 = b0; generalize f 1 = b1; generalize f 2 = b2; generalize f 3 = b3; generalize f 4 = b4; generalize f 5 = b5; generalize f 6 = b6; generalize f 7 = b7
    revert high b0 b1 b2 b3 b4 b5 b6 b7; decide
theorem pl_lt (high : Bool) (j : Nat) (hj : j < 8) : pl high j < 8 := by unfold pl; split <;> omega
theorem pl_pl (high : Bool) (j : Nat) (hj : j < 8) : pl high (pl high j) = j := by unfold pl; split <;> omega
theorem byte8_ext {x : Nat} (high : Bool) (f : Nat → Bool) (hx : x < 256) (h : ∀ j, j < 8 → x.testBit (pl high j) = f j) : x = byte8 high f := by
  apply Nat.eq_of_testBit_eq
  intro i
  by_cases hi : i < 8
  · have := h (pl high i) (pl_lt high i hi)
    rw [pl_pl high i hi] at this
    rw [this, ← byte8_bit high f (pl high i) (pl_lt high i hi), pl_pl high i hi]
  · have p : 256 ≤ 2 ^ i := Nat.le_trans (by decide : 256 ≤ 2 ^ 8) (Nat.pow_le_pow_right (by decide) (by omega))
    rw [Nat.testBit_lt_two_pow (by omega), Nat.testBit_lt_two_pow (by have := byte8_lt high f; omega)]
theorem byte8_or (high : Bool) (f g : Nat → Bool) (j0 : Nat) (h0 : j0 < 8) (hg : ∀ j, j < 8 → g j = (f j || decide (j = j0))) : byte8 high g = byte8 high f ||| wt high j0 := by
  have hw : wt high j0 < 256 := by rw [wt_pl]; exact Nat.lt_of_lt_of_le (Nat.pow_lt_pow_right (by decide) (pl_lt high j0 h0)) (by decide)
  refine (byte8_ext high g (Nat.or_lt_two_pow (n := 8) (byte8_lt high f) hw) fun j hj => ?_).symm
  rw [Nat.testBit_or, byte8_bit high f j hj, hg j hj, wt_pl, Nat.testBit_two_pow]
  congr 1
  by_cases e : j = j0
  · subst e; simp
  · have : pl high j0 ≠ pl high j := by unfold pl; split <;> omega
    simp [e, this]

/-- bits as bytes -/
def byteAt (high : Bool) (bs : List Bool) (i : Nat) : Nat := byte8 high (fun j => bs.getD (8 * i + j) false)
def pack (high : Bool) (bs : List Bool) : List UInt8 := (List.range ((bs.length + 7) / 8)).map fun i => UInt8.ofNat (byteAt high bs i)
theorem pack_length (high : Bool) (bs : List Bool) : (pack high bs).length = (bs.length + 7) / 8 := by simp [pack]
theorem byteAt_lt (high : Bool) (bs : List Bool) (i : Nat) : byteAt high bs i < 256 := byte8_lt _ _
theorem ofNat_toNat (n : Nat) (h : n < 256) : (UInt8.ofNat n).toNat = n := by rw [UInt8.toNat_ofNat']; omega
theorem pack_get (high : Bool) (bs : List Bool) (i : Nat) (hi : i < (pack high bs).length) : (pack high bs)[i].toNat = byteAt high bs i := by
  simp only [pack, List.getElem_map, List.getElem_range]
  exact ofNat_toNat _ (byteAt_lt _ _ _)
theorem pack_ext (high : Bool) (bs : List Bool) (l : List UInt8) (hl : l.length = (bs.length + 7) / 8) (h : ∀ i (hi : i < l.length), l[i].toNat = byteAt high bs i) : l = pack high bs := by
  apply List.ext_getElem (by rw [hl, pack_length])
  intro i h1 h2
  apply UInt8.toNat_inj.1
  rw [h i h1, pack_get]
theorem getD_snoc (bs : List Bool) (x : Bool) (k : Nat) : (bs ++ [x]).getD k false = (bs.getD k false || (decide (k = bs.length) && x)) := by
  rw [List.getD_eq_getElem?_getD, List.getD_eq_getElem?_getD]
  by_cases h : k < bs.length
  · rw [List.getElem?_append_left h]; simp [show k ≠ bs.length by omega]
  · rw [List.getElem?_append_right (by omega), List.getElem?_eq_none (by omega : bs.length ≤ k)]
    by_cases e : k = bs.length
    · subst e; simp
    · rw [List.getElem?_eq_none (by simp; omega)]; simp [e]
theorem pack_false_old (high : Bool) (bs : List Bool) (h : bs.length % 8 ≠ 0) : pack high (bs ++ [false]) = pack high bs := by
  refine (pack_ext high _ _ (by rw [pack_length]; simp; omega) fun i hi => ?_).symm
  rw [pack_get]; unfold byteAt; congr 1; funext j; rw [getD_snoc]; simp
theorem pack_false_new (high : Bool) (bs : List Bool) (h : bs.length % 8 = 0) : pack high (bs ++ [false]) = pack high bs ++ [0] := by
  refine (pack_ext high _ _ (by simp [pack_length]; omega) fun i hi => ?_).symm
  have e : byteAt high (bs ++ [false]) i = byteAt high bs i := by unfold byteAt; congr 1; funext j; rw [getD_snoc]; simp
  rw [e]
  by_cases hlt : i < (pack high bs).length
  · rw [List.getElem_append_left hlt, pack_get]
  · rw [List.getElem_append_right (by omega)]
    have : i = (bs.length + 7) / 8 := by simp [pack_length] at hi hlt; omega
    have hz : byteAt high bs i = 0 := by
      unfold byteAt
      have : (fun j => bs.getD (8 * i + j) false) = fun _ => false := by
        funext j; rw [List.getD_eq_getElem?_getD, List.getElem?_eq_none (by omega)]; rfl
      rw [this]; cases high <;> rfl
    rw [hz]; simp
theorem pack_true (high : Bool) (bs : List Bool) (hlt : bs.length / 8 < (pack high (bs ++ [false])).length) :
    pack high (bs ++ [true]) = (pack high (bs ++ [false])).set (bs.length / 8) (UInt8.ofNat ((pack high (bs ++ [false]))[bs.length / 8].toNat ||| wt high (bs.length % 8))) := by
  refine (pack_ext high _ _ (by simp [pack_length]) fun i hi => ?_).symm
  rw [List.getElem_set]
  split
  · next e =>
    subst e
    have h0 := pack_get high (bs ++ [false]) _ hlt
    have ho : byteAt high (bs ++ [true]) (bs.length / 8) = byteAt high (bs ++ [false]) (bs.length / 8) ||| wt high (bs.length % 8) := by
      refine byte8_or high _ _ _ (by omega) fun j hj => ?_
      rw [getD_snoc, getD_snoc]; simp
      congr 1
      by_cases e : j = bs.length % 8
      · subst e; simp; omega
      · simp [e]; omega
    rw [h0, ← ho, ofNat_toNat _ (byteAt_lt _ _ _)]
  · next e =>
    rw [pack_get]
    unfold byteAt
    simp only [byte8]
    have hk : ∀ j, j < 8 → (bs ++ [false]).getD (8 * i + j) false = (bs ++ [true]).getD (8 * i + j) false := by
      intro j hj; rw [getD_snoc, getD_snoc]; simp
      intro e'; omega
    rw [hk 0 (by omega), hk 1 (by omega), hk 2 (by omega), hk 3 (by omega), hk 4 (by omega), hk 5 (by omega), hk 6 (by omega), hk 7 (by omega)]
end Go.Proofs.Ytdhejhgpjeenaaa
