/-
  Plain mathematics of numbers of bits.
-/
import Derived.Test.YtdhejhgpjeenaaaPlain
namespace Go.Proofs.Ytdhejhgpjeenaaa
set_option linter.unusedVariables false

def dbl (x : Nat) (b : Bool) : Nat := 2 * x + b.toNat
def msb (l : List Bool) : Nat := l.foldl dbl 0
theorem msb_snoc (l : List Bool) (b : Bool) : msb (l ++ [b]) = 2 * msb l + b.toNat := by simp [msb, dbl]
theorem list_snoc_ind {α : Type} {p : List α → Prop} (h0 : p []) (h1 : ∀ l b, p l → p (l ++ [b])) (l : List α) : p l := by
  have key : ∀ n (l : List α), l.length = n → p l := by
    intro n
    induction n with
    | zero => intro l hl; rw [List.length_eq_zero_iff.1 hl]; exact h0
    | succ n ih =>
      intro l hl
      have hne : l ≠ [] := by intro e; subst e; simp at hl
      rw [← List.dropLast_concat_getLast hne]
      exact h1 _ _ (ih _ (by simp [hl]))
  exact key _ l rfl
theorem msb_lt (l : List Bool) : msb l < 2 ^ l.length := by
  induction l using list_snoc_ind with
  | h0 => simp [msb]
  | h1 l b ih =>
    rw [msb_snoc, List.length_append, List.length_singleton, Nat.pow_succ]
    have : b.toNat ≤ 1 := Bool.toNat_le b
    omega
theorem msb_bit (l : List Bool) (p : Nat) (hp : p < l.length) : (msb l).testBit p = l.getD (l.length - 1 - p) false := by
  induction l using list_snoc_ind generalizing p with
  | h0 => simp at hp
  | h1 l b ih =>
    rw [msb_snoc]
    simp at hp
    cases p with
    | zero =>
      rw [getD_snoc]
      simp [Nat.testBit_zero]
      cases b <;> simp <;> omega
    | succ p =>
      rw [Nat.testBit_succ, show (2 * msb l + b.toNat) / 2 = msb l from by have : b.toNat ≤ 1 := Bool.toNat_le b; omega, ih p (by omega), List.length_append, List.length_singleton, show l.length + 1 - 1 - (p + 1) = l.length - 1 - p from by omega, getD_snoc, decide_eq_false (by omega)]
      simp

/-- the number of bits -/
def num (high : Bool) (l : List Bool) : Nat := msb (if high then l else l.reverse)
/-- the place of the k-th bit of n -/
def turn (high : Bool) (k n : Nat) : Nat := if high then n - 1 - k else k
theorem num_lt (high : Bool) (l : List Bool) : num high l < 2 ^ l.length := by
  unfold num; split
  · exact msb_lt l
  · have := msb_lt l.reverse; simpa using this
theorem num_bit (high : Bool) (l : List Bool) (k : Nat) (hk : k < l.length) : (num high l).testBit (turn high k l.length) = l.getD k false := by
  unfold num turn
  cases high with
  | true =>
    simp only [if_true]
    rw [msb_bit _ _ (by omega)]; congr 1; omega
  | false =>
    simp only [Bool.false_eq_true, if_false]
    rw [msb_bit _ _ (by simpa using hk)]
    simp only [List.length_reverse, List.getD_eq_getElem?_getD]
    rw [List.getElem?_reverse (by omega)]
    congr 2; omega
theorem turn_lt (high : Bool) (k n : Nat) (h : k < n) : turn high k n < n := by unfold turn; split <;> omega
theorem turn_turn (high : Bool) (k n : Nat) (h : k < n) : turn high (turn high k n) n = k := by unfold turn; cases high <;> simp <;> omega
theorem num_ext {x n : Nat} (high : Bool) (l : List Bool) (hn : l.length = n) (hx : x < 2 ^ n) (h : ∀ k, k < n → x.testBit (turn high k n) = l.getD k false) : x = num high l := by
  subst hn
  apply Nat.eq_of_testBit_eq
  intro i
  by_cases hi : i < l.length
  · have := h (turn high i l.length) (turn_lt high i _ hi)
    rw [turn_turn high i _ hi] at this
    rw [this, ← num_bit high l _ (turn_lt high i _ hi), turn_turn high i _ hi]
  · have p : 2 ^ l.length ≤ 2 ^ i := Nat.pow_le_pow_right (by decide) (by omega)
    rw [Nat.testBit_lt_two_pow (by omega), Nat.testBit_lt_two_pow (by have := num_lt high l; omega)]
/-- a number's bits -/
def bitsNum (high : Bool) (x n : Nat) : List Bool := (List.range n).map fun k => x.testBit (turn high k n)
theorem bitsNum_length (high : Bool) (x n : Nat) : (bitsNum high x n).length = n := by simp [bitsNum]
theorem num_bitsNum (high : Bool) (x n : Nat) (h : x < 2 ^ n) : num high (bitsNum high x n) = x :=
  (num_ext high _ (bitsNum_length _ _ _) h fun k hk => by simp [bitsNum, List.getD_eq_getElem?_getD, hk]).symm
/-- the number of the first k bits of n -/
def part (high : Bool) (l : List Bool) (n k : Nat) : Nat := num high (l.take k ++ List.replicate (n - k) false)
theorem part_lt (high : Bool) (l : List Bool) (n k : Nat) (hl : l.length = n) (hk : k ≤ n) : part high l n k < 2 ^ n := by
  have := num_lt high (l.take k ++ List.replicate (n - k) false)
  rwa [show (l.take k ++ List.replicate (n - k) false).length = n from by simp; omega] at this
theorem part_zero (high : Bool) (l : List Bool) (n : Nat) : part high l n 0 = 0 := by
  refine (num_ext high _ (by simp) (Nat.two_pow_pos n) fun k hk => ?_).symm
  simp [List.getD_eq_getElem?_getD, hk]
theorem part_all (high : Bool) (l : List Bool) (n : Nat) (hl : l.length = n) : part high l n n = num high l := by
  unfold part; simp [← hl]
theorem part_bit (high : Bool) (l : List Bool) (n k i : Nat) (hl : l.length = n) (hk : k ≤ n) (hi : i < n) : (part high l n k).testBit (turn high i n) = (decide (i < k) && l.getD i false) := by
  have hlen : (l.take k ++ List.replicate (n - k) false).length = n := by simp; omega
  have := num_bit high (l.take k ++ List.replicate (n - k) false) i (by omega)
  rw [hlen] at this
  unfold part
  rw [this, List.getD_eq_getElem?_getD, List.getD_eq_getElem?_getD]
  by_cases h : i < k
  · rw [List.getElem?_append_left (by simp; omega)]; simp [List.getElem?_take, h]
  · rw [List.getElem?_append_right (by simp; omega), List.getElem?_replicate]; simp [h]; split <;> rfl
theorem part_step (high : Bool) (l : List Bool) (n k : Nat) (hl : l.length = n) (hk : k < n) :
    part high l n (k + 1) = if l.getD k false then part high l n k ||| 2 ^ turn high k n else part high l n k := by
  have hlen : (l.take (k + 1) ++ List.replicate (n - (k + 1)) false).length = n := by simp; omega
  refine (num_ext high _ hlen ?_ fun i hi => ?_).symm
  · have h1 := part_lt high l n k hl (by omega)
    split
    · exact Nat.or_lt_two_pow h1 (Nat.pow_lt_pow_right (by decide) (turn_lt high k n hk))
    · exact h1
  · have h2 := part_bit high l n (k + 1) i hl (by omega) hi
    have h2' := num_bit high (l.take (k + 1) ++ List.replicate (n - (k + 1)) false) i (by omega)
    rw [hlen] at h2'
    unfold part at h2
    rw [h2'] at h2
    rw [h2]
    have h3 := part_bit high l n k i hl (by omega) hi
    by_cases e : i = k
    · subst e
      split
      · next h => rw [Nat.testBit_or, h3]; simp at h; simp [h]
      · next h => rw [h3]; simp at h; simp [h]
    · have hd : decide (i < k + 1) = decide (i < k) := by by_cases h : i < k <;> simp [h] <;> omega
      rw [hd]
      split
      · rw [Nat.testBit_or, h3, Nat.testBit_two_pow]
        have : turn high k n ≠ turn high i n := by intro h; apply e; have := congrArg (fun x => turn high x n) h; simp only [turn_turn high k n hk, turn_turn high i n hi] at this; exact this.symm
        simp [this]
      · exact h3

/-- bytes' bits -/
def bitOf (high : Bool) (b : List UInt8) (k : Nat) : Bool := (b.getD (k / 8) 0).toNat.testBit (pl high (k % 8))
def bitsOf (high : Bool) (b : List UInt8) : List Bool := (List.range (8 * b.length)).map (bitOf high b)
theorem bitsOf_length (high : Bool) (b : List UInt8) : (bitsOf high b).length = 8 * b.length := by simp [bitsOf]
theorem bitsOf_get (high : Bool) (b : List UInt8) (k : Nat) (hk : k < 8 * b.length) : (bitsOf high b).getD k false = bitOf high b k := by
  simp [bitsOf, List.getD_eq_getElem?_getD, hk]
theorem bitOf_pack (high : Bool) (bs : List Bool) (k : Nat) (hk : k < 8 * ((bs.length + 7) / 8)) : bitOf high (pack high bs) k = bs.getD k false := by
  have hi : k / 8 < (pack high bs).length := by rw [pack_length]; omega
  have h := pack_get high bs (k / 8) hi
  unfold bitOf
  rw [List.getD_eq_getElem?_getD, List.getElem?_eq_getElem hi, Option.getD_some, h]
  unfold byteAt
  rw [byte8_bit high _ (k % 8) (by omega), Nat.div_add_mod]
/-- filled up to a byte -/
def align (bs : List Bool) : List Bool := bs ++ List.replicate (8 * ((bs.length + 7) / 8) - bs.length) false
theorem align_length (bs : List Bool) : (align bs).length = 8 * ((bs.length + 7) / 8) := by simp [align]; omega
theorem align_get (bs : List Bool) (k : Nat) : (align bs).getD k false = bs.getD k false := by
  unfold align
  rw [List.getD_eq_getElem?_getD, List.getD_eq_getElem?_getD]
  by_cases h : k < bs.length
  · rw [List.getElem?_append_left h]
  · rw [List.getElem?_append_right (by omega), List.getElem?_eq_none (by omega : bs.length ≤ k), List.getElem?_replicate]; split <;> rfl
theorem pack_align (high : Bool) (bs : List Bool) : pack high (align bs) = pack high bs := by
  refine (pack_ext high _ _ (by rw [pack_length, align_length]; omega) fun i hi => ?_).symm
  rw [pack_get]; unfold byteAt; congr 1; funext j; rw [align_get]
theorem bitsOf_pack (high : Bool) (bs : List Bool) : bitsOf high (pack high bs) = align bs := by
  apply List.ext_getElem (by rw [bitsOf_length, pack_length, align_length])
  intro k h1 h2
  have e1 := bitsOf_get high (pack high bs) k (by simpa [bitsOf_length] using h1)
  have e2 := bitOf_pack high bs k (by rw [bitsOf_length, pack_length] at h1; exact h1)
  have e3 := align_get bs k
  rw [List.getD_eq_getElem?_getD, List.getElem?_eq_getElem h1, Option.getD_some] at e1
  rw [List.getD_eq_getElem?_getD, List.getElem?_eq_getElem h2, Option.getD_some] at e3
  rw [e1, e2, e3]
end Go.Proofs.Ytdhejhgpjeenaaa
