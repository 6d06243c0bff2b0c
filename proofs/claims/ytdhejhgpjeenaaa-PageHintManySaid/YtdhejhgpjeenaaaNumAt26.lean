/-
  Plain: numbers that were put are found at their places (chapter 26).
-/
import Derived.Test.YtdhejhgpjeenaaaRefRow26
namespace Go.Proofs.Ytdhejhgpjeenaaa.C26
open Go.RowKit Go.Proofs.Ytdhejhgpjeenaaa
set_option linter.unusedVariables false

theorem numAt_mid {bs pre post : List Bool} {x n p : Nat} (hb : bs = pre ++ (bitsNum true x n ++ post)) (hp : p = pre.length) (hx : x < 2 ^ n) : numAt bs p n = x := by
  subst hb hp
  unfold numAt
  rw [List.drop_left' rfl, List.take_left' (bitsNum_length true x n)]
  exact num_bitsNum true x n hx
theorem vals_cons (bs : List Bool) (p w k : Nat) : vals bs p w (k + 1) = numAt bs p w :: vals bs (p + w) w k := by
  unfold vals
  rw [List.range_succ_eq_map, List.map_cons, List.map_map]
  congr 1
  · rw [Nat.zero_mul, Nat.add_zero]
  · refine List.map_congr_left fun j _ => ?_
    simp only [Function.comp, Nat.succ_eq_add_one]
    rw [show p + (j + 1) * w = p + w + j * w from by rw [Nat.add_mul]; omega]
theorem vals_flat {bs post : List Bool} {w p n : Nat} : ∀ (xs : List Nat) (pre : List Bool), bs = pre ++ (xs.flatMap (fun x => bitsNum true x w) ++ post) → p = pre.length → n = xs.length → (∀ x ∈ xs, x < 2 ^ w) → vals bs p w n = xs := by
  intro xs
  induction xs generalizing p n with
  | nil => intro pre _ _ hn _; subst hn; rfl
  | cons x xs ih =>
    intro pre hb hp hn hx
    subst hn
    rw [List.length_cons, vals_cons, numAt_mid (pre := pre) (post := xs.flatMap (fun x => bitsNum true x w) ++ post) (by rw [hb, List.flatMap_cons, List.append_assoc]) hp (hx x (by simp))]
    congr 1
    exact ih (pre ++ bitsNum true x w) (by rw [hb, List.flatMap_cons, List.append_assoc, List.append_assoc]) (by rw [List.length_append, bitsNum_length, hp]) rfl (fun y hy => hx y (by simp [hy]))
def bitN (b : Bool) : Nat := if b then 1 else 0
theorem bits_flat (l : List Bool) : (l.map bitN).flatMap (fun x => bitsNum true x 1) = l := by
  induction l with
  | nil => rfl
  | cons b l ih => rw [List.map_cons, List.flatMap_cons, ih]; cases b <;> rfl
theorem vals_bits {bs pre post l : List Bool} {p n : Nat} (hb : bs = pre ++ (l ++ post)) (hp : p = pre.length) (hn : n = l.length) : vals bs p 1 n = l.map bitN :=
  vals_flat (post := post) (l.map bitN) pre (by rw [bits_flat]; exact hb) hp (by rw [List.length_map]; exact hn) (fun x hx => by obtain ⟨b, _, rfl⟩ := List.mem_map.1 hx; cases b <;> decide)
theorem sum_bits (l : List Bool) : (l.map bitN).sum = l.count true := by
  induction l with
  | nil => rfl
  | cons b l ih => rw [List.map_cons, List.sum_cons, ih, List.count_cons]; cases b <;> simp [bitN] <;> omega
theorem bitsOf_append (high : Bool) (x y : List UInt8) : bitsOf high (x ++ y) = bitsOf high x ++ bitsOf high y := by
  apply List.ext_getElem (by rw [List.length_append, bitsOf_length, bitsOf_length, bitsOf_length, List.length_append]; omega)
  intro k h1 h2
  have h1' : k < 8 * (x ++ y).length := by simpa [bitsOf_length] using h1
  have e1 := bitsOf_get high (x ++ y) k h1'
  rw [List.getD_eq_getElem?_getD, List.getElem?_eq_getElem h1, Option.getD_some] at e1
  rw [e1]
  by_cases h : k < (bitsOf high x).length
  · rw [List.getElem_append_left h]
    have hk : k < 8 * x.length := by rwa [bitsOf_length] at h
    have e2 := bitsOf_get high x k hk
    rw [List.getD_eq_getElem?_getD, List.getElem?_eq_getElem h, Option.getD_some] at e2
    rw [e2]; unfold bitOf
    rw [List.getD_eq_getElem?_getD, List.getD_eq_getElem?_getD, List.getElem?_append_left (by omega)]
  · have hge : 8 * x.length ≤ k := by rw [bitsOf_length] at h; omega
    have hk : k - (bitsOf high x).length < (bitsOf high y).length := by rw [List.length_append] at h2; omega
    rw [List.getElem_append_right (by omega)]
    have hk' : k - 8 * x.length < 8 * y.length := by rw [bitsOf_length, bitsOf_length] at hk; omega
    have e2 := bitsOf_get high y (k - (bitsOf high x).length) (by rw [bitsOf_length]; exact hk')
    rw [List.getD_eq_getElem?_getD, List.getElem?_eq_getElem hk, Option.getD_some] at e2
    rw [e2, bitsOf_length]; unfold bitOf
    rw [List.getD_eq_getElem?_getD, List.getD_eq_getElem?_getD, List.getElem?_append_right (by omega), show k / 8 - x.length = (k - 8 * x.length) / 8 from by omega, show (k - 8 * x.length) % 8 = k % 8 from by omega]
theorem al8_id {x : Nat} (h : x % 8 = 0) : al8 x = x := by unfold al8; omega
theorem al8_align (bs : List Bool) : (align bs).length = al8 bs.length := align_length bs
end Go.Proofs.Ytdhejhgpjeenaaa.C26
