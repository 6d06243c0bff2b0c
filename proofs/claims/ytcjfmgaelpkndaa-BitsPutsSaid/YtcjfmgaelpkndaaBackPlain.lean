/-
  Plain: the parts that a writer takes, and what a reader gets of their bits.
-/
import Derived.Test.YtcjfmgaelpkndaaNums
namespace Go.Proofs.Ytcjfmgaelpkndaa
set_option linter.unusedVariables false

/-- may a number be put in so many bits? -/
def okP (p : Int × Int) : Bool := decide (0 ≤ p.2) && decide (p.2 ≤ 32) && decide (p.1.toNat < 2 ^ p.2.toNat)
def bitsP (high : Bool) (p : Int × Int) : List Bool := bitsNum high p.1.toNat p.2.toNat
def bitsAll (high : Bool) (l : List (Int × Int)) : List Bool := l.flatMap (bitsP high)
theorem bitsP_length (high : Bool) (p : Int × Int) : (bitsP high p).length = p.2.toNat := bitsNum_length _ _ _
theorem bitsAll_append (high : Bool) (l m : List (Int × Int)) : bitsAll high (l ++ m) = bitsAll high l ++ bitsAll high m := by simp [bitsAll]
theorem bitsAll_le (high : Bool) (l : List (Int × Int)) (h : ∀ p ∈ l, okP p = true) : (bitsAll high l).length ≤ 32 * l.length := by
  induction l with
  | nil => simp [bitsAll]
  | cons p l ih =>
    have h1 := ih (fun q hq => h q (by simp [hq]))
    have h2 := h p (by simp)
    simp only [okP, Bool.and_eq_true, decide_eq_true_eq] at h2
    have h3 : bitsAll high (p :: l) = bitsP high p ++ bitsAll high l := by simp [bitsAll]
    rw [h3, List.length_append, bitsP_length, List.length_cons]
    omega
/-- the parts among the first k that may be put -/
def kept (l : List (Int × Int)) (k : Nat) : List (Int × Int) := (l.take k).filter okP
theorem kept_len (l : List (Int × Int)) (k : Nat) : (kept l k).length ≤ k := Nat.le_trans (List.length_filter_le _ _) (List.length_take_le _ _)
theorem kept_ok (l : List (Int × Int)) (k : Nat) : ∀ p ∈ kept l k, okP p = true := fun p hp => (List.mem_filter.1 hp).2
theorem kept_succ (l : List (Int × Int)) (k : Nat) (hk : k < l.length) : kept l (k + 1) = kept l k ++ (if okP l[k] then [l[k]] else []) := by
  unfold kept
  rw [List.take_add_one, List.getElem?_eq_getElem hk, Option.toList, List.filter_append]
  congr 1
  cases h : okP l[k] <;> simp [h]
/-- what is got: the part's bits lie where they were put -/
theorem drop_all (high : Bool) (l : List (Int × Int)) (k : Nat) (hk : k < l.length) (tail : List Bool) :
    ((bitsAll high l ++ tail).drop (bitsAll high (l.take k)).length).take l[k].2.toNat = bitsP high l[k] := by
  have e : l.drop k = l[k] :: l.drop (k + 1) := (List.getElem_cons_drop hk).symm
  have h0 : bitsAll high l = bitsAll high (l.take k) ++ bitsAll high (l.drop k) := by rw [← bitsAll_append, List.take_append_drop]
  have h : bitsAll high l ++ tail = bitsAll high (l.take k) ++ (bitsP high l[k] ++ (bitsAll high (l.drop (k + 1)) ++ tail)) := by
    rw [h0, e, show bitsAll high (l[k] :: l.drop (k + 1)) = bitsP high l[k] ++ bitsAll high (l.drop (k + 1)) from List.flatMap_cons, List.append_assoc, List.append_assoc]
  rw [h, List.drop_left, List.take_append_of_le_length (by rw [bitsP_length]; exact Nat.le_refl _), List.take_of_length_le (by rw [bitsP_length]; exact Nat.le_refl _)]
theorem bitsAll_succ (high : Bool) (l : List (Int × Int)) (k : Nat) (hk : k < l.length) : (bitsAll high (l.take (k + 1))).length = (bitsAll high (l.take k)).length + l[k].2.toNat := by
  rw [List.take_add_one, List.getElem?_eq_getElem hk, Option.toList, bitsAll_append, List.length_append]; simp [bitsAll, bitsP_length]
theorem bitsAll_take_le (high : Bool) (l : List (Int × Int)) (k : Nat) : (bitsAll high (l.take k)).length ≤ (bitsAll high l).length := by
  conv => rhs; rw [← List.take_append_drop k l, bitsAll_append, List.length_append]
  omega
theorem num_bitsP (high : Bool) (p : Int × Int) (h0 : 0 ≤ p.1) (h : okP p = true) : ((num high (bitsP high p) : Nat) : Int) = p.1 := by
  simp only [okP, Bool.and_eq_true, decide_eq_true_eq] at h
  unfold bitsP
  rw [num_bitsNum high _ _ h.2]; omega
/-- the rest of the last byte is 0 -/
theorem num_rest (high : Bool) (bs : List Bool) (n : Nat) : num high (((align bs).drop bs.length).take n) = 0 := by
  have h : ((align bs).drop bs.length).take n = List.replicate (min n (8 * ((bs.length + 7) / 8) - bs.length)) false := by
    unfold align; rw [List.drop_left, List.take_replicate]
  rw [h]
  refine (num_ext high _ (List.length_replicate) (Nat.two_pow_pos _) fun k hk => ?_).symm
  simp [List.getD_eq_getElem?_getD, List.getElem?_replicate, hk]
end Go.Proofs.Ytcjfmgaelpkndaa
