/-
  Plain: the bits of a table of hints.
-/
import Derived.Test.YtdhejhgpjeenaaaLeast
import Derived.Test.YtdhejhgpjeenaaaCheck
namespace Go.Proofs.Ytdhejhgpjeenaaa
open C26
set_option linter.unusedVariables false

/-- the greatest of a row; 0 where there is none -/
def mx (ls : List Nat) : Nat := ls.foldl max 0
theorem le_mx {ls : List Nat} {y : Nat} (h : y ∈ ls) : y ≤ mx ls := (foldl_max_le ls 0).2 y h
theorem mx_lt {ls : List Nat} {B : Nat} (hB : 0 < B) (h : ∀ y ∈ ls, y < B) : mx ls < B := foldl_max_lt ls 0 B hB h
theorem mx_take_succ (ls : List Nat) (k : Nat) (hk : k < ls.length) : mx (ls.take (k + 1)) = max (mx (ls.take k)) ls[k] := by
  unfold mx; rw [List.take_succ_eq_append_getElem hk, List.foldl_append]; rfl
theorem mx_append (xs : List Nat) (y : Nat) : mx (xs ++ [y]) = max (mx xs) y := by unfold mx; rw [List.foldl_append]; rfl
/-- as many of a number's lowest bits as there is room for, so many times -/
def fillN (n w x : Nat) : List Bool := (List.replicate n (x % 2 ^ w)).flatMap (fun y => bN y w)
theorem fillN_len (n w x : Nat) : (fillN n w x).length = n * w := by
  unfold fillN
  induction n with
  | zero => simp
  | succ n ih => rw [List.replicate_succ, List.flatMap_cons, List.length_append, ih, bN_len, Nat.add_mul]; omega
theorem fillN_succ (n w x : Nat) : fillN (n + 1) w x = fillN n w x ++ bN (x % 2 ^ w) w := by
  unfold fillN; rw [List.replicate_succ', List.flatMap_append]; simp
theorem fillN_zero (n x : Nat) : fillN n 0 x = [] := List.length_eq_zero_iff.1 (by rw [fillN_len, Nat.mul_zero])
/-- numbers, one behind the other -/
def numsB (xs : List Nat) (w : Nat) : List Bool := xs.flatMap (fun x => bN x w)
theorem numsB_len (xs : List Nat) (w : Nat) : (numsB xs w).length = xs.length * w := by
  unfold numsB
  induction xs with
  | nil => simp
  | cons x xs ih => rw [List.flatMap_cons, List.length_append, ih, bN_len, List.length_cons, Nat.add_mul]; omega
theorem numsB_append (xs ys : List Nat) (w : Nat) : numsB (xs ++ ys) w = numsB xs w ++ numsB ys w := by unfold numsB; rw [List.flatMap_append]
theorem numsB_one (x w : Nat) : numsB [x] w = bN x w := by simp [numsB]
theorem numsB_take_succ (xs : List Nat) (k w : Nat) (hk : k < xs.length) : numsB (xs.take (k + 1)) w = numsB (xs.take k) w ++ bN xs[k] w := by
  rw [List.take_succ_eq_append_getElem hk, numsB_append, numsB_one]
/-- hints whose numbers may be, as naturals -/
structure HN where
  os : List Nat
  ls : List Nat
  shs : List (List Nat)
namespace HN
def all (h : HN) : List Nat := h.shs.flatten
def counts (h : HN) : List Nat := h.shs.map List.length
def many (h : HN) : Nat := h.all.length
def wa (h : HN) : Nat := width h.os
def wb (h : HN) : Nat := width h.ls
def wc (h : HN) : Nat := wid (mx h.counts)
def wd (h : HN) : Nat := wid (mx h.all)
def above (xs : List Nat) : List Nat := xs.map (fun x => x - least xs)
structure Ok (h : HN) : Prop where
  pos : 1 ≤ h.os.length
  le : h.os.length ≤ 40
  ll : h.ls.length = h.os.length
  lsh : h.shs.length = h.os.length
  os : ∀ x ∈ h.os, 1 ≤ x ∧ x ≤ 4096
  ls : ∀ x ∈ h.ls, 1 ≤ x ∧ x ≤ 2147483647
  sh : ∀ x ∈ h.all, x ≤ 4095
  many : h.many ≤ 65536
end HN
/-- what there is where contents and fractions are: three widths, and what stands there -/
structure RestN where
  f : Nat
  p : Nat
  q : Nat
  fill : Nat
def RestN.x (r : RestN) : Nat := if r.f + r.p + r.q = 0 then 0 else r.fill
def rest0 : RestN := ⟨0, 0, 0, 0⟩
def headB (a : Nat) (h : HN) (r : RestN) : List Bool :=
  bN (least h.os) 32 ++ bN a 32 ++ bN h.wa 16 ++ bN (least h.ls) 32 ++ bN h.wb 16 ++ bN r.x 32 ++ bN r.p 16 ++ bN r.x 32 ++ bN r.q 16 ++ bN h.wc 16 ++ bN h.wd 16 ++ bN r.f 16 ++ bN 1 16
theorem headB_len (a : Nat) (h : HN) (r : RestN) : (headB a h r).length = 288 := by simp [headB, bN_len]
def part1 (a : Nat) (h : HN) (r : RestN) : List Bool := align (headB a h r ++ numsB (HN.above h.os) h.wa)
def part2 (a : Nat) (h : HN) (r : RestN) : List Bool := align (part1 a h r ++ numsB (HN.above h.ls) h.wb)
def part3 (a : Nat) (h : HN) (r : RestN) : List Bool := align (part2 a h r ++ numsB h.counts h.wc)
def part4 (a : Nat) (h : HN) (r : RestN) : List Bool := align (part3 a h r ++ numsB h.all h.wd)
def part5 (a : Nat) (h : HN) (r : RestN) : List Bool := align (part4 a h r ++ fillN h.many r.f r.fill)
def part6 (a : Nat) (h : HN) (r : RestN) : List Bool := align (part5 a h r ++ fillN h.os.length r.p r.fill)
def tabB (a : Nat) (h : HN) (r : RestN) : List Bool := align (part6 a h r ++ fillN h.os.length r.q r.fill)
/-- a table with nothing where contents and fractions are -/
theorem tabB_plain (a : Nat) (h : HN) : tabB a h rest0 = part4 a h rest0 := by
  have e4 : align (part4 a h rest0) = part4 a h rest0 := align_id (align_mod _)
  unfold tabB part6 part5 rest0
  simp only [fillN_zero, List.append_nil]
  rw [show (⟨0, 0, 0, 0⟩ : RestN) = rest0 from rfl, e4, e4, e4]
end Go.Proofs.Ytdhejhgpjeenaaa
