import Derived.Test.YtomcdhljjmnahaaGreatLibPAPa
import Derived.Test.YtomcdhljjmnahaaGreatLibSAPa
import Derived.Test.YtomcdhljjmnahaaGreatSqPa
set_option linter.unusedVariables false
set_option linter.unusedSimpArgs false
namespace Go.Proofs.YtomcdhljjmnahaaGreat
open Go.RowKit
abbrev PH := P26.PH
def sumL : List Int → Int
 | [] => 0
 | x :: l => x + sumL l
theorem sumL_append (l m : List Int) : sumL (l ++ m) = sumL l + sumL m := by
 induction l with
 | nil => simp [sumL]
 | cons x l ih => rw [List.cons_append, sumL, sumL, ih]; omega
def allPos (l : List Int) : Bool := l.all (fun x => decide (0 ≤ x))
theorem allPos_append (l m : List Int) : allPos (l ++ m) = (allPos l && allPos m) := by unfold allPos; rw [List.all_append]
theorem allPos_cons (x : Int) (l : List Int) : allPos (x :: l) = (decide (0 ≤ x) && allPos l) := rfl
theorem sumL_pos {l : List Int} (h : allPos l = true) : 0 ≤ sumL l := by
 induction l with
 | nil => exact Int.le_refl _
 | cons x l ih =>
   rw [allPos_cons, Bool.and_eq_true] at h
   have := ih h.2
   have := of_decide_eq_true h.1
   rw [sumL]; omega
def addL (l : List Int) : Int × Int := if allPos l = true then (if sumL l ≤ 2147483647 then (sumL l, 0) else (0, 5)) else (0, 2)
theorem addL_ok {l : List Int} : (addL l).2 = 0 ↔ (allPos l = true ∧ sumL l ≤ 2147483647) := by
 unfold addL
 by_cases h : allPos l = true
 ·by_cases h2 : sumL l ≤ 2147483647
  ·simp [h, h2]
  ·simp [h, h2]
 ·simp [h]
theorem addL_val {l : List Int} (h : allPos l = true) (h2 : sumL l ≤ 2147483647) : addL l = (sumL l, 0) := by unfold addL; rw [if_pos h, if_pos h2]
def pieceP (ahead : List Int) (len : Int) : Option (Int × Int) := if allPos ahead = true ∧ 1 ≤ len ∧ sumL ahead + len ≤ 2147483647 then some (sumL ahead, sumL ahead + len) else none
structure HT where
 fo : Int
 fa : Int
 ps : List PH
 so : Int
 sa : Int
 sf : Int
 sh : List Int
structure LT where
 len : Int
 ha : Int
 hl : Int
 fo : Int
 fe : Int
 pg : Int
 main : Int
def lensP (ps : List PH) : List Int := ps.map (·.l)
def ownP (h : HT) (l : LT) (p : Int) : Option (Int × Int) :=
 if 0 ≤ p ∧ p < h.ps.length then
  (if p = 0 then pieceP [h.fa] ((lensP h.ps)[0]?.getD 0) else pieceP (l.fe :: ((lensP h.ps).take p.toNat).drop 1) ((lensP h.ps)[p.toNat]?.getD 0))
 else none
def groupP (h : HT) (id : Int) : Option (Int × Int) :=
 if 0 ≤ id ∧ id < h.sh.length ∧ 0 ≤ h.sf ∧ h.sf ≤ h.sh.length then
  (if h.sf ≤ id then pieceP (h.sa :: (h.sh.take id.toNat).drop h.sf.toNat) (h.sh[id.toNat]?.getD 0) else pieceP (h.fa :: h.sh.take id.toNat) (h.sh[id.toNat]?.getD 0))
 else none
def othersP (main : Int) : Int → List Int → Option Int
 | e, [] => some e
 | e, x :: l => if 0 ≤ e ∧ 1 ≤ x ∧ e + x ≤ 2147483647 ∧ e + x ≤ main then othersP main (e + x) l else none
def tablesP (h : HT) (l : LT) : Bool := h.fo == l.fo && decide ((h.ps.length : Int) = l.pg) && decide (P26.chk h.fa h.ps = 0) && S27.okT h.so h.sa h.sf h.sh
def firstP (h : HT) (l : LT) : Bool :=
 match ownP h l 0 with
 | some x => decide (x.2 = l.fe) && decide ((addL (h.sh.take h.sf.toNat)).2 = 0) && decide (sumL (h.sh.take h.sf.toNat) = (lensP h.ps)[0]?.getD 0)
 | none => false
def behindP (h : HT) (l : LT) (e : Int) : Bool :=
 if (h.sh.length : Int) = h.sf then true else
  match groupP h (h.sh.length - 1) with
  | some x => decide (e ≤ h.sa) && decide (x.2 ≤ l.main)
  | none => false
def idsP (h : HT) : Bool := h.ps.all (fun p => p.sh.all (fun x => decide (x < h.sh.length)))
def chkP (h : HT) (l : LT) : Bool :=
 tablesP h l && firstP h l && (match othersP l.main l.fe ((lensP h.ps).drop 1) with
  | some e => behindP h l e && idsP h
  | none => false)
def chkE (h : HT) (l : LT) : Int := if chkP h l = true then 0 else 27
theorem piece_some {a : List Int} {n : Int} {x : Int × Int} (h : pieceP a n = some x) : allPos a = true ∧ 1 ≤ n ∧ sumL a + n ≤ 2147483647 ∧ x = (sumL a, sumL a + n) := by
 unfold pieceP at h
 split at h
 ·next hc => exact ⟨hc.1, hc.2.1, hc.2.2, (Option.some.inj h).symm⟩
 ·cases h
