import Derived.Test.YtipmbcalnnomjaaGreatTreePlVw
import Derived.Test.YtipmbcalnnomjaaGreatDocDVw
import Derived.Test.YtipmbcalnnomjaaGreatSqVw
set_option linter.unusedVariables false
set_option linter.unusedSimpArgs false
namespace Go.Proofs.YtipmbcalnnomjaaGreat
open Go.RowKit
def inhL : List ByteArray := [⟨#[82, 101, 115, 111, 117, 114, 99, 101, 115]⟩, ⟨#[77, 101, 100, 105, 97, 66, 111, 120]⟩, ⟨#[67, 114, 111, 112, 66, 111, 120]⟩, ⟨#[82, 111, 116, 97, 116, 101]⟩]
def inhK (k : Nat) : ByteArray := inhL.getD k ⟨#[]⟩
def giveN (g v : V) : Nat → V
 | 0 => g
 | k + 1 => if (v.get (inhK k)).2 = true then (giveN g v k).put (inhK k) (v.get (inhK k)).1 else giveN g v k
def giveP (g v : V) : V := giveN g v 4
def leafN (g v : V) : Nat → V
 | 0 => g
 | k + 1 => if (v.get (inhK k)).2 = true then (leafN g v k).dropped (inhK k) else leafN g v k
def leafP (g v : V) : V := leafN g v 4
theorem put_kind (v : V) (key : ByteArray) (x : V) (h : v.kind = 7) : (v.put key x).kind = 7 := by
 unfold V.put
 rw [if_pos h]
 split <;> exact h
theorem giveN_kind {g : V} (v : V) (h : g.kind = 7) : ∀ k, (giveN g v k).kind = 7
 | 0 => h
 | k + 1 => by
   unfold giveN
   split
   ·exact put_kind _ _ _ (giveN_kind v h k)
   ·exact giveN_kind v h k
theorem put_len (v : V) (key : ByteArray) (x : V) (h : v.kind = 7) : (v.put key x).l.length ≤ v.l.length + 2 ∧ (v.put key x).l ≠ [] := by
 unfold V.put
 rw [if_pos h]
 split
 ·rename_i i hi
  show (v.l.take (i + 1) ++ ([x] ++ v.l.drop (min (i + 2) v.l.length))).length ≤ _ ∧ _
  refine ⟨?_, ?_⟩
  ·simp only [List.length_append, List.length_take, List.length_drop, List.length_singleton]
   omega
  ·show v.l.take (i + 1) ++ ([x] ++ v.l.drop (min (i + 2) v.l.length)) ≠ []
   simp
 ·show (v.l.take (placeOf v.l key) ++ ([nameV key, x] ++ v.l.drop (placeOf v.l key))).length ≤ _ ∧ _
  refine ⟨?_, ?_⟩
  ·simp only [List.length_append, List.length_take, List.length_drop, List.length_cons, List.length_nil]
   omega
  ·show v.l.take (placeOf v.l key) ++ ([nameV key, x] ++ v.l.drop (placeOf v.l key)) ≠ []
   simp
theorem giveN_len {g : V} (v : V) (h : g.kind = 7) : ∀ k, (giveN g v k).l.length ≤ g.l.length + 2 * k
 | 0 => Nat.le_refl _
 | k + 1 => by
   unfold giveN
   have h1 := giveN_len v h k
   split
   ·have := (put_len (giveN g v k) (inhK k) (v.get (inhK k)).1 (giveN_kind v h k)).1
    omega
   ·omega
theorem dropped_len (v : V) (key : ByteArray) : (v.dropped key).l.length ≤ v.l.length := by
 unfold V.dropped
 split
 ·show (v.l.take _ ++ v.l.drop _).length ≤ _
  simp only [List.length_append, List.length_take, List.length_drop]
  omega
 ·exact Nat.le_refl _
theorem leafN_len (g v : V) : ∀ k, (leafN g v k).l.length ≤ g.l.length
 | 0 => Nat.le_refl _
 | k + 1 => by
   unfold leafN
   have h1 := leafN_len g v k
   split
   ·exact Nat.le_trans (dropped_len _ _) h1
   ·exact h1
theorem Top.off_new {w0 W : World} {d : Nat} {v : V} {cs : List Value} (h : Top w0 W d v cs) (hf : v.l = [] → ∀ b, Off b cs) {b : Nat} (hb : W.heap.size ≤ b) : Off b cs := by
 by_cases he : v.l = []
 ·exact hf he b
 ·intro x n c hx e
  obtain ⟨a, c', xs, hcs, _, _, _, hfit, hrow, _⟩ := h
  rw [hcs] at hx
  cases hx
  have hpos : 0 < xs.length := by
   rw [hfit.len]
   have := List.length_pos_iff.2 he
   omega
  obtain ⟨b', o, hb', hc⟩ := hrow 0 _ (List.getElem?_eq_getElem hpos)
  cases hb'
  have := World.block_lt_of_cell? W _ hc
  simp only at this e
  omega
def pickP (l : List Ob) : List Int → Int → Option (Int × List Int × Int × Int)
 | [], _ => none
 | k :: r, p => match nodeO (obAt l k) with
   | none => none
   | some (ks, c) => if p < c then some (k, ks, c, p) else pickP l r (p - c)
def findP (l : List Ob) : Nat → Int → List Int → Int → Int → List Int → V → Option (Int × List Int × V)
 | 0, _, _, _, _, _, _ => none
 | f + 1, n, kids, q, p, path, g =>
   if q = kids.length then
    if typedO (obAt l (kids.getD p.toNat 0)) "Page".toUTF8 = true then some (kids.getD p.toNat 0, path ++ [n], leafP (giveP g (obAt l n).v) (obAt l (kids.getD p.toNat 0)).v)
    else match nodeO (obAt l (kids.getD p.toNat 0)) with
     | some (ks, c) => if c = 1 then findP l f (kids.getD p.toNat 0) ks 1 0 (path ++ [n]) (giveP g (obAt l n).v) else none
     | none => none
   else match pickP l kids p with
    | some (k, ks, c, p') => findP l f k ks c p' (path ++ [n]) (giveP g (obAt l n).v)
    | none => none
def emptyV : V := .mk 7 0 ⟨#[]⟩ []
