import Derived.Test.YtnpiemcfbnpfdaaGreatBaseSr
import Derived.Deep.MidRow
import Derived.Test.YtnpiemcfbnpfdaaGreatSqSr
set_option linter.unusedVariables false
set_option linter.unusedSimpArgs false
namespace Go.Proofs.YtnpiemcfbnpfdaaGreat
open Go.RowKit
theorem Ext.setCells {S : Nat → Prop} {a : World} {b : Nat} : ∀ (vs : List Value) (o : Nat) (w : World), Ext S a w → (b < a.heap.size → S b) → Ext S a (w.setCells b o vs)
 | [], _, _, h, _ => h
 | v :: r, o, w, h, hb => Ext.setCells r (o + 1) _ (h.setCell (p := ⟨b, o, none⟩) hb v) hb
theorem BlockIs.setCells {b : Nat} {T : TypeId} : ∀ (vs pre old : List Value) (w : World), BlockIs w b (pre ++ old) T → old.length = vs.length → BlockIs (w.setCells b pre.length vs) b (pre ++ vs) T
 | [], pre, old, w, h, hl => by
   obtain rfl : old = [] := List.length_eq_zero_iff.1 hl
   exact h
 | v :: r, pre, old, w, h, hl => by
   cases old with
   | nil => simp at hl
   | cons o old =>
     have h1 := h.set pre.length v
     have e : (pre ++ o :: old).set pre.length v = (pre ++ [v]) ++ old := by simp
     rw [e] at h1
     have h2 := BlockIs.setCells r (pre ++ [v]) old _ h1 (by simpa using hl)
     have e2 : (pre ++ [v]) ++ r = pre ++ v :: r := by simp
     rw [e2, List.length_append] at h2
     exact h2
theorem BlockIs.setAll {w : World} {b : Nat} {T : TypeId} {cs : List Value} (vs : List Value) (h : BlockIs w b cs T) (hl : cs.length = vs.length) : BlockIs (w.setCells b 0 vs) b vs T :=
 BlockIs.setCells vs [] cs w h hl
theorem BlockIs.range {w : World} {b : Nat} {T : TypeId} {cs : List Value} (h : BlockIs w b cs T) : w.rangeAt b 0 cs := fun j v hv => by rw [Nat.zero_add, h.cell j]; exact hv
theorem BlockIs.there {w : World} {b : Nat} {T : TypeId} {cs : List Value} (h : BlockIs w b cs T) (n : Nat) (hn : n = cs.length) : w.there b 0 n := fun j hj => by
 rw [Nat.zero_add, h.cell j, h.free j, List.getElem?_eq_getElem (by omega)]
 exact ⟨rfl, rfl⟩
