import Derived.Test.YtnpiemcfbnpfdaaGreatProg
import Derived.Test.YtnpiemcfbnpfdaaGreatOwnSr
import Derived.WalkSpells
import Derived.Test.YtnpiemcfbnpfdaaGreatSqSr
set_option linter.unusedVariables false
set_option linter.unusedSimpArgs false
namespace Go.Proofs.YtnpiemcfbnpfdaaGreat
open Go.RowKit
theorem cell_new (w : World) (C : Array Value) (e : TypeId) (m : Nat × Nat) (i : Nat) : (w.alloc (.cells C e m)).cell? ⟨w.heap.size, i, none⟩ = C[i]? := by
 unfold World.cell?; rw [show (w.alloc (.cells C e m)).heap[w.heap.size]? = some (.cells C e m) from heap_alloc_new w _]; simp
theorem row_at {w : World} {e : TypeId} {m : Nat × Nat} {C : Array Value} {b : Nat} (cs : List Value) (hb : w.heap.size = b) (hC : C = cs.toArray) : RowOf (w.alloc (.cells C e m)) (some ⟨b, 0, none⟩) cs := by
 subst hb hC
 intro i u hu
 refine ⟨_, _, rfl, ?_⟩
 rw [cell_new]; simpa using hu
theorem ext_alloc (w : World) (o : Obj) : Pure w (w.alloc o) := (Ext.refl _ w).alloc o
theorem row_take {w : World} {a : Option Addr} {l : List Value} (h : RowOf w a l) (n : Nat) : RowOf w a (l.take n) := by
 intro i u hu
 rw [List.getElem?_take] at hu
 split at hu
 ·exact h i u hu
 ·cases hu
theorem row_drop {w : World} {a : Option Addr} {l : List Value} (h : RowOf w a l) (n : Nat) : RowOf w (a.map fun x => x.add n) (l.drop n) := by
 intro i u hu
 rw [List.getElem?_drop] at hu
 obtain ⟨b, o, rfl, hc⟩ := h (n + i) u hu
 exact ⟨b, o + n, by simp [addr_add], by rw [show o + n + i = o + (n + i) from by omega]; exact hc⟩
theorem row_nil (w : World) (ad : Option Addr) : RowOf w ad [] := fun i u h => by simp at h
theorem eql_nil {P : Program} {t e : TypeId} (h : P.underlying t = some (.slice e)) (w : World) (a : Option Addr) (n c : Nat) : (binOp .eql t (.slice a n c) (.slice none 0 0)).run P w = .ok (.bool a.isNone) w := by
 simp only [binOp]
 simp [Op.equal, Op.maxDepth, Lib.run_equalIn_slice_nil w 9999 t e a n c 0 0 h]
