import Derived.WalkKit
import Derived.Lib.Hide
import Derived.Deep.QuietTactic
import Derived.BigQuiet
import Derived.Deep.LoopGhost
import Derived.Test.YtipmbcalnnomjaaGreatSqTu
set_option linter.unusedVariables false
set_option linter.unusedSimpArgs false
namespace Go.Proofs.YtipmbcalnnomjaaGreat
open Go.RowKit
structure Ext (S : Nat → Prop) (w w' : World) : Prop where
 os : w'.os = w.os
 tape : w'.tape = w.tape
 output : w'.output = w.output
 size : w.heap.size ≤ w'.heap.size
 block : ∀ k, k < w.heap.size → ¬ S k → w'.heap[k]? = w.heap[k]?
abbrev Pure (w w' : World) : Prop := Ext (fun _ => False) w w'
namespace Ext
variable {S : Nat → Prop} {a w w' : World}
theorem refl (S : Nat → Prop) (w : World) : Ext S w w := ⟨rfl, rfl, rfl, Nat.le_refl _, fun _ _ _ => rfl⟩
theorem trans' {S T U : Nat → Prop} {a b c : World} (h : Ext S a b) (k : Ext T b c) (hS : ∀ i, i < a.heap.size → S i → U i) (hT : ∀ i, i < a.heap.size → T i → U i) : Ext U a c :=
 ⟨k.os.trans h.os, k.tape.trans h.tape, k.output.trans h.output, Nat.le_trans h.size k.size,
  fun i hi hn => (k.block i (Nat.lt_of_lt_of_le hi h.size) (fun e => hn (hT i hi e))).trans (h.block i hi (fun e => hn (hS i hi e)))⟩
theorem trans {T : Nat → Prop} {a b c : World} (h : Ext S a b) (k : Ext T b c) (hT : ∀ i, i < a.heap.size → T i → S i) : Ext S a c :=
 trans' h k (fun _ _ e => e) hT
theorem pure {b c : World} (h : Ext S a b) (k : Pure b c) : Ext S a c := trans h k (fun _ _ e => e.elim)
theorem mono {T : Nat → Prop} (h : Ext S a w) (hS : ∀ i, i < a.heap.size → S i → T i) : Ext T a w := ⟨h.os, h.tape, h.output, h.size, fun i hi hn => h.block i hi (fun e => hn (hS i hi e))⟩
theorem below (h : Pure a w) : Below a.heap.size a w := ⟨h.os, h.tape, h.output, h.size, fun k hk => h.block k hk id⟩
theorem drew (h : Ext S a w) : Ext S a w.drew := ⟨h.os, h.tape, h.output, h.size, h.block⟩
theorem drewN (h : Ext S a w) (n : Nat) : Ext S a (w.drewN n) := ⟨h.os, h.tape, h.output, h.size, h.block⟩
theorem alloc (h : Ext S a w) (o : Obj) : Ext S a (w.alloc o) :=
 trans h (⟨rfl, rfl, rfl, by simp, fun k hk _ => Below.heap_alloc _ _ _ (by omega)⟩ : Pure w (w.alloc o)) (fun _ _ e => e.elim)
theorem setCell (h : Ext S a w) {p : Addr} (hp : p.block < a.heap.size → S p.block) (u : Value) : Ext S a (w.setCell p u) :=
 trans h (⟨rfl, rfl, rfl, by simp [World.setCell], fun k _ hn => Below.heap_setCell _ _ _ _ hn⟩ : Ext (fun i => i = p.block) w (w.setCell p u)) (fun i hi e => by subst e; exact hp hi)
theorem grown {row : Option Nat} (h : Ext S a w) (hg : w.grownBy w' row) (hr : ∀ k, row = some k → k < a.heap.size → S k) : Ext S a w' :=
 trans h (⟨hg.os, hg.tape, hg.output, hg.size, fun k hk hn => hg.block k hk (fun e => hn e.symm)⟩ : Ext (fun i => row = some i) w w') (fun i hi e => hr i e hi)
theorem cell (h : Ext S a w) {p : Addr} (hp : p.block < a.heap.size) (hn : ¬ S p.block) : w.cell? p = a.cell? p := World.cell?_of_block (w := a) (h.block p.block hp hn)
theorem cell_some (h : Ext S a w) {p : Addr} {v : Value} (hc : a.cell? p = some v) (hn : ¬ S p.block) : w.cell? p = some v := (h.cell (World.block_lt_of_cell? a p hc) hn).trans hc
end Ext
def BlockIs (w : World) (b : Nat) (cs : List Value) (T : TypeId) : Prop := w.heap[b]? = some (.cells cs.toArray T (0, 0))
namespace BlockIs
variable {w w' : World} {b : Nat} {cs : List Value} {T : TypeId}
theorem lt (h : BlockIs w b cs T) : b < w.heap.size := (Array.getElem?_eq_some_iff.1 h).1
theorem cell (h : BlockIs w b cs T) (i : Nat) : w.cell? ⟨b, i, none⟩ = cs[i]? := by unfold World.cell?; rw [h]; simp
theorem free (h : BlockIs w b cs T) (i : Nat) : w.frozen? ⟨b, i, none⟩ = false := by unfold World.frozen?; rw [h]; simp
theorem new (w : World) (cs : List Value) (T : TypeId) : BlockIs (w.alloc (.cells cs.toArray T)) w.heap.size cs T := by unfold BlockIs; exact heap_alloc_new w _
theorem alloc (h : BlockIs w b cs T) (o : Obj) : BlockIs (w.alloc o) b cs T := by unfold BlockIs; rw [Below.heap_alloc _ _ _ h.lt]; exact h
theorem drew (h : BlockIs w b cs T) : BlockIs w.drew b cs T := h
theorem ext {S : Nat → Prop} (h : BlockIs w b cs T) (e : Ext S w w') (hn : ¬ S b) : BlockIs w' b cs T := by unfold BlockIs; rw [e.block b h.lt hn]; exact h
theorem set (h : BlockIs w b cs T) (i : Nat) (v : Value) : BlockIs (w.setCell ⟨b, i, none⟩ v) b (cs.set i v) T := by
 unfold BlockIs World.setCell; simp only [Array.getElem?_modify]
 unfold BlockIs at h; rw [h]; simp
theorem setOther (h : BlockIs w b cs T) {p : Addr} (hp : p.block ≠ b) (v : Value) : BlockIs (w.setCell p v) b cs T := by
 unfold BlockIs; rw [Below.heap_setCell _ _ _ _ (fun e => hp e.symm)]; exact h
end BlockIs
