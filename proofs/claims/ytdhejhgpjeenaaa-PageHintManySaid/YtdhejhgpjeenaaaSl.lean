/-
  Slices of bytes: how they read, where they come from, as a string.
-/
import Derived.Test.YtdhejhgpjeenaaaProg
import Derived.Test.YtdhejhgpjeenaaaOwn
import Derived.Lib.SlBytesConst
import Derived.WalkSpells
namespace Go.Proofs.Ytdhejhgpjeenaaa
open Go.RowKit
set_option linter.unusedVariables false

def byV (x : UInt8) : Value := .int .u8 (x.toNat : Int)
/-- bytes from an address on -/
def Bytes (w : World) (ad : Option Addr) (l : List UInt8) : Prop := RowOf w ad (l.map byV)
theorem Bytes.at {w : World} {ad : Option Addr} {l : List UInt8} (h : Bytes w ad l) (i : Nat) (hi : i < l.length) : ∃ b o, ad = some ⟨b, o, none⟩ ∧ w.cell? ⟨b, o + i, none⟩ = some (.int .u8 (l[i].toNat : Int)) :=
  h i _ (by simp [hi, byV])
theorem Bytes.ext {S : Nat → Prop} {w w' : World} {ad : Option Addr} {l : List UInt8} (h : Bytes w ad l) (e : Ext S w w') (hn : ∀ a, ad = some a → ¬ S a.block) : Bytes w' ad l := RowOf.ext h e hn
theorem Bytes.pure {w w' : World} {ad : Option Addr} {l : List UInt8} (h : Bytes w ad l) (e : Pure w w') : Bytes w' ad l := RowOf.ext h e (fun _ _ => id)
theorem bytes_nil (w : World) (ad : Option Addr) : Bytes w ad [] := fun i u h => by simp at h
theorem byV_one (l : List UInt8) : ∀ u ∈ l.map byV, u.oneCell' = true := by intro u hu; simp at hu; obtain ⟨y, _, rfl⟩ := hu; rfl
theorem cell_new (w : World) (C : Array Value) (e : TypeId) (m : Nat × Nat) (i : Nat) : (w.alloc (.cells C e m)).cell? ⟨w.heap.size, i, none⟩ = C[i]? := by
  unfold World.cell?; rw [show (w.alloc (.cells C e m)).heap[w.heap.size]? = some (.cells C e m) from heap_alloc_new w _]; simp
theorem cell_at {w : World} {C : Array Value} {e : TypeId} {m : Nat × Nat} {b i : Nat} {v : Value} (hb : w.heap.size = b) (h : C[i]? = some v) : (w.alloc (.cells C e m)).cell? ⟨b, i, none⟩ = some v := by
  subst hb; rw [cell_new]; exact h
theorem row_at {w : World} {e : TypeId} {m : Nat × Nat} {C : Array Value} {b : Nat} (cs : List Value) (hb : w.heap.size = b) (hC : C = cs.toArray) : RowOf (w.alloc (.cells C e m)) (some ⟨b, 0, none⟩) cs := by
  subst hb hC
  intro i u hu
  refine ⟨_, _, rfl, ?_⟩
  rw [cell_new]; simpa using hu
theorem bytes_at {w : World} {e : TypeId} {m : Nat × Nat} {C : Array Value} {b : Nat} (l : List UInt8) (hb : w.heap.size = b) (hC : C = (l.map byV).toArray) : Bytes (w.alloc (.cells C e m)) (some ⟨b, 0, none⟩) l := row_at _ hb hC
theorem ext_alloc (w : World) (o : Obj) : Pure w (w.alloc o) := (Ext.refl _ w).alloc o
theorem row_take {w : World} {a : Option Addr} {l : List Value} (h : RowOf w a l) (n : Nat) : RowOf w a (l.take n) := by
  intro i u hu
  rw [List.getElem?_take] at hu
  split at hu
  · exact h i u hu
  · cases hu
theorem row_drop {w : World} {a : Option Addr} {l : List Value} (h : RowOf w a l) (n : Nat) : RowOf w (a.map fun x => x.add n) (l.drop n) := by
  intro i u hu
  rw [List.getElem?_drop] at hu
  obtain ⟨b, o, rfl, hc⟩ := h (n + i) u hu
  exact ⟨b, o + n, by simp [addr_add], by rw [show o + n + i = o + (n + i) from by omega]; exact hc⟩
theorem row_nil (w : World) (ad : Option Addr) : RowOf w ad [] := fun i u h => by simp at h
def strB (l : List UInt8) : ByteArray := ⟨l.toArray⟩
abbrev str (l : List UInt8) : Value := .string (strB l)
/-- a row of bytes, as a string -/
theorem conv_str (w : World) (ad : Option Addr) (cap n : Nat) (l : List UInt8) (hn : l.length = n) (hnil : ad = none → cap = 0) (hb : Bytes w ad l) :
    (convert 25 9 (.slice ad n cap)).run Try.prog w = .ok (str l) w := by
  subst hn
  by_cases h : 0 < l.length
  · obtain ⟨b, o, rfl, _⟩ := hb.at 0 h
    refine run_convert_bytes_back w _ _ _ ⟨b, o, none⟩ cap l Try.underlying25 Try.underlying5 Try.underlying9 fun j hj => ?_
    obtain ⟨b', o', e, hc⟩ := hb.at j hj
    cases e
    rw [addr_add, hc]
  · obtain rfl : l = [] := List.length_eq_zero_iff.1 (by omega)
    cases ad with
    | none =>
      exact run_convert_bytes_nil w _ _ Try.underlying25 Try.underlying5 _ cap _ Try.underlying9
    | some a =>
      exact run_convert_bytes_back w _ _ _ a cap [] Try.underlying25 Try.underlying5 Try.underlying9 (fun j hj => by simp at hj)
theorem conv_const (w : World) (b : Nat) (hb : w.heap.size = b) (C : Array Value) (n c : Nat) :
    (convert 25 25 (.slice (some ⟨b, 0, none⟩) n c)).run Try.prog (w.alloc (.cells C 5)) = .ok (.slice (some ⟨b, 0, none⟩) n c) (w.alloc (.cells C 5 (C.size, C.size + 1))) := by
  subst hb; exact Lib.run_convert_bytes_const (P := Try.prog) w 25 5 C n c Try.underlying25 Try.underlying5
theorem infoByte : (Try.prog.info? 5).map (fun i => (i.zero, i.size, i.bytes)) = some (some (.int .u8 0), 1, 1) := by kernel_rfl
theorem eql_nil {P : Program} {t e : TypeId} (h : P.underlying t = some (.slice e)) (w : World) (a : Option Addr) (n c : Nat) : (binOp .eql t (.slice a n c) (.slice none 0 0)).run P w = .ok (.bool a.isNone) w := by
  simp only [binOp]
  simp [Op.equal, Op.maxDepth, Lib.run_equalIn_slice_nil w 9999 t e a n c 0 0 h]
end Go.Proofs.Ytdhejhgpjeenaaa
