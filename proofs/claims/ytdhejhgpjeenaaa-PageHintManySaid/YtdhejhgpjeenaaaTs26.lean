/-
  The state of a call that lays bits one behind the other: its own row of bits, its boxed argument, all else as it was (chapter 26).
-/
import Derived.Test.YtdhejhgpjeenaaaRefRow26
namespace Go.Proofs.Ytdhejhgpjeenaaa.C26
open Go.RowKit Go.Proofs.Ytdhejhgpjeenaaa
set_option linter.unusedVariables false

structure TS (T : TypeId) (w W : World) (cells : List Value) (bs : List Bool) (a : Option Addr) (c : Nat) : Prop where
  own : W.ownsRow (w.heap.size + 1) 4 1 (.slice a bs.length c) bs.length (bs.map Value.bool)
  box : BlockIs W w.heap.size cells T
  pure : Pure w W
variable {T : TypeId} {w W W' : World} {cells : List Value} {bs bs' : List Bool} {a a' : Option Addr} {c c' : Nat}
theorem TS.of (hB : BlockIs W w.heap.size cells T) (hP : Pure w W) (hE : Ext (fun i => w.heap.size < i) W W') (hO : W'.ownsRow (w.heap.size + 1) 4 1 (.slice a bs.length c) bs.length (bs.map Value.bool)) : TS T w W' cells bs a c :=
  ⟨hO, hB.ext hE (Nat.lt_irrefl _), hP.trans hE (fun i hi e => by omega)⟩
theorem TS.start (hB : BlockIs W w.heap.size cells T) (hP : Pure w W) : TS T w W cells [] none 0 := ⟨World.ownsRow_nil _ _ _ _, hB, hP⟩
theorem TS.size (h : TS T w W cells bs a c) : w.heap.size + 1 ≤ W.heap.size := h.box.lt
theorem TS.cell (h : TS T w W cells bs a c) (i : Nat) : W.cell? ⟨w.heap.size, i, none⟩ = cells[i]? := h.box.cell i
theorem TS.later (h : TS T w W cells bs a c) (hE : Pure W W') : TS T w W' cells bs a c := ⟨own_ext h.own hE (fun _ _ => id), h.box.ext hE id, h.pure.pure hE⟩
theorem TS.nil (h : TS T w W cells bs a c) : a = none → c = 0 := own_form' h.own
theorem TS.le (h : TS T w W cells bs a c) : bs.length ≤ c := by
  obtain ⟨_, _, hh, h1, _⟩ := own_form h.own
  cases hh
  exact h1
theorem TS.row (h : TS T w W cells bs a c) : RowOf W a (bs.map Value.bool) := own_row h.own
theorem TS.ownExt (h : TS T w W cells bs a c) (hE : Ext (fun i => (Value.slice a bs.length c).ownBlock = some i) W W') : Ext (fun i => w.heap.size < i) W W' := hE.mono (fun i _ e => (h.own.lt i e).1)
def PutRes (T : TypeId) (w : World) (cells : List Value) (bs : List Bool) (W : World) (e : Ending) (W' : World) : Prop := ∃ a' c', e = .returned (.slice a' bs.length c') ∧ TS T w W' cells bs a' c' ∧ Ext (fun i => w.heap.size < i) W W'
theorem tsput (h : TS T w W cells bs a c) (x n : Nat) (hlen : bs.length ≤ 1000000000) (hn : n ≤ 32) (hx : x < 4294967296) (hxn : x < 2 ^ n) :
    Calls Try.prog 47 #[.slice a bs.length c, .int .i64 x, .int .i64 n] W (PutRes T w cells (bs ++ bitsNum true x n) W) :=
  (refput_any (w.heap.size + 1) bs a c x n W h.size h.own hlen hn hx hxn).mono fun e W' ⟨a', c', he, hO, hE, _⟩ => ⟨a', c', he, TS.of h.box h.pure (h.ownExt hE) hO, h.ownExt hE⟩
theorem tsfull (h : TS T w W cells bs a c) (hlen : bs.length ≤ 1000000000) :
    Calls Try.prog 48 #[.slice a bs.length c] W (PutRes T w cells (align bs) W) :=
  (reffull_any (w.heap.size + 1) bs a c W h.size h.own hlen).mono fun e W' ⟨a', c', he, hO, hE, _⟩ => ⟨a', c', he, TS.of h.box h.pure (h.ownExt hE) hO, h.ownExt hE⟩
/-- behind an append of one bit, laid in a block of its own first -/
theorem TS.appended {o : Obj} (h : TS T w W cells bs a c) (hO : W'.ownsRow (w.heap.size + 1) 4 1 (.slice a' bs'.length c') bs'.length (bs'.map Value.bool)) (hg : (W.alloc o).grownBy W' (Value.slice a bs.length c).ownBlock) : TS T w W' cells bs' a' c' := by
  have h' := h.later (ext_alloc W o)
  exact TS.of h'.box h'.pure (h'.ownExt (ext_of_grown hg)) hO
end Go.Proofs.Ytdhejhgpjeenaaa.C26
