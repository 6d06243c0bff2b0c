/-
  A result that lies in memory, read whole.
-/
import Derived.Test.YtnibjjpohhknkaaFind
import Derived.Laws.Rows
import Derived.Laws.ResultCell
namespace Go.Proofs.Ytnibjjpohhknkaa
open Go.RowKit
set_option linter.unusedVariables false
set_option linter.unusedSimpArgs false

theorem results_row1 {P : Program} {fn : Func} {p : Tmp} {ty : TypeId} (h : fn.results = #[.cell p ty]) (tmps : Array Value) (w : World) (g : Nat) (t : TypeId) (cs : List Value) (d : TypeDesc)
    (hp : tmps.getD p undef = .pointer (some ⟨g, 0, none⟩)) (hg : BlockIs w g cs t) (hu : P.underlying ty = some d) (hd : (match d with | .struct _ | .array _ _ => true | _ => false) = true) (hi : (P.info? ty).map (·.size) = some cs.length) :
    (results fn tmps).run P w = .ok (.agg cs.toArray) w :=
  results_cell_row h tmps w g t cs.toArray (0, 0) d hp hg hu hd (by simpa using hi)
theorem results_row2 {P : Program} {fn : Func} {p u : Tmp} {ty : TypeId} (h : fn.results = #[.cell p ty, .tmp u]) (tmps : Array Value) (w : World) (g : Nat) (t : TypeId) (cs : List Value) (d : TypeDesc)
    (hp : tmps.getD p undef = .pointer (some ⟨g, 0, none⟩)) (hg : BlockIs w g cs t) (hu : P.underlying ty = some d) (hd : (match d with | .struct _ | .array _ _ => true | _ => false) = true) (hi : (P.info? ty).map (·.size) = some cs.length) :
    (results fn tmps).run P w = .ok (.tuple #[.agg cs.toArray, tmps.getD u undef]) w := by
  rw [results_cell_tmp h, hp]
  have := run_loadVar_row (P := P) w g t ty cs.toArray (0, 0) d hg hu hd (by simpa using hi)
  simp only [asAddr, Sem.run_pure, Result.andThen, this]
theorem size24 : (Try.prog.info? 24).map (·.size) = some 4 := by kernel_rfl
/-- a value of the call's own, and whether there is one -/
def GetTo (F : V × Bool) (d : Nat) (w : World) (e : Ending) (w' : World) : Prop :=
  ∃ cs, e = .returned (.tuple #[.agg cs.toArray, .bool F.2]) ∧ Lies w' (d + 1) F.1 cs ∧ Pure w w'
/-- a value of the call's own -/
def ValTo (u : V) (d : Nat) (w : World) (e : Ending) (w' : World) : Prop :=
  ∃ cs, e = .returned (.agg cs.toArray) ∧ Lies w' d u cs ∧ Pure w w'
theorem find_lt {v : V} {key : ByteArray} {i : Nat} (h : v.find key = some i) : i < v.l.length := by
  unfold V.find at h
  split at h
  · exact (nextP_spec _ _ h).1
  · cases h
theorem lies_null (W : World) (d : Nat) : Lies W (d + 1) nullV zeroCs := Lies.leaf W d 0 0 ⟨#[]⟩ (Nat.zero_le _)
theorem one_zero : (zeroCs.toArray.all fun u => u.oneCell') = true := all_oneCell_toArray (by intro u hu; simp only [zeroCs, List.mem_cons, List.not_mem_nil, or_false] at hu; rcases hu with rfl | rfl | rfl | rfl <;> rfl)
end Go.Proofs.Ytnibjjpohhknkaa
