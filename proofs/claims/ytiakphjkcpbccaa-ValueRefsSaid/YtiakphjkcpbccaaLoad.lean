/-
  A value read whole, as one operation of a region that draws its order.
-/
import Derived.Test.YtiakphjkcpbccaaWorks
import Derived.Test.YtiakphjkcpbccaaReg
import Derived.Test.YtiakphjkcpbccaaRegList
namespace Go.Proofs.Ytiakphjkcpbccaa
open Go.RowKit
set_option linter.unusedVariables false

theorem exec_load {oi : Oper} {ev : Operand → Value} {w : World} {x : Operand} {b : Nat} {cs : List Value} {T : TypeId} (ho : oi.op = .load 24 x) (hx : ev x = .pointer (some ⟨b, 0, none⟩)) (hB : BlockIs w b cs T) (hl : cs.length = 4) :
    (execOp ev oi).run Try.prog w = .ok (.value (.agg cs.toArray)) w := by
  unfold execOp
  simp only [ho, hx, Instr.loadAt, Instr.sureAddr, Sem.run_bind, Sem.run_pure, Result.andThen_ok, run_loadVar_mid w b 0 24 cs _ hB.range Try.underlying24 rfl (by rw [hl]; exact size24)]
end Go.Proofs.Ytiakphjkcpbccaa
