/-
  A single operation of a region that draws its order, walked as a list of one (for laws that speak of lists: append).
-/
import Derived.Test.YtnpiemcfbnpfdaaOwn
import Derived.Test.YtnpiemcfbnpfdaaReg
namespace Go.Proofs.Ytnpiemcfbnpfdaa
open Go.RowKit
set_option linter.unusedVariables false
set_option linter.unusedSimpArgs false

def normalOnly (K : Act → World → Prop) : Exit → Act → World → Prop
  | .normal, a, w => K a w
  | _, _, _ => False
theorem normalOnly_out {K : Act → World → Prop} (h : LetsOut (normalOnly K)) : False := by obtain ⟨a, w, h⟩ := h; exact h
theorem step_of_list {P : Program} {ops : Array Oper} {o : Oper} {a : Act} {w : World} {K : Act → World → Prop} {Q : Exit → Act → World → Prop}
    (h : wpList P ops (normalOnly K) [o] a w) : if Region.wanted o (yielded ops a.tmps) = true then Oper.wp P o a w K Q else K (a.put o.dst undef) w := by
  unfold wpList at h
  split at h
  · rename_i hw
    rw [if_pos hw]
    rcases h with h | ⟨_, h⟩
    · unfold Oper.wp at *
      generalize (execOp a.eval o).run P w = r at *
      cases r with
      | ok n w' =>
        cases n <;> simp only [Oper.upon] at h ⊢ <;>
          first
            | exact h
            | exact h.elim
            | exact (normalOnly_out h).elim
            | exact Calls.mono h (fun e w'' he => by cases e <;> first | exact he | exact he.elim | exact (normalOnly_out he).elim)
            | exact Rows.mono h (fun _ _ he => he)
      | halt x w' => cases x <;> simp only [Oper.upon] at h ⊢ <;> first | exact h.elim | exact (normalOnly_out h).elim | exact h
    · exact (normalOnly_out h).elim
  · rename_i hw
    rw [if_neg hw]
    exact h
end Go.Proofs.Ytnpiemcfbnpfdaa
