import Derived.Test.YtnpiemcfbnpfdaaGreatDocOkSr
import Derived.Test.YtnpiemcfbnpfdaaGreatSqSr
set_option linter.unusedVariables false
set_option linter.unusedSimpArgs false
namespace Go.Proofs.YtnpiemcfbnpfdaaGreat
open Go.RowKit
theorem few_docok {W : World} {F : Nat} {l : List Ob} {oa : Option Addr} {rows : List (List Value)} {root : Int} (h : OKids W F l oa rows) (hw : ∀ u ∈ l, u.data.size ≤ maxLen ∧ u.v.wf) (hr : (Lit.int .i64 root).wf = true) (hf : fewO l 80 = true) :
 DocOk W F l oa rows root := by
 refine ⟨h.mono (Nat.le_succ _), by have := (fewO_in hf).1; omega, fun u hu => ?_, fun u hu => (hw u hu).2, hr⟩
 unfold fewO at hf
 rw [Bool.and_eq_true, List.all_eq_true] at hf
 have h1 := hf.2 u hu
 unfold Ob.few at h1
 rw [Bool.and_eq_true, Bool.and_eq_true] at h1
 have h2 := of_decide_eq_true h1.1.1
 rw [V.few_size _ _ (by omega)] at h2
 split at h2 <;> omega
section
open Go.ChangeShapes Go.WideShapes Go.ChangeAt
end
