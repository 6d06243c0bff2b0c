/-
  Plain: the dictionary of works.
-/
import Derived.Test.YtiakphjkcpbccaaMakes
import Derived.KernelRfl
namespace Go.Proofs.Ytiakphjkcpbccaa
open Go.RowKit
set_option linter.unusedVariables false

def bA : ByteArray := ⟨#[65]⟩
def bB : ByteArray := ⟨#[66]⟩
def wkL : List V := [nameV bB, refV 3, nameV bA, intV 7]
def wkD : V := .mk 7 0 ⟨#[]⟩ [nameV bA, intV 7, nameV bB, refV 3]
theorem wk_dict : dictL wkL emptyD = wkD := by kernel_rfl
theorem wk_get : wkD.get bB = (refV 3, true) := by kernel_rfl
theorem wk_check : wkD.checkE = 0 := by kernel_rfl
theorem wk_depth : wkD.depth = 2 := by kernel_rfl
end Go.Proofs.Ytiakphjkcpbccaa
