/-
  NARROWER THAN 'FOR EVERY INPUT', by the rows' own cells (each row's printed sentence says how): CheckStrays: loops · CheckNumbers: loops · CheckPages: loops.
  DERIVED. THE GIVEN ROWS OF THIS SEAT. 4 by the template 'for every input the law returns true; each argument reads behind the call as it read before'; 0 by the template 'total and deterministic' (their statements: YtkkmppalifjgnaaTotals.lean).
  GIVEN WITH THE SEED: the statements are not yours to turn. If you find one false, say at which input.
  Laid BY PROGRAM, IN A SANDBOX (cutbox-rows.mjs): the forced cells as the released guide's own fill.sh prints them over the translation 2ea1007d37d5d565… (all of the seat's roots in one cut). By AI agents, Wed Nov 11 2026. No macro, syntax, notation, axiom, sorry.
-/
import Derived.Test.YtkkmppalifjgnaaChecked
import GoSem.Claim
import GoSem.ClaimJoined
import GoSem.ClaimMapViews
import Derived.JoinedTies
import Derived.KernelRfl
namespace Go.Proofs.Ytkkmppalifjgnaa
/- THE CELL 'sum', in the pinned program and in every row, IS THE sha256 OF THE DUMP (.gsa) THAT YtkkmppalifjgnaaProg.lean LOADS. Nothing in Lean hashes anything: it is a label: what it is worth is what the hold of that sum in a sandbox is worth. -/
noncomputable def Try.pinned : Pinned := { name := "ytkkmppalifjgnaa", sum := "2ea1007d37d5d5653b6f0f0af611b435f3acd3916bc151e7500903bdfc37e77a", checked := Try.checked }
namespace Rows
def none {H : Type} : Left H := { results := [], args := [] }

/-- 'catchwordlaw23.CheckStrays': WHATEVER THE INPUT: true; the input reads as it did. -/
def checkStraysSpec : ChangeSpec := { name := "checkStrays", fn := fun _ => fun
  | [d1, d2] => { results := [.lit (.bool true)], args := [d1, d2] }
  | _ => none }
def checkStraysRow : OpenClaim := { program := "ytkkmppalifjgnaa", sum := "2ea1007d37d5d5653b6f0f0af611b435f3acd3916bc151e7500903bdfc37e77a", func := "catchword/catchwordlaw23.CheckStrays", spec := "checkStrays", inPlace := ["slices.overlaps[catchword/api.Value]", "internal/bytealg.IndexByteString"], unfollowed := true, recurses := true, loops := true, apart := false }
def CheckStraysSaid : Prop := checkStraysRow.holds Try.pinned (OpenSpec.ofChange checkStraysSpec)

/-- ITS FALSE NEIGHBOUR: 'it returns false'. Refute it at one input. -/
def checkStraysWrong : ChangeSpec := { name := "checkStrays", fn := fun _ => fun
  | [d1, d2] => { results := [.lit (.bool false)], args := [d1, d2] }
  | _ => none }
def CheckStraysWrongFalsely : Prop := checkStraysRow.holds Try.pinned (OpenSpec.ofChange checkStraysWrong)

/-- 'catchwordlaw23.CheckMany': WHATEVER THE INPUT: true; the input reads as it did. -/
def checkManySpec : ChangeSpec := { name := "checkMany", fn := fun _ => fun
  | [d1, d2] => { results := [.lit (.bool true)], args := [d1, d2] }
  | _ => none }
def checkManyRow : OpenClaim := { program := "ytkkmppalifjgnaa", sum := "2ea1007d37d5d5653b6f0f0af611b435f3acd3916bc151e7500903bdfc37e77a", func := "catchword/catchwordlaw23.CheckMany", spec := "checkMany", inPlace := ["slices.overlaps[catchword/api.Value]", "internal/bytealg.IndexByteString"], unfollowed := true, recurses := true, apart := false }
def CheckManySaid : Prop := checkManyRow.holds Try.pinned (OpenSpec.ofChange checkManySpec)

/-- ITS FALSE NEIGHBOUR: 'it returns false'. Refute it at one input. -/
def checkManyWrong : ChangeSpec := { name := "checkMany", fn := fun _ => fun
  | [d1, d2] => { results := [.lit (.bool false)], args := [d1, d2] }
  | _ => none }
def CheckManyWrongFalsely : Prop := checkManyRow.holds Try.pinned (OpenSpec.ofChange checkManyWrong)

/-- 'catchwordlaw23.CheckNumbers': WHATEVER THE INPUT: true; the input reads as it did. -/
def checkNumbersSpec : ChangeSpec := { name := "checkNumbers", fn := fun _ => fun
  | [d1, d2] => { results := [.lit (.bool true)], args := [d1, d2] }
  | _ => none }
def checkNumbersRow : OpenClaim := { program := "ytkkmppalifjgnaa", sum := "2ea1007d37d5d5653b6f0f0af611b435f3acd3916bc151e7500903bdfc37e77a", func := "catchword/catchwordlaw23.CheckNumbers", spec := "checkNumbers", inPlace := ["slices.overlaps[catchword/api.Value]", "internal/bytealg.IndexByteString"], unfollowed := true, recurses := true, loops := true, apart := false }
def CheckNumbersSaid : Prop := checkNumbersRow.holds Try.pinned (OpenSpec.ofChange checkNumbersSpec)

/-- ITS FALSE NEIGHBOUR: 'it returns false'. Refute it at one input. -/
def checkNumbersWrong : ChangeSpec := { name := "checkNumbers", fn := fun _ => fun
  | [d1, d2] => { results := [.lit (.bool false)], args := [d1, d2] }
  | _ => none }
def CheckNumbersWrongFalsely : Prop := checkNumbersRow.holds Try.pinned (OpenSpec.ofChange checkNumbersWrong)

/-- 'catchwordlaw23.CheckPages': WHATEVER THE INPUT: true; the input reads as it did. -/
def checkPagesSpec : ChangeSpec := { name := "checkPages", fn := fun _ => fun
  | [d] => { results := [.lit (.bool true)], args := [d] }
  | _ => none }
def checkPagesRow : OpenClaim := { program := "ytkkmppalifjgnaa", sum := "2ea1007d37d5d5653b6f0f0af611b435f3acd3916bc151e7500903bdfc37e77a", func := "catchword/catchwordlaw23.CheckPages", spec := "checkPages", inPlace := ["internal/bytealg.IndexByteString", "slices.overlaps[catchword/api.Value]"], unfollowed := true, recurses := true, loops := true, apart := false }
def CheckPagesSaid : Prop := checkPagesRow.holds Try.pinned (OpenSpec.ofChange checkPagesSpec)

/-- ITS FALSE NEIGHBOUR: 'it returns false'. Refute it at one input. -/
def checkPagesWrong : ChangeSpec := { name := "checkPages", fn := fun _ => fun
  | [d] => { results := [.lit (.bool false)], args := [d] }
  | _ => none }
def CheckPagesWrongFalsely : Prop := checkPagesRow.holds Try.pinned (OpenSpec.ofChange checkPagesWrong)

/- THE SECOND FORM. 'bulk': how many values and letters a reading holds, each counted each time it is reached (what is shared counts as often as it is met; a slice's spare places count too). A statement '..UptoSaid' is the law's where the arguments, and the package variables that the reading takes, are together of bulk at most 1048576: NARROWER than '..Said'. Prove '..Said' where nothing that the law and all that it calls make is longer than what came in: it says more and counts as full. Else prove '..UptoSaid'. A law counts once. -/
mutual
def uptoBulk {H : Type} : DataW H → Nat
  | .lit (.string bytes) => bytes.length + 1
  | .lit _ => 1
  | .nil => 1
  | .ptr d => uptoBulk d + 1
  | .slice elems spare => uptoBulkAll elems + uptoBulkAll spare + 1
  | .agg parts => uptoBulkAll parts + 1
  | .iface _ d => uptoBulk d + 1
  | .map entries => uptoBulkEntries entries + 1
  | .held _ => 1
def uptoBulkAll {H : Type} : List (DataW H) → Nat
  | [] => 0
  | d :: r => uptoBulk d + uptoBulkAll r
def uptoBulkEntries {H : Type} : List (Lit × DataW H) → Nat
  | [] => 0
  | x :: r => uptoBulkEntry x + uptoBulkEntries r
def uptoBulkEntry {H : Type} : Lit × DataW H → Nat
  | (.string bytes, d) => bytes.length + uptoBulk d + 1
  | (_, d) => uptoBulk d + 1
 end
def uptoSmall : (H : Type) → List (DataW H) → Bool := fun _ ds => decide (uptoBulkAll ds ≤ 1048576)
def OpenSpec.upto (s : _root_.Go.ChangeSpec) : _root_.Go.OpenSpec := { _root_.Go.OpenSpec.ofChange s with cond := some uptoSmall }

/-- 'catchwordlaw23.CheckStrays', WHERE WHAT IT READS IS OF BULK AT MOST 1048576: true; the input reads as it did. -/
def checkStraysUptoRow : OpenClaim := { program := "ytkkmppalifjgnaa", sum := "2ea1007d37d5d5653b6f0f0af611b435f3acd3916bc151e7500903bdfc37e77a", func := "catchword/catchwordlaw23.CheckStrays", spec := "checkStrays", inPlace := ["slices.overlaps[catchword/api.Value]", "internal/bytealg.IndexByteString"], unfollowed := true, recurses := true, loops := true, apart := false, narrowed := true }
def CheckStraysUptoSaid : Prop := checkStraysUptoRow.holds Try.pinned (OpenSpec.upto checkStraysSpec)

/-- 'catchwordlaw23.CheckMany', WHERE WHAT IT READS IS OF BULK AT MOST 1048576: true; the input reads as it did. -/
def checkManyUptoRow : OpenClaim := { program := "ytkkmppalifjgnaa", sum := "2ea1007d37d5d5653b6f0f0af611b435f3acd3916bc151e7500903bdfc37e77a", func := "catchword/catchwordlaw23.CheckMany", spec := "checkMany", inPlace := ["slices.overlaps[catchword/api.Value]", "internal/bytealg.IndexByteString"], unfollowed := true, recurses := true, apart := false, narrowed := true }
def CheckManyUptoSaid : Prop := checkManyUptoRow.holds Try.pinned (OpenSpec.upto checkManySpec)

/-- 'catchwordlaw23.CheckNumbers', WHERE WHAT IT READS IS OF BULK AT MOST 1048576: true; the input reads as it did. -/
def checkNumbersUptoRow : OpenClaim := { program := "ytkkmppalifjgnaa", sum := "2ea1007d37d5d5653b6f0f0af611b435f3acd3916bc151e7500903bdfc37e77a", func := "catchword/catchwordlaw23.CheckNumbers", spec := "checkNumbers", inPlace := ["slices.overlaps[catchword/api.Value]", "internal/bytealg.IndexByteString"], unfollowed := true, recurses := true, loops := true, apart := false, narrowed := true }
def CheckNumbersUptoSaid : Prop := checkNumbersUptoRow.holds Try.pinned (OpenSpec.upto checkNumbersSpec)

/-- 'catchwordlaw23.CheckPages', WHERE WHAT IT READS IS OF BULK AT MOST 1048576: true; the input reads as it did. -/
def checkPagesUptoRow : OpenClaim := { program := "ytkkmppalifjgnaa", sum := "2ea1007d37d5d5653b6f0f0af611b435f3acd3916bc151e7500903bdfc37e77a", func := "catchword/catchwordlaw23.CheckPages", spec := "checkPages", inPlace := ["internal/bytealg.IndexByteString", "slices.overlaps[catchword/api.Value]"], unfollowed := true, recurses := true, loops := true, apart := false, narrowed := true }
def CheckPagesUptoSaid : Prop := checkPagesUptoRow.holds Try.pinned (OpenSpec.upto checkPagesSpec)

end Rows
end Go.Proofs.Ytkkmppalifjgnaa
