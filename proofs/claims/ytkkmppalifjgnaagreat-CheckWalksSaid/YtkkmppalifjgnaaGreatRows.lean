/-
  NARROWER THAN 'FOR EVERY INPUT', by the rows' own cells (each row's printed sentence says how): CheckWalks: loops · CheckDocs: loops.
  DERIVED. THE GIVEN ROWS OF THIS SEAT. 2 by the template 'for every input the law returns true; each argument reads behind the call as it read before'; 0 by the template 'total and deterministic' (their statements: YtkkmppalifjgnaaGreatTotals.lean).
  GIVEN WITH THE SEED: the statements are not yours to turn. If you find one false, say at which input.
  Laid BY PROGRAM, IN A SANDBOX (cutbox-rows.mjs): the forced cells as the released guide's own fill.sh prints them over the translation 39f8db7a0d1d8469… (all of the seat's roots in one cut). By AI agents, Wed Nov 11 2026. No macro, syntax, notation, axiom, sorry.
-/
import Derived.Test.YtkkmppalifjgnaaGreatChecked
import GoSem.Claim
import GoSem.ClaimJoined
import GoSem.ClaimMapViews
import Derived.JoinedTies
import Derived.KernelRfl
namespace Go.Proofs.YtkkmppalifjgnaaGreat
/- THE CELL 'sum', in the pinned program and in every row, IS THE sha256 OF THE DUMP (.gsa) THAT YtkkmppalifjgnaaGreatProg.lean LOADS. Nothing in Lean hashes anything: it is a label: what it is worth is what the hold of that sum in a sandbox is worth. -/
noncomputable def Tryz.pinned : Pinned := { name := "ytkkmppalifjgnaagreat", sum := "39f8db7a0d1d84699b3cb756f40a42c97048d3651d4c4ccc239d094b7124149d", checked := Tryz.checked }
namespace Rows
def none {H : Type} : Left H := { results := [], args := [] }

/-- 'catchwordlaw23.CheckWalks': WHATEVER THE INPUT: true; the input reads as it did. -/
def checkWalksSpec : ChangeSpec := { name := "checkWalks", fn := fun _ => fun
  | [d] => { results := [.lit (.bool true)], args := [d] }
  | _ => none }
def checkWalksRow : OpenClaim := { program := "ytkkmppalifjgnaagreat", sum := "39f8db7a0d1d84699b3cb756f40a42c97048d3651d4c4ccc239d094b7124149d", func := "catchword/catchwordlaw23.CheckWalks", spec := "checkWalks", inPlace := ["slices.overlaps[catchword/api.Value]", "internal/bytealg.IndexByteString"], unfollowed := true, recurses := true, loops := true, apart := false }
def CheckWalksSaid : Prop := checkWalksRow.holds Tryz.pinned (OpenSpec.ofChange checkWalksSpec)

/-- ITS FALSE NEIGHBOUR: 'it returns false'. Refute it at one input. -/
def checkWalksWrong : ChangeSpec := { name := "checkWalks", fn := fun _ => fun
  | [d] => { results := [.lit (.bool false)], args := [d] }
  | _ => none }
def CheckWalksWrongFalsely : Prop := checkWalksRow.holds Tryz.pinned (OpenSpec.ofChange checkWalksWrong)

/-- 'catchwordlaw23.CheckDocs': WHATEVER THE INPUT: true; the input reads as it did. -/
def checkDocsSpec : ChangeSpec := { name := "checkDocs", fn := fun _ => fun
  | [d] => { results := [.lit (.bool true)], args := [d] }
  | _ => none }
def checkDocsRow : OpenClaim := { program := "ytkkmppalifjgnaagreat", sum := "39f8db7a0d1d84699b3cb756f40a42c97048d3651d4c4ccc239d094b7124149d", func := "catchword/catchwordlaw23.CheckDocs", spec := "checkDocs", inPlace := ["slices.overlaps[catchword/api.Value]", "internal/bytealg.IndexByteString"], unfollowed := true, recurses := true, loops := true, apart := false }
def CheckDocsSaid : Prop := checkDocsRow.holds Tryz.pinned (OpenSpec.ofChange checkDocsSpec)

/-- ITS FALSE NEIGHBOUR: 'it returns false'. Refute it at one input. -/
def checkDocsWrong : ChangeSpec := { name := "checkDocs", fn := fun _ => fun
  | [d] => { results := [.lit (.bool false)], args := [d] }
  | _ => none }
def CheckDocsWrongFalsely : Prop := checkDocsRow.holds Tryz.pinned (OpenSpec.ofChange checkDocsWrong)

/- THE SECOND FORM. 'bulk': how many values and letters a reading holds, each counted each time it is reached (what is shared counts as often as it is met; a slice's spare places count too). A statement '..UptoSaid' is the law's where the arguments, and the package variables that the reading takes, are together of bulk at most 1048576: NARROWER than '..Said'. Prove '..Said' where nothing that the law and all that it calls make is longer than what came in: it says more and counts as full. Else prove '..UptoSaid'. A law counts once. -/
mutual
def uptoBulk {H : Type} : DataW H → Nat
  | .lit (.string bytes) => bytes.length + 1
  | .lit _ => 1
  | .nil => 1
  | .ptr d => uptoBulk d + 1
  | .slice elems spare => uptoBulkAll elems + uptoBulkAll spare + 1
  | .agg parts => uptoBulkAll parts + 1
  | .iface _ d => uptoBulk d + 1
  | .map entries => uptoBulkEntries entries + 1
  | .held _ => 1
def uptoBulkAll {H : Type} : List (DataW H) → Nat
  | [] => 0
  | d :: r => uptoBulk d + uptoBulkAll r
def uptoBulkEntries {H : Type} : List (Lit × DataW H) → Nat
  | [] => 0
  | x :: r => uptoBulkEntry x + uptoBulkEntries r
def uptoBulkEntry {H : Type} : Lit × DataW H → Nat
  | (.string bytes, d) => bytes.length + uptoBulk d + 1
  | (_, d) => uptoBulk d + 1
 end
def uptoSmall : (H : Type) → List (DataW H) → Bool := fun _ ds => decide (uptoBulkAll ds ≤ 1048576)
def OpenSpec.upto (s : _root_.Go.ChangeSpec) : _root_.Go.OpenSpec := { _root_.Go.OpenSpec.ofChange s with cond := some uptoSmall }

/-- 'catchwordlaw23.CheckWalks', WHERE WHAT IT READS IS OF BULK AT MOST 1048576: true; the input reads as it did. -/
def checkWalksUptoRow : OpenClaim := { program := "ytkkmppalifjgnaagreat", sum := "39f8db7a0d1d84699b3cb756f40a42c97048d3651d4c4ccc239d094b7124149d", func := "catchword/catchwordlaw23.CheckWalks", spec := "checkWalks", inPlace := ["slices.overlaps[catchword/api.Value]", "internal/bytealg.IndexByteString"], unfollowed := true, recurses := true, loops := true, apart := false, narrowed := true }
def CheckWalksUptoSaid : Prop := checkWalksUptoRow.holds Tryz.pinned (OpenSpec.upto checkWalksSpec)

/-- 'catchwordlaw23.CheckDocs', WHERE WHAT IT READS IS OF BULK AT MOST 1048576: true; the input reads as it did. -/
def checkDocsUptoRow : OpenClaim := { program := "ytkkmppalifjgnaagreat", sum := "39f8db7a0d1d84699b3cb756f40a42c97048d3651d4c4ccc239d094b7124149d", func := "catchword/catchwordlaw23.CheckDocs", spec := "checkDocs", inPlace := ["slices.overlaps[catchword/api.Value]", "internal/bytealg.IndexByteString"], unfollowed := true, recurses := true, loops := true, apart := false, narrowed := true }
def CheckDocsUptoSaid : Prop := checkDocsUptoRow.holds Tryz.pinned (OpenSpec.upto checkDocsSpec)

end Rows
end Go.Proofs.YtkkmppalifjgnaaGreat
