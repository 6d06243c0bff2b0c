/-
  NARROWER THAN 'FOR EVERY INPUT', by the rows' own cells (each row's printed sentence says how): HintsParses: loops.
  DERIVED. THE GIVEN ROWS OF THIS SEAT. 3 by the template 'for every input the law returns true; each argument reads behind the call as it read before'; 0 by the template 'total and deterministic' (their statements: YtomcdhljjmnahaaGreatTotals.lean).
  GIVEN WITH THE SEED: the statements are not yours to turn. If you find one false, say at which input.
  Laid BY PROGRAM, IN A SANDBOX (cutbox-rows.mjs): the forced cells as the released guide's own fill.sh prints them over the translation fdb56bc4526a80a2… (all of the seat's roots in one cut). By AI agents, Wed Nov 11 2026. No macro, syntax, notation, axiom, sorry.
-/
import Derived.Test.YtomcdhljjmnahaaGreatChecked
import GoSem.Claim
import GoSem.ClaimJoined
import GoSem.ClaimMapViews
import Derived.JoinedTies
import Derived.KernelRfl
namespace Go.Proofs.YtomcdhljjmnahaaGreat
/- THE CELL 'sum', in the pinned program and in every row, IS THE sha256 OF THE DUMP (.gsa) THAT YtomcdhljjmnahaaGreatProg.lean LOADS. Nothing in Lean hashes anything: it is a label: what it is worth is what the hold of that sum in a sandbox is worth. -/
noncomputable def Tryz.pinned : Pinned := { name := "ytomcdhljjmnahaagreat", sum := "fdb56bc4526a80a2c356f29c9812cb1b7ae588d20c379712a032251103d69ba7", checked := Tryz.checked }
namespace Rows
def none {H : Type} : Left H := { results := [], args := [] }

/-- 'catchwordlaw28.HintsObjects': WHATEVER THE INPUT: true; the input reads as it did. -/
def hintsObjectsSpec : ChangeSpec := { name := "hintsObjects", fn := fun _ => fun
  | [d] => { results := [.lit (.bool true)], args := [d] }
  | _ => none }
def hintsObjectsRow : OpenClaim := { program := "ytomcdhljjmnahaagreat", sum := "fdb56bc4526a80a2c356f29c9812cb1b7ae588d20c379712a032251103d69ba7", func := "catchword/catchwordlaw28.HintsObjects", spec := "hintsObjects", inPlace := ["slices.overlaps[catchword/api.Value]"], unfollowed := true, recurses := true, apart := false }
def HintsObjectsSaid : Prop := hintsObjectsRow.holds Tryz.pinned (OpenSpec.ofChange hintsObjectsSpec)

/-- ITS FALSE NEIGHBOUR: 'it returns false'. Refute it at one input. -/
def hintsObjectsWrong : ChangeSpec := { name := "hintsObjects", fn := fun _ => fun
  | [d] => { results := [.lit (.bool false)], args := [d] }
  | _ => none }
def HintsObjectsWrongFalsely : Prop := hintsObjectsRow.holds Tryz.pinned (OpenSpec.ofChange hintsObjectsWrong)

/-- 'catchwordlaw28.HintsChecks': WHATEVER THE INPUT: true; the input reads as it did. -/
def hintsChecksSpec : ChangeSpec := { name := "hintsChecks", fn := fun _ => fun
  | [d1, d2] => { results := [.lit (.bool true)], args := [d1, d2] }
  | _ => none }
def hintsChecksRow : OpenClaim := { program := "ytomcdhljjmnahaagreat", sum := "fdb56bc4526a80a2c356f29c9812cb1b7ae588d20c379712a032251103d69ba7", func := "catchword/catchwordlaw28.HintsChecks", spec := "hintsChecks", inPlace := ["slices.overlaps[catchword/api.Value]"], unfollowed := true, recurses := true, apart := false }
def HintsChecksSaid : Prop := hintsChecksRow.holds Tryz.pinned (OpenSpec.ofChange hintsChecksSpec)

/-- ITS FALSE NEIGHBOUR: 'it returns false'. Refute it at one input. -/
def hintsChecksWrong : ChangeSpec := { name := "hintsChecks", fn := fun _ => fun
  | [d1, d2] => { results := [.lit (.bool false)], args := [d1, d2] }
  | _ => none }
def HintsChecksWrongFalsely : Prop := hintsChecksRow.holds Tryz.pinned (OpenSpec.ofChange hintsChecksWrong)

/-- 'catchwordlaw28.HintsParses': WHATEVER THE INPUT: true; the input reads as it did. -/
def hintsParsesSpec : ChangeSpec := { name := "hintsParses", fn := fun _ => fun
  | [d1, d2] => { results := [.lit (.bool true)], args := [d1, d2] }
  | _ => none }
def hintsParsesRow : OpenClaim := { program := "ytomcdhljjmnahaagreat", sum := "fdb56bc4526a80a2c356f29c9812cb1b7ae588d20c379712a032251103d69ba7", func := "catchword/catchwordlaw28.HintsParses", spec := "hintsParses", inPlace := ["slices.overlaps[catchword/api.Value]"], unfollowed := true, recurses := true, loops := true, apart := false }
def HintsParsesSaid : Prop := hintsParsesRow.holds Tryz.pinned (OpenSpec.ofChange hintsParsesSpec)

/-- ITS FALSE NEIGHBOUR: 'it returns false'. Refute it at one input. -/
def hintsParsesWrong : ChangeSpec := { name := "hintsParses", fn := fun _ => fun
  | [d1, d2] => { results := [.lit (.bool false)], args := [d1, d2] }
  | _ => none }
def HintsParsesWrongFalsely : Prop := hintsParsesRow.holds Tryz.pinned (OpenSpec.ofChange hintsParsesWrong)

/- THE SECOND FORM. 'bulk': how many values and letters a reading holds, each counted each time it is reached (what is shared counts as often as it is met; a slice's spare places count too). A statement '..UptoSaid' is the law's where the arguments, and the package variables that the reading takes, are together of bulk at most 1048576: NARROWER than '..Said'. Prove '..Said' where nothing that the law and all that it calls make is longer than what came in: it says more and counts as full. Else prove '..UptoSaid'. A law counts once. -/
mutual
def uptoBulk {H : Type} : DataW H → Nat
  | .lit (.string bytes) => bytes.length + 1
  | .lit _ => 1
  | .nil => 1
  | .ptr d => uptoBulk d + 1
  | .slice elems spare => uptoBulkAll elems + uptoBulkAll spare + 1
  | .agg parts => uptoBulkAll parts + 1
  | .iface _ d => uptoBulk d + 1
  | .map entries => uptoBulkEntries entries + 1
  | .held _ => 1
def uptoBulkAll {H : Type} : List (DataW H) → Nat
  | [] => 0
  | d :: r => uptoBulk d + uptoBulkAll r
def uptoBulkEntries {H : Type} : List (Lit × DataW H) → Nat
  | [] => 0
  | x :: r => uptoBulkEntry x + uptoBulkEntries r
def uptoBulkEntry {H : Type} : Lit × DataW H → Nat
  | (.string bytes, d) => bytes.length + uptoBulk d + 1
  | (_, d) => uptoBulk d + 1
 end
def uptoSmall : (H : Type) → List (DataW H) → Bool := fun _ ds => decide (uptoBulkAll ds ≤ 1048576)
def OpenSpec.upto (s : _root_.Go.ChangeSpec) : _root_.Go.OpenSpec := { _root_.Go.OpenSpec.ofChange s with cond := some uptoSmall }

/-- 'catchwordlaw28.HintsObjects', WHERE WHAT IT READS IS OF BULK AT MOST 1048576: true; the input reads as it did. -/
def hintsObjectsUptoRow : OpenClaim := { program := "ytomcdhljjmnahaagreat", sum := "fdb56bc4526a80a2c356f29c9812cb1b7ae588d20c379712a032251103d69ba7", func := "catchword/catchwordlaw28.HintsObjects", spec := "hintsObjects", inPlace := ["slices.overlaps[catchword/api.Value]"], unfollowed := true, recurses := true, apart := false, narrowed := true }
def HintsObjectsUptoSaid : Prop := hintsObjectsUptoRow.holds Tryz.pinned (OpenSpec.upto hintsObjectsSpec)

/-- 'catchwordlaw28.HintsChecks', WHERE WHAT IT READS IS OF BULK AT MOST 1048576: true; the input reads as it did. -/
def hintsChecksUptoRow : OpenClaim := { program := "ytomcdhljjmnahaagreat", sum := "fdb56bc4526a80a2c356f29c9812cb1b7ae588d20c379712a032251103d69ba7", func := "catchword/catchwordlaw28.HintsChecks", spec := "hintsChecks", inPlace := ["slices.overlaps[catchword/api.Value]"], unfollowed := true, recurses := true, apart := false, narrowed := true }
def HintsChecksUptoSaid : Prop := hintsChecksUptoRow.holds Tryz.pinned (OpenSpec.upto hintsChecksSpec)

/-- 'catchwordlaw28.HintsParses', WHERE WHAT IT READS IS OF BULK AT MOST 1048576: true; the input reads as it did. -/
def hintsParsesUptoRow : OpenClaim := { program := "ytomcdhljjmnahaagreat", sum := "fdb56bc4526a80a2c356f29c9812cb1b7ae588d20c379712a032251103d69ba7", func := "catchword/catchwordlaw28.HintsParses", spec := "hintsParses", inPlace := ["slices.overlaps[catchword/api.Value]"], unfollowed := true, recurses := true, loops := true, apart := false, narrowed := true }
def HintsParsesUptoSaid : Prop := hintsParsesUptoRow.holds Tryz.pinned (OpenSpec.upto hintsParsesSpec)

end Rows
end Go.Proofs.YtomcdhljjmnahaaGreat
