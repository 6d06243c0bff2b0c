/-
  NARROWER THAN 'FOR EVERY INPUT', by the rows' own cells (each row's printed sentence says how): BoxValues: loops · BoxPages: loops · BoxSeen: loops.
  DERIVED. THE GIVEN ROWS OF THIS SEAT. 6 by the template 'for every input the law returns true; each argument reads behind the call as it read before'; 0 by the template 'total and deterministic' (their statements: YtnibjjpohhknkaaTotals.lean).
  GIVEN WITH THE SEED: the statements are not yours to turn. If you find one false, say at which input.
  Laid BY PROGRAM, IN A SANDBOX (cutbox-rows.mjs): the forced cells as the released guide's own fill.sh prints them over the translation 93238dd0fc95dbed… (all of the seat's roots in one cut). By AI agents, Wed Nov 11 2026. No macro, syntax, notation, axiom, sorry.
-/
import Derived.Test.YtnibjjpohhknkaaChecked
import GoSem.Claim
import GoSem.ClaimJoined
import GoSem.ClaimMapViews
import Derived.JoinedTies
import Derived.KernelRfl
namespace Go.Proofs.Ytnibjjpohhknkaa
/- THE CELL 'sum', in the pinned program and in every row, IS THE sha256 OF THE DUMP (.gsa) THAT YtnibjjpohhknkaaProg.lean LOADS. Nothing in Lean hashes anything: it is a label: what it is worth is what the hold of that sum in a sandbox is worth. -/
noncomputable def Try.pinned : Pinned := { name := "ytnibjjpohhknkaa", sum := "93238dd0fc95dbed9604393e74ec07073c7dc740ccc4dfca16dd7357cac859d0", checked := Try.checked }
namespace Rows
def none {H : Type} : Left H := { results := [], args := [] }

/-- 'catchwordlaw37.BoxValues': WHATEVER THE INPUT: true; the input reads as it did. -/
def boxValuesSpec : ChangeSpec := { name := "boxValues", fn := fun _ => fun
  | [d] => { results := [.lit (.bool true)], args := [d] }
  | _ => none }
def boxValuesRow : OpenClaim := { program := "ytnibjjpohhknkaa", sum := "93238dd0fc95dbed9604393e74ec07073c7dc740ccc4dfca16dd7357cac859d0", func := "catchword/catchwordlaw37.BoxValues", spec := "boxValues", inPlace := ["slices.overlaps[catchword/api.Value]"], recurses := true, loops := true, apart := false }
def BoxValuesSaid : Prop := boxValuesRow.holds Try.pinned (OpenSpec.ofChange boxValuesSpec)

/-- ITS FALSE NEIGHBOUR: 'it returns false'. Refute it at one input. -/
def boxValuesWrong : ChangeSpec := { name := "boxValues", fn := fun _ => fun
  | [d] => { results := [.lit (.bool false)], args := [d] }
  | _ => none }
def BoxValuesWrongFalsely : Prop := boxValuesRow.holds Try.pinned (OpenSpec.ofChange boxValuesWrong)

/-- 'catchwordlaw37.BoxBoth': WHATEVER THE INPUT: true; the input reads as it did. -/
def boxBothSpec : ChangeSpec := { name := "boxBoth", fn := fun _ => fun
  | [d1, d2] => { results := [.lit (.bool true)], args := [d1, d2] }
  | _ => none }
def boxBothRow : OpenClaim := { program := "ytnibjjpohhknkaa", sum := "93238dd0fc95dbed9604393e74ec07073c7dc740ccc4dfca16dd7357cac859d0", func := "catchword/catchwordlaw37.BoxBoth", spec := "boxBoth", inPlace := ["slices.overlaps[catchword/api.Value]"], apart := false }
def BoxBothSaid : Prop := boxBothRow.holds Try.pinned (OpenSpec.ofChange boxBothSpec)

/-- ITS FALSE NEIGHBOUR: 'it returns false'. Refute it at one input. -/
def boxBothWrong : ChangeSpec := { name := "boxBoth", fn := fun _ => fun
  | [d1, d2] => { results := [.lit (.bool false)], args := [d1, d2] }
  | _ => none }
def BoxBothWrongFalsely : Prop := boxBothRow.holds Try.pinned (OpenSpec.ofChange boxBothWrong)

/-- 'catchwordlaw37.BoxTurns': WHATEVER THE INPUT: true; the input reads as it did. -/
def boxTurnsSpec : ChangeSpec := { name := "boxTurns", fn := fun _ => fun
  | [d1, d2] => { results := [.lit (.bool true)], args := [d1, d2] }
  | _ => none }
def boxTurnsRow : OpenClaim := { program := "ytnibjjpohhknkaa", sum := "93238dd0fc95dbed9604393e74ec07073c7dc740ccc4dfca16dd7357cac859d0", func := "catchword/catchwordlaw37.BoxTurns", spec := "boxTurns", inPlace := ["slices.overlaps[catchword/api.Value]"], apart := false }
def BoxTurnsSaid : Prop := boxTurnsRow.holds Try.pinned (OpenSpec.ofChange boxTurnsSpec)

/-- ITS FALSE NEIGHBOUR: 'it returns false'. Refute it at one input. -/
def boxTurnsWrong : ChangeSpec := { name := "boxTurns", fn := fun _ => fun
  | [d1, d2] => { results := [.lit (.bool false)], args := [d1, d2] }
  | _ => none }
def BoxTurnsWrongFalsely : Prop := boxTurnsRow.holds Try.pinned (OpenSpec.ofChange boxTurnsWrong)

/-- 'catchwordlaw37.BoxPages': WHATEVER THE INPUT: true; the input reads as it did. -/
def boxPagesSpec : ChangeSpec := { name := "boxPages", fn := fun _ => fun
  | [d] => { results := [.lit (.bool true)], args := [d] }
  | _ => none }
def boxPagesRow : OpenClaim := { program := "ytnibjjpohhknkaa", sum := "93238dd0fc95dbed9604393e74ec07073c7dc740ccc4dfca16dd7357cac859d0", func := "catchword/catchwordlaw37.BoxPages", spec := "boxPages", inPlace := ["slices.overlaps[catchword/api.Value]"], recurses := true, loops := true, apart := false }
def BoxPagesSaid : Prop := boxPagesRow.holds Try.pinned (OpenSpec.ofChange boxPagesSpec)

/-- ITS FALSE NEIGHBOUR: 'it returns false'. Refute it at one input. -/
def boxPagesWrong : ChangeSpec := { name := "boxPages", fn := fun _ => fun
  | [d] => { results := [.lit (.bool false)], args := [d] }
  | _ => none }
def BoxPagesWrongFalsely : Prop := boxPagesRow.holds Try.pinned (OpenSpec.ofChange boxPagesWrong)

/-- 'catchwordlaw37.BoxPoints': WHATEVER THE INPUT: true; the input reads as it did. -/
def boxPointsSpec : ChangeSpec := { name := "boxPoints", fn := fun _ => fun
  | [d1, d2, d3] => { results := [.lit (.bool true)], args := [d1, d2, d3] }
  | _ => none }
def boxPointsRow : OpenClaim := { program := "ytnibjjpohhknkaa", sum := "93238dd0fc95dbed9604393e74ec07073c7dc740ccc4dfca16dd7357cac859d0", func := "catchword/catchwordlaw37.BoxPoints", spec := "boxPoints", inPlace := ["slices.overlaps[catchword/api.Value]"], apart := false }
def BoxPointsSaid : Prop := boxPointsRow.holds Try.pinned (OpenSpec.ofChange boxPointsSpec)

/-- ITS FALSE NEIGHBOUR: 'it returns false'. Refute it at one input. -/
def boxPointsWrong : ChangeSpec := { name := "boxPoints", fn := fun _ => fun
  | [d1, d2, d3] => { results := [.lit (.bool false)], args := [d1, d2, d3] }
  | _ => none }
def BoxPointsWrongFalsely : Prop := boxPointsRow.holds Try.pinned (OpenSpec.ofChange boxPointsWrong)

/-- 'catchwordlaw37.BoxSeen': WHATEVER THE INPUT: true; the input reads as it did. -/
def boxSeenSpec : ChangeSpec := { name := "boxSeen", fn := fun _ => fun
  | [d1, d2, d3] => { results := [.lit (.bool true)], args := [d1, d2, d3] }
  | _ => none }
def boxSeenRow : OpenClaim := { program := "ytnibjjpohhknkaa", sum := "93238dd0fc95dbed9604393e74ec07073c7dc740ccc4dfca16dd7357cac859d0", func := "catchword/catchwordlaw37.BoxSeen", spec := "boxSeen", inPlace := ["slices.overlaps[catchword/api.Value]"], recurses := true, loops := true, apart := false }
def BoxSeenSaid : Prop := boxSeenRow.holds Try.pinned (OpenSpec.ofChange boxSeenSpec)

/-- ITS FALSE NEIGHBOUR: 'it returns false'. Refute it at one input. -/
def boxSeenWrong : ChangeSpec := { name := "boxSeen", fn := fun _ => fun
  | [d1, d2, d3] => { results := [.lit (.bool false)], args := [d1, d2, d3] }
  | _ => none }
def BoxSeenWrongFalsely : Prop := boxSeenRow.holds Try.pinned (OpenSpec.ofChange boxSeenWrong)

/- THE SECOND FORM. 'bulk': how many values and letters a reading holds, each counted each time it is reached (what is shared counts as often as it is met; a slice's spare places count too). A statement '..UptoSaid' is the law's where the arguments, and the package variables that the reading takes, are together of bulk at most 1048576: NARROWER than '..Said'. Prove '..Said' where nothing that the law and all that it calls make is longer than what came in: it says more and counts as full. Else prove '..UptoSaid'. A law counts once. -/
mutual
def uptoBulk {H : Type} : DataW H → Nat
  | .lit (.string bytes) => bytes.length + 1
  | .lit _ => 1
  | .nil => 1
  | .ptr d => uptoBulk d + 1
  | .slice elems spare => uptoBulkAll elems + uptoBulkAll spare + 1
  | .agg parts => uptoBulkAll parts + 1
  | .iface _ d => uptoBulk d + 1
  | .map entries => uptoBulkEntries entries + 1
  | .held _ => 1
def uptoBulkAll {H : Type} : List (DataW H) → Nat
  | [] => 0
  | d :: r => uptoBulk d + uptoBulkAll r
def uptoBulkEntries {H : Type} : List (Lit × DataW H) → Nat
  | [] => 0
  | x :: r => uptoBulkEntry x + uptoBulkEntries r
def uptoBulkEntry {H : Type} : Lit × DataW H → Nat
  | (.string bytes, d) => bytes.length + uptoBulk d + 1
  | (_, d) => uptoBulk d + 1
 end
def uptoSmall : (H : Type) → List (DataW H) → Bool := fun _ ds => decide (uptoBulkAll ds ≤ 1048576)
def OpenSpec.upto (s : _root_.Go.ChangeSpec) : _root_.Go.OpenSpec := { _root_.Go.OpenSpec.ofChange s with cond := some uptoSmall }

/-- 'catchwordlaw37.BoxValues', WHERE WHAT IT READS IS OF BULK AT MOST 1048576: true; the input reads as it did. -/
def boxValuesUptoRow : OpenClaim := { program := "ytnibjjpohhknkaa", sum := "93238dd0fc95dbed9604393e74ec07073c7dc740ccc4dfca16dd7357cac859d0", func := "catchword/catchwordlaw37.BoxValues", spec := "boxValues", inPlace := ["slices.overlaps[catchword/api.Value]"], recurses := true, loops := true, apart := false, narrowed := true }
def BoxValuesUptoSaid : Prop := boxValuesUptoRow.holds Try.pinned (OpenSpec.upto boxValuesSpec)

/-- 'catchwordlaw37.BoxBoth', WHERE WHAT IT READS IS OF BULK AT MOST 1048576: true; the input reads as it did. -/
def boxBothUptoRow : OpenClaim := { program := "ytnibjjpohhknkaa", sum := "93238dd0fc95dbed9604393e74ec07073c7dc740ccc4dfca16dd7357cac859d0", func := "catchword/catchwordlaw37.BoxBoth", spec := "boxBoth", inPlace := ["slices.overlaps[catchword/api.Value]"], apart := false, narrowed := true }
def BoxBothUptoSaid : Prop := boxBothUptoRow.holds Try.pinned (OpenSpec.upto boxBothSpec)

/-- 'catchwordlaw37.BoxTurns', WHERE WHAT IT READS IS OF BULK AT MOST 1048576: true; the input reads as it did. -/
def boxTurnsUptoRow : OpenClaim := { program := "ytnibjjpohhknkaa", sum := "93238dd0fc95dbed9604393e74ec07073c7dc740ccc4dfca16dd7357cac859d0", func := "catchword/catchwordlaw37.BoxTurns", spec := "boxTurns", inPlace := ["slices.overlaps[catchword/api.Value]"], apart := false, narrowed := true }
def BoxTurnsUptoSaid : Prop := boxTurnsUptoRow.holds Try.pinned (OpenSpec.upto boxTurnsSpec)

/-- 'catchwordlaw37.BoxPages', WHERE WHAT IT READS IS OF BULK AT MOST 1048576: true; the input reads as it did. -/
def boxPagesUptoRow : OpenClaim := { program := "ytnibjjpohhknkaa", sum := "93238dd0fc95dbed9604393e74ec07073c7dc740ccc4dfca16dd7357cac859d0", func := "catchword/catchwordlaw37.BoxPages", spec := "boxPages", inPlace := ["slices.overlaps[catchword/api.Value]"], recurses := true, loops := true, apart := false, narrowed := true }
def BoxPagesUptoSaid : Prop := boxPagesUptoRow.holds Try.pinned (OpenSpec.upto boxPagesSpec)

/-- 'catchwordlaw37.BoxPoints', WHERE WHAT IT READS IS OF BULK AT MOST 1048576: true; the input reads as it did. -/
def boxPointsUptoRow : OpenClaim := { program := "ytnibjjpohhknkaa", sum := "93238dd0fc95dbed9604393e74ec07073c7dc740ccc4dfca16dd7357cac859d0", func := "catchword/catchwordlaw37.BoxPoints", spec := "boxPoints", inPlace := ["slices.overlaps[catchword/api.Value]"], apart := false, narrowed := true }
def BoxPointsUptoSaid : Prop := boxPointsUptoRow.holds Try.pinned (OpenSpec.upto boxPointsSpec)

/-- 'catchwordlaw37.BoxSeen', WHERE WHAT IT READS IS OF BULK AT MOST 1048576: true; the input reads as it did. -/
def boxSeenUptoRow : OpenClaim := { program := "ytnibjjpohhknkaa", sum := "93238dd0fc95dbed9604393e74ec07073c7dc740ccc4dfca16dd7357cac859d0", func := "catchword/catchwordlaw37.BoxSeen", spec := "boxSeen", inPlace := ["slices.overlaps[catchword/api.Value]"], recurses := true, loops := true, apart := false, narrowed := true }
def BoxSeenUptoSaid : Prop := boxSeenUptoRow.holds Try.pinned (OpenSpec.upto boxSeenSpec)

end Rows
end Go.Proofs.Ytnibjjpohhknkaa
