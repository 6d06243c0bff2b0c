/-
  NARROWER THAN 'FOR EVERY INPUT', by the rows' own cells (each row's printed sentence says how): OrderTurns: loops · OrderViews: loops.
  DERIVED. THE GIVEN ROWS OF THIS SEAT. 2 by the template 'for every input the law returns true; each argument reads behind the call as it read before'; 0 by the template 'total and deterministic' (their statements: YtipmbcalnnomjaaGreatTotals.lean).
  GIVEN WITH THE SEED: the statements are not yours to turn. If you find one false, say at which input.
  Laid BY PROGRAM, IN A SANDBOX (cutbox-rows.mjs): the forced cells as the released guide's own fill.sh prints them over the translation 04d616689229d4b3… (all of the seat's roots in one cut). By AI agents, Wed Nov 11 2026. No macro, syntax, notation, axiom, sorry.
-/
import Derived.Test.YtipmbcalnnomjaaGreatChecked
import GoSem.Claim
import GoSem.ClaimJoined
import GoSem.ClaimMapViews
import Derived.JoinedTies
import Derived.KernelRfl
namespace Go.Proofs.YtipmbcalnnomjaaGreat
/- THE CELL 'sum', in the pinned program and in every row, IS THE sha256 OF THE DUMP (.gsa) THAT YtipmbcalnnomjaaGreatProg.lean LOADS. Nothing in Lean hashes anything: it is a label: what it is worth is what the hold of that sum in a sandbox is worth. -/
noncomputable def Tryz.pinned : Pinned := { name := "ytipmbcalnnomjaagreat", sum := "04d616689229d4b334a320ed3be48a5f95ab8ee9c72f57dc45f5f1bd78578e53", checked := Tryz.checked }
namespace Rows
def none {H : Type} : Left H := { results := [], args := [] }

/-- 'catchwordlaw25.OrderTurns': WHATEVER THE INPUT: true; the input reads as it did. -/
def orderTurnsSpec : ChangeSpec := { name := "orderTurns", fn := fun _ => fun
  | [d1, d2] => { results := [.lit (.bool true)], args := [d1, d2] }
  | _ => none }
def orderTurnsRow : OpenClaim := { program := "ytipmbcalnnomjaagreat", sum := "04d616689229d4b334a320ed3be48a5f95ab8ee9c72f57dc45f5f1bd78578e53", func := "catchword/catchwordlaw25.OrderTurns", spec := "orderTurns", inPlace := ["internal/bytealg.IndexByteString", "slices.overlaps[catchword/api.Value]"], unfollowed := true, recurses := true, loops := true, apart := false }
def OrderTurnsSaid : Prop := orderTurnsRow.holds Tryz.pinned (OpenSpec.ofChange orderTurnsSpec)

/-- ITS FALSE NEIGHBOUR: 'it returns false'. Refute it at one input. -/
def orderTurnsWrong : ChangeSpec := { name := "orderTurns", fn := fun _ => fun
  | [d1, d2] => { results := [.lit (.bool false)], args := [d1, d2] }
  | _ => none }
def OrderTurnsWrongFalsely : Prop := orderTurnsRow.holds Tryz.pinned (OpenSpec.ofChange orderTurnsWrong)

/-- 'catchwordlaw25.OrderViews': WHATEVER THE INPUT: true; the input reads as it did. -/
def orderViewsSpec : ChangeSpec := { name := "orderViews", fn := fun _ => fun
  | [d1, d2] => { results := [.lit (.bool true)], args := [d1, d2] }
  | _ => none }
def orderViewsRow : OpenClaim := { program := "ytipmbcalnnomjaagreat", sum := "04d616689229d4b334a320ed3be48a5f95ab8ee9c72f57dc45f5f1bd78578e53", func := "catchword/catchwordlaw25.OrderViews", spec := "orderViews", inPlace := ["internal/bytealg.IndexByteString", "slices.overlaps[catchword/api.Value]", "internal/bytealg.abigen_runtime_cmpstring"], unfollowed := true, recurses := true, loops := true, apart := false }
def OrderViewsSaid : Prop := orderViewsRow.holds Tryz.pinned (OpenSpec.ofChange orderViewsSpec)

/-- ITS FALSE NEIGHBOUR: 'it returns false'. Refute it at one input. -/
def orderViewsWrong : ChangeSpec := { name := "orderViews", fn := fun _ => fun
  | [d1, d2] => { results := [.lit (.bool false)], args := [d1, d2] }
  | _ => none }
def OrderViewsWrongFalsely : Prop := orderViewsRow.holds Tryz.pinned (OpenSpec.ofChange orderViewsWrong)

/- THE SECOND FORM. 'bulk': how many values and letters a reading holds, each counted each time it is reached (what is shared counts as often as it is met; a slice's spare places count too). A statement '..UptoSaid' is the law's where the arguments, and the package variables that the reading takes, are together of bulk at most 1048576: NARROWER than '..Said'. Prove '..Said' where nothing that the law and all that it calls make is longer than what came in: it says more and counts as full. Else prove '..UptoSaid'. A law counts once. -/
mutual
def uptoBulk {H : Type} : DataW H → Nat
  | .lit (.string bytes) => bytes.length + 1
  | .lit _ => 1
  | .nil => 1
  | .ptr d => uptoBulk d + 1
  | .slice elems spare => uptoBulkAll elems + uptoBulkAll spare + 1
  | .agg parts => uptoBulkAll parts + 1
  | .iface _ d => uptoBulk d + 1
  | .map entries => uptoBulkEntries entries + 1
  | .held _ => 1
def uptoBulkAll {H : Type} : List (DataW H) → Nat
  | [] => 0
  | d :: r => uptoBulk d + uptoBulkAll r
def uptoBulkEntries {H : Type} : List (Lit × DataW H) → Nat
  | [] => 0
  | x :: r => uptoBulkEntry x + uptoBulkEntries r
def uptoBulkEntry {H : Type} : Lit × DataW H → Nat
  | (.string bytes, d) => bytes.length + uptoBulk d + 1
  | (_, d) => uptoBulk d + 1
 end
def uptoSmall : (H : Type) → List (DataW H) → Bool := fun _ ds => decide (uptoBulkAll ds ≤ 1048576)
def OpenSpec.upto (s : _root_.Go.ChangeSpec) : _root_.Go.OpenSpec := { _root_.Go.OpenSpec.ofChange s with cond := some uptoSmall }

/-- 'catchwordlaw25.OrderTurns', WHERE WHAT IT READS IS OF BULK AT MOST 1048576: true; the input reads as it did. -/
def orderTurnsUptoRow : OpenClaim := { program := "ytipmbcalnnomjaagreat", sum := "04d616689229d4b334a320ed3be48a5f95ab8ee9c72f57dc45f5f1bd78578e53", func := "catchword/catchwordlaw25.OrderTurns", spec := "orderTurns", inPlace := ["internal/bytealg.IndexByteString", "slices.overlaps[catchword/api.Value]"], unfollowed := true, recurses := true, loops := true, apart := false, narrowed := true }
def OrderTurnsUptoSaid : Prop := orderTurnsUptoRow.holds Tryz.pinned (OpenSpec.upto orderTurnsSpec)

/-- 'catchwordlaw25.OrderViews', WHERE WHAT IT READS IS OF BULK AT MOST 1048576: true; the input reads as it did. -/
def orderViewsUptoRow : OpenClaim := { program := "ytipmbcalnnomjaagreat", sum := "04d616689229d4b334a320ed3be48a5f95ab8ee9c72f57dc45f5f1bd78578e53", func := "catchword/catchwordlaw25.OrderViews", spec := "orderViews", inPlace := ["internal/bytealg.IndexByteString", "slices.overlaps[catchword/api.Value]", "internal/bytealg.abigen_runtime_cmpstring"], unfollowed := true, recurses := true, loops := true, apart := false, narrowed := true }
def OrderViewsUptoSaid : Prop := orderViewsUptoRow.holds Tryz.pinned (OpenSpec.upto orderViewsSpec)

end Rows
end Go.Proofs.YtipmbcalnnomjaaGreat
