/-
  No cell of these rows narrows 'for every input' (looked for: loops, veiled, ifaces, maps, wideKeys, modest, calm, conditions, laid).
  DERIVED. THE GIVEN ROWS OF THIS SEAT. 3 by the template 'for every input the law returns true; each argument reads behind the call as it read before'; 0 by the template 'total and deterministic' (their statements: YtomcdhljjmnahaaTotals.lean).
  GIVEN WITH THE SEED: the statements are not yours to turn. If you find one false, say at which input.
  Laid BY PROGRAM, IN A SANDBOX (cutbox-rows.mjs): the forced cells as the released guide's own fill.sh prints them over the translation bbbecbdc421993b8… (all of the seat's roots in one cut). By AI agents, Wed Nov 11 2026. No macro, syntax, notation, axiom, sorry.
-/
import Derived.Test.YtomcdhljjmnahaaChecked
import GoSem.Claim
import GoSem.ClaimJoined
import GoSem.ClaimMapViews
import Derived.JoinedTies
import Derived.KernelRfl
namespace Go.Proofs.Ytomcdhljjmnahaa
/- THE CELL 'sum', in the pinned program and in every row, IS THE sha256 OF THE DUMP (.gsa) THAT YtomcdhljjmnahaaProg.lean LOADS. Nothing in Lean hashes anything: it is a label: what it is worth is what the hold of that sum in a sandbox is worth. -/
noncomputable def Try.pinned : Pinned := { name := "ytomcdhljjmnahaa", sum := "bbbecbdc421993b838d79d9b314e8dd415f77fa4ba969da6bbea67514fec3186", checked := Try.checked }
namespace Rows
def none {H : Type} : Left H := { results := [], args := [] }

/-- 'catchwordlaw28.HintsSpans': WHATEVER THE INPUT: true; the input reads as it did. -/
def hintsSpansSpec : ChangeSpec := { name := "hintsSpans", fn := fun _ => fun
  | [d1, d2, d3] => { results := [.lit (.bool true)], args := [d1, d2, d3] }
  | _ => none }
def hintsSpansRow : OpenClaim := { program := "ytomcdhljjmnahaa", sum := "bbbecbdc421993b838d79d9b314e8dd415f77fa4ba969da6bbea67514fec3186", func := "catchword/catchwordlaw28.HintsSpans", spec := "hintsSpans", inPlace := ["slices.overlaps[catchword/api.Value]"], unfollowed := true, recurses := true, apart := false }
def HintsSpansSaid : Prop := hintsSpansRow.holds Try.pinned (OpenSpec.ofChange hintsSpansSpec)

/-- ITS FALSE NEIGHBOUR: 'it returns false'. Refute it at one input. -/
def hintsSpansWrong : ChangeSpec := { name := "hintsSpans", fn := fun _ => fun
  | [d1, d2, d3] => { results := [.lit (.bool false)], args := [d1, d2, d3] }
  | _ => none }
def HintsSpansWrongFalsely : Prop := hintsSpansRow.holds Try.pinned (OpenSpec.ofChange hintsSpansWrong)

/-- 'catchwordlaw28.HintsBack': WHATEVER THE INPUT: true; the input reads as it did. -/
def hintsBackSpec : ChangeSpec := { name := "hintsBack", fn := fun _ => fun
  | [d1, d2] => { results := [.lit (.bool true)], args := [d1, d2] }
  | _ => none }
def hintsBackRow : OpenClaim := { program := "ytomcdhljjmnahaa", sum := "bbbecbdc421993b838d79d9b314e8dd415f77fa4ba969da6bbea67514fec3186", func := "catchword/catchwordlaw28.HintsBack", spec := "hintsBack", inPlace := ["slices.overlaps[catchword/api.Value]"], unfollowed := true, recurses := true, apart := false }
def HintsBackSaid : Prop := hintsBackRow.holds Try.pinned (OpenSpec.ofChange hintsBackSpec)

/-- ITS FALSE NEIGHBOUR: 'it returns false'. Refute it at one input. -/
def hintsBackWrong : ChangeSpec := { name := "hintsBack", fn := fun _ => fun
  | [d1, d2] => { results := [.lit (.bool false)], args := [d1, d2] }
  | _ => none }
def HintsBackWrongFalsely : Prop := hintsBackRow.holds Try.pinned (OpenSpec.ofChange hintsBackWrong)

/-- 'catchwordlaw28.HintsApart': WHATEVER THE INPUT: true; the input reads as it did. -/
def hintsApartSpec : ChangeSpec := { name := "hintsApart", fn := fun _ => fun
  | [d1, d2] => { results := [.lit (.bool true)], args := [d1, d2] }
  | _ => none }
def hintsApartRow : OpenClaim := { program := "ytomcdhljjmnahaa", sum := "bbbecbdc421993b838d79d9b314e8dd415f77fa4ba969da6bbea67514fec3186", func := "catchword/catchwordlaw28.HintsApart", spec := "hintsApart", inPlace := ["slices.overlaps[catchword/api.Value]"], unfollowed := true, recurses := true, apart := false }
def HintsApartSaid : Prop := hintsApartRow.holds Try.pinned (OpenSpec.ofChange hintsApartSpec)

/-- ITS FALSE NEIGHBOUR: 'it returns false'. Refute it at one input. -/
def hintsApartWrong : ChangeSpec := { name := "hintsApart", fn := fun _ => fun
  | [d1, d2] => { results := [.lit (.bool false)], args := [d1, d2] }
  | _ => none }
def HintsApartWrongFalsely : Prop := hintsApartRow.holds Try.pinned (OpenSpec.ofChange hintsApartWrong)

/- THE SECOND FORM. 'bulk': how many values and letters a reading holds, each counted each time it is reached (what is shared counts as often as it is met; a slice's spare places count too). A statement '..UptoSaid' is the law's where the arguments, and the package variables that the reading takes, are together of bulk at most 1048576: NARROWER than '..Said'. Prove '..Said' where nothing that the law and all that it calls make is longer than what came in: it says more and counts as full. Else prove '..UptoSaid'. A law counts once. -/
mutual
def uptoBulk {H : Type} : DataW H → Nat
  | .lit (.string bytes) => bytes.length + 1
  | .lit _ => 1
  | .nil => 1
  | .ptr d => uptoBulk d + 1
  | .slice elems spare => uptoBulkAll elems + uptoBulkAll spare + 1
  | .agg parts => uptoBulkAll parts + 1
  | .iface _ d => uptoBulk d + 1
  | .map entries => uptoBulkEntries entries + 1
  | .held _ => 1
def uptoBulkAll {H : Type} : List (DataW H) → Nat
  | [] => 0
  | d :: r => uptoBulk d + uptoBulkAll r
def uptoBulkEntries {H : Type} : List (Lit × DataW H) → Nat
  | [] => 0
  | x :: r => uptoBulkEntry x + uptoBulkEntries r
def uptoBulkEntry {H : Type} : Lit × DataW H → Nat
  | (.string bytes, d) => bytes.length + uptoBulk d + 1
  | (_, d) => uptoBulk d + 1
 end
def uptoSmall : (H : Type) → List (DataW H) → Bool := fun _ ds => decide (uptoBulkAll ds ≤ 1048576)
def OpenSpec.upto (s : _root_.Go.ChangeSpec) : _root_.Go.OpenSpec := { _root_.Go.OpenSpec.ofChange s with cond := some uptoSmall }

/-- 'catchwordlaw28.HintsSpans', WHERE WHAT IT READS IS OF BULK AT MOST 1048576: true; the input reads as it did. -/
def hintsSpansUptoRow : OpenClaim := { program := "ytomcdhljjmnahaa", sum := "bbbecbdc421993b838d79d9b314e8dd415f77fa4ba969da6bbea67514fec3186", func := "catchword/catchwordlaw28.HintsSpans", spec := "hintsSpans", inPlace := ["slices.overlaps[catchword/api.Value]"], unfollowed := true, recurses := true, apart := false, narrowed := true }
def HintsSpansUptoSaid : Prop := hintsSpansUptoRow.holds Try.pinned (OpenSpec.upto hintsSpansSpec)

/-- 'catchwordlaw28.HintsBack', WHERE WHAT IT READS IS OF BULK AT MOST 1048576: true; the input reads as it did. -/
def hintsBackUptoRow : OpenClaim := { program := "ytomcdhljjmnahaa", sum := "bbbecbdc421993b838d79d9b314e8dd415f77fa4ba969da6bbea67514fec3186", func := "catchword/catchwordlaw28.HintsBack", spec := "hintsBack", inPlace := ["slices.overlaps[catchword/api.Value]"], unfollowed := true, recurses := true, apart := false, narrowed := true }
def HintsBackUptoSaid : Prop := hintsBackUptoRow.holds Try.pinned (OpenSpec.upto hintsBackSpec)

/-- 'catchwordlaw28.HintsApart', WHERE WHAT IT READS IS OF BULK AT MOST 1048576: true; the input reads as it did. -/
def hintsApartUptoRow : OpenClaim := { program := "ytomcdhljjmnahaa", sum := "bbbecbdc421993b838d79d9b314e8dd415f77fa4ba969da6bbea67514fec3186", func := "catchword/catchwordlaw28.HintsApart", spec := "hintsApart", inPlace := ["slices.overlaps[catchword/api.Value]"], unfollowed := true, recurses := true, apart := false, narrowed := true }
def HintsApartUptoSaid : Prop := hintsApartUptoRow.holds Try.pinned (OpenSpec.upto hintsApartSpec)

end Rows
end Go.Proofs.Ytomcdhljjmnahaa
