/-
  No cell of these rows narrows 'for every input' (looked for: loops, veiled, ifaces, maps, wideKeys, modest, calm, conditions, laid).
  DERIVED. THE GIVEN ROWS OF THIS SEAT. 5 by the template 'for every input the law returns true; each argument reads behind the call as it read before'; 0 by the template 'total and deterministic' (their statements: YtdhejhgpjeenaaaTotals.lean).
  GIVEN WITH THE SEED: the statements are not yours to turn. If you find one false, say at which input.
  Laid BY PROGRAM, IN A SANDBOX (cutbox-rows.mjs): the forced cells as the released guide's own fill.sh prints them over the translation 46e63aad1c58d1d1… (all of the seat's roots in one cut). By AI agents, Wed Nov 11 2026. No macro, syntax, notation, axiom, sorry.
-/
import Derived.Test.YtdhejhgpjeenaaaChecked
import GoSem.Claim
import GoSem.ClaimJoined
import GoSem.ClaimMapViews
import Derived.JoinedTies
import Derived.KernelRfl
namespace Go.Proofs.Ytdhejhgpjeenaaa
/- THE CELL 'sum', in the pinned program and in every row, IS THE sha256 OF THE DUMP (.gsa) THAT YtdhejhgpjeenaaaProg.lean LOADS. Nothing in Lean hashes anything: it is a label: what it is worth is what the hold of that sum in a sandbox is worth. -/
noncomputable def Try.pinned : Pinned := { name := "ytdhejhgpjeenaaa", sum := "46e63aad1c58d1d1bee829030a54fd8c580df1ae6c3f66b27892776bd0900459", checked := Try.checked }
namespace Rows
def none {H : Type} : Left H := { results := [], args := [] }

/-- 'catchwordlaw26.PageHintEncodes': WHATEVER THE INPUT: true; the input reads as it did. -/
def pageHintEncodesSpec : ChangeSpec := { name := "pageHintEncodes", fn := fun _ => fun
  | [d1, d2] => { results := [.lit (.bool true)], args := [d1, d2] }
  | _ => none }
def pageHintEncodesRow : OpenClaim := { program := "ytdhejhgpjeenaaa", sum := "46e63aad1c58d1d1bee829030a54fd8c580df1ae6c3f66b27892776bd0900459", func := "catchword/catchwordlaw26.PageHintEncodes", spec := "pageHintEncodes", unfollowed := true, recurses := true, apart := false }
def PageHintEncodesSaid : Prop := pageHintEncodesRow.holds Try.pinned (OpenSpec.ofChange pageHintEncodesSpec)

/-- ITS FALSE NEIGHBOUR: 'it returns false'. Refute it at one input. -/
def pageHintEncodesWrong : ChangeSpec := { name := "pageHintEncodes", fn := fun _ => fun
  | [d1, d2] => { results := [.lit (.bool false)], args := [d1, d2] }
  | _ => none }
def PageHintEncodesWrongFalsely : Prop := pageHintEncodesRow.holds Try.pinned (OpenSpec.ofChange pageHintEncodesWrong)

/-- 'catchwordlaw26.PageHintDecodes': WHATEVER THE INPUT: true; the input reads as it did. -/
def pageHintDecodesSpec : ChangeSpec := { name := "pageHintDecodes", fn := fun _ => fun
  | [d1, d2] => { results := [.lit (.bool true)], args := [d1, d2] }
  | _ => none }
def pageHintDecodesRow : OpenClaim := { program := "ytdhejhgpjeenaaa", sum := "46e63aad1c58d1d1bee829030a54fd8c580df1ae6c3f66b27892776bd0900459", func := "catchword/catchwordlaw26.PageHintDecodes", spec := "pageHintDecodes", unfollowed := true, recurses := true, apart := false }
def PageHintDecodesSaid : Prop := pageHintDecodesRow.holds Try.pinned (OpenSpec.ofChange pageHintDecodesSpec)

/-- ITS FALSE NEIGHBOUR: 'it returns false'. Refute it at one input. -/
def pageHintDecodesWrong : ChangeSpec := { name := "pageHintDecodes", fn := fun _ => fun
  | [d1, d2] => { results := [.lit (.bool false)], args := [d1, d2] }
  | _ => none }
def PageHintDecodesWrongFalsely : Prop := pageHintDecodesRow.holds Try.pinned (OpenSpec.ofChange pageHintDecodesWrong)

/-- 'catchwordlaw26.PageHintBack': WHATEVER THE INPUT: true; the input reads as it did. -/
def pageHintBackSpec : ChangeSpec := { name := "pageHintBack", fn := fun _ => fun
  | [d1, d2, d3] => { results := [.lit (.bool true)], args := [d1, d2, d3] }
  | _ => none }
def pageHintBackRow : OpenClaim := { program := "ytdhejhgpjeenaaa", sum := "46e63aad1c58d1d1bee829030a54fd8c580df1ae6c3f66b27892776bd0900459", func := "catchword/catchwordlaw26.PageHintBack", spec := "pageHintBack", unfollowed := true, recurses := true, apart := false }
def PageHintBackSaid : Prop := pageHintBackRow.holds Try.pinned (OpenSpec.ofChange pageHintBackSpec)

/-- ITS FALSE NEIGHBOUR: 'it returns false'. Refute it at one input. -/
def pageHintBackWrong : ChangeSpec := { name := "pageHintBack", fn := fun _ => fun
  | [d1, d2, d3] => { results := [.lit (.bool false)], args := [d1, d2, d3] }
  | _ => none }
def PageHintBackWrongFalsely : Prop := pageHintBackRow.holds Try.pinned (OpenSpec.ofChange pageHintBackWrong)

/-- 'catchwordlaw26.PageHintRest': WHATEVER THE INPUT: true; the input reads as it did. -/
def pageHintRestSpec : ChangeSpec := { name := "pageHintRest", fn := fun _ => fun
  | [d1, d2, d3] => { results := [.lit (.bool true)], args := [d1, d2, d3] }
  | _ => none }
def pageHintRestRow : OpenClaim := { program := "ytdhejhgpjeenaaa", sum := "46e63aad1c58d1d1bee829030a54fd8c580df1ae6c3f66b27892776bd0900459", func := "catchword/catchwordlaw26.PageHintRest", spec := "pageHintRest", unfollowed := true, recurses := true, apart := false }
def PageHintRestSaid : Prop := pageHintRestRow.holds Try.pinned (OpenSpec.ofChange pageHintRestSpec)

/-- ITS FALSE NEIGHBOUR: 'it returns false'. Refute it at one input. -/
def pageHintRestWrong : ChangeSpec := { name := "pageHintRest", fn := fun _ => fun
  | [d1, d2, d3] => { results := [.lit (.bool false)], args := [d1, d2, d3] }
  | _ => none }
def PageHintRestWrongFalsely : Prop := pageHintRestRow.holds Try.pinned (OpenSpec.ofChange pageHintRestWrong)

/-- 'catchwordlaw26.PageHintMany': WHATEVER THE INPUT: true; the input reads as it did. -/
def pageHintManySpec : ChangeSpec := { name := "pageHintMany", fn := fun _ => fun
  | [d1, d2] => { results := [.lit (.bool true)], args := [d1, d2] }
  | _ => none }
def pageHintManyRow : OpenClaim := { program := "ytdhejhgpjeenaaa", sum := "46e63aad1c58d1d1bee829030a54fd8c580df1ae6c3f66b27892776bd0900459", func := "catchword/catchwordlaw26.PageHintMany", spec := "pageHintMany", unfollowed := true, recurses := true, apart := false }
def PageHintManySaid : Prop := pageHintManyRow.holds Try.pinned (OpenSpec.ofChange pageHintManySpec)

/-- ITS FALSE NEIGHBOUR: 'it returns false'. Refute it at one input. -/
def pageHintManyWrong : ChangeSpec := { name := "pageHintMany", fn := fun _ => fun
  | [d1, d2] => { results := [.lit (.bool false)], args := [d1, d2] }
  | _ => none }
def PageHintManyWrongFalsely : Prop := pageHintManyRow.holds Try.pinned (OpenSpec.ofChange pageHintManyWrong)

/- THE SECOND FORM. 'bulk': how many values and letters a reading holds, each counted each time it is reached (what is shared counts as often as it is met; a slice's spare places count too). A statement '..UptoSaid' is the law's where the arguments, and the package variables that the reading takes, are together of bulk at most 1048576: NARROWER than '..Said'. Prove '..Said' where nothing that the law and all that it calls make is longer than what came in: it says more and counts as full. Else prove '..UptoSaid'. A law counts once. -/
mutual
def uptoBulk {H : Type} : DataW H → Nat
  | .lit (.string bytes) => bytes.length + 1
  | .lit _ => 1
  | .nil => 1
  | .ptr d => uptoBulk d + 1
  | .slice elems spare => uptoBulkAll elems + uptoBulkAll spare + 1
  | .agg parts => uptoBulkAll parts + 1
  | .iface _ d => uptoBulk d + 1
  | .map entries => uptoBulkEntries entries + 1
  | .held _ => 1
def uptoBulkAll {H : Type} : List (DataW H) → Nat
  | [] => 0
  | d :: r => uptoBulk d + uptoBulkAll r
def uptoBulkEntries {H : Type} : List (Lit × DataW H) → Nat
  | [] => 0
  | x :: r => uptoBulkEntry x + uptoBulkEntries r
def uptoBulkEntry {H : Type} : Lit × DataW H → Nat
  | (.string bytes, d) => bytes.length + uptoBulk d + 1
  | (_, d) => uptoBulk d + 1
 end
def uptoSmall : (H : Type) → List (DataW H) → Bool := fun _ ds => decide (uptoBulkAll ds ≤ 1048576)
def OpenSpec.upto (s : _root_.Go.ChangeSpec) : _root_.Go.OpenSpec := { _root_.Go.OpenSpec.ofChange s with cond := some uptoSmall }

/-- 'catchwordlaw26.PageHintEncodes', WHERE WHAT IT READS IS OF BULK AT MOST 1048576: true; the input reads as it did. -/
def pageHintEncodesUptoRow : OpenClaim := { program := "ytdhejhgpjeenaaa", sum := "46e63aad1c58d1d1bee829030a54fd8c580df1ae6c3f66b27892776bd0900459", func := "catchword/catchwordlaw26.PageHintEncodes", spec := "pageHintEncodes", unfollowed := true, recurses := true, apart := false, narrowed := true }
def PageHintEncodesUptoSaid : Prop := pageHintEncodesUptoRow.holds Try.pinned (OpenSpec.upto pageHintEncodesSpec)

/-- 'catchwordlaw26.PageHintDecodes', WHERE WHAT IT READS IS OF BULK AT MOST 1048576: true; the input reads as it did. -/
def pageHintDecodesUptoRow : OpenClaim := { program := "ytdhejhgpjeenaaa", sum := "46e63aad1c58d1d1bee829030a54fd8c580df1ae6c3f66b27892776bd0900459", func := "catchword/catchwordlaw26.PageHintDecodes", spec := "pageHintDecodes", unfollowed := true, recurses := true, apart := false, narrowed := true }
def PageHintDecodesUptoSaid : Prop := pageHintDecodesUptoRow.holds Try.pinned (OpenSpec.upto pageHintDecodesSpec)

/-- 'catchwordlaw26.PageHintBack', WHERE WHAT IT READS IS OF BULK AT MOST 1048576: true; the input reads as it did. -/
def pageHintBackUptoRow : OpenClaim := { program := "ytdhejhgpjeenaaa", sum := "46e63aad1c58d1d1bee829030a54fd8c580df1ae6c3f66b27892776bd0900459", func := "catchword/catchwordlaw26.PageHintBack", spec := "pageHintBack", unfollowed := true, recurses := true, apart := false, narrowed := true }
def PageHintBackUptoSaid : Prop := pageHintBackUptoRow.holds Try.pinned (OpenSpec.upto pageHintBackSpec)

/-- 'catchwordlaw26.PageHintRest', WHERE WHAT IT READS IS OF BULK AT MOST 1048576: true; the input reads as it did. -/
def pageHintRestUptoRow : OpenClaim := { program := "ytdhejhgpjeenaaa", sum := "46e63aad1c58d1d1bee829030a54fd8c580df1ae6c3f66b27892776bd0900459", func := "catchword/catchwordlaw26.PageHintRest", spec := "pageHintRest", unfollowed := true, recurses := true, apart := false, narrowed := true }
def PageHintRestUptoSaid : Prop := pageHintRestUptoRow.holds Try.pinned (OpenSpec.upto pageHintRestSpec)

/-- 'catchwordlaw26.PageHintMany', WHERE WHAT IT READS IS OF BULK AT MOST 1048576: true; the input reads as it did. -/
def pageHintManyUptoRow : OpenClaim := { program := "ytdhejhgpjeenaaa", sum := "46e63aad1c58d1d1bee829030a54fd8c580df1ae6c3f66b27892776bd0900459", func := "catchword/catchwordlaw26.PageHintMany", spec := "pageHintMany", unfollowed := true, recurses := true, apart := false, narrowed := true }
def PageHintManyUptoSaid : Prop := pageHintManyUptoRow.holds Try.pinned (OpenSpec.upto pageHintManySpec)

end Rows
end Go.Proofs.Ytdhejhgpjeenaaa
