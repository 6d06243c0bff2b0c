/-
  No cell of these rows narrows 'for every input' (looked for: loops, veiled, ifaces, maps, wideKeys, modest, calm, conditions, laid).
  DERIVED. THE GIVEN ROWS OF THIS SEAT. 5 by the template 'for every input the law returns true; each argument reads behind the call as it read before'; 0 by the template 'total and deterministic' (their statements: YtjnpjkenmkgooaaTotals.lean).
  GIVEN WITH THE SEED: the statements are not yours to turn. If you find one false, say at which input.
  Laid BY PROGRAM, IN A SANDBOX (cutbox-rows.mjs): the forced cells as the released guide's own fill.sh prints them over the translation c1fefb1c641af0b5… (all of the seat's roots in one cut). By AI agents, Wed Nov 11 2026. No macro, syntax, notation, axiom, sorry.
-/
import Derived.Test.YtjnpjkenmkgooaaChecked
import GoSem.Claim
import GoSem.ClaimJoined
import GoSem.ClaimMapViews
import Derived.JoinedTies
import Derived.KernelRfl
namespace Go.Proofs.Ytjnpjkenmkgooaa
/- THE CELL 'sum', in the pinned program and in every row, IS THE sha256 OF THE DUMP (.gsa) THAT YtjnpjkenmkgooaaProg.lean LOADS. Nothing in Lean hashes anything: it is a label: what it is worth is what the hold of that sum in a sandbox is worth. -/
noncomputable def Try.pinned : Pinned := { name := "ytjnpjkenmkgooaa", sum := "c1fefb1c641af0b51e811ef48210f010b6a2b919301f3414ef92369443453b26", checked := Try.checked }
namespace Rows
def none {H : Type} : Left H := { results := [], args := [] }

/-- 'catchwordlaw27.ShareHintEncodes': WHATEVER THE INPUT: true; the input reads as it did. -/
def shareHintEncodesSpec : ChangeSpec := { name := "shareHintEncodes", fn := fun _ => fun
  | [d] => { results := [.lit (.bool true)], args := [d] }
  | _ => none }
def shareHintEncodesRow : OpenClaim := { program := "ytjnpjkenmkgooaa", sum := "c1fefb1c641af0b51e811ef48210f010b6a2b919301f3414ef92369443453b26", func := "catchword/catchwordlaw27.ShareHintEncodes", spec := "shareHintEncodes", unfollowed := true, recurses := true, apart := false }
def ShareHintEncodesSaid : Prop := shareHintEncodesRow.holds Try.pinned (OpenSpec.ofChange shareHintEncodesSpec)

/-- ITS FALSE NEIGHBOUR: 'it returns false'. Refute it at one input. -/
def shareHintEncodesWrong : ChangeSpec := { name := "shareHintEncodes", fn := fun _ => fun
  | [d] => { results := [.lit (.bool false)], args := [d] }
  | _ => none }
def ShareHintEncodesWrongFalsely : Prop := shareHintEncodesRow.holds Try.pinned (OpenSpec.ofChange shareHintEncodesWrong)

/-- 'catchwordlaw27.ShareHintDecodes': WHATEVER THE INPUT: true; the input reads as it did. -/
def shareHintDecodesSpec : ChangeSpec := { name := "shareHintDecodes", fn := fun _ => fun
  | [d] => { results := [.lit (.bool true)], args := [d] }
  | _ => none }
def shareHintDecodesRow : OpenClaim := { program := "ytjnpjkenmkgooaa", sum := "c1fefb1c641af0b51e811ef48210f010b6a2b919301f3414ef92369443453b26", func := "catchword/catchwordlaw27.ShareHintDecodes", spec := "shareHintDecodes", unfollowed := true, recurses := true, apart := false }
def ShareHintDecodesSaid : Prop := shareHintDecodesRow.holds Try.pinned (OpenSpec.ofChange shareHintDecodesSpec)

/-- ITS FALSE NEIGHBOUR: 'it returns false'. Refute it at one input. -/
def shareHintDecodesWrong : ChangeSpec := { name := "shareHintDecodes", fn := fun _ => fun
  | [d] => { results := [.lit (.bool false)], args := [d] }
  | _ => none }
def ShareHintDecodesWrongFalsely : Prop := shareHintDecodesRow.holds Try.pinned (OpenSpec.ofChange shareHintDecodesWrong)

/-- 'catchwordlaw27.ShareHintBack': WHATEVER THE INPUT: true; the input reads as it did. -/
def shareHintBackSpec : ChangeSpec := { name := "shareHintBack", fn := fun _ => fun
  | [d1, d2] => { results := [.lit (.bool true)], args := [d1, d2] }
  | _ => none }
def shareHintBackRow : OpenClaim := { program := "ytjnpjkenmkgooaa", sum := "c1fefb1c641af0b51e811ef48210f010b6a2b919301f3414ef92369443453b26", func := "catchword/catchwordlaw27.ShareHintBack", spec := "shareHintBack", unfollowed := true, recurses := true, apart := false }
def ShareHintBackSaid : Prop := shareHintBackRow.holds Try.pinned (OpenSpec.ofChange shareHintBackSpec)

/-- ITS FALSE NEIGHBOUR: 'it returns false'. Refute it at one input. -/
def shareHintBackWrong : ChangeSpec := { name := "shareHintBack", fn := fun _ => fun
  | [d1, d2] => { results := [.lit (.bool false)], args := [d1, d2] }
  | _ => none }
def ShareHintBackWrongFalsely : Prop := shareHintBackRow.holds Try.pinned (OpenSpec.ofChange shareHintBackWrong)

/-- 'catchwordlaw27.ShareHintRest': WHATEVER THE INPUT: true; the input reads as it did. -/
def shareHintRestSpec : ChangeSpec := { name := "shareHintRest", fn := fun _ => fun
  | [d1, d2, d3] => { results := [.lit (.bool true)], args := [d1, d2, d3] }
  | _ => none }
def shareHintRestRow : OpenClaim := { program := "ytjnpjkenmkgooaa", sum := "c1fefb1c641af0b51e811ef48210f010b6a2b919301f3414ef92369443453b26", func := "catchword/catchwordlaw27.ShareHintRest", spec := "shareHintRest", unfollowed := true, recurses := true, apart := false }
def ShareHintRestSaid : Prop := shareHintRestRow.holds Try.pinned (OpenSpec.ofChange shareHintRestSpec)

/-- ITS FALSE NEIGHBOUR: 'it returns false'. Refute it at one input. -/
def shareHintRestWrong : ChangeSpec := { name := "shareHintRest", fn := fun _ => fun
  | [d1, d2, d3] => { results := [.lit (.bool false)], args := [d1, d2, d3] }
  | _ => none }
def ShareHintRestWrongFalsely : Prop := shareHintRestRow.holds Try.pinned (OpenSpec.ofChange shareHintRestWrong)

/-- 'catchwordlaw27.ShareHintMany': WHATEVER THE INPUT: true; the input reads as it did. -/
def shareHintManySpec : ChangeSpec := { name := "shareHintMany", fn := fun _ => fun
  | [d1, d2] => { results := [.lit (.bool true)], args := [d1, d2] }
  | _ => none }
def shareHintManyRow : OpenClaim := { program := "ytjnpjkenmkgooaa", sum := "c1fefb1c641af0b51e811ef48210f010b6a2b919301f3414ef92369443453b26", func := "catchword/catchwordlaw27.ShareHintMany", spec := "shareHintMany", unfollowed := true, recurses := true, apart := false }
def ShareHintManySaid : Prop := shareHintManyRow.holds Try.pinned (OpenSpec.ofChange shareHintManySpec)

/-- ITS FALSE NEIGHBOUR: 'it returns false'. Refute it at one input. -/
def shareHintManyWrong : ChangeSpec := { name := "shareHintMany", fn := fun _ => fun
  | [d1, d2] => { results := [.lit (.bool false)], args := [d1, d2] }
  | _ => none }
def ShareHintManyWrongFalsely : Prop := shareHintManyRow.holds Try.pinned (OpenSpec.ofChange shareHintManyWrong)

/- THE SECOND FORM. 'bulk': how many values and letters a reading holds, each counted each time it is reached (what is shared counts as often as it is met; a slice's spare places count too). A statement '..UptoSaid' is the law's where the arguments, and the package variables that the reading takes, are together of bulk at most 1048576: NARROWER than '..Said'. Prove '..Said' where nothing that the law and all that it calls make is longer than what came in: it says more and counts as full. Else prove '..UptoSaid'. A law counts once. -/
mutual
def uptoBulk {H : Type} : DataW H → Nat
  | .lit (.string bytes) => bytes.length + 1
  | .lit _ => 1
  | .nil => 1
  | .ptr d => uptoBulk d + 1
  | .slice elems spare => uptoBulkAll elems + uptoBulkAll spare + 1
  | .agg parts => uptoBulkAll parts + 1
  | .iface _ d => uptoBulk d + 1
  | .map entries => uptoBulkEntries entries + 1
  | .held _ => 1
def uptoBulkAll {H : Type} : List (DataW H) → Nat
  | [] => 0
  | d :: r => uptoBulk d + uptoBulkAll r
def uptoBulkEntries {H : Type} : List (Lit × DataW H) → Nat
  | [] => 0
  | x :: r => uptoBulkEntry x + uptoBulkEntries r
def uptoBulkEntry {H : Type} : Lit × DataW H → Nat
  | (.string bytes, d) => bytes.length + uptoBulk d + 1
  | (_, d) => uptoBulk d + 1
 end
def uptoSmall : (H : Type) → List (DataW H) → Bool := fun _ ds => decide (uptoBulkAll ds ≤ 1048576)
def OpenSpec.upto (s : _root_.Go.ChangeSpec) : _root_.Go.OpenSpec := { _root_.Go.OpenSpec.ofChange s with cond := some uptoSmall }

/-- 'catchwordlaw27.ShareHintEncodes', WHERE WHAT IT READS IS OF BULK AT MOST 1048576: true; the input reads as it did. -/
def shareHintEncodesUptoRow : OpenClaim := { program := "ytjnpjkenmkgooaa", sum := "c1fefb1c641af0b51e811ef48210f010b6a2b919301f3414ef92369443453b26", func := "catchword/catchwordlaw27.ShareHintEncodes", spec := "shareHintEncodes", unfollowed := true, recurses := true, apart := false, narrowed := true }
def ShareHintEncodesUptoSaid : Prop := shareHintEncodesUptoRow.holds Try.pinned (OpenSpec.upto shareHintEncodesSpec)

/-- 'catchwordlaw27.ShareHintDecodes', WHERE WHAT IT READS IS OF BULK AT MOST 1048576: true; the input reads as it did. -/
def shareHintDecodesUptoRow : OpenClaim := { program := "ytjnpjkenmkgooaa", sum := "c1fefb1c641af0b51e811ef48210f010b6a2b919301f3414ef92369443453b26", func := "catchword/catchwordlaw27.ShareHintDecodes", spec := "shareHintDecodes", unfollowed := true, recurses := true, apart := false, narrowed := true }
def ShareHintDecodesUptoSaid : Prop := shareHintDecodesUptoRow.holds Try.pinned (OpenSpec.upto shareHintDecodesSpec)

/-- 'catchwordlaw27.ShareHintBack', WHERE WHAT IT READS IS OF BULK AT MOST 1048576: true; the input reads as it did. -/
def shareHintBackUptoRow : OpenClaim := { program := "ytjnpjkenmkgooaa", sum := "c1fefb1c641af0b51e811ef48210f010b6a2b919301f3414ef92369443453b26", func := "catchword/catchwordlaw27.ShareHintBack", spec := "shareHintBack", unfollowed := true, recurses := true, apart := false, narrowed := true }
def ShareHintBackUptoSaid : Prop := shareHintBackUptoRow.holds Try.pinned (OpenSpec.upto shareHintBackSpec)

/-- 'catchwordlaw27.ShareHintRest', WHERE WHAT IT READS IS OF BULK AT MOST 1048576: true; the input reads as it did. -/
def shareHintRestUptoRow : OpenClaim := { program := "ytjnpjkenmkgooaa", sum := "c1fefb1c641af0b51e811ef48210f010b6a2b919301f3414ef92369443453b26", func := "catchword/catchwordlaw27.ShareHintRest", spec := "shareHintRest", unfollowed := true, recurses := true, apart := false, narrowed := true }
def ShareHintRestUptoSaid : Prop := shareHintRestUptoRow.holds Try.pinned (OpenSpec.upto shareHintRestSpec)

/-- 'catchwordlaw27.ShareHintMany', WHERE WHAT IT READS IS OF BULK AT MOST 1048576: true; the input reads as it did. -/
def shareHintManyUptoRow : OpenClaim := { program := "ytjnpjkenmkgooaa", sum := "c1fefb1c641af0b51e811ef48210f010b6a2b919301f3414ef92369443453b26", func := "catchword/catchwordlaw27.ShareHintMany", spec := "shareHintMany", unfollowed := true, recurses := true, apart := false, narrowed := true }
def ShareHintManyUptoSaid : Prop := shareHintManyUptoRow.holds Try.pinned (OpenSpec.upto shareHintManySpec)

end Rows
end Go.Proofs.Ytjnpjkenmkgooaa
