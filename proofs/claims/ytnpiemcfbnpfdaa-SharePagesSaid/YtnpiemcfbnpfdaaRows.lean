/-
  NARROWER THAN 'FOR EVERY INPUT', by the rows' own cells (each row's printed sentence says how): ShareOnce: loops · SharePages: loops.
  DERIVED. THE GIVEN ROWS OF THIS SEAT. 3 by the template 'for every input the law returns true; each argument reads behind the call as it read before'; 0 by the template 'total and deterministic' (their statements: YtnpiemcfbnpfdaaTotals.lean).
  GIVEN WITH THE SEED: the statements are not yours to turn. If you find one false, say at which input.
  Laid BY PROGRAM, IN A SANDBOX (cutbox-rows.mjs): the forced cells as the released guide's own fill.sh prints them over the translation 9d74257667cf1282… (all of the seat's roots in one cut). By AI agents, Wed Nov 11 2026. No macro, syntax, notation, axiom, sorry.
-/
import Derived.Test.YtnpiemcfbnpfdaaChecked
import GoSem.Claim
import GoSem.ClaimJoined
import GoSem.ClaimMapViews
import Derived.JoinedTies
import Derived.KernelRfl
namespace Go.Proofs.Ytnpiemcfbnpfdaa
/- THE CELL 'sum', in the pinned program and in every row, IS THE sha256 OF THE DUMP (.gsa) THAT YtnpiemcfbnpfdaaProg.lean LOADS. Nothing in Lean hashes anything: it is a label: what it is worth is what the hold of that sum in a sandbox is worth. -/
noncomputable def Try.pinned : Pinned := { name := "ytnpiemcfbnpfdaa", sum := "9d74257667cf128252dbd1456aec97461338fa6472bfe5fb7381e8603a80e843", checked := Try.checked }
namespace Rows
def none {H : Type} : Left H := { results := [], args := [] }

/-- 'catchwordlaw24.ShareAny': WHATEVER THE INPUT: true; the input reads as it did. -/
def shareAnySpec : ChangeSpec := { name := "shareAny", fn := fun _ => fun
  | [d1, d2, d3, d4] => { results := [.lit (.bool true)], args := [d1, d2, d3, d4] }
  | _ => none }
def shareAnyRow : OpenClaim := { program := "ytnpiemcfbnpfdaa", sum := "9d74257667cf128252dbd1456aec97461338fa6472bfe5fb7381e8603a80e843", func := "catchword/catchwordlaw24.ShareAny", spec := "shareAny", inPlace := ["internal/bytealg.IndexByteString", "slices.overlaps[catchword/api.Value]"], unfollowed := true, recurses := true, apart := false }
def ShareAnySaid : Prop := shareAnyRow.holds Try.pinned (OpenSpec.ofChange shareAnySpec)

/-- ITS FALSE NEIGHBOUR: 'it returns false'. Refute it at one input. -/
def shareAnyWrong : ChangeSpec := { name := "shareAny", fn := fun _ => fun
  | [d1, d2, d3, d4] => { results := [.lit (.bool false)], args := [d1, d2, d3, d4] }
  | _ => none }
def ShareAnyWrongFalsely : Prop := shareAnyRow.holds Try.pinned (OpenSpec.ofChange shareAnyWrong)

/-- 'catchwordlaw24.ShareOnce': WHATEVER THE INPUT: true; the input reads as it did. -/
def shareOnceSpec : ChangeSpec := { name := "shareOnce", fn := fun _ => fun
  | [d] => { results := [.lit (.bool true)], args := [d] }
  | _ => none }
def shareOnceRow : OpenClaim := { program := "ytnpiemcfbnpfdaa", sum := "9d74257667cf128252dbd1456aec97461338fa6472bfe5fb7381e8603a80e843", func := "catchword/catchwordlaw24.ShareOnce", spec := "shareOnce", inPlace := ["internal/bytealg.IndexByteString", "slices.overlaps[catchword/api.Value]"], unfollowed := true, recurses := true, loops := true, apart := false }
def ShareOnceSaid : Prop := shareOnceRow.holds Try.pinned (OpenSpec.ofChange shareOnceSpec)

/-- ITS FALSE NEIGHBOUR: 'it returns false'. Refute it at one input. -/
def shareOnceWrong : ChangeSpec := { name := "shareOnce", fn := fun _ => fun
  | [d] => { results := [.lit (.bool false)], args := [d] }
  | _ => none }
def ShareOnceWrongFalsely : Prop := shareOnceRow.holds Try.pinned (OpenSpec.ofChange shareOnceWrong)

/-- 'catchwordlaw24.SharePages': WHATEVER THE INPUT: true; the input reads as it did. -/
def sharePagesSpec : ChangeSpec := { name := "sharePages", fn := fun _ => fun
  | [d] => { results := [.lit (.bool true)], args := [d] }
  | _ => none }
def sharePagesRow : OpenClaim := { program := "ytnpiemcfbnpfdaa", sum := "9d74257667cf128252dbd1456aec97461338fa6472bfe5fb7381e8603a80e843", func := "catchword/catchwordlaw24.SharePages", spec := "sharePages", inPlace := ["internal/bytealg.IndexByteString", "slices.overlaps[catchword/api.Value]"], unfollowed := true, recurses := true, loops := true, apart := false }
def SharePagesSaid : Prop := sharePagesRow.holds Try.pinned (OpenSpec.ofChange sharePagesSpec)

/-- ITS FALSE NEIGHBOUR: 'it returns false'. Refute it at one input. -/
def sharePagesWrong : ChangeSpec := { name := "sharePages", fn := fun _ => fun
  | [d] => { results := [.lit (.bool false)], args := [d] }
  | _ => none }
def SharePagesWrongFalsely : Prop := sharePagesRow.holds Try.pinned (OpenSpec.ofChange sharePagesWrong)

/- THE SECOND FORM. 'bulk': how many values and letters a reading holds, each counted each time it is reached (what is shared counts as often as it is met; a slice's spare places count too). A statement '..UptoSaid' is the law's where the arguments, and the package variables that the reading takes, are together of bulk at most 1048576: NARROWER than '..Said'. Prove '..Said' where nothing that the law and all that it calls make is longer than what came in: it says more and counts as full. Else prove '..UptoSaid'. A law counts once. -/
mutual
def uptoBulk {H : Type} : DataW H → Nat
  | .lit (.string bytes) => bytes.length + 1
  | .lit _ => 1
  | .nil => 1
  | .ptr d => uptoBulk d + 1
  | .slice elems spare => uptoBulkAll elems + uptoBulkAll spare + 1
  | .agg parts => uptoBulkAll parts + 1
  | .iface _ d => uptoBulk d + 1
  | .map entries => uptoBulkEntries entries + 1
  | .held _ => 1
def uptoBulkAll {H : Type} : List (DataW H) → Nat
  | [] => 0
  | d :: r => uptoBulk d + uptoBulkAll r
def uptoBulkEntries {H : Type} : List (Lit × DataW H) → Nat
  | [] => 0
  | x :: r => uptoBulkEntry x + uptoBulkEntries r
def uptoBulkEntry {H : Type} : Lit × DataW H → Nat
  | (.string bytes, d) => bytes.length + uptoBulk d + 1
  | (_, d) => uptoBulk d + 1
 end
def uptoSmall : (H : Type) → List (DataW H) → Bool := fun _ ds => decide (uptoBulkAll ds ≤ 1048576)
def OpenSpec.upto (s : _root_.Go.ChangeSpec) : _root_.Go.OpenSpec := { _root_.Go.OpenSpec.ofChange s with cond := some uptoSmall }

/-- 'catchwordlaw24.ShareAny', WHERE WHAT IT READS IS OF BULK AT MOST 1048576: true; the input reads as it did. -/
def shareAnyUptoRow : OpenClaim := { program := "ytnpiemcfbnpfdaa", sum := "9d74257667cf128252dbd1456aec97461338fa6472bfe5fb7381e8603a80e843", func := "catchword/catchwordlaw24.ShareAny", spec := "shareAny", inPlace := ["internal/bytealg.IndexByteString", "slices.overlaps[catchword/api.Value]"], unfollowed := true, recurses := true, apart := false, narrowed := true }
def ShareAnyUptoSaid : Prop := shareAnyUptoRow.holds Try.pinned (OpenSpec.upto shareAnySpec)

/-- 'catchwordlaw24.ShareOnce', WHERE WHAT IT READS IS OF BULK AT MOST 1048576: true; the input reads as it did. -/
def shareOnceUptoRow : OpenClaim := { program := "ytnpiemcfbnpfdaa", sum := "9d74257667cf128252dbd1456aec97461338fa6472bfe5fb7381e8603a80e843", func := "catchword/catchwordlaw24.ShareOnce", spec := "shareOnce", inPlace := ["internal/bytealg.IndexByteString", "slices.overlaps[catchword/api.Value]"], unfollowed := true, recurses := true, loops := true, apart := false, narrowed := true }
def ShareOnceUptoSaid : Prop := shareOnceUptoRow.holds Try.pinned (OpenSpec.upto shareOnceSpec)

/-- 'catchwordlaw24.SharePages', WHERE WHAT IT READS IS OF BULK AT MOST 1048576: true; the input reads as it did. -/
def sharePagesUptoRow : OpenClaim := { program := "ytnpiemcfbnpfdaa", sum := "9d74257667cf128252dbd1456aec97461338fa6472bfe5fb7381e8603a80e843", func := "catchword/catchwordlaw24.SharePages", spec := "sharePages", inPlace := ["internal/bytealg.IndexByteString", "slices.overlaps[catchword/api.Value]"], unfollowed := true, recurses := true, loops := true, apart := false, narrowed := true }
def SharePagesUptoSaid : Prop := sharePagesUptoRow.holds Try.pinned (OpenSpec.upto sharePagesSpec)

end Rows
end Go.Proofs.Ytnpiemcfbnpfdaa
