/-
  Plain: the leaf of a page.
-/
import Derived.Test.YtnpiemcfbnpfdaaLeafPl
namespace Go.Proofs.Ytnpiemcfbnpfdaa
open Go.RowKit
set_option linter.unusedVariables false
set_option linter.unusedSimpArgs false

/-- which kid of a node has the page p of it -/
def pickP (l : List Ob) : List Int → Int → Option (Int × List Int × Int × Int)
  | [], _ => none
  | k :: r, p => match nodeO (obAt l k) with
    | none => none
    | some (ks, c) => if p < c then some (k, ks, c, p) else pickP l r (p - c)
/-- the leaf of the page p of a node: its number, the way, what it is given -/
def findP (l : List Ob) : Nat → Int → List Int → Int → Int → List Int → V → Option (Int × List Int × V)
  | 0, _, _, _, _, _, _ => none
  | f + 1, n, kids, q, p, path, g =>
    if q = kids.length then
      if typedO (obAt l (kids.getD p.toNat 0)) "Page".toUTF8 = true then some (kids.getD p.toNat 0, path ++ [n], leafP (giveP g (obAt l n).v) (obAt l (kids.getD p.toNat 0)).v)
      else match nodeO (obAt l (kids.getD p.toNat 0)) with
        | some (ks, c) => if c = 1 then findP l f (kids.getD p.toNat 0) ks 1 0 (path ++ [n]) (giveP g (obAt l n).v) else none
        | none => none
    else match pickP l kids p with
      | some (k, ks, c, p') => findP l f k ks c p' (path ++ [n]) (giveP g (obAt l n).v)
      | none => none
def emptyV : V := .mk 7 0 ⟨#[]⟩ []
end Go.Proofs.Ytnpiemcfbnpfdaa
