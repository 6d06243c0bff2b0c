import Derived.Test.YtipmbcalnnomjaaGreatTreePlTu
import Derived.Test.YtipmbcalnnomjaaGreatRefsRTu
import Derived.Test.YtipmbcalnnomjaaGreatDropPTu
import Derived.Test.YtipmbcalnnomjaaGreatCmpTu
import Derived.Test.YtipmbcalnnomjaaGreatSqTu
set_option linter.unusedVariables false
set_option linter.unusedSimpArgs false
namespace Go.Proofs.YtipmbcalnnomjaaGreat
open Go.RowKit
def leadsB (root : Int) (t : Tr) (v : V) : Bool := (v.more []).any fun x => decide (x = root ∨ t.has x)
def cutP (root : Int) (t : Tr) (n : Int) (v : V) : V :=
 let a := if n = root then v.dropped "Pages".toUTF8 else v
 let b := if n ∈ t.nodes then (a.dropped "Kids".toUTF8).dropped "Parent".toUTF8 else a
 if n ∈ t.pages then b.dropped "Parent".toUTF8 else b
def strayP (l : List Ob) (root : Int) (t : Tr) : Bool := (List.range l.length).any fun k => leadsB root t (cutP root t ((k : Int) + 1) (l.getD k noOb).v)
def obE (o : Ob) : Int :=
 if o.v.checkE ≠ 0 then o.v.checkE
 else if o.st = false ∧ o.data.size ≠ 0 then 2
 else if o.st = true ∧ (o.v.kind ≠ 7 ∨ (o.v.find "Length".toUTF8).isSome ∨ (o.v.find "Filter".toUTF8).isSome ∨ (o.v.find "DecodeParms".toUTF8).isSome) then 2
 else if 16777216 < o.data.size then 3 else 0
def objsE (n : Int) : List Ob → Int
 | [] => 0
 | o :: r => if obE o ≠ 0 then obE o else if (o.v.more []).any (fun k => decide (n < k)) then 26 else objsE n r
def docE (l : List Ob) (root : Int) : Int :=
 if 4094 < l.length then 3
 else if objsE l.length l ≠ 0 then objsE l.length l
 else if (walkP l root).2 ≠ 0 then (walkP l root).2
 else if strayP l root (walkP l root).1 then 26 else 0
