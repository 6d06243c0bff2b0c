/-
  What of a Doc refers into its tree from beside it, and whether a Doc may be written, plain.
-/
import Derived.Test.YtipmbcalnnomjaaTreePl
import Derived.Test.YtipmbcalnnomjaaRefsR
import Derived.Test.YtipmbcalnnomjaaDropP
import Derived.Test.YtipmbcalnnomjaaCmp
namespace Go.Proofs.Ytipmbcalnnomjaa
open Go.RowKit
set_option linter.unusedVariables false
set_option linter.unusedSimpArgs false

/-- does a value lead to the root, or into the tree? -/
def leadsB (root : Int) (t : Tr) (v : V) : Bool := (v.more []).any fun x => decide (x = root ∨ t.has x)
/-- the value of the object n without what a tree may say, as the program drops it -/
def cutP (root : Int) (t : Tr) (n : Int) (v : V) : V :=
  let a := if n = root then v.dropped "Pages".toUTF8 else v
  let b := if n ∈ t.nodes then (a.dropped "Kids".toUTF8).dropped "Parent".toUTF8 else a
  if n ∈ t.pages then b.dropped "Parent".toUTF8 else b
/-- the same, as the reference drops it -/
def cutR (root : Int) (t : Tr) (n : Int) (v : V) : V :=
  let a := if n = root then v.dropped "Pages".toUTF8 else v
  let b := if n ∈ t.nodes then a.dropped "Kids".toUTF8 else a
  let c := if t.has n then b.dropped "Parent".toUTF8 else b
  if n ∈ t.nodes ∧ n ∈ t.pages then c.dropped "Parent".toUTF8 else c
theorem cut_eq (root : Int) (t : Tr) (n : Int) (v : V) : cutP root t n v = cutR root t n v := by
  unfold cutP cutR Tr.has
  by_cases h1 : n ∈ t.nodes <;> by_cases h2 : n ∈ t.pages <;> simp [h1, h2]
/-- does anything lead into the tree from beside it? -/
def strayP (l : List Ob) (root : Int) (t : Tr) : Bool := (List.range l.length).any fun k => leadsB root t (cutP root t ((k : Int) + 1) (l.getD k noOb).v)
/-- may an object be? -/
def obE (o : Ob) : Int :=
  if o.v.checkE ≠ 0 then o.v.checkE
  else if o.st = false ∧ o.data.size ≠ 0 then 2
  else if o.st = true ∧ (o.v.kind ≠ 7 ∨ (o.v.find "Length".toUTF8).isSome ∨ (o.v.find "Filter".toUTF8).isSome ∨ (o.v.find "DecodeParms".toUTF8).isSome) then 2
  else if 16777216 < o.data.size then 3 else 0
/-- the first object that may not be, or refers too far -/
def objsE (n : Int) : List Ob → Int
  | [] => 0
  | o :: r => if obE o ≠ 0 then obE o else if (o.v.more []).any (fun k => decide (n < k)) then 26 else objsE n r
/-- may a Doc be written? -/
def docE (l : List Ob) (root : Int) : Int :=
  if 4094 < l.length then 3
  else if objsE l.length l ≠ 0 then objsE l.length l
  else if (walkP l root).2 ≠ 0 then (walkP l root).2
  else if strayP l root (walkP l root).1 then 26 else 0
/-- nothing but nulls has no root -/
theorem noOb_typed (t : ByteArray) : typedO noOb t = false := by
  unfold typedO noOb
  have h : (nullV.get "Type".toUTF8).1.kind ≠ 5 := by rw [get_null]; decide
  simp only [h, decide_false, Bool.and_false, Bool.false_and]
theorem obAt_null {l : List Ob} (h : ∀ o ∈ l, o = noOb) (n : Int) : obAt l n = noOb := by
  unfold obAt
  split
  · rename_i hc
    have hk : (n - 1).toNat < l.length := by omega
    rw [List.getElem?_eq_getElem hk, Option.getD_some]
    exact h _ (List.getElem_mem hk)
  · rfl
theorem walk_null {l : List Ob} (h : ∀ o ∈ l, o = noOb) (root : Int) : walkP l root = (⟨[], []⟩, 23) := by
  unfold walkP
  rw [obAt_null h, noOb_typed]
  rfl
theorem obE_null : obE noOb = 0 := by decide +kernel
theorem more_null : nullV.more [] = [] := by decide +kernel
theorem objsE_null (m : Int) : ∀ {l : List Ob}, (∀ o ∈ l, o = noOb) → objsE m l = 0
  | [], _ => rfl
  | o :: r, h => by
    obtain rfl := h o List.mem_cons_self
    unfold objsE
    rw [if_neg (by rw [obE_null]; exact fun h => h rfl), show noOb.v.more [] = [] from more_null]
    simpa using objsE_null m (fun o ho => h o (List.mem_cons_of_mem _ ho))
theorem doc_null {l : List Ob} (h : ∀ o ∈ l, o = noOb) (root : Int) : docE l root = if 4094 < l.length then 3 else 23 := by
  unfold docE
  rw [objsE_null _ h, walk_null h]
  simp
end Go.Proofs.Ytipmbcalnnomjaa
