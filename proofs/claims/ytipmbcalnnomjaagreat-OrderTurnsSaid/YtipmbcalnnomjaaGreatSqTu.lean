import Derived.Lib.Hide
set_option linter.unusedVariables false
namespace Go.Proofs.YtipmbcalnnomjaaGreat
open Go.RowKit
theorem sA {α : Type _} (l : List α) (i : Nat) (a : α) : l.toArray.setIfInBounds i a = (l.set i a).toArray := List.setIfInBounds_toArray l i a
theorem sZ {α : Type _} {x : α} {xs : List α} {a : α} : (x :: xs).set 0 a = a :: xs := rfl
theorem sS {α : Type _} {x : α} {xs : List α} {i : Nat} {a : α} : (x :: xs).set (i + 1) a = x :: xs.set i a := rfl
theorem qh {p : Prop} (h : p) : RowKit.Hid p := h
end Go.Proofs.YtipmbcalnnomjaaGreat
