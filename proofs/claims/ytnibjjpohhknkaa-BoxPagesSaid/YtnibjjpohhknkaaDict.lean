/-
  May a dictionary's names be? (both)
-/
import Derived.Test.YtnibjjpohhknkaaNumChk
import Derived.Deep.QuietTactic
import Derived.BigQuiet
namespace Go.Proofs.Ytnibjjpohhknkaa
open Go.RowKit
set_option linter.unusedVariables false
set_option linter.unusedSimpArgs false

theorem Kids.cells {W : World} {d : Nat} {l : List V} {a : Option Addr} {rows : List (List Value)} (h : Kids W d l a rows) (k : Nat) (u : V) (hk : l[k]? = some u) :
    ∃ b o a' c', a = some ⟨b, o, none⟩ ∧ W.cell? ⟨b, o + k * 4, none⟩ = some (.int .i64 u.kind) ∧ W.cell? ⟨b, o + k * 4 + 1, none⟩ = some (.int .i64 u.n) ∧ W.cell? ⟨b, o + k * 4 + 2, none⟩ = some (.string u.s) ∧ W.cell? ⟨b, o + k * 4 + 3, none⟩ = some (.slice a' u.l.length c') := by
  obtain ⟨b, o, r, ha, hr, _, hL⟩ := h.at k u hk
  cases d with
  | zero => exact hL.elim
  | succ d =>
    obtain ⟨a', c', _, rfl, _⟩ := hL.kids
    exact ⟨b, o, a', c', ha, hr 0 _ rfl, hr 1 _ rfl, hr 2 _ rfl, hr 3 _ rfl⟩
def kindAt (l : List V) (i : Nat) : Int := (l[i]?.map V.kind).getD 0
def keyAt (l : List V) (i : Nat) : ByteArray := (l[i]?.map V.s).getD ⟨#[]⟩
def lessB (a b : ByteArray) : Bool := Op.bytesLess a.toList b.toList
def namesB (l : List V) : Bool := (List.range (l.length / 2)).all fun j => kindAt l (2 * j) == 5
def orderB (l : List V) : Bool := (List.range (l.length / 2 - 1)).all fun j => lessB (keyAt l (2 * j)) (keyAt l (2 * j + 2))
def dictE (l : List V) : Int := if l.length % 2 = 1 then 2 else if namesB l = true then (if orderB l = true then 0 else 16) else 2
theorem namesB_true {l : List V} : namesB l = true ↔ ∀ j, j < l.length / 2 → kindAt l (2 * j) = 5 := by simp [namesB]
theorem orderB_true {l : List V} : orderB l = true ↔ ∀ j, j < l.length / 2 - 1 → lessB (keyAt l (2 * j)) (keyAt l (2 * j + 2)) = true := by simp [orderB]
theorem kindAt_some {l : List V} {i : Nat} {u : V} (h : l[i]? = some u) : kindAt l i = u.kind := by simp [kindAt, h]
theorem keyAt_some {l : List V} {i : Nat} {u : V} (h : l[i]? = some u) : keyAt l i = u.s := by simp [keyAt, h]
end Go.Proofs.Ytnibjjpohhknkaa
