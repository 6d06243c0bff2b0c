/-
  Objects in memory (of r37, without its names).
-/
import Derived.Test.YtnpiemcfbnpfdaaTop
namespace Go.Proofs.Ytnpiemcfbnpfdaa
open Go.RowKit
set_option linter.unusedVariables false
set_option linter.unusedSimpArgs false

structure Ob where
  v : V
  st : Bool
  data : ByteArray
/-- objects, where they lie -/
structure OKids (W : World) (d : Nat) (l : List Ob) (a : Option Addr) (rows : List (List Value)) : Prop where
  len : rows.length = l.length
  six : ∀ r ∈ rows, r.length = 6
  row : RowOf W a (rows.flatMap id)
  lies : ∀ (i : Nat) (o : Ob) (r : List Value), l[i]? = some o → rows[i]? = some r → ∃ cs, r = cs ++ [.bool o.st, .string o.data] ∧ Lies W d o.v cs
theorem OKids.pure {W W' : World} {d : Nat} {l : List Ob} {a : Option Addr} {rows : List (List Value)} (h : OKids W d l a rows) (hP : Pure W W') : OKids W' d l a rows :=
  ⟨h.len, h.six, h.row.ext hP (fun _ _ => id), fun i o r ho hr => by
    obtain ⟨cs, h1, h2⟩ := h.lies i o r ho hr
    exact ⟨cs, h1, h2.pure hP⟩⟩
theorem OKids.at {W : World} {d : Nat} {l : List Ob} {a : Option Addr} {rows : List (List Value)} (h : OKids W d l a rows) (k : Nat) (u : Ob) (hk : l[k]? = some u) :
    ∃ b o cs, a = some ⟨b, o, none⟩ ∧ W.rangeAt b (o + k * 6) cs ∧ cs.length = 4 ∧ Lies W d u.v cs ∧ W.rangeAt b (o + k * 6) (cs ++ [.bool u.st, .string u.data]) := by
  obtain ⟨hkl, rfl⟩ := List.getElem?_eq_some_iff.1 hk
  have hkr : k < rows.length := by rw [h.len]; exact hkl
  have h6 := h.six _ (List.getElem_mem hkr)
  obtain ⟨cs, hcs, hL⟩ := h.lies k _ _ hk (List.getElem?_eq_getElem hkr)
  have h4 : cs.length = 4 := by have := congrArg List.length hcs; rw [h6] at this; simp at this; omega
  have hg : ∀ j, j < 6 → (rows.flatMap id)[k * 6 + j]? = rows[k][j]? := fun j hj => flat_get id rows (fun r hr => h.six r hr) k hkr j hj
  obtain ⟨b, o, ha, _⟩ := h.row (k * 6 + 0) _ ((hg 0 (by omega)).trans (List.getElem?_eq_getElem (by omega)))
  have hr : W.rangeAt b (o + k * 6) (cs ++ [.bool l[k].st, .string l[k].data]) := fun j v hv => by
    rw [← hcs] at hv
    have hj : j < 6 := by have := (List.getElem?_eq_some_iff.1 hv).1; omega
    obtain ⟨b', o', ha', hc⟩ := h.row (k * 6 + j) v ((hg j hj).trans hv)
    rw [ha] at ha'
    cases ha'
    rw [Nat.add_assoc]; exact hc
  exact ⟨b, o, cs, ha, fun j v hv => hr j v (by rw [List.getElem?_append_left (by have := (List.getElem?_eq_some_iff.1 hv).1; omega)]; exact hv), h4, hL, hr⟩
theorem OKids.mono {W : World} {d d' : Nat} {l : List Ob} {a : Option Addr} {rows : List (List Value)} (h : OKids W d l a rows) (hd : d ≤ d') : OKids W d' l a rows :=
  ⟨h.len, h.six, h.row, fun i o r ho hr => by
    obtain ⟨cs, h1, h2⟩ := h.lies i o r ho hr
    exact ⟨cs, h1, h2.mono hd⟩⟩
end Go.Proofs.Ytnpiemcfbnpfdaa
