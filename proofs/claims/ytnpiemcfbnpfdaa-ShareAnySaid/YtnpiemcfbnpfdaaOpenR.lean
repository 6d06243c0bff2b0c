/-
  Rows of numbers that came in.
-/
import Derived.Test.YtnpiemcfbnpfdaaPartI
import Derived.Test.YtnpiemcfbnpfdaaOpenS
namespace Go.Proofs.Ytnpiemcfbnpfdaa
open Go.ChangeShapes Go.WideShapes Go.ChangeAt Go.RowKit
set_option linter.unusedVariables false
set_option linter.unusedSimpArgs false

theorem rows_flatV {W : World} {ad : Option Addr} {rows : List (List Value × CRow)} (hq : ∀ r ∈ rows, r.1 = [r.2.v]) (h : RowOf W ad (rows.flatMap (·.1))) : RowOf W ad ((rows.map (·.2)).map CRow.v) := by
  have e : rows.flatMap (·.1) = (rows.map (·.2)).map CRow.v := by
    clear h
    induction rows with
    | nil => rfl
    | cons r rows ih =>
      rw [List.flatMap_cons, hq r (by simp), ih (fun q h => hq q (by simp [h]))]
      rfl
  rw [e] at h
  exact h
set_option maxRecDepth 100000 in
theorem open_rws {H : Type} {enc : TypeId × Value → H} {W : World} {v : Value} {d : DataW H} {p : List MemPlace} {base : Nat}
    (hv : Value.okWide Try.prog W .any base 23 v) (h : DataW.Trod enc Try.prog W 0 (fun _ => true) true 23 v d p) :
    ∃ (a : Option Addr) (c : Nat) (rs : List CRow), v = .slice a rs.length c ∧ Rws W a rs ∧ rs.length ≤ c ∧ c ≤ maxLen ∧ (a = none → c = 0) ∧ (∀ q ∈ rs, q.ok W) ∧ (∀ q ∈ rs, ∀ x ∈ q.l, (Lit.int .i64 x).wf = true) ∧ ∀ q ∈ rs, q.c ≤ maxLen := by
  obtain ⟨a, n, c, rfl⟩ := okWide_slice Try.underlying23 hv
  obtain ⟨fuel, hy⟩ := h
  have s1 : Try.prog.cellsOf 22 = 1 := by kernel_rfl
  obtain ⟨a', c', rows, hcs, hl, hm, hn, hq, hrow⟩ := open_rows2 (size := 1) (Q := fun cs (q : CRow) => cs = [q.v] ∧ q.ok W ∧ (∀ x ∈ q.l, (Lit.int .i64 x).wf = true) ∧ q.c ≤ maxLen) Try.underlying23 s1 (by decide) (fun n' cs y hn' hy hlen => by
    obtain ⟨qa, qc, l, hcs, h1, h2, h3, h4, h5⟩ := open_ints_wf hy
    exact ⟨⟨qa, qc, l⟩, hcs, ⟨h1, h4, h2⟩, h5, h3⟩) hy
  have e : (Value.slice a n c).cells.toList = [.slice a n c] := rfl
  rw [e] at hcs
  cases hcs
  have hall : ∀ q ∈ rows.map (·.2), q.ok W ∧ (∀ x ∈ q.l, (Lit.int .i64 x).wf = true) ∧ q.c ≤ maxLen := fun q hqm => by
    obtain ⟨r, hr, rfl⟩ := List.mem_map.1 hqm
    exact (hq r hr).2.2
  refine ⟨a, c, rows.map (·.2), by rw [List.length_map], ⟨rows_flatV (fun r hr => (hq r hr).2.1) hrow, fun q hqm => (hall q hqm).1.1⟩, by simpa using hl, hm, hn, fun q hqm => (hall q hqm).1, fun q hqm => (hall q hqm).2.1, fun q hqm => (hall q hqm).2.2⟩
set_option maxRecDepth 100000 in
theorem open_ints_arg {H : Type} {enc : TypeId × Value → H} {W : World} {v : Value} {d : DataW H} {p : List MemPlace} {base : Nat}
    (hv : Value.okWide Try.prog W .any base 22 v) (h : DataW.Trod enc Try.prog W 0 (fun _ => true) true 22 v d p) :
    ∃ (a : Option Addr) (c : Nat) (l : List Int), v = .slice a l.length c ∧ CRow.ok W ⟨a, c, l⟩ ∧ c ≤ maxLen := by
  obtain ⟨a, n, c, rfl⟩ := okWide_slice Try.underlying22 hv
  obtain ⟨fuel, hy⟩ := h
  have e : (Value.slice a n c).cells.toList = [.slice a n c] := rfl
  rw [e] at hy
  obtain ⟨qa, qc, l, hcs, h1, h2, h3, h4, h5⟩ := open_ints_wf hy
  cases hcs
  exact ⟨a, c, l, rfl, ⟨h1, h4, h2⟩, h3⟩
end Go.Proofs.Ytnpiemcfbnpfdaa
