/-
  Bytes that came in.
-/
import Derived.Test.YtkkmppalifjgnaaOpen
import Derived.Test.YtkkmppalifjgnaaOwn
namespace Go.Proofs.Ytkkmppalifjgnaa
open Go.RowKit Go.ChangeShapes Go.WideShapes Go.ChangeAt
set_option linter.unusedVariables false
set_option linter.unusedSimpArgs false

set_option maxRecDepth 100000 in
theorem open_u8s {H : Type} {enc : TypeId × Value → H} {W : World} {v : Value} {d : DataW H} {p : List MemPlace} {base : Nat}
    (hv : Value.okWide Try.prog W .any base 37 v) (h : DataW.Trod enc Try.prog W 0 (fun _ => true) true 37 v d p) :
    ∃ (a : Option Addr) (c : Nat) (l : List Int), v = .slice a l.length c ∧ RowOf W a (l.map fun x => Value.int .u8 x) ∧ l.length ≤ maxLen ∧ ∀ x ∈ l, 0 ≤ x ∧ x ≤ 255 := by
  obtain ⟨a0, n, c0, rfl⟩ := okWide_slice Try.underlying37 hv
  obtain ⟨fuel, hf⟩ := h
  simp only [Value.cells] at hf
  have s1 : Try.prog.cellsOf 5 = 1 := by kernel_rfl
  obtain ⟨a, c, rows, hcs, hl, hm, hn, hq, hrow⟩ := open_rows2 (size := 1) (Q := fun cs (q : Int) => cs = [.int .u8 q] ∧ (Lit.int .u8 q).wf = true) Try.underlying37 s1 (by decide) (fun n' cs y hn' hy hlen => by
    match cs, hlen with
    | [c0], _ =>
      obtain ⟨k, e0, _, hw⟩ := DataW.trod_int Try.underlying5 hy
      exact ⟨k, e0, hw⟩) hf
  cases hcs
  refine ⟨a0, c0, rows.map (·.2), by rw [List.length_map], ?_, by rw [List.length_map]; omega, fun x hx => ?_⟩
  · have e : rows.flatMap (·.1) = (rows.map (·.2)).map (fun x => Value.int .u8 x) := by
      clear hrow hl hm hn hf hv
      induction rows with
      | nil => rfl
      | cons r rows ih =>
        rw [List.flatMap_cons, (hq r (by simp)).2.1, ih (fun q h => hq q (by simp [h]))]
        rfl
    rw [e] at hrow
    exact hrow
  · obtain ⟨r, hr, rfl⟩ := List.mem_map.1 hx
    have := (hq r hr).2.2
    simpa [Lit.wf, IntKind.min, IntKind.max, IntKind.signed, IntKind.bits] using this
end Go.Proofs.Ytkkmppalifjgnaa
