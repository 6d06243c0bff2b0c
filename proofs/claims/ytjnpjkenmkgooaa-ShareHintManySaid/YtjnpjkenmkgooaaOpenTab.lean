/-
  What came in: a table.
-/
import Derived.Test.YtjnpjkenmkgooaaWorks
import Derived.Test.YtjnpjkenmkgooaaOpen2
namespace Go.Proofs.Ytjnpjkenmkgooaa
open Go.ChangeShapes Go.WideShapes Go.ChangeAt Go.RowKit C27
set_option linter.unusedVariables false

theorem open_tab {H : Type} {enc : TypeId × Value → H} {W : World} {v : Value} {d : DataW H} {p : List MemPlace} {base : Nat}
    (hv : Value.okWide Try.prog W .any base 24 v) (h : DataW.Trod enc Try.prog W 0 (fun _ => true) true 24 v d p) :
    ∃ (o a f : Int) (la : Option Addr) (c : Nat) (ls : List Int), v = tblV o a f la ls.length c ∧ (ls.length : Int) ≤ 9223372036854775807 ∧ RowOf W la (ls.map numV) := by
  obtain ⟨cs, rfl, hcs⟩ := okWide_struct Try.underlying24 hv
  have s4 : Try.prog.cellsOf 24 = 4 := by kernel_rfl
  have s0 : Try.prog.cellsOf 3 = 1 := by kernel_rfl
  have s1 : Try.prog.cellsOf 22 = 1 := by kernel_rfl
  rw [s4] at hcs
  obtain ⟨l, rfl⟩ : ∃ l : List Value, cs = l.toArray := ⟨cs.toList, by simp⟩
  simp only [List.size_toArray] at hcs
  match l, hcs with
  | [c0, c1, c2, c3], _ =>
    obtain ⟨fuel, hf⟩ := h
    obtain ⟨xs, n, _, hx, _, hlen, hfs⟩ := DataW.trod_struct Try.underlying24 hf
    have h0 := hfs 0 _ rfl
    have h1 := hfs 1 _ rfl
    have h2 := hfs 2 _ rfl
    have h3 := hfs 3 _ rfl
    simp only [Value.cells, s0, s1, List.drop, List.take] at h0 h1 h2 h3
    match xs, hlen with
    | [y0, y1, y2, y3], _ =>
      simp only [List.getElem?_cons_zero, List.getElem?_cons_succ] at h0 h1 h2 h3
      obtain ⟨o, e0, _, _⟩ := DataW.trod_int Try.underlying3 h0
      obtain ⟨a, e1, _, _⟩ := DataW.trod_int Try.underlying3 h1
      obtain ⟨f, e2, _, _⟩ := DataW.trod_int Try.underlying3 h2
      cases e0
      cases e1
      cases e2
      obtain ⟨la, c, rows, hcs, hl, hm, _, hq, hrow⟩ := open_rows (size := 1) (Q := fun cs (q : Int) => cs = [numV q]) Try.underlying22 s0 (by decide) (fun n cs y hy hlen => by
        match cs, hlen with
        | [z], _ =>
          obtain ⟨x, e, _, _⟩ := DataW.trod_int Try.underlying3 hy
          cases e
          exact ⟨x, rfl⟩) h3
      cases hcs
      exact ⟨o, a, f, la, c, rows.map (·.2), by simp [tblV], by simp; unfold maxLen at hm; omega, row_of_rows (fun r hr => (hq r hr).2) hrow⟩
end Go.Proofs.Ytjnpjkenmkgooaa
