/-
  What came in: a row of truths, a row of bytes.
-/
import Derived.Test.YtdhejhgpjeenaaaOpen
import Derived.Test.YtdhejhgpjeenaaaPlain
namespace Go.Proofs.Ytdhejhgpjeenaaa
open Go.ChangeShapes Go.WideShapes Go.ChangeAt Go.RowKit
set_option linter.unusedVariables false

theorem row_of_rows {τ : Type} {W : World} {a : Option Addr} {rows : List (List Value × τ)} {g : τ → Value} (hq : ∀ r ∈ rows, r.1 = [g r.2]) (h : RowOf W a (rows.flatMap (·.1))) : RowOf W a ((rows.map (·.2)).map g) := by
  have : rows.flatMap (·.1) = (rows.map (·.2)).map g := by
    clear h
    induction rows with
    | nil => rfl
    | cons r rows ih => rw [List.flatMap_cons, ih (fun r hr => hq r (by simp [hr])), hq r (by simp)]; rfl
  rw [← this]; exact h
set_option maxRecDepth 100000 in
theorem open_truths {H : Type} {enc : TypeId × Value → H} {W : World} {v : Value} {d : DataW H} {p : List MemPlace} {base : Nat}
    (hv : Value.okWide Try.prog W .any base 79 v) (h : DataW.Trod enc Try.prog W 0 (fun _ => true) true 79 v d p) :
    ∃ (a : Option Addr) (c : Nat) (ls : List Bool), v = .slice a ls.length c ∧ (ls.length : Int) ≤ 9223372036854775807 ∧ RowOf W a (ls.map Value.bool) := by
  obtain ⟨a0, len, cap, rfl⟩ := okWide_slice Try.underlying79 hv
  obtain ⟨fuel, hf⟩ := h
  obtain ⟨a, c, rows, hcs, hl, hm, _, hq, hrow⟩ := open_rows (size := 1) (Q := fun cs (q : Bool) => cs = [Value.bool q]) Try.underlying79 (by kernel_rfl) (by decide) (fun n cs y hy hlen => by
    match cs, hlen with
    | [z], _ =>
      obtain ⟨x, e, _⟩ := DataW.trod_bool Try.underlying4 hy
      cases e
      exact ⟨x, rfl⟩) hf
  simp [Value.cells] at hcs
  obtain ⟨rfl, rfl, rfl⟩ := hcs
  exact ⟨a0, cap, rows.map (·.2), by simp, by simp; unfold maxLen at hm; omega, row_of_rows (fun r hr => (hq r hr).2) hrow⟩
set_option maxRecDepth 100000 in
theorem open_byts {H : Type} {enc : TypeId × Value → H} {W : World} {v : Value} {d : DataW H} {p : List MemPlace} {base : Nat}
    (hv : Value.okWide Try.prog W .any base 25 v) (h : DataW.Trod enc Try.prog W 0 (fun _ => true) true 25 v d p) :
    ∃ (a : Option Addr) (cap : Nat) (l : List UInt8), v = .slice a l.length cap ∧ l.length ≤ cap ∧ (a = none → cap = 0) ∧ Bytes W a l := by
  obtain ⟨a0, len, cap, rfl⟩ := okWide_slice Try.underlying25 hv
  obtain ⟨fuel, hf⟩ := h
  obtain ⟨a, c, rows, hcs, hl, hm, hn, hq, hrow⟩ := open_rows (size := 1) (Q := fun cs (q : UInt8) => cs = [byV q]) Try.underlying25 (by kernel_rfl) (by decide) (fun n cs y hy hlen => by
    obtain ⟨x, e, _, wx⟩ := DataW.trod_int Try.underlying5 hy
    simp [Lit.wf, IntKind.min, IntKind.max, IntKind.signed, IntKind.bits] at wx
    refine ⟨UInt8.ofNat x.toNat, ?_⟩
    rw [e]
    unfold byV
    rw [ofNat_toNat _ (by omega)]
    congr 2
    omega) hf
  simp [Value.cells] at hcs
  obtain ⟨rfl, rfl, rfl⟩ := hcs
  have hmap : rows.flatMap (·.1) = (rows.map (·.2)).map byV := by
    rw [List.map_map]
    clear hl hrow hf hv
    induction rows with
    | nil => rfl
    | cons r rows ih => rw [List.flatMap_cons, List.map_cons, ih (fun r hr => hq r (by simp [hr])), (hq r (by simp)).2]; rfl
  refine ⟨a0, cap, rows.map (·.2), by simp, by simpa using hl, hn, ?_⟩
  have := hmap ▸ hrow
  exact this
end Go.Proofs.Ytdhejhgpjeenaaa
