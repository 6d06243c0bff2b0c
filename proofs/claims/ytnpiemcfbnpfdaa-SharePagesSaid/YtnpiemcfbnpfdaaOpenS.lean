/-
  A Doc of few objects; a Tree that came in.
-/
import Derived.Test.YtnpiemcfbnpfdaaDocOk
namespace Go.Proofs.Ytnpiemcfbnpfdaa
open Go.RowKit
set_option linter.unusedVariables false
set_option linter.unusedSimpArgs false

theorem few_docok {W : World} {F : Nat} {l : List Ob} {oa : Option Addr} {rows : List (List Value)} {root : Int} (h : OKids W F l oa rows) (hw : ∀ u ∈ l, u.data.size ≤ maxLen ∧ u.v.wf) (hr : (Lit.int .i64 root).wf = true) (hf : fewO l 80 = true) :
    DocOk W F l oa rows root := by
  refine ⟨h.mono (Nat.le_succ _), by have := (fewO_in hf).1; omega, fun u hu => ?_, fun u hu => (hw u hu).2, hr⟩
  unfold fewO at hf
  rw [Bool.and_eq_true, List.all_eq_true] at hf
  have h1 := hf.2 u hu
  unfold Ob.few at h1
  rw [Bool.and_eq_true, Bool.and_eq_true] at h1
  have h2 := of_decide_eq_true h1.1.1
  rw [V.few_size _ _ (by omega)] at h2
  split at h2 <;> omega
section
open Go.ChangeShapes Go.WideShapes Go.ChangeAt
set_option maxRecDepth 100000 in
theorem open_ints_wf {H : Type} {enc : TypeId × Value → H} {W : World} {held : Bool} {F : Nat} {cs : List Value} {y : DataW H × List MemPlace} (hy : DataW.trod enc Try.prog W 0 (fun _ => true) held F 22 cs = some y) :
    ∃ (a : Option Addr) (c : Nat) (l : List Int), cs = [.slice a l.length c] ∧ RowOf W a (intsV l) ∧ l.length ≤ c ∧ c ≤ maxLen ∧ (a = none → c = 0) ∧ ∀ x ∈ l, (Lit.int .i64 x).wf = true := by
  have s1 : Try.prog.cellsOf 3 = 1 := by kernel_rfl
  obtain ⟨a, c, rows, hcs, hl, hm, hn, hq, hrow⟩ := open_rows2 (size := 1) (Q := fun cs (q : Int) => cs = [.int .i64 q] ∧ (Lit.int .i64 q).wf = true) Try.underlying22 s1 (by decide) (fun n' cs y hn' hy hlen => by
    match cs, hlen with
    | [c0], _ =>
      obtain ⟨k, e0, _, hw⟩ := DataW.trod_int Try.underlying3 hy
      exact ⟨k, e0, hw⟩) hy
  refine ⟨a, c, rows.map (·.2), by rw [hcs, List.length_map], ?_, by simpa using hl, hm, hn, fun x hx => ?_⟩
  · have e : rows.flatMap (·.1) = intsV (rows.map (·.2)) := by
      clear hrow hl hm hn hcs hy
      induction rows with
      | nil => rfl
      | cons r rows ih =>
        rw [List.flatMap_cons, (hq r (by simp)).2.1, ih (fun q h => hq q (by simp [h]))]
        rfl
    rw [e] at hrow
    exact hrow
  · obtain ⟨r, hr, rfl⟩ := List.mem_map.1 hx
    exact (hq r hr).2.2
set_option maxRecDepth 100000 in
/-- a Tree that came in -/
theorem open_tree {H : Type} {enc : TypeId × Value → H} {W : World} {v : Value} {d : DataW H} {p : List MemPlace} {base : Nat}
    (hv : Value.okWide Try.prog W .any base 32 v) (h : DataW.Trod enc Try.prog W 0 (fun _ => true) true 32 v d p) :
    ∃ (a1 a2 : Option Addr) (x1 x2 : Nat) (l1 l2 : List Int), v = .agg #[.slice a1 l1.length x1, .slice a2 l2.length x2] ∧ (RowOf W a1 (intsV l1) ∧ l1.length ≤ x1 ∧ x1 ≤ maxLen ∧ (a1 = none → x1 = 0) ∧ ∀ x ∈ l1, (Lit.int .i64 x).wf = true) ∧ (RowOf W a2 (intsV l2) ∧ l2.length ≤ x2 ∧ x2 ≤ maxLen ∧ (a2 = none → x2 = 0) ∧ ∀ x ∈ l2, (Lit.int .i64 x).wf = true) := by
  obtain ⟨cs, rfl, hcs⟩ := okWide_struct Try.underlying32 hv
  have s2 : Try.prog.cellsOf 32 = 2 := by kernel_rfl
  have s0 : Try.prog.cellsOf 22 = 1 := by kernel_rfl
  rw [s2] at hcs
  obtain ⟨fuel, hy⟩ := h
  simp only [Value.cells] at hy hcs
  obtain ⟨l, rfl⟩ : ∃ l : List Value, cs = l.toArray := ⟨cs.toList, by simp⟩
  have hlen : l.length = 2 := by simpa using hcs
  simp only [List.toList_toArray] at hy
  match l, hlen with
  | [c0, c1], _ =>
    obtain ⟨xs, n, hF, hx, _, hl4, hfs⟩ := DataW.trod_struct Try.underlying32 hy
    have h0 : DataW.trod enc Try.prog W 0 (fun _ => true) true n 22 (([c0, c1].drop 0).take (Try.prog.cellsOf 22)) = xs[0]? := hfs 0 _ rfl
    have h1 : DataW.trod enc Try.prog W 0 (fun _ => true) true n 22 (([c0, c1].drop 1).take (Try.prog.cellsOf 22)) = xs[1]? := hfs 1 _ rfl
    rw [s0] at h0 h1
    simp only [List.drop, List.take] at h0 h1
    match xs, hl4 with
    | [y0, y1], _ =>
      simp only [List.getElem?_cons_zero, List.getElem?_cons_succ] at h0 h1
      obtain ⟨a1, x1, l1, e1, g1⟩ := open_ints_wf h0
      obtain ⟨a2, x2, l2, e2, g2⟩ := open_ints_wf h1
      cases e1
      cases e2
      exact ⟨a1, a2, x1, x2, l1, l2, rfl, g1, g2⟩
end
end Go.Proofs.Ytnpiemcfbnpfdaa
