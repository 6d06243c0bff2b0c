/-
  A Doc of few objects; a Tree that came in.
-/
import Derived.Test.YtipmbcalnnomjaaDocOk
namespace Go.Proofs.Ytipmbcalnnomjaa
open Go.RowKit
set_option linter.unusedVariables false
set_option linter.unusedSimpArgs false

theorem few_docok {W : World} {F : Nat} {l : List Ob} {oa : Option Addr} {rows : List (List Value)} {root : Int} (h : OKids W F l oa rows) (hw : ∀ u ∈ l, u.data.size ≤ maxLen ∧ u.v.wf) (hr : (Lit.int .i64 root).wf = true) (hf : fewO l 80 = true) :
    DocOk W F l oa rows root := by
  refine ⟨h.mono (Nat.le_succ _), by have := (fewO_in hf).1; omega, fun u hu => ?_, fun u hu => (hw u hu).2, hr⟩
  unfold fewO at hf
  rw [Bool.and_eq_true, List.all_eq_true] at hf
  have h1 := hf.2 u hu
  unfold Ob.few at h1
  rw [Bool.and_eq_true, Bool.and_eq_true] at h1
  have h2 := of_decide_eq_true h1.1.1
  rw [V.few_size _ _ (by omega)] at h2
  split at h2 <;> omega
section
open Go.ChangeShapes Go.WideShapes Go.ChangeAt
set_option maxRecDepth 100000 in
theorem open_ints_wf {H : Type} {enc : TypeId × Value → H} {W : World} {held : Bool} {F : Nat} {cs : List Value} {y : DataW H × List MemPlace} (hy : DataW.trod enc Try.prog W 0 (fun _ => true) held F 22 cs = some y) :
    ∃ (a : Option Addr) (c : Nat) (l : List Int), cs = [.slice a l.length c] ∧ RowOf W a (intsV l) ∧ l.length ≤ c ∧ c ≤ maxLen ∧ (a = none → c = 0) ∧ ∀ x ∈ l, (Lit.int .i64 x).wf = true := by
  have s1 : Try.prog.cellsOf 3 = 1 := by kernel_rfl
  obtain ⟨a, c, rows, hcs, hl, hm, hn, hq, hrow⟩ := open_rows2 (size := 1) (Q := fun cs (q : Int) => cs = [.int .i64 q] ∧ (Lit.int .i64 q).wf = true) Try.underlying22 s1 (by decide) (fun n' cs y hn' hy hlen => by
    match cs, hlen with
    | [c0], _ =>
      obtain ⟨k, e0, _, hw⟩ := DataW.trod_int Try.underlying3 hy
      exact ⟨k, e0, hw⟩) hy
  refine ⟨a, c, rows.map (·.2), by rw [hcs, List.length_map], ?_, by simpa using hl, hm, hn, fun x hx => ?_⟩
  · have e : rows.flatMap (·.1) = intsV (rows.map (·.2)) := by
      clear hrow hl hm hn hcs hy
      induction rows with
      | nil => rfl
      | cons r rows ih =>
        rw [List.flatMap_cons, (hq r (by simp)).2.1, ih (fun q h => hq q (by simp [h]))]
        rfl
    rw [e] at hrow
    exact hrow
  · obtain ⟨r, hr, rfl⟩ := List.mem_map.1 hx
    exact (hq r hr).2.2
end
end Go.Proofs.Ytipmbcalnnomjaa
