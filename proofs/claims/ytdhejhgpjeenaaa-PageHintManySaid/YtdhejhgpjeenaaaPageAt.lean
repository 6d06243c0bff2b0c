/-
  What is read of one page of hints that may be.
-/
import Derived.Test.YtdhejhgpjeenaaaHNat
namespace Go.Proofs.Ytdhejhgpjeenaaa
open Go.RowKit C26
set_option linter.unusedVariables false

/-- one page: where its three cells are, what they say, and its row of shared numbers -/
def PageAt (W : World) (ad : Option Addr) (h : HN) (k : Nat) : Prop :=
  ∃ (b o on ln : Nat) (sa : Option Addr) (sc : Nat) (xs : List Nat), ad = some ⟨b, o, none⟩ ∧ W.cell? ⟨b, o + k * 3, none⟩ = some (.int .i64 on) ∧ W.cell? ⟨b, o + k * 3 + 1, none⟩ = some (.int .i64 ln) ∧ W.cell? ⟨b, o + k * 3 + 2, none⟩ = some (.slice sa xs.length sc) ∧ RowOf W sa (xs.map intV) ∧
    h.os[k]? = some on ∧ h.ls[k]? = some ln ∧ h.shs[k]? = some xs ∧ (1 ≤ on ∧ on ≤ 4096) ∧ (1 ≤ ln ∧ ln ≤ 2147483647) ∧ Hid (∀ x ∈ xs, x ≤ 4095) ∧ xs.length ≤ 3000 ∧ xs.length ≤ sc ∧ (sa = none → sc = 0)
theorem page_at {W : World} {ad : Option Addr} {ps : List PH} {h : HN} {n : Nat} (hW : Hints W ad ps) (hnat : ∀ p ∈ ps, NatP p) (hm : Mod ps) (hh : h = toN ps) (hn : n = ps.length) (k : Nat) (hk : k < n) : PageAt W ad h k := by
  subst hh hn
  obtain ⟨b, o, had, p0, p1, p2⟩ := hW.at k hk
  obtain ⟨on, ln, xs, e0, e1, e2, f0, f1, f2, b0, b1, b2, b3, b4⟩ := toN_at hnat k hk
  have hlen : ps[k].sh.length = xs.length := by rw [e2, List.length_map]
  have h1 := hm.numbers _ (List.getElem_mem hk)
  have h2 := (hW.fit _ (List.getElem_mem hk)).1
  refine ⟨b, o, on, ln, ps[k].sa, ps[k].sc, xs, had, by rw [p0, e0], by rw [p1, e1], by rw [p2, hlen], ?_, f0, f1, f2, ⟨b3, b0⟩, ⟨b4, b1⟩, Lib.hid b2, by omega, by omega, (hW.fit _ (List.getElem_mem hk)).2.2⟩
  have := hW.sub _ (List.getElem_mem hk)
  rw [e2, List.map_map] at this
  exact this
theorem above_at {xs : List Nat} {k x : Nat} (h : xs[k]? = some x) : (HN.above xs)[k]? = some (x - least xs) := by unfold HN.above; rw [List.getElem?_map, h]; rfl
theorem mem_of_at {xs : List Nat} {k x : Nat} (h : xs[k]? = some x) : x ∈ xs := List.mem_of_getElem? h
theorem numsB_take_at {xs : List Nat} {k x w : Nat} (h : xs[k]? = some x) : numsB (xs.take (k + 1)) w = numsB (xs.take k) w ++ bN x w := by
  rw [List.take_add_one, h, numsB_append]; simp [numsB_one]
/-- what a loop over the pages has found -/
structure Acc (h : HN) (k lo hi sh lg ct sd mn : Nat) : Prop where
  lo : lo = (h.os.take k).foldl min (h.os.headD 0)
  hi : hi = (h.os.take k).foldl max (h.os.headD 0)
  sh : sh = (h.ls.take k).foldl min (h.ls.headD 0)
  lg : lg = (h.ls.take k).foldl max (h.ls.headD 0)
  ct : ct = mx (h.counts.take k)
  sd : sd = mx (h.shs.take k).flatten
  mn : mn = (h.shs.take k).flatten.length
theorem mx_at {xs : List Nat} {k x : Nat} (h : xs[k]? = some x) : mx (xs.take (k + 1)) = max (mx (xs.take k)) x := fold_take_succ max 0 xs k x h
theorem Acc.succ {h : HN} {k lo hi sh lg ct sd mn on ln : Nat} {xs : List Nat} {sd' : Nat} (a : Acc h k lo hi sh lg ct sd mn) (e0 : h.os[k]? = some on) (e1 : h.ls[k]? = some ln) (e2 : h.shs[k]? = some xs) (hs : sd' = mx ((h.shs.take k).flatten ++ xs)) :
    Acc h (k + 1) (min lo on) (max hi on) (min sh ln) (max lg ln) (max ct xs.length) sd' (mn + xs.length) :=
  ⟨by rw [fold_take_succ min _ _ k on e0, ← a.lo], by rw [fold_take_succ max _ _ k on e0, ← a.hi], by rw [fold_take_succ min _ _ k ln e1, ← a.sh], by rw [fold_take_succ max _ _ k ln e1, ← a.lg], by rw [mx_at (counts_at e2), ← a.ct], by rw [flat_take_succ e2]; exact hs, by rw [flat_take_succ e2, List.length_append, ← a.mn]⟩
theorem Acc.done {h : HN} {k lo hi sh lg ct sd mn : Nat} (a : Acc h k lo hi sh lg ct sd mn) (ok : h.Ok) (hk : k = h.os.length) : lo = least h.os ∧ hi = most h.os ∧ sh = least h.ls ∧ lg = most h.ls ∧ ct = mx h.counts ∧ sd = mx h.all ∧ mn = h.many := by
  have h1 : h.os ≠ [] := fun e => by have := ok.pos; rw [e] at this; simp at this
  have h2 : h.ls ≠ [] := fun e => by have := ok.pos; have := ok.ll; rw [e] at this; simp at this; omega
  have t1 : h.os.take k = h.os := List.take_of_length_le (by omega)
  have t2 : h.ls.take k = h.ls := List.take_of_length_le (by have := ok.ll; omega)
  have t3 : h.shs.take k = h.shs := List.take_of_length_le (by have := ok.lsh; omega)
  have t4 : h.counts.take k = h.counts := List.take_of_length_le (by have := ok.lsh; unfold HN.counts; rw [List.length_map]; omega)
  have a1 := a.lo; have a2 := a.hi; have a3 := a.sh; have a4 := a.lg; have a5 := a.ct; have a6 := a.sd; have a7 := a.mn
  rw [t1] at a1 a2
  rw [t2] at a3 a4
  rw [t4] at a5
  rw [t3] at a6 a7
  exact ⟨a1.trans (least_fold h1), a2.trans (most_fold h1), a3.trans (least_fold h2), a4.trans (most_fold h2), a5, a6, a7⟩
theorem least_le_most {xs : List Nat} (h : xs ≠ []) : least xs ≤ most xs := by
  cases xs with
  | nil => exact absurd rfl h
  | cons x xs => exact Nat.le_trans (least_le (y := x) (by simp)) (le_most (by simp))
theorem mx_snoc_at {zs xs : List Nat} {j x : Nat} (e : xs[j]? = some x) : mx (zs ++ xs.take (j + 1)) = max (mx (zs ++ xs.take j)) x := by
  rw [List.take_add_one, e, ← List.append_assoc]; exact mx_append _ _
end Go.Proofs.Ytdhejhgpjeenaaa
