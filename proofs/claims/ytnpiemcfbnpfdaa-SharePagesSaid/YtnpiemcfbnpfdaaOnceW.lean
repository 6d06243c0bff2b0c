/-
  For the laws on Docs: parts opened, numbers met.
-/
import Derived.Test.YtnpiemcfbnpfdaaSplitD
import Derived.Test.YtnpiemcfbnpfdaaWorks24
import Derived.Deep.OwnRows
namespace Go.Proofs.Ytnpiemcfbnpfdaa
open Go.RowKit
set_option linter.unusedVariables false
set_option linter.unusedSimpArgs false

theorem PAt.opened {p : PartsP} {a0 a1 a2 a3 a4 : Option Addr} {n0 n1 n2 n3 n4 c0 c1 c2 c3 c4 : Nat} {W : World} (h : PAt p (.slice a0 n0 c0) (.slice a1 n1 c1) (.slice a2 n2 c2) (.slice a3 n3 c3) (.slice a4 n4 c4) W) :
    (n0 = p.tree.length ∧ CRow.ok W ⟨a0, c0, p.tree⟩) ∧ (n1 = p.first.length ∧ CRow.ok W ⟨a1, c1, p.first⟩) ∧ (∃ rs : List CRow, n2 = rs.length ∧ lsR rs = p.own ∧ Rws W a2 rs ∧ ∀ q ∈ rs, q.ok W) ∧ (n3 = p.shared.length ∧ CRow.ok W ⟨a3, c3, p.shared⟩) ∧ (n4 = p.others.length ∧ CRow.ok W ⟨a4, c4, p.others⟩) := by
  obtain ⟨⟨ta, tc, tl⟩, ⟨fa, fc, fl⟩, ⟨sa, sc, sl⟩, ⟨ha, hc, hl⟩, a, c, rs, H, e0, e1, e2, e3, e4⟩ := h
  obtain rfl : tl = p.tree := H.lt
  obtain rfl : fl = p.first := H.lf
  obtain rfl : sl = p.shared := H.ls
  obtain rfl : hl = p.others := H.lh
  cases e0
  cases e1
  cases e2
  cases e3
  cases e4
  exact ⟨⟨rfl, H.t⟩, ⟨rfl, H.f⟩, ⟨rs, rfl, H.lo, H.o, H.oq⟩, ⟨rfl, H.s⟩, ⟨rfl, H.h⟩⟩
theorem CRow.ok.app {a : Option Addr} {c n : Nat} {l : List Int} {W : World} (h : CRow.ok W ⟨a, c, l⟩) (hn : n = l.length) : (a = none → n = 0 ∧ c = 0) ∧ (intsV l).length = n * 1 ∧ (∀ u ∈ intsV l, u.oneCell' = true) := by
  refine ⟨fun e => ?_, by rw [intsV_len, hn]; omega, fun u hu => ?_⟩
  · have h1 := h.2.1 e
    have h2 := h.2.2
    simp only at h1 h2
    exact ⟨by omega, h1⟩
  · obtain ⟨x, _, rfl⟩ := List.mem_map.1 hu
    rfl
/-- which numbers have been met -/
def metP (n : Nat) (xs : List Int) : List Int := (List.range n).map fun i : Nat => if ((i : Int) + 1) ∈ xs then 1 else 0
theorem metP_len (n : Nat) (xs : List Int) : (metP n xs).length = n := by unfold metP; rw [List.length_map, List.length_range]
theorem metP_get {n : Nat} {xs : List Int} {i : Nat} (hi : i < n) : (metP n xs)[i]? = some (if ((i : Int) + 1) ∈ xs then 1 else 0) := by
  unfold metP
  rw [List.getElem?_map, List.getElem?_range hi]
  rfl
theorem metP_nil (n : Nat) : metP n [] = List.replicate n 0 := by
  apply List.ext_getElem?
  intro i
  by_cases hi : i < n
  · rw [metP_get hi, List.getElem?_replicate, if_pos hi, if_neg (by simp)]
  · rw [List.getElem?_eq_none (by rw [metP_len]; omega), List.getElem?_eq_none (by rw [List.length_replicate]; omega)]
theorem metP_set {n y : Nat} (xs : List Int) (hy : y < n) : (metP n xs).set y 1 = metP n (xs ++ [(y : Int) + 1]) := by
  apply List.ext_getElem?
  intro i
  by_cases hi : i < n
  · rw [metP_get hi]
    by_cases e : y = i
    · subst e
      rw [List.getElem?_set_self (by rw [metP_len]; exact hy), if_pos (by simp)]
    · rw [List.getElem?_set_ne e, metP_get hi]
      congr 1
      have : ((i : Int) + 1) ∈ xs ++ [(y : Int) + 1] ↔ ((i : Int) + 1) ∈ xs := by
        rw [List.mem_append, List.mem_singleton]
        exact ⟨fun h => h.resolve_right (by omega), Or.inl⟩
      simp only [this]
  · rw [List.getElem?_eq_none (by rw [List.length_set, metP_len]; omega), List.getElem?_eq_none (by rw [metP_len]; omega)]
theorem rep_ints (n : Nat) (T : TypeId) (w : World) : w.alloc (.cells (madeCells #[.int .i64 0] n) T) = w.alloc (.cells (intsV (List.replicate n 0)).toArray T) := by
  refine congrArg (fun c => w.alloc (.cells c T)) ?_
  apply Array.ext'
  apply List.ext_getElem?
  intro j
  by_cases hj : j < n
  · simp [madeCells, intsV, hj, Nat.mod_one]
  · rw [List.getElem?_eq_none (by simp [madeCells]; omega), List.getElem?_eq_none (by simp [intsV]; omega)]
theorem own_le {w : World} {B e s n c : Nat} {a : Option Addr} {xs : List Value} (h : w.ownsRow B e s (.slice a n c) n xs) : n ≤ maxLen := by
  rcases h.2 with ⟨_, h1⟩ | ⟨g, cap, cur, _, _, _, h1, h2, _⟩
  · omega
  · omega
theorem few_sizes {l : List Ob} (hf : fewO l 80 = true) (n : Int) : (obAt l n).v.size ≤ 300 := by
  rcases obAt_cases l n with h | h
  · unfold fewO at hf
    rw [Bool.and_eq_true, List.all_eq_true] at hf
    have h1 := hf.2 _ h
    unfold Ob.few at h1
    rw [Bool.and_eq_true, Bool.and_eq_true] at h1
    have h2 := of_decide_eq_true h1.1.1
    rw [V.few_size _ _ (by omega)] at h2
    split at h2 <;> omega
  · rw [h]
    decide +kernel
end Go.Proofs.Ytnpiemcfbnpfdaa
