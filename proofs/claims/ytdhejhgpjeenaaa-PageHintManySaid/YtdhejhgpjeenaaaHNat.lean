/-
  Plain: hints that may be, as naturals.
-/
import Derived.Test.YtdhejhgpjeenaaaTabPlain
namespace Go.Proofs.Ytdhejhgpjeenaaa
open C26
set_option linter.unusedVariables false

def toN (ps : List PH) : HN := ⟨ps.map (fun p => p.o.toNat), ps.map (fun p => p.l.toNat), ps.map (fun p => p.sh.map Int.toNat)⟩
/-- what a page of hints that may be has -/
structure NatP (p : PH) : Prop where
  o : 1 ≤ p.o ∧ p.o ≤ 4096
  l : 1 ≤ p.l ∧ p.l ≤ 2147483647
  sh : ∀ x ∈ p.sh, 0 ≤ x ∧ x ≤ 4095
theorem okP_nat {p : PH} (h : okP p = true) : NatP p := by
  unfold okP at h
  simp only [Bool.and_eq_true, Bool.not_eq_true'] at h
  obtain ⟨⟨h1, h2⟩, h3⟩ := h
  refine ⟨inB_true.1 h2, inB_true.1 h3, fun x hx => ?_⟩
  have := List.any_eq_false.1 h1 x hx
  have h6 : inB x 0 4095 = true := by simpa [odd] using this
  exact inB_true.1 h6
theorem totS_all (ps : List PH) : (toN ps).many = totS ps := by
  unfold HN.many HN.all toN totS
  induction ps with
  | nil => rfl
  | cons p ps ih => simp only [List.map_cons, List.flatten_cons, List.length_append, List.length_map, List.sum_cons] at ih ⊢; omega
theorem toN_os_len (ps : List PH) : (toN ps).os.length = ps.length := by simp [toN]
theorem toN_ls_len (ps : List PH) : (toN ps).ls.length = ps.length := by simp [toN]
theorem toN_shs_len (ps : List PH) : (toN ps).shs.length = ps.length := by simp [toN]
theorem toN_counts_len (ps : List PH) : (toN ps).counts.length = ps.length := by simp [toN, HN.counts]
structure ChkOk (a : Int) (ps : List PH) : Prop where
  a : 0 ≤ a ∧ a ≤ 2147483647
  ok : (toN ps).Ok
  nat : ∀ p ∈ ps, NatP p
theorem chk_ok {a : Int} {ps : List PH} (h : chk a ps = 0) (hm : Mod ps) : ChkOk a ps := by
  unfold chk at h
  split at h
  · next hc =>
    simp only [Bool.and_eq_true] at hc
    obtain ⟨h1, h2, h3⟩ := hc
    have hall : ∀ p ∈ ps, NatP p := fun p hp => okP_nat (List.all_eq_true.1 h3 p hp)
    have hlen := inB_true.1 h2
    have htot : totS ps ≤ 65536 := by
      split at h
      · cases h
      · omega
    refine ⟨inB_true.1 h1, ⟨by rw [toN_os_len]; omega, by rw [toN_os_len]; exact hm.pages, by rw [toN_os_len, toN_ls_len], by rw [toN_os_len, toN_shs_len], ?_, ?_, ?_, by rw [totS_all]; exact htot⟩, hall⟩
    · intro x hx
      obtain ⟨p, hp, rfl⟩ := List.mem_map.1 hx
      have := (hall p hp).o
      omega
    · intro x hx
      obtain ⟨p, hp, rfl⟩ := List.mem_map.1 hx
      have := (hall p hp).l
      omega
    · intro x hx
      obtain ⟨row, hr, hx⟩ := List.mem_flatten.1 hx
      obtain ⟨p, hp, rfl⟩ := List.mem_map.1 hr
      obtain ⟨y, hy, rfl⟩ := List.mem_map.1 hx
      have := (hall p hp).sh y hy
      omega
  · cases h
theorem chk_codes (a : Int) (ps : List PH) : chk a ps = 0 ∨ chk a ps = 2 ∨ chk a ps = 3 := by
  unfold chk; split
  · split
    · exact Or.inr (Or.inr rfl)
    · exact Or.inl rfl
  · exact Or.inr (Or.inl rfl)
/-- the numbers of one page -/
theorem toN_at {ps : List PH} (h : ∀ p ∈ ps, NatP p) (k : Nat) (hk : k < ps.length) : ∃ (o l : Nat) (xs : List Nat), ps[k].o = (o : Int) ∧ ps[k].l = (l : Int) ∧ ps[k].sh = xs.map (fun x : Nat => (x : Int)) ∧ (toN ps).os[k]? = some o ∧ (toN ps).ls[k]? = some l ∧ (toN ps).shs[k]? = some xs ∧ o ≤ 4096 ∧ l ≤ 2147483647 ∧ (∀ x ∈ xs, x ≤ 4095) ∧ 1 ≤ o ∧ 1 ≤ l := by
  have hp := h _ (List.getElem_mem hk)
  refine ⟨ps[k].o.toNat, ps[k].l.toNat, ps[k].sh.map Int.toNat, by have := hp.o; omega, by have := hp.l; omega, ?_, by simp [toN, hk], by simp [toN, hk], by simp [toN, hk], by have := hp.o; omega, by have := hp.l; omega, ?_, by have := hp.o; omega, by have := hp.l; omega⟩
  · rw [List.map_map]
    refine (List.map_id _).symm.trans (List.map_congr_left fun x hx => ?_)
    have := hp.sh x hx
    simp only [id, Function.comp]; omega
  · intro x hx
    obtain ⟨y, hy, rfl⟩ := List.mem_map.1 hx
    have := hp.sh y hy
    omega
theorem least_fold {xs : List Nat} (h : xs ≠ []) : xs.foldl min (xs.headD 0) = least xs := by
  cases xs with
  | nil => exact absurd rfl h
  | cons x xs => simp [least]
theorem most_fold {xs : List Nat} (h : xs ≠ []) : xs.foldl max (xs.headD 0) = most xs := by
  cases xs with
  | nil => exact absurd rfl h
  | cons x xs => simp [most]
theorem fold_take_succ (f : Nat → Nat → Nat) (z : Nat) (xs : List Nat) (k : Nat) (x : Nat) (h : xs[k]? = some x) : (xs.take (k + 1)).foldl f z = f ((xs.take k).foldl f z) x := by
  rw [List.take_add_one, h, List.foldl_append]; rfl
theorem counts_at {h : HN} {k : Nat} {xs : List Nat} (e : h.shs[k]? = some xs) : h.counts[k]? = some xs.length := by unfold HN.counts; rw [List.getElem?_map, e]; rfl
theorem flat_take_succ {shs : List (List Nat)} {k : Nat} {xs : List Nat} (e : shs[k]? = some xs) : (shs.take (k + 1)).flatten = (shs.take k).flatten ++ xs := by
  rw [List.take_add_one, e, List.flatten_append]; simp
end Go.Proofs.Ytdhejhgpjeenaaa
