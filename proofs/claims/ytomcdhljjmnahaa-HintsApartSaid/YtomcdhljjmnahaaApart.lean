/-
  Plain: where the bytes of pages and of shared objects lie, of hints that may be.
-/
import Derived.Test.YtomcdhljjmnahaaBackH
namespace Go.Proofs.Ytomcdhljjmnahaa
open Go.RowKit
set_option linter.unusedVariables false
set_option linter.unusedSimpArgs false

theorem others_some {m : Int} : ∀ {l : List Int} {e r : Int}, othersP m e l = some r → r = e + sumL l ∧ (∀ x ∈ l, 1 ≤ x) ∧ (l ≠ [] → 0 ≤ e ∧ e + sumL l ≤ 2147483647 ∧ e + sumL l ≤ m)
  | [], e, r, h => by
    cases h
    exact ⟨by simp [sumL], fun x hx => by (cases hx), fun h => absurd rfl h⟩
  | x :: l, e, r, h => by
    unfold othersP at h
    split at h
    · next hc =>
      obtain ⟨h1, h2, h3⟩ := others_some h
      refine ⟨by rw [h1, sumL]; omega, fun y hy => ?_, fun _ => ?_⟩
      · rcases List.mem_cons.1 hy with rfl | hy
        · exact hc.2.1
        · exact h2 y hy
      · rw [sumL]
        cases l with
        | nil => rw [sumL]; omega
        | cons y l =>
          have := h3 (by simp)
          omega
    · cases h
theorem allPos_of {l : List Int} (h : ∀ x ∈ l, 0 ≤ x) : allPos l = true := by
  unfold allPos
  rw [List.all_eq_true]
  exact fun x hx => decide_eq_true (h x hx)
theorem sumL_ge {l : List Int} (h : ∀ x ∈ l, 1 ≤ x) : 0 ≤ sumL l := sumL_pos (allPos_of (fun x hx => by have := h x hx; omega))
theorem sumL_split (l : List Int) (k : Nat) (hk : k < l.length) : sumL l = sumL (l.take k) + l[k] + sumL (l.drop (k + 1)) := by
  have h1 : l = l.take (k + 1) ++ l.drop (k + 1) := (List.take_append_drop _ _).symm
  have h2 : sumL l = sumL (l.take (k + 1)) + sumL (l.drop (k + 1)) := by rw [← sumL_append, ← h1]
  rw [h2, sumL_take_succ hk]
/-- where the pages ahead of this one end -/
def eP (h : HT) (l : LT) (k : Nat) : Int := l.fe + sumL (((lensP h.ps).take k).drop 1)
theorem apart_own {h : HT} {l : LT} (hc : chkE h l = 0) (k : Nat) (hk : k < h.ps.length) :
    ∃ x : Int × Int, ownP h l k = some x ∧ x.1 < x.2 ∧ (k = 0 → x.2 = l.fe) ∧ (0 < k → x.1 = eP h l k ∧ x.2 ≤ l.main) ∧ x.2 = eP h l (k + 1) := by
  unfold chkE at hc
  have hp : chkP h l = true := by
    by_cases hp : chkP h l = true
    · exact hp
    · rw [if_neg hp] at hc; cases hc
  rw [chk_eq, Bool.and_eq_true, Bool.and_eq_true] at hp
  obtain ⟨⟨_, hf⟩, ho⟩ := hp
  have hll : (lensP h.ps).length = h.ps.length := lensP_len _
  by_cases h0 : k = 0
  · subst h0
    rw [first_eq] at hf
    simp only [Bool.and_eq_true, decide_eq_true_eq] at hf
    obtain ⟨⟨⟨h1, h2⟩, _⟩, _⟩ := hf
    obtain ⟨x, hx⟩ := Option.isSome_iff_exists.1 h1
    rw [hx] at h2
    have h2' : x.2 = l.fe := h2
    have hx2 := hx
    unfold ownP at hx2
    rw [if_pos (by omega), if_pos rfl] at hx2
    obtain ⟨g1, g2, g3, g4⟩ := piece_some hx2
    refine ⟨x, hx, by rw [g4]; simp only; omega, fun _ => h2', fun h => absurd h (Nat.lt_irrefl _), ?_⟩
    rw [h2']
    unfold eP
    rw [show ((lensP h.ps).take (0 + 1)).drop 1 = [] by rw [List.drop_eq_nil_iff]; simp; omega, sumL]
    omega
  · obtain ⟨e, he⟩ : ∃ e, othersP l.main l.fe ((lensP h.ps).drop 1) = some e := by
      cases hO : othersP l.main l.fe ((lensP h.ps).drop 1) with
      | none => rw [hO] at ho; cases ho
      | some e => exact ⟨e, rfl⟩
    obtain ⟨_, h2, h3⟩ := others_some he
    have hne : (lensP h.ps).drop 1 ≠ [] := by
      intro hh
      rw [List.drop_eq_nil_iff] at hh
      omega
    obtain ⟨h4, h5, h6⟩ := h3 hne
    have hk1 : k - 1 < ((lensP h.ps).drop 1).length := by rw [List.length_drop]; omega
    have hsp := sumL_split _ _ hk1
    have hd : ((lensP h.ps).drop 1).take (k - 1) = ((lensP h.ps).take k).drop 1 := by rw [List.drop_take]
    have hd2 : ((lensP h.ps).drop 1).take (k - 1 + 1) = ((lensP h.ps).take (k + 1)).drop 1 := by rw [List.drop_take]; congr 1; omega
    have hg : ((lensP h.ps).drop 1)[k - 1] = (lensP h.ps)[k]'(by omega) := by rw [List.getElem_drop]; congr 1; omega
    have hrest : 0 ≤ sumL (((lensP h.ps).drop 1).drop (k - 1 + 1)) := sumL_ge (fun x hx => h2 x (List.mem_of_mem_drop hx))
    have hmem : ∀ x ∈ ((lensP h.ps).take k).drop 1, 1 ≤ x := fun x hx => h2 x (by rw [← hd] at hx; exact List.mem_of_mem_take hx)
    have hlen1 : 1 ≤ (lensP h.ps)[k]'(by omega) := by rw [← hg]; exact h2 _ (List.getElem_mem hk1)
    have hq : ((lensP h.ps)[((k : Nat) : Int).toNat]?).getD 0 = (lensP h.ps)[k]'(by omega) := by
      rw [show ((k : Nat) : Int).toNat = k from rfl, List.getElem?_eq_getElem (by omega)]; rfl
    rw [hd, hg] at hsp
    have hO : ownP h l k = some (eP h l k, eP h l k + (lensP h.ps)[k]'(by omega)) := by
      unfold ownP
      rw [if_pos (by omega), if_neg (by omega), hq, show ((k : Nat) : Int).toNat = k from rfl]
      unfold pieceP
      have hA : allPos (l.fe :: ((lensP h.ps).take k).drop 1) = true := allPos_of (fun x hx => by
        rcases List.mem_cons.1 hx with rfl | hx
        · exact h4
        · have := hmem x hx; omega)
      have hB : sumL (l.fe :: ((lensP h.ps).take k).drop 1) + (lensP h.ps)[k]'(by omega) ≤ 2147483647 := by rw [sumL]; omega
      rw [if_pos ⟨hA, hlen1, hB⟩]
      rfl
    refine ⟨_, hO, by simp only; omega, fun h => absurd h h0, fun _ => ⟨rfl, ?_⟩, ?_⟩
    · simp only [eP]; omega
    · have h7 := sumL_take_succ hk1
      rw [hd, hd2, hg] at h7
      simp only [eP]
      rw [h7]; omega
/-- where a shared object's bytes begin -/
def gAt (h : HT) (k : Nat) : Int := if (k : Int) < h.sf then h.fa + sumL (h.sh.take k) else h.sa + sumL ((h.sh.take k).drop h.sf.toNat)
theorem apart_group {h : HT} {l : LT} (hc : chkE h l = 0) (k : Nat) (hk : k < h.sh.length) :
    ∃ x : Int × Int, groupP h k = some x ∧ x.1 = gAt h k ∧ ((k : Int) < h.sf → x.2 ≤ l.fe) ∧ (h.sf ≤ (k : Int) → x.2 ≤ l.main) ∧ (((k : Int) + 1 ≠ h.sf) → x.2 = gAt h (k + 1)) ∧ ((k : Int) = h.sf → eP h l h.ps.length ≤ h.sa) := by
  obtain ⟨_, _, c3, c4⟩ := chk_parts hc
  unfold chkE at hc
  have hp : chkP h l = true := by
    by_cases hp : chkP h l = true
    · exact hp
    · rw [if_neg hp] at hc; cases hc
  rw [chk_eq, Bool.and_eq_true, Bool.and_eq_true] at hp
  obtain ⟨⟨ht, hf⟩, ho⟩ := hp
  obtain ⟨⟨sf0, sf1⟩, hpl⟩ := tables_ok ht
  have hT := S27.okT_true.1 c4
  have hpos : ∀ x ∈ h.sh, 1 ≤ x := fun x hx => by
    have h1 := hT.2.2.2.2
    have h2 : S27.odd x = false := by
      by_cases ho : S27.odd x = true
      · exfalso
        have := List.any_eq_true.2 ⟨x, hx, ho⟩
        rw [h1] at this; cases this
      · simpa using ho
    unfold S27.odd at h2
    have := S27.inB_true.1 (by simpa using h2 : S27.inB x 1 2147483647 = true)
    omega
  obtain ⟨f, hfN⟩ : ∃ f : Nat, h.sf = (f : Int) := ⟨h.sf.toNat, by omega⟩
  have hft : h.sf.toNat = f := by omega
  obtain ⟨e, he⟩ : ∃ e, othersP l.main l.fe ((lensP h.ps).drop 1) = some e := by
    cases hO : othersP l.main l.fe ((lensP h.ps).drop 1) with
    | none => rw [hO] at ho; cases ho
    | some e => exact ⟨e, rfl⟩
  rw [he] at ho
  unfold finP at ho
  rw [Bool.and_eq_true] at ho
  have hbe := ho.1
  have hee := (others_some he).1
  have hq : (h.sh[((k : Nat) : Int).toNat]?).getD 0 = h.sh[k] := by
    rw [show ((k : Nat) : Int).toNat = k from rfl, List.getElem?_eq_getElem hk]; rfl
  have hk1 : 1 ≤ h.sh[k] := hpos _ (List.getElem_mem hk)
  by_cases hkf : (k : Int) < h.sf
  · -- one of the first page's
    rw [first_eq] at hf
    simp only [Bool.and_eq_true, decide_eq_true_eq] at hf
    obtain ⟨⟨⟨h1, h2⟩, h3⟩, h4⟩ := hf
    obtain ⟨x, hx⟩ := Option.isSome_iff_exists.1 h1
    rw [hx] at h2
    have h2' : x.2 = l.fe := h2
    unfold ownP at hx
    rw [if_pos (by omega), if_pos rfl] at hx
    obtain ⟨g1, g2, g3, g4⟩ := piece_some hx
    obtain ⟨a1, a2⟩ := addL_ok.1 h3
    rw [addL_val a1 a2] at h4
    have h4' : sumL (h.sh.take f) = (lensP h.ps)[0]?.getD 0 := by rw [← hft]; exact h4
    have hfa : 0 ≤ h.fa := by
      rw [show allPos [h.fa] = decide (0 ≤ h.fa) by simp [allPos]] at g1
      exact of_decide_eq_true g1
    have hs1 : sumL [h.fa] = h.fa := by simp [sumL]
    rw [hs1] at g3 g4
    have hkF : k < (h.sh.take f).length := by rw [List.length_take]; omega
    have hsp := sumL_split _ _ hkF
    rw [List.take_take, Nat.min_eq_left (by omega : k ≤ f), List.getElem_take] at hsp
    have hrest : 0 ≤ sumL ((h.sh.take f).drop (k + 1)) := sumL_ge (fun y hy => hpos y (List.mem_of_mem_take (List.mem_of_mem_drop hy)))
    have hfe : x.2 = h.fa + sumL (h.sh.take f) := by rw [g4, h4']
    have hG : groupP h k = some (h.fa + sumL (h.sh.take k), h.fa + sumL (h.sh.take k) + h.sh[k]) := by
      unfold groupP
      rw [if_pos ⟨by omega, by omega, sf0, sf1⟩, if_neg (by omega), hq, show ((k : Nat) : Int).toNat = k from rfl]
      unfold pieceP
      have hA : allPos (h.fa :: h.sh.take k) = true := allPos_of (fun y hy => by
        rcases List.mem_cons.1 hy with rfl | hy
        · exact hfa
        · have := hpos y (List.mem_of_mem_take hy); omega)
      have hB : sumL (h.fa :: h.sh.take k) + h.sh[k] ≤ 2147483647 := by rw [sumL]; omega
      rw [if_pos ⟨hA, hk1, hB⟩]
      rfl
    refine ⟨_, hG, ?_, fun _ => ?_, fun h => absurd h (by omega), fun hne => ?_, fun h => absurd h (by omega)⟩
    · unfold gAt; rw [if_pos hkf]
    · simp only; omega
    · unfold gAt
      rw [if_pos (by omega), sumL_take_succ hk]
      simp only; omega
  · -- one behind all pages
    have hne : ¬ (h.sh.length : Int) = h.sf := by omega
    rw [behind_eq h l e hne] at hbe
    simp only [Bool.and_eq_true, decide_eq_true_eq] at hbe
    obtain ⟨⟨b1, b2⟩, b3⟩ := hbe
    obtain ⟨z, hz⟩ := Option.isSome_iff_exists.1 b2
    rw [hz] at b3
    have b3' : z.2 ≤ l.main := b3
    obtain ⟨n, hn⟩ : ∃ n, h.sh.length = n + 1 := ⟨h.sh.length - 1, by omega⟩
    have hnI : (h.sh.length : Int) - 1 = (n : Int) := by omega
    rw [hnI] at hz
    have hqn : (h.sh[((n : Nat) : Int).toNat]?).getD 0 = h.sh[n]'(by omega) := by
      rw [show ((n : Nat) : Int).toNat = n from rfl, List.getElem?_eq_getElem (by omega)]; rfl
    unfold groupP at hz
    rw [if_pos ⟨by omega, by omega, sf0, sf1⟩, if_pos (by omega), hqn, show ((n : Nat) : Int).toNat = n from rfl, hft] at hz
    obtain ⟨g1, g2, g3, g4⟩ := piece_some hz
    rw [allPos_cons, Bool.and_eq_true] at g1
    have hsa : 0 ≤ h.sa := of_decide_eq_true g1.1
    have hsum : sumL (h.sa :: (h.sh.take n).drop f) = h.sa + sumL ((h.sh.take n).drop f) := rfl
    have hfk : f ≤ k := by omega
    have hD : (h.sh.take n).drop f ++ [h.sh[n]'(by omega)] = h.sh.drop f := by
      have e1 : h.sh = h.sh.take n ++ [h.sh[n]'(by omega)] := by
        rw [← List.take_succ_eq_append_getElem (by omega), List.take_of_length_le (by omega)]
      conv => rhs; rw [e1]
      rw [List.drop_append_of_le_length (by rw [List.length_take]; omega)]
    have htot : sumL (h.sh.drop f) = sumL ((h.sh.take n).drop f) + h.sh[n]'(by omega) := by
      rw [← hD, sumL_append, sumL, sumL]; omega
    have hkD : k - f < (h.sh.drop f).length := by rw [List.length_drop]; omega
    have hsp := sumL_split _ _ hkD
    have hd : (h.sh.drop f).take (k - f) = (h.sh.take k).drop f := by rw [List.drop_take]
    have hd2 : (h.sh.drop f).take (k - f + 1) = (h.sh.take (k + 1)).drop f := by rw [List.drop_take]; congr 1; omega
    have hg : (h.sh.drop f)[k - f] = h.sh[k] := by rw [List.getElem_drop]; congr 1; omega
    rw [hd, hg] at hsp
    have hrest : 0 ≤ sumL ((h.sh.drop f).drop (k - f + 1)) := sumL_ge (fun y hy => hpos y (List.mem_of_mem_drop (List.mem_of_mem_drop hy)))
    have hG : groupP h k = some (h.sa + sumL ((h.sh.take k).drop f), h.sa + sumL ((h.sh.take k).drop f) + h.sh[k]) := by
      unfold groupP
      rw [if_pos ⟨by omega, by omega, sf0, sf1⟩, if_pos (by omega), hq, show ((k : Nat) : Int).toNat = k from rfl, hft]
      unfold pieceP
      have hA : allPos (h.sa :: (h.sh.take k).drop f) = true := allPos_of (fun y hy => by
        rcases List.mem_cons.1 hy with rfl | hy
        · exact hsa
        · have := hpos y (List.mem_of_mem_take (List.mem_of_mem_drop hy)); omega)
      have hB : sumL (h.sa :: (h.sh.take k).drop f) + h.sh[k] ≤ 2147483647 := by rw [sumL]; rw [hsum] at g3; omega
      rw [if_pos ⟨hA, hk1, hB⟩]
      rfl
    have hz2 : z.2 = h.sa + sumL ((h.sh.take n).drop f) + h.sh[n]'(by omega) := by rw [g4, hsum]
    refine ⟨_, hG, ?_, fun h => absurd h (by omega), fun _ => ?_, fun _ => ?_, fun _ => ?_⟩
    · unfold gAt; rw [if_neg hkf, hft]
    · simp only; omega
    · have h7 := sumL_take_succ hkD
      rw [hd, hd2, hg] at h7
      unfold gAt
      rw [if_neg (by omega), hft, h7]
      simp only; omega
    · rw [hee] at b1
      unfold eP
      rw [List.take_of_length_le (by rw [lensP_len]; exact Nat.le_refl _)]
      exact b1
end Go.Proofs.Ytomcdhljjmnahaa
