import Derived.Test.YtipmbcalnnomjaaGreatViewPlVw
import Derived.Test.YtipmbcalnnomjaaGreatOrderOfVw
import Derived.Test.YtipmbcalnnomjaaGreatTurnPlVw
import Derived.Test.YtipmbcalnnomjaaGreatSqVw
set_option linter.unusedVariables false
set_option linter.unusedSimpArgs false
namespace Go.Proofs.YtipmbcalnnomjaaGreat
open Go.RowKit
def PartsP.perm (p : PartsP) (n : Nat) : List Int := p.new n ++ [((p.main.length + 1 : Nat) : Int), ((p.main.length + p.tree.length + 2 : Nat) : Int)]
mutual
theorem fine_mono {n m : Nat} (h : n ≤ m) : ∀ v : V, v.fine n → v.fine m
 | .mk k x s l, hv => by
   rw [V.fine] at hv ⊢
   exact ⟨fun e => ⟨(hv.1 e).1, by have := (hv.1 e).2.1; omega, (hv.1 e).2.2⟩, hv.2.1, fineL_mono h l hv.2.2⟩
theorem fineL_mono {n m : Nat} (h : n ≤ m) : ∀ l : List V, fineL n l → fineL m l
 | [], _ => by rw [fineL]; trivial
 | v :: l, hv => by
   rw [fineL] at hv ⊢
   exact ⟨fine_mono h v hv.1, fineL_mono h l hv.2⟩
end
mutual
theorem turn_more (tu ex : List Int) : ∀ v : V, v.fine tu.length → v.turn (tu ++ ex) = v.turn tu
 | .mk k n s l, h => by
   have ih := turnL_more tu ex l
   have hf := (fine_eq _ _).1 h
   rw [turn_eq, turn_eq]
   by_cases h8 : (V.mk k n s l).kind = 8
   ·obtain ⟨a, b, _⟩ := hf.1 h8
    rw [if_pos h8, if_pos h8, if_pos (⟨a, by rw [List.length_append]; omega⟩ : 1 ≤ (V.mk k n s l).n ∧ (V.mk k n s l).n ≤ ((tu ++ ex).length : Int)), if_pos (⟨a, b⟩ : 1 ≤ (V.mk k n s l).n ∧ (V.mk k n s l).n ≤ (tu.length : Int))]
    rw [List.getD_eq_getElem?_getD, List.getD_eq_getElem?_getD, List.getElem?_append_left (by omega)]
   ·rw [if_neg h8, if_neg h8]
    split
    ·show V.mk _ _ _ (turnL (tu ++ ex) l) = V.mk _ _ _ (turnL tu l)
     rw [ih (fineL_mem.2 hf.2.2)]
    ·rfl
theorem turnL_more (tu ex : List Int) : ∀ l : List V, fineL tu.length l → turnL (tu ++ ex) l = turnL tu l
 | [], _ => by rw [turnL, turnL]
 | v :: l, h => by
   rw [fineL] at h
   rw [turnL, turnL, turn_more tu ex v h.1, turnL_more tu ex l h.2]
end
section
variable {p : PartsP} {n : Nat}
theorem PartsN.perm_len (h : PartsN p n) : (p.perm n).length = n + 2 := by
 unfold PartsP.perm
 rw [List.length_append, show (p.new n).length = n from toP_len _ _]
 rfl
theorem PartsN.perm_one (h : PartsN p n) : OneTo (p.perm n) := by
 obtain ⟨hu, hb⟩ := h.unlike
 have hnd : (p.perm n).Nodup := by
  unfold PartsP.perm
  rw [List.nodup_append] at hu ⊢
  exact ⟨hu.2.1, hu.1, fun a ha b hb e => hu.2.2 b hb a ha e.symm⟩
 have hl := h.perm_len
 have hs := h.len
 have hin : ∀ x ∈ p.perm n, x ∈ (List.range (p.perm n).length).map (fun k : Nat => (k : Int) + 1) := fun x hx => by
  have hx2 : 1 ≤ x ∧ x ≤ (n : Int) + 2 := by
   unfold PartsP.perm at hx
   rcases List.mem_append.1 hx with hx | hx
   ·exact hb x hx
   ·simp only [List.mem_cons, List.not_mem_nil, or_false] at hx
    rcases hx with rfl | rfl <;> omega
  exact List.mem_map.2 ⟨(x - 1).toNat, List.mem_range.2 (by omega), by omega⟩
 unfold OneTo
 have hr : ((List.range (p.perm n).length).map (fun k : Nat => (k : Int) + 1)).Nodup := range_nodup _
 refine (List.perm_ext_iff_of_nodup hnd hr).2 (fun x => ⟨hin x, fun hx => ?_⟩)
 by_cases hm : x ∈ p.perm n
 ·exact hm
 ·exfalso
  have h1 := nodup_sub (xs := x :: p.perm n) (ys := (List.range (p.perm n).length).map (fun k : Nat => (k : Int) + 1)) (List.nodup_cons.2 ⟨hm, hnd⟩) (fun y hy => by
   rcases List.mem_cons.1 hy with rfl | hy
   ·exact hx
   ·exact hin y hy)
  rw [List.length_cons, List.length_map, List.length_range] at h1
  omega
theorem obAt_idx {l : List Ob} {k : Nat} {o : Ob} (h : l[k]? = some o) : obAt l ((k : Int) + 1) = o := by
 have hk := (List.getElem?_eq_some_iff.1 h).1
 unfold obAt
 rw [if_pos (by omega), show ((k : Int) + 1 - 1).toNat = k by omega, h]
 rfl
theorem obAt_no {l : List Ob} {x : Int} (h : ¬ (1 ≤ x ∧ x ≤ l.length)) : obAt l x = noOb := by unfold obAt; rw [if_neg h]
theorem turned_main (T : Int → Ob) {main head first : List Int} {i : Nat} {x : Int} (h : main[i]? = some x) : (turnedP T main head first)[i]? = some (T x) := by
 have hi := (List.getElem?_eq_some_iff.1 h).1
 unfold turnedP
 simp only [List.append_assoc]
 rw [List.getElem?_append_left (by rw [List.length_map]; exact hi), List.getElem?_map, h]
 rfl
theorem turned_head (T : Int → Ob) {main head first : List Int} {i : Nat} {x : Int} (h : head[i]? = some x) : (turnedP T main head first)[main.length + 1 + i]? = some (T x) := by
 have hi := (List.getElem?_eq_some_iff.1 h).1
 unfold turnedP
 simp only [List.append_assoc]
 rw [List.getElem?_append_right (by rw [List.length_map]; omega), List.length_map, show main.length + 1 + i - main.length = i + 1 by omega, List.singleton_append, List.getElem?_cons_succ]
 rw [List.getElem?_append_left (by rw [List.length_map]; exact hi), List.getElem?_map, h]
 rfl
theorem turned_first (T : Int → Ob) {main head first : List Int} {i : Nat} {x : Int} (h : first[i]? = some x) : (turnedP T main head first)[main.length + 1 + head.length + 1 + i]? = some (T x) := by
 unfold turnedP
 simp only [List.append_assoc]
 rw [List.getElem?_append_right (by rw [List.length_map]; omega), List.length_map, show main.length + 1 + head.length + 1 + i - main.length = (head.length + 1 + i) + 1 by omega, List.singleton_append, List.getElem?_cons_succ]
 rw [List.getElem?_append_right (by rw [List.length_map]; omega), List.length_map, show head.length + 1 + i - head.length = i + 1 by omega, List.singleton_append, List.getElem?_cons_succ, List.getElem?_map, h]
 rfl
theorem turned_lin (T : Int → Ob) (main head first : List Int) : (turnedP T main head first)[main.length]? = some noOb := by
 unfold turnedP
 simp only [List.append_assoc]
 rw [List.getElem?_append_right (by rw [List.length_map]; omega), List.length_map, Nat.sub_self]
 rfl
theorem turned_hint (T : Int → Ob) (main head first : List Int) : (turnedP T main head first)[main.length + 1 + head.length]? = some noOb := by
 unfold turnedP
 simp only [List.append_assoc]
 rw [List.getElem?_append_right (by rw [List.length_map]; omega), List.length_map, show main.length + 1 + head.length - main.length = head.length + 1 by omega, List.singleton_append, List.getElem?_cons_succ]
 rw [List.getElem?_append_right (by rw [List.length_map]; omega), List.length_map, Nat.sub_self]
 rfl
theorem PartsN.renum (h : PartsN p n) {l : List Ob} (hl : l.length = n) (hf : ∀ x, (obAt l x).v.fine n) : Renum (p.perm n) l (turnedP (fun x => turnOb (p.new n) (obAt l x)) p.main p.tree p.first) := by
 have hnl : (p.new n).length = n := toP_len _ _
 have hpl := h.perm_len
 have hs := h.len
 have hT : ∀ x, turnOb (p.perm n) (obAt l x) = turnOb (p.new n) (obAt l x) := fun x => by
  unfold turnOb PartsP.perm
  rw [turn_more _ _ _ (by rw [hnl]; exact hf x)]
 refine ⟨h.perm_one, by rw [hpl]; have := h.few; omega, fun x => ?_, fun x => fine_mono (by rw [hpl]; omega) _ (hf x)⟩
 have hno : ∀ y, ¬ (1 ≤ y ∧ y ≤ (n : Int)) → turnOb (p.perm n) (obAt l y) = noOb := fun y hy => by rw [obAt_no (by rw [hl]; exact hy), turnOb_no]
 by_cases hx : 1 ≤ x ∧ x ≤ (n : Int)
 ·obtain ⟨i, rfl⟩ : ∃ i : Nat, x = (i : Int) + 1 := ⟨(x - 1).toNat, by omega⟩
  have hi : i < n := by omega
  obtain ⟨q, h1, h2, h3⟩ := h.at_ hi
  have hin : i < (p.new n).length := by rw [hnl]; exact hi
  have e : toG (p.perm n) ((i : Int) + 1) = (q.2 : Int) := by
   rw [toG_in (by rw [hpl]; omega)]
   have e2 : (p.perm n)[i]? = some ((q.2 : Nat) : Int) := by
    unfold PartsP.perm
    rw [List.getElem?_append_left hin]
    exact h3
   exact (List.getElem?_eq_some_iff.1 e2).2
  rw [e, hT, ← h2]
  rcases seq_in h1 with ⟨a1, a2, a3⟩ | ⟨a1, a2, a3⟩ | ⟨a1, a2, a3⟩
  ·have := turned_main (fun x => turnOb (p.new n) (obAt l x)) (head := p.tree) (first := p.first) a3
   have e3 := obAt_idx this
   rwa [show ((q.2 - 1 : Nat) : Int) + 1 = (q.2 : Int) by omega] at e3
  ·have := turned_head (fun x => turnOb (p.new n) (obAt l x)) (main := p.main) (first := p.first) a3
   have e3 := obAt_idx this
   rwa [show ((p.main.length + 1 + (q.2 - (p.main.length + 2)) : Nat) : Int) + 1 = (q.2 : Int) by omega] at e3
  ·have := turned_first (fun x => turnOb (p.new n) (obAt l x)) (main := p.main) (head := p.tree) a3
   have e3 := obAt_idx this
   rwa [show ((p.main.length + 1 + p.tree.length + 1 + (q.2 - (p.main.length + p.tree.length + 3)) : Nat) : Int) + 1 = (q.2 : Int) by omega] at e3
 ·rw [hno x hx]
  by_cases h1 : x = (n : Int) + 1
  ·subst h1
   have e : toG (p.perm n) ((n : Int) + 1) = ((p.main.length : Nat) : Int) + 1 := by
    rw [toG_in (by rw [hpl]; omega)]
    have e2 : (p.perm n)[n]? = some ((p.main.length + 1 : Nat) : Int) := by
     unfold PartsP.perm
     rw [List.getElem?_append_right (by rw [hnl]; exact Nat.le_refl _), hnl, Nat.sub_self]
     rfl
    rw [(List.getElem?_eq_some_iff.1 e2).2]
    omega
   rw [e]
   exact obAt_idx (turned_lin _ _ _ _)
  ·by_cases h2 : x = (n : Int) + 2
   ·subst h2
    have e : toG (p.perm n) ((n : Int) + 2) = ((p.main.length + 1 + p.tree.length : Nat) : Int) + 1 := by
     have h0 := @toG_in (p.perm n) (n + 1) (by rw [hpl]; omega)
     rw [show (((n + 1 : Nat) : Int) + 1) = (n : Int) + 2 by omega] at h0
     rw [h0]
     have e2 : (p.perm n)[n + 1]? = some ((p.main.length + p.tree.length + 2 : Nat) : Int) := by
      unfold PartsP.perm
      rw [List.getElem?_append_right (by rw [hnl]; omega), hnl, show n + 1 - n = 1 by omega]
      rfl
     rw [(List.getElem?_eq_some_iff.1 e2).2]
     omega
    rw [e]
    exact obAt_idx (turned_hint _ _ _ _)
   ·have h3 : ¬ (1 ≤ x ∧ x ≤ ((p.perm n).length : Int)) := by rw [hpl]; omega
    rw [toG_out h3]
    exact obAt_no (by rw [turnedP_len, hs]; omega)
end
