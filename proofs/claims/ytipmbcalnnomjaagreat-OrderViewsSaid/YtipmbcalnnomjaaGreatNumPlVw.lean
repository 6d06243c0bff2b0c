import Derived.Test.YtipmbcalnnomjaaGreatDocPlVw
import Derived.Test.YtipmbcalnnomjaaGreatLiesInVw
import Derived.Test.YtipmbcalnnomjaaGreatMakesVw
import Derived.Test.YtipmbcalnnomjaaGreatDocOkVw
import Derived.Test.YtipmbcalnnomjaaGreatSqVw
set_option linter.unusedVariables false
set_option linter.unusedSimpArgs false
namespace Go.Proofs.YtipmbcalnnomjaaGreat
open Go.RowKit
theorem mem_turn {g : Int → Int} (hg : ∀ x y, g x = g y → x = y) (l : List Int) (x : Int) : g x ∈ l.map g ↔ x ∈ l := by
 rw [List.mem_map]
 exact ⟨fun ⟨y, hy, e⟩ => hg _ _ e ▸ hy, fun h => ⟨x, h, rfl⟩⟩
mutual
def V.turn (to : List Int) : V → V
 | .mk k n s l => if k = 8 then (if 1 ≤ n ∧ n ≤ to.length then refV (to.getD (n - 1).toNat 0) else nullV) else if (k == 6 || k == 7) = true then .mk k n s (turnL to l) else .mk k n s l
def turnL (to : List Int) : List V → List V
 | [] => []
 | v :: l => v.turn to :: turnL to l
end
theorem turn_eq (to : List Int) (v : V) : v.turn to = if v.kind = 8 then (if 1 ≤ v.n ∧ v.n ≤ to.length then refV (to.getD (v.n - 1).toNat 0) else nullV) else if v.holds = true then .mk v.kind v.n v.s (turnL to v.l) else v := by
 cases v; rw [V.turn]; rfl
theorem turnL_len (to : List Int) (l : List V) : (turnL to l).length = l.length := by
 induction l with
 | nil => simp [turnL]
 | cons u l ih => rw [turnL, List.length_cons, List.length_cons, ih]
theorem turnL_snoc (to : List Int) (l : List V) (u : V) : turnL to (l ++ [u]) = turnL to l ++ [u.turn to] := by
 induction l with
 | nil => simp [turnL]
 | cons x l ih => rw [List.cons_append, turnL, turnL, ih]; rfl
mutual
theorem V.turn_size (to : List Int) : ∀ v : V, (v.turn to).size ≤ v.size
 | .mk k n s l => by
   rw [V.turn]
   have h1 : nullV.size = 1 := by rw [size_eq]; rfl
   have h2 : ∀ x, (refV x).size = 1 := fun x => by rw [size_eq]; rfl
   split
   ·split
    ·rw [h2]; simp [V.size]
    ·rw [h1]; simp [V.size]
   ·split
    ·simp only [V.size]; have := turnL_size to l; omega
    ·exact Nat.le_refl _
theorem turnL_size (to : List Int) : ∀ l : List V, sizeL (turnL to l) ≤ sizeL l
 | [] => by simp [turnL]
 | v :: l => by
   rw [turnL, sizeL, sizeL]
   have := V.turn_size to v
   have := turnL_size to l
   omega
end
def MapTo (w0 : World) (d : Nat) (u : V) (w : World) (e : Ending) (w' : World) : Prop :=
 ∃ cs', e = .returned (.agg cs'.toArray) ∧ LiesIn (fun b => b < w0.heap.size ∨ w.heap.size ≤ b) w' d u cs' ∧ Pure w w'
mutual
def V.fine (n : Nat) : V → Prop
 | .mk k x s l => (k = 8 → 1 ≤ x ∧ x ≤ n ∧ s = ⟨#[]⟩) ∧ ((k == 6 || k == 7) = false → l = []) ∧ fineL n l
def fineL (n : Nat) : List V → Prop
 | [] => True
 | v :: l => v.fine n ∧ fineL n l
end
theorem fineL_mem {n : Nat} {l : List V} : fineL n l ↔ ∀ u ∈ l, u.fine n := by
 induction l with
 | nil => simp [fineL]
 | cons v l ih => rw [fineL, ih]; simp
theorem fine_eq (n : Nat) (v : V) : v.fine n ↔ (v.kind = 8 → 1 ≤ v.n ∧ v.n ≤ n ∧ v.s = ⟨#[]⟩) ∧ (v.holds = false → v.l = []) ∧ ∀ u ∈ v.l, u.fine n := by
 cases v; rw [V.fine, fineL_mem]; rfl
theorem fine_null (n : Nat) : nullV.fine n := by
 rw [fine_eq]
 exact ⟨fun h => absurd h (by decide), fun _ => rfl, fun u hu => by cases hu⟩
theorem fine_get {n : Nat} {v : V} (h : v.fine n) (key : ByteArray) : (v.get key).1.fine n := by
 rcases get_mem v key with hm | e
 ·exact ((fine_eq n v).1 h).2.2 _ hm
 ·rw [e]; exact fine_null n
def toG (to : List Int) (x : Int) : Int := if 1 ≤ x ∧ x ≤ to.length then to.getD (x - 1).toNat 0 else x
theorem turnL_map (to : List Int) (l : List V) : turnL to l = l.map (V.turn to) := by
 induction l with
 | nil => simp [turnL]
 | cons v l ih => rw [turnL, ih]; rfl
theorem turn_fine {to : List Int} {v : V} (h : v.fine to.length) : v.turn to = .mk v.kind (if v.kind = 8 then toG to v.n else v.n) v.s (v.l.map (V.turn to)) := by
 obtain ⟨h1, h2, _⟩ := (fine_eq _ v).1 h
 rw [turn_eq]
 by_cases h8 : v.kind = 8
 ·obtain ⟨a, b, c⟩ := h1 h8
  have hl : v.l = [] := h2 (by simp [V.holds, h8])
  rw [if_pos h8, if_pos h8, if_pos ⟨a, b⟩, hl, c, h8]
  unfold toG
  rw [if_pos ⟨a, b⟩]
  rfl
 ·rw [if_neg h8, if_neg h8]
  by_cases hh : v.holds = true
  ·rw [if_pos hh, turnL_map]
  ·rw [if_neg hh, h2 (by simpa using hh)]
   obtain ⟨k, n, s, l⟩ := v
   have hl : l = [] := h2 (by simpa using hh)
   subst hl
   rfl
theorem turn_kind {to : List Int} {v : V} (h : v.fine to.length) : (v.turn to).kind = v.kind := by rw [turn_fine h]; rfl
theorem turn_s {to : List Int} {v : V} (h : v.fine to.length) : (v.turn to).s = v.s := by rw [turn_fine h]; rfl
theorem turn_l {to : List Int} {v : V} (h : v.fine to.length) : (v.turn to).l = v.l.map (V.turn to) := by rw [turn_fine h]; rfl
theorem turn_n {to : List Int} {v : V} (h : v.fine to.length) : (v.turn to).n = if v.kind = 8 then toG to v.n else v.n := by rw [turn_fine h]; rfl
theorem turn_null (to : List Int) : nullV.turn to = nullV := by
 rw [turn_eq, if_neg (show ¬ nullV.kind = 8 by decide), if_neg (show ¬ nullV.holds = true by decide)]
theorem nextP_map (f : V → V) (p : V → Bool) : ∀ (l : List V), (∀ u ∈ l, p (f u) = p u) → nextP p (l.map f) = nextP p l
 | [], _ => rfl
 | [u], h => by
   show (if p (f u) = true then some 0 else none) = if p u = true then some 0 else none
   rw [h u (by simp)]
 | u :: v :: l, h => by
   show (if p (f u) = true then some 0 else (nextP p (l.map f)).map (· + 2)) = if p u = true then some 0 else (nextP p l).map (· + 2)
   rw [h u (by simp), nextP_map f p l (fun x hx => h x (by simp [hx]))]
theorem find_turn {to : List Int} {v : V} (h : v.fine to.length) (key : ByteArray) : (v.turn to).find key = v.find key := by
 unfold V.find
 rw [turn_kind h, turn_l h]
 rw [nextP_map]
 intro u hu
 have hf := ((fine_eq _ v).1 h).2.2 u hu
 unfold hit
 rw [turn_kind hf, turn_s hf]
theorem get_turn {to : List Int} {v : V} (h : v.fine to.length) (key : ByteArray) : (v.turn to).get key = ((v.get key).1.turn to, (v.get key).2) := by
 unfold V.get
 rw [find_turn h]
 cases v.find key with
 | none => show (nullV, false) = (nullV.turn to, false); rw [turn_null]
 | some i =>
   show ((v.turn to).l[i + 1]?.getD nullV, true) = ((v.l[i + 1]?.getD nullV).turn to, true)
   rw [turn_l h, List.getElem?_map]
   cases v.l[i + 1]? with
   | none => show (nullV, true) = (nullV.turn to, true); rw [turn_null]
   | some u => rfl
def turnOb (to : List Int) (o : Ob) : Ob := ⟨o.v.turn to, o.st, o.data⟩
theorem turnOb_no (to : List Int) : turnOb to noOb = noOb := by
 unfold turnOb noOb
 rw [turn_null]
theorem typed_turn {to : List Int} {o : Ob} (h : o.v.fine to.length) (t : ByteArray) : typedO (turnOb to o) t = typedO o t := by
 unfold typedO
 show (!o.st && decide (((o.v.turn to).get "Type".toUTF8).1.kind = 5) && decide (((o.v.turn to).get "Type".toUTF8).1.s = t)) = _
 rw [get_turn h, turn_kind (fine_get h _), turn_s (fine_get h _)]
theorem node_turn {to : List Int} {o : Ob} (h : o.v.fine to.length) : nodeO (turnOb to o) = (nodeO o).map fun p => (p.1.map (toG to), p.2) := by
 have hK := fine_get h "Kids".toUTF8
 have hC := fine_get h "Count".toUTF8
 have e1 : ((turnOb to o).v.get "Kids".toUTF8).1 = (o.v.get "Kids".toUTF8).1.turn to := by show ((o.v.turn to).get _).1 = _; rw [get_turn h]
 have e2 : ((turnOb to o).v.get "Count".toUTF8).1 = (o.v.get "Count".toUTF8).1.turn to := by show ((o.v.turn to).get _).1 = _; rw [get_turn h]
 unfold nodeO
 rw [typed_turn h, e1, e2, turn_kind hK, turn_l hK, turn_kind hC, turn_n hC]
 generalize (o.v.get "Kids".toUTF8).1 = K at *
 generalize (o.v.get "Count".toUTF8).1 = C at *
 have hKm := ((fine_eq _ K).1 hK).2.2
 have ha : (K.l.map (V.turn to)).all (fun k => decide (k.kind = 8)) = K.l.all (fun k => decide (k.kind = 8)) := by
  rw [Bool.eq_iff_iff, List.all_eq_true, List.all_eq_true]
  constructor
  ·intro hh x hx
   have := hh _ (List.mem_map_of_mem hx)
   rwa [turn_kind (hKm x hx)] at this
  ·intro hh y hy
   obtain ⟨x, hx, rfl⟩ := List.mem_map.1 hy
   rw [turn_kind (hKm x hx)]
   exact hh x hx
 have hne : (K.l.map (V.turn to) ≠ []) ↔ K.l ≠ [] := by simp
 rw [ha, List.length_map]
 simp only [hne]
 by_cases h2 : C.kind = 2
 ·rw [if_neg (show ¬ C.kind = 8 by omega)]
  split
  ·rename_i hc
   simp only [Bool.and_eq_true, decide_eq_true_eq] at hc
   obtain ⟨⟨⟨⟨⟨⟨_, _⟩, _⟩, _⟩, hall⟩, _⟩, _⟩ := hc
   show _ = some ((K.l.map V.n).map (toG to), C.n)
   refine congrArg (fun z => some (z, C.n)) ?_
   rw [List.map_map, List.map_map]
   refine List.map_congr_left fun u hu => ?_
   have h8 : u.kind = 8 := of_decide_eq_true (List.all_eq_true.1 hall u hu)
   show (u.turn to).n = toG to u.n
   rw [turn_n (hKm u hu), if_pos h8]
  ·rfl
 ·simp [h2]
def OneTo (to : List Int) : Prop := to.Perm ((List.range to.length).map fun (k : Nat) => (k : Int) + 1)
theorem OneTo.nodup {to : List Int} (h : OneTo to) : to.Nodup := by
 refine (List.Perm.nodup_iff h).2 ?_
 rw [List.nodup_iff_pairwise_ne, List.pairwise_map]
 exact List.Pairwise.imp (fun hab e => hab (by omega)) (List.nodup_iff_pairwise_ne.1 List.nodup_range)
theorem OneTo.mem {to : List Int} (h : OneTo to) (x : Int) : x ∈ to ↔ 1 ≤ x ∧ x ≤ to.length := by
 rw [h.mem_iff, List.mem_map]
 constructor
 ·rintro ⟨k, hk, rfl⟩
  have := List.mem_range.1 hk
  omega
 ·intro hx
  exact ⟨(x - 1).toNat, List.mem_range.2 (by omega), by omega⟩
theorem toG_in {to : List Int} {k : Nat} (hk : k < to.length) : toG to ((k : Int) + 1) = to[k] := by
 unfold toG
 rw [if_pos (by omega), show ((k : Int) + 1 - 1).toNat = k by omega, List.getD_eq_getElem?_getD, List.getElem?_eq_getElem hk]
 rfl
theorem toG_range {to : List Int} (h : OneTo to) {x : Int} (hx : 1 ≤ x ∧ x ≤ to.length) : 1 ≤ toG to x ∧ toG to x ≤ to.length := by
 obtain ⟨k, rfl⟩ : ∃ k : Nat, x = (k : Int) + 1 := ⟨(x - 1).toNat, by omega⟩
 rw [toG_in (by omega)]
 exact (h.mem _).1 (List.getElem_mem _)
theorem toG_out {to : List Int} {x : Int} (hx : ¬ (1 ≤ x ∧ x ≤ to.length)) : toG to x = x := by unfold toG; rw [if_neg hx]
theorem toG_inj {to : List Int} (h : OneTo to) (x y : Int) (e : toG to x = toG to y) : x = y := by
 by_cases hx : 1 ≤ x ∧ x ≤ to.length
 ·by_cases hy : 1 ≤ y ∧ y ≤ to.length
  ·obtain ⟨k, rfl⟩ : ∃ k : Nat, x = (k : Int) + 1 := ⟨(x - 1).toNat, by omega⟩
   obtain ⟨j, rfl⟩ : ∃ k : Nat, y = (k : Int) + 1 := ⟨(y - 1).toNat, by omega⟩
   have hk : k < to.length := by omega
   have hj : j < to.length := by omega
   rw [toG_in hk, toG_in hj] at e
   have : k = j := (List.getElem?_inj hk h.nodup).1 (by rw [List.getElem?_eq_getElem hk, List.getElem?_eq_getElem hj, e])
   omega
  ·have := toG_range h hx
   rw [e, toG_out hy] at this
   exact absurd this hy
 ·by_cases hy : 1 ≤ y ∧ y ≤ to.length
  ·have := toG_range h hy
   rw [← e, toG_out hx] at this
   exact absurd this hx
  ·rwa [toG_out hx, toG_out hy] at e
mutual
def V.refs : V → List Int
 | .mk k n _ l => if k = 8 then [n] else if (k == 6 || k == 7) = true then refsL l else []
def refsL : List V → List Int
 | [] => []
 | v :: l => v.refs ++ refsL l
end
theorem refs_eq (v : V) : v.refs = if v.kind = 8 then [v.n] else if v.holds = true then refsL v.l else [] := by cases v; rw [V.refs]; rfl
mutual
theorem mem_more (x : Int) : ∀ (v : V) (S : List Int), x ∈ v.more S ↔ x ∈ S ∨ x ∈ v.refs
 | .mk k n s l, S => by
   rw [V.more, V.refs]
   by_cases h8 : k = 8
   ·subst h8
    by_cases hc : S.contains n = false
    ·rw [if_pos ⟨rfl, hc⟩, if_pos rfl, List.mem_append]
    ·have hm : n ∈ S := by simpa using hc
     rw [if_neg (fun h => hc h.2), if_neg (by decide), if_pos rfl, List.mem_singleton]
     exact ⟨Or.inl, fun h => h.elim id (fun e => e ▸ hm)⟩
   ·rw [if_neg (fun h => h8 h.1), if_neg h8]
    split
    ·exact mem_moreL x l S
    ·simp
theorem mem_moreL (x : Int) : ∀ (l : List V) (S : List Int), x ∈ moreL l S ↔ x ∈ S ∨ x ∈ refsL l
 | [], S => by rw [moreL, refsL]; simp
 | v :: l, S => by rw [moreL, refsL, mem_moreL x l, mem_more x v, List.mem_append, or_assoc]
end
theorem mem_more0 (x : Int) (v : V) : x ∈ v.more [] ↔ x ∈ v.refs := by rw [mem_more]; simp
theorem find_kind {v : V} {key : ByteArray} {i : Nat} (h : v.find key = some i) : v.kind = 7 := by
 unfold V.find at h
 by_cases h7 : v.kind = 7
 ·exact h7
 ·rw [if_neg h7] at h; cases h
theorem fine_dropped {n : Nat} {v : V} (h : v.fine n) (key : ByteArray) : (v.dropped key).fine n := by
 unfold V.dropped
 split
 ·rename_i i hi
  have h7 := find_kind hi
  rw [fine_eq]
  refine ⟨fun e => ?_, fun e => ?_, fun u hu => ?_⟩
  ·have e2 : v.kind = 8 := e
   omega
  ·have e2 : (v.kind == 6 || v.kind == 7) = false := e
   simp [h7] at e2
  ·refine ((fine_eq n v).1 h).2.2 u ?_
   rcases List.mem_append.1 hu with hu | hu
   ·exact List.mem_of_mem_take hu
   ·exact List.mem_of_mem_drop hu
 ·exact h
theorem dropped_turn {to : List Int} {v : V} (h : v.fine to.length) (key : ByteArray) : (v.turn to).dropped key = (v.dropped key).turn to := by
 have hd := fine_dropped h key
 unfold V.dropped at hd ⊢
 rw [find_turn h]
 cases hf : v.find key with
 | none => rfl
 | some i =>
   have h7 := find_kind hf
   rw [hf] at hd
   rw [turn_fine hd]
   show V.mk (v.turn to).kind (v.turn to).n (v.turn to).s ((v.turn to).l.take i ++ (v.turn to).l.drop (min (i + 2) (v.turn to).l.length)) = V.mk v.kind (if v.kind = 8 then toG to v.n else v.n) v.s ((v.l.take i ++ v.l.drop (min (i + 2) v.l.length)).map (V.turn to))
   rw [turn_kind h, turn_n h, turn_s h, turn_l h, List.length_map, List.map_append, List.map_take, List.map_drop]
theorem bytes_nil {s : ByteArray} (h : s.toList = []) : s = ⟨#[]⟩ := by
 have h2 : s.size = 0 := by
  have := congrArg List.length h
  rwa [ByteArray.toList_eq, Array.length_toList] at this
 obtain ⟨d⟩ := s
 have : d = #[] := Array.eq_empty_of_size_eq_zero h2
 rw [this]
theorem own_shape {k n : Int} {s : ByteArray} {l : List V} (h : ownE k n s l = 0) : ((k == 6 || k == 7) = false → l = []) ∧ (k = 8 → s = ⟨#[]⟩ ∧ 1 ≤ n ∧ n ≤ 4096) := by
 unfold ownE at h
 refine ⟨fun hh => ?_, fun h8 => ?_⟩
 ·have h6 : k ≠ 6 := by rintro rfl; simp at hh
  have h7 : k ≠ 7 := by rintro rfl; simp at hh
  refine List.length_eq_zero_iff.1 ?_
  by_cases e0 : k = 0
  ·rw [if_pos e0] at h; split at h
   ·rename_i hc; exact hc.2.2
   ·cases h
  rw [if_neg e0] at h
  by_cases e1 : k = 1
  ·rw [if_pos e1] at h; split at h
   ·rename_i hc; exact hc.2.2
   ·cases h
  rw [if_neg e1] at h
  by_cases e2 : k = 2 ∨ k = 3
  ·rw [if_pos e2] at h; unfold numE at h; split at h
   ·rename_i hc; exact hc.2.1
   ·cases h
  rw [if_neg e2] at h
  by_cases e4 : k = 4
  ·rw [if_pos e4] at h; split at h
   ·rename_i hc; exact hc.2
   ·cases h
  rw [if_neg e4] at h
  by_cases e5 : k = 5
  ·rw [if_pos e5] at h; split at h
   ·split at h
    ·rename_i hc; exact hc.2
    ·cases h
   ·cases h
  rw [if_neg e5, if_neg h6, if_neg h7] at h
  by_cases e8 : k = 8
  ·rw [if_pos e8] at h; split at h
   ·rename_i hc; exact hc.2.2
   ·cases h
  rw [if_neg e8] at h
  cases h
 ·subst h8
  simp only [show ¬ (8 : Int) = 0 by decide, show ¬ (8 : Int) = 1 by decide, show ¬ ((8 : Int) = 2 ∨ (8 : Int) = 3) by decide, show ¬ (8 : Int) = 4 by decide, show ¬ (8 : Int) = 5 by decide, show ¬ (8 : Int) = 6 by decide, show ¬ (8 : Int) = 7 by decide, if_true, if_false] at h
  split at h
  ·rename_i hc
   exact ⟨bytes_nil hc.2.1, hc.1⟩
  ·cases h
mutual
theorem first_fine (n : Nat) : ∀ v : V, v.first = 0 → (∀ x ∈ v.refs, 1 ≤ x ∧ x ≤ n) → v.fine n
 | .mk k x s l, h, hr => by
   have ih := firstL_fine n l
   rw [first_eq] at h
   have ho : ownE k x s l = 0 := by
    by_cases e : ownE k x s l = 0
    ·exact e
    ·rw [if_neg (show ¬ ownE (V.mk k x s l).kind (V.mk k x s l).n (V.mk k x s l).s (V.mk k x s l).l = 0 from e)] at h
     exact h
   rw [if_pos (show ownE (V.mk k x s l).kind (V.mk k x s l).n (V.mk k x s l).s (V.mk k x s l).l = 0 from ho)] at h
   obtain ⟨h1, h2⟩ := own_shape ho
   rw [refs_eq] at hr
   rw [V.fine]
   refine ⟨fun h8 => ?_, h1, ?_⟩
   ·rw [if_pos (show (V.mk k x s l).kind = 8 from h8)] at hr
    have := hr x (by simp [V.n])
    exact ⟨this.1, this.2, (h2 h8).1⟩
   ·by_cases hh : (V.mk k x s l).holds = true
    ·have h8 : ¬ (V.mk k x s l).kind = 8 := by
      intro e
      rcases holds_iff.1 hh with e2 | e2 <;> omega
     rw [if_neg h8, if_pos hh] at hr
     rw [if_pos hh] at h
     exact ih h hr
    ·have hl := h1 (by simpa [V.holds, V.kind] using hh)
     subst hl
     exact trivial
theorem firstL_fine (n : Nat) : ∀ l : List V, firstL l = 0 → (∀ x ∈ refsL l, 1 ≤ x ∧ x ≤ n) → fineL n l
 | [], _, _ => by rw [fineL]; trivial
 | v :: l, h, hr => by
   rw [firstL] at h
   rw [refsL] at hr
   have hv : v.first = 0 := by
    by_cases e : v.first = 0
    ·exact e
    ·rw [if_neg e] at h; exact h
   rw [if_pos hv] at h
   rw [fineL]
   exact ⟨first_fine n v hv (fun x hx => hr x (List.mem_append_left _ hx)), firstL_fine n l h (fun x hx => hr x (List.mem_append_right _ hx))⟩
end
theorem toG_wf {to : List Int} (ht : OneTo to) (hm : to.length ≤ 4096) {x : Int} (hx : 1 ≤ x ∧ x ≤ to.length) : (Lit.int .i64 (toG to x)).wf = true := by
 have := toG_range ht hx
 unfold Lit.wf
 simp [IntKind.min, IntKind.max, IntKind.bits, IntKind.signed]
 omega
mutual
theorem wf_turn (to : List Int) (ht : OneTo to) (hm : to.length ≤ 4096) : ∀ v : V, v.fine to.length → v.wf → (v.turn to).wf
 | .mk k n s l, h, hw => by
   have ih := wfL_turn to ht hm l
   have hf := (fine_eq _ _).1 h
   intro x hx
   rw [nums_eq, turn_n h, turn_l h] at hx
   rcases List.mem_cons.1 hx with rfl | hx
   ·by_cases e : (V.mk k n s l).kind = 8
    ·rw [if_pos e]; exact toG_wf ht hm ⟨(hf.1 e).1, (hf.1 e).2.1⟩
    ·rw [if_neg e]; exact hw _ (by rw [nums_eq]; exact List.mem_cons_self)
   ·exact ih (fineL_mem.2 hf.2.2) (fun y hy => hw y (by rw [nums_eq]; exact List.mem_cons_of_mem _ hy)) x hx
theorem wfL_turn (to : List Int) (ht : OneTo to) (hm : to.length ≤ 4096) : ∀ l : List V, fineL to.length l → (∀ y ∈ numsL l, (Lit.int .i64 y).wf = true) → ∀ y ∈ numsL (l.map (V.turn to)), (Lit.int .i64 y).wf = true
 | [], _, _ => fun y hy => by cases hy
 | v :: l, h, hw => fun y hy => by
   rw [fineL] at h
   rw [List.map_cons, numsL, List.mem_append] at hy
   rcases hy with hy | hy
   ·exact wf_turn to ht hm v h.1 (fun z hz => hw z (by rw [numsL]; exact List.mem_append_left _ hz)) y hy
   ·exact wfL_turn to ht hm l h.2 (fun z hz => hw z (by rw [numsL]; exact List.mem_append_right _ hz)) y hy
end
