import Derived.Test.YtipmbcalnnomjaaGreatEachVw
import Derived.Test.YtipmbcalnnomjaaGreatPagesPlVw
import Derived.Test.YtipmbcalnnomjaaGreatPutVw
import Derived.Test.YtipmbcalnnomjaaGreatSqVw
set_option linter.unusedVariables false
set_option linter.unusedSimpArgs false
namespace Go.Proofs.YtipmbcalnnomjaaGreat
open Go.RowKit
def placeR (row : List Int) (x : Int) : Int := (((row.zipIdx 1).find? fun q => decide (q.1 = x)).map fun q => (q.2 : Int)).getD 0
def rowTo (row : List Int) : List Int := toP (row.zipIdx 1) 4096
theorem rowTo_len (row : List Int) : (rowTo row).length = 4096 := toP_len _ _
theorem rowTo_at (row : List Int) {x : Int} (h : 1 ≤ x ∧ x ≤ 4096) : (rowTo row).getD (x - 1).toNat 0 = placeR row x := by
 unfold rowTo placeR
 rw [List.getD_eq_getElem?_getD, toP_get _ (show (x - 1).toNat < 4096 by omega), Option.getD_some, show (((x - 1).toNat : Nat) : Int) + 1 = x by omega]
mutual
def V.seen (tu : List Int) : V → V
 | .mk k n s l => if k = 8 then (if 1 ≤ n ∧ n ≤ tu.length ∧ tu.getD (n - 1).toNat 0 ≠ 0 then refV (tu.getD (n - 1).toNat 0) else nullV) else if (k == 6 || k == 7) = true then .mk k n s (seenL tu l) else .mk k n s l
def seenL (tu : List Int) : List V → List V
 | [] => []
 | v :: l => v.seen tu :: seenL tu l
end
theorem seen_eq (tu : List Int) (v : V) : v.seen tu = if v.kind = 8 then (if 1 ≤ v.n ∧ v.n ≤ tu.length ∧ tu.getD (v.n - 1).toNat 0 ≠ 0 then refV (tu.getD (v.n - 1).toNat 0) else nullV) else if v.holds = true then .mk v.kind v.n v.s (seenL tu v.l) else v := by
 cases v; rw [V.seen]; rfl
theorem seenL_map (tu : List Int) (l : List V) : seenL tu l = l.map (V.seen tu) := by
 induction l with
 | nil => simp [seenL]
 | cons v l ih => rw [seenL, ih]; rfl
structure PageP where
 obs : List Ob
 given : V
def seenOb (tu : List Int) (i : Nat) (o : Ob) : Ob := ⟨(if i = 0 then o.v.dropped "Parent".toUTF8 else o.v).seen tu, o.st, o.data⟩
def pageP (l : List Ob) (row : List Int) (g : V) : PageP := ⟨row.mapIdx fun i x => seenOb (rowTo row) i (obAt l x), g.seen (rowTo row)⟩
theorem find_zip {g : Int → Int} (hg : ∀ x y, g x = g y → x = y) (x : Int) : ∀ (row : List Int) (k : Nat), ((row.map g).zipIdx k).find? (fun q => decide (q.1 = g x)) = ((row.zipIdx k).find? (fun q => decide (q.1 = x))).map fun q => (g q.1, q.2)
 | [], k => rfl
 | y :: row, k => by
   rw [List.map_cons, List.zipIdx_cons, List.zipIdx_cons, List.find?_cons, List.find?_cons]
   by_cases h : y = x
   ·subst h; simp
   ·have h2 : ¬ g y = g x := fun e => h (hg _ _ e)
    simp only [h, h2, decide_false]
    exact find_zip hg x row (k + 1)
theorem placeR_map {g : Int → Int} (hg : ∀ x y, g x = g y → x = y) (row : List Int) (x : Int) : placeR (row.map g) (g x) = placeR row x := by
 unfold placeR
 rw [find_zip hg]
 cases (row.zipIdx 1).find? (fun q => decide (q.1 = x)) <;> rfl
mutual
theorem seen_turn (tu : List Int) (ht : OneTo tu) (hm : tu.length ≤ 4096) (row : List Int) : ∀ v : V, v.fine tu.length → (v.turn tu).seen (rowTo (row.map (toG tu))) = v.seen (rowTo row)
 | .mk k n s l, h => by
   have ih := seenL_turn tu ht hm row l
   have hf := (fine_eq _ _).1 h
   have hh : ((V.mk k n s l).turn tu).holds = (V.mk k n s l).holds := by unfold V.holds; rw [turn_kind h]
   rw [seen_eq, seen_eq, hh, turn_kind h, turn_n h, turn_s h, turn_l h]
   by_cases h8 : (V.mk k n s l).kind = 8
   ·obtain ⟨a, b, c⟩ := hf.1 h8
    rw [if_pos h8, if_pos h8, if_pos h8]
    have hr := toG_range ht ⟨a, b⟩
    rw [rowTo_at _ (x := toG tu (V.mk k n s l).n) (by omega), rowTo_at _ (x := (V.mk k n s l).n) (by omega), placeR_map (toG_inj ht), rowTo_len, rowTo_len]
    have e : (1 ≤ toG tu (V.mk k n s l).n ∧ toG tu (V.mk k n s l).n ≤ ((4096 : Nat) : Int) ∧ placeR row (V.mk k n s l).n ≠ 0) ↔ (1 ≤ (V.mk k n s l).n ∧ (V.mk k n s l).n ≤ ((4096 : Nat) : Int) ∧ placeR row (V.mk k n s l).n ≠ 0) :=
     ⟨fun q => ⟨a, by omega, q.2.2⟩, fun q => ⟨hr.1, by omega, q.2.2⟩⟩
    simp only [e]
   ·simp only [if_neg h8]
    by_cases h6 : (V.mk k n s l).holds = true
    ·simp only [if_pos h6]
     show V.mk _ _ _ (seenL _ (l.map (V.turn tu))) = V.mk _ _ _ (seenL _ l)
     rw [ih (fineL_mem.2 hf.2.2)]
    ·simp only [if_neg h6]
     rw [turn_eq, if_neg h8, if_neg h6]
theorem seenL_turn (tu : List Int) (ht : OneTo tu) (hm : tu.length ≤ 4096) (row : List Int) : ∀ l : List V, fineL tu.length l → seenL (rowTo (row.map (toG tu))) (l.map (V.turn tu)) = seenL (rowTo row) l
 | [], _ => by rw [List.map_nil, seenL, seenL]
 | v :: l, h => by
   rw [fineL] at h
   rw [List.map_cons, seenL, seenL, seen_turn tu ht hm row v h.1, seenL_turn tu ht hm row l h.2]
end
theorem fine_name (n : Nat) (key : ByteArray) : (nameV key).fine n := by
 rw [fine_eq]
 exact ⟨fun h => absurd (show (5 : Int) = 8 from h) (by decide), fun _ => rfl, fun u hu => by cases hu⟩
theorem turn_name (tu : List Int) (key : ByteArray) : (nameV key).turn tu = nameV key := by
 rw [turn_eq, if_neg (show ¬ (nameV key).kind = 8 from (by decide : ¬ (5 : Int) = 8)), if_neg (show ¬ (nameV key).holds = true from (by decide : ¬ ((5 : Int) == 6 || (5 : Int) == 7) = true))]
theorem fine_putAt {n : Nat} {v x : V} (h : v.fine n) (h7 : v.kind = 7) (hx : x.fine n) (key : ByteArray) (o : Option Nat) : (v.putAt key x o).fine n := by
 have hm := ((fine_eq n v).1 h).2.2
 cases o with
 | some i =>
   rw [fine_eq]
   refine ⟨fun e => ?_, fun e => ?_, fun u hu => ?_⟩
   ·have e2 : v.kind = 8 := e
    omega
   ·have e2 : (v.kind == 6 || v.kind == 7) = false := e
    simp [h7] at e2
   ·have hu : u ∈ v.l.take (i + 1) ++ ([x] ++ v.l.drop (min (i + 2) v.l.length)) := hu
    simp only [List.mem_append, List.mem_singleton] at hu
    rcases hu with hu | rfl | hu
    ·exact hm _ (List.mem_of_mem_take hu)
    ·exact hx
    ·exact hm _ (List.mem_of_mem_drop hu)
 | none =>
   rw [fine_eq]
   refine ⟨fun e => ?_, fun e => ?_, fun u hu => ?_⟩
   ·have e2 : v.kind = 8 := e
    omega
   ·have e2 : (v.kind == 6 || v.kind == 7) = false := e
    simp [h7] at e2
   ·have hu : u ∈ v.l.take (placeOf v.l key) ++ ([nameV key, x] ++ v.l.drop (placeOf v.l key)) := hu
    simp only [List.mem_append, List.mem_cons, List.not_mem_nil, or_false] at hu
    rcases hu with hu | (rfl | rfl) | hu
    ·exact hm _ (List.mem_of_mem_take hu)
    ·exact fine_name n key
    ·exact hx
    ·exact hm _ (List.mem_of_mem_drop hu)
theorem fine_put {n : Nat} {v x : V} (h : v.fine n) (hx : x.fine n) (key : ByteArray) : (v.put key x).fine n := by
 rw [put_eq]
 split
 ·rename_i h7
  exact fine_putAt h h7 hx key _
 ·exact h
theorem put_turn {tu : List Int} {v x : V} (h : v.fine tu.length) (hx : x.fine tu.length) (key : ByteArray) : (v.turn tu).put key (x.turn tu) = (v.put key x).turn tu := by
 by_cases h7 : v.kind = 7
 ·have h8 : ¬ v.kind = 8 := by omega
  have hm := ((fine_eq _ v).1 h).2.2
  have e1 : nextP (hit key) (v.l.map (V.turn tu)) = nextP (hit key) v.l := nextP_map _ _ _ (fun u hu => by unfold hit; rw [turn_kind (hm u hu), turn_s (hm u hu)])
  have e2 : placeOf (v.l.map (V.turn tu)) key = placeOf v.l key := by
   unfold placeOf
   rw [nextP_map _ _ _ (fun u hu => by unfold over; rw [turn_kind (hm u hu), turn_s (hm u hu)]), List.length_map]
  have eL : (v.turn tu).put key (x.turn tu) = (v.turn tu).putAt key (x.turn tu) (nextP (hit key) v.l) := by rw [put_eq, turn_kind h, if_pos h7, turn_l h, e1]
  have eR : v.put key x = v.putAt key x (nextP (hit key) v.l) := by rw [put_eq, if_pos h7]
  have hp := fine_putAt h h7 hx key (nextP (hit key) v.l)
  rw [eL, eR, turn_fine hp]
  cases nextP (hit key) v.l with
  | some i =>
    show V.mk (v.turn tu).kind (v.turn tu).n (v.turn tu).s ((v.turn tu).l.take (i + 1) ++ ([x.turn tu] ++ (v.turn tu).l.drop (min (i + 2) (v.turn tu).l.length))) = V.mk v.kind (if v.kind = 8 then toG tu v.n else v.n) v.s ((v.l.take (i + 1) ++ ([x] ++ v.l.drop (min (i + 2) v.l.length))).map (V.turn tu))
    rw [turn_kind h, turn_n h, turn_s h, turn_l h, List.length_map, List.map_append, List.map_append, List.map_take, List.map_drop]
    rfl
  | none =>
    show V.mk (v.turn tu).kind (v.turn tu).n (v.turn tu).s ((v.turn tu).l.take (placeOf (v.turn tu).l key) ++ ([nameV key, x.turn tu] ++ (v.turn tu).l.drop (placeOf (v.turn tu).l key))) = V.mk v.kind (if v.kind = 8 then toG tu v.n else v.n) v.s ((v.l.take (placeOf v.l key) ++ ([nameV key, x] ++ v.l.drop (placeOf v.l key))).map (V.turn tu))
    rw [turn_kind h, turn_n h, turn_s h, turn_l h, e2, List.map_append, List.map_append, List.map_take, List.map_drop, List.map_cons, turn_name]
    rfl
 ·rw [put_eq, put_eq, turn_kind h, if_neg h7, if_neg h7]
theorem giveN_fine {n : Nat} {g v : V} (hg : g.fine n) (hv : v.fine n) : ∀ k, (giveN g v k).fine n
 | 0 => hg
 | k + 1 => by
   unfold giveN
   split
   ·exact fine_put (giveN_fine hg hv k) (fine_get hv _) _
   ·exact giveN_fine hg hv k
theorem giveN_turn {tu : List Int} {g v : V} (hg : g.fine tu.length) (hv : v.fine tu.length) : ∀ k, giveN (g.turn tu) (v.turn tu) k = (giveN g v k).turn tu
 | 0 => rfl
 | k + 1 => by
   have ih := giveN_turn hg hv k
   unfold giveN
   rw [get_turn hv, ih]
   by_cases hc : (v.get (inhK k)).2 = true
   ·rw [if_pos hc, if_pos hc]
    exact put_turn (giveN_fine hg hv k) (fine_get hv _) _
   ·rw [if_neg hc, if_neg hc]
theorem leafN_fine {n : Nat} {g v : V} (hg : g.fine n) : ∀ k, (leafN g v k).fine n
 | 0 => hg
 | k + 1 => by
   unfold leafN
   split
   ·exact fine_dropped (leafN_fine hg k) _
   ·exact leafN_fine hg k
theorem leafN_turn {tu : List Int} {g v : V} (hg : g.fine tu.length) (hv : v.fine tu.length) : ∀ k, leafN (g.turn tu) (v.turn tu) k = (leafN g v k).turn tu
 | 0 => rfl
 | k + 1 => by
   have ih := leafN_turn hg hv k
   unfold leafN
   rw [get_turn hv, ih]
   by_cases hc : (v.get (inhK k)).2 = true
   ·rw [if_pos hc, if_pos hc]
    exact dropped_turn (leafN_fine hg k) _
   ·rw [if_neg hc, if_neg hc]
mutual
theorem refs_fine (m : Nat) : ∀ v : V, v.fine m → ∀ x ∈ v.refs, 1 ≤ x ∧ x ≤ m
 | .mk k n s l, h, x, hx => by
   have ih := refsL_fine m l
   rw [refs_eq] at hx
   have hf := (fine_eq _ _).1 h
   by_cases h8 : (V.mk k n s l).kind = 8
   ·rw [if_pos h8, List.mem_singleton] at hx
    rw [hx]
    exact ⟨(hf.1 h8).1, (hf.1 h8).2.1⟩
   ·rw [if_neg h8] at hx
    split at hx
    ·exact ih (fineL_mem.2 hf.2.2) x hx
    ·cases hx
theorem refsL_fine (m : Nat) : ∀ l : List V, fineL m l → ∀ x ∈ refsL l, 1 ≤ x ∧ x ≤ m
 | [], _, x, hx => by rw [refsL] at hx; cases hx
 | v :: l, h, x, hx => by
   rw [fineL] at h
   rw [refsL, List.mem_append] at hx
   rcases hx with hx | hx
   ·exact refs_fine m v h.1 x hx
   ·exact refsL_fine m l h.2 x hx
end
mutual
theorem more_turn (tu : List Int) (ht : OneTo tu) : ∀ (v : V) (S : List Int), v.fine tu.length → (v.turn tu).more (S.map (toG tu)) = (v.more S).map (toG tu)
 | .mk k n s l, S, h => by
   have ih := moreL_turn tu ht l S
   have hf := (fine_eq _ _).1 h
   have hh : ((V.mk k n s l).turn tu).holds = (V.mk k n s l).holds := by unfold V.holds; rw [turn_kind h]
   rw [more_eq, more_eq, hh, turn_kind h, turn_n h, turn_l h]
   by_cases h8 : (V.mk k n s l).kind = 8
   ·have hc : (S.map (toG tu)).contains (toG tu (V.mk k n s l).n) = S.contains (V.mk k n s l).n := by
     rw [Bool.eq_iff_iff, List.contains_iff_mem, List.contains_iff_mem]
     exact mem_turn (toG_inj ht) _ _
    have hn : ¬ (V.mk k n s l).holds = true := by
     intro e
     rcases holds_iff.1 e with e2 | e2 <;> omega
    rw [if_neg hn, if_neg hn]
    simp only [h8, if_true, true_and, hc]
    split
    ·rw [List.map_append]; rfl
    ·rfl
   ·have h9 : ∀ b : Prop, ¬ ((V.mk k n s l).kind = 8 ∧ b) := fun b e => h8 e.1
    simp only [if_neg h8, if_neg (h9 _)]
    by_cases h6 : (V.mk k n s l).holds = true
    ·simp only [if_pos h6]
     exact ih (fineL_mem.2 hf.2.2)
    ·simp only [if_neg h6]
theorem moreL_turn (tu : List Int) (ht : OneTo tu) : ∀ (l : List V) (S : List Int), fineL tu.length l → moreL (l.map (V.turn tu)) (S.map (toG tu)) = (moreL l S).map (toG tu)
 | [], S, _ => by rw [List.map_nil, moreL, moreL]
 | v :: l, S, h => by
   rw [fineL] at h
   rw [List.map_cons, moreL, moreL, more_turn tu ht v S h.1, moreL_turn tu ht l _ h.2]
end
theorem onP_turn {g : Int → Int} (hg : ∀ x y, g x = g y → x = y) (xs ys : List Int) : onP (xs.map g) (ys.map g) = (onP xs ys).map g := by
 induction ys using snocInd with
 | nil => rfl
 | app ys y ih =>
   rw [List.map_append, List.map_singleton, onP_snoc, onP_snoc, ih]
   by_cases hc : y ∈ onP xs ys
   ·rw [if_pos hc, if_pos ((mem_turn hg _ _).2 hc)]
   ·rw [if_neg hc, if_neg (fun e => hc ((mem_turn hg _ _).1 e)), List.map_append]
    rfl
theorem getD_toG (tu : List Int) (l : List Int) (i : Nat) : (l.map (toG tu)).getD i 0 = toG tu (l.getD i 0) := by
 rw [List.getD_eq_getElem?_getD, List.getD_eq_getElem?_getD, List.getElem?_map]
 cases l[i]? with
 | none => show (0 : Int) = toG tu 0; rw [toG_out (by omega)]
 | some x => rfl
structure Renum (tu : List Int) (l l' : List Ob) : Prop where
 one : OneTo tu
 len : tu.length ≤ 4096
 obs : ∀ x, obAt l' (toG tu x) = turnOb tu (obAt l x)
 fine : ∀ x, (obAt l x).v.fine tu.length
section
variable {tu : List Int} {l l' : List Ob}
theorem next_turn (h : OneTo tu) (hm : tu.length ≤ 4096) {v : V} (hv : v.fine tu.length) : nextR (v.turn tu) = (nextR v).map (toG tu) := by
 have e := more_turn tu h v [] hv
 rw [List.map_nil] at e
 have hr : ∀ x ∈ v.more [], 1 ≤ x ∧ x ≤ tu.length := fun x hx => refs_fine tu.length v hv x ((mem_more0 x v).1 hx)
 unfold nextR
 rw [e]
 have e1 : (v.more []).filter (fun x => decide (1 ≤ x ∧ x ≤ 4096)) = v.more [] := List.filter_eq_self.2 (fun x hx => by
  have := hr x hx
  exact decide_eq_true (by omega))
 have e2 : ((v.more []).map (toG tu)).filter (fun x => decide (1 ≤ x ∧ x ≤ 4096)) = (v.more []).map (toG tu) := List.filter_eq_self.2 (fun y hy => by
  obtain ⟨x, hx, rfl⟩ := List.mem_map.1 hy
  have := toG_range h (hr x hx)
  exact decide_eq_true (by omega))
 rw [e1, e2]
theorem firstR_turn (h : OneTo tu) (hm : tu.length ≤ 4096) {v g : V} (hv : v.fine tu.length) (hg : g.fine tu.length) : firstR (v.turn tu) (g.turn tu) = (firstR v g).map (toG tu) := by
 unfold firstR
 rw [dropped_turn hv, next_turn h hm (fine_dropped hv _), next_turn h hm hg]
 have e := onP_turn (toG_inj h) [] (nextR (v.dropped "Parent".toUTF8))
 rw [List.map_nil] at e
 rw [e, onP_turn (toG_inj h)]
theorem Renum.top (h : Renum tu l l') {root n0 q : Int} {kids : List Int} (hT : TopOk l root n0 kids q) : TopOk l' (toG tu root) (toG tu n0) (kids.map (toG tu)) q := by
 refine ⟨?_, ?_⟩
 ·have h1 := hT.root
  have hr := h.fine root
  have hg := fine_get hr "Pages".toUTF8
  rw [h.obs]
  unfold rootO at h1 ⊢
  have e : ((turnOb tu (obAt l root)).v.get "Pages".toUTF8).1 = ((obAt l root).v.get "Pages".toUTF8).1.turn tu := by show (((obAt l root).v.turn tu).get _).1 = _; rw [get_turn hr]
  rw [typed_turn hr, e, turn_kind hg, turn_n hg]
  split at h1
  ·rename_i hc
   rw [if_pos hc]
   rw [Bool.and_eq_true, decide_eq_true_eq] at hc
   rw [if_pos hc.2, Option.some.inj h1]
  ·cases h1
 ·rw [h.obs, node_turn (h.fine n0), hT.node]
  rfl
theorem Renum.pick (h : Renum tu l l') : ∀ (kids : List Int) (p : Int), pickP l' (kids.map (toG tu)) p = (pickP l kids p).map fun r => (toG tu r.1, r.2.1.map (toG tu), r.2.2.1, r.2.2.2)
 | [], p => rfl
 | k :: r, p => by
   rw [List.map_cons]
   unfold pickP
   rw [h.obs, node_turn (h.fine k)]
   cases nodeO (obAt l k) with
   | none => rfl
   | some q =>
     obtain ⟨ks, c⟩ := q
     show (if p < c then some (toG tu k, ks.map (toG tu), c, p) else pickP l' (r.map (toG tu)) (p - c)) = Option.map _ (if p < c then some (k, ks, c, p) else pickP l r (p - c))
     split
     ·rfl
     ·exact h.pick r (p - c)
theorem Renum.find (h : Renum tu l l') : ∀ (f : Nat) (n : Int) (kids : List Int) (q p : Int) (path : List Int) (g : V), g.fine tu.length →
 findP l' f (toG tu n) (kids.map (toG tu)) q p (path.map (toG tu)) (g.turn tu) = (findP l f n kids q p path g).map fun R => (toG tu R.1, R.2.1.map (toG tu), R.2.2.turn tu) := by
 intro f
 induction f with
 | zero => intro n kids q p path g hg; rfl
 | succ f ih =>
   intro n kids q p path g hg
   have hG : (giveP g (obAt l n).v).fine tu.length := giveN_fine hg (h.fine n) 4
   have eG : giveP (g.turn tu) (obAt l' (toG tu n)).v = (giveP g (obAt l n).v).turn tu := by rw [h.obs]; exact giveN_turn hg (h.fine n) 4
   have eP : path.map (toG tu) ++ [toG tu n] = (path ++ [n]).map (toG tu) := by simp
   unfold findP
   rw [List.length_map, eG, eP]
   by_cases hq : q = kids.length
   ·rw [if_pos hq, if_pos hq, getD_toG, h.obs, typed_turn (h.fine _)]
    by_cases hT : typedO (obAt l (kids.getD p.toNat 0)) "Page".toUTF8 = true
    ·rw [if_pos hT, if_pos hT]
     have e := leafN_turn hG (h.fine (kids.getD p.toNat 0)) 4
     show some (_, _, leafN _ _ 4) = some (_, _, (leafN _ _ 4).turn tu)
     rw [← e]
     rfl
    ·rw [if_neg hT, if_neg hT, node_turn (h.fine _)]
     cases nodeO (obAt l (kids.getD p.toNat 0)) with
     | none => rfl
     | some r =>
       obtain ⟨ks, c⟩ := r
       show (if c = 1 then findP l' f _ (ks.map (toG tu)) 1 0 ((path ++ [n]).map (toG tu)) ((giveP g (obAt l n).v).turn tu) else none) = Option.map _ (if c = 1 then findP l f _ ks 1 0 (path ++ [n]) (giveP g (obAt l n).v) else none)
       split
       ·exact ih _ _ _ _ _ _ hG
       ·rfl
   ·rw [if_neg hq, if_neg hq, h.pick]
    cases pickP l kids p with
    | none => rfl
    | some r =>
      obtain ⟨k, ks, c, p'⟩ := r
      exact ih _ _ _ _ _ _ hG
theorem find_fine {n : Nat} (h : ∀ x, (obAt l x).v.fine n) : ∀ (f : Nat) (x : Int) (kids : List Int) (q p : Int) (path : List Int) (g : V), g.fine n → ∀ R, findP l f x kids q p path g = some R → R.2.2.fine n := by
 intro f
 induction f with
 | zero => intro x kids q p path g hg R hR; cases hR
 | succ f ih =>
   intro x kids q p path g hg R hR
   have hG : (giveP g (obAt l x).v).fine n := giveN_fine hg (h x) 4
   unfold findP at hR
   split at hR
   ·split at hR
    ·cases hR
     exact leafN_fine hG 4
    ·split at hR
     ·split at hR
      ·exact ih _ _ _ _ _ _ hG R hR
      ·cases hR
     ·cases hR
   ·split at hR
    ·exact ih _ _ _ _ _ _ hG R hR
    ·cases hR
theorem Renum.clos (h : Renum tu l l') {g : V} (hg : g.fine tu.length) : ∀ (f : Nat) (row : List Int) (k : Nat), closR l' (g.turn tu) f (row.map (toG tu)) k = (closR l g f row k).map (toG tu)
 | 0, row, k => rfl
 | f + 1, row, k => by
   unfold closR
   rw [List.length_map]
   by_cases hk : k < row.length
   ·rw [if_pos hk, if_pos hk, getD_toG, h.obs]
    have e2 : (if k = 0 then firstR (turnOb tu (obAt l (row.getD k 0))).v (g.turn tu) else nextR (turnOb tu (obAt l (row.getD k 0))).v) = (if k = 0 then firstR (obAt l (row.getD k 0)).v g else nextR (obAt l (row.getD k 0)).v).map (toG tu) := by
     split
     ·exact firstR_turn h.one h.len (h.fine _) hg
     ·exact next_turn h.one h.len (h.fine _)
    rw [e2, onP_turn (toG_inj h.one)]
    exact h.clos hg f _ _
   ·rw [if_neg hk, if_neg hk]
theorem Renum.closP (h : Renum tu l l') {g : V} (hg : g.fine tu.length) (n : Int) : Go.Proofs.YtipmbcalnnomjaaGreat.closP l' (toG tu n) (g.turn tu) = (Go.Proofs.YtipmbcalnnomjaaGreat.closP l n g).map (toG tu) := h.clos hg 5000 [n] 0
theorem Renum.page (h : Renum tu l l') {g : V} (hg : g.fine tu.length) (row : List Int) : pageP l' (row.map (toG tu)) (g.turn tu) = pageP l row g := by
 unfold pageP
 rw [seen_turn tu h.one h.len row g hg]
 refine congrArg (fun z => (⟨z, g.seen (rowTo row)⟩ : PageP)) ?_
 apply List.ext_getElem?
 intro i
 rw [List.getElem?_mapIdx, List.getElem?_mapIdx, List.getElem?_map]
 cases row[i]? with
 | none => simp only [Option.map_none]
 | some x =>
   show some (seenOb _ i (obAt l' (toG tu x))) = some (seenOb _ i (obAt l x))
   rw [h.obs]
   have hv := h.fine x
   have e : ((if i = 0 then (turnOb tu (obAt l x)).v.dropped "Parent".toUTF8 else (turnOb tu (obAt l x)).v)).seen (rowTo (row.map (toG tu))) = (if i = 0 then (obAt l x).v.dropped "Parent".toUTF8 else (obAt l x).v).seen (rowTo row) := by
    by_cases h0 : i = 0
    ·rw [if_pos h0, if_pos h0]
     show (((obAt l x).v.turn tu).dropped _).seen _ = _
     rw [dropped_turn hv]
     exact seen_turn tu h.one h.len row _ (fine_dropped hv _)
    ·rw [if_neg h0, if_neg h0]
     exact seen_turn tu h.one h.len row _ hv
   unfold seenOb
   rw [e]
   rfl
end
theorem closR_ne (l : List Ob) (g : V) : ∀ (f : Nat) (row : List Int) (k : Nat), row ≠ [] → closR l g f row k ≠ []
 | 0, row, k, h => h
 | f + 1, row, k, h => by
   unfold closR
   split
   ·refine closR_ne l g f _ _ (fun e => ?_)
    have h1 := onP_len_ge row (if k = 0 then firstR (obAt l (row.getD k 0)).v g else nextR (obAt l (row.getD k 0)).v)
    rw [e] at h1
    exact h (List.length_eq_zero_iff.1 (Nat.le_zero.1 h1))
   ·exact h
theorem closP_ne (l : List Ob) (n : Int) (g : V) : closP l n g ≠ [] := closR_ne l g 5000 [n] 0 (by simp)
