import Derived.Test.YtipmbcalnnomjaaGreatRowPutVw
import Derived.Test.YtipmbcalnnomjaaGreatDocDVw
import Derived.Maps.OwnOps
import Derived.Test.YtipmbcalnnomjaaGreatSqVw
set_option linter.unusedVariables false
set_option linter.unusedSimpArgs false
set_option maxRecDepth 100000
namespace Go.Proofs.YtipmbcalnnomjaaGreat
open Go.RowKit
def manyP (rows : List (List Int)) (x : Int) : Nat := (rows.filter fun r => decide (x ∈ r)).length
def ownP (rows : List (List Int)) (r : List Int) : List Int := (onP [] r).filter fun x => decide (manyP rows x = 1)
def condS (rows : List (List Int)) (x : Int) : Bool := decide (1 < manyP rows x ∧ x ∉ rows.headD [])
def shP (rows : List (List Int)) (p : Nat) : List Int := onP [] (((rows.take p).drop 1).flatten.filter (condS rows))
def ownsP (rows : List (List Int)) (p : Nat) : List (List Int) := ((rows.take p).drop 1).map (ownP rows)
def othP (rows : List (List Int)) (tree : List Int) (k : Nat) : List Int := ((List.range k).map fun i : Nat => (i : Int) + 1).filter fun x => decide (manyP rows x = 0 ∧ x ∉ tree)
def lastP (n : Int) : Nat := (min n 4096).toNat
structure PartsP where
 tree : List Int
 first : List Int
 own : List (List Int)
 shared : List Int
 others : List Int
def partsP (n : Int) (nodes : List Int) (root : Int) (rows : List (List Int)) : PartsP :=
 ⟨root :: nodes, rows.headD [], ownsP rows rows.length, shP rows rows.length, othP rows (root :: nodes) (lastP n)⟩
theorem onP_two (xs ys zs : List Int) : onP xs (ys ++ zs) = onP (onP xs ys) zs := by
 unfold onP; rw [List.foldl_append]
theorem onP_filter (xs : List Int) (c : Int → Bool) : ∀ ys : List Int, onP xs ((onP [] ys).filter c) = onP xs (ys.filter c) := by
 intro ys
 induction ys using snocInd with
 | nil => rfl
 | app ys y ih =>
   rw [onP_snoc, List.filter_append]
   by_cases hy : y ∈ onP [] ys
   ·rw [if_pos hy, ih]
    by_cases hc : c y = true
    ·have h2 : y ∈ ys := (onP_mem.1 hy).resolve_left (by simp)
     have h3 : [y].filter c = [y] := by simp [hc]
     rw [h3, onP_snoc, if_pos (onP_mem.2 (Or.inr (List.mem_filter.2 ⟨h2, hc⟩)))]
    ·have h3 : [y].filter c = [] := by simp [hc]
     rw [h3, List.append_nil]
   ·rw [if_neg hy, List.filter_append, onP_two, onP_two, ih]
theorem take_flat {α : Type} (rows : List (List α)) (p : Nat) (hp : p < rows.length) : (rows.take (p + 1)) = rows.take p ++ [rows[p]] := List.take_succ_eq_append_getElem hp
theorem drop_take_succ (rows : List (List Int)) (p : Nat) (h0 : 0 < p) (hp : p < rows.length) : (rows.take (p + 1)).drop 1 = (rows.take p).drop 1 ++ [rows[p]] := by
 rw [take_flat rows p hp, List.drop_append_of_le_length (by rw [List.length_take]; omega)]
theorem shP_row (rows : List (List Int)) (p : Nat) (h0 : 0 < p) (hp : p < rows.length) : shP rows (p + 1) = onP (shP rows p) ((onP [] rows[p]).filter (condS rows)) := by
 rw [onP_filter]
 unfold shP
 rw [drop_take_succ rows p h0 hp, List.flatten_append, List.filter_append, onP_two]
 simp
theorem ownsP_row (rows : List (List Int)) (p : Nat) (h0 : 0 < p) (hp : p < rows.length) : ownsP rows (p + 1) = ownsP rows p ++ [ownP rows rows[p]] := by
 unfold ownsP
 rw [drop_take_succ rows p h0 hp, List.map_append]
 rfl
theorem shP_one (rows : List (List Int)) : shP rows 1 = [] := by
 unfold shP
 cases rows <;> simp [onP]
theorem ownsP_one (rows : List (List Int)) : ownsP rows 1 = [] := by
 unfold ownsP
 cases rows <;> simp
theorem ownsP_len (rows : List (List Int)) (p : Nat) (hp : p ≤ rows.length) : (ownsP rows p).length = p - 1 := by
 unfold ownsP
 rw [List.length_map, List.length_drop, List.length_take]
 omega
def takenP (rows : List (List Int)) (p j : Nat) (x : Int) : Prop := x ∈ (rows.take p).flatten ∨ x ∈ (rows.getD p []).take j
def shJ (rows : List (List Int)) (p j : Nat) : List Int := onP (shP rows p) (((rows.getD p []).take j).filter (condS rows))
def ownJ (rows : List (List Int)) (p j : Nat) : List Int := (onP [] ((rows.getD p []).take j)).filter fun x => decide (manyP rows x = 1)
theorem getD_at (rows : List (List Int)) (p : Nat) (hp : p < rows.length) : rows.getD p [] = rows[p] := by rw [List.getD_eq_getElem?_getD, List.getElem?_eq_getElem hp]; rfl
theorem many_pos (rows : List (List Int)) (p : Nat) (hp : p < rows.length) {x : Int} (hx : x ∈ rows[p]) : 1 ≤ manyP rows x := by
 unfold manyP
 exact List.length_pos_of_mem (List.mem_filter.2 ⟨List.getElem_mem hp, decide_eq_true hx⟩)
theorem two_in {α : Type} (c : α → Bool) : ∀ (l : List α) (i j : Nat) (hi : i < l.length) (hj : j < l.length), i < j → c l[i] = true → c l[j] = true → 2 ≤ (l.filter c).length := by
 intro l
 induction l with
 | nil => intro i j hi; simp at hi
 | cons a l ih =>
   intro i j hi hj hij h1 h2
   rw [List.filter_cons]
   cases j with
   | zero => omega
   | succ j =>
     simp only [List.getElem_cons_succ] at h2
     cases i with
     | zero =>
       simp only [List.getElem_cons_zero] at h1
       rw [if_pos h1, List.length_cons]
       have := List.length_pos_of_mem (List.mem_filter.2 ⟨List.getElem_mem (by simpa using hj : j < l.length), h2⟩)
       omega
     | succ i =>
       simp only [List.getElem_cons_succ] at h1
       have := ih i j (by simpa using hi) (by simpa using hj) (by omega) h1 h2
       split
       ·rw [List.length_cons]; omega
       ·exact this
theorem many_two (rows : List (List Int)) (i p : Nat) (hi : i < p) (hp : p < rows.length) {x : Int} (h1 : x ∈ rows[i]) (h2 : x ∈ rows[p]) : 2 ≤ manyP rows x :=
 two_in _ rows i p (by omega) hp hi (decide_eq_true h1) (decide_eq_true h2)
theorem mem_ahead {rows : List (List Int)} {p : Nat} {x : Int} (h : x ∈ (rows.take p).flatten) : ∃ (i : Nat) (hi : i < rows.length), i < p ∧ x ∈ rows[i] := by
 obtain ⟨r, hr, hx⟩ := List.mem_flatten.1 h
 obtain ⟨i, hi, rfl⟩ := List.mem_iff_getElem.1 hr
 rw [List.length_take] at hi
 refine ⟨i, by omega, by omega, ?_⟩
 rw [List.getElem_take] at hx
 exact hx
theorem head_at (rows : List (List Int)) (h : 0 < rows.length) : rows.headD [] = rows[0] := by cases rows with
 | nil => simp at h
 | cons r rows => rfl
theorem takenP_iff (rows : List (List Int)) (p j : Nat) (hp : p < rows.length) (x : Int) : takenP rows p j x ↔ x ∈ (rows.take p).flatten ∨ x ∈ rows[p].take j := by unfold takenP; rw [getD_at rows p hp]
theorem shJ_step (rows : List (List Int)) (p j : Nat) (h0 : 0 < p) (hp : p < rows.length) (hj : j < rows[p].length) {x : Int} (hx : rows[p][j] = x) :
 (takenP rows p j x → shJ rows p (j + 1) = shJ rows p j) ∧ (¬ takenP rows p j x → 1 < manyP rows x → shJ rows p (j + 1) = shJ rows p j ++ [x]) ∧ (¬ takenP rows p j x → ¬ 1 < manyP rows x → shJ rows p (j + 1) = shJ rows p j) := by
 rw [takenP_iff rows p j hp]
 unfold shJ
 rw [getD_at rows p hp, List.take_succ_eq_append_getElem hj, List.filter_append, onP_two, hx]
 have hxm : x ∈ rows[p] := hx ▸ List.getElem_mem hj
 by_cases hc : condS rows x = true
 ·have h1 : [x].filter (condS rows) = [x] := by simp [hc]
  rw [h1]
  have hc' := of_decide_eq_true hc
  have e : ∀ zs, onP zs [x] = if x ∈ zs then zs else zs ++ [x] := fun zs => rfl
  rw [e]
  have hiff : x ∈ onP (shP rows p) ((rows[p].take j).filter (condS rows)) ↔ (x ∈ (rows.take p).flatten ∨ x ∈ rows[p].take j) := by
   rw [onP_mem]
   constructor
   ·rintro (h | h)
    ·have h2 := (onP_mem.1 h).resolve_left (by simp)
     obtain ⟨r, hr, hxr⟩ := List.mem_flatten.1 (List.mem_filter.1 h2).1
     exact Or.inl (List.mem_flatten.2 ⟨r, List.mem_of_mem_drop hr, hxr⟩)
    ·exact Or.inr (List.mem_filter.1 h).1
   ·rintro (h | h)
    ·left
     obtain ⟨i, hi, hip, hxi⟩ := mem_ahead h
     have hi0 : i ≠ 0 := by
      rintro rfl
      exact hc'.2 (by rw [head_at rows (by omega)]; exact hxi)
     refine onP_mem.2 (Or.inr (List.mem_filter.2 ⟨List.mem_flatten.2 ⟨rows[i], ?_, hxi⟩, hc⟩))
     rw [List.mem_iff_getElem]
     refine ⟨i - 1, by rw [List.length_drop, List.length_take]; omega, ?_⟩
     rw [List.getElem_drop, List.getElem_take]
     congr 1
     omega
    ·exact Or.inr (List.mem_filter.2 ⟨h, hc⟩)
  refine ⟨fun ht => if_pos (hiff.2 ht), fun ht _ => if_neg (fun h => ht (hiff.1 h)), fun ht hn => absurd hc'.1 hn⟩
 ·have h1 : [x].filter (condS rows) = [] := by simp [hc]
  rw [h1]
  have e : ∀ zs, onP zs [] = zs := fun zs => rfl
  rw [e]
  refine ⟨fun _ => rfl, fun ht hm => ?_, fun _ _ => rfl⟩
  exfalso
  refine hc (decide_eq_true ⟨hm, fun hh => ht (Or.inl ?_)⟩)
  rw [head_at rows (by omega)] at hh
  refine List.mem_flatten.2 ⟨rows[0], ?_, hh⟩
  rw [List.mem_iff_getElem]
  exact ⟨0, by rw [List.length_take]; omega, by rw [List.getElem_take]⟩
theorem ownJ_step (rows : List (List Int)) (p j : Nat) (hp : p < rows.length) (hj : j < rows[p].length) {x : Int} (hx : rows[p][j] = x) :
 (takenP rows p j x → ownJ rows p (j + 1) = ownJ rows p j) ∧ (¬ takenP rows p j x → 1 < manyP rows x → ownJ rows p (j + 1) = ownJ rows p j) ∧ (¬ takenP rows p j x → ¬ 1 < manyP rows x → ownJ rows p (j + 1) = ownJ rows p j ++ [x]) := by
 rw [takenP_iff rows p j hp]
 unfold ownJ
 rw [getD_at rows p hp, List.take_succ_eq_append_getElem hj, hx, onP_snoc]
 have hxm : x ∈ rows[p] := hx ▸ List.getElem_mem hj
 have hiff : x ∈ onP [] (rows[p].take j) ↔ x ∈ rows[p].take j := by rw [onP_mem]; simp
 by_cases hin : x ∈ rows[p].take j
 ·rw [if_pos (hiff.2 hin)]
  exact ⟨fun _ => rfl, fun ht => absurd (Or.inr hin) ht, fun ht => absurd (Or.inr hin) ht⟩
 ·rw [if_neg (fun h => hin (hiff.1 h)), List.filter_append]
  have hmp := many_pos rows p hp hxm
  by_cases h1 : manyP rows x = 1
  ·have e : [x].filter (fun x => decide (manyP rows x = 1)) = [x] := by simp [h1]
   rw [e]
   refine ⟨fun ht => ?_, fun _ h2 => by omega, fun _ _ => rfl⟩
   rcases ht with h | h
   ·obtain ⟨i, hi, hip, hxi⟩ := mem_ahead h
    have := many_two rows i p hip hp hxi hxm
    omega
   ·exact absurd h hin
  ·have e : [x].filter (fun x => decide (manyP rows x = 1)) = [] := by simp [h1]
   rw [e, List.append_nil]
   exact ⟨fun _ => rfl, fun _ _ => rfl, fun _ h2 => by omega⟩
theorem takenP_step (rows : List (List Int)) (p j : Nat) (hp : p < rows.length) (hj : j < rows[p].length) (x : Int) : takenP rows p (j + 1) x ↔ takenP rows p j x ∨ x = rows[p][j] := by
 unfold takenP
 rw [getD_at rows p hp, List.take_succ_eq_append_getElem hj, List.mem_append, List.mem_singleton, or_assoc]
theorem takenP_row (rows : List (List Int)) (p : Nat) (hp : p < rows.length) (x : Int) : takenP rows (p + 1) 0 x ↔ takenP rows p rows[p].length x := by
 unfold takenP
 rw [getD_at rows p hp, List.take_zero, List.take_length, take_flat rows p hp, List.flatten_append, List.mem_append]
 simp
theorem shJ_zero (rows : List (List Int)) (p : Nat) : shJ rows p 0 = shP rows p := by unfold shJ; rfl
theorem ownJ_zero (rows : List (List Int)) (p : Nat) : ownJ rows p 0 = [] := by unfold ownJ; rfl
theorem shJ_end (rows : List (List Int)) (p : Nat) (h0 : 0 < p) (hp : p < rows.length) : shJ rows p rows[p].length = shP rows (p + 1) := by
 rw [shP_row rows p h0 hp, onP_filter]
 unfold shJ
 rw [getD_at rows p hp, List.take_length]
theorem ownJ_end (rows : List (List Int)) (p : Nat) (hp : p < rows.length) : ownJ rows p rows[p].length = ownP rows rows[p] := by
 unfold ownJ ownP
 rw [getD_at rows p hp, List.take_length]
theorem othP_step (rows : List (List Int)) (tree : List Int) (k : Nat) : othP rows tree (k + 1) = if manyP rows ((k : Int) + 1) = 0 ∧ ((k : Int) + 1) ∉ tree then othP rows tree k ++ [(k : Int) + 1] else othP rows tree k := by
 unfold othP
 rw [List.range_succ, List.map_append, List.filter_append]
 split
 ·rename_i h
  congr 1
  simp [h]
 ·rename_i h
  have : [k].map (fun i : Nat => (i : Int) + 1) = [(k : Int) + 1] := rfl
  rw [this]
  have h2 : [(k : Int) + 1].filter (fun x => decide (manyP rows x = 0 ∧ x ∉ tree)) = [] := by simp only [List.filter_cons, List.filter_nil]; rw [if_neg]; simpa using h
  rw [h2, List.append_nil]
theorem othP_len (rows : List (List Int)) (tree : List Int) (k : Nat) : (othP rows tree k).length ≤ k := by
 unfold othP
 refine Nat.le_trans (List.length_filter_le _ _) ?_
 rw [List.length_map, List.length_range]
 exact Nat.le_refl _
theorem manyP_le (rows : List (List Int)) (x : Int) : manyP rows x ≤ rows.length := List.length_filter_le _ _
theorem manyP_take (rows : List (List Int)) (p : Nat) (hp : p < rows.length) (x : Int) : manyP (rows.take (p + 1)) x = manyP (rows.take p) x + if x ∈ rows[p] then 1 else 0 := by
 unfold manyP
 rw [take_flat rows p hp, List.filter_append, List.length_append]
 congr 1
 by_cases h : x ∈ rows[p] <;> simp [h]
def useP (rows : List (List Int)) (p j : Nat) (x : Int) : Nat := manyP (rows.take p) x + if x ∈ (rows.getD p []).take j then 1 else 0
theorem useP_step (rows : List (List Int)) (p j : Nat) (hp : p < rows.length) (hj : j < rows[p].length) (x : Int) : useP rows p (j + 1) x = if x = rows[p][j] ∧ x ∉ rows[p].take j then useP rows p j x + 1 else useP rows p j x := by
 have e1 := getD_at rows p hp
 have e2 : ∀ y, y ∈ rows[p].take (j + 1) ↔ y ∈ rows[p].take j ∨ y = rows[p][j] := fun y => by rw [List.take_succ_eq_append_getElem hj, List.mem_append, List.mem_singleton]
 simp only [useP, e1, e2]
 by_cases h1 : x ∈ rows[p].take j
 ·simp [h1]
 ·by_cases h2 : x = rows[p][j]
  ·simp only [h1, false_or, if_pos h2]
   simp [h2] at h1 ⊢
  ·simp [h1, h2]
theorem useP_row (rows : List (List Int)) (p : Nat) (hp : p < rows.length) (x : Int) : useP rows (p + 1) 0 x = useP rows p rows[p].length x := by
 have e1 := getD_at rows p hp
 simp only [useP, e1, List.take_length, manyP_take rows p hp, List.take_zero]
 simp
theorem useP_end (rows : List (List Int)) (x : Int) : useP rows rows.length 0 x = manyP rows x := by
 unfold useP
 rw [List.take_length, List.take_zero]
 simp
end Go.Proofs.YtipmbcalnnomjaaGreat
namespace Go.Proofs.YtipmbcalnnomjaaGreat
open Go.RowKit Go.Maps
structure Rws (W : World) (a : Option Addr) (rs : List CRow) : Prop where
 row : RowOf W a (rs.map CRow.v)
 has : ∀ q ∈ rs, RowOf W q.a (intsV q.l)
def lsR (rs : List CRow) : List (List Int) := rs.map (·.l)
theorem Rws.ext {S : Nat → Prop} {W W' : World} {a : Option Addr} {rs : List CRow} (h : Rws W a rs) (hE : Ext S W W') (h1 : ∀ x, a = some x → ¬ S x.block) (h2 : ∀ q ∈ rs, ∀ x, q.a = some x → ¬ S x.block) : Rws W' a rs :=
 ⟨h.row.ext hE h1, fun q hq => (h.has q hq).ext hE (h2 q hq)⟩
theorem Rws.pure {W W' : World} {a : Option Addr} {rs : List CRow} (h : Rws W a rs) (hP : Pure W W') : Rws W' a rs := h.ext hP (fun _ _ => id) (fun _ _ _ _ => id)
theorem Rws.get {W : World} {a : Option Addr} {rs : List CRow} (h : Rws W a rs) {p : Nat} (hp : p < rs.length) : ∃ b o, a = some ⟨b, o, none⟩ ∧ W.cell? ⟨b, o + p, none⟩ = some (.slice rs[p].a rs[p].l.length rs[p].c) :=
 h.row p _ (by rw [List.getElem?_map, List.getElem?_eq_getElem hp]; rfl)
theorem lsR_len (rs : List CRow) : (lsR rs).length = rs.length := by unfold lsR; rw [List.length_map]
theorem lsR_get {rs : List CRow} {p : Nat} (hp : p < rs.length) : (lsR rs)[p]'(by rw [lsR_len]; exact hp) = rs[p].l := by unfold lsR; rw [List.getElem_map]
def useD (a b : Int) : DataW Unit := .agg [.lit (.int .i64 a), .lit (.int .i64 b)]
def useR (v : Value) : Option (DataW Unit × List MemPlace) := match v with
 | .agg cs => match cs.toList with
   | [.int .i64 a, .int .i64 b] => some (useD a b, [])
   | _ => none
 | _ => none
theorem useR_mk (a b : Int) : useR (.agg #[.int .i64 a, .int .i64 b]) = some (useD a b, []) := rfl
theorem useR_inv {v : Value} {z : DataW Unit × List MemPlace} (h : useR v = some z) : ∃ a b, v = .agg #[.int .i64 a, .int .i64 b] ∧ z = (useD a b, []) := by
 unfold useR at h
 split at h
 ·rename_i cs
  split at h
  ·rename_i a b e
   cases h
   exact ⟨a, b, by rw [show cs = #[.int .i64 a, .int .i64 b] from by rw [← Array.toArray_toList (xs := cs), e]], rfl⟩
  ·cases h
 ·cases h
theorem useR_at {v : Value} {u l : Int} {ps : List MemPlace} (h : useR v = some (useD u l, ps)) : v = .agg #[.int .i64 u, .int .i64 l] := by
 obtain ⟨a, b, rfl, hz⟩ := useR_inv h
 unfold useD at hz
 simp only [Prod.mk.injEq, DataW.agg.injEq, List.cons.injEq, DataW.lit.injEq, Lit.int.injEq, true_and, and_true] at hz
 obtain ⟨⟨rfl, rfl⟩, _⟩ := hz
 rfl
theorem zeroUse (w : World) : (zeroValue 174).run Tryz.prog w = .ok (.agg #[.int .i64 0, .int .i64 0]) w := by kernel_rfl
theorem wpList_lookup_use {w : World} {ops : Array Oper} {rest : List Oper} {o : Oper} {a : Act} {Q : Exit → Act → World → Prop} (hg : o.guard = none) (m x : Operand) (hop : o.op = Op.lookup 171 m x true)
 (B n : Nat) (D : DataW Unit) (hm : a.eval m = .map (some B)) (hown : w.ownsMap Tryz.prog 3 useR B n D) (k : Int) (hx : a.eval x = .int .i64 k) (hw : (Lit.int .i64 k).wf = true)
 (u l : Int) (hat : D.atKey (.int .i64 k) (useD 0 0) = useD u l) (b : Bool) (hb : Maps.has D (.int .i64 k) = b)
 (hK : wpList Tryz.prog ops Q rest (a.put o.dst (.tuple #[.agg #[.int .i64 u, .int .i64 l], .bool b])) w) : wpList Tryz.prog ops Q (o :: rest) a w :=
 wpList_lookup_own_ok w hg m x _ hop 3 174 lawInt Tryz.underlying171 useR (zeroUse _) (useD 0 0) [] (useR_mk 0 0) B n D hm hown _ _ hx (keyOf_int_mk Tryz.underlying3 hw) (fun v ps hv => by
  rw [hat] at hv
  obtain rfl := useR_at hv
  rw [hb]
  exact hK)
structure UseI (rows : List (List Int)) (p j B cnt : Nat) (D : DataW Unit) (L : Int → Int) (W : World) : Prop where
 own : W.ownsMap Tryz.prog 3 useR B cnt D
 is : IsMap D
 few : cnt ≤ ((rows.take p).flatten).length + j
 look : ∀ x, D.atKey (.int .i64 x) (useD 0 0) = useD (useP rows p j x : Nat) (L x)
 has : ∀ x, Maps.has D (.int .i64 x) = decide (0 < useP rows p j x)
 last : ∀ x, 0 < useP rows p j x → L x ≤ p ∧ (L x = p ↔ x ∈ (rows.getD p []).take j)
theorem UseI.pure {rows : List (List Int)} {p j B cnt : Nat} {D : DataW Unit} {L : Int → Int} {W W' : World} (h : UseI rows p j B cnt D L W) (hP : Pure W W') : UseI rows p j B cnt D L W' :=
 ⟨own_map_ext h.own hP id, h.is, h.few, h.look, h.has, h.last⟩
theorem UseI.skip {rows : List (List Int)} {p j B cnt : Nat} {D : DataW Unit} {L : Int → Int} {W : World} (h : UseI rows p j B cnt D L W) (hp : p < rows.length) (hj : j < rows[p].length) (hx : rows[p][j] ∈ rows[p].take j) : UseI rows p (j + 1) B cnt D L W := by
 have e : ∀ x, useP rows p (j + 1) x = useP rows p j x := fun x => by
  rw [useP_step rows p j hp hj, if_neg]
  rintro ⟨rfl, h2⟩
  exact h2 hx
 refine ⟨h.own, h.is, by have := h.few; omega, fun x => by rw [e]; exact h.look x, fun x => by rw [e]; exact h.has x, fun x hx0 => ?_⟩
 rw [e] at hx0
 obtain ⟨h1, h2⟩ := h.last x hx0
 refine ⟨h1, h2.trans ?_⟩
 rw [getD_at rows p hp, List.take_succ_eq_append_getElem hj, List.mem_append, List.mem_singleton]
 exact ⟨Or.inl, fun h => h.elim id (fun e => e ▸ hx)⟩
theorem UseI.put {rows : List (List Int)} {p j B cnt : Nat} {D : DataW Unit} {L : Int → Int} {W W' : World} (h : UseI rows p j B cnt D L W) (hp : p < rows.length) (hj : j < rows[p].length) {x : Int} (hxe : rows[p][j] = x) (hx : x ∉ rows[p].take j)
 (hO : W'.ownsMap Tryz.prog 3 useR B (cnt + 1) (D.put (.int .i64 x) (useD ((useP rows p j x : Nat) + 1) p))) : UseI rows p (j + 1) B (cnt + 1) (D.put (.int .i64 x) (useD ((useP rows p j x : Nat) + 1) p)) (fun y => if y = x then p else L y) W' := by
 have e1 : useP rows p (j + 1) x = useP rows p j x + 1 := by rw [useP_step rows p j hp hj, if_pos ⟨hxe.symm, hx⟩]
 have e2 : ∀ y, y ≠ x → useP rows p (j + 1) y = useP rows p j y := fun y hy => by rw [useP_step rows p j hp hj, if_neg]; rintro ⟨rfl, _⟩; exact hy hxe
 have e3 : ∀ y, y ∈ (rows.getD p []).take (j + 1) ↔ y ∈ (rows.getD p []).take j ∨ y = x := fun y => by
  rw [getD_at rows p hp, List.take_succ_eq_append_getElem hj, List.mem_append, List.mem_singleton, hxe]
 refine ⟨hO, h.is.put _ _, by have := h.few; omega, fun y => ?_, fun y => ?_, fun y hy0 => ?_⟩
 ·by_cases hy : y = x
  ·subst hy
   rw [atKey_put_same h.is (k := .int .i64 y) trivial, e1]
   simp
  ·rw [atKey_put_other (fun e' => hy (by cases e'; rfl)), h.look, e2 y hy]
   simp [hy]
 ·by_cases hy : y = x
  ·subst hy
   rw [has_put_same h.is (k := .int .i64 y) trivial, e1]
   simp
  ·rw [has_put_other (fun e' => hy (by cases e'; rfl)), h.has, e2 y hy]
 ·by_cases hy : y = x
  ·subst hy
   refine ⟨?_, ?_⟩
   ·simp
   ·rw [e3]
    simp
  ·rw [e2 y hy] at hy0
   obtain ⟨h1, h2⟩ := h.last y hy0
   simp only [if_neg hy]
   refine ⟨h1, h2.trans ?_⟩
   rw [e3]
   exact ⟨Or.inl, fun h => h.elim id (fun e => absurd e hy)⟩
theorem UseI.next {rows : List (List Int)} {p B cnt : Nat} {D : DataW Unit} {L : Int → Int} {W : World} (hp : p < rows.length) (h : UseI rows p rows[p].length B cnt D L W) : UseI rows (p + 1) 0 B cnt D L W := by
 refine ⟨h.own, h.is, ?_, fun x => by rw [useP_row rows p hp]; exact h.look x, fun x => by rw [useP_row rows p hp]; exact h.has x, fun x hx => ?_⟩
 ·have h1 := h.few
  rw [take_flat rows p hp, List.flatten_append, List.length_append]
  simpa using h1
 ·rw [useP_row rows p hp] at hx
  have h1 := (h.last x hx).1
  refine ⟨by omega, ?_⟩
  rw [List.take_zero]
  constructor
  ·intro e; omega
  ·intro e; cases e
theorem useP_le (rows : List (List Int)) (p j : Nat) (x : Int) : useP rows p j x ≤ rows.length + 1 := by
 unfold useP
 have h1 := manyP_le (rows.take p) x
 rw [List.length_take] at h1
 split <;> omega
def UsesTo (rows : List (List Int)) (w : World) (e : Ending) (w' : World) : Prop :=
 ∃ B cnt D, ∃ L : Int → Int, e = .returned (.map (some B)) ∧ w'.ownsMap Tryz.prog 3 useR B cnt D ∧ w.heap.size ≤ B ∧ (∀ x, D.atKey (.int .i64 x) (useD 0 0) = useD (manyP rows x : Nat) (L x)) ∧ Pure w w'
set_option maxHeartbeats 4000000 in
theorem uses_any (rs : List CRow) (a : Option Addr) (c : Nat) (w : World) (hR : Rws w a rs) (hwf : ∀ q ∈ rs, ∀ x ∈ q.l, (Lit.int .i64 x).wf = true) (hn : rs.length ≤ 1000000) (hm : ∀ q ∈ rs, q.l.length ≤ 1000000) (ht : (lsR rs).flatten.length ≤ 1000000000) :
 Calls Tryz.prog 102 #[.slice a rs.length c] w (UsesTo (lsR rs) w) := by
 have hmm := @run_makeMap Tryz.prog
 have HR := qh hR
 have HWf := qh hwf
 have HM := qh hm
 have HT := qh ht
 obtain ⟨n, hN⟩ : ∃ z, z = rs.length := ⟨_, rfl⟩
 rw [← hN] at hn ⊢
 have HN := qh hN
 clear hR hwf hm ht hN
 go_enter Tryz.func102, Tryz.ntmps102
 go_wp2_with fail
 clear hmm
 have h0 : UseI (lsR rs) 0 0 w.heap.size 0 (.map []) (fun _ => 0) (w.alloc (.map #[] 0)) := by
  have e : ∀ x, useP (lsR rs) 0 0 x = 0 := fun x => by unfold useP; simp [manyP]
  refine ⟨World.ownsMap_made _ _ _ _, isMap_empty, Nat.zero_le _, fun x => by rw [e]; rfl, fun x => by rw [e]; rfl, fun x hx => ?_⟩
  rw [e] at hx
  omega
 have H0 := qh h0
 have HP0 : Hid (Pure w (w.alloc (.map #[] 0))) := qh (ext_alloc _ _)
 obtain ⟨B, hB⟩ : ∃ z, z = w.heap.size := ⟨_, rfl⟩
 rw [← hB] at H0 ⊢
 have HB := qh hB
 clear h0 hB
 go_loopw [13] (fun i wr => ∃ (p cnt : Nat) (D : DataW Unit) (L : Int → Int), p ≤ n ∧ i = .int .i64 p ∧ Hid (UseI (lsR rs) p 0 B cnt D L wr) ∧ Hid (Pure w wr)) (fun i _ => n - (intOf i).toNat)
 case atStart => exact ⟨0, 0, _, _, Nat.zero_le _, rfl, H0, HP0⟩
 case round =>
  obtain ⟨p, cnt, D, L, hp, rfl, HU, HP⟩ := hrel
  by_cases hlt : p < n
  ·have hki : (p : Int) < (n : Int) := by omega
   have hpr : p < rs.length := by rw [← HN.out]; exact hlt
   have hpl : p < (lsR rs).length := by rw [lsR_len]; exact hpr
   obtain ⟨b, o, rfl, hc⟩ := (HR.out.pure HP.out).get hpr
   obtain ⟨q, hq⟩ : ∃ z, z = rs[p] := ⟨_, rfl⟩
   have hlg : (lsR rs)[p] = q.l := by rw [lsR_get hpr, hq]
   have hqm : q ∈ rs := hq ▸ List.getElem_mem hpr
   have HRow : Hid (RowOf w q.a (intsV q.l)) := qh (HR.out.has q hqm)
   have HWq : Hid (∀ x ∈ q.l, (Lit.int .i64 x).wf = true) := qh (HWf.out q hqm)
   rw [← hq] at hc
   obtain ⟨m, hm⟩ : ∃ z, z = q.l.length := ⟨_, rfl⟩
   have hmle : m ≤ 1000000 := by rw [hm]; exact HM.out q hqm
   rw [← hm] at hc
   have HLg : Hid (∀ h : p < (lsR rs).length, (lsR rs)[p] = q.l) := qh (fun _ => hlg)
   have HMm := qh hm
   have HPl := qh hpl
   generalize q.a = qa at *
   generalize q.c = qc at *
   clear hlg hm hpl hq hqm
   go_wp2_with fail
   obtain ⟨wo, rfl⟩ : ∃ wo : World, wo = wr := ⟨_, rfl⟩
   go_loopw [20] (fun i wr => ∃ (j cnt : Nat) (D : DataW Unit) (L : Int → Int), j ≤ m ∧ i = .int .i64 j ∧ Hid (UseI (lsR rs) p j B cnt D L wr) ∧ Hid (Pure w wr)) (fun i _ => m - (intOf i).toNat)
   case atStart => exact ⟨0, cnt, D, L, Nat.zero_le _, rfl, HU, HP⟩
   case round =>
    obtain ⟨j, cnt, D, L, hj, rfl, HU, HP⟩ := hrel
    by_cases hltj : j < m
    ·have hkj : (j : Int) < (m : Int) := by omega
     have hj0 : (0 : Int) ≤ (j : Int) := by omega
     have hjq : j < q.l.length := by rw [← HMm.out]; exact hltj
     have hjl : j < ((lsR rs)[p]'HPl.out).length := by rw [HLg.out HPl.out]; exact hjq
     obtain ⟨xb, xo, rfl, hxc⟩ := (HRow.out.ext HP.out (fun _ _ => id)) j _ (intsV_get hjq)
     obtain ⟨x, hx⟩ : ∃ z, z = q.l[j] := ⟨_, rfl⟩
     have hxe : ((lsR rs)[p]'HPl.out)[j] = x := by rw [hx]; simp only [HLg.out HPl.out]
     have HXw : Hid ((Lit.int .i64 x).wf = true) := qh (HWq.out x (by rw [hx]; exact List.getElem_mem hjq))
     rw [← hx] at hxc
     have HXe : Hid (∀ h : j < ((lsR rs)[p]'HPl.out).length, ((lsR rs)[p]'HPl.out)[j] = x) := qh (fun _ => hxe)
     have HJl := qh hjl
     obtain ⟨u, hu⟩ : ∃ z, z = useP (lsR rs) p j x := ⟨_, rfl⟩
     have hul : (u : Int) ≤ 2000000 := by
      have h1 := useP_le (lsR rs) p j x
      rw [lsR_len, ← HN.out] at h1
      omega
     have hun : (0 : Int) ≤ (u : Int) := by omega
     have hlk := HU.out.look x
     have hhs := HU.out.has x
     have hls := HU.out.last x
     rw [← hu] at hlk hhs hls
     obtain ⟨l, hl⟩ : ∃ z, z = L x := ⟨_, rfl⟩
     rw [← hl] at hlk hls
     have HLk := qh hlk
     have HU' := qh hu
     have hmem : (0 < u ∧ l = p) ↔ x ∈ ((lsR rs).getD p []).take j := by
      constructor
      ·rintro ⟨h1, h2⟩
       exact (hls h1).2.1 h2
      ·intro h
       have h1 : 0 < u := by rw [hu]; unfold useP; rw [if_pos h]; omega
       exact ⟨h1, (hls h1).2.2 h⟩
     rw [getD_at _ p HPl.out] at hmem
     have HMem := qh hmem
     have HPa : Hid (Pure w (wr.alloc (.cells #[.int .i64 (u : Int), .int .i64 l] 174))) := qh (HP.out.pure (ext_alloc _ _))
     have HUa : Hid (UseI (lsR rs) p j B cnt D L (wr.alloc (.cells #[.int .i64 (u : Int), .int .i64 l] 174))) := qh (HU.out.pure (ext_alloc _ _))
     have HKm : Hid (cnt < maxLen) := qh (by
      have h1 := HU.out.few
      have h2 : ((lsR rs).take (p + 1)).flatten.length ≤ (lsR rs).flatten.length := by
       have h3 : (lsR rs).flatten = (((lsR rs).take (p + 1)) ++ ((lsR rs).drop (p + 1))).flatten := by rw [List.take_append_drop]
       rw [h3, List.flatten_append, List.length_append]
       exact Nat.le_add_right _ _
      rw [take_flat _ p HPl.out, List.flatten_append, List.length_append] at h2
      simp only [List.flatten_cons, List.flatten_nil, List.append_nil] at h2
      have h4 := HT.out
      have h5 := HJl.out
      unfold maxLen
      omega)
     clear hxe hjl hu hlk hhs hls hl hmem hx
     by_cases hin : 0 < u ∧ l = p
     ·have hb : Maps.has D (.int .i64 x) = true := by rw [HU.out.has, ← HU'.out]; exact decide_eq_true hin.1
      have HBb := qh hb
      have HNx : Hid (UseI (lsR rs) p (j + 1) B cnt D L (wr.alloc (.cells #[.int .i64 (u : Int), .int .i64 l] 174))) := qh (HUa.out.skip HPl.out HJl.out (by rw [HXe.out HJl.out]; exact HMem.out.1 hin))
      obtain ⟨_, rfl⟩ := hin
      clear hb
      go_wp2_with (at_lookup; refine wpList_lookup_use rfl (.tmp 25) (.tmp 26) rfl B cnt D rfl HU.out.own x rfl HXw.out u p HLk.out true HBb.out ?_)
      go_roundw
      case rel => exact ⟨j + 1, cnt, D, L, by omega, by go_num, HNx, HPa⟩
      case measure => simp [intOf]; omega
     ·have HIn : Hid (x ∉ ((lsR rs)[p]'HPl.out).take j) := qh (fun h => hin (HMem.out.2 h))
      have HPut := qh (fun W' => HUa.out.put (W' := W') HPl.out HJl.out (HXe.out HJl.out) HIn.out)
      rw [← HU'.out] at HPut
      by_cases hu0 : 0 < u
      ·have hlp : (l == (p : Int)) = false := beq_eq_false_iff_ne.2 (fun e => hin ⟨hu0, e⟩)
       have HBb : Hid (Maps.has D (.int .i64 x) = true) := qh (by rw [HU.out.has, ← HU'.out]; exact decide_eq_true hu0)
       clear hin hu0
       go_wp2_with (first
        | (at_lookup; refine wpList_lookup_use rfl (.tmp 25) (.tmp 26) rfl B cnt D rfl HU.out.own x rfl HXw.out u l HLk.out true HBb.out ?_)
        | (at_mapUpdate; refine wpList_mapUpdate_own _ rfl (.tmp 38) (.tmp 39) (.tmp 44) 171 rfl 3 174 lawInt Tryz.underlying171 useR B cnt D rfl HUa.out.own HKm.out _ _ _ rfl rfl (keyOf_int_mk Tryz.underlying3 HXw.out) _ [] (useR_mk _ _) ?_; intro W2 hO2 hg2))
       have HNx := qh (HPut.out W2 hO2)
       have HPx : Hid (Pure w W2) := qh (HPa.out.trans (ext_of_grown hg2) (fun i hi e => by have := Option.some.inj e; have := HB.out; omega))
       clear hO2 hg2
       go_roundw
       case rel => exact ⟨j + 1, _, _, _, by omega, by go_num, HNx, HPx⟩
       case measure => simp [intOf]; omega
      ·obtain rfl : u = 0 := by omega
       have HBb : Hid (Maps.has D (.int .i64 x) = false) := qh (by rw [HU.out.has, ← HU'.out]; rfl)
       clear hin hu0
       go_wp2_with (first
        | (at_lookup; refine wpList_lookup_use rfl (.tmp 25) (.tmp 26) rfl B cnt D rfl HU.out.own x rfl HXw.out (0 : Nat) l HLk.out false HBb.out ?_)
        | (at_mapUpdate; refine wpList_mapUpdate_own _ rfl (.tmp 38) (.tmp 39) (.tmp 44) 171 rfl 3 174 lawInt Tryz.underlying171 useR B cnt D rfl HUa.out.own HKm.out _ _ _ rfl rfl (keyOf_int_mk Tryz.underlying3 HXw.out) _ [] (useR_mk _ _) ?_; intro W2 hO2 hg2))
       have HNx := qh (HPut.out W2 hO2)
       have HPx : Hid (Pure w W2) := qh (HPa.out.trans (ext_of_grown hg2) (fun i hi e => by have := Option.some.inj e; have := HB.out; omega))
       clear hO2 hg2
       go_roundw
       case rel => exact ⟨j + 1, _, _, _, by omega, by go_num, HNx, HPx⟩
       case measure => simp [intOf]; omega
    ·have hkj : ¬ (j : Int) < (m : Int) := by omega
     obtain rfl : j = m := by omega
     have HNx : Hid (UseI (lsR rs) (p + 1) 0 B cnt D L wr) := qh (by
      refine UseI.next HPl.out ?_
      have h := HU.out
      rw [HMm.out, ← HLg.out HPl.out] at h
      exact h)
     go_wp2_with fail
     go_roundw
     case rel => exact ⟨p + 1, cnt, D, L, by omega, by go_num, HNx, HP⟩
     case measure => simp [intOf]; omega
  ·have hki : ¬ (p : Int) < (n : Int) := by omega
   obtain rfl : p = n := by omega
   have HLk : Hid (∀ x, D.atKey (.int .i64 x) (useD 0 0) = useD (manyP (lsR rs) x : Nat) (L x)) := qh (fun x => by
    have h := HU.out.look x
    rw [HN.out, ← lsR_len, useP_end] at h
    exact h)
   go_wp2_with fail
   go_ret
   exact ⟨B, cnt, D, L, rfl, HU.out.own, by rw [← HB.out]; exact Nat.le_refl _, HLk.out, HP.out⟩
def Agree (W : World) (κ κ' : Nat → Nat) : Prop := ∀ b, b < W.heap.size → κ' b = κ b
def paint (W : World) (κ : Nat → Nat) (c : Nat) : Nat → Nat := fun b => if b < W.heap.size then κ b else c
theorem paint_agree (W : World) (κ : Nat → Nat) (c : Nat) : Agree W κ (paint W κ c) := fun b hb => if_pos hb
theorem paint_new {W : World} {κ : Nat → Nat} {c b : Nat} (h : W.heap.size ≤ b) : paint W κ c b = c := if_neg (Nat.not_lt.2 h)
theorem Agree.refl (W : World) (κ : Nat → Nat) : Agree W κ κ := fun _ _ => rfl
structure OwnC (κ : Nat → Nat) (R c e : Nat) (W : World) (a : Option Addr) (cap : Nat) (xs : List Value) : Prop where
 row : W.ownsRow R e 1 (.slice a xs.length cap) xs.length xs
 col : ∀ x, a = some x → κ x.block = c
theorem OwnC.nil (κ : Nat → Nat) (R c e : Nat) (W : World) : OwnC κ R c e W none 0 [] := ⟨World.ownsRow_nil _ _ _ _, fun x h => by cases h⟩
theorem own_some {a : Option Addr} {n c g : Nat} (h : (Value.slice a n c).ownBlock = some g) : ∃ x, a = some x ∧ x.block = g := by
 cases a with
 | none => cases h
 | some x => exact ⟨x, rfl, Option.some.inj h⟩
section
variable {κ κ' : Nat → Nat} {R c e : Nat} {W W' W1 W2 : World} {a a2 : Option Addr} {cap c2 : Nat} {xs : List Value} {S : Nat → Prop}
theorem OwnC.lt (h : OwnC κ R c e W a cap xs) : ∀ x, a = some x → R ≤ x.block ∧ x.block < W.heap.size := fun x hx => h.row.lt x.block (by rw [hx]; rfl)
theorem OwnC.keep (h : OwnC κ R c e W a cap xs) (hE : Ext S W W') (hS : ∀ b, κ b = c → ¬ S b) (hA : Agree W κ κ') : OwnC κ' R c e W' a cap xs :=
 ⟨own_ext h.row hE (fun g hg => by
  obtain ⟨x, hx, rfl⟩ := own_some hg
  exact hS _ (h.col x hx)), fun x hx => (hA _ (h.lt x hx).2).trans (h.col x hx)⟩
theorem OwnC.pure (h : OwnC κ R c e W a cap xs) (hP : Pure W W') : OwnC κ R c e W' a cap xs := h.keep hP (fun _ _ => id) (Agree.refl _ _)
theorem OwnC.grow {u : Value} (h : OwnC κ R c e W a cap xs) (hP : Pure W W1) (hg : W1.grownBy W2 (Value.slice a xs.length cap).ownBlock) (hO : W2.ownsRow R e 1 (.slice a2 (xs.length + 1) c2) (xs.length + 1) (xs ++ [u]))
 (hf : ∀ g, a2 = some g → (Value.slice a xs.length cap).ownBlock = some g.block ∨ W1.heap.size ≤ g.block) : OwnC (paint W κ c) R c e W2 a2 c2 (xs ++ [u]) ∧ Ext (fun b => κ b = c) W W2 := by
 refine ⟨⟨by rw [List.length_append]; exact hO, fun x hx => ?_⟩, ?_⟩
 ·rcases hf x hx with h1 | h1
  ·obtain ⟨y, hy, hyb⟩ := own_some h1
   rw [← hyb, paint_agree W κ c _ (h.lt y hy).2]
   exact h.col y hy
  ·exact paint_new (Nat.le_trans hP.size h1)
 ·refine (hP.mono (T := fun b => κ b = c) (fun _ _ e => e.elim)).trans (ext_of_grown hg) (fun i hi e => ?_)
  obtain ⟨y, hy, hyb⟩ := own_some e
  rw [← hyb]
  exact h.col y hy
theorem OwnC.read (h : OwnC κ R c e W a cap xs) : RowOf W a xs ∧ (a = none → cap = 0) ∧ xs.length ≤ cap := by
 obtain ⟨a', c', he, h1, _, h3, _⟩ := own_form h.row
 cases he
 exact ⟨own_row h.row, h3, h1⟩
end
theorem pure_old {w W W' : World} {κ : Nat → Nat} {S : Nat → Prop} (hP : Pure w W) (hE : Ext S W W') (hκ : ∀ b, b < w.heap.size → κ b = 0) (hS : ∀ b, S b → κ b ≠ 0) : Pure w W' :=
 hP.trans hE (fun b hb e => hS b e (hκ b hb))
def elT (k : Nat) : Nat := if k = 2 then 25 else 3
def setAt {α : Type} (f : Nat → α) (k : Nat) (v : α) : Nat → α := fun i => if i = k then v else f i
structure PI (T R tb : Nat) (κ : Nat → Nat) (A : Nat → Option Addr) (C : Nat → Nat) (X : Nat → List Value) (W : World) : Prop where
 blk : BlockIs W tb [.slice (A 0) (X 0).length (C 0), .slice (A 1) (X 1).length (C 1), .slice (A 2) (X 2).length (C 2), .slice (A 3) (X 3).length (C 3), .slice (A 4) (X 4).length (C 4)] T
 kb : κ tb = 9
 row : ∀ k, k < 5 → OwnC κ R (k + 1) (elT k) W (A k) (C k) (X k)
 old : ∀ b, b < R → κ b = 0
 rs : R ≤ W.heap.size
section
variable {T R tb : Nat} {κ κ' : Nat → Nat} {A : Nat → Option Addr} {C : Nat → Nat} {X : Nat → List Value} {W W' W1 W2 : World} {S : Nat → Prop}
theorem PI.keep (h : PI T R tb κ A C X W) (hE : Ext S W W') (hS : ∀ b, (1 ≤ κ b ∧ κ b ≤ 5 ∨ κ b = 9) → ¬ S b) (hA : Agree W κ κ') : PI T R tb κ' A C X W' :=
 ⟨h.blk.ext hE (hS tb (Or.inr h.kb)), (hA tb h.blk.lt).trans h.kb, fun k hk => (h.row k hk).keep hE (fun b hb => hS b (Or.inl (by omega))) hA, fun b hb => (hA b (Nat.lt_of_lt_of_le hb h.rs)).trans (h.old b hb), Nat.le_trans h.rs hE.size⟩
theorem PI.cell (h : PI T R tb κ A C X W) : ∀ k, k < 5 → W.cell? ⟨tb, k, none⟩ = some (.slice (A k) (X k).length (C k)) ∧ W.frozen? ⟨tb, k, none⟩ = false
 | 0, _ => ⟨h.blk.cell 0, h.blk.free 0⟩
 | 1, _ => ⟨h.blk.cell 1, h.blk.free 1⟩
 | 2, _ => ⟨h.blk.cell 2, h.blk.free 2⟩
 | 3, _ => ⟨h.blk.cell 3, h.blk.free 3⟩
 | 4, _ => ⟨h.blk.cell 4, h.blk.free 4⟩
theorem PI.store {k : Nat} (hk : k < 5) {a2 : Option Addr} {c2 n : Nat} {ys : List Value} (h : PI T R tb κ A C X W) (hP : Ext (fun b => κ b = k + 1) W W2) (hA : Agree W κ κ') (hO : OwnC κ' R (k + 1) (elT k) W2 a2 c2 ys) (hn : n = ys.length) :
 PI T R tb κ' (setAt A k a2) (setAt C k c2) (setAt X k ys) (W2.setCell ⟨tb, k, none⟩ (.slice a2 n c2)) ∧ Ext (fun b => κ b = k + 1 ∨ κ b = 9) W (W2.setCell ⟨tb, k, none⟩ (.slice a2 n c2)) := by
 subst hn
 have hX : Ext (fun i => i = tb) W2 (W2.setCell ⟨tb, k, none⟩ (.slice a2 ys.length c2)) := Ext.setCell (S := fun i => i = tb) (Ext.refl _ _) (p := ⟨tb, k, none⟩) (fun _ => rfl) _
 have kb := h.kb
 have hkb : κ' tb = 9 := (hA tb h.blk.lt).trans kb
 have hne : ∀ b, κ' b < 9 → ¬ b = tb := fun b hb e => by subst e; omega
 have hB2 : BlockIs W2 tb _ T := h.blk.ext hP (fun e => by have e2 : κ tb = k + 1 := e; omega)
 refine ⟨⟨?_, hkb, fun i hi => ?_, fun b hb => (hA b (Nat.lt_of_lt_of_le hb h.rs)).trans (h.old b hb), Nat.le_trans h.rs (Nat.le_trans hP.size hX.size)⟩, (hP.mono (fun _ _ e => Or.inl e)).trans hX (fun i _ e => Or.inr (by have e2 : i = tb := e; rw [e2]; exact kb))⟩
 ·have h8 := hB2.set k (.slice a2 ys.length c2)
  match k, hk with
  | 0, _ => exact h8
  | 1, _ => exact h8
  | 2, _ => exact h8
  | 3, _ => exact h8
  | 4, _ => exact h8
 ·by_cases e : i = k
  ·subst e
   simp only [setAt, if_pos]
   exact hO.keep hX (fun b hb => hne b (by omega)) (Agree.refl _ _)
  ·simp only [setAt, if_neg e]
   refine ((h.row i hi).keep hP (fun b hb e2 => ?_) hA).keep hX (fun b hb => hne b (by omega)) (Agree.refl _ _)
   have e3 : κ b = k + 1 := e2
   omega
theorem PI.push {k : Nat} (hk : k < 5) {u : Value} {a2 : Option Addr} {c2 n : Nat} (h : PI T R tb κ A C X W) (hP : Pure W W1) (hg : W1.grownBy W2 (Value.slice (A k) (X k).length (C k)).ownBlock) (hO : W2.ownsRow R (elT k) 1 (.slice a2 ((X k).length + 1) c2) ((X k).length + 1) (X k ++ [u]))
 (hf : ∀ g, a2 = some g → (Value.slice (A k) (X k).length (C k)).ownBlock = some g.block ∨ W1.heap.size ≤ g.block) (hn : n = (X k).length + 1) :
 PI T R tb (paint W κ (k + 1)) (setAt A k a2) (setAt C k c2) (setAt X k (X k ++ [u])) (W2.setCell ⟨tb, k, none⟩ (.slice a2 n c2)) ∧ Ext (fun b => κ b = k + 1 ∨ κ b = 9) W (W2.setCell ⟨tb, k, none⟩ (.slice a2 n c2)) := by
 obtain ⟨h1, h2⟩ := (h.row k hk).grow hP hg hO hf
 exact h.store hk h2 (paint_agree _ _ _) h1 (by rw [hn, List.length_append]; rfl)
end
def RwC (κ : Nat → Nat) (R : Nat) (W : World) (rs : List CRow) : Prop := ∀ i q, rs[i]? = some q → OwnC κ R (20 + i) 3 W q.a q.c (intsV q.l)
theorem RwC.keep {κ κ' : Nat → Nat} {R : Nat} {W W' : World} {rs : List CRow} {S : Nat → Prop} (h : RwC κ R W rs) (hE : Ext S W W') (hS : ∀ b, 20 ≤ κ b ∧ κ b < 20 + rs.length → ¬ S b) (hA : Agree W κ κ') : RwC κ' R W' rs := fun i q hq =>
 (h i q hq).keep hE (fun b hb => hS b (by have := (List.getElem?_eq_some_iff.1 hq).1; omega)) hA
theorem RwC.snoc {κ : Nat → Nat} {R : Nat} {W : World} {rs : List CRow} {q : CRow} (h : RwC κ R W rs) (hq : OwnC κ R (20 + rs.length) 3 W q.a q.c (intsV q.l)) : RwC κ R W (rs ++ [q]) := fun i r hr => by
 by_cases hi : i < rs.length
 ·rw [List.getElem?_append_left hi] at hr
  exact h i r hr
 ·have h2 := (List.getElem?_eq_some_iff.1 hr).1
  rw [List.length_append, List.length_singleton] at h2
  obtain rfl : i = rs.length := by omega
  rw [List.getElem?_append_right (Nat.le_refl _), Nat.sub_self] at hr
  cases hr
  exact hq
def CRow.ok (W : World) (q : CRow) : Prop := RowOf W q.a (intsV q.l) ∧ (q.a = none → q.c = 0) ∧ q.l.length ≤ q.c
theorem OwnC.ok {κ : Nat → Nat} {R c e : Nat} {W : World} {a : Option Addr} {cap : Nat} {l : List Int} (h : OwnC κ R c e W a cap (intsV l)) : CRow.ok W ⟨a, cap, l⟩ := by
 obtain ⟨h1, h2, h3⟩ := h.read
 exact ⟨h1, h2, by rw [intsV_len] at h3; exact h3⟩
structure PartsAt (p : PartsP) (t f s h : CRow) (a : Option Addr) (c : Nat) (rs : List CRow) (W : World) : Prop where
 lt : t.l = p.tree
 lf : f.l = p.first
 lo : lsR rs = p.own
 ls : s.l = p.shared
 lh : h.l = p.others
 t : t.ok W
 f : f.ok W
 o : Rws W a rs
 on : (a = none → c = 0) ∧ rs.length ≤ c
 oq : ∀ q ∈ rs, q.ok W
 s : s.ok W
 h : h.ok W
theorem CRow.ok.pure {q : CRow} {W W' : World} (h : q.ok W) (hP : Pure W W') : q.ok W' := ⟨h.1.ext hP (fun _ _ => id), h.2⟩
theorem PartsAt.pure {p : PartsP} {t f s h : CRow} {a : Option Addr} {c : Nat} {rs : List CRow} {W W' : World} (H : PartsAt p t f s h a c rs W) (hP : Pure W W') : PartsAt p t f s h a c rs W' :=
 ⟨H.lt, H.lf, H.lo, H.ls, H.lh, H.t.pure hP, H.f.pure hP, H.o.pure hP, H.on, fun q hq => (H.oq q hq).pure hP, H.s.pure hP, H.h.pure hP⟩
def PartsTo (p : PartsP) (w : World) (e : Ending) (w' : World) : Prop :=
 ∃ (t f s h : CRow) (a : Option Addr) (c : Nat) (rs : List CRow), e = .returned (.agg #[t.v, f.v, .slice a rs.length c, s.v, h.v]) ∧ PartsAt p t f s h a c rs w' ∧ Pure w w'
theorem PI.parts {T R tb : Nat} {κ : Nat → Nat} {A : Nat → Option Addr} {C : Nat → Nat} {X : Nat → List Value} {W : World} {p : PartsP} {rs : List CRow} (h : PI T R tb κ A C X W) (hR : RwC κ R W rs)
 (h0 : X 0 = intsV p.tree) (h1 : X 1 = intsV p.first) (h2 : X 2 = rs.map CRow.v) (h2' : lsR rs = p.own) (h3 : X 3 = intsV p.shared) (h4 : X 4 = intsV p.others) :
 PartsAt p ⟨A 0, C 0, p.tree⟩ ⟨A 1, C 1, p.first⟩ ⟨A 3, C 3, p.shared⟩ ⟨A 4, C 4, p.others⟩ (A 2) (C 2) rs W := by
 have r0 := h.row 0 (by decide)
 have r1 := h.row 1 (by decide)
 have r2 := h.row 2 (by decide)
 have r3 := h.row 3 (by decide)
 have r4 := h.row 4 (by decide)
 rw [h0] at r0
 rw [h1] at r1
 rw [h2] at r2
 rw [h3] at r3
 rw [h4] at r4
 have ho : ∀ q ∈ rs, q.ok W := fun q hq => by
  obtain ⟨i, hi, rfl⟩ := List.mem_iff_getElem.1 hq
  exact (hR i _ (List.getElem?_eq_getElem hi)).ok
 obtain ⟨q1, q2, q3⟩ := r2.read
 exact ⟨rfl, rfl, h2', rfl, rfl, r0.ok, r1.ok, ⟨q1, fun q hq => (ho q hq).1⟩, ⟨q2, by rw [List.length_map] at q3; exact q3⟩, ho, r3.ok, r4.ok⟩
def OwnI (l : List Int) (w : World) (e : Ending) (w' : World) : Prop :=
 ∃ (a : Option Addr) (c : Nat), e = .returned (.slice a l.length c) ∧ w'.ownsRow w.heap.size 3 1 (.slice a l.length c) l.length (intsV l) ∧ Pure w w'
set_option maxHeartbeats 1000000 in
theorem rsame_any (S : List Int) (a : Option Addr) (c : Nat) (a' : Option Addr) (c' : Nat) (w : World) (hR : RowOf w a (intsV S)) (hR' : RowOf w a' (intsV S)) (hl : S.length ≤ 100000000) :
 Calls Tryz.prog 49 #[.slice a S.length c, .slice a' S.length c'] w (BoolTo true w) := by
 obtain ⟨n, hn⟩ : ∃ n, n = S.length := ⟨_, rfl⟩
 rw [← hn]
 rw [← hn] at hl
 have HN := qh hn
 have HR := qh hR
 have HR' := qh hR'
 clear hn hR hR'
 go_enter Tryz.func49, Tryz.ntmps49
 go_wp2_with fail
 go_loopw [5] (fun i W => ∃ k : Nat, k ≤ n ∧ i = .int .i64 k ∧ Pure w W) (fun i _ => n - (intOf i).toNat)
 case atStart => exact ⟨0, Nat.zero_le _, rfl, Ext.refl _ _⟩
 case round =>
  obtain ⟨k, hk, rfl, hE⟩ := hrel
  by_cases hlt : k < n
  ·have hki : (k : Int) < (n : Int) := by omega
   have hkS : k < S.length := by rw [← HN.out]; exact hlt
   obtain ⟨b, o, rfl, hc⟩ := HR.out k _ (intsV_get hkS)
   obtain ⟨b', o', rfl, hc'⟩ := HR'.out k _ (intsV_get hkS)
   obtain ⟨y, hy⟩ : ∃ y, y = S[k] := ⟨_, rfl⟩
   rw [← hy] at hc hc'
   have c1 := hE.cell_some hc id
   have c2 := hE.cell_some hc' id
   clear hy hc hc'
   go_wp2_with fail
   go_quiet (fail)
   go_wp2_with fail
   go_roundw
   case rel => exact ⟨k + 1, by omega, by go_num, (hE.drewN _)⟩
   case measure => simp [intOf]; omega
  ·have hki : ¬ (k : Int) < (n : Int) := by omega
   go_wp2_with fail
   go_ret
   exact ⟨rfl, hE⟩
set_option maxHeartbeats 1000000 in
theorem cloneI_any (a : Option Addr) (c : Nat) (l : List Int) (w : World) (hr : RowOf w a (intsV l)) (hnil : a = none → c = 0) (hn : l.length ≤ 1000000) :
 Calls Tryz.prog 27 #[.slice a l.length c] w (OwnI l w) := by
 have he := eql_nil Tryz.underlying25
 cases a with
 | none =>
   obtain rfl := hnil rfl
   obtain rfl : l = [] := by
    cases l with
    | nil => rfl
    | cons x l =>
      obtain ⟨_, _, e, _⟩ := hr 0 (.int .i64 x) rfl
      cases e
   go_enter Tryz.func27, Tryz.ntmps27
   go_wp2_with fail
   go_ret
   exact ⟨none, 0, rfl, ⟨rfl, Or.inl ⟨rfl, rfl⟩⟩, Ext.refl _ _⟩
 | some ad =>
   have HR := qh hr
   obtain ⟨n, hN⟩ : ∃ z, z = l.length := ⟨_, rfl⟩
   rw [← hN] at hn ⊢
   have HN := qh hN
   have HL : Hid ((intsV l).length = n * 1) := qh (by rw [intsV_len, hN]; omega)
   have H1 : Hid (∀ u ∈ intsV l, u.oneCell' = true) := qh (fun u hu => by
    obtain ⟨x, _, rfl⟩ := List.mem_map.1 hu
    rfl)
   clear hr hnil hN
   go_enter Tryz.func27, Tryz.ntmps27
   go_wp2_with (at_builtin; refine wpList_append_any rfl (.tmp 5) (.tmp 6) 25 rfl w.heap.size 3 (.int .i64 0) 1 8 Tryz.underlying25 infoI rfl (by decide) (.slice (some ⟨w.heap.size, 0, none⟩) 0 0) 0 [] rfl (own_new (cs := []) rfl (Nat.zero_le _) _ (Nat.le_refl _)) (some ad) n c (intsV l) rfl (fun e => by cases e) HL.out (HR.out.ext (ext_alloc w _) (fun _ _ => id)) H1.out n (Nat.zero_add n) (intsV l) rfl (by omega) (by unfold maxLen; omega) (ext_alloc w _).size ?_)
   intro a' c' w' hO hg
   have hE : Pure w w' := (ext_alloc w (.cells #[] 3)).trans (ext_of_grown hg) (fun i hi e => by cases e; exact absurd hi (Nat.lt_irrefl _))
   have HO := qh hO
   clear hO hg
   go_wp2_with fail
   go_ret
   exact ⟨a', c', by rw [← HN.out]; rfl, by rw [← HN.out]; exact HO.out, hE⟩
