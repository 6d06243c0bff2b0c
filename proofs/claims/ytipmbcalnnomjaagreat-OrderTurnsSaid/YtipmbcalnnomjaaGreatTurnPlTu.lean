import Derived.Test.YtipmbcalnnomjaaGreatNumPlTu
import Derived.Test.YtipmbcalnnomjaaGreatMapPTu
import Derived.Test.YtipmbcalnnomjaaGreatDocOkTu
import Derived.Test.YtipmbcalnnomjaaGreatEachTu
import Derived.Test.YtipmbcalnnomjaaGreatSqTu
set_option linter.unusedVariables false
set_option linter.unusedSimpArgs false
namespace Go.Proofs.YtipmbcalnnomjaaGreat
open Go.RowKit
theorem own_block {w : World} {B e size n g : Nat} {xs : List Value} (h : w.ownsRow B e size (.slice (some ⟨g, 0, none⟩) n n) n xs) : BlockIs w g xs e := by
 rcases h.2 with ⟨h0, _⟩ | ⟨g', cap, cur, hv, _, hb, _, _, hs, ht⟩
 ·cases h0
 ·cases hv
  unfold BlockIs
  rw [hb, ← ht, List.take_of_length_le (by rw [Array.length_toList, hs]; exact Nat.le_refl _)]
theorem BlockIs.setMid {b : Nat} {T : TypeId} {post : List Value} : ∀ (vs pre old : List Value) (w : World), BlockIs w b (pre ++ (old ++ post)) T → old.length = vs.length → BlockIs (w.setCells b pre.length vs) b (pre ++ (vs ++ post)) T
 | [], pre, old, w, h, hl => by
   obtain rfl : old = [] := List.length_eq_zero_iff.1 hl
   exact h
 | v :: r, pre, old, w, h, hl => by
   cases old with
   | nil => simp at hl
   | cons o old =>
     have h1 := h.set pre.length v
     have e : (pre ++ (o :: old ++ post)).set pre.length v = (pre ++ [v]) ++ (old ++ post) := by simp
     rw [e] at h1
     have h2 := BlockIs.setMid r (pre ++ [v]) old _ h1 (by simpa using hl)
     have e2 : (pre ++ [v]) ++ (r ++ post) = pre ++ (v :: r ++ post) := by simp
     rw [e2, List.length_append] at h2
     exact h2
theorem objs_store {w : World} {b : Nat} {T : TypeId} {rows : List (List Value)} (hB : BlockIs w b (rows.flatMap id) T) (h6 : ∀ r ∈ rows, r.length = 6) {i : Nat} (hi : i < rows.length) {r : List Value} (hr : r.length = 6) : BlockIs (w.setCells b (i * 6) r) b ((rows.set i r).flatMap id) T := by
 have e0 : rows = rows.take i ++ rows[i] :: rows.drop (i + 1) := by
  rw [List.getElem_cons_drop, List.take_append_drop]
 have hp : ((rows.take i).flatMap id).length = i * 6 := by
  have := flat_len (size := 6) id (rows.take i) (fun q hq => h6 q (List.mem_of_mem_take hq))
  rw [this, List.length_take, Nat.min_eq_left (by omega)]
 have e1 : rows.flatMap id = (rows.take i).flatMap id ++ (rows[i] ++ (rows.drop (i + 1)).flatMap id) := by
  conv => lhs; rw [e0]
  rw [List.flatMap_append, List.flatMap_cons]; rfl
 have e2 : (rows.set i r).flatMap id = (rows.take i).flatMap id ++ (r ++ (rows.drop (i + 1)).flatMap id) := by
  rw [List.set_eq_take_append_cons_drop, if_pos hi, List.flatMap_append, List.flatMap_cons]; rfl
 rw [e1] at hB
 rw [e2, ← hp]
 exact hB.setMid r _ _ w (by rw [h6 _ (List.getElem_mem hi), hr])
theorem objs_there {w : World} {b : Nat} {T : TypeId} {rows : List (List Value)} (hB : BlockIs w b (rows.flatMap id) T) (h6 : ∀ r ∈ rows, r.length = 6) {i : Nat} (hi : i < rows.length) : w.there b (i * 6) 6 := fun j hj => by
 rw [hB.cell, hB.free]
 have hl := flat_len (size := 6) id rows (fun q hq => h6 q hq)
 rw [List.getElem?_eq_getElem (by rw [hl]; omega)]
 exact ⟨rfl, rfl⟩
structure ObsIn (A : Nat → Prop) (W : World) (d : Nat) (l : List Ob) (rows : List (List Value)) : Prop where
 len : rows.length = l.length
 six : ∀ r ∈ rows, r.length = 6
 lies : ∀ (i : Nat) (o : Ob) (r : List Value), l[i]? = some o → rows[i]? = some r → ∃ cs, r = cs ++ [.bool o.st, .string o.data] ∧ LiesIn A W d o.v cs
theorem ObsIn.ext {A S : Nat → Prop} {W W' : World} {d : Nat} {l : List Ob} {rows : List (List Value)} (h : ObsIn A W d l rows) (hE : Ext S W W') (hS : ∀ b, A b → ¬ S b) : ObsIn A W' d l rows :=
 ⟨h.len, h.six, fun i o r ho hr => by
  obtain ⟨cs, h1, h2⟩ := h.lies i o r ho hr
  exact ⟨cs, h1, h2.ext hE hS⟩⟩
theorem ObsIn.mono {A A' : Nat → Prop} {W : World} {d : Nat} {l : List Ob} {rows : List (List Value)} (h : ObsIn A W d l rows) (hA : ∀ b, A b → A' b) : ObsIn A' W d l rows :=
 ⟨h.len, h.six, fun i o r ho hr => by
  obtain ⟨cs, h1, h2⟩ := h.lies i o r ho hr
  exact ⟨cs, h1, h2.mono (fun b _ => hA b)⟩⟩
theorem ObsIn.set {A : Nat → Prop} {W : World} {d : Nat} {l : List Ob} {rows : List (List Value)} (h : ObsIn A W d l rows) (i : Nat) {o : Ob} {cs : List Value} (hL : LiesIn A W d o.v cs) : ObsIn A W d (l.set i o) (rows.set i (cs ++ [.bool o.st, .string o.data])) := by
 refine ⟨by rw [List.length_set, List.length_set, h.len], fun r hr => ?_, fun j u r hu hr => ?_⟩
 ·rcases List.mem_or_eq_of_mem_set hr with hr | rfl
  ·exact h.six r hr
  ·rw [List.length_append, hL.lies.len]; rfl
 ·have hj : j < l.length := by have := (List.getElem?_eq_some_iff.1 hu).1; rwa [List.length_set] at this
  by_cases e : i = j
  ·subst e
   rw [List.getElem?_set_self hj] at hu
   rw [List.getElem?_set_self (by rw [h.len]; exact hj)] at hr
   cases hu
   cases hr
   exact ⟨cs, rfl, hL⟩
  ·rw [List.getElem?_set_ne e] at hu hr
   exact h.lies j u r hu hr
theorem ObsIn.ok {A : Nat → Prop} {W : World} {d b : Nat} {T : TypeId} {l : List Ob} {rows : List (List Value)} (h : ObsIn A W d l rows) (hB : BlockIs W b (rows.flatMap id) T) : OKids W d l (some ⟨b, 0, none⟩) rows :=
 ⟨h.len, h.six, fun i u hu => ⟨b, 0, rfl, by rw [hB.cell, Nat.zero_add]; exact hu⟩, fun i o r ho hr => by
  obtain ⟨cs, h1, h2⟩ := h.lies i o r ho hr
  exact ⟨cs, h1, h2.lies⟩⟩
def zeroRow : List Value := [.int .i64 0, .int .i64 0, .string ⟨#[]⟩, .slice none 0 0, .bool false, .string ⟨#[]⟩]
theorem made_zero (n : Nat) : (madeCells (Value.agg #[.int .i64 0, .int .i64 0, .string ⟨#[]⟩, .slice none 0 0, .bool false, .string ⟨#[]⟩]).cells (n * 6)).toList = (List.replicate n zeroRow).flatMap id := by
 have h6 : ∀ r ∈ List.replicate n zeroRow, (id r).length = 6 := fun r hr => by rw [List.eq_of_mem_replicate hr]; rfl
 apply List.ext_getElem?
 intro j
 by_cases hj : j < n * 6
 ·obtain ⟨h1, h2, h3⟩ := div_mod_of hj
  have e := flat_get id (List.replicate n zeroRow) h6 (j / 6) (by rw [List.length_replicate]; exact h1) (j % 6) h2
  rw [h3] at e
  rw [e]
  simp only [madeCells, Value.cells, Array.toList_map, Array.toList_range, List.getElem?_map, List.getElem_replicate, id]
  rw [List.getElem?_range hj]
  simp only [Option.map_some]
  have hm : j % 6 < 6 := h2
  show some (#[Value.int .i64 0, .int .i64 0, .string ⟨#[]⟩, .slice none 0 0, .bool false, .string ⟨#[]⟩][j % 6]!) = _
  generalize j % 6 = k at hm
  match k, hm with
  | 0, _ => rfl
  | 1, _ => rfl
  | 2, _ => rfl
  | 3, _ => rfl
  | 4, _ => rfl
  | 5, _ => rfl
 ·rw [List.getElem?_eq_none (by simp only [Array.length_toList, size_madeCells]; omega), List.getElem?_eq_none (by rw [flat_len id _ h6, List.length_replicate]; omega)]
theorem ObsIn.zero (A : Nat → Prop) (W : World) (d n : Nat) : ObsIn A W (d + 1) (List.replicate n noOb) (List.replicate n zeroRow) := by
 refine ⟨by simp, fun r hr => by rw [List.eq_of_mem_replicate hr]; rfl, fun i o r ho hr => ?_⟩
 have h1 : o = noOb := List.eq_of_mem_replicate (List.mem_of_getElem? ho)
 have h2 : r = zeroRow := List.eq_of_mem_replicate (List.mem_of_getElem? hr)
 exact ⟨zeroCs, by rw [h1, h2]; rfl, by rw [h1]; exact LiesIn.leaf A W d 0 0 ⟨#[]⟩ (by decide)⟩
def putsP (T : Int → Ob) (acc : List Ob) (s : List (Int × Nat)) : List Ob := s.foldl (fun a q => a.set (q.2 - 1) (T q.1)) acc
theorem putsP_len (T : Int → Ob) : ∀ (s : List (Int × Nat)) (acc : List Ob), (putsP T acc s).length = acc.length
 | [], acc => rfl
 | q :: s, acc => by
   show (putsP T (acc.set (q.2 - 1) (T q.1)) s).length = _
   rw [putsP_len T s, List.length_set]
theorem putsP_snoc (T : Int → Ob) (acc : List Ob) (s : List (Int × Nat)) (q : Int × Nat) : putsP T acc (s ++ [q]) = (putsP T acc s).set (q.2 - 1) (T q.1) := by
 unfold putsP
 rw [List.foldl_append]
 rfl
theorem putsP_app (T : Int → Ob) (acc : List Ob) (s t : List (Int × Nat)) : putsP T acc (s ++ t) = putsP T (putsP T acc s) t := by
 unfold putsP
 rw [List.foldl_append]
theorem putsP_zip (T : Int → Ob) : ∀ (l : List Int) (pre post : List Ob), putsP T (pre ++ (List.replicate l.length noOb ++ post)) (l.zipIdx (pre.length + 1)) = pre ++ (l.map T ++ post)
 | [], pre, post => rfl
 | x :: l, pre, post => by
   rw [List.zipIdx_cons, List.length_cons, List.replicate_succ]
   show putsP T ((pre ++ (noOb :: List.replicate l.length noOb ++ post)).set (pre.length + 1 - 1) (T x)) _ = _
   have e : (pre ++ (noOb :: List.replicate l.length noOb ++ post)).set (pre.length + 1 - 1) (T x) = (pre ++ [T x]) ++ (List.replicate l.length noOb ++ post) := by simp
   rw [e]
   have := putsP_zip T l (pre ++ [T x]) post
   rw [List.length_append, List.length_singleton] at this
   rw [this]
   simp
def turnedP (T : Int → Ob) (main head first : List Int) : List Ob := main.map T ++ [noOb] ++ head.map T ++ [noOb] ++ first.map T
theorem turnedP_len (T : Int → Ob) (main head first : List Int) : (turnedP T main head first).length = main.length + head.length + first.length + 2 := by
 unfold turnedP
 simp only [List.length_append, List.length_map, List.length_singleton]
 omega
theorem puts_seq (T : Int → Ob) (main head first : List Int) : putsP T (List.replicate (main.length + head.length + first.length + 2) noOb) (seqP main head first) = turnedP T main head first := by
 unfold seqP
 rw [putsP_app, putsP_app]
 have e : List.replicate (main.length + head.length + first.length + 2) noOb = [] ++ (List.replicate main.length noOb ++ ([noOb] ++ (List.replicate head.length noOb ++ ([noOb] ++ (List.replicate first.length noOb ++ []))))) := by
  rw [List.nil_append, List.append_nil]
  rw [show main.length + head.length + first.length + 2 = main.length + (1 + (head.length + (1 + first.length))) by omega]
  simp only [List.replicate_append_replicate.symm, List.replicate_one]
 have h1 := putsP_zip T main [] ([noOb] ++ (List.replicate head.length noOb ++ ([noOb] ++ (List.replicate first.length noOb ++ []))))
 have h2 := putsP_zip T head (main.map T ++ [noOb]) ([noOb] ++ (List.replicate first.length noOb ++ []))
 have h3 := putsP_zip T first (main.map T ++ [noOb] ++ head.map T ++ [noOb]) []
 rw [show ([] : List Ob).length + 1 = 1 from rfl, ← e] at h1
 rw [h1]
 simp only [List.length_append, List.length_map, List.length_singleton, List.nil_append, List.append_assoc, List.append_nil] at h2 h3 ⊢
 rw [show main.length + (1 + 1) = main.length + 2 by omega] at h2
 rw [h2, show main.length + head.length + 3 = main.length + (1 + (head.length + 1)) + 1 by omega, h3]
 unfold turnedP
 simp
