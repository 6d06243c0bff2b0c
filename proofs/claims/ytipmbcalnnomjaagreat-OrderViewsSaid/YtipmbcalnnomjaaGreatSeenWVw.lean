import Derived.Test.YtipmbcalnnomjaaGreatDocOkVw
import Derived.Test.YtipmbcalnnomjaaGreatLiesInVw
import Derived.Test.YtipmbcalnnomjaaGreatViewPlVw
import Derived.Test.YtipmbcalnnomjaaGreatTurnPlVw
import Derived.Test.YtipmbcalnnomjaaGreatMapPVw
import Derived.OwnWalk
import Derived.Deep.OwnRows
import Derived.Test.YtipmbcalnnomjaaGreatSqVw
set_option linter.unusedVariables false
set_option linter.unusedSimpArgs false
set_option maxRecDepth 100000
namespace Go.Proofs.YtipmbcalnnomjaaGreat
open Go.RowKit
theorem blk_alloc (w : World) (o : Obj) (cs : List Value) (T : TypeId) : BlockIs ((w.alloc o).alloc (.cells cs.toArray T)) (w.heap.size + 1) cs T := by
 have h := BlockIs.new (w.alloc o) cs T
 rwa [World.size_alloc] at h
end Go.Proofs.YtipmbcalnnomjaaGreat
namespace Go.Proofs.YtipmbcalnnomjaaGreat
open Go.RowKit Go.Maps
structure ValsIn (A : Nat → Prop) (W : World) (d : Nat) (l : List V) (rows : List (List Value)) : Prop where
 len : rows.length = l.length
 four : ∀ r ∈ rows, r.length = 4
 lies : ∀ (i : Nat) (u : V) (r : List Value), l[i]? = some u → rows[i]? = some r → LiesIn A W d u r
theorem ValsIn.ext {A S : Nat → Prop} {W W' : World} {d : Nat} {l : List V} {rows : List (List Value)} (h : ValsIn A W d l rows) (hE : Ext S W W') (hS : ∀ b, A b → ¬ S b) : ValsIn A W' d l rows :=
 ⟨h.len, h.four, fun i u r hu hr => (h.lies i u r hu hr).ext hE hS⟩
theorem ValsIn.fit {A : Nat → Prop} {W : World} {d : Nat} {l : List V} {rows : List (List Value)} (h : ValsIn A W d l rows) : FitIn A W d l (rows.flatMap id) := ⟨rows, rfl, h.len, h.four, h.lies⟩
theorem ValsIn.set {A : Nat → Prop} {W : World} {d : Nat} {l : List V} {rows : List (List Value)} (h : ValsIn A W d l rows) (i : Nat) {u : V} {cs : List Value} (hL : LiesIn A W d u cs) : ValsIn A W d (l.set i u) (rows.set i cs) := by
 refine ⟨by rw [List.length_set, List.length_set, h.len], fun r hr => ?_, fun j v r hv hr => ?_⟩
 ·rcases List.mem_or_eq_of_mem_set hr with hr | rfl
  ·exact h.four r hr
  ·exact hL.lies.len
 ·have hj : j < l.length := by have := (List.getElem?_eq_some_iff.1 hv).1; rwa [List.length_set] at this
  by_cases e : i = j
  ·subst e
   rw [List.getElem?_set_self hj] at hv
   rw [List.getElem?_set_self (by rw [h.len]; exact hj)] at hr
   cases hv
   cases hr
   exact hL
  ·rw [List.getElem?_set_ne e] at hv hr
   exact h.lies j v r hv hr
theorem ValsIn.zero (A : Nat → Prop) (W : World) (d n : Nat) : ValsIn A W (d + 1) (List.replicate n nullV) (List.replicate n zeroCs) := by
 refine ⟨by simp, fun r hr => by rw [List.eq_of_mem_replicate hr]; rfl, fun i o r ho hr => ?_⟩
 rw [List.eq_of_mem_replicate (List.mem_of_getElem? ho), List.eq_of_mem_replicate (List.mem_of_getElem? hr)]
 exact LiesIn.leaf A W d 0 0 ⟨#[]⟩ (by decide)
theorem vals_store {w : World} {b : Nat} {T : TypeId} {rows : List (List Value)} (hB : BlockIs w b (rows.flatMap id) T) (h4 : ∀ r ∈ rows, r.length = 4) {i : Nat} (hi : i < rows.length) {r : List Value} (hr : r.length = 4) : BlockIs (w.setCells b (i * 4) r) b ((rows.set i r).flatMap id) T := by
 have e0 : rows = rows.take i ++ rows[i] :: rows.drop (i + 1) := by
  rw [List.getElem_cons_drop, List.take_append_drop]
 have hp : ((rows.take i).flatMap id).length = i * 4 := by
  have := flat_len (size := 4) id (rows.take i) (fun q hq => h4 q (List.mem_of_mem_take hq))
  rw [this, List.length_take, Nat.min_eq_left (by omega)]
 have e1 : rows.flatMap id = (rows.take i).flatMap id ++ (rows[i] ++ (rows.drop (i + 1)).flatMap id) := by
  conv => lhs; rw [e0]
  rw [List.flatMap_append, List.flatMap_cons]; rfl
 have e2 : (rows.set i r).flatMap id = (rows.take i).flatMap id ++ (r ++ (rows.drop (i + 1)).flatMap id) := by
  rw [List.set_eq_take_append_cons_drop, if_pos hi, List.flatMap_append, List.flatMap_cons]; rfl
 rw [e1] at hB
 rw [e2, ← hp]
 exact hB.setMid r _ _ w (by rw [h4 _ (List.getElem_mem hi), hr])
theorem vals_there {w : World} {b : Nat} {T : TypeId} {rows : List (List Value)} (hB : BlockIs w b (rows.flatMap id) T) (h4 : ∀ r ∈ rows, r.length = 4) {i : Nat} (hi : i < rows.length) : w.there b (i * 4) 4 := fun j hj => by
 rw [hB.cell, hB.free]
 have hl := flat_len (size := 4) id rows (fun q hq => h4 q hq)
 rw [List.getElem?_eq_getElem (by rw [hl]; omega)]
 exact ⟨rfl, rfl⟩
theorem made_zero4 (n : Nat) : (madeCells (Value.agg #[.int .i64 0, .int .i64 0, .string ⟨#[]⟩, .slice none 0 0]).cells (n * 4)).toList = (List.replicate n zeroCs).flatMap id := by
 have h4 : ∀ r ∈ List.replicate n zeroCs, (id r).length = 4 := fun r hr => by rw [List.eq_of_mem_replicate hr]; rfl
 apply List.ext_getElem?
 intro j
 by_cases hj : j < n * 4
 ·obtain ⟨h1, h2, h3⟩ := div_mod_of hj
  have e := flat_get id (List.replicate n zeroCs) h4 (j / 4) (by rw [List.length_replicate]; exact h1) (j % 4) h2
  rw [h3] at e
  rw [e]
  simp only [madeCells, Value.cells, Array.toList_map, Array.toList_range, List.getElem?_map, List.getElem_replicate, id]
  rw [List.getElem?_range hj]
  simp only [Option.map_some]
  have hm : j % 4 < 4 := h2
  show some (#[Value.int .i64 0, .int .i64 0, .string ⟨#[]⟩, .slice none 0 0][j % 4]!) = _
  generalize j % 4 = k at hm
  match k, hm with
  | 0, _ => rfl
  | 1, _ => rfl
  | 2, _ => rfl
  | 3, _ => rfl
 ·rw [List.getElem?_eq_none (by simp only [Array.length_toList, size_madeCells]; omega), List.getElem?_eq_none (by rw [flat_len id _ h4, List.length_replicate]; omega)]
theorem seenL_len (tu : List Int) (l : List V) : (seenL tu l).length = l.length := by rw [seenL_map, List.length_map]
theorem fill_one (xs : List V) (m : Nat) (y : V) : (xs ++ List.replicate (m + 1) nullV).set xs.length y = (xs ++ [y]) ++ List.replicate m nullV := by
 rw [List.set_append_right _ _ (Nat.le_refl _), Nat.sub_self, List.replicate_succ, sZ, List.append_assoc]
 rfl
theorem FitIn.full {A : Nat → Prop} {w0 W : World} {d : Nat} {l : List V} {xs : List Value} {a : Option Addr} (h : FitIn A w0 d l xs) (hr : RowOf W a xs) (k : Nat) (u : V) (hk : l[k]? = some u) :
 ∃ b o q, a = some ⟨b, o, none⟩ ∧ W.rangeAt b (o + k * 4) [.int .i64 u.kind, .int .i64 u.n, .string u.s, q] ∧ LiesIn A w0 d u [.int .i64 u.kind, .int .i64 u.n, .string u.s, q] := by
 obtain ⟨rows, rfl, e1, e2, e3⟩ := h
 obtain ⟨hkl, rfl⟩ := List.getElem?_eq_some_iff.1 hk
 have hkr : k < rows.length := by rw [e1]; exact hkl
 have hL := e3 k _ _ hk (List.getElem?_eq_getElem hkr)
 have hg : ∀ j, j < 4 → (rows.flatMap id)[k * 4 + j]? = rows[k][j]? := fun j hj => flat_get id rows (fun r hr => e2 r hr) k hkr j hj
 have hr4 : rows[k].length = 4 := e2 _ (List.getElem_mem hkr)
 obtain ⟨b, o, ha⟩ : ∃ b o, a = some ⟨b, o, none⟩ := by
  obtain ⟨b, o, ha, _⟩ := hr (k * 4 + 0) _ ((hg 0 (by omega)).trans (List.getElem?_eq_getElem (by omega)))
  exact ⟨b, o, ha⟩
 have hrg : W.rangeAt b (o + k * 4) rows[k] := fun j v hv => by
  have hj : j < 4 := by have := (List.getElem?_eq_some_iff.1 hv).1; omega
  obtain ⟨b', o', ha', hc⟩ := hr (k * 4 + j) v ((hg j hj).trans hv)
  rw [ha] at ha'
  cases ha'
  rw [Nat.add_assoc]; exact hc
 clear hg hr4
 obtain ⟨r, hr'⟩ : ∃ r, r = rows[k] := ⟨_, rfl⟩
 rw [← hr'] at hL hrg
 obtain ⟨k1, n1, s1, a1, m1, c1, hform⟩ := hL.lies.form
 cases d with
 | zero => exact hL.elim
 | succ d =>
   obtain ⟨a', c', _, rfl, _⟩ := hL.lies.kids
   exact ⟨b, o, _, ha, hrg, hL⟩
theorem LiesIn.kids {A : Nat → Prop} {W : World} {d : Nat} {v : V} {cs : List Value} (h : LiesIn A W (d + 1) v cs) : ∃ a c xs, cs = [.int .i64 v.kind, .int .i64 v.n, .string v.s, .slice a v.l.length c] ∧ FitIn A W d v.l xs ∧ RowOf W a xs ∧ v.s.size ≤ maxLen ∧ c ≤ maxLen := by
 obtain ⟨a, c, rows, h1, h2, h3, h4, h5, h6, h7, h8, h9, h10⟩ := h
 exact ⟨a, c, rows.flatMap id, h1, ⟨rows, rfl, h2, h3, h8⟩, h4, h9, h6⟩
def MapIn (A : Nat → Prop) (d : Nat) (u : V) (w : World) (e : Ending) (w' : World) : Prop :=
 ∃ cs', e = .returned (.agg cs'.toArray) ∧ LiesIn (fun b => A b ∨ w.heap.size ≤ b) w' d u cs' ∧ Pure w w'
end Go.Proofs.YtipmbcalnnomjaaGreat
namespace Go.Proofs.YtipmbcalnnomjaaGreat
open Go.RowKit Go.Maps
theorem ValsIn.zero0 {A A' : Nat → Prop} {w0 W : World} {d : Nat} {l : List V} {xs : List Value} (h : FitIn A w0 d l xs) : ValsIn A' W d (List.replicate l.length nullV) (List.replicate l.length zeroCs) := by
 cases d with
 | succ d => exact ValsIn.zero A' W d l.length
 | zero =>
   cases l with
   | nil => exact ⟨rfl, (fun r hr => by cases hr), (fun i u r hu => by simp at hu)⟩
   | cons u l =>
     obtain ⟨rows, _, h2, _, h4⟩ := h
     cases rows with
     | nil => simp at h2
     | cons r rows => exact (h4 0 u r rfl rfl).elim
theorem seenL_take {tu : List Int} {l : List V} {k : Nat} {u : V} (h : l[k]? = some u) : seenL tu (l.take (k + 1)) = seenL tu (l.take k) ++ [u.seen tu] := by
 obtain ⟨hk, rfl⟩ := List.getElem?_eq_some_iff.1 h
 rw [List.take_succ_eq_append_getElem hk, seenL_map, List.map_append, ← seenL_map]
 rfl
theorem fill_next {tu : List Int} {l : List V} {k : Nat} {u : V} (h : l[k]? = some u) : (seenL tu (l.take k) ++ List.replicate (l.length - k) nullV).set k (u.seen tu) = seenL tu (l.take (k + 1)) ++ List.replicate (l.length - (k + 1)) nullV := by
 have hk := (List.getElem?_eq_some_iff.1 h).1
 have hl : (seenL tu (l.take k)).length = k := by rw [seenL_len, List.length_take]; omega
 have := fill_one (seenL tu (l.take k)) (l.length - (k + 1)) (u.seen tu)
 rw [hl, show l.length - (k + 1) + 1 = l.length - k by omega] at this
 rw [this, seenL_take h]
structure RenIn (A : Nat → Prop) (w w5 : World) (tb rb : Nat) (u : V) (d : Nat) (x : Value) (w6 : World) (cs : List Value) : Prop where
 is : w6 = w5.setCell ⟨tb, 3, none⟩ x
 len : cs.length = 4
 range : w6.rangeAt tb 0 cs
 there : w6.there rb 0 cs.toArray.size
 info : (Tryz.prog.info? 48).map (·.size) = some cs.toArray.size
 one : (cs.toArray.all fun u => u.oneCell') = true
 after : BlockIs (w6.setCells rb 0 cs) rb cs 48
 lies : LiesIn A (w6.setCells rb 0 cs) (d + 1) u cs
 pure : Pure w (w6.setCells rb 0 cs)
theorem ren_in {A A' : Nat → Prop} {w w5 : World} {tb rb g d : Nat} {k n : Int} {s : ByteArray} {old : Value} {l : List V} {rws : List (List Value)}
 (hB1 : BlockIs w5 tb [.int .i64 k, .int .i64 n, .string s, old] 48) (hB2 : BlockIs w5 rb zeroCs 48) (hne : tb ≠ rb) (hP : Pure w w5) (htw : w.heap.size ≤ tb) (hrw : w.heap.size ≤ rb)
 (hBg : BlockIs w5 g (rws.flatMap id) 48) (hg1 : g ≠ tb) (hg2 : g ≠ rb) (hV : ValsIn A' w5 d l rws) (hA1 : ∀ b, A' b → ¬ (b = tb ∨ b = rb)) (hA2 : ∀ b, A' b → A b) (hAg : A g) (hs : s.size ≤ maxLen) (hl : l.length ≤ maxLen) :
 ∃ w6 cs, RenIn A w w5 tb rb (.mk k n s l) d (.slice (some ⟨g, 0, none⟩) l.length l.length) w6 cs := by
 obtain ⟨w6, hw6⟩ : ∃ z, z = w5.setCell ⟨tb, 3, none⟩ (.slice (some ⟨g, 0, none⟩) l.length l.length) := ⟨_, rfl⟩
 obtain ⟨cs6, hcs6⟩ : ∃ z, z = [Value.int .i64 k, .int .i64 n, .string s, .slice (some ⟨g, 0, none⟩) l.length l.length] := ⟨_, rfl⟩
 have hl6 : cs6.length = 4 := by rw [hcs6]; rfl
 have hB16 : BlockIs w6 tb cs6 48 := by rw [hw6, hcs6]; exact hB1.set 3 (.slice (some ⟨g, 0, none⟩) l.length l.length)
 have hB26 : BlockIs w6 rb zeroCs 48 := by rw [hw6]; exact hB2.setOther (p := ⟨tb, 3, none⟩) hne _
 have hX6 : Ext (fun b => b = tb ∨ b = rb) w5 w6 := by rw [hw6]; exact Ext.setCell (S := fun b => b = tb ∨ b = rb) (Ext.refl _ _) (p := ⟨tb, 3, none⟩) (fun _ => Or.inl rfl) _
 have hX7 : Ext (fun b => b = tb ∨ b = rb) w5 (w6.setCells rb 0 cs6) := Ext.setCells cs6 0 w6 hX6 (b := rb) (fun _ => Or.inr rfl)
 have hg7 := hBg.ext hX7 (fun e => e.elim hg1 hg2)
 have hL := (((hV.ext hX7 hA1).fit).mono (A' := A) (fun b _ h => hA2 b h)).lies (a := some ⟨g, 0, none⟩) (fun i u hu => ⟨g, 0, rfl, by rw [hg7.cell, Nat.zero_add]; exact hu⟩) k n s l.length (Nat.le_refl _) hl (fun e => nomatch e) hs (fun x hx => by cases hx; exact hAg)
 rw [← hcs6] at hL
 exact ⟨w6, cs6, hw6, hl6, hB16.range, by rw [List.size_toArray, hl6]; exact hB26.there 4 rfl, by rw [List.size_toArray, hl6]; exact size24, hL.lies.one, hB26.setAll cs6 hl6.symm, hL, hP.trans hX7 (fun i hi e => by omega)⟩
set_option maxHeartbeats 8000000 in
theorem seen_any (A0 : Nat → Prop) (w0 : World) (hA0 : ∀ b, A0 b → b < w0.heap.size) (tu : List Int) (ta : Option Addr) (tc : Nat) (hto : RowOf w0 ta (intsV tu)) (htl : tu.length ≤ 1000000) : ∀ (d : Nat) (v : V) (cs : List Value) (w : World), LiesIn A0 w0 d v cs → Pure w0 w → v.size ≤ 100000 →
 Calls Tryz.prog 81 #[.agg cs.toArray, .slice ta tu.length tc] w (MapIn A0 d (v.seen tu) w)
 | 0, _, _, _, h, _, _ => h.elim
 | d + 1, v, cs, w, h, hP0, hsz => by
   have IH := seen_any A0 w0 hA0 tu ta tc hto htl d
   have hte := seen_eq tu v
   obtain ⟨F, hF⟩ : ∃ z, z = v.seen tu := ⟨_, rfl⟩
   rw [← hF] at hte ⊢
   have HF := qh hte
   obtain ⟨a, c, xs, hcs, hfit, hrow, hs, hcm⟩ := h.kids
   subst hcs
   have HHs := qh hs
   have HP0 := qh hP0
   have HTo := qh hto
   have HI := qh IH
   have HL := qh h
   have HFit := qh hfit
   have HRow := qh hrow
   have HA0 := qh hA0
   clear IH hF hte hto h hfit hrow hs hcm hA0
   by_cases h8 : v.kind = 8
   ·have HF8 : Hid (F = if 1 ≤ v.n ∧ v.n ≤ tu.length ∧ tu.getD (v.n - 1).toNat 0 ≠ 0 then refV (tu.getD (v.n - 1).toNat 0) else nullV) := qh (by rw [HF.out, if_pos h8])
    rw [h8]
    obtain ⟨s, hsv⟩ : ∃ z, z = v.s := ⟨_, rfl⟩
    obtain ⟨vl, hvl⟩ : ∃ z, z = v.l.length := ⟨_, rfl⟩
    rw [← hsv, ← hvl]
    clear hsv hvl HHs HFit HRow HL HF hsz
    by_cases hin : 1 ≤ v.n ∧ v.n ≤ tu.length
    ·obtain ⟨j, hj⟩ : ∃ j : Nat, v.n = (j : Int) + 1 := ⟨(v.n - 1).toNat, by omega⟩
     have hjl : j < tu.length := by omega
     have hget : tu.getD (v.n - 1).toNat 0 = tu[j] := by rw [show (v.n - 1).toNat = j by omega, List.getD_eq_getElem?_getD, List.getElem?_eq_getElem hjl]; rfl
     obtain ⟨b, o, rfl, hcell⟩ := HTo.out j (.int .i64 tu[j]) (by rw [intsV, List.getElem?_map, List.getElem?_eq_getElem hjl]; rfl)
     have HF9 : Hid (F = if tu[j] ≠ 0 then refV tu[j] else nullV) := qh (by
      rw [HF8.out, hget]
      by_cases e : tu[j] ≠ 0
      ·rw [if_pos ⟨hin.1, hin.2, e⟩, if_pos e]
      ·rw [if_neg (fun h => e h.2.2), if_neg e])
     have hcw := HP0.out.cell_some hcell id
     obtain ⟨n, hn⟩ : ∃ n, n = tu.length := ⟨_, rfl⟩
     rw [← hn] at htl hjl ⊢
     obtain ⟨x, hx⟩ : ∃ x, x = tu[j] := ⟨_, rfl⟩
     rw [← hx] at hcw HF9
     rw [hj]
     have hji : ¬ (j : Int) + 1 < 1 := by omega
     have hji2 : ¬ (n : Int) < (j : Int) + 1 := by omega
     have hj0 : (0 : Int) ≤ (j : Int) := by omega
     have hjn : (j : Int) < (n : Int) := by omega
     have hwj : IntKind.i64.wrap (j : Int) = (j : Int) := by rw [IntKind.wrap_i64]; omega
     have hj1 : (j : Int) + 1 - 1 = (j : Int) := by omega
     have hblt : b < w.heap.size := World.block_lt_of_cell? w _ hcw
     clear hj hin HF8 hcell h8 hn hx hget HTo HI HP0 HA0
     by_cases h0 : x = 0
     ·have HF10 : Hid (F = nullV) := qh (by rw [HF9.out, if_neg (fun h => h h0)])
      subst h0
      clear HF9
      go_enter Tryz.func81, Tryz.ntmps81
      go_wp2_with fail
      refine bodyPost_ret (results_row1 rfl _ _ (w.heap.size + 1) _ [.int .i64 0, .int .i64 0, .string ⟨#[]⟩, .slice none 0 0] _ rfl (blk_alloc w _ _ _) Tryz.underlying48 rfl size24) rfl ?_
      exact ⟨zeroCs, rfl, by rw [HF10.out]; exact LiesIn.leaf _ _ d 0 0 ⟨#[]⟩ (by decide), (ext_alloc w _).pure (ext_alloc _ _)⟩
     ·have HF10 : Hid (F = refV x) := qh (by rw [HF9.out, if_pos h0])
      have hx0 : (x == 0) = false := by simpa using h0
      clear HF9
      go_enter Tryz.func81, Tryz.ntmps81
      go_wp2_with fail
      refine bodyPost_ret (results_row1 rfl _ _ (w.heap.size + 1) _ [.int .i64 8, .int .i64 x, .string ⟨#[]⟩, .slice none 0 0] _ rfl (blk_alloc w _ _ _) Tryz.underlying48 rfl size24) rfl ?_
      exact ⟨[.int .i64 8, .int .i64 x, .string ⟨#[]⟩, .slice none 0 0], rfl, by rw [HF10.out]; exact LiesIn.leaf _ _ d 8 x ⟨#[]⟩ (by decide), (ext_alloc w _).pure (ext_alloc _ _)⟩
    ·have HF9 : Hid (F = nullV) := qh (by rw [HF8.out, if_neg (fun h => hin ⟨h.1, h.2.1⟩)])
     obtain ⟨n, hn⟩ : ∃ n, n = tu.length := ⟨_, rfl⟩
     rw [← hn] at hin ⊢
     obtain ⟨m, hm⟩ : ∃ m, m = v.n := ⟨_, rfl⟩
     rw [← hm] at hin ⊢
     clear HF8 h8 hn hm HTo HI HA0
     have hway : m < 1 ∨ (¬ m < 1 ∧ (n : Int) < m) := by omega
     clear hin
     rcases hway with hm1 | ⟨hm1, hm2⟩
     all_goals
      go_enter Tryz.func81, Tryz.ntmps81
      go_wp2_with fail
      refine bodyPost_ret (results_row1 rfl _ _ (w.heap.size + 1) _ [.int .i64 0, .int .i64 0, .string ⟨#[]⟩, .slice none 0 0] _ rfl (blk_alloc w _ _ _) Tryz.underlying48 rfl size24) rfl ?_
      exact ⟨zeroCs, rfl, by rw [HF9.out]; exact LiesIn.leaf _ _ d 0 0 ⟨#[]⟩ (by decide), (ext_alloc w _).pure (ext_alloc _ _)⟩
   ·have h8' : (v.kind == 8) = false := by simpa using h8
    have HF8 : Hid (F = if v.holds = true then .mk v.kind v.n v.s (seenL tu v.l) else v) := qh (by rw [HF.out, if_neg h8])
    by_cases hho : v.holds = true
    ·have HF9 : Hid (F = .mk v.kind v.n v.s (seenL tu v.l)) := qh (by rw [HF8.out, if_pos hho])
     have h67 := holds_iff.1 hho
     have hszl : sizeL v.l ≤ 100000 := by have := size_eq v; omega
     obtain ⟨l, hl0⟩ : ∃ l, l = v.l := ⟨_, rfl⟩
     obtain ⟨n, hn⟩ : ∃ n, n = v.l.length := ⟨_, rfl⟩
     have hln : n = l.length := by rw [hn, hl0]
     have HN := qh hln
     have hnl : n ≤ 100000 := by rw [hn]; exact Nat.le_trans (length_sizeL _) hszl
     have HSl : Hid (sizeL l ≤ 100000) := qh (by rw [hl0]; exact hszl)
     have HFl := HFit.out
     rw [← hl0] at HFl
     have HFl := qh HFl
     obtain ⟨k0, hk0⟩ : ∃ k, k = v.kind := ⟨_, rfl⟩
     obtain ⟨n0, hn0⟩ : ∃ k, k = v.n := ⟨_, rfl⟩
     obtain ⟨s0, hs0⟩ : ∃ k, k = v.s := ⟨_, rfl⟩
     rw [← hk0, ← hn0, ← hs0, ← hn]
     have HF10 : Hid (F = .mk k0 n0 s0 (seenL tu l)) := qh (by rw [HF9.out, hk0, hn0, hs0, hl0])
     rw [← hk0] at h67
     rw [← hs0] at HHs
     obtain ⟨tb, htb⟩ : ∃ z, z = w.heap.size := ⟨_, rfl⟩
     obtain ⟨w2, hw2⟩ : ∃ z, z = (w.alloc (.cells #[.int .i64 k0, .int .i64 n0, .string s0, .slice a n c] 48)).alloc (.cells #[.int .i64 0, .int .i64 0, .string ⟨#[]⟩, .slice none 0 0] 48) := ⟨_, rfl⟩
     have hB12 : BlockIs w2 tb [.int .i64 k0, .int .i64 n0, .string s0, .slice a n c] 48 := by rw [hw2, htb]; exact (BlockIs.new w _ _).alloc _
     have hB22 : BlockIs w2 (tb + 1) zeroCs 48 := by rw [hw2, htb]; exact blk_alloc w _ _ _
     have hs2 : w2.heap.size = tb + 2 := by rw [hw2, World.size_alloc, World.size_alloc, htb]
     have hP2 : Pure w w2 := by rw [hw2]; exact (ext_alloc w _).pure (ext_alloc _ _)
     have HW : Hid ((w.alloc (.cells #[.int .i64 k0, .int .i64 n0, .string s0, .slice a n c] 48)).alloc (.cells #[.int .i64 0, .int .i64 0, .string ⟨#[]⟩, .slice none 0 0] 48) = w2) := qh hw2.symm
     have HTb := qh htb
     have HS2 := qh hs2
     have HB12 := qh hB12
     have HB22 := qh hB22
     have HP2 := qh hP2
     have HP02 := qh (HP0.out.pure hP2)
     have c3w : w2.cell? ⟨tb, 3, none⟩ = some (.slice a n c) := hB12.cell 3
     obtain ⟨oi, hoi, hoz, hosize, hoby⟩ := info_parts info24
     have HOI := qh hoi
     have HOZ := qh hoz
     have HOS := qh hosize
     have HOB : Hid (oi.bytes * n ≤ 281474976710656) := qh (by rw [hoby]; omega)
     have HOM : Hid (n ≤ maxLen) := qh (by unfold maxLen; omega)
     clear HF HF8 HF9 h8 h8' hho hn hl0 hln hszl hk0 hn0 hs0 hw2 htb hs2 hB12 hB22 hP2 hoi hoz hosize hoby
     rcases h67 with rfl | rfl
     all_goals
      go_enter Tryz.func81, Tryz.ntmps81
      go_upto_region 9 with (fail)
      rw [HW.out, ← HTb.out]
      go_upto_region 10 with (refine wpList_make_full _ rfl (.tmp 47) (.tmp 47) 46 rfl w2.heap.size 48 oi (.agg #[.int .i64 0, .int .i64 0, .string ⟨#[]⟩, .slice none 0 0]) 4 Tryz.underlying46 HOI.out HOZ.out HOS.out .i64 .i64 (n : Int) (n : Int) n rfl rfl rfl rfl HOB.out HOM.out (Nat.le_refl _) ?_; intro W3 hO3 hg3)
      obtain ⟨g, hg⟩ : ∃ z, z = w2.heap.size := ⟨_, rfl⟩
      have hBg := own_block hO3
      rw [made_zero4] at hBg
      rw [← hg] at hBg ⊢
      have hX3 : Pure w2 W3 := (ext_of_grown hg3).mono (fun _ _ e => nomatch e)
      have HX3 := qh hX3
      have HG := qh hg
      have c3r : W3.cell? ⟨tb, 3, none⟩ = some (.slice a n c) := hX3.cell_some c3w id
      have HV0 : Hid (ValsIn (fun b => A0 b ∨ g < b) W3 d (seenL tu (l.take 0) ++ List.replicate (n - 0) nullV) (List.replicate n zeroCs)) := qh (by rw [List.take_zero, seenL, List.nil_append, Nat.sub_zero, HN.out]; exact ValsIn.zero0 HFl.out)
      have HBg := qh hBg
      clear hO3 hg3 hg hBg hX3
      go_wp2_with fail
      go_loopw [6, 7, 52] (fun _ _ i W => ∃ (K : Nat) (rws : List (List Value)), K ≤ n ∧ i = .int .i64 K ∧ Hid (BlockIs W g (rws.flatMap id) 48) ∧ Hid (ValsIn (fun b => A0 b ∨ g < b) W d (seenL tu (l.take K) ++ List.replicate (n - K) nullV) rws) ∧ Hid (Ext (fun b => b = g) W3 W)) (fun _ _ i _ => n - (intOf i).toNat)
      case atStart => exact ⟨0, _, Nat.zero_le _, rfl, HBg, HV0, qh (Ext.refl _ _)⟩
      case round =>
       obtain ⟨K, rws, hkn, rfl, HB, HV, HE⟩ := hrel
       have hgw0 : ∀ b, b < w0.heap.size → b ≠ g := fun b hb e => by have := HG.out; have := HP02.out.size; omega
       by_cases hlt : K < n
       ·have hki : (K : Int) < (n : Int) := by omega
        obtain ⟨u, hu⟩ : ∃ u, l[K]? = some u := ⟨_, List.getElem?_eq_getElem (by rw [← HN.out]; exact hlt)⟩
        obtain ⟨b, o, q, rfl, hr0, hL⟩ := HFl.out.full HRow.out K u hu
        obtain ⟨qa, qm, qc, rfl⟩ : ∃ qa qm qc, q = .slice qa qm qc := by
         obtain ⟨_, _, _, qa, qm, qc, hq⟩ := hL.lies.form
         cases hq
         exact ⟨_, _, _, rfl⟩
        have hus : u.size ≤ 100000 := Nat.le_trans (size_mem (List.mem_of_getElem? hu)) HSl.out
        have HTk : Hid ((seenL tu (l.take K) ++ List.replicate (n - K) nullV).set K (u.seen tu) = seenL tu (l.take (K + 1)) ++ List.replicate (n - (K + 1)) nullV) := qh (by rw [HN.out]; exact fill_next hu)
        have hP0r : Pure w0 wr := (HP02.out.pure HX3.out).trans HE.out (fun i hi e => hgw0 i hi e)
        have hrx := range_ext hr0 hP0r
        obtain ⟨w4, hw4⟩ : ∃ z, z = wr.alloc (.cells #[.int .i64 u.kind, .int .i64 u.n, .string u.s, .slice qa qm qc] 48) := ⟨_, rfl⟩
        have hP4 : Pure wr w4 := hw4 ▸ ext_alloc wr _
        have HC := qh (HI.out u _ w4 hL (hP0r.pure hP4) hus)
        have HW4 := qh hw4
        have HP4 := qh hP4
        have HKr : Hid (K < rws.length) := qh (by rw [HV.out.len, List.length_append, List.length_replicate, seenL_len, List.length_take, ← HN.out]; omega)
        clear hu hL hr0 hus hP0r hw4 hP4
        generalize u.kind = uk at *
        generalize u.n = un at *
        generalize u.s = us at *
        go_wp2_with (with_reducible refine at_load 48 (.tmp 55) ?_; refine wpList_load_mid rfl 48 (.tmp 55) rfl b (o + K * 4) rfl [.int .i64 uk, .int .i64 un, .string us, .slice qa qm qc] _ hrx Tryz.underlying48 rfl (by kernel_rfl) ?_)
        rw [← HW4.out]
        refine HC.out.mono ?_
        rintro e w5 ⟨cs5, rfl, hL5, hP5⟩
        obtain ⟨k5, n5, s5, a5, m5, c5, rfl⟩ := hL5.lies.form
        have hP45 := HP4.out.pure hP5
        have hB5 := HB.out.ext hP45 id
        have hgl := HB.out.lt
        have hL5' : LiesIn (fun b => A0 b ∨ g < b) w5 d (u.seen tu) [.int .i64 k5, .int .i64 n5, .string s5, .slice a5 m5 c5] := hL5.mono (fun b _ h => h.imp id (fun h => by have := HP4.out.size; omega))
        obtain ⟨w6, hw6⟩ : ∃ z, z = w5.setCells g (K * 4) [.int .i64 k5, .int .i64 n5, .string s5, .slice a5 m5 c5] := ⟨_, rfl⟩
        have hX6 : Ext (fun b => b = g) w5 w6 := by rw [hw6]; exact Ext.setCells (S := fun b => b = g) _ _ _ (Ext.refl _ _) (fun _ => rfl)
        have HB6 : Hid (BlockIs w6 g ((rws.set K [.int .i64 k5, .int .i64 n5, .string s5, .slice a5 m5 c5]).flatMap id) 48) := qh (by rw [hw6]; exact vals_store hB5 HV.out.four HKr.out rfl)
        have hAg : ∀ b, (A0 b ∨ g < b) → b ≠ g := fun b hb e => hb.elim (fun h => hgw0 b (HA0.out b h) e) (fun h => by omega)
        have HV6 : Hid (ValsIn (fun b => A0 b ∨ g < b) w6 d (seenL tu (l.take (K + 1)) ++ List.replicate (n - (K + 1)) nullV) (rws.set K [.int .i64 k5, .int .i64 n5, .string s5, .slice a5 m5 c5])) := qh (by
         rw [← HTk.out]
         exact ((HV.out.ext hP45 (fun _ _ => id)).set K hL5').ext hX6 hAg)
        have HE6 : Hid (Ext (fun b => b = g) W3 w6) := qh ((HE.out.trans (hP45.mono (fun _ _ e => e.elim)) (fun _ _ e => e)).trans hX6 (fun _ _ e => e))
        have HTh : Hid (w5.there g (K * 4) (#[.int .i64 k5, .int .i64 n5, .string s5, .slice a5 m5 c5] : Array Value).size) := qh (vals_there hB5 HV.out.four HKr.out)
        have HSi : Hid ((Tryz.prog.info? 48).map (·.size) = some (#[.int .i64 k5, .int .i64 n5, .string s5, .slice a5 m5 c5] : Array Value).size) := qh size24
        have HOn : Hid (((#[.int .i64 k5, .int .i64 n5, .string s5, .slice a5 m5 c5] : Array Value).all fun u => u.oneCell') = true) := qh hL5.lies.one
        have HW6 : Hid (w5.setCells g (K * 4) (#[.int .i64 k5, .int .i64 n5, .string s5, .slice a5 m5 c5] : Array Value).toList = w6) := qh (by rw [hw6])
        have hK0 : (0 : Int) ≤ (K : Int) := by omega
        clear hL5 hP5 hP45 hB5 hgl hL5' hw6 hX6 hAg hgw0
        go_wp2_with (with_reducible refine at_store 48 (.tmp 62) (.tmp 61) ?_; refine wpList_store_mid rfl 48 (.tmp 62) (.tmp 61) rfl g (K * 4) #[.int .i64 k5, .int .i64 n5, .string s5, .slice a5 m5 c5] rfl rfl HTh.out HSi.out HOn.out ?_; rw [HW6.out])
        go_roundw
        case rel => exact ⟨K + 1, _, by omega, by go_num, HB6, HV6, HE6⟩
        case measure => simp [intOf]; omega
       ·have hki : ¬ (K : Int) < (n : Int) := by omega
        obtain rfl : K = n := by omega
        rw [List.take_of_length_le (by rw [← HN.out]; exact Nat.le_refl _), Nat.sub_self, List.replicate_zero, List.append_nil] at HV
        have hBr := (HB12.out.ext HX3.out id).ext HE.out (fun e => by have := HG.out; have := HS2.out; omega)
        have hBz := (HB22.out.ext HX3.out id).ext HE.out (fun e => by have := HG.out; have := HS2.out; omega)
        have c3 : wr.cell? ⟨tb, 3, none⟩ = some (.slice a K c) := hBr.cell 3
        have z3 : wr.frozen? ⟨tb, 3, none⟩ = false := hBr.free 3
        have hln : K = (seenL tu l).length := by rw [seenL_len, ← HN.out]
        have hgg := HG.out
        have hs2 := HS2.out
        have htb := HTb.out
        have hpp := HP0.out.size
        obtain ⟨w6, cs6, R6⟩ := ren_in (A := fun b => A0 b ∨ w.heap.size ≤ b) hBr hBz (by omega) ((HP2.out.pure HX3.out).trans HE.out (fun i hi e => by omega)) (by omega) (by omega) HB.out (by omega) (by omega) HV.out (fun b hb e => hb.elim (fun h => by have := HA0.out b h; omega) (fun h => by omega)) (fun b hb => hb.imp id (fun h => by omega)) (Or.inr (by omega)) HHs.out (by rw [← hln]; exact HOM.out)
        rw [← HF10.out, ← hln] at R6
        have HR6 := qh R6
        have hR6 := R6.range
        have HW6 := qh R6.is
        have HL6 := qh R6.len
        clear R6 hBr hBz hln hgg hs2 htb hpp hgw0 HB HV
        go_wp2_with (first
         | (with_reducible refine at_load 48 (.tmp 2) ?_; refine wpList_load_mid rfl 48 (.tmp 2) rfl tb 0 rfl cs6 _ (by rw [← HW6.out]; exact hR6) Tryz.underlying48 rfl (by rw [HL6.out]; kernel_rfl) ?_; rw [← HW6.out])
         | (with_reducible refine at_store 48 (.tmp 4) (.tmp 66) ?_; refine wpList_store_mid rfl 48 (.tmp 4) (.tmp 66) rfl (tb + 1) 0 cs6.toArray rfl rfl HR6.out.there HR6.out.info HR6.out.one ?_; try simp only [List.toArray_toList]))
        refine bodyPost_ret (results_row1 rfl _ _ (tb + 1) _ cs6 _ rfl HR6.out.after Tryz.underlying48 rfl (by rw [HL6.out]; exact size24)) rfl ?_
        exact ⟨cs6, rfl, HR6.out.lies, HR6.out.pure⟩
    ·have HF9 : Hid (F = v) := qh (by rw [HF8.out, if_neg hho])
     have h67 : ¬ (v.kind = 6 ∨ v.kind = 7) := fun e => hho (holds_iff.2 e)
     have h6 : (v.kind == 6) = false := by simpa using (fun e => h67 (Or.inl e))
     have h7 : (v.kind == 7) = false := by simpa using (fun e => h67 (Or.inr e))
     have HLz := qh ((((LiesIn.pure (HP0.out.pure ((ext_alloc w (.cells #[.int .i64 v.kind, .int .i64 v.n, .string v.s, .slice a v.l.length c] 48)).pure (ext_alloc _ (.cells #[.int .i64 v.kind, .int .i64 v.n, .string v.s, .slice a v.l.length c] 48)))) HL.out)).mono (A' := fun b => A0 b ∨ w.heap.size ≤ b) (fun b _ h => Or.inl h)))
     generalize v.kind = k0 at *
     generalize v.n = n0 at *
     generalize v.s = s0 at *
     generalize v.l.length = vl at *
     clear HF HF8 h8 h67 hho HHs HFit HRow HL HI HTo
     go_enter Tryz.func81, Tryz.ntmps81
     go_wp2_with fail
     refine bodyPost_ret (results_row1 rfl _ _ (w.heap.size + 1) _ [.int .i64 k0, .int .i64 n0, .string s0, .slice a vl c] _ rfl (blk_alloc w _ _ _) Tryz.underlying48 rfl size24) rfl ?_
     exact ⟨[.int .i64 k0, .int .i64 n0, .string s0, .slice a vl c], rfl, by rw [HF9.out]; exact HLz.out, (ext_alloc w _).pure (ext_alloc _ _)⟩
