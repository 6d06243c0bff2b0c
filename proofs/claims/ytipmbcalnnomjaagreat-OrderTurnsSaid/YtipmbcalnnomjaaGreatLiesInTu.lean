import Derived.Test.YtipmbcalnnomjaaGreatDelTu
import Derived.Test.YtipmbcalnnomjaaGreatGetTu
import Derived.Test.YtipmbcalnnomjaaGreatSqTu
set_option linter.unusedVariables false
set_option linter.unusedSimpArgs false
namespace Go.Proofs.YtipmbcalnnomjaaGreat
open Go.RowKit
def Off (b : Nat) (cs : List Value) : Prop := ∀ x n c, cs[3]? = some (.slice (some x) n c) → x.block ≠ b
def Top (w0 W : World) (d : Nat) (v : V) (cs : List Value) : Prop := ∃ a c xs, cs = [.int .i64 v.kind, .int .i64 v.n, .string v.s, .slice a v.l.length c] ∧ v.l.length ≤ c ∧ c ≤ maxLen ∧ (a = none → v.l.length = 0 ∧ c = 0) ∧ Fit w0 d v.l xs ∧ RowOf W a xs ∧ v.s.size ≤ maxLen
theorem Lies.top {W : World} {d : Nat} {v : V} {cs : List Value} (h : Lies W (d + 1) v cs) : Top W W d v cs := by
 obtain ⟨a, c, xs, h1, h2, h3, h4, h5, h6, h7⟩ := h.fit
 exact ⟨a, c, xs, h1, h2, h3, fun e => ⟨by have := h4 e; omega, h4 e⟩, h5, h6, h7⟩
namespace Top
variable {w0 W W' : World} {d : Nat} {v : V} {cs : List Value}
theorem parts (h : Top w0 W d v cs) : ∃ a c xs, cs = [.int .i64 v.kind, .int .i64 v.n, .string v.s, .slice a v.l.length c] ∧ v.l.length ≤ c ∧ c ≤ maxLen ∧ (a = none → v.l.length = 0 ∧ c = 0) ∧ Fit w0 d v.l xs ∧ RowOf W a xs ∧ v.s.size ≤ maxLen := h
theorem pure (h : Top w0 W d v cs) (hP : Pure W W') : Top w0 W' d v cs := by
 obtain ⟨a, c, xs, h1, h2, h3, h4, h5, h6, h7⟩ := h
 exact ⟨a, c, xs, h1, h2, h3, h4, h5, h6.ext hP (fun _ _ => id), h7⟩
theorem lies (h : Top w0 W d v cs) (hP : Pure w0 W) : Lies W (d + 1) v cs := by
 obtain ⟨a, c, xs, h1, h2, h3, h4, h5, h6, h7⟩ := h
 have := (h5.pure hP).lies h6 v.kind v.n v.s c h2 h3 (fun e => (h4 e).2) h7
 rw [h1]
 cases v
 exact this
theorem len (h : Top w0 W d v cs) : cs.length = 4 := by obtain ⟨a, c, xs, rfl, _⟩ := h; rfl
theorem one (h : Top w0 W d v cs) : cs.toArray.all (fun u => u.oneCell') = true := by
 obtain ⟨a, c, xs, rfl, _⟩ := h
 exact all_oneCell_toArray (by intro u hu; simp only [List.mem_cons, List.not_mem_nil, or_false] at hu; rcases hu with rfl | rfl | rfl | rfl <;> rfl)
end Top
def ValTop (w0 : World) (u : V) (d : Nat) (cs : List Value) (w : World) (e : Ending) (w' : World) : Prop :=
 ∃ cs', e = .returned (.agg cs'.toArray) ∧ Top w0 w' d u cs' ∧ Pure w w' ∧ ∀ b, b < w.heap.size → Off b cs → Off b cs'
theorem Fit.full {w0 W : World} {d : Nat} {l : List V} {xs : List Value} {a : Option Addr} (h : Fit w0 d l xs) (hr : RowOf W a xs) (k : Nat) (u : V) (hk : l[k]? = some u) :
 ∃ b o q, a = some ⟨b, o, none⟩ ∧ W.rangeAt b (o + k * 4) [.int .i64 u.kind, .int .i64 u.n, .string u.s, q] ∧ Lies w0 d u [.int .i64 u.kind, .int .i64 u.n, .string u.s, q] := by
 obtain ⟨rows, rfl, e1, e2, e3⟩ := h.rows
 obtain ⟨hkl, rfl⟩ := List.getElem?_eq_some_iff.1 hk
 have hkr : k < rows.length := by rw [e1]; exact hkl
 have hL := e3 k _ _ hk (List.getElem?_eq_getElem hkr)
 have hg : ∀ j, j < 4 → (rows.flatMap id)[k * 4 + j]? = rows[k][j]? := fun j hj => flat_get id rows (fun r hr => e2 r hr) k hkr j hj
 have hr4 : rows[k].length = 4 := e2 _ (List.getElem_mem hkr)
 obtain ⟨b, o, ha⟩ : ∃ b o, a = some ⟨b, o, none⟩ := by
  obtain ⟨b, o, ha, _⟩ := hr (k * 4 + 0) _ ((hg 0 (by omega)).trans (List.getElem?_eq_getElem (by omega)))
  exact ⟨b, o, ha⟩
 have hrg : W.rangeAt b (o + k * 4) rows[k] := fun j v hv => by
  have hj : j < 4 := by have := (List.getElem?_eq_some_iff.1 hv).1; omega
  obtain ⟨b', o', ha', hc⟩ := hr (k * 4 + j) v ((hg j hj).trans hv)
  rw [ha] at ha'
  cases ha'
  rw [Nat.add_assoc]; exact hc
 clear hg hr4
 obtain ⟨r, hr'⟩ : ∃ r, r = rows[k] := ⟨_, rfl⟩
 rw [← hr'] at hL hrg
 cases d with
 | zero => exact hL.elim
 | succ d =>
   obtain ⟨a', c', _, rfl, _⟩ := hL.kids
   exact ⟨b, o, _, ha, hrg, hL⟩
structure Renewed (w0 w w5 : World) (tb rb : Nat) (u : V) (d : Nat) (x : Value) (w6 : World) (cs : List Value) : Prop where
 is : w6 = w5.setCell ⟨tb, 3, none⟩ x
 len : cs.length = 4
 block : BlockIs w6 tb cs 48
 there : w6.there rb 0 cs.toArray.size
 info : (Tryz.prog.info? 48).map (·.size) = some cs.toArray.size
 one : (cs.toArray.all fun u => u.oneCell') = true
 after : BlockIs (w6.setCells rb 0 cs) rb cs 48
 lies : Top w0 (w6.setCells rb 0 cs) d u cs
 pure : Pure w (w6.setCells rb 0 cs)
 off : ∀ b, b < w.heap.size → Off b cs
theorem renew {w0 w w5 : World} {d tb rb B N : Nat} {v : V} {l : List V} {xs : List Value} {a5 : Option Addr} {c5 : Nat} {old : Value}
 (hB1 : BlockIs w5 tb [.int .i64 v.kind, .int .i64 v.n, .string v.s, old] 48) (hB2 : BlockIs w5 rb zeroCs 48) (hne : tb ≠ rb) (hP : Pure w w5) (htw : w.heap.size ≤ tb) (hrw : w.heap.size ≤ rb)
 (hO : w5.ownsRow B 48 4 (.slice a5 N c5) N xs) (h1 : tb < B) (h2 : rb < B) (hf : Fit w0 d l xs) (hs : v.s.size ≤ maxLen) (hn : N = l.length) :
 ∃ w6 cs, Renewed w0 w w5 tb rb (.mk v.kind v.n v.s l) d (.slice a5 N c5) w6 cs := by
 subst hn
 obtain ⟨a0, c0, he, e1, e2, e3, _⟩ := own_form hO
 cases he
 obtain ⟨w6, hw6⟩ : ∃ z, z = w5.setCell ⟨tb, 3, none⟩ (.slice a5 l.length c5) := ⟨_, rfl⟩
 obtain ⟨cs6, hcs6⟩ : ∃ z, z = [Value.int .i64 v.kind, .int .i64 v.n, .string v.s, .slice a5 l.length c5] := ⟨_, rfl⟩
 have hl6 : cs6.length = 4 := by rw [hcs6]; rfl
 have hB16 : BlockIs w6 tb cs6 48 := by rw [hw6, hcs6]; exact hB1.set 3 (.slice a5 l.length c5)
 have hB26 : BlockIs w6 rb zeroCs 48 := by rw [hw6]; exact hB2.setOther (p := ⟨tb, 3, none⟩) hne _
 have hP6 : Pure w w6 := by rw [hw6]; exact hP.setCell (p := ⟨tb, 3, none⟩) (fun h => by have h1 : tb < w.heap.size := h; omega) _
 have hO6 : w6.ownsRow B 48 4 (.slice a5 l.length c5) l.length xs := by
  rw [hw6]
  exact own_ext hO (Ext.setCell (S := fun k => k = tb) (Ext.refl _ _) (p := ⟨tb, 3, none⟩) (fun _ => rfl) _) (fun g hg e => by have h1 := (hO.lt g hg).1; omega)
 have hP67 : Pure w (w6.setCells rb 0 cs6) := Ext.setCells cs6 0 w6 hP6 (b := rb) (fun h => by omega)
 have hO7 := own_ext hO6 (Ext.setCells cs6 0 w6 (Ext.refl (fun k => k = rb) w6) (b := rb) (fun _ => rfl)) (fun g hg e => by have h1 := (hO6.lt g hg).1; omega)
 have hL7 : Top w0 (w6.setCells rb 0 cs6) d (.mk v.kind v.n v.s l) cs6 := ⟨a5, c5, xs, hcs6, e1, e2, fun e => ⟨by have := e3 e; show l.length = 0; omega, e3 e⟩, hf, own_row hO7, hs⟩
 refine ⟨w6, cs6, hw6, hl6, hB16, by rw [List.size_toArray, hl6]; exact hB26.there 4 rfl, by rw [List.size_toArray, hl6]; exact size24, hL7.one, hB26.setAll cs6 hl6.symm, hL7, hP67, ?_⟩
 intro b hb x n c hx e
 rw [hcs6] at hx
 cases hx
 have := (hO.lt x.block rfl).1
 omega
theorem range_ext {w w' : World} {b o : Nat} {cs : List Value} (h : w.rangeAt b o cs) (e : Pure w w') : w'.rangeAt b o cs := fun j v hv => e.cell_some (h j v hv) id
theorem at_load {P : Program} {ops : Array Oper} {rest : List Oper} {d : Option Tmp} {t : TypeId} {ps : String} {af : Array Edge} {g : Option (Nat × Bool)} {a : Act} {w : World} {Q : Exit → Act → World → Prop} (ty : TypeId) (x : Operand)
 (h : wpList P ops Q (⟨d, .load ty x, t, ps, af, g⟩ :: rest) a w) : wpList P ops Q (⟨d, .load ty x, t, ps, af, g⟩ :: rest) a w := h
theorem at_store {P : Program} {ops : Array Oper} {rest : List Oper} {d : Option Tmp} {t : TypeId} {ps : String} {af : Array Edge} {g : Option (Nat × Bool)} {a : Act} {w : World} {Q : Exit → Act → World → Prop} (ty : TypeId) (x y : Operand)
 (h : wpList P ops Q (⟨d, .store ty x y, t, ps, af, g⟩ :: rest) a w) : wpList P ops Q (⟨d, .store ty x y, t, ps, af, g⟩ :: rest) a w := h
end Go.Proofs.YtipmbcalnnomjaaGreat
namespace Go.Proofs.YtipmbcalnnomjaaGreat
open Go.RowKit
def LiesIn (A : Nat → Prop) (W : World) : Nat → V → List Value → Prop
 | 0, _, _ => False
 | d + 1, v, cs => ∃ (a : Option Addr) (c : Nat) (rows : List (List Value)), cs = [.int .i64 v.kind, .int .i64 v.n, .string v.s, .slice a v.l.length c] ∧ rows.length = v.l.length ∧ (∀ r ∈ rows, r.length = 4) ∧ RowOf W a (rows.flatMap id) ∧ v.l.length ≤ c ∧ c ≤ maxLen ∧ (a = none → c = 0) ∧ (∀ (i : Nat) (u : V) (r : List Value), v.l[i]? = some u → rows[i]? = some r → LiesIn A W d u r) ∧ v.s.size ≤ maxLen ∧ (∀ x, a = some x → rows ≠ [] → A x.block)
theorem LiesIn.lies {A : Nat → Prop} {W : World} : ∀ {d : Nat} {v : V} {cs : List Value}, LiesIn A W d v cs → Lies W d v cs
 | 0, _, _, h => h.elim
 | d + 1, v, cs, h => by
   obtain ⟨a, c, rows, h1, h2, h3, h4, h5, h6, h7, h8, h9, _⟩ := h
   exact ⟨a, c, rows, h1, h2, h3, h4, h5, h6, h7, fun i u r hu hr => (h8 i u r hu hr).lies, h9⟩
theorem LiesIn.mono {A A' : Nat → Prop} {W : World} (hA : ∀ b, b < W.heap.size → A b → A' b) : ∀ {d : Nat} {v : V} {cs : List Value}, LiesIn A W d v cs → LiesIn A' W d v cs
 | 0, _, _, h => h.elim
 | d + 1, v, cs, h => by
   obtain ⟨a, c, rows, h1, h2, h3, h4, h5, h6, h7, h8, h9, h10⟩ := h
   refine ⟨a, c, rows, h1, h2, h3, h4, h5, h6, h7, fun i u r hu hr => (h8 i u r hu hr).mono hA, h9, fun x hx hne => hA _ ?_ (h10 x hx hne)⟩
   subst hx
   have hpos : 0 < (rows.flatMap id).length := by
    cases rows with
    | nil => exact absurd rfl hne
    | cons r rows => rw [List.flatMap_cons, List.length_append]; have := h3 r (by simp); simp only [id]; omega
   obtain ⟨b, o, hb, hc⟩ := h4 0 _ (List.getElem?_eq_getElem hpos)
   cases hb
   exact World.block_lt_of_cell? W _ hc
theorem LiesIn.ext {A S : Nat → Prop} {W W' : World} (hE : Ext S W W') (hS : ∀ b, A b → ¬ S b) : ∀ {d : Nat} {v : V} {cs : List Value}, LiesIn A W d v cs → LiesIn A W' d v cs
 | 0, _, _, h => h.elim
 | d + 1, v, cs, h => by
   obtain ⟨a, c, rows, h1, h2, h3, h4, h5, h6, h7, h8, h9, h10⟩ := h
   refine ⟨a, c, rows, h1, h2, h3, ?_, h5, h6, h7, fun i u r hu hr => LiesIn.ext hE hS (h8 i u r hu hr), h9, h10⟩
   by_cases hne : rows = []
   ·subst hne; intro i u hu; simp at hu
   ·exact h4.ext hE (fun x hx => hS _ (h10 x hx hne))
theorem LiesIn.pure {A : Nat → Prop} {W W' : World} (hE : Pure W W') {d : Nat} {v : V} {cs : List Value} (h : LiesIn A W d v cs) : LiesIn A W' d v cs := h.ext hE (fun _ _ => id)
theorem Lies.within {W : World} : ∀ {d : Nat} {v : V} {cs : List Value}, Lies W d v cs → LiesIn (fun b => b < W.heap.size) W d v cs
 | 0, _, _, h => h.elim
 | d + 1, v, cs, h => by
   obtain ⟨a, c, rows, h1, h2, h3, h4, h5, h6, h7, h8, h9⟩ := h
   refine ⟨a, c, rows, h1, h2, h3, h4, h5, h6, h7, fun i u r hu hr => (h8 i u r hu hr).within, h9, fun x hx hne => ?_⟩
   subst hx
   have hpos : 0 < (rows.flatMap id).length := by
    cases rows with
    | nil => exact absurd rfl hne
    | cons r rows => rw [List.flatMap_cons, List.length_append]; have := h3 r (by simp); simp only [id]; omega
   obtain ⟨b, o, hb, hc⟩ := h4 0 _ (List.getElem?_eq_getElem hpos)
   cases hb
   exact World.block_lt_of_cell? W _ hc
def FitIn (A : Nat → Prop) (W : World) (d : Nat) (l : List V) (xs : List Value) : Prop := ∃ rows : List (List Value), xs = rows.flatMap id ∧ rows.length = l.length ∧ (∀ r ∈ rows, r.length = 4) ∧ (∀ (i : Nat) (u : V) (r : List Value), l[i]? = some u → rows[i]? = some r → LiesIn A W d u r)
namespace FitIn
variable {A A' S : Nat → Prop} {W W' : World} {d : Nat} {l : List V} {xs : List Value}
theorem nil : FitIn A W d [] [] := ⟨[], rfl, rfl, (fun r hr => by cases hr), (fun i u r hu => by simp at hu)⟩
theorem ext (h : FitIn A W d l xs) (hE : Ext S W W') (hS : ∀ b, A b → ¬ S b) : FitIn A W' d l xs := by
 obtain ⟨rows, h1, h2, h3, h4⟩ := h
 exact ⟨rows, h1, h2, h3, fun i u r hu hr => (h4 i u r hu hr).ext hE hS⟩
theorem mono (h : FitIn A W d l xs) (hA : ∀ b, b < W.heap.size → A b → A' b) : FitIn A' W d l xs := by
 obtain ⟨rows, h1, h2, h3, h4⟩ := h
 exact ⟨rows, h1, h2, h3, fun i u r hu hr => (h4 i u r hu hr).mono hA⟩
theorem snoc (h : FitIn A W d l xs) {u : V} {r : List Value} (hu : LiesIn A W d u r) : FitIn A W d (l ++ [u]) (xs ++ r) := by
 obtain ⟨rows, h1, h2, h3, h4⟩ := h
 have hl := hu.lies.len
 refine ⟨rows ++ [r], by rw [List.flatMap_append, ← h1]; simp, by simp [h2], ?_, ?_⟩
 ·intro x hx
  rcases List.mem_append.1 hx with hx | hx
  ·exact h3 x hx
  ·simp at hx; rw [hx]; exact hl
 ·intro i v x hv hx
  by_cases hi : i < l.length
  ·rw [List.getElem?_append_left hi] at hv
   rw [List.getElem?_append_left (by omega)] at hx
   exact h4 i v x hv hx
  ·rw [List.getElem?_append_right (by omega)] at hv
   rw [List.getElem?_append_right (by omega)] at hx
   have hi0 : i - l.length = 0 := by
    rcases Nat.eq_zero_or_pos (i - l.length) with e | e
    ·exact e
    ·rw [List.getElem?_eq_none (by simp; omega)] at hv; cases hv
   rw [hi0] at hv
   rw [h2, hi0] at hx
   cases hv
   cases hx
   exact hu
theorem lies (h : FitIn A W d l xs) {a : Option Addr} (hr : RowOf W a xs) (k n : Int) (s : ByteArray) (c : Nat) (hc : l.length ≤ c) (hcm : c ≤ maxLen) (hnil : a = none → c = 0) (hs : s.size ≤ maxLen) (ha : ∀ x, a = some x → A x.block) :
 LiesIn A W (d + 1) (.mk k n s l) [.int .i64 k, .int .i64 n, .string s, .slice a l.length c] := by
 obtain ⟨rows, rfl, h2, h3, h4⟩ := h
 exact ⟨a, c, rows, rfl, h2, h3, hr, hc, hcm, hnil, h4, hs, fun x hx _ => ha x hx⟩
end FitIn
theorem LiesIn.leaf (A : Nat → Prop) (W : World) (d : Nat) (k n : Int) (s : ByteArray) (hs : s.size ≤ maxLen) : LiesIn A W (d + 1) (.mk k n s []) [.int .i64 k, .int .i64 n, .string s, .slice none 0 0] :=
 FitIn.nil.lies (a := none) (fun i u hu => by simp at hu) k n s 0 (Nat.le_refl _) (Nat.zero_le _) (fun _ => rfl) hs (fun x hx => by cases hx)
