/-
  Values as trees, and how they lie in memory; walked: the reference's Few.
  How deep a value is; walked: the two Depths, holds, small.
  Walked: the program's Depth.
  Walked: may a number be? (both)
  May a dictionary's names be? (both)
  May a dictionary's names be? (the reference's)
  Walked: strings.IndexByte, the reference's Text.
  May a value be, by itself? (both)
  Walked: own (own), of values that hold no number, no name and no dictionary.
  Walked: the program's own, of values without anything, of numbers and names.
  Walked: the program's own, of dictionaries and of what has no kind.
  Walked: the program's own, of every value.
  Walked: own (refown), of values that hold no number, no name and no dictionary.
  Walked: the reference's own, of numbers, names, dictionaries and of what has no kind.
  Walked: the reference's own, of texts; and of every value.
  Walked: the program's walk through a value, with any closure.
  The first error of a value; walked: the reference's first and Check.
  Walked: both Checks.
  How two values stand (plain); walked: cmp.Compare, cmp.Or, strings.Compare.
  Walked: the reference's Compare and Same.
  Walked: slices.CompareFunc over values, handed the program's Compare.
  Walked: the reference's Same.
  Walked: the program's Compare and Same.
  Walked: slices.Clone of values.
  Walked: slices.Insert of values into a row of the call's own.
  Walked: slices.Insert whatever the place, slices.Replace of one value, slices.Delete, at a row of the call's own.
  Walked: slices.Delete at a row of the call's own.
  Which values stand in so many cells; plain: find, put, drop.
  Walked: the program's find and the reference's Find.
  A result that lies in memory, read whole.
  Walked: Get, of the program and of the reference.
  A value whose parts lie in an elder world, its row wherever; a value whose row is another one: the store of the new row, and the result read whole.
-/
import Derived.Test.YtomcdhljjmnahaaLibBB
import Derived.Test.YtomcdhljjmnahaaLibBA
import Derived.OwnWalk
import Derived.Deep.QuietTactic
import Derived.BigQuiet
import Derived.Lib.Bytealg
import Derived.Lib.IndexLaws
import Derived.Laws.Externs
import Derived.Laws.Strings
import Derived.Deep.RegionLaw
import Derived.Laws.Rows
import Derived.Laws.ResultCell
namespace Go.Proofs.Ytomcdhljjmnahaa.V11
set_option linter.unusedVariables false
set_option linter.unusedSimpArgs false
open Go.RowKit

inductive V where
  | mk (kind n : Int) (s : ByteArray) (l : List V)
namespace V
def kind : V → Int | mk k _ _ _ => k
def n : V → Int | mk _ n _ _ => n
def s : V → ByteArray | mk _ _ s _ => s
def l : V → List V | mk _ _ _ l => l
end V
/-- the four cells of a value lie there, and all that they lead to -/
def Lies (W : World) : Nat → V → List Value → Prop
  | 0, _, _ => False
  | d + 1, v, cs => ∃ (a : Option Addr) (c : Nat) (rows : List (List Value)), cs = [.int .i64 v.kind, .int .i64 v.n, .string v.s, .slice a v.l.length c] ∧ rows.length = v.l.length ∧ (∀ r ∈ rows, r.length = 4) ∧ RowOf W a (rows.flatMap id) ∧ v.l.length ≤ c ∧ c ≤ maxLen ∧ (a = none → c = 0) ∧ (∀ (i : Nat) (u : V) (r : List Value), v.l[i]? = some u → rows[i]? = some r → Lies W d u r) ∧ v.s.size ≤ maxLen
theorem Lies.pure {W W' : World} (h : Pure W W') : ∀ {d : Nat} {v : V} {cs : List Value}, Lies W d v cs → Lies W' d v cs
  | 0, _, _, hl => hl
  | d + 1, v, cs, hl => by
    obtain ⟨a, c, rows, h1, h2, h3, h4, h5, h6, h7, h8, h9⟩ := hl
    exact ⟨a, c, rows, h1, h2, h3, h4.ext h (fun _ _ => id), h5, h6, h7, fun i u r hu hr => Lies.pure h (h8 i u r hu hr), h9⟩
theorem Lies.len {W : World} {d : Nat} {v : V} {cs : List Value} (h : Lies W d v cs) : cs.length = 4 := by
  cases d with
  | zero => exact h.elim
  | succ d => obtain ⟨a, c, rows, rfl, _⟩ := h; rfl
theorem Lies.more {W : World} : ∀ {d : Nat} {v : V} {cs : List Value}, Lies W d v cs → Lies W (d + 1) v cs
  | 0, _, _, h => h.elim
  | d + 1, v, cs, h => by
    obtain ⟨a, c, rows, h1, h2, h3, h4, h5, h6, h7, h8, h9⟩ := h
    exact ⟨a, c, rows, h1, h2, h3, h4, h5, h6, h7, fun i u r hu hr => (h8 i u r hu hr).more, h9⟩
theorem Lies.mono {W : World} {d d' : Nat} {v : V} {cs : List Value} (h : Lies W d v cs) (hd : d ≤ d') : Lies W d' v cs := by
  induction hd with
  | refl => exact h
  | step _ ih => exact ih.more
/-- what is in a value, where it lies -/
structure Kids (W : World) (d : Nat) (l : List V) (a : Option Addr) (rows : List (List Value)) : Prop where
  len : rows.length = l.length
  four : ∀ r ∈ rows, r.length = 4
  row : RowOf W a (rows.flatMap id)
  lies : ∀ (i : Nat) (u : V) (r : List Value), l[i]? = some u → rows[i]? = some r → Lies W d u r
theorem Kids.pure {W W' : World} {d : Nat} {l : List V} {a : Option Addr} {rows : List (List Value)} (h : Kids W d l a rows) (hP : Pure W W') : Kids W' d l a rows :=
  ⟨h.len, h.four, h.row.ext hP (fun _ _ => id), fun i u r hu hr => (h.lies i u r hu hr).pure hP⟩
theorem Kids.at {W : World} {d : Nat} {l : List V} {a : Option Addr} {rows : List (List Value)} (h : Kids W d l a rows) (k : Nat) (u : V) (hk : l[k]? = some u) :
    ∃ b o r, a = some ⟨b, o, none⟩ ∧ W.rangeAt b (o + k * 4) r ∧ r.length = 4 ∧ Lies W d u r := by
  obtain ⟨hkl, rfl⟩ := List.getElem?_eq_some_iff.1 hk
  have hkr : k < rows.length := by rw [h.len]; exact hkl
  have h4 := h.four _ (List.getElem_mem hkr)
  have hg : ∀ j, j < 4 → (rows.flatMap id)[k * 4 + j]? = rows[k][j]? := fun j hj => flat_get id rows (fun r hr => h.four r hr) k hkr j hj
  obtain ⟨b, o, ha, _⟩ := h.row (k * 4 + 0) _ ((hg 0 (by omega)).trans (List.getElem?_eq_getElem (by omega)))
  refine ⟨b, o, rows[k], ha, fun j v hv => ?_, h4, h.lies k _ _ hk (List.getElem?_eq_getElem hkr)⟩
  have hj : j < 4 := by have := (List.getElem?_eq_some_iff.1 hv).1; omega
  obtain ⟨b', o', ha', hc⟩ := h.row (k * 4 + j) v ((hg j hj).trans hv)
  rw [ha] at ha'
  cases ha'
  rw [Nat.add_assoc]; exact hc
theorem Lies.kids {W : World} {d : Nat} {v : V} {cs : List Value} (h : Lies W (d + 1) v cs) : ∃ a c rows, cs = [.int .i64 v.kind, .int .i64 v.n, .string v.s, .slice a v.l.length c] ∧ v.l.length ≤ c ∧ c ≤ maxLen ∧ (a = none → c = 0) ∧ Kids W d v.l a rows ∧ v.s.size ≤ maxLen := by
  obtain ⟨a, c, rows, h1, h2, h3, h4, h5, h6, h7, h8, h9⟩ := h
  exact ⟨a, c, rows, h1, h5, h6, h7, ⟨h2, h3, h4, h8⟩, h9⟩

mutual
/-- how many values are left of so many -/
def V.few : V → Int → Int
  | .mk _ _ _ l, left => fewL l (left - 1)
def fewL : List V → Int → Int
  | [], left => left
  | v :: l, left => if 0 ≤ left then fewL l (v.few left) else left
end
theorem few_eq (v : V) (left : Int) : v.few left = fewL v.l (left - 1) := by cases v; simp [V.few, V.l]
theorem fewL_neg {l : List V} {x : Int} (h : x < 0) : fewL l x = x := by
  cases l with
  | nil => simp [fewL]
  | cons v l => rw [fewL, if_neg (by omega)]
theorem fewL_snoc (l : List V) (v : V) (x : Int) : fewL (l ++ [v]) x = if 0 ≤ fewL l x then v.few (fewL l x) else fewL l x := by
  induction l generalizing x with
  | nil => rw [List.nil_append, fewL, fewL, fewL]
  | cons u l ih =>
    rw [List.cons_append, fewL, fewL]
    by_cases h : 0 ≤ x
    · rw [if_pos h, if_pos h, ih]
    · rw [if_neg h, if_neg h, if_neg h]
mutual
theorem V.few_low : ∀ (v : V) (x : Int), 0 ≤ x → -1 ≤ v.few x ∧ v.few x ≤ x
  | .mk _ _ _ l, x, h => by
    have := fewL_low l (x - 1) (by omega)
    simp only [V.few]; omega
theorem fewL_low : ∀ (l : List V) (x : Int), -1 ≤ x → -1 ≤ fewL l x ∧ fewL l x ≤ x
  | [], x, h => by simp [fewL]; omega
  | v :: l, x, h => by
    rw [fewL]
    by_cases h0 : 0 ≤ x
    · rw [if_pos h0]
      have h1 := V.few_low v x h0
      have h2 := fewL_low l (v.few x) h1.1
      omega
    · rw [if_neg h0]; omega
end
def IntTo (x : Int) (w : World) (e : Ending) (w' : World) : Prop := e = .returned (.int .i64 x) ∧ Pure w w'
section
open Go.ChangeShapes Go.WideShapes Go.ChangeAt
set_option maxRecDepth 100000 in
theorem open_lies {H : Type} {enc : TypeId × Value → H} {W : World} {held : Bool} : ∀ (F : Nat) (cs : List Value) (y : DataW H × List MemPlace), DataW.trod enc Try.prog W 0 (fun _ => true) held F 40 cs = some y → cs.length = 4 → ∃ v, Lies W F v cs := by
  intro F
  induction F using Nat.strongRecOn with
  | ind F ih =>
    intro cs y hy hlen
    have s4 : Try.prog.cellsOf 40 = 4 := by kernel_rfl
    have s0 : Try.prog.cellsOf 3 = 1 := by kernel_rfl
    have s1 : Try.prog.cellsOf 9 = 1 := by kernel_rfl
    have s2 : Try.prog.cellsOf 38 = 1 := by kernel_rfl
    match cs, hlen with
    | [c0, c1, c2, c3], _ =>
      obtain ⟨xs, n, hF, hx, _, hl4, hfs⟩ := DataW.trod_struct Try.underlying40 hy
      have h0 : DataW.trod enc Try.prog W 0 (fun _ => true) held n 3 (([c0, c1, c2, c3].drop 0).take (Try.prog.cellsOf 3)) = xs[0]? := hfs 0 _ rfl
      have h1 : DataW.trod enc Try.prog W 0 (fun _ => true) held n 3 (([c0, c1, c2, c3].drop 1).take (Try.prog.cellsOf 3)) = xs[1]? := hfs 1 _ rfl
      have h2 : DataW.trod enc Try.prog W 0 (fun _ => true) held n 9 (([c0, c1, c2, c3].drop 2).take (Try.prog.cellsOf 9)) = xs[2]? := hfs 2 _ rfl
      have h3 : DataW.trod enc Try.prog W 0 (fun _ => true) held n 38 (([c0, c1, c2, c3].drop 3).take (Try.prog.cellsOf 38)) = xs[3]? := hfs 3 _ rfl
      rw [s0] at h0 h1
      rw [s1] at h2
      rw [s2] at h3
      simp only [List.drop, List.take] at h0 h1 h2 h3
      match xs, hl4 with
      | [y0, y1, y2, y3], _ =>
        simp only [List.getElem?_cons_zero, List.getElem?_cons_succ] at h0 h1 h2 h3
        obtain ⟨k, e0, _, _⟩ := DataW.trod_int Try.underlying3 h0
        obtain ⟨m, e1, _, _⟩ := DataW.trod_int Try.underlying3 h1
        obtain ⟨s, e2, _, hs⟩ := DataW.trod_string Try.underlying9 h2
        cases e0
        cases e1
        cases e2
        obtain ⟨a, c, rows, hcs, hl, hm, hn, hq, hrow⟩ := open_rows2 (size := 4) (Q := fun cs (u : V) => Lies W n u cs) Try.underlying38 s4 (by decide) (fun n' cs y hn' hy hlen => by
          obtain ⟨u, hu⟩ := ih n' (by omega) cs y hy hlen
          exact ⟨u, hu.mono (by omega)⟩) h3
        cases hcs
        subst hF
        refine ⟨.mk k m s (rows.map (·.2)), a, c, rows.map (·.1), by simp [V.kind, V.n, V.s, V.l], by simp [V.l], ?_, ?_, by simpa [V.l] using hl, hm, hn, ?_, hs⟩
        · intro r hr
          obtain ⟨q, hq', rfl⟩ := List.mem_map.1 hr
          exact (hq q hq').1
        · rw [List.flatMap_map]; exact hrow
        · intro i u r hu hr
          simp only [V.l, List.getElem?_map, Option.map_eq_some_iff] at hu hr
          obtain ⟨q, h1, rfl⟩ := hu
          obtain ⟨q', h2, rfl⟩ := hr
          rw [h1] at h2
          cases h2
          exact (hq q (List.mem_of_getElem? h1)).2
set_option maxRecDepth 100000 in
theorem open_val {H : Type} {enc : TypeId × Value → H} {W : World} {v : Value} {d : DataW H} {p : List MemPlace} {base : Nat}
    (hv : Value.okWide Try.prog W .any base 40 v) (h : DataW.Trod enc Try.prog W 0 (fun _ => true) true 40 v d p) :
    ∃ (F : Nat) (u : V) (cs : List Value), v = .agg cs.toArray ∧ Lies W F u cs := by
  obtain ⟨cs, rfl, hcs⟩ := okWide_struct Try.underlying40 hv
  have s4 : Try.prog.cellsOf 40 = 4 := by kernel_rfl
  rw [s4] at hcs
  obtain ⟨fuel, hf⟩ := h
  obtain ⟨u, hu⟩ := open_lies fuel _ _ hf (by simpa [Value.cells] using hcs)
  exact ⟨fuel, u, cs.toList, by simp, by simpa [Value.cells] using hu⟩
end
end Go.Proofs.Ytomcdhljjmnahaa.V11
namespace Go.Proofs.Ytomcdhljjmnahaa.V11
set_option linter.unusedVariables false
set_option linter.unusedSimpArgs false
open Go.RowKit

mutual
/-- how many values there are in one -/
def V.size : V → Nat
  | .mk _ _ _ l => 1 + sizeL l
def sizeL : List V → Nat
  | [] => 0
  | v :: l => v.size + sizeL l
end
mutual
/-- how deep one is -/
def V.depth : V → Nat
  | .mk k _ _ l => if (k == 6 || k == 7) = true then 1 + depthL l else 1
def depthL : List V → Nat
  | [] => 0
  | v :: l => max v.depth (depthL l)
end
theorem size_eq (v : V) : v.size = 1 + sizeL v.l := by cases v; simp [V.size, V.l]
mutual
theorem V.few_size : ∀ (v : V) (x : Int), 0 ≤ x → v.few x = if (v.size : Int) ≤ x then x - v.size else -1
  | .mk _ _ _ l, x, h => by
    rw [V.few, V.size, fewL_size l (x - 1) (by omega)]
    by_cases e : (sizeL l : Int) ≤ x - 1
    · rw [if_pos e, if_pos (by omega)]; omega
    · rw [if_neg e, if_neg (by omega)]
theorem fewL_size : ∀ (l : List V) (x : Int), -1 ≤ x → fewL l x = if (sizeL l : Int) ≤ x then x - sizeL l else -1
  | [], x, h => by
    rw [fewL, sizeL]
    by_cases e : ((0 : Nat) : Int) ≤ x
    · rw [if_pos e]; omega
    · rw [if_neg e]; omega
  | v :: l, x, h => by
    rw [fewL, sizeL]
    by_cases h0 : 0 ≤ x
    · rw [if_pos h0, V.few_size v x h0]
      by_cases e : (v.size : Int) ≤ x
      · rw [if_pos e, fewL_size l _ (by omega)]
        by_cases e2 : (sizeL l : Int) ≤ x - v.size
        · rw [if_pos e2, if_pos (by omega)]; omega
        · rw [if_neg e2, if_neg (by omega)]
      · rw [if_neg e, if_neg (by omega)]
        exact fewL_neg (by decide)
    · rw [if_neg h0, if_neg (by omega)]; omega
end
mutual
theorem V.depth_size : ∀ (v : V), v.depth ≤ v.size
  | .mk k _ _ l => by
    have := depthL_size l
    rw [V.depth, V.size]
    split <;> omega
theorem depthL_size : ∀ (l : List V), depthL l ≤ sizeL l
  | [] => by simp [depthL]
  | v :: l => by
    have h1 := V.depth_size v
    have h2 := depthL_size l
    rw [depthL, sizeL]; omega
end
theorem depthL_snoc (l : List V) (v : V) : depthL (l ++ [v]) = max (depthL l) v.depth := by
  induction l with
  | nil => simp [depthL]
  | cons u l ih => rw [List.cons_append, depthL, depthL, ih, Nat.max_assoc]
theorem sizeL_append (l m : List V) : sizeL (l ++ m) = sizeL l + sizeL m := by
  induction l with
  | nil => simp [sizeL]
  | cons u l ih => rw [List.cons_append, sizeL, sizeL, ih]; omega
theorem size_mem {l : List V} {v : V} (h : v ∈ l) : v.size ≤ sizeL l := by
  induction l with
  | nil => cases h
  | cons u l ih =>
    rw [sizeL]
    rcases List.mem_cons.1 h with rfl | h
    · omega
    · have := ih h; omega
def BoolTo (x : Bool) (w : World) (e : Ending) (w' : World) : Prop := e = .returned (.bool x) ∧ Pure w w'
/-- may a value have others in it? -/
def V.holds (v : V) : Bool := v.kind == 6 || v.kind == 7
theorem holds_iff {v : V} : v.holds = true ↔ v.kind = 6 ∨ v.kind = 7 := by simp [V.holds]
theorem depth_eq (v : V) : v.depth = if v.holds = true then 1 + depthL v.l else 1 := by cases v; rw [V.depth]; rfl
end Go.Proofs.Ytomcdhljjmnahaa.V11
namespace Go.Proofs.Ytomcdhljjmnahaa.V11
set_option linter.unusedVariables false
set_option linter.unusedSimpArgs false
open Go.RowKit

theorem Lies.one {W : World} {d : Nat} {v : V} {cs : List Value} (h : Lies W d v cs) : cs.toArray.all (fun u => u.oneCell') = true := by
  cases d with
  | zero => exact h.elim
  | succ d =>
    obtain ⟨a, c, rows, rfl, _⟩ := h
    exact all_oneCell_toArray (by intro u hu; simp only [List.mem_cons, List.not_mem_nil, or_false] at hu; rcases hu with rfl | rfl | rfl | rfl <;> rfl)
def zeroCs : List Value := [.int .i64 0, .int .i64 0, .string ⟨#[]⟩, .slice none 0 0]
/-- a new variable holds a value -/
theorem put_new {W : World} {d : Nat} {v : V} {cs : List Value} (C : Array Value) (hC : C = zeroCs.toArray) (h : Lies W d v cs) : (W.alloc (.cells C 40)).there W.heap.size 0 4 ∧ BlockIs ((W.alloc (.cells C 40)).setCells W.heap.size 0 cs) W.heap.size cs 40 ∧ Pure W ((W.alloc (.cells C 40)).setCells W.heap.size 0 cs) := by
  subst hC
  have hB := BlockIs.new W zeroCs 40
  exact ⟨hB.there 4 rfl, hB.setAll cs (by rw [h.len]; rfl), Ext.setCells cs 0 _ (ext_alloc W _) (fun h => absurd h (Nat.lt_irrefl _))⟩
end Go.Proofs.Ytomcdhljjmnahaa.V11
namespace Go.Proofs.Ytomcdhljjmnahaa.V11
set_option linter.unusedVariables false
set_option linter.unusedSimpArgs false
open Go.RowKit

/-- which error a number has -/
def numE (k n : Int) (s : ByteArray) (len : Nat) : Int :=
  if s.toList = [] ∧ len = 0 ∧ ((k = 2 ∧ -2147483647 ≤ n ∧ n ≤ 2147483647) ∨ (k = 3 ∧ -2147483647000000 ≤ n ∧ n ≤ 2147483647000000)) then 0 else 2
end Go.Proofs.Ytomcdhljjmnahaa.V11
namespace Go.Proofs.Ytomcdhljjmnahaa.V11
set_option linter.unusedVariables false
set_option linter.unusedSimpArgs false
open Go.RowKit

theorem Kids.cells {W : World} {d : Nat} {l : List V} {a : Option Addr} {rows : List (List Value)} (h : Kids W d l a rows) (k : Nat) (u : V) (hk : l[k]? = some u) :
    ∃ b o a' c', a = some ⟨b, o, none⟩ ∧ W.cell? ⟨b, o + k * 4, none⟩ = some (.int .i64 u.kind) ∧ W.cell? ⟨b, o + k * 4 + 1, none⟩ = some (.int .i64 u.n) ∧ W.cell? ⟨b, o + k * 4 + 2, none⟩ = some (.string u.s) ∧ W.cell? ⟨b, o + k * 4 + 3, none⟩ = some (.slice a' u.l.length c') := by
  obtain ⟨b, o, r, ha, hr, _, hL⟩ := h.at k u hk
  cases d with
  | zero => exact hL.elim
  | succ d =>
    obtain ⟨a', c', _, rfl, _⟩ := hL.kids
    exact ⟨b, o, a', c', ha, hr 0 _ rfl, hr 1 _ rfl, hr 2 _ rfl, hr 3 _ rfl⟩
def kindAt (l : List V) (i : Nat) : Int := (l[i]?.map V.kind).getD 0
def keyAt (l : List V) (i : Nat) : ByteArray := (l[i]?.map V.s).getD ⟨#[]⟩
def lessB (a b : ByteArray) : Bool := Op.bytesLess a.toList b.toList
def namesB (l : List V) : Bool := (List.range (l.length / 2)).all fun j => kindAt l (2 * j) == 5
def orderB (l : List V) : Bool := (List.range (l.length / 2 - 1)).all fun j => lessB (keyAt l (2 * j)) (keyAt l (2 * j + 2))
def dictE (l : List V) : Int := if l.length % 2 = 1 then 2 else if namesB l = true then (if orderB l = true then 0 else 16) else 2
theorem namesB_true {l : List V} : namesB l = true ↔ ∀ j, j < l.length / 2 → kindAt l (2 * j) = 5 := by simp [namesB]
theorem orderB_true {l : List V} : orderB l = true ↔ ∀ j, j < l.length / 2 - 1 → lessB (keyAt l (2 * j)) (keyAt l (2 * j + 2)) = true := by simp [orderB]
theorem kindAt_some {l : List V} {i : Nat} {u : V} (h : l[i]? = some u) : kindAt l i = u.kind := by simp [kindAt, h]
theorem keyAt_some {l : List V} {i : Nat} {u : V} (h : l[i]? = some u) : keyAt l i = u.s := by simp [keyAt, h]
end Go.Proofs.Ytomcdhljjmnahaa.V11
namespace Go.Proofs.Ytomcdhljjmnahaa.V11
set_option linter.unusedVariables false
set_option linter.unusedSimpArgs false
open Go.RowKit

theorem bl_total : ∀ x y : List UInt8, (Op.bytesLess y x || y == x) = !Op.bytesLess x y
  | [], [] => by simp [Op.bytesLess]
  | [], b :: y => by simp [Op.bytesLess]
  | a :: x, [] => by simp [Op.bytesLess]
  | a :: x, b :: y => by
    have ih := bl_total x y
    simp only [Op.bytesLess]
    by_cases h1 : a < b
    · have h2 : ¬ b < a := by simp only [UInt8.lt_iff_toNat_lt] at *; omega
      have h3 : ¬ b = a := fun e => by subst e; simp only [UInt8.lt_iff_toNat_lt] at h1; omega
      simp [h1, h2, h3]
    · by_cases h2 : a = b
      · subst h2
        simp only [UInt8.lt_irrefl, decide_false, Bool.false_or, beq_self_eq_true, Bool.true_and, ← ih]
        simp
      · have h3 : b < a := by
          simp only [UInt8.lt_iff_toNat_lt] at *
          have : a.toNat ≠ b.toNat := fun e => h2 (UInt8.toNat_inj.1 e)
          omega
        simp [h1, h2, h3]
def dictOwn (n : Int) (s : ByteArray) (l : List V) : Int := if n = 0 ∧ s.toList = [] then dictE l else 2
end Go.Proofs.Ytomcdhljjmnahaa.V11
namespace Go.Proofs.Ytomcdhljjmnahaa.V11
set_option linter.unusedVariables false
set_option linter.unusedSimpArgs false
open Go.RowKit

/-- may a text be a name's? -/
def textB (s : ByteArray) : Bool := decide (s.size ≤ 127) && !(s.data.toList.contains 0)
theorem idx_text (s : ByteArray) : decide (0 ≤ Lib.indexByte s.data.toList 0) = s.data.toList.contains 0 := by
  by_cases h : (0 : UInt8) ∈ s.data.toList
  · have h1 : s.data.toList.contains 0 = true := by simpa using h
    rw [h1]
    refine decide_eq_true ?_
    have h2 := Lib.indexByte_ge s.data.toList 0
    by_cases e : Lib.indexByte s.data.toList 0 = -1
    · obtain ⟨k, hk, hk2⟩ := List.mem_iff_getElem.1 h
      exact absurd (by rw [List.getElem?_eq_getElem hk, hk2]) (Lib.indexByte_none e k)
    · omega
  · have h1 : s.data.toList.contains 0 = false := by simpa using h
    rw [h1]
    refine decide_eq_false ?_
    intro h2
    obtain ⟨o, ho⟩ : ∃ o : Nat, Lib.indexByte s.data.toList 0 = (o : Int) := ⟨_, (Int.toNat_of_nonneg h2).symm⟩
    have := (Lib.indexByte_some ho).1
    exact h (List.mem_of_getElem? this)
end Go.Proofs.Ytomcdhljjmnahaa.V11
namespace Go.Proofs.Ytomcdhljjmnahaa.V11
set_option linter.unusedVariables false
set_option linter.unusedSimpArgs false
open Go.RowKit

/-- which error a value has by itself -/
def ownE (k n : Int) (s : ByteArray) (l : List V) : Int :=
  if k = 0 then (if n = 0 ∧ s.toList = [] ∧ l.length = 0 then 0 else 2)
  else if k = 1 then (if (n = 0 ∨ n = 1) ∧ s.toList = [] ∧ l.length = 0 then 0 else 2)
  else if k = 2 ∨ k = 3 then numE k n s l.length
  else if k = 4 then (if n = 0 ∧ l.length = 0 then 0 else 2)
  else if k = 5 then (if textB s = true then (if n = 0 ∧ l.length = 0 then 0 else 2) else 17)
  else if k = 6 then (if n = 0 ∧ s.toList = [] then 0 else 2)
  else if k = 7 then dictOwn n s l
  else if k = 8 then (if (1 ≤ n ∧ n ≤ 4096) ∧ s.toList = [] ∧ l.length = 0 then 0 else 2)
  else 2
end Go.Proofs.Ytomcdhljjmnahaa.V11
namespace Go.Proofs.Ytomcdhljjmnahaa.V11
set_option linter.unusedVariables false
set_option linter.unusedSimpArgs false
open Go.RowKit

theorem ownE_1 (n : Int) (s : ByteArray) (l : List V) : ownE 1 n s l = if (n = 0 ∨ n = 1) ∧ s.toList = [] ∧ l.length = 0 then 0 else 2 := by unfold ownE; rw [if_neg (by decide), if_pos rfl]
theorem ownE_4 (n : Int) (s : ByteArray) (l : List V) : ownE 4 n s l = if n = 0 ∧ l.length = 0 then 0 else 2 := by unfold ownE; rw [if_neg (by decide), if_neg (by decide), if_neg (by decide), if_pos rfl]
theorem ownE_6 (n : Int) (s : ByteArray) (l : List V) : ownE 6 n s l = if n = 0 ∧ s.toList = [] then 0 else 2 := by unfold ownE; rw [if_neg (by decide), if_neg (by decide), if_neg (by decide), if_neg (by decide), if_neg (by decide), if_pos rfl]
theorem ownE_8 (n : Int) (s : ByteArray) (l : List V) : ownE 8 n s l = if (1 ≤ n ∧ n ≤ 4096) ∧ s.toList = [] ∧ l.length = 0 then 0 else 2 := by unfold ownE; rw [if_neg (by decide), if_neg (by decide), if_neg (by decide), if_neg (by decide), if_neg (by decide), if_neg (by decide), if_neg (by decide), if_pos rfl]
end Go.Proofs.Ytomcdhljjmnahaa.V11
namespace Go.Proofs.Ytomcdhljjmnahaa.V11
set_option linter.unusedVariables false
set_option linter.unusedSimpArgs false
open Go.RowKit

theorem ownE_0 (n : Int) (s : ByteArray) (l : List V) : ownE 0 n s l = if n = 0 ∧ s.toList = [] ∧ l.length = 0 then 0 else 2 := by unfold ownE; rw [if_pos rfl]
theorem ownE_2 (n : Int) (s : ByteArray) (l : List V) : ownE 2 n s l = numE 2 n s l.length := by unfold ownE; rw [if_neg (by decide), if_neg (by decide), if_pos (Or.inl rfl)]
theorem ownE_3 (n : Int) (s : ByteArray) (l : List V) : ownE 3 n s l = numE 3 n s l.length := by unfold ownE; rw [if_neg (by decide), if_neg (by decide), if_pos (Or.inr rfl)]
theorem ownE_5 (n : Int) (s : ByteArray) (l : List V) : ownE 5 n s l = if textB s = true then (if n = 0 ∧ l.length = 0 then 0 else 2) else 17 := by unfold ownE; rw [if_neg (by decide), if_neg (by decide), if_neg (by decide), if_neg (by decide), if_pos rfl]
theorem ownE_7 (n : Int) (s : ByteArray) (l : List V) : ownE 7 n s l = dictOwn n s l := by unfold ownE; rw [if_neg (by decide), if_neg (by decide), if_neg (by decide), if_neg (by decide), if_neg (by decide), if_neg (by decide), if_pos rfl]
theorem ownE_other {k : Int} (h : ¬ (0 ≤ k ∧ k ≤ 8)) (n : Int) (s : ByteArray) (l : List V) : ownE k n s l = 2 := by unfold ownE; rw [if_neg (by omega), if_neg (by omega), if_neg (by omega), if_neg (by omega), if_neg (by omega), if_neg (by omega), if_neg (by omega), if_neg (by omega)]

end Go.Proofs.Ytomcdhljjmnahaa.V11
namespace Go.Proofs.Ytomcdhljjmnahaa.V11
set_option linter.unusedVariables false
set_option linter.unusedSimpArgs false
open Go.RowKit

end Go.Proofs.Ytomcdhljjmnahaa.V11
namespace Go.Proofs.Ytomcdhljjmnahaa.V11
set_option linter.unusedVariables false
set_option linter.unusedSimpArgs false
open Go.RowKit

end Go.Proofs.Ytomcdhljjmnahaa.V11
namespace Go.Proofs.Ytomcdhljjmnahaa.V11
set_option linter.unusedVariables false
set_option linter.unusedSimpArgs false
open Go.RowKit


end Go.Proofs.Ytomcdhljjmnahaa.V11
namespace Go.Proofs.Ytomcdhljjmnahaa.V11
set_option linter.unusedVariables false
set_option linter.unusedSimpArgs false
open Go.RowKit

end Go.Proofs.Ytomcdhljjmnahaa.V11
namespace Go.Proofs.Ytomcdhljjmnahaa.V11
set_option linter.unusedVariables false
set_option linter.unusedSimpArgs false
open Go.RowKit

end Go.Proofs.Ytomcdhljjmnahaa.V11
namespace Go.Proofs.Ytomcdhljjmnahaa.V11
set_option linter.unusedVariables false
set_option linter.unusedSimpArgs false
open Go.RowKit

mutual
/-- a walk through a value: a step at each, until one says no -/
def V.walk {σ : Type} (f : σ → V → σ × Bool) : V → σ → σ × Bool
  | .mk k n s l, x => if (f x (.mk k n s l)).2 = true then (if (k == 6 || k == 7) = true then walkL f l (f x (.mk k n s l)).1 else ((f x (.mk k n s l)).1, true)) else ((f x (.mk k n s l)).1, false)
def walkL {σ : Type} (f : σ → V → σ × Bool) : List V → σ → σ × Bool
  | [], x => (x, true)
  | v :: l, x => if (v.walk f x).2 = true then walkL f l (v.walk f x).1 else ((v.walk f x).1, false)
end
theorem walk_eq {σ : Type} (f : σ → V → σ × Bool) (v : V) (x : σ) : v.walk f x = if (f x v).2 = true then (if v.holds = true then walkL f v.l (f x v).1 else ((f x v).1, true)) else ((f x v).1, false) := by
  cases v; rw [V.walk]; rfl
theorem walkL_snoc {σ : Type} (f : σ → V → σ × Bool) (l : List V) (v : V) (x : σ) : walkL f (l ++ [v]) x = if (walkL f l x).2 = true then v.walk f (walkL f l x).1 else walkL f l x := by
  induction l generalizing x with
  | nil =>
    rw [List.nil_append, walkL, walkL, walkL]
    by_cases h : (v.walk f x).2 = true
    · rw [if_pos h, if_pos rfl]
      obtain ⟨y, b⟩ : ∃ y, y = v.walk f x := ⟨_, rfl⟩
      rw [← b] at h ⊢
      rcases y with ⟨y, z⟩
      simp only at h
      rw [h]
    · rw [if_neg h, if_pos rfl]
      obtain ⟨y, b⟩ : ∃ y, y = v.walk f x := ⟨_, rfl⟩
      rw [← b] at h ⊢
      rcases y with ⟨y, z⟩
      simp only [Bool.not_eq_true] at h
      rw [h]
  | cons u l ih =>
    rw [List.cons_append, walkL, walkL]
    by_cases h : (u.walk f x).2 = true
    · rw [if_pos h, if_pos h, ih]
    · rw [if_neg h, if_neg h, if_neg (by simp)]
theorem walkL_stop {σ : Type} (f : σ → V → σ × Bool) (p q : List V) (x : σ) (h : (walkL f p x).2 = false) : walkL f (p ++ q) x = walkL f p x := by
  induction p generalizing x with
  | nil => rw [walkL] at h; cases h
  | cons u p ih =>
    rw [List.cons_append, walkL]
    rw [walkL] at h
    rw [walkL]
    split
    · next e => rw [if_pos e] at h; exact ih _ h
    · rfl
/-- one step of what a closure keeps -/
structure Step {Γ : Type} (S : Γ → Nat → Prop) (I : Γ → World → Prop) (γ : Γ) (W : World) (γ' : Γ) (W' : World) : Prop where
  ext : Ext (S γ) W W'
  inv : I γ' W'
  own : ∀ k, S γ' k → S γ k ∨ W.heap.size ≤ k
theorem Step.trans {Γ : Type} {S : Γ → Nat → Prop} {I : Γ → World → Prop} {γ γ' γ'' : Γ} {W W' W'' : World} (h : Step S I γ W γ' W') (k : Step S I γ' W' γ'' W'') : Step S I γ W γ'' W'' :=
  ⟨h.ext.trans k.ext (fun i hi hs => (h.own i hs).resolve_right (by omega)), k.inv, fun i hs => by
    rcases k.own i hs with h1 | h1
    · exact h.own i h1
    · exact Or.inr (Nat.le_trans h.ext.size h1)⟩
/-- what a walk's closure must do -/
structure Walker {Γ σ : Type} (view : Γ → σ) (S : Γ → Nat → Prop) (I : Γ → World → Prop) (f : σ → V → σ × Bool) (g : Nat) (caps : Array Value) (w0 : World) : Prop where
  goes : ∀ args w, (callFunc g args).run Try.prog w = .ok (.enter g args) w
  base : ∀ γ W, I γ W → Pure w0 W
  below : ∀ γ W k, I γ W → S γ k → k < W.heap.size
  keep : ∀ γ W W', I γ W → Pure W W' → I γ W'
  see : ∀ d v cs γ W, Lies w0 (d + 1) v cs → v.size ≤ 100000 → I γ W → Calls Try.prog g (#[.agg cs.toArray] ++ caps) W (fun e W' => ∃ γ', e = .returned (.bool (f (view γ) v).2) ∧ view γ' = (f (view γ) v).1 ∧ Step S I γ W γ' W')
def WalkTo {Γ σ : Type} (view : Γ → σ) (S : Γ → Nat → Prop) (I : Γ → World → Prop) (F : σ × Bool) (γ : Γ) (W : World) (e : Ending) (W' : World) : Prop :=
  ∃ γ', e = .returned (.bool F.2) ∧ view γ' = F.1 ∧ Step S I γ W γ' W'
theorem Walker.pure {Γ σ : Type} {view : Γ → σ} {S : Γ → Nat → Prop} {I : Γ → World → Prop} {f : σ → V → σ × Bool} {g : Nat} {caps : Array Value} {w0 : World} (h : Walker view S I f g caps w0) {γ : Γ} {W W' : World} (hI : I γ W) (hP : Pure W W') : Step S I γ W γ W' :=
  ⟨hP.mono (fun _ _ e => e.elim), h.keep _ _ _ hI hP, fun k hs => Or.inl hs⟩
end Go.Proofs.Ytomcdhljjmnahaa.V11
namespace Go.Proofs.Ytomcdhljjmnahaa.V11
set_option linter.unusedVariables false
set_option linter.unusedSimpArgs false
open Go.RowKit

mutual
/-- the first error of a value, and of all in it -/
def V.first : V → Int
  | .mk k n s l => if ownE k n s l = 0 then (if (k == 6 || k == 7) = true then firstL l else 0) else ownE k n s l
def firstL : List V → Int
  | [] => 0
  | v :: l => if v.first = 0 then firstL l else v.first
end
theorem first_eq (v : V) : v.first = if ownE v.kind v.n v.s v.l = 0 then (if v.holds = true then firstL v.l else 0) else ownE v.kind v.n v.s v.l := by cases v; rw [V.first]; rfl
theorem firstL_append (p q : List V) : firstL (p ++ q) = if firstL p = 0 then firstL q else firstL p := by
  induction p with
  | nil => simp [firstL]
  | cons u p ih =>
    rw [List.cons_append, firstL, firstL]
    by_cases h : u.first = 0
    · rw [if_pos h, if_pos h, ih]
    · rw [if_neg h, if_neg h, if_neg h]
theorem firstL_snoc (p : List V) (u : V) (h : firstL p = 0) : firstL (p ++ [u]) = u.first := by
  rw [firstL_append, if_pos h, firstL, firstL]; split <;> simp_all
theorem firstL_stop {l : List V} {k : Nat} {u : V} (h : firstL (l.take k) = 0) (hu : l[k]? = some u) (hn : u.first ≠ 0) : firstL l = u.first := by
  obtain ⟨hkl, rfl⟩ := List.getElem?_eq_some_iff.1 hu
  conv => lhs; rw [← List.take_append_drop (k + 1) l]
  rw [List.take_succ_eq_append_getElem hkl, firstL_append, firstL_snoc _ _ h, if_neg hn]
theorem length_sizeL (l : List V) : l.length ≤ sizeL l := by
  induction l with
  | nil => simp
  | cons u l ih => rw [sizeL, List.length_cons]; have := size_eq u; omega
end Go.Proofs.Ytomcdhljjmnahaa.V11
namespace Go.Proofs.Ytomcdhljjmnahaa.V11
set_option linter.unusedVariables false
set_option linter.unusedSimpArgs false
open Go.RowKit

theorem enters {P : Program} {f : FuncId} {fn : Func} {c : Code} (hf : P.funcs[f]? = some fn) (hname : (fn.name == "runtime.NumGoroutine") = false) (hb : fn.body = some c) (args : Array Value) (w : World) : (callFunc f args).run P w = .ok (.enter f args) w := by
  have h1 : fn.name ≠ "runtime.NumGoroutine" := by simpa using hname
  simp [callFunc, go_sem, hf, h1, hb]
/-- which error a value has -/
def V.checkE (v : V) : Int := if v.depth ≤ 64 then v.first else 15
/-- the step of the program's Check -/
def ownF (_ : Int) (v : V) : Int × Bool := (ownE v.kind v.n v.s v.l, decide (ownE v.kind v.n v.s v.l = 0))
mutual
theorem V.walk_own : ∀ (v : V) (x : Int), v.walk ownF x = (v.first, decide (v.first = 0))
  | .mk k n s l, x => by
    rw [V.walk, V.first]
    have hL := walkL_own l
    have e : ownF x (.mk k n s l) = (ownE k n s l, decide (ownE k n s l = 0)) := rfl
    rw [e]
    simp only [decide_eq_true_eq]
    by_cases h : ownE k n s l = 0
    · rw [if_pos h, if_pos h]
      by_cases h67 : (k == 6 || k == 7) = true
      · rw [if_pos h67, if_pos h67, h, hL]
      · rw [if_neg h67, if_neg h67, h]; rfl
    · rw [if_neg h, if_neg h]; simp [h]
theorem walkL_own : ∀ (l : List V), walkL ownF l 0 = (firstL l, decide (firstL l = 0))
  | [] => by rw [walkL, firstL]; rfl
  | v :: l => by
    rw [walkL, firstL, V.walk_own v]
    have hL := walkL_own l
    simp only [decide_eq_true_eq]
    by_cases h : v.first = 0
    · rw [if_pos h, if_pos h, h, hL]
    · rw [if_neg h, if_neg h]; simp [h]
end
def CheckI (w0 : World) (p : Nat) (x : Int) (W : World) : Prop := Pure w0 W ∧ w0.heap.size ≤ p ∧ BlockIs W p [.int .i64 x] 36
end Go.Proofs.Ytomcdhljjmnahaa.V11
namespace Go.Proofs.Ytomcdhljjmnahaa.V11
set_option linter.unusedVariables false
set_option linter.unusedSimpArgs false
open Go.RowKit

def cmpI (x y : Int) : Int := if x < y then -1 else if y < x then 1 else 0
def cmpS (a b : ByteArray) : Int := Lib.compareBytes a.data.toList b.data.toList
def orI (x y : Int) : Int := if x = 0 then y else x
mutual
/-- how two values stand -/
def V.cmp : V → V → Int
  | .mk k n s l, .mk k' n' s' l' => orI (orI (cmpI k k') (orI (cmpI n n') (cmpS s s'))) (cmpL l l')
def cmpL : List V → List V → Int
  | [], [] => 0
  | [], _ :: _ => -1
  | _ :: _, [] => 1
  | a :: l, b :: m => orI (a.cmp b) (cmpL l m)
end
def V.head (v u : V) : Int := orI (cmpI v.kind u.kind) (orI (cmpI v.n u.n) (cmpS v.s u.s))
theorem cmp_eq (v u : V) : v.cmp u = orI (v.head u) (cmpL v.l u.l) := by cases v; cases u; rw [V.cmp]; rfl
theorem orI_zero (y : Int) : orI 0 y = y := rfl
theorem orI_ne {x : Int} (y : Int) (h : x ≠ 0) : orI x y = x := if_neg h
def UnTo (v : Value) (w : World) (e : Ending) (w' : World) : Prop := e = .returned v ∧ w' = w
end Go.Proofs.Ytomcdhljjmnahaa.V11
namespace Go.Proofs.Ytomcdhljjmnahaa.V11
set_option linter.unusedVariables false
set_option linter.unusedSimpArgs false
open Go.RowKit

theorem cmpBytes_eq : ∀ a b : List UInt8, Lib.compareBytes a b = if Op.bytesLess a b = true then -1 else if (a == b) = true then 0 else 1
  | [], [] => rfl
  | [], b :: y => rfl
  | a :: x, [] => rfl
  | a :: x, b :: y => by
    have ih := cmpBytes_eq x y
    unfold Lib.compareBytes Op.bytesLess
    by_cases h1 : a < b
    · simp [h1]
    · by_cases h2 : b < a
      · have h3 : ¬ a = b := fun e => by subst e; exact h1 h2
        simp [h1, h2, h3]
      · have h3 : a = b := by
          apply UInt8.toNat_inj.1
          have h1' : ¬ a.toNat < b.toNat := h1
          have h2' : ¬ b.toNat < a.toNat := h2
          omega
        subst h3
        simp [h1, ih]
theorem data_toList (s : ByteArray) : s.data.toList = s.toList := (ByteArray.toList_eq s).symm
theorem cmpS_eq (a b : ByteArray) : cmpS a b = if Op.bytesLess a.toList b.toList = true then -1 else if (a.toList == b.toList) = true then 0 else 1 := by
  rw [cmpS, data_toList, data_toList, cmpBytes_eq]
theorem head_cases (v u : V) :
    (v.kind < u.kind ∧ v.head u = -1) ∨ (u.kind < v.kind ∧ v.head u = 1) ∨
    (v.kind = u.kind ∧ v.n < u.n ∧ v.head u = -1) ∨ (v.kind = u.kind ∧ u.n < v.n ∧ v.head u = 1) ∨
    (v.kind = u.kind ∧ v.n = u.n ∧ Op.bytesLess v.s.toList u.s.toList = true ∧ v.head u = -1) ∨
    (v.kind = u.kind ∧ v.n = u.n ∧ Op.bytesLess v.s.toList u.s.toList = false ∧ (v.s.toList == u.s.toList) = false ∧ v.head u = 1) ∨
    (v.kind = u.kind ∧ v.n = u.n ∧ Op.bytesLess v.s.toList u.s.toList = false ∧ (v.s.toList == u.s.toList) = true ∧ v.head u = 0) := by
  have hc := cmpS_eq v.s u.s
  unfold V.head
  generalize v.kind = k at *
  generalize u.kind = k' at *
  generalize v.n = n at *
  generalize u.n = n' at *
  by_cases h1 : k < k'
  · left; refine ⟨h1, ?_⟩; rw [cmpI, if_pos h1]; rfl
  by_cases h2 : k' < k
  · right; left; refine ⟨h2, ?_⟩; rw [cmpI, if_neg h1, if_pos h2]; rfl
  obtain rfl : k = k' := by omega
  have e0 : cmpI k k = 0 := by unfold cmpI; simp
  rw [e0, orI_zero]
  right; right
  by_cases h3 : n < n'
  · left; refine ⟨rfl, h3, ?_⟩; rw [cmpI, if_pos h3]; rfl
  by_cases h4 : n' < n
  · right; left; refine ⟨rfl, h4, ?_⟩; rw [cmpI, if_neg h3, if_pos h4]; rfl
  obtain rfl : n = n' := by omega
  have e1 : cmpI n n = 0 := by unfold cmpI; simp
  rw [e1, orI_zero, hc]
  right; right
  by_cases h5 : Op.bytesLess v.s.toList u.s.toList = true
  · left; exact ⟨rfl, rfl, h5, by rw [if_pos h5]⟩
  · by_cases h6 : (v.s.toList == u.s.toList) = true
    · right; right; exact ⟨rfl, rfl, by simpa using h5, h6, by rw [if_neg h5, if_pos h6]⟩
    · right; left; exact ⟨rfl, rfl, by simpa using h5, by simpa using h6, by rw [if_neg h5, if_neg h6]⟩
theorem cmpL_self (l : List V) (k : Nat) (u u' : V) (l' : List V) (h : l[k]? = some u) (h' : l'[k]? = some u') : cmpL (l.drop k) (l'.drop k) = orI (u.cmp u') (cmpL (l.drop (k + 1)) (l'.drop (k + 1))) := by
  obtain ⟨h1, rfl⟩ := List.getElem?_eq_some_iff.1 h
  obtain ⟨h2, rfl⟩ := List.getElem?_eq_some_iff.1 h'
  rw [List.drop_eq_getElem_cons h1, List.drop_eq_getElem_cons h2, cmpL]
theorem cmpL_end (l l' : List V) (k : Nat) (h : k ≤ l.length) (h' : k ≤ l'.length) (he : k = l.length ∨ k = l'.length) : cmpL (l.drop k) (l'.drop k) = if l.length < l'.length then -1 else if l'.length < l.length then 1 else 0 := by
  by_cases h1 : l.length < l'.length
  · obtain rfl : k = l.length := by omega
    rw [List.drop_length, List.drop_eq_getElem_cons h1, cmpL, if_pos h1]
  · by_cases h2 : l'.length < l.length
    · obtain rfl : k = l'.length := by omega
      rw [List.drop_length, List.drop_eq_getElem_cons h2, cmpL, if_neg h1, if_pos h2]
    · have e1 : k = l.length := by omega
      have e2 : k = l'.length := by omega
      rw [if_neg h1, if_neg h2]
      conv => lhs; rw [show l.drop k = [] by rw [e1]; exact List.drop_length, show l'.drop k = [] by rw [e2]; exact List.drop_length]
      rw [cmpL]
theorem Lies.form {W : World} {d : Nat} {v : V} {cs : List Value} (h : Lies W d v cs) : ∃ (k n : Int) (s : ByteArray) (a : Option Addr) (m c : Nat), cs = [.int .i64 k, .int .i64 n, .string s, .slice a m c] := by
  cases d with
  | zero => exact h.elim
  | succ d => obtain ⟨a, c, rows, rfl, _⟩ := h; exact ⟨_, _, _, _, _, _, rfl⟩
end Go.Proofs.Ytomcdhljjmnahaa.V11
namespace Go.Proofs.Ytomcdhljjmnahaa.V11
set_option linter.unusedVariables false
set_option linter.unusedSimpArgs false
open Go.RowKit

end Go.Proofs.Ytomcdhljjmnahaa.V11
namespace Go.Proofs.Ytomcdhljjmnahaa.V11
set_option linter.unusedVariables false
set_option linter.unusedSimpArgs false
open Go.RowKit

end Go.Proofs.Ytomcdhljjmnahaa.V11
namespace Go.Proofs.Ytomcdhljjmnahaa.V11
set_option linter.unusedVariables false
set_option linter.unusedSimpArgs false
open Go.RowKit

end Go.Proofs.Ytomcdhljjmnahaa.V11
namespace Go.Proofs.Ytomcdhljjmnahaa.V11
set_option linter.unusedVariables false
set_option linter.unusedSimpArgs false
open Go.RowKit

theorem info24 : (Try.prog.info? 40).map (fun i => (i.zero, i.size, i.bytes)) = some (some (.agg #[.int .i64 0, .int .i64 0, .string ⟨#[]⟩, .slice none 0 0]), 4, 56) := by kernel_rfl
/-- a row of the call's own: so many values, these cells -/
def OwnTo (B n : Nat) (xs : List Value) (T : Nat → Prop) (w : World) (e : Ending) (w' : World) : Prop :=
  ∃ (a : Option Addr) (c : Nat), e = .returned (.slice a n c) ∧ w'.ownsRow B 40 4 (.slice a n c) n xs ∧ Ext T w w'
set_option maxHeartbeats 1000000 in
set_option maxRecDepth 100000 in
theorem clone_any (a : Option Addr) (n c : Nat) (cs : List Value) (w : World) (hl : cs.length = n * 4) (hr : RowOf w a cs) (hnil : a = none → n = 0 ∧ c = 0) (hn : n ≤ 100000) (h1 : ∀ u ∈ cs, u.oneCell' = true) :
    Calls Try.prog 78 #[.slice a n c] w (OwnTo w.heap.size n cs (fun _ => False) w) := by
  have he := eql_nil Try.underlying38
  cases a with
  | none =>
    obtain ⟨rfl, rfl⟩ := hnil rfl
    obtain rfl : cs = [] := by simpa using hl
    go_enter Try.func78, Try.ntmps78
    go_wp2_with fail
    go_ret
    exact ⟨none, 0, rfl, ⟨rfl, Or.inl ⟨rfl, rfl⟩⟩, Ext.refl _ _⟩
  | some ad =>
    have HR := Lib.hid hr
    have HL := Lib.hid hl
    have H1 := Lib.hid h1
    clear hr hl h1 hnil
    go_enter Try.func78, Try.ntmps78
    go_wp2_with (at_builtin; refine wpList_append_any rfl (.tmp 5) (.tmp 6) 38 rfl w.heap.size 40 (.agg #[.int .i64 0, .int .i64 0, .string ⟨#[]⟩, .slice none 0 0]) 4 56 Try.underlying38 info24 rfl (by decide) (.slice (some ⟨w.heap.size, 0, none⟩) 0 0) 0 [] rfl (own_new (cs := []) rfl (Nat.zero_le _) _ (Nat.le_refl _)) (some ad) n c cs rfl (fun e => by cases e) HL.out (HR.out.ext (ext_alloc w _) (fun _ _ => id)) H1.out n (Nat.zero_add n) cs rfl (by omega) (by unfold maxLen; omega) (ext_alloc w _).size ?_)
    intro a' c' w' hO hg
    have hE : Ext (fun _ => False) w w' := (ext_alloc w (.cells #[] 40)).trans (ext_of_grown hg) (fun i hi e => by cases e; exact absurd hi (Nat.lt_irrefl _))
    have HO := Lib.hid hO
    clear hO hg
    go_wp2_with fail
    go_ret
    exact ⟨a', c', rfl, HO.out, hE⟩
end Go.Proofs.Ytomcdhljjmnahaa.V11
namespace Go.Proofs.Ytomcdhljjmnahaa.V11
set_option linter.unusedVariables false
set_option linter.unusedSimpArgs false
open Go.RowKit

theorem own_cut {w : World} {B e n c : Nat} {a : Option Addr} {xs : List Value} (h : w.ownsRow B e 4 (.slice a n c) n xs) (i : Nat) (hi : i ≤ n) (ha : a ≠ none) : w.ownsRow B e 4 (.slice a i c) i (xs.take (i * 4)) := by
  refine ⟨by rw [List.length_take, h.1]; omega, ?_⟩
  rcases h.2 with ⟨hv, rfl⟩ | ⟨g, cap, cur, hv, hg, hh, h1, h2, h3, h4⟩
  · cases hv; exact absurd rfl ha
  · cases hv
    exact Or.inr ⟨g, c, cur, rfl, hg, hh, by omega, h2, h3, by rw [← h4, List.take_take, Nat.min_eq_left (by omega)]⟩
set_option maxHeartbeats 2000000 in
set_option maxRecDepth 100000 in
theorem insert_end (B : Nat) (a : Option Addr) (n c : Nat) (xs : List Value) (vb m : Nat) (news : List Value) (w : World) (hO : w.ownsRow B 40 4 (.slice a n c) n xs) (hV : BlockIs w vb news 40) (hnl : news.length = m * 4) (hm : 0 < m) (hm2 : m ≤ 2) (hn : n ≤ 100000) (hB : B ≤ w.heap.size) (h1 : ∀ u ∈ news, u.oneCell' = true) :
    Calls Try.prog 80 #[.slice a n c, .int .i64 n, .slice (some ⟨vb, 0, none⟩) m m] w (OwnTo B (n + m) (xs ++ news) (fun k => (Value.slice a n c).ownBlock = some k) w) := by
  obtain ⟨a0, c0, he, hnc, hcm, hnil, _⟩ := own_form hO
  cases he
  have HO := Lib.hid hO
  have hR : RowOf w (some ⟨vb, 0, none⟩) news := fun i u hu => ⟨vb, 0, rfl, by rw [Nat.zero_add, hV.cell, hu]⟩
  have HR := Lib.hid hR
  have HL := Lib.hid hnl
  have H1 := Lib.hid h1
  have hm0 : ¬ (m : Int) = 0 := by omega
  have hm0' : ((m : Int) == 0) = false := by simp; omega
  unfold maxLen at hcm
  clear hO hV hR hnl h1
  have hin : (n : Int) ≤ n := Int.le_refl _
  go_enter Try.func80, Try.ntmps80
  go_wp2_with (at_builtin; refine wpList_append_any rfl (.tmp 23) (.tmp 24) 38 rfl B 40 (.agg #[.int .i64 0, .int .i64 0, .string ⟨#[]⟩, .slice none 0 0]) 4 56 Try.underlying38 info24 rfl (by decide) _ n xs rfl HO.out (some ⟨vb, 0, none⟩) m m news rfl (fun e => by cases e) HL.out HR.out H1.out (n + m) rfl (xs ++ news) rfl (by omega) (by unfold maxLen; omega) hB ?_)
  all_goals
    intro a' c' w' hO' hg
    have hE := Lib.hid (ext_of_grown hg)
    have HO' := Lib.hid hO'
    clear hO' hg
    go_wp2_with fail
    go_ret
    exact ⟨a', c', rfl, HO'.out, by first | exact hE.out | (cases a <;> exact hE.out)⟩
theorem take3 {α : Type} {A N D R : List α} {k : Nat} (h : A.length + N.length + D.length = k) : (A ++ (N ++ (D ++ R))).take k = A ++ (N ++ D) := by
  have e : A ++ (N ++ (D ++ R)) = (A ++ (N ++ D)) ++ R := by simp
  rw [e, List.take_left' (by simp; omega)]
theorem splice_ins {α : Type} {cur xs news : List α} {n i m : Nat} (hx : cur.take (n * 4) = xs) (hi : i ≤ n) (hnl : news.length = m * 4) (hl : (n + m) * 4 ≤ cur.length) :
    (splice (splice cur ((i + m) * 4) (xs.drop (i * 4))) (i * 4) news).take ((n + m) * 4) = xs.take (i * 4) ++ (news ++ xs.drop (i * 4)) := by
  have hxl : xs.length = n * 4 := by rw [← hx, List.length_take]; omega
  have hd : (xs.drop (i * 4)).length = (n - i) * 4 := by rw [List.length_drop, hxl]; omega
  have e1 : (splice cur ((i + m) * 4) (xs.drop (i * 4))).take (i * 4) = xs.take (i * 4) := by
    rw [splice, List.take_append_of_le_length (by rw [List.length_take]; omega), List.take_take, ← hx, List.take_take, Nat.min_eq_left (by omega), Nat.min_eq_left (by omega)]
  have e2 : (splice cur ((i + m) * 4) (xs.drop (i * 4))).drop (i * 4 + news.length) = xs.drop (i * 4) ++ cur.drop ((i + m) * 4 + (xs.drop (i * 4)).length) := by
    rw [splice, List.drop_left' (by rw [List.length_take]; omega)]
  generalize splice cur ((i + m) * 4) (xs.drop (i * 4)) = L at *
  rw [splice, e1, e2, take3]
  rw [hd, hnl, List.length_take]; omega
theorem splice_ins2 {α : Type} {xs rest news : List α} {n i m : Nat} (hxl : xs.length = n * 4) (hi : i ≤ n) (hnl : news.length = m * 4) (hl : (n + m) * 4 ≤ (xs.take (i * 4) ++ rest).length) :
    (splice (splice (xs.take (i * 4) ++ rest) (i * 4) news) ((i + m) * 4) (xs.drop (i * 4))).take ((n + m) * 4) = xs.take (i * 4) ++ (news ++ xs.drop (i * 4)) := by
  have hd : (xs.drop (i * 4)).length = (n - i) * 4 := by rw [List.length_drop, hxl]; omega
  have ht : (xs.take (i * 4)).length = i * 4 := by rw [List.length_take]; omega
  have e1 : (splice (xs.take (i * 4) ++ rest) (i * 4) news).take ((i + m) * 4) = xs.take (i * 4) ++ news := by
    rw [splice, List.take_left' ht, ← List.append_assoc, List.take_left' (by simp only [List.length_append, ht, hnl]; omega)]
  generalize splice (xs.take (i * 4) ++ rest) (i * 4) news = L at *
  rw [splice, e1, List.append_assoc, take3]
  rw [hd, hnl, ht]; omega
theorem f59 : Try.f95.body = none := rfl
theorem run59 {w : World} (a b : Addr) (la ca lb cb : Nat) (hne : a.block ≠ b.block) {tA tB : TypeId} {curA curB : List Value} (hA : BlockIs w a.block curA tA) (hB : BlockIs w b.block curB tB) (hkB : curB.length ≠ 0) (has : a.spot = none) :
    (callFunc 95 #[.slice (some a) la ca, .slice (some b) lb cb]).run Try.prog w = .ok (.value (.bool false)) w := by
  rw [run_callFunc_extern Try.func95 (by kernel_rfl) (by kernel_rfl) (by kernel_rfl) (e := Extern.SlicesOverlaps.overlaps #[38, 38] #[4]) (by kernel_rfl),
    run_overlaps_rows Try.underlying38 4 (fun w => by kernel_rfl) a b la ca lb cb hne hA hB hkB has]
  rfl
set_option maxHeartbeats 2000000 in
set_option maxRecDepth 100000 in
theorem insert_room (B g n c i : Nat) (cur : List Value) (vb m : Nat) (news : List Value) (w : World) (hG : BlockIs w g cur 40) (hcl : cur.length = c * 4) (hnc : n + m ≤ c) (hcm : c ≤ maxLen) (hV : BlockIs w vb news 40) (hne : vb ≠ g) (hnl : news.length = m * 4) (hm : 0 < m) (hm2 : m ≤ 2) (hn : n ≤ 100000) (hi : i < n) (hB : B ≤ g) (h1 : ∀ u ∈ news, u.oneCell' = true) (h2 : ∀ u ∈ cur.take (n * 4), u.oneCell' = true) :
    Calls Try.prog 80 #[.slice (some ⟨g, 0, none⟩) n c, .int .i64 i, .slice (some ⟨vb, 0, none⟩) m m] w (OwnTo B (n + m) ((cur.take (n * 4)).take (i * 4) ++ (news ++ (cur.take (n * 4)).drop (i * 4))) (fun k => k = g) w) := by
  obtain ⟨xs, hx⟩ : ∃ xs, xs = cur.take (n * 4) := ⟨_, rfl⟩
  rw [← hx] at h2 ⊢
  have hxl : xs.length = n * 4 := by rw [hx, List.length_take]; omega
  have hsp := splice_ins (cur := cur) (n := n) (i := i) (m := m) hx.symm (by omega) hnl (by omega)
  have h59 := fun (lb cb : Nat) => run59 (w := w) ⟨vb, 0, none⟩ ⟨g, (i + m) * 4, none⟩ m m lb cb hne hV hG (by omega) rfl
  have hdl : (xs.drop (i * 4)).length = (n - i) * 4 := by rw [List.length_drop, hxl]; omega
  have hw1 : IntKind.i64.wrap ((i : Int) + (m : Int)) = (i : Int) + (m : Int) := by rw [IntKind.wrap_i64]; omega
  have hb1 : (0 : Int) ≤ (i : Int) + (m : Int) := by omega
  have htn : ((i : Int) + (m : Int)).toNat = i + m := by omega
  have hb2 : ¬ (c = i + m) := by omega
  have hb3 : (i : Int) ≤ (n : Int) + (m : Int) := by omega
  have hb4 : ¬ (c = i) := by omega
  have hz1 : ¬ ((m : Int) = 0) := by omega
  have hz2 : ¬ ((i : Int) = (n : Int)) := by omega
  have hin : i ≤ n := by omega
  have hR : RowOf w (some ⟨vb, 0, none⟩) news := fun i u hu => ⟨vb, 0, rfl, by rw [Nat.zero_add, hV.cell, hu]⟩
  have HA1 : Hid ((xs.drop (i * 4)).length = Nat.min (n + m - i) (n + m - (i + m)) * 4) := Lib.hid (by rw [hdl]; simp only [Nat.min_def]; split <;> omega)
  have HA2 : Hid (RowOf w.drew (some ⟨g, i * 4, none⟩) (xs.drop (i * 4))) := Lib.hid (fun j u hu => ⟨g, i * 4, rfl, by
    rw [hG.drew.cell]
    rw [List.getElem?_drop, hx, List.getElem?_take] at hu
    split at hu
    · exact hu
    · cases hu⟩)
  have HA3 : Hid ((i + m) * 4 + (xs.drop (i * 4)).length ≤ cur.length) := Lib.hid (by rw [hdl]; omega)
  have HA4 : Hid (∀ v ∈ xs.drop (i * 4), v.oneCell' = true) := Lib.hid (fun v hv => h2 v (List.mem_of_mem_drop hv))
  have HL1 : Hid ((splice cur ((i + m) * 4) (xs.drop (i * 4))).length = cur.length) := Lib.hid (length_splice _ _ _ HA3.out)
  have HB1 : Hid (news.length = Nat.min m (n + m - i) * 4) := Lib.hid (by rw [hnl]; simp only [Nat.min_def]; split <;> omega)
  have HB4 := Lib.hid h1
  have HX := Lib.hid hx
  have HNL := Lib.hid hnl
  have HXL := Lib.hid hxl
  have HCL := Lib.hid hcl
  have HSP := Lib.hid hsp
  unfold maxLen at hcm
  clear h1 h2 hx hnl hxl hcl hsp hdl
  go_enter Try.func80, Try.ntmps80
  go_wp2_with (simp only [h59])
  refine region_start (fun k => k = g) (by kernel_rfl) ?_
  try simp only [Act.put, List.setIfInBounds_toArray, List.set_cons_zero, List.set_cons_succ]
  refine region_take 0 69 (v := ?vca0) rfl rfl (by kernel_rfl) (by kernel_rfl) (by kernel_rfl) (fun _ _ _ h => h) (by rfl) (fun w' hS => ?hca0) ?rca0
  case hca0 => go_simp; with_reducible rfl
  try simp only [Act.put, List.setIfInBounds_toArray, List.set_cons_zero, List.set_cons_succ]
  refine region_take 1 70 (v := ?vca1) rfl rfl (by kernel_rfl) (by kernel_rfl) (by kernel_rfl) (fun _ _ _ h => h) (by rfl) (fun w' hS => ?hca1) ?rca1
  case hca1 => go_simp; with_reducible rfl
  try simp only [Act.put, List.setIfInBounds_toArray, List.set_cons_zero, List.set_cons_succ]
  refine region_take 2 71 (v := ?vca2) rfl rfl (by kernel_rfl) (by kernel_rfl) (by kernel_rfl) (fun _ _ _ h => h) (by rfl) (fun w' hS => ?hca2) ?rca2
  case hca2 => go_simp; with_reducible rfl
  try simp only [Act.put, List.setIfInBounds_toArray, List.set_cons_zero, List.set_cons_succ]
  refine region_take 3 72 (v := ?vca3) rfl rfl (by kernel_rfl) (by kernel_rfl) (by kernel_rfl) (fun _ _ _ h => h) (by rfl) (fun w' hS => ?hca3) ?rca3
  case hca3 => go_simp; with_reducible rfl
  try simp only [Act.put, List.setIfInBounds_toArray, List.set_cons_zero, List.set_cons_succ]
  refine region_take 4 73 (v := ?vca4) rfl rfl (by kernel_rfl) (by kernel_rfl) (by kernel_rfl) (fun _ _ _ h => h) (by rfl) (fun w' hS => ?hca4) ?rca4
  case hca4 => go_simp; with_reducible rfl
  try simp only [Act.put, List.setIfInBounds_toArray, List.set_cons_zero, List.set_cons_succ]
  refine region_take 5 74 (v := ?vca5) rfl rfl (by kernel_rfl) (by kernel_rfl) (by kernel_rfl) (fun _ _ _ h => h) (by rfl) (fun w' hS => ?hca5) ?rca5
  case hca5 => go_simp; with_reducible rfl
  try simp only [Act.put, List.setIfInBounds_toArray, List.set_cons_zero, List.set_cons_succ]
  refine region_take 6 75 (v := ?vca6) rfl rfl (by kernel_rfl) (by kernel_rfl) (by kernel_rfl) (fun _ _ _ h => h) (by rfl) (fun w' hS => ?hca6) ?rca6
  case hca6 => go_simp; with_reducible rfl
  try simp only [Act.put, List.setIfInBounds_toArray, List.set_cons_zero, List.set_cons_succ]
  refine region_take 7 76 (v := ?vca7) rfl rfl (by kernel_rfl) (by kernel_rfl) (by kernel_rfl) (fun _ _ _ h => h) (by rfl) (fun w' hS => ?hca7) ?rca7
  case hca7 => go_simp; with_reducible rfl
  try simp only [Act.put, List.setIfInBounds_toArray, List.set_cons_zero, List.set_cons_succ]
  refine wpAnyH_ready (rs := [8]) (by kernel_rfl) (by simp) (AllReadyH.cons rfl (fun K hK => ?_) AllReadyH.nil)
  refine step_copy_big rfl (.tmp 73) (.tmp 76) 38 38 rfl 40 4 Try.underlying38 (by kernel_rfl) (some ⟨g, (i + m) * 4, none⟩) (some ⟨g, i * 4, none⟩) (n + m - (i + m)) (c - (i + m)) (n + m - i) (c - i) rfl rfl g ((i + m) * 4) cur 40 hG.drew (xs.drop (i * 4)) HA1.out (fun _ => ⟨rfl, HA2.out⟩) HA3.out HA4.out ?_
  intro w2 hG2 hE2
  refine hK.out _ _ (hE2) (fun hHeld => ?_)
  clear hK K hHeld
  refine region_now (hE2) ?_
  try simp only [Act.put, List.setIfInBounds_toArray, List.set_cons_zero, List.set_cons_succ]
  refine wpAnyH_done (by kernel_rfl) ?_ _
  obtain ⟨L1, hL1⟩ : ∃ L1, L1 = splice cur ((i + m) * 4) (xs.drop (i * 4)) := ⟨_, rfl⟩
  rw [← hL1] at HL1 HSP hG2
  have hR2 : RowOf w2 (some ⟨vb, 0, none⟩) news := (show RowOf w.drew _ _ from hR).ext hE2 (fun a ha e => by cases ha; exact hne e)
  have HR2 := Lib.hid hR2
  have HE2 : Hid (Ext (fun k => k = g) w w2) := Lib.hid ((Ext.refl _ w).drew.trans hE2 (fun _ _ e => e))
  clear hL1 hR hR2 h59 hV hG HA1 HA2 HA3 HA4
  go_wp2_with (refine wpList_copy_big rfl (.tmp 80) (.tmp 81) 38 38 rfl 40 4 Try.underlying38 (by kernel_rfl) (some ⟨g, i * 4, none⟩) (some ⟨vb, 0, none⟩) (n + m - i) (c - i) m m rfl rfl g (i * 4) L1 40 hG2 news HB1.out (fun _ => ⟨rfl, HR2.out⟩) (by rw [HL1.out, HCL.out, HNL.out]; omega) HB4.out ?_; intro w3 hG3 hE3)
  have HG3 := Lib.hid hG3
  have HE3 := Lib.hid hE3
  clear hG3 hE3 hG2 hE2
  go_wp2_with fail
  go_ret
  refine ⟨some ⟨g, 0, none⟩, c, rfl, ⟨?_, Or.inr ⟨g, c, _, rfl, hB, HG3.out, hnc, by unfold maxLen; omega, ?_, by simpa using HSP.out⟩⟩, HE2.out.trans HE3.out (fun _ _ e => e)⟩
  · simp only [List.length_append, List.length_take, List.length_drop, HNL.out, HXL.out]; omega
  · have := length_splice L1 (i * 4) news (by rw [HL1.out, HCL.out, HNL.out]; omega)
    simp only [List.size_toArray, this, HL1.out, HCL.out]
set_option maxHeartbeats 2000000 in
set_option maxRecDepth 100000 in
theorem insert_grow (B g n c i : Nat) (xs : List Value) (vb m : Nat) (news : List Value) (w : World) (hG : RowOf w (some ⟨g, 0, none⟩) xs) (hxl : xs.length = n * 4) (hnc : n ≤ c) (hroom : c < n + m) (hV : BlockIs w vb news 40) (hnl : news.length = m * 4) (hm : 0 < m) (hm2 : m ≤ 2) (hn : n ≤ 100000) (hi : i < n) (hB : B ≤ w.heap.size) (h1 : ∀ u ∈ news, u.oneCell' = true) (h2 : ∀ u ∈ xs, u.oneCell' = true) :
    Calls Try.prog 80 #[.slice (some ⟨g, 0, none⟩) n c, .int .i64 i, .slice (some ⟨vb, 0, none⟩) m m] w (OwnTo B (n + m) (xs.take (i * 4) ++ (news ++ xs.drop (i * 4))) (fun k => False) w) := by
  have hdl : (xs.drop (i * 4)).length = (n - i) * 4 := by rw [List.length_drop, hxl]; omega
  have htl : (xs.take (i * 4)).length = i * 4 := by rw [List.length_take, hxl]; omega
  have hsub : IntKind.i64.wrap ((n : Int) + (m : Int) - (i : Int)) = ((n + m - i : Nat) : Int) := by rw [IntKind.wrap_i64]; omega
  have hw1 : IntKind.i64.wrap ((i : Int) + (m : Int)) = (i : Int) + (m : Int) := by rw [IntKind.wrap_i64]; omega
  have hb1 : (0 : Int) ≤ (i : Int) + (m : Int) := by omega
  have htn : ((i : Int) + (m : Int)).toNat = i + m := by omega
  have hb4 : ¬ (c = i) := by omega
  have hz1 : ¬ ((m : Int) = 0) := by omega
  have hz2 : ¬ ((i : Int) = (n : Int)) := by omega
  have hz3 : (c : Int) < (n : Int) + (m : Int) := by omega
  have hin : i ≤ n := by omega
  have hR : RowOf w (some ⟨vb, 0, none⟩) news := fun i u hu => ⟨vb, 0, rfl, by rw [Nat.zero_add, hV.cell, hu]⟩
  have HT : Hid (RowOf w (some ⟨g, 0, none⟩) (xs.take (i * 4))) := Lib.hid (row_take hG _)
  have HD : Hid (RowOf w (some ⟨g, i * 4, none⟩) (xs.drop (i * 4))) := Lib.hid (by simpa [addr_add] using row_drop hG (i * 4))
  have HR := Lib.hid hR
  have HDL := Lib.hid hdl
  have HTL := Lib.hid htl
  have HXL := Lib.hid hxl
  have HNL := Lib.hid hnl
  have H1 := Lib.hid h1
  have H2 := Lib.hid h2
  have HVB := Lib.hid hV.lt
  clear hR hdl htl hxl hnl h1 h2 hG hV
  go_enter Try.func80, Try.ntmps80
  go_wp2_with (first
    | (at_builtin
       refine wpList_append_make rfl (.tmp 34) (.tmp 39) 38 3 rfl 40 Try.underlying38 Try.underlying3 (.agg #[.int .i64 0, .int .i64 0, .string ⟨#[]⟩, .slice none 0 0]) 4 56 info24 rfl (by decide) (some ⟨g, 0, none⟩) i c (n + m - i) (xs.take (i * 4)) rfl (by simp [go_sem, hsub]) HTL.out (fun _ => HT.out) (fun e => by cases e) (by omega) (by omega) (by omega) (by unfold maxLen; omega) ?_
       intro w2 G rest hG2 hGl hGn hGm hE2
       have hre : i + (n + m - i) = n + m := by omega
       rw [hre] at hGn ⊢
       obtain ⟨C0, hC0⟩ : ∃ C0, C0 = xs.take (i * 4) ++ rest := ⟨_, rfl⟩
       have hCl : C0.length = G * 4 := by rw [hC0, List.length_append]; omega
       have hsp := splice_ins2 (xs := xs) (rest := rest) (n := n) (i := i) (m := m) HXL.out (by omega) HNL.out (by rw [← hC0, hCl]; omega)
       rw [← hC0] at hG2 hsp
       have hb5 : ¬ (G = i) := by omega
       have hb6 : ¬ (G = i + m) := by omega
       have hb7 : (i : Int) ≤ (n : Int) + (m : Int) := by omega
       have hR2 : RowOf w2 (some ⟨vb, 0, none⟩) news := HR.out.ext hE2 (fun _ _ => id)
       have HR2 := Lib.hid hR2
       have HB1 : Hid (news.length = Nat.min m (n + m - i) * 4) := Lib.hid (by rw [HNL.out]; simp only [Nat.min_def]; split <;> omega)
       have HCl := Lib.hid hCl
       have HSP := Lib.hid hsp
       have HE2 := Lib.hid hE2
       obtain ⟨H, hH⟩ : ∃ H, H = w.heap.size := ⟨_, rfl⟩
       rw [← hH] at hG2 ⊢
       have HH := Lib.hid hH
       clear hC0 hCl hsp hR2 hre hH hGl)
    | (refine wpList_copy_big rfl (.tmp 43) (.tmp 44) 38 38 rfl 40 4 Try.underlying38 (by kernel_rfl) (some ⟨H, i * 4, none⟩) (some ⟨vb, 0, none⟩) (n + m - i) (G - i) m m rfl rfl H (i * 4) C0 40 hG2 news HB1.out (fun _ => ⟨rfl, HR2.out⟩) (by rw [HCl.out, HNL.out]; omega) H1.out ?_; intro w3 hG3 hE3))
  obtain ⟨L1, hL1⟩ : ∃ L1, L1 = splice C0 (i * 4) news := ⟨_, rfl⟩
  have hLl : L1.length = G * 4 := by rw [hL1, length_splice C0 (i * 4) news (by rw [HCl.out, HNL.out]; omega)]; exact HCl.out
  rw [← hL1] at hG3
  have HSP2 : Hid ((splice L1 ((i + m) * 4) (xs.drop (i * 4))).take ((n + m) * 4) = xs.take (i * 4) ++ (news ++ xs.drop (i * 4))) := Lib.hid (by rw [hL1]; exact HSP.out)
  have HLl := Lib.hid hLl
  have hE03 : Ext (fun _ => False) w w3 := HE2.out.trans hE3 (fun k hk e => by rw [e, HH.out] at hk; exact absurd hk (Nat.lt_irrefl _))
  have HA1 : Hid ((xs.drop (i * 4)).length = Nat.min (n - i) (n + m - (i + m)) * 4) := Lib.hid (by rw [HDL.out]; simp only [Nat.min_def]; split <;> omega)
  have HA2 : Hid (RowOf w3.drew (some ⟨g, i * 4, none⟩) (xs.drop (i * 4))) := Lib.hid (HD.out.ext hE03.drew (fun _ _ => id))
  have HA3 : Hid ((i + m) * 4 + (xs.drop (i * 4)).length ≤ L1.length) := Lib.hid (by rw [HLl.out, HDL.out]; omega)
  have HA4 : Hid (∀ v ∈ xs.drop (i * 4), v.oneCell' = true) := Lib.hid (fun v hv => H2.out v (List.mem_of_mem_drop hv))
  have HE03 := Lib.hid hE03
  clear hL1 hLl hE03 HR2 HB1 HSP
  go_wp2_with fail
  refine region_start (fun k => k = H) (by kernel_rfl) ?_
  try simp only [Act.put, List.setIfInBounds_toArray, List.set_cons_zero, List.set_cons_succ]
  refine region_take 0 46 (v := ?vcb0) rfl rfl (by kernel_rfl) (by kernel_rfl) (by kernel_rfl) (fun _ _ _ h => h) (by rfl) (fun w' hS => ?hcb0) ?rcb0
  case hcb0 => go_simp; with_reducible rfl
  try simp only [Act.put, List.setIfInBounds_toArray, List.set_cons_zero, List.set_cons_succ]
  refine region_take 1 47 (v := ?vcb1) rfl rfl (by kernel_rfl) (by kernel_rfl) (by kernel_rfl) (fun _ _ _ h => h) (by rfl) (fun w' hS => ?hcb1) ?rcb1
  case hcb1 => go_simp; with_reducible rfl
  try simp only [Act.put, List.setIfInBounds_toArray, List.set_cons_zero, List.set_cons_succ]
  refine region_take 2 48 (v := ?vcb2) rfl rfl (by kernel_rfl) (by kernel_rfl) (by kernel_rfl) (fun _ _ _ h => h) (by rfl) (fun w' hS => ?hcb2) ?rcb2
  case hcb2 => go_simp; with_reducible rfl
  try simp only [Act.put, List.setIfInBounds_toArray, List.set_cons_zero, List.set_cons_succ]
  refine region_take 3 49 (v := ?vcb3) rfl rfl (by kernel_rfl) (by kernel_rfl) (by kernel_rfl) (fun _ _ _ h => h) (by rfl) (fun w' hS => ?hcb3) ?rcb3
  case hcb3 => go_simp; with_reducible rfl
  try simp only [Act.put, List.setIfInBounds_toArray, List.set_cons_zero, List.set_cons_succ]
  refine region_take 4 50 (v := ?vcb4) rfl rfl (by kernel_rfl) (by kernel_rfl) (by kernel_rfl) (fun _ _ _ h => h) (by rfl) (fun w' hS => ?hcb4) ?rcb4
  case hcb4 => go_simp; with_reducible rfl
  try simp only [Act.put, List.setIfInBounds_toArray, List.set_cons_zero, List.set_cons_succ]
  refine region_take 5 51 (v := ?vcb5) rfl rfl (by kernel_rfl) (by kernel_rfl) (by kernel_rfl) (fun _ _ _ h => h) (by rfl) (fun w' hS => ?hcb5) ?rcb5
  case hcb5 => go_simp; with_reducible rfl
  try simp only [Act.put, List.setIfInBounds_toArray, List.set_cons_zero, List.set_cons_succ]
  refine region_take 6 52 (v := ?vcb6) rfl rfl (by kernel_rfl) (by kernel_rfl) (by kernel_rfl) (fun _ _ _ h => h) (by rfl) (fun w' hS => ?hcb6) ?rcb6
  case hcb6 => go_simp; with_reducible rfl
  try simp only [Act.put, List.setIfInBounds_toArray, List.set_cons_zero, List.set_cons_succ]
  refine region_take 7 53 (v := ?vcb7) rfl rfl (by kernel_rfl) (by kernel_rfl) (by kernel_rfl) (fun _ _ _ h => h) (by rfl) (fun w' hS => ?hcb7) ?rcb7
  case hcb7 => go_simp; with_reducible rfl
  try simp only [Act.put, List.setIfInBounds_toArray, List.set_cons_zero, List.set_cons_succ]
  refine wpAnyH_ready (rs := [8]) (by kernel_rfl) (by simp) (AllReadyH.cons rfl (fun K hK => ?_) AllReadyH.nil)
  refine step_copy_big rfl (.tmp 50) (.tmp 53) 38 38 rfl 40 4 Try.underlying38 (by kernel_rfl) (some ⟨H, (i + m) * 4, none⟩) (some ⟨g, i * 4, none⟩) (n + m - (i + m)) (G - (i + m)) (n - i) (c - i) rfl rfl H ((i + m) * 4) L1 40 hG3.drew (xs.drop (i * 4)) HA1.out (fun _ => ⟨rfl, HA2.out⟩) HA3.out HA4.out ?_
  intro w4 hG4 hE4
  refine hK.out _ _ (hE4) (fun hHeld => ?_)
  clear hK K hHeld
  refine region_now (hE4) ?_
  try simp only [Act.put, List.setIfInBounds_toArray, List.set_cons_zero, List.set_cons_succ]
  refine wpAnyH_done (by kernel_rfl) ?_ _
  have HG4 := Lib.hid hG4
  have HE4 : Hid (Ext (fun _ => False) w w4) := Lib.hid (HE03.out.drew.trans hE4 (fun k hk e => by rw [e, HH.out] at hk; exact absurd hk (Nat.lt_irrefl _)))
  clear hG4 hE4 hG3 hE3 hG2 hE2
  go_wp2_with fail
  go_ret
  refine ⟨some ⟨H, 0, none⟩, G, rfl, ⟨?_, Or.inr ⟨H, G, _, rfl, by rw [HH.out]; exact hB, HG4.out, hGn, by assumption, ?_, by simpa using HSP2.out⟩⟩, HE4.out⟩
  · simp only [List.length_append, HNL.out, HTL.out, HDL.out]; omega
  · have := length_splice L1 ((i + m) * 4) (xs.drop (i * 4)) HA3.out
    simp only [List.size_toArray, this, HLl.out]
end Go.Proofs.Ytomcdhljjmnahaa.V11
namespace Go.Proofs.Ytomcdhljjmnahaa.V11
set_option linter.unusedVariables false
set_option linter.unusedSimpArgs false
open Go.RowKit

theorem OwnTo.mono {B n : Nat} {xs : List Value} {T T' : Nat → Prop} {w : World} {e : Ending} {w' : World} (h : OwnTo B n xs T w e w') (hT : ∀ i, i < w.heap.size → T i → T' i) : OwnTo B n xs T' w e w' := by
  obtain ⟨a, c, h1, h2, h3⟩ := h
  exact ⟨a, c, h1, h2, h3.mono hT⟩
theorem insert_any (B : Nat) (a : Option Addr) (n c i : Nat) (xs : List Value) (vb m : Nat) (news : List Value) (w : World) (hO : w.ownsRow B 40 4 (.slice a n c) n xs) (hV : BlockIs w vb news 40) (hne : (Value.slice a n c).ownBlock ≠ some vb) (hnl : news.length = m * 4) (hm : 0 < m) (hm2 : m ≤ 2) (hn : n ≤ 100000) (hi : i ≤ n) (hB : B ≤ w.heap.size) (h1 : ∀ u ∈ news, u.oneCell' = true) (h2 : ∀ u ∈ xs, u.oneCell' = true) :
    Calls Try.prog 80 #[.slice a n c, .int .i64 i, .slice (some ⟨vb, 0, none⟩) m m] w (OwnTo B (n + m) (xs.take (i * 4) ++ (news ++ xs.drop (i * 4))) (fun k => (Value.slice a n c).ownBlock = some k) w) := by
  have hxl := hO.1
  by_cases he : i = n
  · subst he
    have := insert_end B a i c xs vb m news w hO hV hnl hm hm2 hn hB h1
    rw [List.take_of_length_le (by omega), List.drop_eq_nil_of_le (by omega), List.append_nil]
    exact this
  · rcases hO.2 with ⟨hv, rfl⟩ | ⟨g, cap, cur, hv, hg, hh, e1, e2, e3, e4⟩
    · omega
    · cases hv
      have hG : BlockIs w g cur.toList 40 := hh
      have e3' : cur.toList.length = c * 4 := by simpa using e3
      by_cases hr : n + m ≤ c
      · have := insert_room B g n c i cur.toList vb m news w hG e3' hr e2 hV (fun e => hne (by rw [e]; rfl)) hnl hm hm2 hn (by omega) hg h1 (by rw [e4]; exact h2)
        rw [e4] at this
        exact this.mono fun e w' h => h.mono (fun k _ hk => by subst hk; rfl)
      · have hR : RowOf w (some ⟨g, 0, none⟩) xs := own_row hO
        exact (insert_grow B g n c i xs vb m news w hR hxl e1 (by omega) hV hnl hm hm2 hn (by omega) hB h1 h2).mono fun e w' h => h.mono (fun k _ hk => hk.elim)
set_option maxHeartbeats 2000000 in
set_option maxRecDepth 100000 in
theorem replace_last (B : Nat) (a : Option Addr) (n c i : Nat) (xs : List Value) (vb : Nat) (news : List Value) (w : World) (hO : w.ownsRow B 40 4 (.slice a n c) n xs) (hV : BlockIs w vb news 40) (hnl : news.length = 4) (hn : n ≤ 100000) (hi : i + 1 = n) (hB : B ≤ w.heap.size) (h1 : ∀ u ∈ news, u.oneCell' = true) :
    Calls Try.prog 79 #[.slice a n c, .int .i64 i, .int .i64 n, .slice (some ⟨vb, 0, none⟩) 1 1] w (OwnTo B n (xs.take (i * 4) ++ news) (fun k => (Value.slice a n c).ownBlock = some k) w) := by
  obtain ⟨a0, c0, he, hnc, hcm, hnil, _⟩ := own_form hO
  cases he
  cases a with
  | none => have := hnil rfl; omega
  | some ad =>
  have hO2 := own_cut hO i (by omega) (fun e => by cases e)
  have had : ∃ g, ad = ⟨g, 0, none⟩ := by
    rcases hO.2 with ⟨hv, _⟩ | ⟨g, cap, cur, hv, _⟩
    · cases hv
    · cases hv; exact ⟨g, rfl⟩
  obtain ⟨g, rfl⟩ := had
  have HO := Lib.hid hO2
  have hR : RowOf w (some ⟨vb, 0, none⟩) news := fun i u hu => ⟨vb, 0, rfl, by rw [Nat.zero_add, hV.cell, hu]⟩
  have HR := Lib.hid hR
  have HL : Hid (news.length = 1 * 4) := Lib.hid (by rw [hnl])
  have H1 := Lib.hid h1
  have HI := Lib.hid hi
  have hz0 : ¬ (i : Int) = (n : Int) := by omega
  have hle : i ≤ n := by omega
  have hlc : i ≤ c := by omega
  have hnn : n ≤ n := Nat.le_refl n
  unfold maxLen at hcm
  clear hO hO2 hV hR hnl h1
  go_enter Try.func79, Try.ntmps79
  go_wp2_with (at_builtin; refine wpList_append_any rfl (.tmp 32) (.tmp 33) 38 rfl B 40 (.agg #[.int .i64 0, .int .i64 0, .string ⟨#[]⟩, .slice none 0 0]) 4 56 Try.underlying38 info24 rfl (by decide) _ i (xs.take (i * 4)) rfl HO.out (some ⟨vb, 0, none⟩) 1 1 news rfl (fun e => by cases e) HL.out HR.out H1.out n HI.out (xs.take (i * 4) ++ news) rfl (by omega) (by unfold maxLen; omega) hB ?_)
  intro a' c' w' hO' hg
  have hE := Lib.hid (ext_of_grown hg)
  have HO' := Lib.hid hO'
  clear hO' hg
  go_wp2_with fail
  go_ret
  exact ⟨a', c', rfl, HO'.out, hE.out⟩
theorem zero_cells : ∀ v ∈ (Value.agg #[.int .i64 0, .int .i64 0, .string ⟨#[]⟩, .slice none 0 0]).cells, v.oneCell' = true := by
  intro u hu
  simp only [Value.cells, List.mem_toArray, List.mem_cons, List.not_mem_nil, or_false] at hu
  rcases hu with rfl | rfl | rfl | rfl <;> rfl
theorem splice_self {α : Type} {L tail : List α} {k : Nat} (h : (L.drop k).take tail.length = tail) (hl : k + tail.length ≤ L.length) : splice L k tail = L := by
  rw [splice]
  conv => rhs; rw [← List.take_append_drop k L, ← List.take_append_drop tail.length (L.drop k), h, List.drop_drop]
theorem splice_rep {α : Type} {cur xs news : List α} {n i : Nat} (hx : cur.take (n * 4) = xs) (hi : i + 1 < n) (hnl : news.length = 4) (hl : n * 4 ≤ cur.length) :
    splice (splice cur (i * 4) news) ((i + 1) * 4) (xs.drop ((i + 1) * 4)) = splice cur (i * 4) news ∧ (splice cur (i * 4) news).take (n * 4) = xs.take (i * 4) ++ (news ++ xs.drop ((i + 1) * 4)) := by
  have hxl : xs.length = n * 4 := by rw [← hx, List.length_take]; omega
  have hd : (xs.drop ((i + 1) * 4)).length = (n - (i + 1)) * 4 := by rw [List.length_drop, hxl]; omega
  have e : splice cur (i * 4) news = xs.take (i * 4) ++ (news ++ (xs.drop ((i + 1) * 4) ++ cur.drop (n * 4))) := by
    rw [splice, ← hx, List.take_take, Nat.min_eq_left (by omega), hnl, List.drop_take]
    congr 2
    rw [show i * 4 + 4 = (i + 1) * 4 by omega]
    conv => lhs; rw [← List.take_append_drop (n * 4 - (i + 1) * 4) (cur.drop ((i + 1) * 4)), List.drop_drop, show (i + 1) * 4 + (n * 4 - (i + 1) * 4) = n * 4 by omega]
  have ht : (xs.take (i * 4)).length = i * 4 := by rw [List.length_take, hxl]; omega
  refine ⟨splice_self ?_ (by rw [length_splice _ _ _ (by omega)]; omega), ?_⟩
  · rw [e, ← List.append_assoc, List.drop_left' (by simp only [List.length_append, ht, hnl]; omega), List.take_left' rfl]
  · rw [e, take3]; rw [ht, hnl, hd]; omega
set_option maxHeartbeats 2000000 in
set_option maxRecDepth 100000 in
theorem replace_mid (B g n c i : Nat) (cur : List Value) (vb : Nat) (news : List Value) (w : World) (hG : BlockIs w g cur 40) (hcl : cur.length = c * 4) (hnc : n ≤ c) (hcm : c ≤ maxLen) (hV : BlockIs w vb news 40) (hnl : news.length = 4) (hn : n ≤ 100000) (hi : i + 1 < n) (hB : B ≤ g) (h1 : ∀ u ∈ news, u.oneCell' = true) (h2 : ∀ u ∈ cur.take (n * 4), u.oneCell' = true) :
    Calls Try.prog 79 #[.slice (some ⟨g, 0, none⟩) n c, .int .i64 i, .int .i64 ((i + 1 : Nat) : Int), .slice (some ⟨vb, 0, none⟩) 1 1] w (OwnTo B n ((cur.take (n * 4)).take (i * 4) ++ (news ++ (cur.take (n * 4)).drop ((i + 1) * 4))) (fun k => k = g) w) := by
  obtain ⟨xs, hx⟩ : ∃ xs, xs = cur.take (n * 4) := ⟨_, rfl⟩
  rw [← hx] at h2 ⊢
  have hxl : xs.length = n * 4 := by rw [hx, List.length_take]; omega
  obtain ⟨hsp1, hsp2⟩ := splice_rep (cur := cur) (n := n) (i := i) hx.symm hi hnl (by omega)
  obtain ⟨j, hj⟩ : ∃ j, j = i + 1 := ⟨_, rfl⟩
  rw [← hj] at hsp1 hsp2 hi ⊢
  have hR : RowOf w.drew (some ⟨vb, 0, none⟩) news := fun i u hu => ⟨vb, 0, rfl, by rw [Nat.zero_add, hV.drew.cell, hu]⟩
  have HA1 : Hid ((xs.drop (j * 4)).length = Nat.min (n - j) (n - j) * 4) := Lib.hid (by rw [List.length_drop, hxl, show Nat.min (n - j) (n - j) = n - j from Nat.min_self _]; omega)
  have HB1 : Hid (news.length = Nat.min 1 (n - i) * 4) := Lib.hid (by rw [hnl]; simp only [Nat.min_def]; split <;> omega)
  have HB3 : Hid (i * 4 + news.length ≤ cur.length) := Lib.hid (by rw [hnl, hcl]; omega)
  have hL1 := length_splice cur (i * 4) news HB3.out
  have HA3 : Hid (j * 4 + (xs.drop (j * 4)).length ≤ (splice cur (i * 4) news).length) := Lib.hid (by rw [hL1, List.length_drop, hxl, hcl]; omega)
  have HA4 : Hid (∀ v ∈ xs.drop (j * 4), v.oneCell' = true) := Lib.hid (fun v hv => h2 v (List.mem_of_mem_drop hv))
  have hrow : ∀ k u, (xs.drop (j * 4))[k]? = some u → (splice cur (i * 4) news)[j * 4 + k]? = some u := by
    intro k u hu
    have e := congrArg (fun L => L[j * 4 + k]?) hsp1.symm
    rw [show (splice cur (i * 4) news)[j * 4 + k]? = (splice (splice cur (i * 4) news) (j * 4) (xs.drop (j * 4)))[j * 4 + k]? from e, splice, List.getElem?_append_right (by rw [List.length_take, hL1]; omega)]
    rw [show j * 4 + k - (List.take (j * 4) (splice cur (i * 4) news)).length = k by rw [List.length_take, hL1]; omega]
    rw [List.getElem?_append_left (List.getElem?_eq_some_iff.1 hu).1]
    exact hu
  have HRow := Lib.hid hrow
  have HR := Lib.hid hR
  have HH1 := Lib.hid h1
  have HSP1 := Lib.hid hsp1
  have HSP2 := Lib.hid hsp2
  have HX := Lib.hid hx
  have HNL := Lib.hid hnl
  have HXL := Lib.hid hxl
  have HCL := Lib.hid hcl
  have HL1 := Lib.hid hL1
  have HJ := Lib.hid hj
  have hij : i ≤ j := by omega
  have hjn : j < n := by omega
  have hjn' : j ≤ n := by omega
  have hin : i ≤ n := by omega
  have hic : i ≤ c := by omega
  have hz1 : ¬ (i : Int) = (j : Int) := by omega
  have hz2 : ¬ (j : Int) = (n : Int) := by omega
  have hw1 : IntKind.i64.wrap ((i : Int) + 1) = (j : Int) := by rw [IntKind.wrap_i64]; omega
  have hw2 : (j : Int) + ((n - j : Nat) : Int) = (n : Int) := by omega
  have hw3 : IntKind.i64.wrap (n : Int) = (n : Int) := by rw [IntKind.wrap_i64]; omega
  have hwj : IntKind.i64.wrap (j : Int) = (j : Int) := by rw [IntKind.wrap_i64]; omega
  have hb0 : (0 : Int) ≤ (j : Int) := by omega
  have htj : ((j : Int)).toNat = j := by omega
  have hcn : ¬ (c : Int) < (n : Int) := by omega
  have hjj : (j : Int) ≤ (j : Int) := Int.le_refl _
  have hij1 : (i : Int) + 1 = (j : Int) := by omega
  have hci : ¬ (c = i) := by omega
  have hcj : ¬ (c = j) := by omega
  unfold maxLen at hcm
  clear h1 h2 hx hnl hxl hcl hsp1 hsp2 hR hrow hL1 hj
  go_enter Try.func79, Try.ntmps79
  go_wp2_with fail
  go_quiet (fail)
  go_wp2_with (refine wpList_copy_big rfl (.tmp 95) (.tmp 96) 38 38 rfl 40 4 Try.underlying38 (by kernel_rfl) (some ⟨g, i * 4, none⟩) (some ⟨vb, 0, none⟩) (n - i) (c - i) 1 1 rfl rfl g (i * 4) cur 40 hG.drew news HB1.out (fun _ => ⟨rfl, HR.out⟩) HB3.out HH1.out ?_; intro w3 hG3 hE3)
  obtain ⟨L1, hL1⟩ : ∃ L1, L1 = splice cur (i * 4) news := ⟨_, rfl⟩
  rw [← hL1] at hG3 HSP1 HSP2 HL1 HA3 HRow
  have HA2 : Hid (RowOf w3.drew (some ⟨g, j * 4, none⟩) (xs.drop (j * 4))) := Lib.hid (fun k u hu => ⟨g, j * 4, rfl, by rw [hG3.drew.cell]; exact HRow.out k u hu⟩)
  have hE03 : Ext (fun k => k = g) w w3 := ((Ext.refl _ w).drewN nq).trans hE3 (fun _ _ e => e)
  have HE03 := Lib.hid hE03
  clear hL1 hE03 HR HB1
  go_wp2_with fail
  refine region_start (fun k => k = g) (by kernel_rfl) ?_
  try simp only [Act.put, List.setIfInBounds_toArray, List.set_cons_zero, List.set_cons_succ]
  refine region_take 0 98 (v := ?vca0) rfl rfl (by kernel_rfl) (by kernel_rfl) (by kernel_rfl) (fun _ _ _ h => h) (by rfl) (fun w' hS => ?hca0) ?rca0
  case hca0 => go_simp; with_reducible rfl
  try simp only [Act.put, List.setIfInBounds_toArray, List.set_cons_zero, List.set_cons_succ]
  refine region_take 1 99 (v := ?vca1) rfl rfl (by kernel_rfl) (by kernel_rfl) (by kernel_rfl) (fun _ _ _ h => h) (by rfl) (fun w' hS => ?hca1) ?rca1
  case hca1 => go_simp; with_reducible rfl
  try simp only [Act.put, List.setIfInBounds_toArray, List.set_cons_zero, List.set_cons_succ]
  refine region_take 2 100 (v := ?vca2) rfl rfl (by kernel_rfl) (by kernel_rfl) (by kernel_rfl) (fun _ _ _ h => h) (by rfl) (fun w' hS => ?hca2) ?rca2
  case hca2 => go_simp; with_reducible rfl
  try simp only [Act.put, List.setIfInBounds_toArray, List.set_cons_zero, List.set_cons_succ]
  refine region_take 3 101 (v := ?vca3) rfl rfl (by kernel_rfl) (by kernel_rfl) (by kernel_rfl) (fun _ _ _ h => h) (by rfl) (fun w' hS => ?hca3) ?rca3
  case hca3 => go_simp; with_reducible rfl
  try simp only [Act.put, List.setIfInBounds_toArray, List.set_cons_zero, List.set_cons_succ]
  refine region_take 4 102 (v := ?vca4) rfl rfl (by kernel_rfl) (by kernel_rfl) (by kernel_rfl) (fun _ _ _ h => h) (by rfl) (fun w' hS => ?hca4) ?rca4
  case hca4 => go_simp; with_reducible rfl
  try simp only [Act.put, List.setIfInBounds_toArray, List.set_cons_zero, List.set_cons_succ]
  refine region_take 5 103 (v := ?vca5) rfl rfl (by kernel_rfl) (by kernel_rfl) (by kernel_rfl) (fun _ _ _ h => h) (by rfl) (fun w' hS => ?hca5) ?rca5
  case hca5 => go_simp; with_reducible rfl
  try simp only [Act.put, List.setIfInBounds_toArray, List.set_cons_zero, List.set_cons_succ]
  refine region_take 6 104 (v := ?vca6) rfl rfl (by kernel_rfl) (by kernel_rfl) (by kernel_rfl) (fun _ _ _ h => h) (by rfl) (fun w' hS => ?hca6) ?rca6
  case hca6 => go_simp; with_reducible rfl
  try simp only [Act.put, List.setIfInBounds_toArray, List.set_cons_zero, List.set_cons_succ]
  refine region_take 7 105 (v := ?vca7) rfl rfl (by kernel_rfl) (by kernel_rfl) (by kernel_rfl) (fun _ _ _ h => h) (by rfl) (fun w' hS => ?hca7) ?rca7
  case hca7 => go_simp; with_reducible rfl
  try simp only [Act.put, List.setIfInBounds_toArray, List.set_cons_zero, List.set_cons_succ]
  refine region_take 8 106 (v := ?vca8) rfl rfl (by kernel_rfl) (by kernel_rfl) (by kernel_rfl) (fun _ _ _ h => h) (by rfl) (fun w' hS => ?hca8) ?rca8
  case hca8 => go_simp; with_reducible rfl
  try simp only [Act.put, List.setIfInBounds_toArray, List.set_cons_zero, List.set_cons_succ]
  refine wpAnyH_ready (rs := [9]) (by kernel_rfl) (by simp) (AllReadyH.cons rfl (fun K hK => ?_) AllReadyH.nil)
  refine step_copy_big rfl (.tmp 103) (.tmp 106) 38 38 rfl 40 4 Try.underlying38 (by kernel_rfl) (some ⟨g, j * 4, none⟩) (some ⟨g, j * 4, none⟩) (n - j) (c - j) (n - j) (c - j) rfl rfl g (j * 4) L1 40 hG3.drew (xs.drop (j * 4)) HA1.out (fun _ => ⟨rfl, HA2.out⟩) HA3.out HA4.out ?_
  intro w4 hG4 hE4
  refine hK.out _ _ (hE4) (fun hHeld => ?_)
  clear hK K hHeld
  refine region_now (hE4) ?_
  try simp only [Act.put, List.setIfInBounds_toArray, List.set_cons_zero, List.set_cons_succ]
  refine wpAnyH_done (by kernel_rfl) ?_ _
  rw [HSP1.out] at hG4
  have hE04 : Ext (fun k => k = g) w w4 := HE03.out.drew.trans hE4 (fun _ _ e => e)
  have HE04 := Lib.hid hE04
  clear hG3 hE3 hE4 hE04 HE03
  have HN4 : Hid (n * 4 ≤ L1.length) := Lib.hid (by rw [HL1.out, HCL.out]; omega)
  have HNc := Lib.hid (show n ≤ c from hnc)
  have HHB := Lib.hid hB
  by_cases hcn2 : n = c
  · subst hcn2
    go_wp2_with (refine wpList_clear_big rfl (.tmp 110) 38 rfl 40 Try.underlying38 (.agg #[.int .i64 0, .int .i64 0, .string ⟨#[]⟩, .slice none 0 0]) (fun w => by kernel_rfl) zero_cells _ 0 _ rfl g (n * 4) L1 40 hG4 (fun e => absurd e (Nat.lt_irrefl 0)) (by have := HN4.out; omega) ?_; intro w5 cur5 hG5 hl5 ht5 hE5)
    have HG5 := Lib.hid hG5
    have HL5 := Lib.hid hl5
    have HT5 := Lib.hid ht5
    have HE5 := Lib.hid hE5
    clear hG5 hl5 ht5 hE5 hG4
    go_wp2_with fail
    go_ret
    refine ⟨some ⟨g, 0, none⟩, n, rfl, ⟨?_, Or.inr ⟨g, n, _, rfl, HHB.out, HG5.out, Nat.le_refl _, by unfold maxLen; omega, ?_, by simp only [List.toList_toArray]; rw [HT5.out, HSP2.out]⟩⟩, HE04.out.trans HE5.out (fun _ _ e => e)⟩
    · simp only [List.length_append, List.length_take, List.length_drop, HNL.out, HXL.out]; have := HJ.out; omega
    · simp only [List.size_toArray, HL5.out, HL1.out, HCL.out]
  · have hcn3 : ¬ (c = n) := fun e => hcn2 e.symm
    go_wp2_with (refine wpList_clear_big rfl (.tmp 110) 38 rfl 40 Try.underlying38 (.agg #[.int .i64 0, .int .i64 0, .string ⟨#[]⟩, .slice none 0 0]) (fun w => by kernel_rfl) zero_cells _ 0 _ rfl g (n * 4) L1 40 hG4 (fun e => absurd e (Nat.lt_irrefl 0)) (by have := HN4.out; omega) ?_; intro w5 cur5 hG5 hl5 ht5 hE5)
    have HG5 := Lib.hid hG5
    have HL5 := Lib.hid hl5
    have HT5 := Lib.hid ht5
    have HE5 := Lib.hid hE5
    clear hG5 hl5 ht5 hE5 hG4
    go_wp2_with fail
    go_ret
    refine ⟨some ⟨g, 0, none⟩, c, rfl, ⟨?_, Or.inr ⟨g, c, _, rfl, HHB.out, HG5.out, HNc.out, by unfold maxLen; omega, ?_, by simp only [List.toList_toArray]; rw [HT5.out, HSP2.out]⟩⟩, HE04.out.trans HE5.out (fun _ _ e => e)⟩
    · simp only [List.length_append, List.length_take, List.length_drop, HNL.out, HXL.out]; have := HJ.out; omega
    · simp only [List.size_toArray, HL5.out, HL1.out, HCL.out]
set_option maxHeartbeats 1000000 in
set_option maxRecDepth 100000 in
theorem replace_none (B : Nat) (a : Option Addr) (n c : Nat) (xs : List Value) (vb : Nat) (news : List Value) (w : World) (hO : w.ownsRow B 40 4 (.slice a n c) n xs) (hV : BlockIs w vb news 40) (hnl : news.length = 4) (hn : n ≤ 100000) (hn0 : 0 < n) (hB : B ≤ w.heap.size) (h1 : ∀ u ∈ news, u.oneCell' = true) :
    Calls Try.prog 79 #[.slice a n c, .int .i64 n, .int .i64 n, .slice (some ⟨vb, 0, none⟩) 1 1] w (OwnTo B (n + 1) (xs ++ news) (fun k => (Value.slice a n c).ownBlock = some k) w) := by
  obtain ⟨a0, c0, he, hnc, hcm, hnil, _⟩ := own_form hO
  cases he
  have HC := Lib.hid (insert_end B a n c xs vb 1 news w hO hV (by rw [hnl]) (by omega) (by omega) hn hB h1)
  have hnn : n ≤ n := Nat.le_refl n
  unfold maxLen at hcm
  cases a with
  | none => have := hnil rfl; omega
  | some ad =>
  clear hO hV
  rcases Decidable.em (c = n) with rfl | hcn
  all_goals
    go_enter Try.func79, Try.ntmps79
    go_wp2_with fail
    refine HC.out.mono ?_
    rintro e w1 ⟨a', c', rfl, hO', hE⟩
    have HO' := Lib.hid hO'
    have HE := Lib.hid hE
    clear hO' hE HC
    go_wp2_with fail
    go_ret
    exact ⟨a', c', rfl, HO'.out, HE.out⟩
/-- one value in the place of at most one -/
theorem replace_any (B : Nat) (a : Option Addr) (n c i j : Nat) (xs : List Value) (vb : Nat) (news : List Value) (w : World) (hO : w.ownsRow B 40 4 (.slice a n c) n xs) (hV : BlockIs w vb news 40) (hnl : news.length = 4) (hn : n ≤ 100000) (hn0 : 0 < n) (hi : i ≤ n) (hj : j = min (i + 1) n) (hB : B ≤ w.heap.size) (h1 : ∀ u ∈ news, u.oneCell' = true) (h2 : ∀ u ∈ xs, u.oneCell' = true) :
    Calls Try.prog 79 #[.slice a n c, .int .i64 i, .int .i64 j, .slice (some ⟨vb, 0, none⟩) 1 1] w (OwnTo B (i + 1 + (n - j)) (xs.take (i * 4) ++ (news ++ xs.drop (j * 4))) (fun k => (Value.slice a n c).ownBlock = some k) w) := by
  have hxl := hO.1
  by_cases he : i = n
  · obtain rfl : j = n := by omega
    subst he
    have := replace_none B a i c xs vb news w hO hV hnl hn hn0 hB h1
    rw [List.take_of_length_le (by omega), List.drop_eq_nil_of_le (by omega), List.append_nil, show i + 1 + (i - i) = i + 1 by omega]
    exact this
  · obtain rfl : j = i + 1 := by omega
    by_cases he2 : i + 1 = n
    · have := replace_last B a n c i xs vb news w hO hV hnl hn he2 hB h1
      rw [← he2] at this hxl ⊢
      rw [List.drop_eq_nil_of_le (by omega), List.append_nil, show i + 1 + (i + 1 - (i + 1)) = i + 1 by omega]
      exact this
    · rcases hO.2 with ⟨hv, rfl⟩ | ⟨g, cap, cur, hv, hg, hh, e1, e2, e3, e4⟩
      · omega
      · cases hv
        have hG : BlockIs w g cur.toList 40 := hh
        have := replace_mid B g n c i cur.toList vb news w hG (by simpa using e3) e1 e2 hV hnl hn (by omega) hg h1 (by rw [e4]; exact h2)
        rw [e4] at this
        rw [show i + 1 + (n - (i + 1)) = n by omega]
        exact this.mono fun e w' h => h.mono (fun k _ hk => by subst hk; rfl)
end Go.Proofs.Ytomcdhljjmnahaa.V11
namespace Go.Proofs.Ytomcdhljjmnahaa.V11
set_option linter.unusedVariables false
set_option linter.unusedSimpArgs false
open Go.RowKit

end Go.Proofs.Ytomcdhljjmnahaa.V11
namespace Go.Proofs.Ytomcdhljjmnahaa.V11
set_option linter.unusedVariables false
set_option linter.unusedSimpArgs false
open Go.RowKit

inductive Fit (W : World) (d : Nat) : List V → List Value → Prop
  | nil : Fit W d [] []
  | cons {u : V} {r : List Value} {l : List V} {xs : List Value} : Lies W d u r → Fit W d l xs → Fit W d (u :: l) (r ++ xs)
theorem Fit.len {W : World} {d : Nat} {l : List V} {xs : List Value} (h : Fit W d l xs) : xs.length = l.length * 4 := by
  induction h with
  | nil => rfl
  | cons h1 _ ih => rw [List.length_append, h1.len, ih, List.length_cons]; omega
theorem Fit.pure {W W' : World} {d : Nat} {l : List V} {xs : List Value} (h : Fit W d l xs) (hP : Pure W W') : Fit W' d l xs := by
  induction h with
  | nil => exact .nil
  | cons h1 _ ih => exact .cons (h1.pure hP) ih
theorem Fit.mono {W : World} {d d' : Nat} {l : List V} {xs : List Value} (h : Fit W d l xs) (hd : d ≤ d') : Fit W d' l xs := by
  induction h with
  | nil => exact .nil
  | cons h1 _ ih => exact .cons (h1.mono hd) ih
theorem Fit.one {W : World} {d : Nat} {l : List V} {xs : List Value} (h : Fit W d l xs) : ∀ u ∈ xs, u.oneCell' = true := by
  induction h with
  | nil => intro u hu; cases hu
  | cons h1 _ ih =>
    intro u hu
    rcases List.mem_append.1 hu with hu | hu
    · have := h1.one
      rw [Array.all_eq_true'] at this
      exact this u (by simpa using hu)
    · exact ih u hu
theorem Fit.append {W : World} {d : Nat} {l m : List V} {xs ys : List Value} (h : Fit W d l xs) (h2 : Fit W d m ys) : Fit W d (l ++ m) (xs ++ ys) := by
  induction h with
  | nil => exact h2
  | cons h1 _ ih => rw [List.cons_append, List.append_assoc]; exact .cons h1 ih
theorem Fit.single {W : World} {d : Nat} {u : V} {r : List Value} (h : Lies W d u r) : Fit W d [u] r := by
  have := Fit.cons h (Fit.nil (W := W) (d := d))
  rwa [List.append_nil] at this
theorem Fit.take {W : World} {d : Nat} {l : List V} {xs : List Value} (h : Fit W d l xs) : ∀ k : Nat, Fit W d (l.take k) (xs.take (k * 4)) := by
  induction h with
  | nil => intro k; simp; exact .nil
  | @cons u r l xs h1 _ ih =>
    intro k
    cases k with
    | zero => simp; exact .nil
    | succ k =>
      have e := h1.len
      rw [List.take_succ_cons, List.take_append, List.take_of_length_le (l := r) (by omega), show (k + 1) * 4 - r.length = k * 4 by omega]
      exact .cons h1 (ih k)
theorem Fit.drop {W : World} {d : Nat} {l : List V} {xs : List Value} (h : Fit W d l xs) : ∀ k : Nat, Fit W d (l.drop k) (xs.drop (k * 4)) := by
  induction h with
  | nil => intro k; simp; exact .nil
  | @cons u r l xs h1 h2 ih =>
    intro k
    cases k with
    | zero => simp; exact .cons h1 h2
    | succ k =>
      have e := h1.len
      rw [List.drop_succ_cons, List.drop_append, show r.drop ((k + 1) * 4) = [] from List.drop_eq_nil_of_le (by omega), List.nil_append, show (k + 1) * 4 - r.length = k * 4 by omega]
      exact ih k
theorem fit_rows {W : World} {d : Nat} : ∀ (l : List V) (rows : List (List Value)), rows.length = l.length → (∀ (i : Nat) (u : V) (r : List Value), l[i]? = some u → rows[i]? = some r → Lies W d u r) → Fit W d l (rows.flatMap id)
  | [], [], _, _ => .nil
  | u :: l, r :: rows, hl, h => by
    rw [List.flatMap_cons]
    exact .cons (h 0 u r rfl rfl) (fit_rows l rows (by simpa using hl) (fun i u r hu hr => h (i + 1) u r hu hr))
  | [], _ :: _, hl, _ => by simp at hl
  | _ :: _, [], hl, _ => by simp at hl
theorem Kids.fit {W : World} {d : Nat} {l : List V} {a : Option Addr} {rows : List (List Value)} (h : Kids W d l a rows) : Fit W d l (rows.flatMap id) := fit_rows l rows h.len h.lies
theorem Fit.rows {W : World} {d : Nat} {l : List V} {xs : List Value} (h : Fit W d l xs) : ∃ rows : List (List Value), xs = rows.flatMap id ∧ rows.length = l.length ∧ (∀ r ∈ rows, r.length = 4) ∧ (∀ (i : Nat) (u : V) (r : List Value), l[i]? = some u → rows[i]? = some r → Lies W d u r) := by
  induction h with
  | nil => exact ⟨[], rfl, rfl, (fun r hr => by cases hr), (fun i u r hu => by simp at hu)⟩
  | @cons u r l xs h1 _ ih =>
    obtain ⟨rows, rfl, e1, e2, e3⟩ := ih
    refine ⟨r :: rows, by rw [List.flatMap_cons]; rfl, by simp [e1], ?_, ?_⟩
    · intro r hr
      rcases List.mem_cons.1 hr with rfl | hr
      · exact h1.len
      · exact e2 r hr
    · intro i u r hu hr
      cases i with
      | zero => cases hu; cases hr; exact h1
      | succ i => exact e3 i u r hu hr
theorem Fit.kids {W : World} {d : Nat} {l : List V} {xs : List Value} {a : Option Addr} (h : Fit W d l xs) (hr : RowOf W a xs) : ∃ rows : List (List Value), xs = rows.flatMap id ∧ Kids W d l a rows := by
  obtain ⟨rows, rfl, e1, e2, e3⟩ := h.rows
  exact ⟨rows, rfl, e1, e2, hr, e3⟩
theorem Fit.at {W : World} {d : Nat} {l : List V} {xs : List Value} {a : Option Addr} (h : Fit W d l xs) (hr : RowOf W a xs) (k : Nat) (u : V) (hk : l[k]? = some u) :
    ∃ b o r, a = some ⟨b, o, none⟩ ∧ W.rangeAt b (o + k * 4) r ∧ r.length = 4 ∧ Lies W d u r := by
  obtain ⟨rows, _, hK⟩ := h.kids hr
  exact hK.at k u hk
theorem Fit.lies {W : World} {d : Nat} {l : List V} {xs : List Value} {a : Option Addr} (h : Fit W d l xs) (hr : RowOf W a xs) (k n : Int) (s : ByteArray) (c : Nat) (hc : l.length ≤ c) (hcm : c ≤ maxLen) (hnil : a = none → c = 0) (hs : s.size ≤ maxLen) :
    Lies W (d + 1) (.mk k n s l) [.int .i64 k, .int .i64 n, .string s, .slice a l.length c] := by
  obtain ⟨rows, rfl, hK⟩ := h.kids hr
  exact ⟨a, c, rows, rfl, hK.len, hK.four, hK.row, hc, hcm, hnil, hK.lies, hs⟩
/-- a value with none in it -/
theorem Lies.leaf (W : World) (d : Nat) (k n : Int) (s : ByteArray) (hs : s.size ≤ maxLen) : Lies W (d + 1) (.mk k n s []) [.int .i64 k, .int .i64 n, .string s, .slice none 0 0] :=
  Fit.lies .nil (fun i u hu => by simp at hu) k n s 0 (Nat.le_refl _) (Nat.zero_le _) (fun _ => rfl) hs
/-- from the parts of a value -/
theorem Lies.fit {W : World} {d : Nat} {v : V} {cs : List Value} (h : Lies W (d + 1) v cs) : ∃ a c xs, cs = [.int .i64 v.kind, .int .i64 v.n, .string v.s, .slice a v.l.length c] ∧ v.l.length ≤ c ∧ c ≤ maxLen ∧ (a = none → c = 0) ∧ Fit W d v.l xs ∧ RowOf W a xs ∧ v.s.size ≤ maxLen := by
  obtain ⟨a, c, rows, h1, h2, h3, h4, hK, h5⟩ := h.kids
  exact ⟨a, c, rows.flatMap id, h1, h2, h3, h4, hK.fit, hK.row, h5⟩
/-- the first of every other value that has it -/
def nextP (p : V → Bool) : List V → Option Nat
  | [] => none
  | [u] => if p u then some 0 else none
  | u :: _ :: l => if p u then some 0 else (nextP p l).map (· + 2)
theorem nextP_hit {p : V → Bool} {u : V} {l : List V} (h : p u = true) : nextP p (u :: l) = some 0 := by
  cases l <;> simp [nextP, h]
theorem nextP_miss {p : V → Bool} {u : V} {l : List V} (h : p u = false) : nextP p (u :: l) = (nextP p (l.drop 1)).map (· + 2) := by
  cases l <;> simp [nextP, h]
/-- where it stands from a place on; below 0: nowhere -/
def placeAt (p : V → Bool) (l : List V) (k : Nat) : Option Nat := (nextP p (l.drop k)).map (· + k)
theorem placeAt_end {p : V → Bool} {l : List V} {k : Nat} (h : l.length ≤ k) : placeAt p l k = none := by
  rw [placeAt, List.drop_eq_nil_of_le h]; rfl
theorem placeAt_hit {p : V → Bool} {l : List V} {k : Nat} {u : V} (hu : l[k]? = some u) (h : p u = true) : placeAt p l k = some k := by
  obtain ⟨hk, rfl⟩ := List.getElem?_eq_some_iff.1 hu
  rw [placeAt, List.drop_eq_getElem_cons hk, nextP_hit h]; simp
theorem placeAt_miss {p : V → Bool} {l : List V} {k : Nat} {u : V} (hu : l[k]? = some u) (h : p u = false) : placeAt p l k = placeAt p l (k + 2) := by
  obtain ⟨hk, rfl⟩ := List.getElem?_eq_some_iff.1 hu
  rw [placeAt, placeAt, List.drop_eq_getElem_cons hk, nextP_miss h, List.drop_drop, Option.map_map, show k + 1 + 1 = k + 2 from by omega]
  congr 1
  funext x
  simp only [Function.comp]
  omega
theorem nextP_spec {p : V → Bool} : ∀ (l : List V) (i : Nat), nextP p l = some i → i < l.length ∧ (∃ u, l[i]? = some u ∧ p u = true) ∧ i % 2 = 0
  | [], i, h => by simp [nextP] at h
  | [u], i, h => by
    simp only [nextP] at h
    split at h
    · next hp => cases h; exact ⟨by simp, ⟨u, rfl, hp⟩, rfl⟩
    · cases h
  | u :: y :: l, i, h => by
    simp only [nextP] at h
    split at h
    · next hp => cases h; exact ⟨by simp, ⟨u, rfl, hp⟩, rfl⟩
    · obtain ⟨j, hj, rfl⟩ := Option.map_eq_some_iff.1 h
      obtain ⟨h1, ⟨z, h2, h3⟩, h4⟩ := nextP_spec l j hj
      exact ⟨by simp; omega, ⟨z, by simpa using h2, h3⟩, by omega⟩
def hit (key : ByteArray) (u : V) : Bool := u.kind == 5 && (u.s.toList == key.toList)
def over (key : ByteArray) (u : V) : Bool := u.kind == 5 && Op.bytesLess key.toList u.s.toList
/-- where a name stands -/
def V.find (v : V) (key : ByteArray) : Option Nat := if v.kind = 7 then nextP (hit key) v.l else none
def nameV (key : ByteArray) : V := .mk 5 0 key []
def nullV : V := .mk 0 0 ⟨#[]⟩ []
def placeOf (l : List V) (key : ByteArray) : Nat := (nextP (over key) l).getD l.length
def V.put (v : V) (key : ByteArray) (x : V) : V :=
  if v.kind = 7 then
    match nextP (hit key) v.l with
    | some i => .mk v.kind v.n v.s (v.l.take (i + 1) ++ ([x] ++ v.l.drop (min (i + 2) v.l.length)))
    | none => .mk v.kind v.n v.s (v.l.take (placeOf v.l key) ++ ([nameV key, x] ++ v.l.drop (placeOf v.l key)))
  else v
def V.dropped (v : V) (key : ByteArray) : V :=
  match v.find key with
  | some i => .mk v.kind v.n v.s (v.l.take i ++ v.l.drop (min (i + 2) v.l.length))
  | none => v
def V.get (v : V) (key : ByteArray) : V × Bool :=
  match v.find key with
  | some i => (v.l[i + 1]?.getD nullV, true)
  | none => (nullV, false)
end Go.Proofs.Ytomcdhljjmnahaa.V11
namespace Go.Proofs.Ytomcdhljjmnahaa.V11
set_option linter.unusedVariables false
set_option linter.unusedSimpArgs false
open Go.RowKit

/-- a place as a number; below 0: none -/
def optI : Option Nat → Int
  | some i => i
  | none => -1
theorem placeAt_zero (p : V → Bool) (l : List V) : placeAt p l 0 = nextP p l := by
  rw [placeAt, List.drop_zero]; cases nextP p l <;> rfl
set_option maxHeartbeats 1000000 in
set_option maxRecDepth 100000 in
theorem find_any (d : Nat) (v : V) (cs : List Value) (key : ByteArray) (w : World) (h : Lies w (d + 1) v cs) (hl : v.l.length ≤ 1000000) :
    Calls Try.prog 62 #[.agg cs.toArray, .string key] w (IntTo (optI (v.find key)) w) := by
  obtain ⟨a, c, rows, rfl, hlc, hcm, hnil, hK, hs⟩ := h.kids
  obtain ⟨E, hE⟩ : ∃ E, E = optI (v.find key) := ⟨_, rfl⟩
  rw [← hE]
  unfold V.find at hE
  obtain ⟨l, hll⟩ : ∃ l, l = v.l := ⟨_, rfl⟩
  rw [← hll] at hE hl hK ⊢
  generalize v.kind = k0 at *
  generalize v.n = n0 at *
  generalize v.s = s0 at *
  obtain ⟨n, hn⟩ : ∃ n, n = l.length := ⟨_, rfl⟩
  rw [← hn] at hl ⊢
  obtain ⟨w1, hw1⟩ : ∃ w1, w1 = w.alloc (.cells #[.int .i64 k0, .int .i64 n0, .string s0, .slice a n c] 40) := ⟨_, rfl⟩
  have hBx : BlockIs w1 w.heap.size [.int .i64 k0, .int .i64 n0, .string s0, .slice a n c] 40 := hw1 ▸ BlockIs.new w _ _
  have hP1 : Pure w w1 := hw1 ▸ ext_alloc w _
  have hK1 := hK.pure hP1
  obtain ⟨tb, htb⟩ : ∃ tb, tb = w.heap.size := ⟨_, rfl⟩
  rw [← htb] at hBx
  have HE := Lib.hid hE
  have HN := Lib.hid hn
  have HW1 := Lib.hid hw1
  have HTb := Lib.hid htb
  have HP1 := Lib.hid hP1
  have c0 : w1.cell? ⟨tb, 0, none⟩ = some (.int .i64 k0) := hBx.cell 0
  have c3 : w1.cell? ⟨tb, 3, none⟩ = some (.slice a n c) := hBx.cell 3
  clear hE hn hw1 htb hK h hll hBx hP1 hs
  by_cases h7 : k0 = 7
  · subst h7
    have HE1 : Hid (E = optI (nextP (hit key) l)) := Lib.hid (by rw [HE.out, if_pos rfl])
    clear HE
    go_enter Try.func62, Try.ntmps62
    go_wp2_with fail
    rw [← HW1.out, ← HTb.out]
    go_loop [5] (fun i => ∃ k : Nat, k ≤ n + 1 ∧ i = .int .i64 k ∧ Hid (E = optI (placeAt (hit key) l k))) (fun i => n + 1 - (intOf i).toNat)
    case atStart => exact ⟨0, by omega, rfl, Lib.hid (by rw [HE1.out, placeAt_zero])⟩
    case round =>
      obtain ⟨k, hk, rfl, HA⟩ := hrel
      by_cases hlt : k < n
      · have hki : (k : Int) < (n : Int) := by omega
        obtain ⟨u, hu⟩ : ∃ u, l[k]? = some u := ⟨_, List.getElem?_eq_getElem (by rw [← HN.out]; exact hlt)⟩
        obtain ⟨b, o, a', c', rfl, e0, e1, e2, e3⟩ := hK1.cells k u hu
        obtain ⟨H, hH⟩ : ∃ H, H = hit key u := ⟨_, rfl⟩
        have hyes : H = true → E = k := fun e => by rw [HA.out, placeAt_hit hu (hH.symm.trans e)]; rfl
        have hno : H = false → E = optI (placeAt (hit key) l (k + 2)) := fun e => by rw [HA.out, placeAt_miss hu (hH.symm.trans e)]
        unfold hit at hH
        generalize u.kind = kk at *
        generalize u.s = ss at *
        clear hu
        by_cases h5 : kk = 5
        · subst h5
          obtain ⟨Q, hQ⟩ : ∃ Q, Q = (ss.toList == key.toList) := ⟨_, rfl⟩
          have hHQ : H = Q := by rw [hH, hQ]; rfl
          have hQ' : (ss.toList == key.toList) = Q := hQ.symm
          subst hHQ
          have HY := Lib.hid hyes
          have HNo := Lib.hid hno
          clear hH hQ hyes hno
          cases H with
          | true =>
            have HB := Lib.hid (HY.out rfl)
            clear HY HNo HA
            go_wp2_with fail
            go_ret
            exact ⟨by rw [HB.out]; rfl, HP1.out⟩
          | false =>
            have HB := Lib.hid (HNo.out rfl)
            clear HY HNo HA
            go_wp2_with fail
            go_round
            case rel => exact ⟨k + 2, by omega, by go_num, HB⟩
            case measure => simp [intOf]; omega
        · have HB : Hid (E = optI (placeAt (hit key) l (k + 2))) := Lib.hid (hno (by rw [hH]; simp [h5]))
          have h5' : (kk == 5) = false := by simpa using h5
          clear hH hyes hno HA h5
          go_wp2_with fail
          go_round
          case rel => exact ⟨k + 2, by omega, by go_num, HB⟩
          case measure => simp [intOf]; omega
      · have hki : ¬ (k : Int) < (n : Int) := by omega
        have HB : Hid (E = -1) := Lib.hid (by rw [HA.out, placeAt_end (by rw [← HN.out]; omega)]; rfl)
        go_wp2_with fail
        go_ret
        exact ⟨by rw [HB.out]; rfl, HP1.out⟩
  · have HB : Hid (E = -1) := Lib.hid (by rw [HE.out, if_neg h7]; rfl)
    have h7' : (k0 != 7) = true := by simpa using h7
    have h7'' : (k0 == 7) = false := by simpa using h7
    clear h7 HE
    go_enter Try.func62, Try.ntmps62
    go_wp2_with fail
    skip
    go_ret
    exact ⟨by rw [HB.out]; rfl, by rw [← HW1.out]; exact HP1.out⟩
end Go.Proofs.Ytomcdhljjmnahaa.V11
namespace Go.Proofs.Ytomcdhljjmnahaa.V11
set_option linter.unusedVariables false
set_option linter.unusedSimpArgs false
open Go.RowKit

theorem results_row1 {P : Program} {fn : Func} {p : Tmp} {ty : TypeId} (h : fn.results = #[.cell p ty]) (tmps : Array Value) (w : World) (g : Nat) (t : TypeId) (cs : List Value) (d : TypeDesc)
    (hp : tmps.getD p undef = .pointer (some ⟨g, 0, none⟩)) (hg : BlockIs w g cs t) (hu : P.underlying ty = some d) (hd : (match d with | .struct _ | .array _ _ => true | _ => false) = true) (hi : (P.info? ty).map (·.size) = some cs.length) :
    (results fn tmps).run P w = .ok (.agg cs.toArray) w :=
  results_cell_row h tmps w g t cs.toArray (0, 0) d hp hg hu hd (by simpa using hi)
theorem results_row2 {P : Program} {fn : Func} {p u : Tmp} {ty : TypeId} (h : fn.results = #[.cell p ty, .tmp u]) (tmps : Array Value) (w : World) (g : Nat) (t : TypeId) (cs : List Value) (d : TypeDesc)
    (hp : tmps.getD p undef = .pointer (some ⟨g, 0, none⟩)) (hg : BlockIs w g cs t) (hu : P.underlying ty = some d) (hd : (match d with | .struct _ | .array _ _ => true | _ => false) = true) (hi : (P.info? ty).map (·.size) = some cs.length) :
    (results fn tmps).run P w = .ok (.tuple #[.agg cs.toArray, tmps.getD u undef]) w := by
  rw [results_cell_tmp h, hp]
  have := run_loadVar_row (P := P) w g t ty cs.toArray (0, 0) d hg hu hd (by simpa using hi)
  simp only [asAddr, Sem.run_pure, Result.andThen, this]
theorem size24 : (Try.prog.info? 40).map (·.size) = some 4 := by kernel_rfl
/-- a value of the call's own, and whether there is one -/
def GetTo (F : V × Bool) (d : Nat) (w : World) (e : Ending) (w' : World) : Prop :=
  ∃ cs, e = .returned (.tuple #[.agg cs.toArray, .bool F.2]) ∧ Lies w' (d + 1) F.1 cs ∧ Pure w w'
/-- a value of the call's own -/
def ValTo (u : V) (d : Nat) (w : World) (e : Ending) (w' : World) : Prop :=
  ∃ cs, e = .returned (.agg cs.toArray) ∧ Lies w' d u cs ∧ Pure w w'
theorem find_lt {v : V} {key : ByteArray} {i : Nat} (h : v.find key = some i) : i < v.l.length := by
  unfold V.find at h
  split at h
  · exact (nextP_spec _ _ h).1
  · cases h
theorem lies_null (W : World) (d : Nat) : Lies W (d + 1) nullV zeroCs := Lies.leaf W d 0 0 ⟨#[]⟩ (Nat.zero_le _)
theorem one_zero : (zeroCs.toArray.all fun u => u.oneCell') = true := all_oneCell_toArray (by intro u hu; simp only [zeroCs, List.mem_cons, List.not_mem_nil, or_false] at hu; rcases hu with rfl | rfl | rfl | rfl <;> rfl)
end Go.Proofs.Ytomcdhljjmnahaa.V11
namespace Go.Proofs.Ytomcdhljjmnahaa.V11
set_option linter.unusedVariables false
set_option linter.unusedSimpArgs false
open Go.RowKit

set_option maxHeartbeats 1000000 in
set_option maxRecDepth 100000 in
theorem get_any (d : Nat) (v : V) (cs : List Value) (key : ByteArray) (w : World) (h : Lies w (d + 1) v cs) (hl : v.l.length ≤ 1000000) :
    Calls Try.prog 32 #[.agg cs.toArray, .string key] w (GetTo (v.get key) d w) := by
  have h4 := h.len
  have HF := Lib.hid (fun W (hP : Pure w W) => find_any d v cs key W (h.pure hP) hl)
  obtain ⟨w1, hw1⟩ : ∃ w1, w1 = w.alloc (.cells cs.toArray 40) := ⟨_, rfl⟩
  have hB1 : BlockIs w1 w.heap.size cs 40 := hw1 ▸ BlockIs.new w _ _
  have hP1 : Pure w w1 := hw1 ▸ ext_alloc w _
  obtain ⟨tb, htb⟩ : ∃ tb, tb = w.heap.size := ⟨_, rfl⟩
  have hs1 : w1.heap.size = tb + 1 := by rw [hw1, World.size_alloc, htb]
  have htw : w.heap.size ≤ tb := by omega
  rw [← htb] at hB1
  obtain ⟨w2, hw2⟩ : ∃ w2, w2 = w1.alloc (.cells zeroCs.toArray 40) := ⟨_, rfl⟩
  have hB1' : BlockIs w2 tb cs 40 := hw2 ▸ hB1.alloc _
  have hB2 : BlockIs w2 (tb + 1) zeroCs 40 := by rw [← hs1, hw2]; exact BlockIs.new w1 _ _
  have hP2 : Pure w w2 := hP1.pure (hw2 ▸ ext_alloc w1 _)
  have hR := hB1'.range
  have HW1 := Lib.hid hw1
  have HW2 := Lib.hid (show w2 = w1.alloc (.cells #[.int .i64 0, .int .i64 0, .string ⟨#[]⟩, .slice none 0 0] 40) from hw2)
  have HTb := Lib.hid htb
  have HS1 := Lib.hid hs1
  have HTw := Lib.hid htw
  have HL := Lib.hid h
  have HCs := Lib.hid (show cs.length = 4 from h4)
  clear hw1 htb hw2 hs1 h htw
  obtain ⟨F, hF⟩ : ∃ F, F = v.get key := ⟨_, rfl⟩
  rw [← hF]
  unfold V.get at hF
  have hlt := fun i => find_lt (v := v) (key := key) (i := i)
  obtain ⟨p, hp⟩ : ∃ p, p = v.find key := ⟨_, rfl⟩
  rw [← hp] at hF hlt HF
  have HFF := Lib.hid hF
  have HLt := Lib.hid hlt
  clear hF hp hlt
  obtain ⟨a, c, rows, hcs0, hlc, hcm, hnil, hK, hs⟩ := HL.out.kids
  have hcs := Lib.hid hcs0
  clear hcs0
  go_enter Try.func32, Try.ntmps32
  go_wp2_with (refine wpList_load_mid rfl 40 (.tmp 2) rfl tb 0 (by rw [HTb.out]; rfl) cs _ (by rw [← HW1.out, ← HW2.out]; exact hR) Try.underlying40 rfl (by rw [HCs.out]; kernel_rfl) ?_)
  rw [← HW1.out, ← HTb.out, ← HW2.out]
  refine (HF.out w2 hP2).mono ?_
  rintro e w3 ⟨rfl, hP3⟩
  have hB23 := hB2.ext hP3 id
  have hB13 := hB1'.ext hP3 id
  have hP03 := hP2.pure hP3
  have HTh := Lib.hid (hB23.there 4 rfl)
  clear HF hR hB1 hB2 hB1'
  cases p with
  | none =>
    have HFN : Hid (F = (nullV, false)) := Lib.hid HFF.out
    have hB3 := hB23.setAll zeroCs rfl
    have hP4 := Ext.setCells zeroCs 0 w3 hP03 (b := tb + 1) (fun h => by have := HTw.out; omega)
    have HB3 := Lib.hid hB3
    have HP4 := Lib.hid hP4
    clear hB3 hP4 hB23 hB13 hP03
    go_wp2_with (refine wpList_store_mid rfl 40 (.tmp 4) (.tmp 13) rfl (tb + 1) 0 zeroCs.toArray rfl rfl HTh.out size24 one_zero ?_; try simp only [List.toArray_toList])
    refine bodyPost_ret (results_row2 rfl _ _ (tb + 1) _ zeroCs _ rfl HB3.out Try.underlying40 rfl size24) rfl ?_
    exact ⟨zeroCs, by rw [HFN.out]; rfl, by rw [HFN.out]; exact lies_null _ _, HP4.out⟩
  | some i =>
    have HFN : Hid (F = (v.l[i + 1]?.getD nullV, true)) := Lib.hid HFF.out
    have hi := HLt.out i rfl
    obtain rfl := hcs.out
    have c3 : w3.cell? ⟨tb, 3, none⟩ = some (.slice a v.l.length c) := hB13.cell 3
    obtain ⟨l, hll⟩ : ∃ l, l = v.l := ⟨_, rfl⟩
    rw [← hll] at hi hl HFN hK c3
    obtain ⟨n, hn⟩ : ∃ n, n = l.length := ⟨_, rfl⟩
    rw [← hn] at hi hl c3
    have HN := Lib.hid hn
    have HFF2 := Lib.hid HFN.out
    by_cases he : i + 1 = n
    · have HF3 : Hid (F = (nullV, true)) := Lib.hid (by rw [HFN.out, List.getElem?_eq_none (by rw [← HN.out]; omega)]; rfl)
      have hie : (i : Int) + 1 = (n : Int) := by omega
      have hB3 := hB23.setAll zeroCs rfl
      have hP4 := Ext.setCells zeroCs 0 w3 hP03 (b := tb + 1) (fun h => by have := HTw.out; omega)
      have HB3 := Lib.hid hB3
      have HP4 := Lib.hid hP4
      clear hB3 hP4 hB23 hB13 hP03 hll hn HFN HFF2 HFF he
      simp only [optI]
      go_wp2_with (refine wpList_store_mid rfl 40 (.tmp 4) (.tmp 21) rfl (tb + 1) 0 zeroCs.toArray rfl rfl HTh.out size24 one_zero ?_; try simp only [List.toArray_toList])
      refine bodyPost_ret (results_row2 rfl _ _ (tb + 1) _ zeroCs _ rfl HB3.out Try.underlying40 rfl size24) rfl ?_
      exact ⟨zeroCs, by rw [HF3.out]; rfl, by rw [HF3.out]; exact lies_null _ _, HP4.out⟩
    · obtain ⟨u, hu⟩ : ∃ u, l[i + 1]? = some u := ⟨_, List.getElem?_eq_getElem (by rw [← HN.out]; omega)⟩
      have HF3 : Hid (F = (u, true)) := Lib.hid (by rw [HFN.out, hu]; rfl)
      obtain ⟨b, o, r, rfl, hr0, hr4, hL0⟩ := hK.at (i + 1) u hu
      have hr : w3.rangeAt b (o + (i + 1) * 4) r := fun j v hv => hP03.cell_some (hr0 j v hv) id
      have hL := hL0.pure hP03
      have HL0 := Lib.hid hL0
      have hie : ¬ (i : Int) + 1 = (n : Int) := by omega
      have hie2 : (i : Int) + 1 < (n : Int) := by omega
      have hone := hL.one
      have hP4 := Ext.setCells r 0 w3 hP03 (b := tb + 1) (fun h => by have := HTw.out; omega)
      have hP34 := Ext.setCells r 0 w3 (Ext.refl (fun k => k = tb + 1) w3) (b := tb + 1) (fun h => rfl)
      have hB3 := hB23.setAll r (by rw [hr4]; rfl)
      have hLL := hK
      have HB3 := Lib.hid hB3
      have HP4 := Lib.hid hP4
      have HOne := Lib.hid hone
      have HR4 := Lib.hid hr4
      have HSi : Hid ((Try.prog.info? 40).map (·.size) = some r.toArray.size) := Lib.hid (by rw [List.size_toArray, hr4]; exact size24)
      have HTh' : Hid (w3.there (tb + 1) 0 r.toArray.size) := Lib.hid (by rw [List.size_toArray, hr4]; exact HTh.out)
      have HKid := Lib.hid hK
      have HU := Lib.hid hu
      have hr' : w3.rangeAt b (o + (i + 1) * 4) r := hr
      clear hB3 hP4 hB23 hB13 hll hn HFN HFF2 HFF he hone hr4 hL hL0 hr0 hu hr hK hLL
      simp only [optI]
      go_wp2_with (first
        | (refine wpList_load_mid rfl 40 (.tmp 26) rfl b (o + (i + 1) * 4) rfl r _ hr' Try.underlying40 rfl (by rw [HR4.out]; kernel_rfl) ?_)
        | (refine wpList_store_mid rfl 40 (.tmp 4) (.tmp 27) rfl (tb + 1) 0 r.toArray rfl rfl HTh'.out HSi.out HOne.out ?_; try simp only [List.toArray_toList]))
      refine bodyPost_ret (results_row2 rfl _ _ (tb + 1) _ r _ rfl HB3.out Try.underlying40 rfl (by rw [HR4.out]; exact size24)) rfl ?_
      refine ⟨r, by rw [HF3.out]; rfl, ?_, HP4.out⟩
      rw [HF3.out]
      exact (HL0.out.pure HP4.out).more
end Go.Proofs.Ytomcdhljjmnahaa.V11
namespace Go.Proofs.Ytomcdhljjmnahaa.V11
set_option linter.unusedVariables false
set_option linter.unusedSimpArgs false
open Go.RowKit

/-- the row of these cells is not in a block -/
def Off (b : Nat) (cs : List Value) : Prop := ∀ x n c, cs[3]? = some (.slice (some x) n c) → x.block ≠ b
/-- four cells are a value whose row is read in W, all that is in it in w0 -/
def Top (w0 W : World) (d : Nat) (v : V) (cs : List Value) : Prop := ∃ a c xs, cs = [.int .i64 v.kind, .int .i64 v.n, .string v.s, .slice a v.l.length c] ∧ v.l.length ≤ c ∧ c ≤ maxLen ∧ (a = none → v.l.length = 0 ∧ c = 0) ∧ Fit w0 d v.l xs ∧ RowOf W a xs ∧ v.s.size ≤ maxLen
theorem Lies.top {W : World} {d : Nat} {v : V} {cs : List Value} (h : Lies W (d + 1) v cs) : Top W W d v cs := by
  obtain ⟨a, c, xs, h1, h2, h3, h4, h5, h6, h7⟩ := h.fit
  exact ⟨a, c, xs, h1, h2, h3, fun e => ⟨by have := h4 e; omega, h4 e⟩, h5, h6, h7⟩
namespace Top
variable {w0 W W' : World} {d : Nat} {v : V} {cs : List Value}
theorem parts (h : Top w0 W d v cs) : ∃ a c xs, cs = [.int .i64 v.kind, .int .i64 v.n, .string v.s, .slice a v.l.length c] ∧ v.l.length ≤ c ∧ c ≤ maxLen ∧ (a = none → v.l.length = 0 ∧ c = 0) ∧ Fit w0 d v.l xs ∧ RowOf W a xs ∧ v.s.size ≤ maxLen := h
theorem pure (h : Top w0 W d v cs) (hP : Pure W W') : Top w0 W' d v cs := by
  obtain ⟨a, c, xs, h1, h2, h3, h4, h5, h6, h7⟩ := h
  exact ⟨a, c, xs, h1, h2, h3, h4, h5, h6.ext hP (fun _ _ => id), h7⟩
theorem ext {S : Nat → Prop} (h : Top w0 W d v cs) (hP : Ext S W W') (hS : ∀ b, S b → Off b cs) : Top w0 W' d v cs := by
  obtain ⟨a, c, xs, h1, h2, h3, h4, h5, h6, h7⟩ := h
  refine ⟨a, c, xs, h1, h2, h3, h4, h5, h6.ext hP (fun x hx hs => ?_), h7⟩
  subst hx h1
  exact hS _ hs x _ _ rfl rfl
theorem lies (h : Top w0 W d v cs) (hP : Pure w0 W) : Lies W (d + 1) v cs := by
  obtain ⟨a, c, xs, h1, h2, h3, h4, h5, h6, h7⟩ := h
  have := (h5.pure hP).lies h6 v.kind v.n v.s c h2 h3 (fun e => (h4 e).2) h7
  rw [h1]
  cases v
  exact this
theorem len (h : Top w0 W d v cs) : cs.length = 4 := by obtain ⟨a, c, xs, rfl, _⟩ := h; rfl
theorem one (h : Top w0 W d v cs) : cs.toArray.all (fun u => u.oneCell') = true := by
  obtain ⟨a, c, xs, rfl, _⟩ := h
  exact all_oneCell_toArray (by intro u hu; simp only [List.mem_cons, List.not_mem_nil, or_false] at hu; rcases hu with rfl | rfl | rfl | rfl <;> rfl)
theorem base {w1 : World} (h : Top w0 W d v cs) (hP : Pure w0 w1) : Top w1 W d v cs := by
  obtain ⟨a, c, xs, h1, h2, h3, h4, h5, h6, h7⟩ := h
  exact ⟨a, c, xs, h1, h2, h3, h4, h5.pure hP, h6, h7⟩
theorem more (h : Top w0 W d v cs) {d' : Nat} (hd : d ≤ d') : Top w0 W d' v cs := by
  obtain ⟨a, c, xs, h1, h2, h3, h4, h5, h6, h7⟩ := h
  exact ⟨a, c, xs, h1, h2, h3, h4, h5.mono hd, h6, h7⟩
end Top
/-- a value of the call's own -/
def ValTop (w0 : World) (u : V) (d : Nat) (cs : List Value) (w : World) (e : Ending) (w' : World) : Prop :=
  ∃ cs', e = .returned (.agg cs'.toArray) ∧ Top w0 w' d u cs' ∧ Pure w w' ∧ ∀ b, b < w.heap.size → Off b cs → Off b cs'
theorem Fit.full {w0 W : World} {d : Nat} {l : List V} {xs : List Value} {a : Option Addr} (h : Fit w0 d l xs) (hr : RowOf W a xs) (k : Nat) (u : V) (hk : l[k]? = some u) :
    ∃ b o q, a = some ⟨b, o, none⟩ ∧ W.rangeAt b (o + k * 4) [.int .i64 u.kind, .int .i64 u.n, .string u.s, q] ∧ Lies w0 d u [.int .i64 u.kind, .int .i64 u.n, .string u.s, q] := by
  obtain ⟨rows, rfl, e1, e2, e3⟩ := h.rows
  obtain ⟨hkl, rfl⟩ := List.getElem?_eq_some_iff.1 hk
  have hkr : k < rows.length := by rw [e1]; exact hkl
  have hL := e3 k _ _ hk (List.getElem?_eq_getElem hkr)
  have hg : ∀ j, j < 4 → (rows.flatMap id)[k * 4 + j]? = rows[k][j]? := fun j hj => flat_get id rows (fun r hr => e2 r hr) k hkr j hj
  have hr4 : rows[k].length = 4 := e2 _ (List.getElem_mem hkr)
  obtain ⟨b, o, ha⟩ : ∃ b o, a = some ⟨b, o, none⟩ := by
    obtain ⟨b, o, ha, _⟩ := hr (k * 4 + 0) _ ((hg 0 (by omega)).trans (List.getElem?_eq_getElem (by omega)))
    exact ⟨b, o, ha⟩
  have hrg : W.rangeAt b (o + k * 4) rows[k] := fun j v hv => by
    have hj : j < 4 := by have := (List.getElem?_eq_some_iff.1 hv).1; omega
    obtain ⟨b', o', ha', hc⟩ := hr (k * 4 + j) v ((hg j hj).trans hv)
    rw [ha] at ha'
    cases ha'
    rw [Nat.add_assoc]; exact hc
  clear hg hr4
  obtain ⟨r, hr'⟩ : ∃ r, r = rows[k] := ⟨_, rfl⟩
  rw [← hr'] at hL hrg
  cases d with
  | zero => exact hL.elim
  | succ d =>
    obtain ⟨a', c', _, rfl, _⟩ := hL.kids
    exact ⟨b, o, _, ha, hrg, hL⟩
structure Renewed (w0 w w5 : World) (tb rb : Nat) (u : V) (d : Nat) (x : Value) (w6 : World) (cs : List Value) : Prop where
  is : w6 = w5.setCell ⟨tb, 3, none⟩ x
  len : cs.length = 4
  block : BlockIs w6 tb cs 40
  there : w6.there rb 0 cs.toArray.size
  info : (Try.prog.info? 40).map (·.size) = some cs.toArray.size
  one : (cs.toArray.all fun u => u.oneCell') = true
  after : BlockIs (w6.setCells rb 0 cs) rb cs 40
  lies : Top w0 (w6.setCells rb 0 cs) d u cs
  pure : Pure w (w6.setCells rb 0 cs)
  off : ∀ b, b < w.heap.size → Off b cs
theorem renew {w0 w w5 : World} {d tb rb B N : Nat} {v : V} {l : List V} {xs : List Value} {a5 : Option Addr} {c5 : Nat} {old : Value}
    (hB1 : BlockIs w5 tb [.int .i64 v.kind, .int .i64 v.n, .string v.s, old] 40) (hB2 : BlockIs w5 rb zeroCs 40) (hne : tb ≠ rb) (hP : Pure w w5) (htw : w.heap.size ≤ tb) (hrw : w.heap.size ≤ rb)
    (hO : w5.ownsRow B 40 4 (.slice a5 N c5) N xs) (h1 : tb < B) (h2 : rb < B) (hf : Fit w0 d l xs) (hs : v.s.size ≤ maxLen) (hn : N = l.length) :
    ∃ w6 cs, Renewed w0 w w5 tb rb (.mk v.kind v.n v.s l) d (.slice a5 N c5) w6 cs := by
  subst hn
  obtain ⟨a0, c0, he, e1, e2, e3, _⟩ := own_form hO
  cases he
  obtain ⟨w6, hw6⟩ : ∃ z, z = w5.setCell ⟨tb, 3, none⟩ (.slice a5 l.length c5) := ⟨_, rfl⟩
  obtain ⟨cs6, hcs6⟩ : ∃ z, z = [Value.int .i64 v.kind, .int .i64 v.n, .string v.s, .slice a5 l.length c5] := ⟨_, rfl⟩
  have hl6 : cs6.length = 4 := by rw [hcs6]; rfl
  have hB16 : BlockIs w6 tb cs6 40 := by rw [hw6, hcs6]; exact hB1.set 3 (.slice a5 l.length c5)
  have hB26 : BlockIs w6 rb zeroCs 40 := by rw [hw6]; exact hB2.setOther (p := ⟨tb, 3, none⟩) hne _
  have hP6 : Pure w w6 := by rw [hw6]; exact hP.setCell (p := ⟨tb, 3, none⟩) (fun h => by have h1 : tb < w.heap.size := h; omega) _
  have hO6 : w6.ownsRow B 40 4 (.slice a5 l.length c5) l.length xs := by
    rw [hw6]
    exact own_ext hO (Ext.setCell (S := fun k => k = tb) (Ext.refl _ _) (p := ⟨tb, 3, none⟩) (fun _ => rfl) _) (fun g hg e => by have h1 := (hO.lt g hg).1; omega)
  have hP67 : Pure w (w6.setCells rb 0 cs6) := Ext.setCells cs6 0 w6 hP6 (b := rb) (fun h => by omega)
  have hO7 := own_ext hO6 (Ext.setCells cs6 0 w6 (Ext.refl (fun k => k = rb) w6) (b := rb) (fun _ => rfl)) (fun g hg e => by have h1 := (hO6.lt g hg).1; omega)
  have hL7 : Top w0 (w6.setCells rb 0 cs6) d (.mk v.kind v.n v.s l) cs6 := ⟨a5, c5, xs, hcs6, e1, e2, fun e => ⟨by have := e3 e; show l.length = 0; omega, e3 e⟩, hf, own_row hO7, hs⟩
  refine ⟨w6, cs6, hw6, hl6, hB16, by rw [List.size_toArray, hl6]; exact hB26.there 4 rfl, by rw [List.size_toArray, hl6]; exact size24, hL7.one, hB26.setAll cs6 hl6.symm, hL7, hP67, ?_⟩
  intro b hb x n c hx e
  rw [hcs6] at hx
  cases hx
  have := (hO.lt x.block rfl).1
  omega
theorem range_ext {w w' : World} {b o : Nat} {cs : List Value} (h : w.rangeAt b o cs) (e : Pure w w') : w'.rangeAt b o cs := fun j v hv => e.cell_some (h j v hv) id
/-- these fail at once where another operation is next -/
theorem at_load {P : Program} {ops : Array Oper} {rest : List Oper} {d : Option Tmp} {t : TypeId} {ps : String} {af : Array Edge} {g : Option (Nat × Bool)} {a : Act} {w : World} {Q : Exit → Act → World → Prop} (ty : TypeId) (x : Operand)
    (h : wpList P ops Q (⟨d, .load ty x, t, ps, af, g⟩ :: rest) a w) : wpList P ops Q (⟨d, .load ty x, t, ps, af, g⟩ :: rest) a w := h
theorem at_store {P : Program} {ops : Array Oper} {rest : List Oper} {d : Option Tmp} {t : TypeId} {ps : String} {af : Array Edge} {g : Option (Nat × Bool)} {a : Act} {w : World} {Q : Exit → Act → World → Prop} (ty : TypeId) (x y : Operand)
    (h : wpList P ops Q (⟨d, .store ty x y, t, ps, af, g⟩ :: rest) a w) : wpList P ops Q (⟨d, .store ty x y, t, ps, af, g⟩ :: rest) a w := h
end Go.Proofs.Ytomcdhljjmnahaa.V11
