import Derived.Test.YtipmbcalnnomjaaGreatProg
import Derived.Test.YtipmbcalnnomjaaGreatOwnTu
import Derived.WalkSpells
import Derived.Test.YtipmbcalnnomjaaGreatRows
import Derived.ProofKit
import Derived.OpenShut
import Derived.ShutString
import Derived.ChangeOld
import Derived.Below
import Derived.Deep.Slices
import Derived.Test.YtipmbcalnnomjaaGreatSqTu
set_option linter.unusedVariables false
set_option linter.unusedSimpArgs false
namespace Go.Proofs.YtipmbcalnnomjaaGreat
open Go.RowKit
theorem cell_new (w : World) (C : Array Value) (e : TypeId) (m : Nat × Nat) (i : Nat) : (w.alloc (.cells C e m)).cell? ⟨w.heap.size, i, none⟩ = C[i]? := by
 unfold World.cell?; rw [show (w.alloc (.cells C e m)).heap[w.heap.size]? = some (.cells C e m) from heap_alloc_new w _]; simp
theorem row_at {w : World} {e : TypeId} {m : Nat × Nat} {C : Array Value} {b : Nat} (cs : List Value) (hb : w.heap.size = b) (hC : C = cs.toArray) : RowOf (w.alloc (.cells C e m)) (some ⟨b, 0, none⟩) cs := by
 subst hb hC
 intro i u hu
 refine ⟨_, _, rfl, ?_⟩
 rw [cell_new]; simpa using hu
theorem ext_alloc (w : World) (o : Obj) : Pure w (w.alloc o) := (Ext.refl _ w).alloc o
theorem row_nil (w : World) (ad : Option Addr) : RowOf w ad [] := fun i u h => by simp at h
theorem eql_nil {P : Program} {t e : TypeId} (h : P.underlying t = some (.slice e)) (w : World) (a : Option Addr) (n c : Nat) : (binOp .eql t (.slice a n c) (.slice none 0 0)).run P w = .ok (.bool a.isNone) w := by
 simp only [binOp]
 simp [Op.equal, Op.maxDepth, Lib.run_equalIn_slice_nil w 9999 t e a n c 0 0 h]
end Go.Proofs.YtipmbcalnnomjaaGreat
namespace Go.Proofs.YtipmbcalnnomjaaGreat
open Go.ChangeShapes Go.WideShapes Go.ChangeAt Go.RowKit
theorem own : ownKnob Tryz.prog.godebug = none := by kernel_rfl
theorem laidOut : laidOutB Tryz.prog = true := by kernel_rfl
theorem spot_none {w : World} {x : Addr} {v : Value} (h : w.cell? x = some v) : x.spot = none := by
 unfold World.cell? at h
 split at h
 ·split at h
  ·cases h
  ·next hs => simpa using hs
 ·cases h
theorem choose_list {τ : Type} {n : Nat} {p : Nat → τ → Prop} (h : ∀ i, i < n → ∃ q, p i q) : ∃ ps : List τ, ps.length = n ∧ ∀ i (hi : i < ps.length), p i ps[i] := by
 induction n with
 | zero => exact ⟨[], rfl, fun i hi => by simp at hi⟩
 | succ n ih =>
   obtain ⟨ps, hl, hp⟩ := ih (fun i hi => h i (by omega))
   obtain ⟨q, hq⟩ := h n (by omega)
   refine ⟨ps ++ [q], by simp [hl], fun i hi => ?_⟩
   by_cases e : i < ps.length
   ·rw [List.getElem_append_left e]; exact hp i e
   ·have e' : i = n := by simp at hi; omega
    subst e'
    rw [List.getElem_append_right (by omega)]; simp [hl, hq]
theorem flat_get {τ : Type} {size : Nat} (f : τ → List Value) (rows : List τ) (hs : ∀ r ∈ rows, (f r).length = size) (i : Nat) (hi : i < rows.length) (j : Nat) (hj : j < size) : (rows.flatMap f)[i * size + j]? = (f rows[i])[j]? := by
 induction rows generalizing i with
 | nil => simp at hi
 | cons r rows ih =>
   have h0 := hs r (by simp)
   rw [List.flatMap_cons]
   cases i with
   | zero => rw [Nat.zero_mul, Nat.zero_add, List.getElem?_append_left (by omega)]; rfl
   | succ i =>
     rw [List.getElem?_append_right (by rw [h0, Nat.add_mul]; omega), h0, show (i + 1) * size + j - size = i * size + j from by rw [Nat.add_mul]; omega, ih (fun r hr => hs r (by simp [hr])) i (by simpa using hi)]
     simp
theorem flat_len {τ : Type} {size : Nat} (f : τ → List Value) (rows : List τ) (hs : ∀ r ∈ rows, (f r).length = size) : (rows.flatMap f).length = rows.length * size := by
 induction rows with
 | nil => simp
 | cons r rows ih => rw [List.flatMap_cons, List.length_append, hs r (by simp), ih (fun r hr => hs r (by simp [hr])), List.length_cons, Nat.add_mul]; omega
theorem div_mod_of {k size n : Nat} (h : k < n * size) : k / size < n ∧ k % size < size ∧ k / size * size + k % size = k := by
 have hs : 0 < size := by rcases Nat.eq_zero_or_pos size with e | e; subst e; simp at h; exact e
 exact ⟨Nat.div_lt_of_lt_mul (by rw [Nat.mul_comm]; exact h), Nat.mod_lt _ hs, by rw [Nat.mul_comm]; exact Nat.div_add_mod _ _⟩
section
variable {P : Program} {H : Type} {enc : TypeId × Value → H} {W : World} {held : Bool}
theorem open_rows2 {τ : Type} {Q : List Value → τ → Prop} {t e size fuel : Nat} {cs : List Value} {x : DataW H × List MemPlace} (ht : P.underlying t = some (.slice e)) (hsz : P.cellsOf e = size) (hpos : 0 < size)
 (hel : ∀ n cs y, n < fuel → DataW.trod enc P W 0 (fun _ => true) held n e cs = some y → cs.length = size → ∃ v, Q cs v) (h : DataW.trod enc P W 0 (fun _ => true) held fuel t cs = some x) :
 ∃ (a : Option Addr) (cap : Nat) (rows : List (List Value × τ)), cs = [.slice a rows.length cap] ∧ rows.length ≤ cap ∧ cap ≤ maxLen ∧ (a = none → cap = 0) ∧ (∀ r ∈ rows, r.1.length = size ∧ Q r.1 r.2) ∧ RowOf W a (rows.flatMap (·.1)) := by
 rcases DataW.trod_slice ht h with ⟨rfl, _⟩ | ⟨a, len, m, elems, rest, n, hfu, rfl, _, _, hl, hm, hel2, hx, _⟩
 ·exact ⟨none, 0, [], rfl, Nat.le_refl _, Nat.zero_le _, fun _ => rfl, fun r hr => by simp at hr, row_nil _ _⟩
 ·obtain ⟨rows, hrl, hrows⟩ := choose_list (n := len) (p := fun i (r : List Value × τ) => W.cells? 0 (a.add (i * size)) size = some r.1 ∧ r.1.length = size ∧ Q r.1 r.2) (fun i hi => by
   have h1 := hx i hi
   rw [hsz, List.getElem?_eq_getElem (by omega)] at h1
   obtain ⟨cs', h2, h3⟩ := Option.bind_eq_some_iff.1 h1
   obtain ⟨_, hlen, _⟩ := World.cells?_some h2
   obtain ⟨v, hv⟩ := hel n _ _ (by omega) h3 hlen
   exact ⟨(cs', v), h2, hlen, hv⟩)
  have hsize : ∀ r ∈ rows, r.1.length = size := fun r hr => by
   obtain ⟨i, hi, rfl⟩ := List.mem_iff_getElem.1 hr
   exact (hrows i hi).2.1
  refine ⟨some a, m, rows, by rw [hrl], by rw [hrl]; exact hl, hm, (fun h => by cases h), fun r hr => ?_, fun k u hk => ?_⟩
  ·obtain ⟨i, hi, rfl⟩ := List.mem_iff_getElem.1 hr
   exact (hrows i hi).2
  ·have hklt := (List.getElem?_eq_some_iff.1 hk).1
   rw [flat_len (·.1) rows hsize] at hklt
   obtain ⟨h1, h2, h3⟩ := div_mod_of hklt
   rw [← h3, flat_get (·.1) rows hsize _ h1 _ h2] at hk
   obtain ⟨hc, _, _⟩ := hrows _ h1
   obtain ⟨_, _, hcell⟩ := World.cells?_some hc
   have h0 : 0 < rows.length := Nat.lt_of_le_of_lt (Nat.zero_le _) h1
   obtain ⟨hc0, hl0, _⟩ := hrows 0 h0
   obtain ⟨_, _, hcell0⟩ := World.cells?_some hc0
   have g0 := (hcell0 0 hpos).trans (List.getElem?_eq_getElem (show 0 < rows[0].1.length by omega))
   have g1 := (hcell _ h2).trans hk
   obtain ⟨b, o, s⟩ := a
   have hs : s = none := by
    have := spot_none g0
    simpa [Addr.add] using this
   subst hs
   refine ⟨b, o, rfl, ?_⟩
   rw [addr_add, addr_add] at g1
   rw [← h3, ← Nat.add_assoc]; exact g1
end
