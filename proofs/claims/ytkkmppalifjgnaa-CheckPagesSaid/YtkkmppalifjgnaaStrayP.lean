/-
  Plain and in memory: a value of which names are dropped.
-/
import Derived.Test.YtkkmppalifjgnaaObjsE
import Derived.Test.YtkkmppalifjgnaaDropP
import Derived.Test.YtkkmppalifjgnaaDownI
namespace Go.Proofs.Ytkkmppalifjgnaa
open Go.RowKit Go.Maps
set_option linter.unusedVariables false
set_option linter.unusedSimpArgs false

mutual
theorem V.more_mem : ∀ (v : V) (S : List Int) (x : Int), x ∈ v.more S → x ∈ S ∨ x ∈ v.nums
  | .mk k n s l, S, x, h => by
    rw [V.more] at h
    rw [V.nums]
    split at h
    · rcases List.mem_append.1 h with h | h
      · exact Or.inl h
      · exact Or.inr (by rw [List.mem_singleton.1 h]; exact List.mem_cons_self)
    · split at h
      · rcases moreL_mem l S x h with h | h
        · exact Or.inl h
        · exact Or.inr (List.mem_cons_of_mem _ h)
      · exact Or.inl h
theorem moreL_mem : ∀ (l : List V) (S : List Int) (x : Int), x ∈ moreL l S → x ∈ S ∨ x ∈ numsL l
  | [], S, x, h => by rw [moreL] at h; exact Or.inl h
  | v :: l, S, x, h => by
    rw [moreL] at h
    rw [numsL, List.mem_append]
    rcases moreL_mem l _ x h with h | h
    · rcases V.more_mem v S x h with h | h
      · exact Or.inl h
      · exact Or.inr (Or.inl h)
    · exact Or.inr (Or.inr h)
end
theorem numsL_append (l m : List V) : numsL (l ++ m) = numsL l ++ numsL m := by
  induction l with
  | nil => simp [numsL]
  | cons u l ih => rw [List.cons_append, numsL, numsL, ih, List.append_assoc]
theorem dropped_cases (v : V) (key : ByteArray) : v.dropped key = v ∨ ∃ i j, i ≤ j ∧ v.dropped key = .mk v.kind v.n v.s (v.l.take i ++ v.l.drop j) := by
  unfold V.dropped
  split
  · rename_i i hi
    have := find_lt hi
    exact Or.inr ⟨i, _, by omega, rfl⟩
  · exact Or.inl rfl
theorem dropped_size (v : V) (key : ByteArray) : (v.dropped key).size ≤ v.size := by
  rcases dropped_cases v key with e | ⟨i, j, hij, e⟩
  · rw [e]; exact Nat.le_refl _
  · rw [e]
    cases v with
    | mk k n s l =>
      have h1 := congrArg sizeL (List.take_append_drop i l)
      rw [sizeL_append] at h1
      have h2 := congrArg sizeL (List.take_append_drop (j - i) (l.drop i))
      rw [sizeL_append, List.drop_drop, show i + (j - i) = j by omega] at h2
      simp only [V.kind, V.n, V.s, V.l, V.size, sizeL_append]
      omega
theorem dropped_wf {v : V} (h : v.wf) (key : ByteArray) : (v.dropped key).wf := by
  rcases dropped_cases v key with e | ⟨i, j, _, e⟩
  · rw [e]; exact h
  · rw [e]
    intro x hx
    rw [V.nums] at hx
    rcases List.mem_cons.1 hx with rfl | hx
    · exact h.n
    · refine h x ?_
      rw [nums_eq]
      refine List.mem_cons_of_mem _ ?_
      rw [numsL_append] at hx
      rcases List.mem_append.1 hx with hx | hx
      · rw [← List.take_append_drop i v.l, numsL_append]; exact List.mem_append.2 (Or.inl hx)
      · rw [← List.take_append_drop j v.l, numsL_append]; exact List.mem_append.2 (Or.inr hx)
theorem dropped_nil {v : V} (key : ByteArray) (h : (v.dropped key).l ≠ []) : v.l ≠ [] := by
  intro e
  refine h ?_
  rcases dropped_cases v key with e2 | ⟨i, j, _, e2⟩
  · rw [e2, e]
  · rw [e2]
    show v.l.take i ++ v.l.drop j = []
    rw [e]
    simp
theorem Top.ext' {w0 W W' : World} {d : Nat} {v : V} {cs : List Value} {S : Nat → Prop} (h : Top w0 W d v cs) (hP : Ext S W W') (hS : ∀ b, S b → v.l ≠ [] → Off b cs) : Top w0 W' d v cs := by
  obtain ⟨a, c, xs, h1, h2, h3, h4, h5, h6, h7⟩ := h
  refine ⟨a, c, xs, h1, h2, h3, h4, h5, ?_, h7⟩
  by_cases e : v.l = []
  · have hx : xs = [] := by
      have := h5.len
      rw [e] at this
      exact List.eq_nil_of_length_eq_zero (by simpa using this)
    rw [hx]; exact row_nil _ _
  · refine h6.ext hP (fun x hx hs => ?_)
    subst hx h1
    exact hS _ hs e x _ _ rfl rfl
/-- a value in a variable of the call's own, its parts in an elder world -/
structure VAt (w0 W : World) (d bv : Nat) (v : V) (cs : List Value) : Prop where
  top : Top w0 W d v cs
  blk : BlockIs W bv cs 41
  off : v.l ≠ [] → Off bv cs
  lo : w0.heap.size ≤ bv
  base : Pure w0 W
theorem VAt.pure {w0 W W' : World} {d bv : Nat} {v : V} {cs : List Value} (h : VAt w0 W d bv v cs) (hP : Pure W W') : VAt w0 W' d bv v cs :=
  ⟨h.top.pure hP, h.blk.ext hP id, h.off, h.lo, h.base.pure hP⟩
theorem VAt.init {w0 W : World} {d bv : Nat} {v : V} {cs : List Value} (hL : Lies w0 (d + 1) v cs) (hP : Pure w0 W) (hB : BlockIs W bv cs 41) (hlo : w0.heap.size ≤ bv) : VAt w0 W d bv v cs := by
  refine ⟨hL.top.pure hP, hB, fun hne x n c hx e => ?_, hlo, hP⟩
  obtain ⟨a, c', xs, hcs, _, _, _, hfit, hrow, _⟩ := hL.fit
  rw [hcs] at hx
  cases hx
  have hpos : 0 < xs.length := by
    rw [hfit.len]
    have := List.length_pos_iff.2 hne
    omega
  obtain ⟨b, o, hb, hc⟩ := hrow 0 _ (List.getElem?_eq_getElem hpos)
  cases hb
  have := World.block_lt_of_cell? w0 _ hc
  simp only at this e
  omega
/-- behind a call that gave a value of the call's own, and its store -/
theorem VAt.store {w0 W W1 : World} {d bv : Nat} {v u : V} {cs cs' : List Value} (h : VAt w0 W d bv v cs) (hT : Top w0 W1 d u cs') (hP : Pure W W1) (ho : u.l ≠ [] → Off bv cs') : VAt w0 (W1.setCells bv 0 cs') d bv u cs' := by
  have hX : Ext (fun k => k = bv) W1 (W1.setCells bv 0 cs') := Ext.setCells cs' 0 W1 (Ext.refl _ _) (b := bv) (fun _ => rfl)
  refine ⟨hT.ext' hX (fun b hb hne => ?_), (h.blk.ext hP id).setAll cs' (by rw [h.top.len, hT.len]), ho, h.lo, (h.base.pure hP).trans hX (fun i hi e => ?_)⟩
  · subst hb; exact ho hne
  · have := h.lo
    omega
theorem off_dropped {w0 W W1 : World} {d bv : Nat} {v : V} {key : ByteArray} {cs cs' : List Value} (hlt : bv < W.heap.size) (h : v.l ≠ [] → Off bv cs) (hO : ∀ b, b < W.heap.size → Off b cs → Off b cs') : (v.dropped key).l ≠ [] → Off bv cs' :=
  fun hne => hO bv hlt (h (dropped_nil key hne))
/-- what is met in a map of the call's own -/
structure InMap (W : World) (tm B k : Nat) (D : DataW Unit) (M : Int → Int) : Prop where
  mp : BlockIs W tm [.map (some B)] 63
  own : W.ownsMap Try.prog 3 (plainElem Try.prog 3) B k D
  look : ∀ x, D.atKey (.int .i64 x) (.lit (.int .i64 0)) = .lit (.int .i64 (M x))
theorem InMap.pure {W W' : World} {tm B k : Nat} {D : DataW Unit} {M : Int → Int} (h : InMap W tm B k D M) (hP : Pure W W') : InMap W' tm B k D M := ⟨h.mp.ext hP id, own_map_ext h.own hP id, h.look⟩
theorem InMap.lookup {W : World} {tm B k : Nat} {D : DataW Unit} {M : Int → Int} (h : InMap W tm B k D M) {x : Int} (hw : (Lit.int .i64 x).wf = true) :
    (Instr.lookup 63 (.map (some B)) (.int .i64 x) false).run Try.prog W = .ok (.int .i64 (M x)) W := by
  obtain ⟨c, hrun, hat, _⟩ := h.own.lookup_int lawInt Try.underlying63 Try.underlying3 (zeroI W) (keyOf_int_mk Try.underlying3 hw)
  rw [h.look x] at hat
  cases hat
  exact hrun
/-- Stray's closure -/
theorem stray1_any (x : Int) (hw : (Lit.int .i64 x).wf = true) (tm B k : Nat) (D : DataW Unit) (p : Int → Bool) (w : World) (h : InMap w tm B k D (fun x => if p x = true then 1 else 0)) :
    Calls Try.prog 28 #[.int .i64 x, .pointer (some ⟨tm, 0, none⟩)] w (BoolTo (p x) w) := by
  have cm : w.cell? ⟨tm, 0, none⟩ = some (.map (some B)) := h.mp.cell 0
  have hrun := h.lookup hw
  obtain ⟨q, hq⟩ : ∃ z, z = p x := ⟨_, rfl⟩
  rw [← hq] at hrun ⊢
  clear h hq hw
  cases q with
  | true =>
    rw [if_pos rfl] at hrun
    go_enter Try.func28, Try.ntmps28
    go_wp2_with fail
    go_ret
    exact ⟨rfl, Ext.refl _ _⟩
  | false =>
    rw [if_neg (by decide)] at hrun
    go_enter Try.func28, Try.ntmps28
    go_wp2_with fail
    go_ret
    exact ⟨rfl, Ext.refl _ _⟩
theorem stray1_goes : ∀ args w, (callFunc 28 args).run Try.prog w = .ok (.enter 28 args) w := enters Try.func28 (by decide +kernel) rfl
end Go.Proofs.Ytkkmppalifjgnaa
