/-
  Walked: the rows behind a table's head.
-/
import Derived.Test.YtjnpjkenmkgooaaIter2
import Derived.Test.YtjnpjkenmkgooaaCheck
import Derived.Maps.AppendAt
namespace Go.Proofs.Ytjnpjkenmkgooaa
open Go.RowKit Go.Shelf C27
set_option linter.unusedVariables false
attribute [local go_sem] Oper.semAt_some

/-- may a length be? -/
def okL (least x : Nat) : Bool := inB ((least : Int) + (x : Int)) 1 2147483647
def addL (least : Nat) (xs : List El) : List Nat := xs.map (fun x => least + x.2.val)
theorem addL_snoc (least : Nat) (xs : List El) (x : El) : addL least (xs ++ [x]) = addL least xs ++ [least + x.2.val] := by simp [addL]
theorem addL_len (least : Nat) (xs : List El) : (addL least xs).length = xs.length := by simp [addL]
def sumE (xs : List El) : Nat := (xs.map (fun x => x.2.val)).sum
theorem sumE_snoc (xs : List El) (x : El) : sumE (xs ++ [x]) = sumE xs + x.2.val := by simp [sumE]
theorem sumE_le (xs : List El) : sumE xs ≤ xs.length * 4294967296 := by
  induction xs with
  | nil => simp [sumE]
  | cons x xs ih => have := x.2.isLt; simp only [sumE, List.map_cons, List.sum_cons, List.length_cons, Nat.add_mul] at ih ⊢; omega
/-- the boxes of a call of rows, and what it may write -/
structure RBox (rr rb least : Nat) (w W : World) : Prop where
  b0 : BlockIs W w.heap.size [.pointer (some ⟨rr, 0, none⟩)] 60
  b1 : BlockIs W (w.heap.size + 1) [.int .i64 least] 3
  ex : Ext (RdS rr rb) w W
theorem RBox.ext {rr rb least : Nat} {S : Nat → Prop} {w W W' : World} (h : RBox rr rb least w W) (hE : Ext S W W') (hS : ∀ i, S i → i = rr ∨ i = rb ∨ w.heap.size + 1 < i) (hr : rr < w.heap.size) (hb : rb < w.heap.size) : RBox rr rb least w W' :=
  ⟨h.b0.ext hE (fun e => by have := hS _ e; omega), h.b1.ext hE (fun e => by have := hS _ e; omega), h.ex.trans hE (fun i hi e => by
    rcases hS i e with e | e | e
    · exact Or.inl e
    · exact Or.inr e
    · omega)⟩
theorem RBox.other {rr rb least : Nat} {w W W' : World} {B : Nat} (h : RBox rr rb least w W) (hE : Ext (fun i => B ≤ i ∧ ∃ o, W.heap[i]? = some o ∧ o.isCells = false) W W') (hB : w.heap.size ≤ B) : RBox rr rb least w W' :=
  ⟨h.b0.cells hE, h.b1.cells hE, h.ex.trans hE (fun i hi e => by have := e.1; omega)⟩
theorem own_other {W W' : World} {B B' e size n : Nat} {v : Value} {xs : List Value} (h : W.ownsRow B e size v n xs) (hE : Ext (fun i => B' ≤ i ∧ ∃ o, W.heap[i]? = some o ∧ o.isCells = false) W W') : W'.ownsRow B e size v n xs := by
  refine own_ext h hE (fun g hg ⟨_, o, ho, hc⟩ => ?_)
  rcases h.2 with ⟨rfl, _⟩ | ⟨g', cap, cur, rfl, hb, hh, _⟩
  · cases hg
  · have : g' = g := Option.some.inj hg
    subst this
    rw [hh] at ho; cases ho; cases hc
/-- where the rows behind a table's head begin -/
def P1 (p n wd : Nat) : Nat := al8 (p + n * wd)
def P2 (p n wd : Nat) : Nat := al8 (P1 p n wd + n * 1)
def sgn (bs : List Bool) (p n wd : Nat) : Nat := (vals bs (P1 p n wd) 1 n).sum
def P3 (bs : List Bool) (p n wd : Nat) : Nat := al8 (P2 p n wd + 4 * sgn bs p n wd * 32)
def P4 (bs : List Bool) (p n wd groups : Nat) : Nat := al8 (P3 bs p n wd + n * groups)
def AllFit (bs : List Bool) (p n wd groups : Nat) : Prop := p + n * wd ≤ bs.length ∧ P1 p n wd + n * 1 ≤ bs.length ∧ P2 p n wd + 4 * sgn bs p n wd * 32 ≤ bs.length ∧ P3 bs p n wd + n * groups ≤ bs.length
def RowsTo (bs : List Bool) (p n least wd groups : Nat) (s' : St) (out : List Nat) : Prop :=
  ∃ K, Fit bs.length p wd n K ∧ (((∃ x ∈ vals bs p wd K, okL least x = false) ∧ s'.2 = 27) ∨ ((∀ x ∈ vals bs p wd K, okL least x = true) ∧ ((¬ AllFit bs p n wd groups ∧ s'.2 = 10) ∨ (AllFit bs p n wd groups ∧ s' = (P4 bs p n wd groups, 0) ∧ out = (vals bs p wd n).map (fun x => least + x)))))
def RowsRes (rr rb : Nat) (bl : List UInt8) (p n least wd groups : Nat) (a : Option Addr) (c : Nat) (w : World) (e : Ending) (w' : World) : Prop :=
  ∃ s' out oa oc, e = .returned (.slice oa out.length oc) ∧ RowsTo (bitsOf true bl) p n least wd groups s' out ∧ RS w' rr rb bl s' a c ∧ w'.ownsRow w.heap.size 3 1 (.slice oa out.length oc) out.length (out.map intV) ∧ Ext (RdS rr rb) w w'
theorem els_vals (bs : List Bool) (p w k : Nat) (h : w ≤ 32) : (els bs p w k h).map (fun x => x.2.val) = vals bs p w k := by simp [els, vals, elAt]
theorem mem_vals {bs : List Bool} {p w k x : Nat} (h : w ≤ 32) (hx : x ∈ vals bs p w k) : ∃ e ∈ els bs p w k h, e.2.val = x := by
  rw [← els_vals bs p w k h] at hx
  obtain ⟨e, he, rfl⟩ := List.mem_map.1 hx
  exact ⟨e, he, rfl⟩
theorem mem_els {bs : List Bool} {p w k : Nat} {e : El} {h : w ≤ 32} (he : e ∈ els bs p w k h) : e.2.val ∈ vals bs p w k := by
  rw [← els_vals bs p w k h]; exact List.mem_map.2 ⟨e, he, rfl⟩
theorem sumE_els (bs : List Bool) (p w k : Nat) (h : w ≤ 32) : sumE (els bs p w k h) = (vals bs p w k).sum := by unfold sumE; rw [els_vals]
theorem addL_els (least : Nat) (bs : List Bool) (p w k : Nat) (h : w ≤ 32) : addL least (els bs p w k h) = (vals bs p w k).map (fun x => least + x) := by rw [← els_vals bs p w k h, List.map_map]; rfl
theorem vals_take {bs : List Bool} {p w k K : Nat} (hk : k ≤ K) {x : Nat} (hx : x ∈ vals bs p w k) : x ∈ vals bs p w K := by
  unfold vals at hx ⊢
  obtain ⟨j, hj, rfl⟩ := List.mem_map.1 hx
  exact List.mem_map.2 ⟨j, by simp at hj ⊢; omega, rfl⟩
theorem fit_exists (L p w n : Nat) (hp : p ≤ L) : ∃ K, Fit L p w n K := by
  induction n with
  | zero => exact ⟨0, Nat.le_refl _, by omega, fun h => absurd h (Nat.lt_irrefl _)⟩
  | succ n ih =>
    obtain ⟨K, hF⟩ := ih
    by_cases hk : K = n
    · by_cases hc : p + (n + 1) * w ≤ L
      · exact ⟨n + 1, Nat.le_refl _, hc, fun h => absurd h (Nat.lt_irrefl _)⟩
      · subst hk
        exact ⟨K, by omega, hF.fits, fun _ => by omega⟩
    · exact ⟨K, by have := hF.le; omega, hF.fits, fun _ => hF.cut (by have := hF.le; omega)⟩
theorem sum_ones (bs : List Bool) (p k : Nat) : (vals bs p 1 k).sum ≤ k := by
  induction k with
  | zero => simp [vals]
  | succ k ih => rw [vals_succ, List.sum_append]; have h := numAt_lt bs (p + k * 1) 1; generalize numAt bs (p + k * 1) 1 = v at *; simp; omega
theorem over_err {bs : List Bool} {s s' : St} {n w : Nat} (h : Over bs s n w s') (he : s.2 ≠ 0) : s'.2 = s.2 := h.1 he
theorem over_yes {bs : List Bool} {q n w : Nat} {s' : St} (h : Over bs (q, 0) n w s') (hf : q + n * w ≤ bs.length) : s' = (al8 (q + n * w), 0) := by have := h.2 rfl; rwa [if_pos hf] at this
theorem over_no {bs : List Bool} {q n w : Nat} {s' : St} (h : Over bs (q, 0) n w s') (hf : ¬ q + n * w ≤ bs.length) : s'.2 = 10 := by have := h.2 rfl; rwa [if_neg hf] at this
theorem rows_to {bs : List Bool} {p n least wd groups K sg : Nat} {s1 s2 s3 s4 : St} (hF : Fit bs.length p wd n K) (hall : ∀ x ∈ vals bs p wd K, okL least x = true) (h1 : s1 = (if K = n then (al8 (p + n * wd), 0) else (p + K * wd, 10)))
    (h2 : Over bs s1 n 1 s2) (hsg : s2.2 = 0 → sg = (vals bs s1.1 1 n).sum) (h3 : Over bs s2 (4 * sg) 32 s3) (h4 : Over bs s3 n groups s4) : RowsTo bs p n least wd groups s4 ((vals bs p wd K).map (fun x => least + x)) := by
  refine ⟨K, hF, Or.inr ⟨hall, ?_⟩⟩
  by_cases hk : K = n
  · have f1 := (fit_all hF).1 hk
    rw [if_pos hk] at h1
    subst h1
    by_cases f2 : P1 p n wd + n * 1 ≤ bs.length
    · have e2 := over_yes h2 f2
      subst e2
      have hs : sg = sgn bs p n wd := hsg rfl
      subst hs
      by_cases f3 : P2 p n wd + 4 * sgn bs p n wd * 32 ≤ bs.length
      · have e3 := over_yes h3 f3
        subst e3
        by_cases f4 : P3 bs p n wd + n * groups ≤ bs.length
        · exact Or.inr ⟨⟨f1, f2, f3, f4⟩, over_yes h4 f4, by rw [hk]⟩
        · exact Or.inl ⟨fun h => f4 h.2.2.2, over_no h4 f4⟩
      · have e3 := over_no h3 f3
        exact Or.inl ⟨fun h => f3 h.2.2.1, by rw [over_err h4 (by rw [e3]; decide), e3]⟩
    · have e2 := over_no h2 f2
      have e3 := over_err h3 (by rw [e2]; decide)
      exact Or.inl ⟨fun h => f2 h.2.1, by rw [over_err h4 (by rw [e3, e2]; decide), e3, e2]⟩
  · rw [if_neg hk] at h1
    subst h1
    have e2 : s2.2 = 10 := over_err h2 (show (10 : Int) ≠ 0 by decide)
    have e3 : s3.2 = 10 := (over_err h3 (by rw [e2]; decide)).trans e2
    exact Or.inl ⟨fun h => hk ((fit_all hF).2 h.1), (over_err h4 (by rw [e3]; decide)).trans e3⟩
set_option maxHeartbeats 4000000 in
set_option maxRecDepth 100000 in
theorem rows_any (rr rb : Nat) (bl : List UInt8) (p n least wd groups : Nat) (hwd : wd ≤ 32) (hg : groups ≤ 32) (hle : least < 4294967296) (hn : n ≤ 4096) (a : Option Addr) (c : Nat) (w : World) (hRS : RS w rr rb bl (p, 0) a c) (hl : bl.length ≤ 10000000) (hlt : ∀ g, a = some g → g.block < w.heap.size) :
    Calls Try.prog 31 #[.pointer (some ⟨rr, 0, none⟩), .int .i64 n, .int .i64 least, .int .i64 wd, .int .i64 groups] w (RowsRes rr rb bl p n least wd groups a c w) := by
  have hrr := hRS.blk.lt
  have hrb := hRS.rd.blk.lt
  obtain ⟨infoI, hi0, hz0, hz1, hz2⟩ := info_parts infoInt
  refine callsIn_wide.1 (callsIn_of_wp_marks (n := 5) Try.func31 rfl trivial ?_ rfl)
  simp only [Try.ntmps31, List.size_toArray, List.length_cons, List.length_nil, Nat.reduceAdd, Nat.reduceSub, Array.replicate_succ, Array.replicate_zero, List.push_toArray, List.append_toArray, List.nil_append, List.cons_append]
  gi_wp2_with fail
  have hs0 : (w.alloc (.cells #[.pointer (some ⟨rr, 0, none⟩)] 60)).heap.size = w.heap.size + 1 := World.size_alloc _ _
  have hA0 := BlockIs.new w [.pointer (some ⟨rr, 0, none⟩)] 60
  have hP0 := ext_alloc w (.cells #[.pointer (some ⟨rr, 0, none⟩)] 60)
  generalize w.alloc (.cells #[.pointer (some ⟨rr, 0, none⟩)] 60) = wA at *
  have hs1 : (wA.alloc (.cells #[.int .i64 least] 3)).heap.size = wA.heap.size + 1 := World.size_alloc _ _
  have hB1 := BlockIs.new wA [.int .i64 least] 3
  have hP1 := ext_alloc wA (.cells #[.int .i64 least] 3)
  generalize wA.alloc (.cells #[.int .i64 least] 3) = wB at *
  have hs2 : (wB.alloc (.cells #[.slice none 0 0] 22)).heap.size = wB.heap.size + 1 := World.size_alloc _ _
  have hC2 := BlockIs.new wB [.slice none 0 0] 22
  have hP2 := ext_alloc wB (.cells #[.slice none 0 0] 22)
  generalize wB.alloc (.cells #[.slice none 0 0] 22) = wC at *
  have hs3 : (wC.alloc (.cells #[.slice none 0 0] 22)).heap.size = wC.heap.size + 1 := World.size_alloc _ _
  have hD3 := BlockIs.new wC [.slice none 0 0] 22
  have hP3 := ext_alloc wC (.cells #[.slice none 0 0] 22)
  generalize wC.alloc (.cells #[.slice none 0 0] 22) = wD at *
  rw [hs2, hs1, hs0] at hD3
  rw [hs1, hs0] at hC2
  rw [hs0] at hB1
  have hszD : wD.heap.size = w.heap.size + 4 := by omega
  have hPD := ((hP0.pure hP1).pure hP2).pure hP3
  have hBox : RBox rr rb least w wD := ⟨((hA0.ext hP1 id).ext hP2 id).ext hP3 id, (hB1.ext hP2 id).ext hP3 id, hPD.mono (fun _ _ e => e.elim)⟩
  have hRes := hC2.ext hP3 id
  clear hA0 hB1 hC2 hP0 hP1 hP2 hP3 hs0 hs1 hs2 hs3
  refine ⟨trivial, (callsIn_wide.2 (mkrow_any rr n wd wD)).mono ?_⟩
  rintro e w2 ⟨rfl, hE2, hsz2, k1, k2, k3⟩
  gi_wp2_with fail
  have hBox2 := hBox.ext hE2 (fun _ e => e.elim) hrr hrb
  have hRes2 := hRes.ext hE2 id
  have hOut2 := hD3.ext hE2 id
  have hRS2 := hRS.pure (hPD.pure hE2)
  rw [hszD] at k1 k2 k3 hsz2
  clear hBox hRes hD3 hE2
  have hszb : w2.heap.size = w.heap.size + 7 := by omega
  refine range_iter (n := 5) rfl (enters_of Try.func56 (by kernel_rfl) rfl) (fun x => rfl) (RW := RdS rr rb) (BW := fun i => i = w.heap.size + 1 + 1 + 1 ∨ w2.heap.size + 1 < i) (BX := fun i => i = rr ∨ i = w.heap.size + 1 + 1) (fun i e => by rcases e with e | e <;> omega) (fun i e => by omega) (fun i e => by omega) (fun A B ⟨q, h⟩ hE => ⟨q, h.ext hE (fun e => by omega) (fun e => by omega) (fun g hg e => by have := hlt g hg; omega)⟩)
    (iter_ok 4 rr rb _ _ _ bl p n wd hwd a c _ w2 hRS2 hl (by omega) k1 k2 k3 (fun e => by rcases e with e | e <;> omega) (fun e => by rcases e with e | e <;> omega) (fun e => by rcases e with e | e <;> omega) (fun e => by omega) (fun e => by omega) (fun e => by omega) (fun e => by omega) (fun e => by omega) (fun g hg e => by have := hlt g hg; omega))
    (fun xs A B ⟨K, hF, hx, hR⟩ hE => ⟨K, hF, hx, hR.ext hE (fun e => by omega) (fun e => by omega) (fun g hg e => by have := hlt g hg; omega)⟩)
    (fun pre W => (∀ x ∈ pre, okL least x.2.val = true) ∧ RBox rr rb least w W ∧ BlockIs W (w.heap.size + 1 + 1) [.slice none 0 0] 22 ∧ ∃ oa oc, BlockIs W (w.heap.size + 1 + 1 + 1) [.slice oa pre.length oc] 22 ∧ W.ownsRow (w2.heap.size + 2) 3 1 (.slice oa pre.length oc) pre.length ((addL least pre).map intV))
    (fun cd xs W => cd = .ret ∧ (∃ x ∈ xs, okL least x.2.val = false) ∧ (∃ q, RS W rr rb bl (q, 27) a c) ∧ RBox rr rb least w W ∧ BlockIs W (w.heap.size + 1 + 1) [.slice none 0 0] 22)
    (fun pre A B ⟨h1, h2, h3, oa, oc, h4, h5⟩ hE' => ⟨h1, h2.other hE' (by omega), h3.cells hE', oa, oc, h4.cells hE', own_other h5 hE'⟩)
    (fun cd xs A B ⟨h1, h1', ⟨q, h2⟩, h3, h4⟩ hE' => ⟨h1, h1', ⟨q, h2.ext hE' (fun e => by have := e.1; omega) (fun e => by have := e.1; omega) (fun g hg e => by have := hlt g hg; have := e.1; omega)⟩, h3.other hE' (by omega), h4.cells hE'⟩)
    (fun pre A B ⟨h1, h2, h3, oa, oc, h4, h5⟩ hE' => ⟨h1, h2.ext hE' (fun i e => by rcases e with e | e <;> omega) hrr hrb, h3.ext hE' (fun e => by rcases e with e | e <;> omega), oa, oc, h4.ext hE' (fun e => by rcases e with e | e <;> omega), own_ext h5 hE' (fun g hg e => by have := (h5.lt g hg).1; rcases e with e | e <;> omega)⟩)
    ⟨(fun x hx => by cases hx), hBox2, hRes2, none, 0, hOut2, World.ownsRow_nil _ _ _ _⟩
    (fun tt x => { tmps := ((tt.setIfInBounds 21 (.int .i64 (x.1 : Nat))).setIfInBounds 22 (.int .i64 (x.2.val : Nat))).setIfInBounds 13 (.int .i64 (x.2.val : Nat)), defers := [] }) ?assign ?body ?done ?stop
  case assign =>
    intro l x W K hK
    unfold encEl
    rw [zip_two]
    gi_wp2
    simpa using hK
  case body =>
    rintro l pre x W hl2 ⟨h1, h2, h3, oa, oc, h4, h5⟩ ⟨q, hR⟩ hN ⟨r, hr⟩
    obtain ⟨xi, xv, hxv⟩ := x
    have hszW : w2.heap.size + 2 ≤ W.heap.size := by have := (Array.getElem?_eq_some_iff.1 hr).1; omega
    have e0 : W.cell? ⟨w.heap.size, 0, none⟩ = some (.pointer (some ⟨rr, 0, none⟩)) := h2.b0.cell 0
    have e1 : W.cell? ⟨w.heap.size + 1, 0, none⟩ = some (.int .i64 least) := h2.b1.cell 0
    have e2 : W.cell? ⟨w.heap.size + 1 + 1, 0, none⟩ = some (.slice none 0 0) := h3.cell 0
    have f2 : W.frozen? ⟨w.heap.size + 1 + 1, 0, none⟩ = false := h3.free 0
    have e3 : W.cell? ⟨w.heap.size + 1 + 1 + 1, 0, none⟩ = some (.slice oa pre.length oc) := h4.cell 0
    have f3 : W.frozen? ⟨w.heap.size + 1 + 1 + 1, 0, none⟩ = false := h4.free 0
    have e4 : W.cell? ⟨rr, 0 + 1, none⟩ = some (.int .i64 0) := hR.blk.cell 1
    have f4 : W.frozen? ⟨rr, 0 + 1, none⟩ = false := hR.blk.free 1
    have hW0 : ∀ β, okL least xv = β → CallsIn Fence.wide 2 Try.prog 27 #[.int .i64 ((least : Int) + (xv : Int)), .int .i64 1, .int .i64 2147483647] W fun e w' => e = .returned (.bool β) ∧ w' = W := fun β hβ => by
      subst hβ; exact callsIn_wide.2 (within_any _ _ _ W)
    cases hok : okL least xv with
    | false =>
      have HW := Lib.hid (fun l => CallsIn.inRound l (hW0 _ hok))
      have HBad := Lib.hid hok
      clear hW0 hok
      gi_wp2_with fail
      refine ⟨trivial, (HW.out _).mono ?_⟩
      rintro e w3 ⟨rfl, hw3⟩
      obtain rfl := hw3.symm
      gi_wp2
      have hE1 : Ext (fun i => i = rr ∨ i = w.heap.size + 1 + 1) W (W.setCell ⟨rr, 1, none⟩ (.int .i64 27)) := (Ext.refl _ W).setCell (p := ⟨rr, 1, none⟩) (fun _ => Or.inl rfl) _
      have hE2 : Ext (fun i => i = w.heap.size + 1 + 1) (W.setCell ⟨rr, 1, none⟩ (.int .i64 27)) ((W.setCell ⟨rr, 1, none⟩ (.int .i64 27)).setCell ⟨w.heap.size + 1 + 1, 0, none⟩ (.slice none 0 0)) := (Ext.refl (fun i => i = w.heap.size + 1 + 1) _).setCell (p := ⟨w.heap.size + 1 + 1, 0, none⟩) (fun _ => rfl) _
      have hR1 := hR.setErr 27
      refine ⟨hE1.trans hE2 (fun i hi e => Or.inr e), rfl, ⟨_, List.mem_append_right _ (List.mem_singleton.2 rfl), HBad.out⟩, ⟨q, hR1.ext hE2 (fun e => by omega) (fun e => by omega) (fun g hg e => by have := hlt g hg; omega)⟩, (h2.ext hE1 (fun i e => by omega) hrr hrb).ext hE2 (fun i e => by omega) hrr hrb, ?_⟩
      have h3' := (h3.ext (((Ext.refl (fun i => i = rr) W).setCell (p := ⟨rr, 1, none⟩) (fun _ => rfl) (.int .i64 27))) (fun e => by omega)).set 0 (.slice none 0 0)
      exact h3'
    | true =>
      have HW := Lib.hid (fun l => CallsIn.inRound l (hW0 _ hok))
      have HOk := Lib.hid hok
      clear hW0 hok
      have hlen4 : pre.length < 4096 := by omega
      have hal := addL_snoc least pre (xi, ⟨xv, hxv⟩)
      obtain ⟨k, hk⟩ : ∃ k, k = pre.length := ⟨_, rfl⟩
      rw [← hk] at e3 h4 h5 hlen4
      have HK := Lib.hid hk
      have HAL := Lib.hid hal
      clear hk hal hN
      gi_wp2_with fail
      refine ⟨trivial, (HW.out _).mono ?_⟩
      rintro e w3 ⟨rfl, hw3⟩
      obtain rfl := hw3.symm
      clear HW
      gi_wp2_with (gi_at_builtin; refine wpListIn_append_own _ rfl _ _ 22 rfl (w2.heap.size + 2) 3 infoI (.int .i64 0) 1 8 Try.underlying22 hi0 hz0 hz1 hz2 rfl (by decide) _ _ _ rfl (h5.alloc _) ⟨W.heap.size, 0, none⟩ 1 1 [intV (least + xv)] rfl rfl ?c1 ?c2 ?c3 ?c4 ?c5 ?c6)
      case c1 =>
        intro j u hj
        cases j with
        | zero => simp at hj; subst hj; exact cell_at rfl rfl
        | succ j => simp at hj
      case c2 => intro u hu; simp at hu; subst hu; rfl
      case c3 => unfold maxLen; omega
      case c4 => omega
      case c5 => simp; omega
      case c6 =>
        intro v' w4 hown' hgrow _
        obtain ⟨g', cap', rfl⟩ := ownsRow_succ hown'
        have hg1 := ext_of_grown hgrow
        have hEa : Ext (fun i => i = w.heap.size + 1 + 1 + 1 ∨ w2.heap.size + 1 < i) W w4 := (ext_alloc W (.cells #[.int .i64 ((least : Int) + (xv : Int))] 3)).trans' hg1 (fun i _ e => e.elim) (fun i hi e => by have := (h5.lt i e).1; omega)
        have hBx4 := h2.ext hEa (fun i e => by omega) hrr hrb
        have hRs4 := h3.ext hEa (fun e => by omega)
        have hOb4 := (h4.alloc (.cells #[.int .i64 ((least : Int) + (xv : Int))] 3)).ext hg1 (fun e => by have := (h5.lt _ e).1; omega)
        have c3' : w4.cell? ⟨w.heap.size + 1 + 1 + 1, 0, none⟩ = some (.slice oa k oc) := hOb4.cell 0
        have f3' : w4.frozen? ⟨w.heap.size + 1 + 1 + 1, 0, none⟩ = false := hOb4.free 0
        have hown2 : w4.ownsRow (w2.heap.size + 2) 3 1 (.slice (some ⟨g', 0, none⟩) (k + 1) cap') (k + 1) ((addL least (pre ++ [(xi, ⟨xv, hxv⟩)])).map intV) := by
          rw [HAL.out, List.map_append, hsz2]; exact hown'
        have hgB := (hown2.lt g' rfl).1
        clear hown' hgrow
        gi_wp2
        have hEc : Ext (fun i => i = w.heap.size + 1 + 1 + 1) w4 (w4.setCell ⟨w.heap.size + 1 + 1 + 1, 0, none⟩ (.slice (some ⟨g', 0, none⟩) (k + 1) cap')) := (Ext.refl (fun i => i = w.heap.size + 1 + 1 + 1) _).setCell (p := ⟨w.heap.size + 1 + 1 + 1, 0, none⟩) (fun _ => rfl) _
        refine ⟨hEa.trans hEc (fun i _ e => Or.inl e), ?_, hBx4.ext hEc (fun i e => by omega) hrr hrb, hRs4.ext hEc (fun e => by omega), some ⟨g', 0, none⟩, cap', ?_, ?_⟩
        · intro x hx
          rcases List.mem_append.1 hx with h | h
          · exact h1 x h
          · simp at h; subst h; exact HOk.out
        · have := hOb4.set 0 (.slice (some ⟨g', 0, none⟩) (k + 1) cap')
          rw [List.length_append, ← HK.out]; exact this
        · rw [List.length_append, ← HK.out]
          exact own_ext hown2 hEc (fun g hg e => by
            have : g' = g := Option.some.inj hg
            omega)
  case done =>
    rintro D xs W hDe ⟨K, hF, rfl, hR⟩ ⟨h1, h2, h3, oa, oc, h4, h5⟩ hK
    have hD : w2.heap.size ≤ D := by omega
    have hDb : D ≤ w2.heap.size := by omega
    clear hDe
    rw [els_len] at h4 h5
    rw [addL_els] at h5
    have hall : ∀ x ∈ vals (bitsOf true bl) p wd K, okL least x = true := fun x hx => by
      obtain ⟨e, he, rfl⟩ := mem_vals hwd hx
      exact h1 e he
    have hDl : D < W.heap.size := (Array.getElem?_eq_some_iff.1 hK).1
    have h2l : w2.heap.size ≤ W.heap.size := by omega
    clear h1 hBox2 hRes2 hOut2 hRS2 k1 k2 k3
    have e0 : (W.alloc (.cells #[.int .i64 0] 3)).cell? ⟨w.heap.size, 0, none⟩ = some (.pointer (some ⟨rr, 0, none⟩)) := (h2.b0.alloc _).cell 0
    obtain ⟨s1, hs1⟩ : ∃ s1 : St, s1 = (if K = n then (al8 (p + n * wd), 0) else (p + K * wd, 10)) := ⟨_, rfl⟩
    rw [← hs1] at hR
    have HS1 := Lib.hid hs1
    clear hs1
    gi_wp2_with fail
    have hSB := BlockIs.new W [.int .i64 0] 3
    have hPS := ext_alloc W (.cells #[.int .i64 0] 3)
    have hzS : (W.alloc (.cells #[.int .i64 0] 3)).heap.size = W.heap.size + 1 := World.size_alloc _ _
    obtain ⟨sb, hsb⟩ : ∃ sb, sb = W.heap.size := ⟨_, rfl⟩
    rw [← hsb]
    rw [← hsb] at hSB hzS hDl h2l
    generalize W.alloc (.cells #[.int .i64 0] 3) = wS at *
    have hR' := hR.pure hPS
    have h2' := h2.ext hPS (fun _ e => e.elim) hrr hrb
    have h3' := h3.ext hPS id
    have h4' := h4.ext hPS id
    have h5' := own_ext h5 hPS (fun _ _ => id)
    have hK' : wS.heap[D]? = some (.deferred (some [])) := (hPS.block D (by omega) id).trans hK
    have hgsb : ∀ g, (Value.slice oa K oc).ownBlock = some g → g < sb := fun g hg => by have := (h5.lt g hg).2; omega
    clear hR h2 h3 h4 h5 hK e0 hPS
    refine ⟨trivial, (callsIn_wide.2 (mkrow_any rr n 1 wS)).mono ?_⟩
    rintro e w3 ⟨rfl, hE3, hsz3, k1, k2, k3⟩
    rw [hzS] at k1 k2 k3 hsz3
    have hR3 := hR'.pure hE3
    have h23 := h2'.ext hE3 (fun _ e => e.elim) hrr hrb
    have h33 := h3'.ext hE3 id
    have h43 := h4'.ext hE3 id
    have h53 := own_ext h5' hE3 (fun _ _ => id)
    have hSB3 := hSB.ext hE3 id
    have hK3 : w3.heap[D]? = some (.deferred (some [])) := (hE3.block D (by omega) id).trans hK'
    clear hR' h2' h3' h4' h5' hK' hSB hE3 hsb
    gi_wp2_with fail
    have hlt' : ∀ g, a = some g → g.block < w.heap.size := hlt
    refine range_iter (n := 5) rfl (enters_of Try.func56 (by kernel_rfl) rfl) (fun x => rfl) (RW := RdS rr rb) (BW := fun i => i = sb) (BX := fun _ => False) (fun i e => by rcases e with e | e <;> omega) (fun i e => by omega) (fun i e => e.elim) (fun A B ⟨q, h⟩ hE => ⟨q, h.ext hE (fun e => by omega) (fun e => by omega) (fun g hg e => by have := hlt g hg; omega)⟩)
      (iter_any 4 rr rb _ _ _ bl s1 n 1 (by omega) a c _ w3 hR3 hl (by omega) k1 k2 k3 (fun e => by rcases e with e | e <;> omega) (fun e => by rcases e with e | e <;> omega) (fun e => by rcases e with e | e <;> omega) (fun e => by omega) (fun e => by omega) (fun e => by omega) (fun e => by omega) (fun e => by omega) (fun g hg e => by have := hlt g hg; omega))
      (fun xs A B ⟨s', ho, hR, hx, hx2⟩ hE => ⟨s', ho, hR.ext hE (fun e => by omega) (fun e => by omega) (fun g hg e => by have := hlt g hg; omega), hx, hx2⟩)
      (fun pre W => BlockIs W sb [.int .i64 (sumE pre : Nat)] 3 ∧ RBox rr rb least w W ∧ BlockIs W (w.heap.size + 1 + 1) [.slice none 0 0] 22 ∧ BlockIs W (w.heap.size + 1 + 1 + 1) [.slice oa K oc] 22 ∧ W.ownsRow (w2.heap.size + 2) 3 1 (.slice oa K oc) K (((vals (bitsOf true bl) p wd K).map (fun x => least + x)).map intV) ∧ W.heap[D]? = some (.deferred (some [])))
      (fun _ _ _ => False)
      (fun pre A B ⟨g1, g2, g3, g4, g5, g6⟩ hE' => ⟨g1.cells hE', g2.other hE' (by omega), g3.cells hE', g4.cells hE', own_other g5 hE', (hE'.block D (Array.getElem?_eq_some_iff.1 g6).1 (fun e => by have := e.1; omega)).trans g6⟩) (fun _ _ _ _ h _ => h)
      (fun pre A B ⟨g1, g2, g3, g4, g5, g6⟩ hE' => ⟨g1.ext hE' (fun e => by rcases e with e | e <;> omega), g2.ext hE' (fun i e => by rcases e with e | e <;> omega) hrr hrb, g3.ext hE' (fun e => by rcases e with e | e <;> omega), g4.ext hE' (fun e => by rcases e with e | e <;> omega), own_ext g5 hE' (fun g hg e => by have := (g5.lt g hg).1; rcases e with e | e <;> omega), (hE'.block D (Array.getElem?_eq_some_iff.1 g6).1 (fun e => by rcases e with e | e <;> omega)).trans g6⟩)
      ⟨hSB3, h23, h33, h43, h53, hK3⟩
      (fun tt x => { tmps := ((tt.setIfInBounds 40 (.int .i64 (x.1 : Nat))).setIfInBounds 41 (.int .i64 (x.2.val : Nat))).setIfInBounds 16 (.int .i64 (x.2.val : Nat)), defers := [] }) ?assign2 ?body2 ?done2 ?stop2
    case assign2 =>
      intro l x W K' hK'
      unfold encEl
      rw [zip_two]
      gi_wp2
      simpa using hK'
    case body2 =>
      rintro l pre x W hl2 ⟨g1, g2, g3, g4, g5, g6⟩ _ hN ⟨r, hr⟩
      obtain ⟨xi, xv, hxv⟩ := x
      have hsl := sumE_le pre
      have hss := sumE_snoc pre (xi, ⟨xv, hxv⟩)
      obtain ⟨sm, hsm⟩ : ∃ k, k = sumE pre := ⟨_, rfl⟩
      rw [← hsm] at g1 hsl hss
      have c0 : W.cell? ⟨sb, 0, none⟩ = some (.int .i64 sm) := g1.cell 0
      have f0 : W.frozen? ⟨sb, 0, none⟩ = false := g1.free 0
      have hsl2 : sm ≤ 4096 * 4294967296 := Nat.le_trans hsl (Nat.mul_le_mul_right _ (by omega))
      have HS := Lib.hid hss
      clear hss hsm hsl
      gi_wp2
      have hEc : Ext (fun i => i = sb) W (W.setCell ⟨sb, 0, none⟩ (.int .i64 ((sm : Int) + (xv : Int)))) := (Ext.refl (fun i => i = sb) W).setCell (p := ⟨sb, 0, none⟩) (fun _ => rfl) _
      refine ⟨hEc, ?_, g2.ext hEc (fun i e => by omega) hrr hrb, g3.ext hEc (fun e => by omega), g4.ext hEc (fun e => by omega), (by rw [← hsz2, ← List.map_map]; exact own_ext g5 hEc (fun g hg e => by have := hgsb g hg; omega)), (hEc.block D (Array.getElem?_eq_some_iff.1 g6).1 (fun e => by omega)).trans g6⟩
      have := g1.set 0 (.int .i64 ((sm : Int) + (xv : Int)))
      rw [HS.out]
      simpa using this
    case stop2 =>
      rintro D2 cd xs W _ _ h _
      exact h.elim
    case done2 =>
      rintro D2 xs W hD2e ⟨s2, ho2, hR, hx2, k2', hk2', rfl⟩ ⟨g1, g2, g3, g4, g5, g6⟩ hK2
      have hD2 : w3.heap.size ≤ D2 := by omega
      have hD2b : D2 ≤ w3.heap.size := by omega
      clear hD2e
      rw [sumE_els] at g1
      have hsum := sum_ones (bitsOf true bl) s1.1 k2'
      obtain ⟨sg, hsg⟩ : ∃ sg, sg = (vals (bitsOf true bl) s1.1 1 k2').sum := ⟨_, rfl⟩
      rw [← hsg] at g1 hsum
      have HSg : Hid (s2.2 = 0 → sg = (vals (bitsOf true bl) s1.1 1 n).sum) := Lib.hid (fun h => by
        have := hx2 h
        rw [hsg, ← sumE_els _ _ _ _ (by omega : (1 : Nat) ≤ 32), this, sumE_els])
      have hsg4 : 4 * sg ≤ 16384 := by omega
      have c0 : W.cell? ⟨w.heap.size, 0, none⟩ = some (.pointer (some ⟨rr, 0, none⟩)) := g2.b0.cell 0
      have c1 : W.cell? ⟨sb, 0, none⟩ = some (.int .i64 sg) := g1.cell 0
      have hszW : w3.heap.size ≤ W.heap.size := by have := (Array.getElem?_eq_some_iff.1 hK2).1; omega
      have hD2l := (Array.getElem?_eq_some_iff.1 hK2).1
      have HSk := Lib.hid (skip_any rr rb bl s2 (4 * sg) 32 (by omega) a c W hR hl (by omega) (fun g hg => by have := hlt g hg; omega))
      have h4sg : (sg : Int) * 4 = ((4 * sg : Nat) : Int) := by omega
      clear hsg hx2
      gi_wp2_with fail
      refine ⟨trivial, (callsIn_wide.2 HSk.out).mono ?_⟩
      rintro e w4 ⟨rfl, s3, ho3, hR4, hE4⟩
      have g24 := g2.ext hE4 (fun i e => by rcases e with e | e <;> omega) hrr hrb
      have g34 := g3.ext hE4 (fun e => by rcases e with e | e <;> omega)
      have g44 := g4.ext hE4 (fun e => by rcases e with e | e <;> omega)
      have g54 := own_ext g5 hE4 (fun g hg e => by have := (g5.lt g hg).1; rcases e with e | e <;> omega)
      have g64 : w4.heap[D]? = some (.deferred (some [])) := (hE4.block D (by omega) (fun e => by rcases e with e | e <;> omega)).trans g6
      have hK24 : w4.heap[D2]? = some (.deferred (some [])) := (hE4.block D2 hD2l (fun e => by rcases e with e | e <;> omega)).trans hK2
      have hs4 := hE4.size
      clear c0 c1 HSk h4sg g1 g2 g3 g4 g5 g6 hK2 hE4 hR
      have c0 : w4.cell? ⟨w.heap.size, 0, none⟩ = some (.pointer (some ⟨rr, 0, none⟩)) := g24.b0.cell 0
      have HSk := Lib.hid (skip_any rr rb bl s3 n groups hg a c w4 hR4 hl (by omega) (fun g hg => by have := hlt g hg; omega))
      gi_wp2_with fail
      refine ⟨trivial, (callsIn_wide.2 HSk.out).mono ?_⟩
      rintro e w5 ⟨rfl, s4, ho4, hR5, hE5⟩
      have g25 := g24.ext hE5 (fun i e => by rcases e with e | e <;> omega) hrr hrb
      have g35 := g34.ext hE5 (fun e => by rcases e with e | e <;> omega)
      have g45 := g44.ext hE5 (fun e => by rcases e with e | e <;> omega)
      have g55 := own_ext g54 hE5 (fun g hg e => by have := (g54.lt g hg).1; rcases e with e | e <;> omega)
      have g65 : w5.heap[D]? = some (.deferred (some [])) := (hE5.block D (by omega) (fun e => by rcases e with e | e <;> omega)).trans g64
      have hK25 : w5.heap[D2]? = some (.deferred (some [])) := (hE5.block D2 (by omega) (fun e => by rcases e with e | e <;> omega)).trans hK24
      have hs5 := hE5.size
      clear c0 HSk g24 g34 g44 g54 g64 hK24 hE5 hR4
      have c3 : w5.cell? ⟨w.heap.size + 1 + 1 + 1, 0, none⟩ = some (.slice oa K oc) := g45.cell 0
      have c2 : w5.cell? ⟨w.heap.size + 1 + 1, 0, none⟩ = some (.slice none 0 0) := g35.cell 0
      have f2 : w5.frozen? ⟨w.heap.size + 1 + 1, 0, none⟩ = false := g35.free 0
      have HTo := Lib.hid (rows_to hF hall HS1.out ho2 HSg.out ho3 ho4)
      gi_wp2
      have hE6 : Ext (fun i => i = w.heap.size + 1 + 1) w5 (w5.setCell ⟨w.heap.size + 1 + 1, 0, none⟩ (.slice oa K oc)) := (Ext.refl (fun i => i = w.heap.size + 1 + 1) _).setCell (p := ⟨w.heap.size + 1 + 1, 0, none⟩) (fun _ => rfl) _
      have hB6 := g35.set 0 (.slice oa K oc)
      generalize w5.setCell ⟨w.heap.size + 1 + 1, 0, none⟩ (.slice oa K oc) = w6 at *
      have hK26 : w6.heap[D2]? = some (.deferred (some [])) := (hE6.block D2 (by omega) (fun e => by omega)).trans hK25
      have hE7 := ext_putObj w6 D2 (.deferred none)
      have hs6 := hE6.size
      have hK7 : (w6.putObj D2 (.deferred none)).heap[D]? = some (.deferred (some [])) := (hE7.block D (by omega) (fun e => by omega)).trans ((hE6.block D (by omega) (fun e => by omega)).trans g65)
      have hE8 := ext_putObj (w6.putObj D2 (.deferred none)) D (.deferred none)
      refine ⟨by simp, .inl ⟨_, _, rfl, run_takeDeferred hK26, ?_⟩⟩
      refine ⟨by simp, .inl ⟨_, _, rfl, run_takeDeferred hK7, ?_⟩⟩
      have hEE : Ext (fun i => i = w.heap.size + 1 + 1 ∨ i = D2 ∨ i = D) w5 ((w6.putObj D2 (.deferred none)).putObj D (.deferred none)) := ((hE6.mono (T := fun i => i = w.heap.size + 1 + 1 ∨ i = D2 ∨ i = D) (fun i _ e => Or.inl e)).trans hE7 (fun i _ e => Or.inr (Or.inl e))).trans hE8 (fun i _ e => Or.inr (Or.inr e))
      have hB8 := (hB6.ext hE7 (fun e => by omega)).ext hE8 (fun e => by omega)
      have e2 : ((w6.putObj D2 (.deferred none)).putObj D (.deferred none)).cell? ⟨w.heap.size + 1 + 1, 0, none⟩ = some (.slice oa K oc) := hB8.cell 0
      refine ⟨.slice oa K oc, ?_, s4, (vals (bitsOf true bl) p wd K).map (fun x => least + x), oa, oc, by rw [List.length_map, vals_len], HTo.out, hR5.ext hEE (fun e => by omega) (fun e => by omega) (fun g hg e => by have := hlt g hg; omega), ?_, g25.ex.trans hEE (fun i hi e => by omega)⟩
      · simp [results, Try.results31, go_sem, e2]
      · rw [List.length_map, vals_len]
        exact own_base (own_ext g55 hEE (fun g hg e => by have h1 := (g55.lt g hg).1; have h2 := hgsb g hg; omega)) (by omega)
  case stop =>
    rintro D cd xs W hD ⟨k, hkn, hfit, rfl⟩ ⟨rfl, ⟨x, hx, hbad⟩, ⟨q, hR⟩, h2, h3⟩ hK
    have hRB := h3.cell 0
    gi_wp2
    refine ⟨by simp, .inl ⟨_, _, rfl, run_takeDeferred hK, ?_⟩⟩
    have hE' := ext_putObj W D (.deferred none)
    have e2 : (W.putObj D (.deferred none)).cell? ⟨w.heap.size + 1 + 1, 0, none⟩ = some (.slice none 0 0) := (h3.ext hE' (fun e => by omega)).cell 0
    obtain ⟨K, hF⟩ := fit_exists (bitsOf true bl).length p wd n (by omega)
    have hKk : k + 1 ≤ K := by
      rcases Nat.lt_or_ge K (k + 1) with h | h
      · have h1 := hF.cut (by omega)
        have h2 : (K + 1) * wd ≤ (k + 1) * wd := Nat.mul_le_mul_right wd (by omega)
        omega
      · exact h
    refine ⟨.slice none 0 0, ?_, (q, 27), [], none, 0, rfl, ⟨K, hF, Or.inl ⟨⟨_, vals_take hKk (mem_els hx), hbad⟩, rfl⟩⟩, hR.ext hE' (fun e => by omega) (fun e => by omega) (fun g hg e => by have := hlt g hg; omega), World.ownsRow_nil _ _ _ _, h2.ex.trans hE' (fun i hi e => by have e' : i = D := e; omega)⟩
    simp [results, Try.results31, go_sem, e2]
end Go.Proofs.Ytjnpjkenmkgooaa
