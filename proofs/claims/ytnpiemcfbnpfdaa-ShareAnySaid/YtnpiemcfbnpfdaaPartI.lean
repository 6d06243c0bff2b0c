/-
  Rows of a call's own, kept apart by colours: five of them lie in one block.
-/
import Derived.Test.YtnpiemcfbnpfdaaShareU
namespace Go.Proofs.Ytnpiemcfbnpfdaa
open Go.RowKit Go.Maps
set_option linter.unusedVariables false
set_option linter.unusedSimpArgs false

/-- blocks that were there keep their colours -/
def Agree (W : World) (κ κ' : Nat → Nat) : Prop := ∀ b, b < W.heap.size → κ' b = κ b
/-- new blocks get a colour -/
def paint (W : World) (κ : Nat → Nat) (c : Nat) : Nat → Nat := fun b => if b < W.heap.size then κ b else c
theorem paint_agree (W : World) (κ : Nat → Nat) (c : Nat) : Agree W κ (paint W κ c) := fun b hb => if_pos hb
theorem paint_new {W : World} {κ : Nat → Nat} {c b : Nat} (h : W.heap.size ≤ b) : paint W κ c b = c := if_neg (Nat.not_lt.2 h)
theorem Agree.refl (W : World) (κ : Nat → Nat) : Agree W κ κ := fun _ _ => rfl
structure OwnC (κ : Nat → Nat) (R c e : Nat) (W : World) (a : Option Addr) (cap : Nat) (xs : List Value) : Prop where
  row : W.ownsRow R e 1 (.slice a xs.length cap) xs.length xs
  col : ∀ x, a = some x → κ x.block = c
theorem OwnC.nil (κ : Nat → Nat) (R c e : Nat) (W : World) : OwnC κ R c e W none 0 [] := ⟨World.ownsRow_nil _ _ _ _, fun x h => by cases h⟩
theorem own_some {a : Option Addr} {n c g : Nat} (h : (Value.slice a n c).ownBlock = some g) : ∃ x, a = some x ∧ x.block = g := by
  cases a with
  | none => cases h
  | some x => exact ⟨x, rfl, Option.some.inj h⟩
section
variable {κ κ' : Nat → Nat} {R c e : Nat} {W W' W1 W2 : World} {a a2 : Option Addr} {cap c2 : Nat} {xs : List Value} {S : Nat → Prop}
theorem OwnC.lt (h : OwnC κ R c e W a cap xs) : ∀ x, a = some x → R ≤ x.block ∧ x.block < W.heap.size := fun x hx => h.row.lt x.block (by rw [hx]; rfl)
theorem OwnC.keep (h : OwnC κ R c e W a cap xs) (hE : Ext S W W') (hS : ∀ b, κ b = c → ¬ S b) (hA : Agree W κ κ') : OwnC κ' R c e W' a cap xs :=
  ⟨own_ext h.row hE (fun g hg => by
    obtain ⟨x, hx, rfl⟩ := own_some hg
    exact hS _ (h.col x hx)), fun x hx => (hA _ (h.lt x hx).2).trans (h.col x hx)⟩
theorem OwnC.pure (h : OwnC κ R c e W a cap xs) (hP : Pure W W') : OwnC κ R c e W' a cap xs := h.keep hP (fun _ _ => id) (Agree.refl _ _)
theorem OwnC.grow {u : Value} (h : OwnC κ R c e W a cap xs) (hP : Pure W W1) (hg : W1.grownBy W2 (Value.slice a xs.length cap).ownBlock) (hO : W2.ownsRow R e 1 (.slice a2 (xs.length + 1) c2) (xs.length + 1) (xs ++ [u]))
    (hf : ∀ g, a2 = some g → (Value.slice a xs.length cap).ownBlock = some g.block ∨ W1.heap.size ≤ g.block) : OwnC (paint W κ c) R c e W2 a2 c2 (xs ++ [u]) ∧ Ext (fun b => κ b = c) W W2 := by
  refine ⟨⟨by rw [List.length_append]; exact hO, fun x hx => ?_⟩, ?_⟩
  · rcases hf x hx with h1 | h1
    · obtain ⟨y, hy, hyb⟩ := own_some h1
      rw [← hyb, paint_agree W κ c _ (h.lt y hy).2]
      exact h.col y hy
    · exact paint_new (Nat.le_trans hP.size h1)
  · refine (hP.mono (T := fun b => κ b = c) (fun _ _ e => e.elim)).trans (ext_of_grown hg) (fun i hi e => ?_)
    obtain ⟨y, hy, hyb⟩ := own_some e
    rw [← hyb]
    exact h.col y hy
theorem OwnC.read (h : OwnC κ R c e W a cap xs) : RowOf W a xs ∧ (a = none → cap = 0) ∧ xs.length ≤ cap := by
  obtain ⟨a', c', he, h1, _, h3, _⟩ := own_form h.row
  cases he
  exact ⟨own_row h.row, h3, h1⟩
end
/-- old blocks have no colour: what has one may be written -/
theorem pure_old {w W W' : World} {κ : Nat → Nat} {S : Nat → Prop} (hP : Pure w W) (hE : Ext S W W') (hκ : ∀ b, b < w.heap.size → κ b = 0) (hS : ∀ b, S b → κ b ≠ 0) : Pure w W' :=
  hP.trans hE (fun b hb e => hS b e (hκ b hb))
def elT (k : Nat) : Nat := if k = 2 then 22 else 3
def setAt {α : Type} (f : Nat → α) (k : Nat) (v : α) : Nat → α := fun i => if i = k then v else f i
/-- five rows in one block -/
structure PI (T R tb : Nat) (κ : Nat → Nat) (A : Nat → Option Addr) (C : Nat → Nat) (X : Nat → List Value) (W : World) : Prop where
  blk : BlockIs W tb [.slice (A 0) (X 0).length (C 0), .slice (A 1) (X 1).length (C 1), .slice (A 2) (X 2).length (C 2), .slice (A 3) (X 3).length (C 3), .slice (A 4) (X 4).length (C 4)] T
  kb : κ tb = 9
  row : ∀ k, k < 5 → OwnC κ R (k + 1) (elT k) W (A k) (C k) (X k)
  old : ∀ b, b < R → κ b = 0
  rs : R ≤ W.heap.size
section
variable {T R tb : Nat} {κ κ' : Nat → Nat} {A : Nat → Option Addr} {C : Nat → Nat} {X : Nat → List Value} {W W' W1 W2 : World} {S : Nat → Prop}
theorem PI.keep (h : PI T R tb κ A C X W) (hE : Ext S W W') (hS : ∀ b, (1 ≤ κ b ∧ κ b ≤ 5 ∨ κ b = 9) → ¬ S b) (hA : Agree W κ κ') : PI T R tb κ' A C X W' :=
  ⟨h.blk.ext hE (hS tb (Or.inr h.kb)), (hA tb h.blk.lt).trans h.kb, fun k hk => (h.row k hk).keep hE (fun b hb => hS b (Or.inl (by omega))) hA, fun b hb => (hA b (Nat.lt_of_lt_of_le hb h.rs)).trans (h.old b hb), Nat.le_trans h.rs hE.size⟩
theorem PI.pure (h : PI T R tb κ A C X W) (hP : Pure W W') : PI T R tb κ A C X W' := h.keep hP (fun _ _ => id) (Agree.refl _ _)
/-- a cell of the block -/
theorem PI.cell (h : PI T R tb κ A C X W) : ∀ k, k < 5 → W.cell? ⟨tb, k, none⟩ = some (.slice (A k) (X k).length (C k)) ∧ W.frozen? ⟨tb, k, none⟩ = false
  | 0, _ => ⟨h.blk.cell 0, h.blk.free 0⟩
  | 1, _ => ⟨h.blk.cell 1, h.blk.free 1⟩
  | 2, _ => ⟨h.blk.cell 2, h.blk.free 2⟩
  | 3, _ => ⟨h.blk.cell 3, h.blk.free 3⟩
  | 4, _ => ⟨h.blk.cell 4, h.blk.free 4⟩
/-- another row is stored -/
theorem PI.store {k : Nat} (hk : k < 5) {a2 : Option Addr} {c2 n : Nat} {ys : List Value} (h : PI T R tb κ A C X W) (hP : Ext (fun b => κ b = k + 1) W W2) (hA : Agree W κ κ') (hO : OwnC κ' R (k + 1) (elT k) W2 a2 c2 ys) (hn : n = ys.length) :
    PI T R tb κ' (setAt A k a2) (setAt C k c2) (setAt X k ys) (W2.setCell ⟨tb, k, none⟩ (.slice a2 n c2)) ∧ Ext (fun b => κ b = k + 1 ∨ κ b = 9) W (W2.setCell ⟨tb, k, none⟩ (.slice a2 n c2)) := by
  subst hn
  have hX : Ext (fun i => i = tb) W2 (W2.setCell ⟨tb, k, none⟩ (.slice a2 ys.length c2)) := Ext.setCell (S := fun i => i = tb) (Ext.refl _ _) (p := ⟨tb, k, none⟩) (fun _ => rfl) _
  have kb := h.kb
  have hkb : κ' tb = 9 := (hA tb h.blk.lt).trans kb
  have hne : ∀ b, κ' b < 9 → ¬ b = tb := fun b hb e => by subst e; omega
  have hB2 : BlockIs W2 tb _ T := h.blk.ext hP (fun e => by have e2 : κ tb = k + 1 := e; omega)
  refine ⟨⟨?_, hkb, fun i hi => ?_, fun b hb => (hA b (Nat.lt_of_lt_of_le hb h.rs)).trans (h.old b hb), Nat.le_trans h.rs (Nat.le_trans hP.size hX.size)⟩, (hP.mono (fun _ _ e => Or.inl e)).trans hX (fun i _ e => Or.inr (by have e2 : i = tb := e; rw [e2]; exact kb))⟩
  · have h8 := hB2.set k (.slice a2 ys.length c2)
    match k, hk with
    | 0, _ => exact h8
    | 1, _ => exact h8
    | 2, _ => exact h8
    | 3, _ => exact h8
    | 4, _ => exact h8
  · by_cases e : i = k
    · subst e
      simp only [setAt, if_pos]
      exact hO.keep hX (fun b hb => hne b (by omega)) (Agree.refl _ _)
    · simp only [setAt, if_neg e]
      refine ((h.row i hi).keep hP (fun b hb e2 => ?_) hA).keep hX (fun b hb => hne b (by omega)) (Agree.refl _ _)
      have e3 : κ b = k + 1 := e2
      omega
/-- one more behind a row, and the row stored -/
theorem PI.push {k : Nat} (hk : k < 5) {u : Value} {a2 : Option Addr} {c2 n : Nat} (h : PI T R tb κ A C X W) (hP : Pure W W1) (hg : W1.grownBy W2 (Value.slice (A k) (X k).length (C k)).ownBlock) (hO : W2.ownsRow R (elT k) 1 (.slice a2 ((X k).length + 1) c2) ((X k).length + 1) (X k ++ [u]))
    (hf : ∀ g, a2 = some g → (Value.slice (A k) (X k).length (C k)).ownBlock = some g.block ∨ W1.heap.size ≤ g.block) (hn : n = (X k).length + 1) :
    PI T R tb (paint W κ (k + 1)) (setAt A k a2) (setAt C k c2) (setAt X k (X k ++ [u])) (W2.setCell ⟨tb, k, none⟩ (.slice a2 n c2)) ∧ Ext (fun b => κ b = k + 1 ∨ κ b = 9) W (W2.setCell ⟨tb, k, none⟩ (.slice a2 n c2)) := by
  obtain ⟨h1, h2⟩ := (h.row k hk).grow hP hg hO hf
  exact h.store hk h2 (paint_agree _ _ _) h1 (by rw [hn, List.length_append]; rfl)
end
/-- the own rows of pages, each with a colour of its own -/
def RwC (κ : Nat → Nat) (R : Nat) (W : World) (rs : List CRow) : Prop := ∀ i q, rs[i]? = some q → OwnC κ R (20 + i) 3 W q.a q.c (intsV q.l)
theorem RwC.keep {κ κ' : Nat → Nat} {R : Nat} {W W' : World} {rs : List CRow} {S : Nat → Prop} (h : RwC κ R W rs) (hE : Ext S W W') (hS : ∀ b, 20 ≤ κ b ∧ κ b < 20 + rs.length → ¬ S b) (hA : Agree W κ κ') : RwC κ' R W' rs := fun i q hq =>
  (h i q hq).keep hE (fun b hb => hS b (by have := (List.getElem?_eq_some_iff.1 hq).1; omega)) hA
theorem RwC.pure {κ : Nat → Nat} {R : Nat} {W W' : World} {rs : List CRow} (h : RwC κ R W rs) (hP : Pure W W') : RwC κ R W' rs := h.keep hP (fun _ _ => id) (Agree.refl _ _)
theorem RwC.snoc {κ : Nat → Nat} {R : Nat} {W : World} {rs : List CRow} {q : CRow} (h : RwC κ R W rs) (hq : OwnC κ R (20 + rs.length) 3 W q.a q.c (intsV q.l)) : RwC κ R W (rs ++ [q]) := fun i r hr => by
  by_cases hi : i < rs.length
  · rw [List.getElem?_append_left hi] at hr
    exact h i r hr
  · have h2 := (List.getElem?_eq_some_iff.1 hr).1
    rw [List.length_append, List.length_singleton] at h2
    obtain rfl : i = rs.length := by omega
    rw [List.getElem?_append_right (Nat.le_refl _), Nat.sub_self] at hr
    cases hr
    exact hq
/-- a row of numbers as it is given on -/
def CRow.ok (W : World) (q : CRow) : Prop := RowOf W q.a (intsV q.l) ∧ (q.a = none → q.c = 0) ∧ q.l.length ≤ q.c
theorem OwnC.ok {κ : Nat → Nat} {R c e : Nat} {W : World} {a : Option Addr} {cap : Nat} {l : List Int} (h : OwnC κ R c e W a cap (intsV l)) : CRow.ok W ⟨a, cap, l⟩ := by
  obtain ⟨h1, h2, h3⟩ := h.read
  exact ⟨h1, h2, by rw [intsV_len] at h3; exact h3⟩
/-- parts as they are given on -/
structure PartsAt (p : PartsP) (t f s h : CRow) (a : Option Addr) (c : Nat) (rs : List CRow) (W : World) : Prop where
  lt : t.l = p.tree
  lf : f.l = p.first
  lo : lsR rs = p.own
  ls : s.l = p.shared
  lh : h.l = p.others
  t : t.ok W
  f : f.ok W
  o : Rws W a rs
  on : (a = none → c = 0) ∧ rs.length ≤ c
  oq : ∀ q ∈ rs, q.ok W
  s : s.ok W
  h : h.ok W
theorem CRow.ok.pure {q : CRow} {W W' : World} (h : q.ok W) (hP : Pure W W') : q.ok W' := ⟨h.1.ext hP (fun _ _ => id), h.2⟩
theorem PartsAt.pure {p : PartsP} {t f s h : CRow} {a : Option Addr} {c : Nat} {rs : List CRow} {W W' : World} (H : PartsAt p t f s h a c rs W) (hP : Pure W W') : PartsAt p t f s h a c rs W' :=
  ⟨H.lt, H.lf, H.lo, H.ls, H.lh, H.t.pure hP, H.f.pure hP, H.o.pure hP, H.on, fun q hq => (H.oq q hq).pure hP, H.s.pure hP, H.h.pure hP⟩
def PartsTo (p : PartsP) (w : World) (e : Ending) (w' : World) : Prop :=
  ∃ (t f s h : CRow) (a : Option Addr) (c : Nat) (rs : List CRow), e = .returned (.agg #[t.v, f.v, .slice a rs.length c, s.v, h.v]) ∧ PartsAt p t f s h a c rs w' ∧ Pure w w'
/-- the five rows, read -/
theorem PI.parts {T R tb : Nat} {κ : Nat → Nat} {A : Nat → Option Addr} {C : Nat → Nat} {X : Nat → List Value} {W : World} {p : PartsP} {rs : List CRow} (h : PI T R tb κ A C X W) (hR : RwC κ R W rs)
    (h0 : X 0 = intsV p.tree) (h1 : X 1 = intsV p.first) (h2 : X 2 = rs.map CRow.v) (h2' : lsR rs = p.own) (h3 : X 3 = intsV p.shared) (h4 : X 4 = intsV p.others) :
    PartsAt p ⟨A 0, C 0, p.tree⟩ ⟨A 1, C 1, p.first⟩ ⟨A 3, C 3, p.shared⟩ ⟨A 4, C 4, p.others⟩ (A 2) (C 2) rs W := by
  have r0 := h.row 0 (by decide)
  have r1 := h.row 1 (by decide)
  have r2 := h.row 2 (by decide)
  have r3 := h.row 3 (by decide)
  have r4 := h.row 4 (by decide)
  rw [h0] at r0
  rw [h1] at r1
  rw [h2] at r2
  rw [h3] at r3
  rw [h4] at r4
  have ho : ∀ q ∈ rs, q.ok W := fun q hq => by
    obtain ⟨i, hi, rfl⟩ := List.mem_iff_getElem.1 hq
    exact (hR i _ (List.getElem?_eq_getElem hi)).ok
  obtain ⟨q1, q2, q3⟩ := r2.read
  exact ⟨rfl, rfl, h2', rfl, rfl, r0.ok, r1.ok, ⟨q1, fun q hq => (ho q hq).1⟩, ⟨q2, by rw [List.length_map] at q3; exact q3⟩, ho, r3.ok, r4.ok⟩
end Go.Proofs.Ytnpiemcfbnpfdaa
