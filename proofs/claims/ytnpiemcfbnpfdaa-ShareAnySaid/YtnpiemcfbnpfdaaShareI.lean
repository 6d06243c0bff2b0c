/-
  What share.Of keeps while it goes through rows.
-/
import Derived.Test.YtnpiemcfbnpfdaaRef24
namespace Go.Proofs.Ytnpiemcfbnpfdaa
open Go.RowKit Go.Maps
set_option linter.unusedVariables false
set_option linter.unusedSimpArgs false

theorem infoR : (Try.prog.info? 22).map (fun i => (i.zero, i.size, i.bytes)) = some (some (.slice none 0 0), 1, 24) := by kernel_rfl
/-- the numbers taken -/
structure TakI (rows : List (List Int)) (p j M cnt : Nat) (D : DataW Unit) (W : World) : Prop where
  own : W.ownsMap Try.prog 3 (plainElem Try.prog 3) M cnt D
  is : IsMap D
  few : cnt ≤ ((rows.take p).flatten).length + j
  yes : ∀ x, takenP rows p j x → D.atKey (.int .i64 x) (.lit (.int .i64 0)) = .lit (.int .i64 1)
  no : ∀ x, ¬ takenP rows p j x → D.atKey (.int .i64 x) (.lit (.int .i64 0)) = .lit (.int .i64 0)
section
variable {rows : List (List Int)} {p j M cnt : Nat} {D : DataW Unit} {W W' : World}
theorem TakI.keep {S : Nat → Prop} (h : TakI rows p j M cnt D W) (hE : Ext S W W') (hS : ¬ S M) : TakI rows p j M cnt D W' := ⟨own_map_ext h.own hE hS, h.is, h.few, h.yes, h.no⟩
theorem TakI.pure (h : TakI rows p j M cnt D W) (hP : Pure W W') : TakI rows p j M cnt D W' := h.keep hP id
theorem TakI.skip (h : TakI rows p j M cnt D W) (hp : p < rows.length) (hj : j < rows[p].length) {x : Int} (hx : rows[p][j] = x) (ht : takenP rows p j x) : TakI rows p (j + 1) M cnt D W := by
  have e : ∀ y, takenP rows p (j + 1) y ↔ takenP rows p j y := fun y => by
    rw [takenP_step rows p j hp hj, hx]
    exact ⟨fun h => h.elim id (fun e => e ▸ ht), Or.inl⟩
  exact ⟨h.own, h.is, by have := h.few; omega, fun y hy => h.yes y ((e y).1 hy), fun y hy => h.no y (fun h => hy ((e y).2 h))⟩
theorem TakI.put (h : TakI rows p j M cnt D W) (hp : p < rows.length) (hj : j < rows[p].length) {x : Int} (hx : rows[p][j] = x)
    (hO : W'.ownsMap Try.prog 3 (plainElem Try.prog 3) M (cnt + 1) (D.put (.int .i64 x) (.lit (.int .i64 1)))) : TakI rows p (j + 1) M (cnt + 1) (D.put (.int .i64 x) (.lit (.int .i64 1))) W' := by
  refine ⟨hO, h.is.put _ _, by have := h.few; omega, fun y hy => ?_, fun y hy => ?_⟩
  · by_cases e : y = x
    · subst e
      exact atKey_put_same h.is (k := .int .i64 y) trivial _ _
    · rw [atKey_put_other (fun e' => e (by cases e'; rfl))]
      refine h.yes y ?_
      rw [takenP_step rows p j hp hj, hx] at hy
      exact hy.resolve_right e
  · rw [takenP_step rows p j hp hj, hx] at hy
    rw [atKey_put_other (fun e' => hy (Or.inr (by cases e'; rfl)))]
    exact h.no y (fun h => hy (Or.inl h))
theorem TakI.next (hp : p < rows.length) (h : TakI rows p rows[p].length M cnt D W) : TakI rows (p + 1) 0 M cnt D W := by
  refine ⟨h.own, h.is, ?_, fun y hy => h.yes y ((takenP_row rows p hp y).1 hy), fun y hy => h.no y (fun h => hy ((takenP_row rows p hp y).2 h))⟩
  have h1 := h.few
  rw [take_flat rows p hp, List.flatten_append, List.length_append]
  simpa using h1
theorem TakI.room (h : TakI rows p j M cnt D W) (hp : p < rows.length) (hj : j < rows[p].length) (ht : rows.flatten.length ≤ 1000000000) : cnt < maxLen := by
  have h1 := h.few
  have h2 : (rows.take (p + 1)).flatten.length ≤ rows.flatten.length := by
    have h3 : rows.flatten = ((rows.take (p + 1)) ++ (rows.drop (p + 1))).flatten := by rw [List.take_append_drop]
    rw [h3, List.flatten_append, List.length_append]
    exact Nat.le_add_right _ _
  rw [take_flat _ p hp, List.flatten_append, List.length_append] at h2
  simp only [List.flatten_cons, List.flatten_nil, List.append_nil] at h2
  unfold maxLen
  omega
end
theorem onP_len_flat (rows : List (List Int)) (p j : Nat) (hp : p < rows.length) (hj : j ≤ rows[p].length) : (shJ rows p j).length ≤ rows.flatten.length ∧ (ownJ rows p j).length ≤ j := by
  have h2 : (rows.take (p + 1)).flatten.length ≤ rows.flatten.length := by
    have h3 : rows.flatten = ((rows.take (p + 1)) ++ (rows.drop (p + 1))).flatten := by rw [List.take_append_drop]
    rw [h3, List.flatten_append, List.length_append]
    exact Nat.le_add_right _ _
  rw [take_flat _ p hp, List.flatten_append, List.length_append] at h2
  simp only [List.flatten_cons, List.flatten_nil, List.append_nil] at h2
  constructor
  · unfold shJ shP
    rw [getD_at rows p hp, ← onP_two]
    refine Nat.le_trans (onP_len _ _) ?_
    rw [List.length_append]
    have h4 := List.length_filter_le (condS rows) (((rows.take p).drop 1).flatten)
    have h5 := List.length_filter_le (condS rows) (rows[p].take j)
    have h6 : ((rows.take p).drop 1).flatten.length ≤ (rows.take p).flatten.length := by
      have h3 : (rows.take p).flatten = ((rows.take p).take 1 ++ (rows.take p).drop 1).flatten := by rw [List.take_append_drop]
      rw [h3, List.flatten_append, List.length_append]
      exact Nat.le_add_left _ _
    rw [List.length_take] at h5
    simp only [List.length_nil]
    omega
  · unfold ownJ
    refine Nat.le_trans (List.length_filter_le _ _) (Nat.le_trans (onP_len _ _) ?_)
    rw [List.length_take]
    simp only [List.length_nil]
    omega
/-- the coloured part -/
structure ShC (T R tb tr B uc : Nat) (Du : DataW Unit) (κ : Nat → Nat) (A : Nat → Option Addr) (C : Nat → Nat) (X : Nat → List Value) (qs : List CRow) (W : World) : Prop where
  pi : PI T R tb κ A C X W
  rw : RwC κ R W qs
  res : BlockIs W tr [.slice none 0 0, .slice none 0 0, .slice none 0 0, .slice none 0 0, .slice none 0 0] T
  kr : κ tr = 10
  us : W.ownsMap Try.prog 3 useR B uc Du
  ku : κ B = 7
section
variable {T R tb tr B uc : Nat} {Du : DataW Unit} {κ κ' : Nat → Nat} {A : Nat → Option Addr} {C : Nat → Nat} {X : Nat → List Value} {qs : List CRow} {W W' W1 W2 : World} {S : Nat → Prop}
theorem ShC.keep (h : ShC T R tb tr B uc Du κ A C X qs W) (hE : Ext S W W') (hS : ∀ b, S b → κ b = 8 ∨ 20 + qs.length ≤ κ b) (hA : Agree W κ κ') : ShC T R tb tr B uc Du κ' A C X qs W' := by
  have kr := h.kr
  have ku := h.ku
  refine ⟨h.pi.keep hE (fun b hb e => ?_) hA, h.rw.keep hE (fun b hb e => ?_) hA, h.res.ext hE (fun e => ?_), (hA tr h.res.lt).trans kr, own_map_ext h.us hE (fun e => ?_), (hA B h.us.lt).trans ku⟩
  · have := hS b e; omega
  · have := hS b e; omega
  · have := hS _ e; omega
  · have := hS _ e; omega
theorem ShC.pure (h : ShC T R tb tr B uc Du κ A C X qs W) (hP : Pure W W') : ShC T R tb tr B uc Du κ A C X qs W' := h.keep hP (fun _ e => e.elim) (Agree.refl _ _)
/-- a row is stored, or has grown, in the block -/
theorem ShC.stored (h : ShC T R tb tr B uc Du κ A C X qs W) {k : Nat} (hk : k < 5) {A2 : Nat → Option Addr} {C2 : Nat → Nat} {X2 : Nat → List Value} (hpi : PI T R tb κ' A2 C2 X2 W') (hE : Ext (fun b => κ b = k + 1 ∨ κ b = 9) W W') (hA : Agree W κ κ') : ShC T R tb tr B uc Du κ' A2 C2 X2 qs W' := by
  have kr := h.kr
  have ku := h.ku
  exact ⟨hpi, h.rw.keep hE (fun b hb e => by omega) hA, h.res.ext hE (fun e => by omega), (hA tr h.res.lt).trans kr, own_map_ext h.us hE (fun e => by omega), (hA B h.us.lt).trans ku⟩
theorem ShC.push {k : Nat} (hk : k < 5) {u : Value} {a2 : Option Addr} {c2 n : Nat} (h : ShC T R tb tr B uc Du κ A C X qs W) (hP : Pure W W1) (hg : W1.grownBy W2 (Value.slice (A k) (X k).length (C k)).ownBlock) (hO : W2.ownsRow R (elT k) 1 (.slice a2 ((X k).length + 1) c2) ((X k).length + 1) (X k ++ [u]))
    (hf : ∀ g, a2 = some g → (Value.slice (A k) (X k).length (C k)).ownBlock = some g.block ∨ W1.heap.size ≤ g.block) (hn : n = (X k).length + 1) :
    ShC T R tb tr B uc Du (paint W κ (k + 1)) (setAt A k a2) (setAt C k c2) (setAt X k (X k ++ [u])) qs (W2.setCell ⟨tb, k, none⟩ (.slice a2 n c2)) ∧ Ext (fun b => κ b = k + 1 ∨ κ b = 9) W (W2.setCell ⟨tb, k, none⟩ (.slice a2 n c2)) := by
  obtain ⟨h1, h2⟩ := h.pi.push hk hP hg hO hf hn
  exact ⟨h.stored hk h1 h2 (paint_agree _ _ _), h2⟩
end
end Go.Proofs.Ytnpiemcfbnpfdaa
