import Derived.Test.YtipmbcalnnomjaaGreatRef24Vw
import Derived.Deep.DeepCutAuto
import Derived.Test.YtipmbcalnnomjaaGreatSqVw
set_option linter.unusedVariables false
set_option linter.unusedSimpArgs false
set_option maxRecDepth 100000
namespace Go.Proofs.YtipmbcalnnomjaaGreat
open Go.RowKit Go.Maps
theorem sizeSP : (Tryz.prog.info? 36).map (·.size) = some 5 := by kernel_rfl
def PAt (p : PartsP) (v0 v1 v2 v3 v4 : Value) (W : World) : Prop := ∃ t f s h a c rs, PartsAt p t f s h a c rs W ∧ v0 = t.v ∧ v1 = f.v ∧ v2 = .slice a rs.length c ∧ v3 = s.v ∧ v4 = h.v
theorem PAt.pure {p : PartsP} {v0 v1 v2 v3 v4 : Value} {W W' : World} (h : PAt p v0 v1 v2 v3 v4 W) (hP : Pure W W') : PAt p v0 v1 v2 v3 v4 W' := by
 obtain ⟨t, f, s, h, a, c, rs, H, e⟩ := h
 exact ⟨t, f, s, h, a, c, rs, H.pure hP, e⟩
def PartsTo2 (p : PartsP) (w : World) (e : Ending) (w' : World) : Prop :=
 ∃ (a0 a1 a2 a3 a4 : Option Addr) (n0 n1 n2 n3 n4 c0 c1 c2 c3 c4 : Nat), e = .returned (.agg #[.slice a0 n0 c0, .slice a1 n1 c1, .slice a2 n2 c2, .slice a3 n3 c3, .slice a4 n4 c4]) ∧
   PAt p (.slice a0 n0 c0) (.slice a1 n1 c1) (.slice a2 n2 c2) (.slice a3 n3 c3) (.slice a4 n4 c4) w' ∧ Pure w w'
theorem PartsTo.two {p : PartsP} {w w' : World} {e : Ending} (h : PartsTo p w e w') : PartsTo2 p w e w' := by
 obtain ⟨t, f, s, h, a, c, rs, rfl, H, hP⟩ := h
 exact ⟨t.a, f.a, a, s.a, h.a, t.l.length, f.l.length, rs.length, s.l.length, h.l.length, t.c, f.c, c, s.c, h.c, rfl, ⟨t, f, s, h, a, c, rs, H, rfl, rfl, rfl, rfl, rfl⟩, hP⟩
theorem infoR : (Tryz.prog.info? 25).map (fun i => (i.zero, i.size, i.bytes)) = some (some (.slice none 0 0), 1, 24) := by kernel_rfl
structure TakI (rows : List (List Int)) (p j M cnt : Nat) (D : DataW Unit) (W : World) : Prop where
 own : W.ownsMap Tryz.prog 3 (plainElem Tryz.prog 3) M cnt D
 is : IsMap D
 few : cnt ≤ ((rows.take p).flatten).length + j
 yes : ∀ x, takenP rows p j x → D.atKey (.int .i64 x) (.lit (.int .i64 0)) = .lit (.int .i64 1)
 no : ∀ x, ¬ takenP rows p j x → D.atKey (.int .i64 x) (.lit (.int .i64 0)) = .lit (.int .i64 0)
section
variable {rows : List (List Int)} {p j M cnt : Nat} {D : DataW Unit} {W W' : World}
theorem TakI.keep {S : Nat → Prop} (h : TakI rows p j M cnt D W) (hE : Ext S W W') (hS : ¬ S M) : TakI rows p j M cnt D W' := ⟨own_map_ext h.own hE hS, h.is, h.few, h.yes, h.no⟩
theorem TakI.skip (h : TakI rows p j M cnt D W) (hp : p < rows.length) (hj : j < rows[p].length) {x : Int} (hx : rows[p][j] = x) (ht : takenP rows p j x) : TakI rows p (j + 1) M cnt D W := by
 have e : ∀ y, takenP rows p (j + 1) y ↔ takenP rows p j y := fun y => by
  rw [takenP_step rows p j hp hj, hx]
  exact ⟨fun h => h.elim id (fun e => e ▸ ht), Or.inl⟩
 exact ⟨h.own, h.is, by have := h.few; omega, fun y hy => h.yes y ((e y).1 hy), fun y hy => h.no y (fun h => hy ((e y).2 h))⟩
theorem TakI.put (h : TakI rows p j M cnt D W) (hp : p < rows.length) (hj : j < rows[p].length) {x : Int} (hx : rows[p][j] = x)
 (hO : W'.ownsMap Tryz.prog 3 (plainElem Tryz.prog 3) M (cnt + 1) (D.put (.int .i64 x) (.lit (.int .i64 1)))) : TakI rows p (j + 1) M (cnt + 1) (D.put (.int .i64 x) (.lit (.int .i64 1))) W' := by
 refine ⟨hO, h.is.put _ _, by have := h.few; omega, fun y hy => ?_, fun y hy => ?_⟩
 ·by_cases e : y = x
  ·subst e
   exact atKey_put_same h.is (k := .int .i64 y) trivial _ _
  ·rw [atKey_put_other (fun e' => e (by cases e'; rfl))]
   refine h.yes y ?_
   rw [takenP_step rows p j hp hj, hx] at hy
   exact hy.resolve_right e
 ·rw [takenP_step rows p j hp hj, hx] at hy
  rw [atKey_put_other (fun e' => hy (Or.inr (by cases e'; rfl)))]
  exact h.no y (fun h => hy (Or.inl h))
theorem TakI.next (hp : p < rows.length) (h : TakI rows p rows[p].length M cnt D W) : TakI rows (p + 1) 0 M cnt D W := by
 refine ⟨h.own, h.is, ?_, fun y hy => h.yes y ((takenP_row rows p hp y).1 hy), fun y hy => h.no y (fun h => hy ((takenP_row rows p hp y).2 h))⟩
 have h1 := h.few
 rw [take_flat rows p hp, List.flatten_append, List.length_append]
 simpa using h1
theorem TakI.room (h : TakI rows p j M cnt D W) (hp : p < rows.length) (hj : j < rows[p].length) (ht : rows.flatten.length ≤ 1000000000) : cnt < maxLen := by
 have h1 := h.few
 have h2 : (rows.take (p + 1)).flatten.length ≤ rows.flatten.length := by
  have h3 : rows.flatten = ((rows.take (p + 1)) ++ (rows.drop (p + 1))).flatten := by rw [List.take_append_drop]
  rw [h3, List.flatten_append, List.length_append]
  exact Nat.le_add_right _ _
 rw [take_flat _ p hp, List.flatten_append, List.length_append] at h2
 simp only [List.flatten_cons, List.flatten_nil, List.append_nil] at h2
 unfold maxLen
 omega
end
theorem onP_len_flat (rows : List (List Int)) (p j : Nat) (hp : p < rows.length) (hj : j ≤ rows[p].length) : (shJ rows p j).length ≤ rows.flatten.length ∧ (ownJ rows p j).length ≤ j := by
 have h2 : (rows.take (p + 1)).flatten.length ≤ rows.flatten.length := by
  have h3 : rows.flatten = ((rows.take (p + 1)) ++ (rows.drop (p + 1))).flatten := by rw [List.take_append_drop]
  rw [h3, List.flatten_append, List.length_append]
  exact Nat.le_add_right _ _
 rw [take_flat _ p hp, List.flatten_append, List.length_append] at h2
 simp only [List.flatten_cons, List.flatten_nil, List.append_nil] at h2
 constructor
 ·unfold shJ shP
  rw [getD_at rows p hp, ← onP_two]
  refine Nat.le_trans (onP_len _ _) ?_
  rw [List.length_append]
  have h4 := List.length_filter_le (condS rows) (((rows.take p).drop 1).flatten)
  have h5 := List.length_filter_le (condS rows) (rows[p].take j)
  have h6 : ((rows.take p).drop 1).flatten.length ≤ (rows.take p).flatten.length := by
   have h3 : (rows.take p).flatten = ((rows.take p).take 1 ++ (rows.take p).drop 1).flatten := by rw [List.take_append_drop]
   rw [h3, List.flatten_append, List.length_append]
   exact Nat.le_add_left _ _
  rw [List.length_take] at h5
  simp only [List.length_nil]
  omega
 ·unfold ownJ
  refine Nat.le_trans (List.length_filter_le _ _) (Nat.le_trans (onP_len _ _) ?_)
  rw [List.length_take]
  simp only [List.length_nil]
  omega
structure ShC (T R tb tr B uc : Nat) (Du : DataW Unit) (κ : Nat → Nat) (A : Nat → Option Addr) (C : Nat → Nat) (X : Nat → List Value) (qs : List CRow) (W : World) : Prop where
 pi : PI T R tb κ A C X W
 rw : RwC κ R W qs
 res : BlockIs W tr [.slice none 0 0, .slice none 0 0, .slice none 0 0, .slice none 0 0, .slice none 0 0] T
 kr : κ tr = 10
 us : W.ownsMap Tryz.prog 3 useR B uc Du
 ku : κ B = 7
section
variable {T R tb tr B uc : Nat} {Du : DataW Unit} {κ κ' : Nat → Nat} {A : Nat → Option Addr} {C : Nat → Nat} {X : Nat → List Value} {qs : List CRow} {W W' W1 W2 : World} {S : Nat → Prop}
theorem ShC.keep (h : ShC T R tb tr B uc Du κ A C X qs W) (hE : Ext S W W') (hS : ∀ b, S b → κ b = 8 ∨ 20 + qs.length ≤ κ b) (hA : Agree W κ κ') : ShC T R tb tr B uc Du κ' A C X qs W' := by
 have kr := h.kr
 have ku := h.ku
 refine ⟨h.pi.keep hE (fun b hb e => ?_) hA, h.rw.keep hE (fun b hb e => ?_) hA, h.res.ext hE (fun e => ?_), (hA tr h.res.lt).trans kr, own_map_ext h.us hE (fun e => ?_), (hA B h.us.lt).trans ku⟩
 ·have := hS b e; omega
 ·have := hS b e; omega
 ·have := hS _ e; omega
 ·have := hS _ e; omega
theorem ShC.pure (h : ShC T R tb tr B uc Du κ A C X qs W) (hP : Pure W W') : ShC T R tb tr B uc Du κ A C X qs W' := h.keep hP (fun _ e => e.elim) (Agree.refl _ _)
theorem ShC.stored (h : ShC T R tb tr B uc Du κ A C X qs W) {k : Nat} (hk : k < 5) {A2 : Nat → Option Addr} {C2 : Nat → Nat} {X2 : Nat → List Value} (hpi : PI T R tb κ' A2 C2 X2 W') (hE : Ext (fun b => κ b = k + 1 ∨ κ b = 9) W W') (hA : Agree W κ κ') : ShC T R tb tr B uc Du κ' A2 C2 X2 qs W' := by
 have kr := h.kr
 have ku := h.ku
 exact ⟨hpi, h.rw.keep hE (fun b hb e => by omega) hA, h.res.ext hE (fun e => by omega), (hA tr h.res.lt).trans kr, own_map_ext h.us hE (fun e => by omega), (hA B h.us.lt).trans ku⟩
theorem ShC.push {k : Nat} (hk : k < 5) {u : Value} {a2 : Option Addr} {c2 n : Nat} (h : ShC T R tb tr B uc Du κ A C X qs W) (hP : Pure W W1) (hg : W1.grownBy W2 (Value.slice (A k) (X k).length (C k)).ownBlock) (hO : W2.ownsRow R (elT k) 1 (.slice a2 ((X k).length + 1) c2) ((X k).length + 1) (X k ++ [u]))
 (hf : ∀ g, a2 = some g → (Value.slice (A k) (X k).length (C k)).ownBlock = some g.block ∨ W1.heap.size ≤ g.block) (hn : n = (X k).length + 1) :
 ShC T R tb tr B uc Du (paint W κ (k + 1)) (setAt A k a2) (setAt C k c2) (setAt X k (X k ++ [u])) qs (W2.setCell ⟨tb, k, none⟩ (.slice a2 n c2)) ∧ Ext (fun b => κ b = k + 1 ∨ κ b = 9) W (W2.setCell ⟨tb, k, none⟩ (.slice a2 n c2)) := by
 obtain ⟨h1, h2⟩ := h.pi.push hk hP hg hO hf hn
 exact ⟨h.stored hk h1 h2 (paint_agree _ _ _), h2⟩
end
theorem minrun {P : Program} {x y z : Int} (h : z = min x y) (ts : Array TypeId) (t : TypeId) (w : World) : (Builtin.min_ ts t #[.int .i64 x, .int .i64 y]).run P w = .ok (.int .i64 z) w := by
 subst h
 have e : min x y = if y < x then y else x := by split <;> omega
 rw [e]
 exact run_min_int2 w ts t .i64 .i64 x y
theorem TakI.run {rows : List (List Int)} {p j M cnt : Nat} {D : DataW Unit} {W : World} (h : TakI rows p j M cnt D W) {x : Int} (hw : (Lit.int .i64 x).wf = true) :
 (takenP rows p j x → (Instr.lookup 122 (.map (some M)) (.int .i64 x) false).run Tryz.prog W = .ok (.int .i64 1) W) ∧ (¬ takenP rows p j x → (Instr.lookup 122 (.map (some M)) (.int .i64 x) false).run Tryz.prog W = .ok (.int .i64 0) W) := by
 obtain ⟨c, hrun, hat, _⟩ := h.own.lookup_int lawInt Tryz.underlying122 Tryz.underlying3 (zeroI W) (keyOf_int_mk Tryz.underlying3 hw)
 refine ⟨fun ht => ?_, fun ht => ?_⟩
 ·rw [h.yes x ht] at hat
  cases hat
  exact hrun
 ·rw [h.no x ht] at hat
  cases hat
  exact hrun
theorem use_run {B uc : Nat} {D : DataW Unit} {W : World} (h : W.ownsMap Tryz.prog 3 useR B uc D) {x u l : Int} (hw : (Lit.int .i64 x).wf = true) (hat : D.atKey (.int .i64 x) (useD 0 0) = useD u l) :
 (Instr.lookup 171 (.map (some B)) (.int .i64 x) false).run Tryz.prog W = .ok (.agg #[.int .i64 u, .int .i64 l]) W := by
 obtain ⟨v, ps, hrun, hv⟩ := h.lookup lawInt Tryz.underlying171 (zeroUse W) (useR_mk 0 0) (keyOf_int_mk Tryz.underlying3 hw)
 rw [hat] at hv
 rw [useR_at hv] at hrun
 exact hrun
theorem field_use (u l : Int) (w : World) : (Instr.field 174 (.agg #[.int .i64 u, .int .i64 l]) 0).run Tryz.prog w = .ok (.int .i64 u) w := by kernel_rfl
def kap (r s4 s2 : Nat) : Nat → Nat := fun b => if b < r then 0 else if b < r + 2 then 10 else if b < s2 then 7 else if b < s4 then 1 else if b = s4 then 9 else 8
def X0 (l : List Value) : Nat → List Value := fun i => if i = 0 then l else []
theorem ShC.start {T R B uc s2 s4 : Nat} {Du : DataW Unit} {W6 : World} {a1 : Option Addr} {c1 n1 : Nat} {l : List Value} (hn : n1 = l.length)
 (h1 : W6.ownsRow R 3 1 (.slice a1 n1 c1) n1 l) (h1b : ∀ x, a1 = some x → s2 ≤ x.block ∧ x.block < s4)
 (h2 : BlockIs W6 s4 [.slice a1 n1 c1, .slice none 0 0, .slice none 0 0, .slice none 0 0, .slice none 0 0] T) (h3 : BlockIs W6 (R + 1) [.slice none 0 0, .slice none 0 0, .slice none 0 0, .slice none 0 0, .slice none 0 0] T)
 (h4 : W6.ownsMap Tryz.prog 3 useR B uc Du) (hB : R + 2 ≤ B ∧ B < s2) (hs : s2 ≤ s4 ∧ R ≤ W6.heap.size) :
 ShC T R s4 (R + 1) B uc Du (kap R s4 s2) (fun i => if i = 0 then a1 else none) (fun i => if i = 0 then c1 else 0) (X0 l) [] W6 := by
 subst hn
 refine ⟨⟨h2, ?_, fun k hk => ?_, fun b hb => if_pos hb, hs.2⟩, fun i q hq => (by cases hq), h3, ?_, h4, ?_⟩
 ·unfold kap
  rw [if_neg (by omega), if_neg (by omega), if_neg (by omega), if_neg (by omega), if_pos rfl]
 ·by_cases e : k = 0
  ·subst e
   refine ⟨h1, fun x hx => ?_⟩
   have := h1b x hx
   unfold kap
   rw [if_neg (by omega), if_neg (by omega), if_neg (by omega), if_pos (by omega)]
  ·simp only [X0, if_neg e]
   exact OwnC.nil _ _ _ _ _
 ·unfold kap
  rw [if_neg (by omega), if_pos (by omega)]
 ·unfold kap
  rw [if_neg (by omega), if_neg (by omega), if_pos (by omega)]
structure ShX (tree : List Int) (rows : List (List Int)) (p j : Nat) (X : Nat → List Value) (qs : List CRow) : Prop where
 x0 : X 0 = intsV tree
 x1 : X 1 = intsV ((rows.take p).headD [])
 x2 : X 2 = qs.map CRow.v
 ql : lsR qs = ownsP rows p
 x3 : X 3 = intsV (shJ rows p j)
 x4 : X 4 = []
theorem key_wf {y : Int} (h1 : 1 ≤ y) (h2 : y ≤ 4097) : (Lit.int .i64 y).wf = true := by
 unfold Lit.wf
 simp [IntKind.min, IntKind.max, IntKind.bits, IntKind.signed]
 omega
theorem headD_take (rows : List (List Int)) (p : Nat) (h : 0 < p) : (rows.take p).headD [] = rows.headD [] := by
 cases rows with
 | nil => simp
 | cons r rows =>
   cases p with
   | zero => omega
   | succ p => rfl
structure ShY (tree : List Int) (rows : List (List Int)) (i : Nat) (X : Nat → List Value) (qs : List CRow) : Prop where
 x0 : X 0 = intsV tree
 x1 : X 1 = intsV (rows.headD [])
 x2 : X 2 = qs.map CRow.v
 ql : lsR qs = ownsP rows rows.length
 x3 : X 3 = intsV (shP rows rows.length)
 x4 : X 4 = intsV (othP rows tree i)
set_option maxHeartbeats 8000000 in
theorem shareof_any (n root : Int) (na pa : Option Addr) (nc pn pc : Nat) (nodes : List Int) (rs : List CRow) (a : Option Addr) (c : Nat) (w : World)
 (hN : CRow.ok w ⟨na, nc, nodes⟩) (hnl : nodes.length ≤ 1000000) (hR : Rws w a rs) (hok : ∀ q ∈ rs, q.ok w) (hwf : ∀ q ∈ rs, ∀ x ∈ q.l, (Lit.int .i64 x).wf = true) (hn : rs.length ≤ 1000000) (hm : ∀ q ∈ rs, q.l.length ≤ 1000000) (ht : (lsR rs).flatten.length ≤ 100000000) :
 Calls Tryz.prog 72 #[.int .i64 n, .agg #[.slice na nodes.length nc, .slice pa pn pc], .int .i64 root, .slice a rs.length c] w (PartsTo (partsP n nodes root (lsR rs)) w) := by
 have hmm := @run_makeMap Tryz.prog
 obtain ⟨w1, hw1⟩ : ∃ z, z = (w.alloc (.cells #[.slice na nodes.length nc, .slice pa pn pc] 85)).alloc (.cells #[.slice none 0 0, .slice none 0 0, .slice none 0 0, .slice none 0 0, .slice none 0 0] 36) := ⟨_, rfl⟩
 have hP1 : Pure w w1 := by rw [hw1]; exact (ext_alloc w _).pure (ext_alloc _ _)
 have hBt : BlockIs w1 w.heap.size [.slice na nodes.length nc, .slice pa pn pc] 85 := by rw [hw1]; exact (BlockIs.new w _ _).alloc _
 have hBr : BlockIs w1 (w.heap.size + 1) [.slice none 0 0, .slice none 0 0, .slice none 0 0, .slice none 0 0, .slice none 0 0] 36 := by
  have := BlockIs.new (w.alloc (.cells #[.slice na nodes.length nc, .slice pa pn pc] 85)) [.slice none 0 0, .slice none 0 0, .slice none 0 0, .slice none 0 0, .slice none 0 0] 36
  rw [World.size_alloc] at this
  rw [hw1]; exact this
 have hs1 : w1.heap.size = w.heap.size + 2 := by rw [hw1, World.size_alloc, World.size_alloc]
 have HU := qh (uses_any rs a c w1 (hR.pure hP1) hwf hn hm (by omega))
 obtain ⟨R, hRw⟩ : ∃ z, z = w.heap.size := ⟨_, rfl⟩
 rw [← hRw] at hBt hBr hs1
 have HRw := qh hRw
 have HW1 := qh hw1.symm
 have HP1 := qh hP1
 have HBt := qh hBt
 have HBr := qh hBr
 have HS1 := qh hs1
 have HR := qh hR
 have HOk := qh hok
 have HWf := qh hwf
 have HM := qh hm
 have HT := qh ht
 have HNd := qh hN
 obtain ⟨nr, hNr⟩ : ∃ z, z = rs.length := ⟨_, rfl⟩
 have HNr := qh hNr
 rw [← hNr] at HU hn ⊢
 obtain ⟨rows, hrows⟩ : ∃ z, z = lsR rs := ⟨_, rfl⟩
 have HRows := qh hrows
 rw [← hrows] at HU HT ⊢
 obtain ⟨nn, hnn⟩ : ∃ z, z = nodes.length := ⟨_, rfl⟩
 have HNn := qh hnn
 rw [← hnn] at HBt HW1 hnl ⊢
 clear hw1 hP1 hBt hBr hs1 hRw hR hok hwf hm ht hN hNr hrows hnn
 go_enter Tryz.func72, Tryz.ntmps72
 go_upto_region 1 with (fail)
 rw [HW1.out, ← HRw.out]
 go_wp2_with fail
 refine HU.out.mono ?_
 rintro e W2 ⟨B, uc, Du, L, rfl, hO2, hBs, hlk, hP2⟩
 have HBt2 := qh (HBt.out.ext hP2 id)
 have HBr2 := qh (HBr.out.ext hP2 id)
 have HP02 := qh (HP1.out.pure hP2)
 have HLk := qh hlk
 have HO2 := qh hO2
 have HBs : Hid (R + 2 ≤ B ∧ B < W2.heap.size) := qh ⟨by have := HS1.out; omega, hO2.lt⟩
 have hRl : R < W2.heap.size := HBt2.out.lt
 have b0 : W2.cell? ⟨R, 0, none⟩ = some (.slice na nn nc) := HBt2.out.cell 0
 obtain ⟨W3, hW3⟩ : ∃ z, z = W2.alloc (.cells #[.int .i64 root] 3) := ⟨_, rfl⟩
 have HP03 : Hid (Pure w W3) := qh (by rw [hW3]; exact HP02.out.pure (ext_alloc _ _))
 have HP23 : Hid (Pure W2 W3) := qh (by rw [hW3]; exact ext_alloc _ _)
 have HO3 : Hid (W3.ownsRow W2.heap.size 3 1 (.slice (some ⟨W2.heap.size, 0, none⟩) 1 1) 1 [.int .i64 root]) := qh (by rw [hW3]; exact own_new (cs := [.int .i64 root]) rfl (by decide) _ (Nat.le_refl _))
 have HW3 : Hid (W2.alloc (.cells #[.int .i64 root] 3) = W3) := qh hW3.symm
 have HNr3 : Hid (RowOf W3 na (intsV nodes)) := qh (HNd.out.1.ext HP03.out (fun _ _ => id))
 have HNil : Hid (na = none → nn = 0 ∧ nc = 0) := qh (fun h => by
  have h1 : nc = 0 := HNd.out.2.1 h
  have h2 : nodes.length ≤ nc := HNd.out.2.2
  have h3 := HNn.out
  exact ⟨by omega, h1⟩)
 have HNl : Hid ((intsV nodes).length = nn * 1) := qh (by rw [intsV_len, ← HNn.out]; omega)
 have HN1 : Hid (∀ u ∈ intsV nodes, u.oneCell' = true) := qh (fun u hu => by
  obtain ⟨x, _, rfl⟩ := List.mem_map.1 hu
  rfl)
 have HRs3 : Hid (W2.heap.size ≤ W3.heap.size) := qh HP23.out.size
 clear hO2 hBs hlk hP2 hW3 HU HBt HBr HBt2
 go_upto_region 4 with (at_builtin; rw [HW3.out]; refine wpList_append_fresh rfl (.tmp 23) (.tmp 25) 25 rfl W2.heap.size 3 (.int .i64 0) 1 8 Tryz.underlying25 infoI rfl (by decide) (.slice (some ⟨W2.heap.size, 0, none⟩) 1 1) 1 [.int .i64 root] rfl HO3.out na nn nc (intsV nodes) rfl HNil.out HNl.out HNr3.out HN1.out (1 + nn) rfl (intsV (root :: nodes)) rfl (by omega) (by unfold maxLen; omega) HRs3.out ?_; intro a1 c1 W4 hO4 hg4 hf4)
 have hE4 := ext_of_grown hg4
 have hne4 : ∀ i, i < W2.heap.size → ¬ ((Value.slice (some ⟨W2.heap.size, 0, none⟩) 1 1).ownBlock = some i) := fun i hi e => by have e2 : W2.heap.size = i := Option.some.inj e; omega
 have hs02 : w.heap.size ≤ W2.heap.size := HP02.out.size
 have HP04 : Hid (Pure w W4) := qh (HP03.out.trans hE4 (fun i hi e => hne4 i (by omega) e))
 have HBr4 := qh ((HBr2.out.ext HP23.out id).ext hE4 (hne4 _ (by have := HBr2.out.lt; omega)))
 have HO24 := qh (own_map_ext (own_map_ext HO2.out HP23.out id) hE4 (hne4 _ HBs.out.2))
 have hs24 : W2.heap.size ≤ W4.heap.size := Nat.le_trans HP23.out.size hE4.size
 obtain ⟨W6, hW6⟩ : ∃ z, z = (W4.alloc (.cells #[.slice a1 (1 + nn) c1, .slice none 0 0, .slice none 0 0, .slice none 0 0, .slice none 0 0] 36)).alloc (.map #[] 0) := ⟨_, rfl⟩
 have hP46 : Pure W4 W6 := by rw [hW6]; exact (ext_alloc W4 _).pure (ext_alloc _ _)
 have hB6 : BlockIs W6 W4.heap.size [.slice a1 (1 + nn) c1, .slice none 0 0, .slice none 0 0, .slice none 0 0, .slice none 0 0] 36 := by rw [hW6]; exact (BlockIs.new W4 _ _).alloc _
 have hM6 : W6.ownsMap Tryz.prog 3 (plainElem (H := Unit) Tryz.prog 3) (W4.heap.size + 1) 0 (.map []) := by
  have h := World.ownsMap_made (H := Unit) (W4.alloc (.cells #[.slice a1 (1 + nn) c1, .slice none 0 0, .slice none 0 0, .slice none 0 0, .slice none 0 0] 36)) Tryz.prog 3 (plainElem Tryz.prog 3)
  rw [World.size_alloc] at h
  rw [hW6]; exact h
 have ha1 : ∀ x, a1 = some x → W2.heap.size ≤ x.block ∧ x.block < W4.heap.size := fun x hx => by
  refine ⟨?_, (hO4.lt x.block (by rw [hx]; rfl)).2⟩
  rcases hf4 x hx with h | h
  ·have h2 : W2.heap.size = x.block := Option.some.inj h
   omega
  ·exact Nat.le_trans HP23.out.size h
 have hlen : 1 + nn = (intsV (root :: nodes)).length := by rw [intsV_len, List.length_cons, ← HNn.out]; omega
 have HSh : Hid (ShC 36 R W4.heap.size (R + 1) B uc Du (kap R W4.heap.size W2.heap.size) (fun i => if i = 0 then a1 else none) (fun i => if i = 0 then c1 else 0) (X0 (intsV (root :: nodes))) [] W6) :=
  qh (ShC.start hlen (own_ext (own_base hO4 (by have := HRw.out; omega)) hP46 (fun _ _ => id)) ha1 hB6 (HBr4.out.ext hP46 id) (own_map_ext HO24.out hP46 id) HBs.out ⟨hs24, by have := hP46.size; have := HRw.out; omega⟩)
 have HTk : Hid (TakI rows 0 0 (W4.heap.size + 1) 0 (.map []) W6 ∧ kap R W4.heap.size W2.heap.size (W4.heap.size + 1) = 8) := qh ⟨⟨hM6, isMap_empty, Nat.zero_le _, fun x hx => by
  rcases hx with h | h
  ·simp at h
  ·simp at h, fun x _ => rfl⟩, by
  have := HRw.out
  have := HBs.out
  unfold kap
  rw [if_neg (by omega), if_neg (by omega), if_neg (by omega), if_neg (by omega), if_neg (by omega)]⟩
 have HX : Hid (ShX (root :: nodes) rows 0 0 (X0 (intsV (root :: nodes))) []) := qh ⟨rfl, rfl, rfl, rfl, rfl, rfl⟩
 have HP6 : Hid (Pure w W6) := qh (HP04.out.pure hP46)
 rw [← hW6]
 obtain ⟨tb, htb⟩ : ∃ z, z = W4.heap.size := ⟨_, rfl⟩
 rw [← htb] at HSh HTk ⊢
 generalize kap R tb W2.heap.size = κ0 at HSh HTk
 generalize W2.heap.size = s2 at *
 clear hE4 hne4 hs02 HP04 HBr4 HO24 hs24 hW6 hP46 hB6 hM6 ha1 hlen htb hO4 hg4 hf4 HO3 HW3 HP03 HP23 HNr3 HNil HNl HN1 HRs3 HBr2 HP02 HO2 b0 hRl hmm
 go_wp2_with fail
 go_loopw [31] (fun i wr => ∃ (p : Nat) (κ : Nat → Nat) (A : Nat → Option Addr) (C : Nat → Nat) (X : Nat → List Value) (qs : List CRow) (cnt : Nat) (D : DataW Unit), p ≤ nr ∧ i = .int .i64 p ∧ Hid (ShC 36 R tb (R + 1) B uc Du κ A C X qs wr) ∧ Hid (TakI rows p 0 (tb + 1) cnt D wr ∧ κ (tb + 1) = 8) ∧ Hid (ShX (root :: nodes) rows p 0 X qs) ∧ Hid (Pure w wr)) (fun i _ => nr - (intOf i).toNat)
 case atStart => exact ⟨0, _, _, _, _, _, _, _, Nat.zero_le _, rfl, HSh, HTk, HX, HP6⟩
 case round =>
  clear HSh HTk HX HP6
  obtain ⟨p, κ, A, C, X, qs, cnt, D, hp, rfl, HSh, HTk, HX, HP⟩ := hrel
  by_cases hlt : p < nr
  ·have hki : (p : Int) < (nr : Int) := by omega
   have hpi0 : (0 : Int) ≤ (p : Int) := by omega
   have hpr : p < rs.length := by rw [← HNr.out]; exact hlt
   have HPl : Hid (p < rows.length) := qh (by rw [HRows.out, lsR_len]; exact hpr)
   obtain ⟨b, o, rfl, hc⟩ := (HR.out.pure HP.out).get hpr
   obtain ⟨q, hq⟩ : ∃ z, z = rs[p] := ⟨_, rfl⟩
   have hqm : q ∈ rs := hq ▸ List.getElem_mem hpr
   have HLg : Hid (∀ h : p < rows.length, rows[p] = q.l) := qh (fun h => by
    have e := HRows.out
    subst e
    rw [lsR_get hpr, hq])
   have HRow : Hid (RowOf w q.a (intsV q.l)) := qh (HR.out.has q hqm)
   have HWq : Hid (∀ x ∈ q.l, (Lit.int .i64 x).wf = true) := qh (HWf.out q hqm)
   have HCl : Hid (∀ W, Pure w W → Calls Tryz.prog 27 #[.slice q.a q.l.length q.c] W (OwnI q.l W)) := qh (fun W hP => cloneI_any q.a q.c q.l W (((HOk.out q hqm).pure hP).1) (HOk.out q hqm).2.1 (HM.out q hqm))
   rw [← hq] at hc
   obtain ⟨m, hm⟩ : ∃ z, z = q.l.length := ⟨_, rfl⟩
   have hmle : m ≤ 1000000 := by rw [hm]; exact HM.out q hqm
   rw [← hm] at hc HCl
   have HMm := qh hm
   have HJl : Hid (∀ (h : p < rows.length) (j : Nat), j < m → j < (rows[p]).length) := qh (fun h j hj => by rw [HLg.out h, ← hm]; exact hj)
   generalize q.a = qa at *
   generalize q.c = qc at *
   clear hm hq hqm hpr
   go_upto_region 7 with (fail)
   by_cases hp0 : p = 0
   ·subst hp0
    go_wp2_with fail
    refine (HCl.out wr HP.out).mono ?_
    rintro e W7 ⟨a7, c7, he, hO7, hP7⟩
    rw [← HMm.out] at he hO7
    subst he
    have k1 : W7.cell? ⟨tb, 1, none⟩ = some (.slice (A 1) (X 1).length (C 1)) := ((HSh.out.pure hP7).pi.cell 1 (by decide)).1
    have f1 : W7.frozen? ⟨tb, 1, none⟩ = false := ((HSh.out.pure hP7).pi.cell 1 (by decide)).2
    have hRwr : R ≤ wr.heap.size := HSh.out.pi.rs
    have hOC : OwnC (paint wr κ 2) R 2 3 W7 a7 c7 (intsV q.l) := ⟨by rw [intsV_len, ← HMm.out]; exact own_base hO7 hRwr, fun x hx => paint_new (hO7.lt x.block (by rw [hx]; rfl)).1⟩
    have hst := HSh.out.pi.store (k := 1) (by decide) (hP7.mono (fun _ _ e => e.elim)) (paint_agree wr κ 2) hOC (n := m) (by rw [intsV_len]; exact HMm.out)
    have HSh2 := qh (HSh.out.stored (k := 1) (by decide) hst.1 hst.2 (paint_agree wr κ 2))
    have HP2 : Hid (Pure w (W7.setCell ⟨tb, 1, none⟩ (.slice a7 m c7))) := qh (pure_old HP.out hst.2 (fun b hb => HSh.out.pi.old b (by rw [HRw.out]; exact hb)) (fun b e => by omega))
    have HTk2 : Hid (TakI rows 0 0 (tb + 1) cnt D (W7.setCell ⟨tb, 1, none⟩ (.slice a7 m c7)) ∧ paint wr κ 2 (tb + 1) = 8) := qh ⟨HTk.out.1.keep hst.2 (fun e => by have := HTk.out.2; omega), (paint_agree wr κ 2 _ HTk.out.1.own.lt).trans HTk.out.2⟩
    have HX2 : Hid (ShX (root :: nodes) rows 1 0 (setAt X 1 (intsV q.l)) qs) := qh (by
     have h := HX.out
     refine ⟨h.x0, ?_, h.x2, ?_, ?_, h.x4⟩
     ·show intsV q.l = _
      rw [← HLg.out HPl.out, take_flat rows 0 HPl.out]
      rfl
     ·rw [h.ql, ownsP_one]
      rfl
     ·have h3 := h.x3
      rw [shJ_zero] at h3 ⊢
      rw [shP_one]
      exact h3)
    have HK2 : Hid (∀ b, b < w.heap.size → paint wr κ 2 b = 0) := qh (fun b hb => HSh2.out.pi.old b (by rw [HRw.out]; exact hb))
    obtain ⟨W8, hW8⟩ : ∃ z, z = W7.setCell ⟨tb, 1, none⟩ (.slice a7 m c7) := ⟨_, rfl⟩
    rw [← hW8] at HSh2 HTk2 HP2
    have HW8 := qh hW8.symm
    generalize paint wr κ 2 = κ2 at *
    generalize setAt A 1 a7 = A2 at *
    generalize setAt C 1 c7 = C2 at *
    generalize setAt X 1 (intsV q.l) = X2 at *
    clear hst hOC hO7 hP7 hW8 hRwr HSh HTk HX HP HCl
    go_wp2_with fail
    rw [HW8.out]
    obtain ⟨wo, rfl⟩ : ∃ wo : World, wo = wr := ⟨_, rfl⟩
    clear k1 f1 HW8
    go_loopw [43] (fun i wr => ∃ (j cnt : Nat) (D : DataW Unit), j ≤ m ∧ i = .int .i64 j ∧ Hid (ShC 36 R tb (R + 1) B uc Du κ2 A2 C2 X2 qs wr) ∧ Hid (TakI rows 0 j (tb + 1) cnt D wr ∧ κ2 (tb + 1) = 8) ∧ Hid (Pure w wr)) (fun i _ => m - (intOf i).toNat)
    case atStart => exact ⟨0, cnt, D, Nat.zero_le _, rfl, HSh2, HTk2, HP2⟩
    case round =>
     clear HSh2 HTk2 HP2
     obtain ⟨j, cnt, D, hj, rfl, HSh, HTk, HP⟩ := hrel
     by_cases hltj : j < m
     ·have hkj : (j : Int) < (m : Int) := by omega
      have hj0 : (0 : Int) ≤ (j : Int) := by omega
      have hjq : j < q.l.length := by rw [← HMm.out]; exact hltj
      obtain ⟨xb, xo, rfl, hxc⟩ := (HRow.out.ext HP.out (fun _ _ => id)) j _ (intsV_get hjq)
      obtain ⟨x, hx⟩ : ∃ z, z = q.l[j] := ⟨_, rfl⟩
      have HXe : Hid (∀ (h : 0 < rows.length) (h2 : j < (rows[0]).length), (rows[0])[j] = x) := qh (fun h h2 => by rw [hx]; simp only [HLg.out h])
      have HXw : Hid ((Lit.int .i64 x).wf = true) := qh (HWq.out x (by rw [hx]; exact List.getElem_mem hjq))
      rw [← hx] at hxc
      have HKm : Hid (cnt < maxLen) := qh (HTk.out.1.room HPl.out (HJl.out HPl.out j hltj) (by have := HT.out; omega))
      clear hx
      go_wp2_with (at_mapUpdate; refine wpList_mapUpdate_own _ rfl (.tmp 47) (.tmp 48) (.const (.int .i64 1)) 122 rfl 3 3 lawInt Tryz.underlying122 _ (tb + 1) cnt D rfl HTk.out.1.own HKm.out _ _ _ rfl rfl (keyOf_int_mk Tryz.underlying3 HXw.out) _ [] (plainElem_int Tryz.underlying3 (by decide)) ?_; intro W2 hO2 hg2)
      have hX2 := ext_of_grown hg2
      have h8 : ∀ b, some (tb + 1) = some b → κ2 b = 8 := fun b e => by cases e; exact HTk.out.2
      have HSh3 := qh (HSh.out.keep hX2 (fun b e => Or.inl (h8 b e)) (Agree.refl _ _))
      have HTk3 := qh (HTk.out.1.put HPl.out (HJl.out HPl.out j hltj) (HXe.out HPl.out (HJl.out HPl.out j hltj)) hO2)
      have HP3 := qh (pure_old HP.out hX2 HK2.out (fun b e => by have := h8 b e; omega))
      clear hO2 hg2 hX2 h8
      go_roundw
      case rel => exact ⟨j + 1, _, _, by omega, by go_num, HSh3, qh ⟨HTk3.out, HTk.out.2⟩, HP3⟩
      case measure => simp [intOf]; omega
     ·have hkj : ¬ (j : Int) < (m : Int) := by omega
      obtain rfl : j = m := by omega
      have HTk3 : Hid (TakI rows (0 + 1) 0 (tb + 1) cnt D wr) := qh (by
       refine TakI.next HPl.out ?_
       have h := HTk.out.1
       rw [HMm.out, ← HLg.out HPl.out] at h
       exact h)
      go_wp2_with fail
      go_roundw
      case rel => exact ⟨0 + 1, κ2, A2, C2, X2, qs, cnt, D, by omega, by go_num, HSh, qh ⟨HTk3.out, HTk.out.2⟩, HX2, HP⟩
      case measure => simp [intOf]; omega
   ·have hpb : ((p : Int) == 0) = false := beq_eq_false_iff_ne.2 (by omega)
    have hp1 : 0 < p := Nat.pos_of_ne_zero hp0
    clear hp0
    go_wp2_with fail
    obtain ⟨wo, rfl⟩ : ∃ wo : World, wo = wr := ⟨_, rfl⟩
    clear hc
    go_loopw [52, 16] (fun i s wr => ∃ (j : Nat) (κ : Nat → Nat) (A : Nat → Option Addr) (C : Nat → Nat) (X : Nat → List Value) (cnt : Nat) (D : DataW Unit) (a6 : Option Addr) (c6 m6 : Nat), j ≤ m ∧ i = .int .i64 j ∧ s = .slice a6 m6 c6 ∧ m6 ≤ j ∧ Hid (m6 = (ownJ rows p j).length) ∧ Hid (ShC 36 R tb (R + 1) B uc Du κ A C X qs wr) ∧ Hid (OwnC κ R (20 + qs.length) 3 wr a6 c6 (intsV (ownJ rows p j))) ∧ Hid (TakI rows p j (tb + 1) cnt D wr ∧ κ (tb + 1) = 8) ∧ Hid (ShX (root :: nodes) rows p j X qs) ∧ Hid (Pure w wr)) (fun i _ _ => m - (intOf i).toNat)
    case atStart => exact ⟨0, κ, A, C, X, cnt, D, none, 0, 0, Nat.zero_le _, rfl, rfl, Nat.zero_le _, qh (by rw [ownJ_zero]; rfl), HSh, qh (by rw [ownJ_zero]; exact OwnC.nil _ _ _ _ _), HTk, HX, HP⟩
    case round =>
     clear HSh HTk HX HP
     obtain ⟨j, κ, A, C, X, cnt, D, a6, c6, m6, hj, rfl, rfl, hm6, HM6, HSh, HOw, HTk, HX, HP⟩ := hrel
     have htbl : tb < wr.heap.size := HSh.out.pi.blk.lt
     by_cases hltj : j < m
     ·have hkj : (j : Int) < (m : Int) := by omega
      have hj0 : (0 : Int) ≤ (j : Int) := by omega
      have hjq : j < q.l.length := by rw [← HMm.out]; exact hltj
      obtain ⟨xb, xo, rfl, hxc⟩ := (HRow.out.ext HP.out (fun _ _ => id)) j _ (intsV_get hjq)
      obtain ⟨x, hx⟩ : ∃ z, z = q.l[j] := ⟨_, rfl⟩
      have HXe : Hid (∀ (h : p < rows.length) (h2 : j < (rows[p]).length), (rows[p])[j] = x) := qh (fun h h2 => by rw [hx]; simp only [HLg.out h])
      have HXw : Hid ((Lit.int .i64 x).wf = true) := qh (HWq.out x (by rw [hx]; exact List.getElem_mem hjq))
      rw [← hx] at hxc
      have hrun2 := use_run HSh.out.us HXw.out (HLk.out x)
      have HSj := qh (shJ_step rows p j hp1 HPl.out (HJl.out HPl.out j hltj) (HXe.out HPl.out (HJl.out HPl.out j hltj)))
      have HOj := qh (ownJ_step rows p j HPl.out (HJl.out HPl.out j hltj) (HXe.out HPl.out (HJl.out HPl.out j hltj)))
      have hlen3 := (onP_len_flat rows p j HPl.out (Nat.le_of_lt (HJl.out HPl.out j hltj))).1
      have hn3 : (X 3).length ≤ 100000000 := by rw [HX.out.x3, intsV_len]; have := HT.out; omega
      obtain ⟨u, hu⟩ : ∃ z, z = manyP rows x := ⟨_, rfl⟩
      rw [← hu] at hrun2 HSj HOj
      generalize L x = lx at hrun2
      have hfld := field_use u lx wr
      clear hx hu hlen3
      by_cases htk : takenP rows p j x
      ·have hrun1 := (HTk.out.1.run HXw.out).1 htk
       have HS1 := qh (HSj.out.1 htk)
       have HO1 := qh (HOj.out.1 htk)
       have HTk3 := qh (HTk.out.1.skip HPl.out (HJl.out HPl.out j hltj) (HXe.out HPl.out (HJl.out HPl.out j hltj)) htk)
       clear htk hrun2 hfld
       go_wp2_with fail
       go_roundw
       case rel => exact ⟨j + 1, κ, A, C, X, cnt, D, a6, c6, m6, by omega, by go_num, rfl, by omega, qh (by rw [HO1.out]; exact HM6.out), HSh, qh (by rw [HO1.out]; exact HOw.out), qh ⟨HTk3.out, HTk.out.2⟩, qh ⟨HX.out.x0, HX.out.x1, HX.out.x2, HX.out.ql, by rw [HS1.out]; exact HX.out.x3, HX.out.x4⟩, HP⟩
       case measure => simp [intOf]; omega
      ·have hrun1 := (HTk.out.1.run HXw.out).2 htk
       obtain ⟨W1, hW1⟩ : ∃ z, z = wr.alloc (.cells #[.int .i64 x] 3) := ⟨_, rfl⟩
       have HPa : Hid (Pure wr W1) := qh (by rw [hW1]; exact ext_alloc _ _)
       have HRw1 : Hid (RowOf W1 (some ⟨wr.heap.size, 0, none⟩) [.int .i64 x]) := qh (by rw [hW1]; exact row_at _ rfl rfl)
       have HW1 : Hid (wr.alloc (.cells #[.int .i64 x] 3) = W1) := qh hW1.symm
       have HRs : Hid (R ≤ W1.heap.size) := qh (Nat.le_trans HSh.out.pi.rs HPa.out.size)
       clear hW1
       by_cases hmu : 1 < u
       ·have hmi : (1 : Int) < (u : Int) := by omega
        have HS1 := qh (HSj.out.2.1 htk hmu)
        have HO1 := qh (HOj.out.2.1 htk hmu)
        have k3 : wr.cell? ⟨tb, 3, none⟩ = some (.slice (A 3) (X 3).length (C 3)) := (HSh.out.pi.cell 3 (by decide)).1
        have HOs : Hid (W1.ownsRow R 3 1 (.slice (A 3) (X 3).length (C 3)) (X 3).length (X 3)) := qh ((HSh.out.pi.row 3 (by decide)).pure HPa.out).row
        have HQ : Hid (∀ W7, W1.grownBy W7 (Value.slice (A 3) (X 3).length (C 3)).ownBlock → W7.cell? ⟨tb, 3, none⟩ = some (.slice (A 3) (X 3).length (C 3)) ∧ W7.frozen? ⟨tb, 3, none⟩ = false) := qh (fun W7 hg => by
         have hB := (HSh.out.pi.blk.ext HPa.out id).ext (ext_of_grown hg) (fun e => by
          obtain ⟨y, hy, hyb⟩ := own_some e
          have h1 := (HSh.out.pi.row 3 (by decide)).col y hy
          have h2 := HSh.out.pi.kb
          rw [hyb] at h1
          omega)
         exact ⟨hB.cell 3, hB.free 3⟩)
        have HB1 : Hid (((X 3).length + 1) * 8 ≤ 140737488355328) := qh (by omega)
        have HB2 : Hid ((X 3).length + 1 ≤ maxLen) := qh (by unfold maxLen; omega)
        clear htk hmu
        go_upto_region 22 with (at_builtin; rw [HW1.out]; refine wpList_append_fresh rfl (.tmp 72) (.tmp 74) 25 rfl R 3 (.int .i64 0) 1 8 Tryz.underlying25 infoI rfl (by decide) (.slice (A 3) (X 3).length (C 3)) (X 3).length (X 3) rfl HOs.out (some ⟨wr.heap.size, 0, none⟩) 1 1 [.int .i64 x] rfl (fun e => by cases e) rfl HRw1.out (fun u hu => by simp at hu; subst hu; rfl) ((X 3).length + 1) rfl (X 3 ++ [.int .i64 x]) rfl HB1.out HB2.out HRs.out ?_; intro a7 c7 W7 hO7 hg7 hf7; have r3 := (HQ.out W7 hg7).1; have f3 := (HQ.out W7 hg7).2)
        have hst := HSh.out.push (k := 3) (by decide) HPa.out hg7 hO7 hf7 rfl
        have hag := paint_agree wr κ 4
        have HSh8 := qh hst.1
        have HOw8 : Hid (OwnC (paint wr κ 4) R (20 + qs.length) 3 _ a6 c6 (intsV (ownJ rows p (j + 1)))) := qh (by rw [HO1.out]; exact HOw.out.keep hst.2 (fun b e e2 => by omega) hag)
        have HTk8 := qh (And.intro (HTk.out.1.keep hst.2 (fun e => by have := HTk.out.2; omega)) ((hag _ HTk.out.1.own.lt).trans HTk.out.2))
        have HX8 : Hid (ShX (root :: nodes) rows p (j + 1) (setAt X 3 (X 3 ++ [.int .i64 x])) qs) := qh ⟨HX.out.x0, HX.out.x1, HX.out.x2, HX.out.ql, by rw [HS1.out, intsV_snoc, ← HX.out.x3]; rfl, HX.out.x4⟩
        have HM8 : Hid (m6 = (ownJ rows p (j + 1)).length) := qh (by rw [HO1.out]; exact HM6.out)
        have HP8 := qh (pure_old HP.out hst.2 (fun b hb => HSh.out.pi.old b (by rw [HRw.out]; exact hb)) (fun b e => by omega))
        obtain ⟨W8, hW8⟩ : ∃ z, z = W7.setCell ⟨tb, 3, none⟩ (.slice a7 ((X 3).length + 1) c7) := ⟨_, rfl⟩
        rw [← hW8] at HSh8 HOw8 HTk8 HP8 ⊢
        generalize paint wr κ (3 + 1) = κ8 at *
        generalize setAt A 3 a7 = A8 at *
        generalize setAt C 3 c7 = C8 at *
        generalize setAt X 3 (X 3 ++ [.int .i64 x]) = X8 at *
        clear hst hO7 hg7 hf7 hW8 r3 f3 k3 hag hrun1 hrun2 hfld HQ HOs HSj HOj
        have HKm : Hid (cnt < maxLen) := qh (HTk.out.1.room HPl.out (HJl.out HPl.out j hltj) (by have := HT.out; omega))
        go_wp2_with (at_mapUpdate; refine wpList_mapUpdate_own _ rfl (.tmp 77) (.tmp 78) (.const (.int .i64 1)) 122 rfl 3 3 lawInt Tryz.underlying122 _ (tb + 1) cnt D rfl HTk8.out.1.own HKm.out _ _ _ rfl rfl (keyOf_int_mk Tryz.underlying3 HXw.out) _ [] (plainElem_int Tryz.underlying3 (by decide)) ?_; intro W9 hO9 hg9)
        have hX9 := ext_of_grown hg9
        have h8 : ∀ b, some (tb + 1) = some b → κ8 b = 8 := fun b e => by cases e; exact HTk8.out.2
        have HSh9 := qh (HSh8.out.keep hX9 (fun b e => Or.inl (h8 b e)) (Agree.refl _ _))
        have HOw9 := qh (HOw8.out.keep hX9 (fun b e e2 => by have := h8 b e2; omega) (Agree.refl _ _))
        have HTk9 := qh (HTk8.out.1.put HPl.out (HJl.out HPl.out j hltj) (HXe.out HPl.out (HJl.out HPl.out j hltj)) hO9)
        have HP9 := qh (pure_old HP8.out hX9 (fun b hb => HSh8.out.pi.old b (by rw [HRw.out]; exact hb)) (fun b e => by have := h8 b e; omega))
        clear hO9 hg9 hX9 h8
        go_roundw
        case rel => exact ⟨j + 1, κ8, A8, C8, X8, _, _, _, _, _, by omega, by go_num, rfl, by omega, HM8, HSh9, HOw9, qh ⟨HTk9.out, HTk8.out.2⟩, HX8, HP9⟩
        case measure => simp [intOf]; omega
       ·have hmi : ¬ (1 : Int) < (u : Int) := by omega
        have HS1 := qh (HSj.out.2.2 htk hmu)
        have HO1 := qh (HOj.out.2.2 htk hmu)
        have HOs : Hid (W1.ownsRow R 3 1 (.slice a6 m6 c6) m6 (intsV (ownJ rows p j))) := qh (by
         have h := (HOw.out.pure HPa.out).row
         rw [intsV_len, ← HM6.out] at h
         exact h)
        have HB1 : Hid ((m6 + 1) * 8 ≤ 140737488355328) := qh (by omega)
        have HB2 : Hid (m6 + 1 ≤ maxLen) := qh (by unfold maxLen; omega)
        clear htk hmu
        go_upto_region 22 with (at_builtin; rw [HW1.out]; refine wpList_append_fresh rfl (.tmp 56) (.tmp 58) 25 rfl R 3 (.int .i64 0) 1 8 Tryz.underlying25 infoI rfl (by decide) (.slice a6 m6 c6) m6 (intsV (ownJ rows p j)) rfl HOs.out (some ⟨wr.heap.size, 0, none⟩) 1 1 [.int .i64 x] rfl (fun e => by cases e) rfl HRw1.out (fun u hu => by simp at hu; subst hu; rfl) (m6 + 1) rfl (intsV (ownJ rows p j) ++ [.int .i64 x]) rfl HB1.out HB2.out HRs.out ?_; intro a8 c8 W8 hO8 hg8 hf8)
        have hgr := HOw.out.grow (a2 := a8) (c2 := c8) (u := .int .i64 x) HPa.out (by rw [intsV_len, ← HM6.out]; exact hg8) (by rw [intsV_len, ← HM6.out]; exact hO8) (by rw [intsV_len, ← HM6.out]; exact hf8)
        obtain ⟨κ8, hκ8⟩ : ∃ z, z = paint wr κ (20 + qs.length) := ⟨_, rfl⟩
        have hag : Agree wr κ κ8 := by rw [hκ8]; exact paint_agree wr κ _
        rw [← hκ8] at hgr
        have HSh8 := qh (HSh.out.keep hgr.2 (fun b e => Or.inr (by omega)) hag)
        have HOw8 : Hid (OwnC κ8 R (20 + qs.length) 3 W8 a8 c8 (intsV (ownJ rows p (j + 1)))) := qh (by rw [HO1.out, intsV_snoc]; exact hgr.1)
        have HTk8 := qh (And.intro (HTk.out.1.keep hgr.2 (fun e => by have := HTk.out.2; omega)) ((hag _ HTk.out.1.own.lt).trans HTk.out.2))
        have HX8 : Hid (ShX (root :: nodes) rows p (j + 1) X qs) := qh ⟨HX.out.x0, HX.out.x1, HX.out.x2, HX.out.ql, by rw [HS1.out]; exact HX.out.x3, HX.out.x4⟩
        have HM8 : Hid (m6 + 1 = (ownJ rows p (j + 1)).length) := qh (by rw [HO1.out, List.length_append, ← HM6.out]; rfl)
        have HP8 := qh (pure_old HP.out hgr.2 (fun b hb => HSh.out.pi.old b (by rw [HRw.out]; exact hb)) (fun b e => by omega))
        obtain ⟨A8, hA8⟩ : ∃ z, z = A := ⟨_, rfl⟩
        obtain ⟨C8, hC8⟩ : ∃ z, z = C := ⟨_, rfl⟩
        obtain ⟨X8, hX8⟩ : ∃ z, z = X := ⟨_, rfl⟩
        rw [← hA8, ← hC8, ← hX8] at HSh8
        rw [← hX8] at HX8
        clear hgr hκ8 hag hO8 hg8 hf8 hA8 hC8 hX8 hrun1 hrun2 hfld HOs HSj HOj
        have HKm : Hid (cnt < maxLen) := qh (HTk.out.1.room HPl.out (HJl.out HPl.out j hltj) (by have := HT.out; omega))
        go_wp2_with (at_mapUpdate; refine wpList_mapUpdate_own _ rfl (.tmp 77) (.tmp 78) (.const (.int .i64 1)) 122 rfl 3 3 lawInt Tryz.underlying122 _ (tb + 1) cnt D rfl HTk8.out.1.own HKm.out _ _ _ rfl rfl (keyOf_int_mk Tryz.underlying3 HXw.out) _ [] (plainElem_int Tryz.underlying3 (by decide)) ?_; intro W9 hO9 hg9)
        have hX9 := ext_of_grown hg9
        have h8 : ∀ b, some (tb + 1) = some b → κ8 b = 8 := fun b e => by cases e; exact HTk8.out.2
        have HSh9 := qh (HSh8.out.keep hX9 (fun b e => Or.inl (h8 b e)) (Agree.refl _ _))
        have HOw9 := qh (HOw8.out.keep hX9 (fun b e e2 => by have := h8 b e2; omega) (Agree.refl _ _))
        have HTk9 := qh (HTk8.out.1.put HPl.out (HJl.out HPl.out j hltj) (HXe.out HPl.out (HJl.out HPl.out j hltj)) hO9)
        have HP9 := qh (pure_old HP8.out hX9 (fun b hb => HSh8.out.pi.old b (by rw [HRw.out]; exact hb)) (fun b e => by have := h8 b e; omega))
        clear hO9 hg9 hX9 h8
        go_roundw
        case rel => exact ⟨j + 1, κ8, A8, C8, X8, _, _, _, _, _, by omega, by go_num, rfl, by omega, HM8, HSh9, HOw9, qh ⟨HTk9.out, HTk8.out.2⟩, HX8, HP9⟩
        case measure => simp [intOf]; omega
     ·have hkj : ¬ (j : Int) < (m : Int) := by omega
      obtain rfl : j = m := by omega
      have k2 : wr.cell? ⟨tb, 2, none⟩ = some (.slice (A 2) (X 2).length (C 2)) := (HSh.out.pi.cell 2 (by decide)).1
      obtain ⟨W1, hW1⟩ : ∃ z, z = wr.alloc (.cells #[.slice a6 m6 c6] 25) := ⟨_, rfl⟩
      have HPa : Hid (Pure wr W1) := qh (by rw [hW1]; exact ext_alloc _ _)
      have HRw1 : Hid (RowOf W1 (some ⟨wr.heap.size, 0, none⟩) [.slice a6 m6 c6]) := qh (by rw [hW1]; exact row_at _ rfl rfl)
      have HW1 : Hid (wr.alloc (.cells #[.slice a6 m6 c6] 25) = W1) := qh hW1.symm
      have HRs : Hid (R ≤ W1.heap.size) := qh (Nat.le_trans HSh.out.pi.rs HPa.out.size)
      have HOs : Hid (W1.ownsRow R 25 1 (.slice (A 2) (X 2).length (C 2)) (X 2).length (X 2)) := qh ((HSh.out.pi.row 2 (by decide)).pure HPa.out).row
      have HQ : Hid (∀ W7, W1.grownBy W7 (Value.slice (A 2) (X 2).length (C 2)).ownBlock → W7.cell? ⟨tb, 2, none⟩ = some (.slice (A 2) (X 2).length (C 2)) ∧ W7.frozen? ⟨tb, 2, none⟩ = false) := qh (fun W7 hg => by
       have hB := (HSh.out.pi.blk.ext HPa.out id).ext (ext_of_grown hg) (fun e => by
        obtain ⟨y, hy, hyb⟩ := own_some e
        have h1 := (HSh.out.pi.row 2 (by decide)).col y hy
        have h2 := HSh.out.pi.kb
        rw [hyb] at h1
        omega)
       exact ⟨hB.cell 2, hB.free 2⟩)
      have hn2 : (X 2).length ≤ 1000000 := by
       rw [HX.out.x2, List.length_map]
       have h1 := congrArg List.length HX.out.ql
       rw [lsR_len, ownsP_len rows p (Nat.le_of_lt HPl.out)] at h1
       omega
      have HB1 : Hid (((X 2).length + 1) * 24 ≤ 140737488355328) := qh (by omega)
      have HB2 : Hid ((X 2).length + 1 ≤ maxLen) := qh (by unfold maxLen; omega)
      clear hW1
      go_wp2_with (at_builtin; rw [HW1.out]; refine wpList_append_fresh rfl (.tmp 81) (.tmp 83) 26 rfl R 25 (.slice none 0 0) 1 24 Tryz.underlying26 infoR rfl (by decide) (.slice (A 2) (X 2).length (C 2)) (X 2).length (X 2) rfl HOs.out (some ⟨wr.heap.size, 0, none⟩) 1 1 [.slice a6 m6 c6] rfl (fun e => by cases e) rfl HRw1.out (fun u hu => by simp at hu; subst hu; rfl) ((X 2).length + 1) rfl (X 2 ++ [.slice a6 m6 c6]) rfl HB1.out HB2.out HRs.out ?_; intro a7 c7 W7 hO7 hg7 hf7; have r3 := (HQ.out W7 hg7).1; have f3 := (HQ.out W7 hg7).2)
      have hst := HSh.out.push (k := 2) (by decide) HPa.out hg7 hO7 hf7 rfl
      have hag := paint_agree wr κ 3
      have HSh8 := qh hst.1
      have HOw8 := qh (HOw.out.keep hst.2 (fun b e e2 => by omega) hag)
      have HTk8 := qh (And.intro (HTk.out.1.keep hst.2 (fun e => by have := HTk.out.2; omega)) ((hag _ HTk.out.1.own.lt).trans HTk.out.2))
      have HP8 := qh (pure_old HP.out hst.2 (fun b hb => HSh.out.pi.old b (by rw [HRw.out]; exact hb)) (fun b e => by omega))
      have hjr : j = (rows[p]'HPl.out).length := by rw [HLg.out HPl.out]; exact HMm.out
      have HX9 : Hid (ShX (root :: nodes) rows (p + 1) 0 (setAt X 2 (X 2 ++ [.slice a6 m6 c6])) (qs ++ [⟨a6, c6, ownJ rows p j⟩])) := qh (by
       have h := HX.out
       refine ⟨h.x0, ?_, ?_, ?_, ?_, h.x4⟩
       ·have e := h.x1
        rw [headD_take rows p hp1] at e
        rw [headD_take rows (p + 1) (Nat.succ_pos _)]
        exact e
       ·show X 2 ++ _ = _
        rw [List.map_append, ← h.x2, HM6.out]
        rfl
       ·have e : lsR (qs ++ [⟨a6, c6, ownJ rows p j⟩]) = lsR qs ++ [ownJ rows p j] := by unfold lsR; rw [List.map_append]; rfl
        rw [e, h.ql, ownsP_row rows p hp1 HPl.out, hjr, ownJ_end rows p HPl.out]
       ·have e := h.x3
        rw [hjr, shJ_end rows p hp1 HPl.out] at e
        rw [shJ_zero]
        exact e)
      have HTk9 : Hid (TakI rows (p + 1) 0 (tb + 1) cnt D (W7.setCell ⟨tb, 2, none⟩ (.slice a7 ((X 2).length + 1) c7))) := qh (by
       refine TakI.next HPl.out ?_
       rw [← hjr]
       exact HTk8.out.1)
      have HSh9 : Hid (ShC 36 R tb (R + 1) B uc Du (paint wr κ 3) (setAt A 2 a7) (setAt C 2 c7) (setAt X 2 (X 2 ++ [.slice a6 m6 c6])) (qs ++ [⟨a6, c6, ownJ rows p j⟩]) (W7.setCell ⟨tb, 2, none⟩ (.slice a7 ((X 2).length + 1) c7))) := qh ⟨HSh8.out.pi, HSh8.out.rw.snoc HOw8.out, HSh8.out.res, HSh8.out.kr, HSh8.out.us, HSh8.out.ku⟩
      clear hst hag hO7 hg7 hf7 r3 f3 hjr
      go_roundw
      case rel => exact ⟨p + 1, _, _, _, _, _, _, _, by omega, by go_num, HSh9, qh ⟨HTk9.out, HTk8.out.2⟩, HX9, HP8⟩
      case measure => simp [intOf]; omega
  ·have hki : ¬ (p : Int) < (nr : Int) := by omega
   obtain rfl : p = nr := by omega
   have htbl : tb < wr.heap.size := HSh.out.pi.blk.lt
   have hpr : p = rows.length := by rw [HRows.out, lsR_len]; exact HNr.out
   have HY0 : Hid (ShY (root :: nodes) rows 0 X qs) := qh (by
    have h := HX.out
    refine ⟨h.x0, ?_, h.x2, by rw [h.ql, hpr], ?_, by rw [h.x4]; rfl⟩
    ·rw [h.x1, hpr, List.take_length]
    ·rw [h.x3, shJ_zero, hpr])
   obtain ⟨mz, hmz⟩ : ∃ z, z = min n 4096 := ⟨_, rfl⟩
   have hmin := minrun (P := Tryz.prog) hmz
   have hmz4 : mz ≤ 4096 := by omega
   have HMz : Hid (lastP n = mz.toNat) := qh (by unfold lastP; rw [hmz])
   clear hmz hpr
   go_wp2_with fail
   obtain ⟨wo, rfl⟩ : ∃ wo : World, wo = wr := ⟨_, rfl⟩
   go_loopw [19] (fun k wr => ∃ (i : Nat) (x : Int) (κ : Nat → Nat) (A : Nat → Option Addr) (C : Nat → Nat) (X : Nat → List Value), k = .int .i64 x ∧ 1 ≤ x ∧ x ≤ 4097 ∧ Hid (x = (i : Int) + 1 ∧ i ≤ mz.toNat) ∧ Hid (ShC 36 R tb (R + 1) B uc Du κ A C X qs wr) ∧ Hid (ShY (root :: nodes) rows i X qs) ∧ Hid (Pure w wr)) (fun k _ => 5000 - (intOf k).toNat)
   case atStart => exact ⟨0, 1, κ, A, C, X, rfl, by decide, by decide, qh ⟨rfl, Nat.zero_le _⟩, HSh, HY0, HP⟩
   case round =>
    clear HSh HTk HX HP HY0
    obtain ⟨i, x, κ, A, C, X, rfl, hx1, hx2, HXi, HSh, HY, HP⟩ := hrel
    have htbl : tb < wr.heap.size := HSh.out.pi.blk.lt
    by_cases hle : x ≤ mz
    ·have HXw : Hid ((Lit.int .i64 x).wf = true) := qh (key_wf hx1 (by omega))
     have hrun2 := use_run HSh.out.us HXw.out (HLk.out x)
     have HSt := qh (othP_step rows (root :: nodes) i)
     rw [← HXi.out.1] at HSt
     obtain ⟨u, hu⟩ : ∃ z, z = manyP rows x := ⟨_, rfl⟩
     rw [← hu] at hrun2 HSt
     generalize L x = lx at hrun2
     have hfld := field_use u lx wr
     have k0 : wr.cell? ⟨tb, 0, none⟩ = some (.slice (A 0) (X 0).length (C 0)) := (HSh.out.pi.cell 0 (by decide)).1
     have HXn : Hid (x + 1 = ((i + 1 : Nat) : Int) + 1 ∧ i + 1 ≤ mz.toNat) := qh (by have := HXi.out; omega)
     clear hu
     by_cases hu0 : u = 0
     ·subst hu0
      have hfld := field_use 0 lx wr
      have HCt : Hid (Calls Tryz.prog 69 #[.slice (A 0) (X 0).length (C 0), .int .i64 x] wr (BoolTo (decide (x ∈ (root :: nodes))) wr)) := qh (by
       have h0 := (HSh.out.pi.row 0 (by decide)).read.1
       rw [HY.out.x0] at h0
       have e : (X 0).length = (root :: nodes).length := by rw [HY.out.x0, intsV_len]
       rw [e]
       exact contains_any x (A 0) (C 0) (root :: nodes) wr h0 (by rw [List.length_cons, ← HNn.out]; omega))
      obtain ⟨y, hy⟩ : ∃ z, z = decide (x ∈ (root :: nodes)) := ⟨_, rfl⟩
      rw [← hy] at HCt
      have HSt2 : Hid (othP rows (root :: nodes) (i + 1) = if y = true then othP rows (root :: nodes) i else othP rows (root :: nodes) i ++ [x]) := qh (by
       rw [HSt.out, hy]
       by_cases hin : x ∈ (root :: nodes)
       ·rw [if_neg (fun h => h.2 hin), if_pos (decide_eq_true hin)]
       ·rw [if_pos ⟨rfl, hin⟩, if_neg (by rw [decide_eq_false hin]; decide)])
      clear hy HSt
      cases y with
      | true =>
        go_wp2_with fail
        refine HCt.out.mono ?_
        rintro e w2 ⟨rfl, hP2⟩
        have HSh2 := qh (HSh.out.pure hP2)
        have HP2 := qh (HP.out.pure hP2)
        have HY2 : Hid (ShY (root :: nodes) rows (i + 1) X qs) := qh ⟨HY.out.x0, HY.out.x1, HY.out.x2, HY.out.ql, HY.out.x3, by rw [HSt2.out]; exact HY.out.x4⟩
        clear hP2 k0 hrun2 hfld
        go_wp2_with fail
        go_roundw
        case rel => exact ⟨i + 1, x + 1, κ, A, C, X, by go_num, by omega, by omega, HXn, HSh2, HY2, HP2⟩
        case measure => simp [intOf]; omega
      | false =>
        go_wp2_with fail
        refine HCt.out.mono ?_
        rintro e w2 ⟨rfl, hP2⟩
        have HSh2 := qh (HSh.out.pure hP2)
        have HP2 := qh (HP.out.pure hP2)
        have k4 : w2.cell? ⟨tb, 4, none⟩ = some (.slice (A 4) (X 4).length (C 4)) := (HSh2.out.pi.cell 4 (by decide)).1
        have htb2 : tb < w2.heap.size := HSh2.out.pi.blk.lt
        obtain ⟨W1, hW1⟩ : ∃ z, z = w2.alloc (.cells #[.int .i64 x] 3) := ⟨_, rfl⟩
        have HPa : Hid (Pure w2 W1) := qh (by rw [hW1]; exact ext_alloc _ _)
        have HRw1 : Hid (RowOf W1 (some ⟨w2.heap.size, 0, none⟩) [.int .i64 x]) := qh (by rw [hW1]; exact row_at _ rfl rfl)
        have HW1 : Hid (w2.alloc (.cells #[.int .i64 x] 3) = W1) := qh hW1.symm
        have HRs : Hid (R ≤ W1.heap.size) := qh (Nat.le_trans HSh2.out.pi.rs HPa.out.size)
        have HOs : Hid (W1.ownsRow R 3 1 (.slice (A 4) (X 4).length (C 4)) (X 4).length (X 4)) := qh ((HSh2.out.pi.row 4 (by decide)).pure HPa.out).row
        have HQ : Hid (∀ W7, W1.grownBy W7 (Value.slice (A 4) (X 4).length (C 4)).ownBlock → W7.cell? ⟨tb, 4, none⟩ = some (.slice (A 4) (X 4).length (C 4)) ∧ W7.frozen? ⟨tb, 4, none⟩ = false) := qh (fun W7 hg => by
         have hB := (HSh2.out.pi.blk.ext HPa.out id).ext (ext_of_grown hg) (fun e => by
          obtain ⟨y, hy, hyb⟩ := own_some e
          have h1 := (HSh2.out.pi.row 4 (by decide)).col y hy
          have h2 := HSh2.out.pi.kb
          rw [hyb] at h1
          omega)
         exact ⟨hB.cell 4, hB.free 4⟩)
        have hn4 : (X 4).length ≤ 4096 := by
         rw [HY.out.x4, intsV_len]
         have h1 := othP_len rows (root :: nodes) i
         have h2 := HXi.out
         omega
        have HB1 : Hid (((X 4).length + 1) * 8 ≤ 140737488355328) := qh (by omega)
        have HB2 : Hid ((X 4).length + 1 ≤ maxLen) := qh (by unfold maxLen; omega)
        clear hW1 hP2 k0 hrun2 hfld
        go_wp2_with (at_builtin; rw [HW1.out]; refine wpList_append_fresh rfl (.tmp 106) (.tmp 108) 25 rfl R 3 (.int .i64 0) 1 8 Tryz.underlying25 infoI rfl (by decide) (.slice (A 4) (X 4).length (C 4)) (X 4).length (X 4) rfl HOs.out (some ⟨w2.heap.size, 0, none⟩) 1 1 [.int .i64 x] rfl (fun e => by cases e) rfl HRw1.out (fun u hu => by simp at hu; subst hu; rfl) ((X 4).length + 1) rfl (X 4 ++ [.int .i64 x]) rfl HB1.out HB2.out HRs.out ?_; intro a7 c7 W7 hO7 hg7 hf7; have r3 := (HQ.out W7 hg7).1; have f3 := (HQ.out W7 hg7).2)
        have hst := HSh2.out.push (k := 4) (by decide) HPa.out hg7 hO7 hf7 rfl
        have HSh8 := qh hst.1
        have HY8 : Hid (ShY (root :: nodes) rows (i + 1) (setAt X 4 (X 4 ++ [.int .i64 x])) qs) := qh ⟨HY.out.x0, HY.out.x1, HY.out.x2, HY.out.ql, HY.out.x3, by
         rw [HSt2.out, if_neg (by decide), intsV_snoc, ← HY.out.x4]
         rfl⟩
        have HP8 := qh (pure_old HP2.out hst.2 (fun b hb => HSh2.out.pi.old b (by rw [HRw.out]; exact hb)) (fun b e => by omega))
        clear hst hO7 hg7 hf7 r3 f3 k4
        go_roundw
        case rel => exact ⟨i + 1, x + 1, _, _, _, _, by go_num, by omega, by omega, HXn, HSh8, HY8, HP8⟩
        case measure => simp [intOf]; omega
     ·have hub : ((u : Int) == 0) = false := beq_eq_false_iff_ne.2 (by omega)
      have HY2 : Hid (ShY (root :: nodes) rows (i + 1) X qs) := qh ⟨HY.out.x0, HY.out.x1, HY.out.x2, HY.out.ql, HY.out.x3, by rw [HSt.out, if_neg (fun h => hu0 h.1)]; exact HY.out.x4⟩
      clear hu0
      go_wp2_with fail
      go_roundw
      case rel => exact ⟨i + 1, x + 1, κ, A, C, X, by go_num, by omega, by omega, HXn, HSh, HY2, HP⟩
      case measure => simp [intOf]; omega
    ·have HI : Hid (i = lastP n) := qh (by have := HXi.out; have := HMz.out; omega)
     have k0 : wr.cell? ⟨tb, 0, none⟩ = some (.slice (A 0) (X 0).length (C 0)) := (HSh.out.pi.cell 0 (by decide)).1
     have k1 : wr.cell? ⟨tb, 1, none⟩ = some (.slice (A 1) (X 1).length (C 1)) := (HSh.out.pi.cell 1 (by decide)).1
     have k2 : wr.cell? ⟨tb, 2, none⟩ = some (.slice (A 2) (X 2).length (C 2)) := (HSh.out.pi.cell 2 (by decide)).1
     have k3 : wr.cell? ⟨tb, 3, none⟩ = some (.slice (A 3) (X 3).length (C 3)) := (HSh.out.pi.cell 3 (by decide)).1
     have k4 : wr.cell? ⟨tb, 4, none⟩ = some (.slice (A 4) (X 4).length (C 4)) := (HSh.out.pi.cell 4 (by decide)).1
     have HTh : Hid (wr.there (R + 1) 0 (#[Value.slice (A 0) (X 0).length (C 0), .slice (A 1) (X 1).length (C 1), .slice (A 2) (X 2).length (C 2), .slice (A 3) (X 3).length (C 3), .slice (A 4) (X 4).length (C 4)] : Array Value).size) := qh (HSh.out.res.there 5 rfl)
     have HSi : Hid ((Tryz.prog.info? 36).map (·.size) = some (#[Value.slice (A 0) (X 0).length (C 0), .slice (A 1) (X 1).length (C 1), .slice (A 2) (X 2).length (C 2), .slice (A 3) (X 3).length (C 3), .slice (A 4) (X 4).length (C 4)] : Array Value).size) := qh sizeSP
     have HOn : Hid (((#[Value.slice (A 0) (X 0).length (C 0), .slice (A 1) (X 1).length (C 1), .slice (A 2) (X 2).length (C 2), .slice (A 3) (X 3).length (C 3), .slice (A 4) (X 4).length (C 4)] : Array Value).all fun u => u.oneCell') = true) := qh (all_oneCell_toArray (by intro u hu; simp only [List.mem_cons, List.not_mem_nil, or_false] at hu; rcases hu with rfl | rfl | rfl | rfl | rfl <;> rfl))
     go_wp2_with (with_reducible refine at_store 36 (.tmp 8) (.tmp 111) ?_; refine wpList_store_mid rfl 36 (.tmp 8) (.tmp 111) rfl (R + 1) 0 #[.slice (A 0) (X 0).length (C 0), .slice (A 1) (X 1).length (C 1), .slice (A 2) (X 2).length (C 2), .slice (A 3) (X 3).length (C 3), .slice (A 4) (X 4).length (C 4)] rfl rfl HTh.out HSi.out HOn.out ?_)
     have hB := HSh.out.res.setAll [.slice (A 0) (X 0).length (C 0), .slice (A 1) (X 1).length (C 1), .slice (A 2) (X 2).length (C 2), .slice (A 3) (X 3).length (C 3), .slice (A 4) (X 4).length (C 4)] rfl
     have hE : Ext (fun b => b = R + 1) wr (wr.setCells (R + 1) 0 [.slice (A 0) (X 0).length (C 0), .slice (A 1) (X 1).length (C 1), .slice (A 2) (X 2).length (C 2), .slice (A 3) (X 3).length (C 3), .slice (A 4) (X 4).length (C 4)]) := Ext.setCells (S := fun b => b = R + 1) _ 0 _ (Ext.refl _ _) (b := R + 1) (fun _ => rfl)
     refine bodyPost_ret (results_row1 rfl _ _ (R + 1) _ [.slice (A 0) (X 0).length (C 0), .slice (A 1) (X 1).length (C 1), .slice (A 2) (X 2).length (C 2), .slice (A 3) (X 3).length (C 3), .slice (A 4) (X 4).length (C 4)] _ rfl hB Tryz.underlying36 rfl sizeSP) rfl ?_
     have kr := HSh.out.kr
     have hpi := HSh.out.pi.keep hE (fun b hb e => by subst e; omega) (Agree.refl _ _)
     have hrw := HSh.out.rw.keep hE (fun b hb e => by subst e; omega) (Agree.refl _ _)
     have hy := HY.out
     rw [HI.out] at hy
     have hpt := hpi.parts (p := partsP n nodes root rows) hrw hy.x0 hy.x1 hy.x2 hy.ql hy.x3 hy.x4
     refine ⟨_, _, _, _, _, _, _, ?_, hpt, pure_old HP.out hE (fun b hb => HSh.out.pi.old b (by rw [HRw.out]; exact hb)) (fun b e => by subst e; omega)⟩
     unfold CRow.v
     rw [hy.x0, hy.x1, hy.x2, hy.x3, hy.x4, intsV_len, intsV_len, intsV_len, intsV_len, List.length_map]
     rfl
