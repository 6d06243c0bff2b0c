import Derived.Test.YtnpiemcfbnpfdaaGreatShareOfSp
import Derived.Test.YtnpiemcfbnpfdaaGreatSqSp
set_option linter.unusedVariables false
set_option linter.unusedSimpArgs false
set_option maxRecDepth 100000
namespace Go.Proofs.YtnpiemcfbnpfdaaGreat
open Go.RowKit Go.Maps
def rshJ (rows : List (List Int)) (p j : Nat) : List Int := onP (shP rows p) (((onP [] (rows.getD p [])).take j).filter (condS rows))
def rownJ (rows : List (List Int)) (p j : Nat) : List Int := ((onP [] (rows.getD p [])).take j).filter fun x => decide (manyP rows x = 1)
theorem rshJ_step (rows : List (List Int)) (p j : Nat) (hj : j < (onP [] (rows.getD p [])).length) {x : Int} (hx : (onP [] (rows.getD p []))[j] = x) : rshJ rows p (j + 1) = if condS rows x = true then (if x ∈ rshJ rows p j then rshJ rows p j else rshJ rows p j ++ [x]) else rshJ rows p j := by
 unfold rshJ;rw [List.take_succ_eq_append_getElem hj, hx, List.filter_append, onP_two]
 by_cases hc : condS rows x = true
 ·rw [if_pos hc, show [x].filter (condS rows) = [x] by simp [hc]]
  rfl
 ·rw [if_neg hc, show [x].filter (condS rows) = [] by simp [hc]]
  rfl
theorem rownJ_step (rows : List (List Int)) (p j : Nat) (hj : j < (onP [] (rows.getD p [])).length) {x : Int} (hx : (onP [] (rows.getD p []))[j] = x) : rownJ rows p (j + 1) = if manyP rows x = 1 then rownJ rows p j ++ [x] else rownJ rows p j := by
 unfold rownJ;rw [List.take_succ_eq_append_getElem hj, hx, List.filter_append]
 split
 ·rename_i h; simp [h]
 ·rename_i h; simp [h]
theorem rshJ_end (rows : List (List Int)) (p : Nat) (h0 : 0 < p) (hp : p < rows.length) {k : Nat} (hk : k = (onP [] (rows.getD p [])).length) : rshJ rows p k = shP rows (p + 1) := by
 unfold rshJ;rw [List.take_of_length_le (by omega), shP_row rows p h0 hp, getD_at rows p hp]
theorem rownJ_end (rows : List (List Int)) (p : Nat) (hp : p < rows.length) {k : Nat} (hk : k = (onP [] (rows.getD p [])).length) : rownJ rows p k = ownP rows rows[p] := by
 unfold rownJ ownP;rw [List.take_of_length_le (by omega), getD_at rows p hp]
theorem rshJ_zero (rows : List (List Int)) (p : Nat) : rshJ rows p 0 = shP rows p := by unfold rshJ; rfl
theorem rownJ_zero (rows : List (List Int)) (p : Nat) : rownJ rows p 0 = [] := by unfold rownJ; rfl
theorem shP_len (rows : List (List Int)) (p : Nat) : (shP rows p).length ≤ rows.flatten.length := by
 unfold shP;refine Nat.le_trans (onP_len _ _) ?_;have h4 := List.length_filter_le (condS rows) (((rows.take p).drop 1).flatten);have h6 : ((rows.take p).drop 1).flatten.length ≤ (rows.take p).flatten.length := by
  have h3 : (rows.take p).flatten = ((rows.take p).take 1 ++ (rows.take p).drop 1).flatten := by rw [List.take_append_drop]
  rw [h3, List.flatten_append, List.length_append];exact Nat.le_add_left _ _
 have h7 : (rows.take p).flatten.length ≤ rows.flatten.length := by
  have h3 : rows.flatten = ((rows.take p) ++ (rows.drop p)).flatten := by rw [List.take_append_drop]
  rw [h3, List.flatten_append, List.length_append];exact Nat.le_add_right _ _
 simp only [List.length_nil]
 omega
theorem rshJ_len (rows : List (List Int)) (p j : Nat) : (rshJ rows p j).length ≤ rows.flatten.length + j := by
 unfold rshJ;refine Nat.le_trans (onP_len _ _) ?_;have h1 := shP_len rows p;have h2 := List.length_filter_le (condS rows) ((onP [] (rows.getD p [])).take j);rw [List.length_take] at h2
 omega
structure RfC (T R tb tr : Nat) (κ : Nat → Nat) (A : Nat → Option Addr) (C : Nat → Nat) (X : Nat → List Value) (qs : List CRow) (W : World) : Prop where
 pi : PI T R tb κ A C X W
 rw : RwC κ R W qs
 res : BlockIs W tr [.slice none 0 0, .slice none 0 0, .slice none 0 0, .slice none 0 0, .slice none 0 0] T
 kr : κ tr = 10
section
variable {T R tb tr : Nat} {κ κ' : Nat → Nat} {A : Nat → Option Addr} {C : Nat → Nat} {X : Nat → List Value} {qs : List CRow} {W W' W1 W2 : World} {S : Nat → Prop}
theorem RfC.keep (h : RfC T R tb tr κ A C X qs W) (hE : Ext S W W') (hS : ∀ b, S b → κ b = 8 ∨ 20 + qs.length ≤ κ b) (hA : Agree W κ κ') : RfC T R tb tr κ' A C X qs W' := by
 have kr := h.kr;refine ⟨h.pi.keep hE (fun b hb e => ?_) hA, h.rw.keep hE (fun b hb e => ?_) hA, h.res.ext hE (fun e => ?_), (hA tr h.res.lt).trans kr⟩
 ·have := hS b e; omega
 ·have := hS b e; omega
 ·have := hS _ e; omega
theorem RfC.pure (h : RfC T R tb tr κ A C X qs W) (hP : Pure W W') : RfC T R tb tr κ A C X qs W' := h.keep hP (fun _ e => e.elim) (Agree.refl _ _)
theorem RfC.stored (h : RfC T R tb tr κ A C X qs W) {k : Nat} (hk : k < 5) {A2 : Nat → Option Addr} {C2 : Nat → Nat} {X2 : Nat → List Value} (hpi : PI T R tb κ' A2 C2 X2 W') (hE : Ext (fun b => κ b = k + 1 ∨ κ b = 9) W W') (hA : Agree W κ κ') : RfC T R tb tr κ' A2 C2 X2 qs W' := by
 have kr := h.kr;exact ⟨hpi, h.rw.keep hE (fun b hb e => by omega) hA, h.res.ext hE (fun e => by omega), (hA tr h.res.lt).trans kr⟩
theorem RfC.push {k : Nat} (hk : k < 5) {u : Value} {a2 : Option Addr} {c2 n : Nat} (h : RfC T R tb tr κ A C X qs W) (hP : Pure W W1) (hg : W1.grownBy W2 (Value.slice (A k) (X k).length (C k)).ownBlock) (hO : W2.ownsRow R (elT k) 1 (.slice a2 ((X k).length + 1) c2) ((X k).length + 1) (X k ++ [u]))
 (hf : ∀ g, a2 = some g → (Value.slice (A k) (X k).length (C k)).ownBlock = some g.block ∨ W1.heap.size ≤ g.block) (hn : n = (X k).length + 1) :
 RfC T R tb tr (paint W κ (k + 1)) (setAt A k a2) (setAt C k c2) (setAt X k (X k ++ [u])) qs (W2.setCell ⟨tb, k, none⟩ (.slice a2 n c2)) ∧ Ext (fun b => κ b = k + 1 ∨ κ b = 9) W (W2.setCell ⟨tb, k, none⟩ (.slice a2 n c2)) := by
 obtain ⟨h1, h2⟩ := h.pi.push hk hP hg hO hf hn;exact ⟨h.stored hk h1 h2 (paint_agree _ _ _), h2⟩
theorem RfC.cells (h : RfC T R tb tr κ A C X qs W) {k : Nat} (hk : k < 5) (hP : Pure W W1) (hg : W1.grownBy W2 (Value.slice (A k) (X k).length (C k)).ownBlock) : W2.cell? ⟨tb, k, none⟩ = some (.slice (A k) (X k).length (C k)) ∧ W2.frozen? ⟨tb, k, none⟩ = false := by
 have hB := (h.pi.blk.ext hP id).ext (ext_of_grown hg) (fun e => by
  obtain ⟨y, hy, hyb⟩ := own_some e;have h1 := (h.pi.row k hk).col y hy;have h2 := h.pi.kb;rw [hyb] at h1
  omega)
 match k, hk with
 | 0, _ => exact ⟨hB.cell 0, hB.free 0⟩
 | 1, _ => exact ⟨hB.cell 1, hB.free 1⟩
 | 2, _ => exact ⟨hB.cell 2, hB.free 2⟩
 | 3, _ => exact ⟨hB.cell 3, hB.free 3⟩
 | 4, _ => exact ⟨hB.cell 4, hB.free 4⟩
theorem OwnC.growL {R c e : Nat} {a a2 : Option Addr} {cap c2 n : Nat} {xs ys : List Value} (h : OwnC κ R c e W a cap xs) (hP : Pure W W1) (hg : W1.grownBy W2 (Value.slice a xs.length cap).ownBlock) (hn : n = (xs ++ ys).length) (hO : W2.ownsRow R e 1 (.slice a2 n c2) n (xs ++ ys))
 (hf : ∀ g, a2 = some g → (Value.slice a xs.length cap).ownBlock = some g.block ∨ W1.heap.size ≤ g.block) : OwnC (paint W κ c) R c e W2 a2 c2 (xs ++ ys) ∧ Ext (fun b => κ b = c) W W2 := by
 subst hn;refine ⟨⟨hO, fun x hx => ?_⟩, ?_⟩
 ·rcases hf x hx with h1 | h1
  ·obtain ⟨y, hy, hyb⟩ := own_some h1
   rw [← hyb, paint_agree W κ c _ (h.lt y hy).2];exact h.col y hy
  ·exact paint_new (Nat.le_trans hP.size h1)
 ·refine (hP.mono (T := fun b => κ b = c) (fun _ _ e => e.elim)).trans (ext_of_grown hg) (fun i hi e => ?_)
  obtain ⟨y, hy, hyb⟩ := own_some e;rw [← hyb];exact h.col y hy
end
def kap0 (r : Nat) : Nat → Nat := fun b => if b < r then 0 else if b < r + 2 then 10 else if b = r + 2 then 9 else 1
theorem RfC.start {T R : Nat} {W : World} (h2 : BlockIs W (R + 2) [.slice none 0 0, .slice none 0 0, .slice none 0 0, .slice none 0 0, .slice none 0 0] T) (h3 : BlockIs W (R + 1) [.slice none 0 0, .slice none 0 0, .slice none 0 0, .slice none 0 0, .slice none 0 0] T) (hs : R ≤ W.heap.size) :
 RfC T R (R + 2) (R + 1) (kap0 R) (fun _ => none) (fun _ => 0) (fun _ => []) [] W := by
 refine ⟨⟨h2, ?_, fun k hk => OwnC.nil _ _ _ _ _, fun b hb => if_pos hb, hs⟩, fun i q hq => (by cases hq), h3, ?_⟩
 ·unfold kap0
  rw [if_neg (by omega), if_neg (by omega), if_pos rfl]
 ·unfold kap0
  rw [if_neg (by omega), if_pos (by omega)]
structure RfX (tree : List Int) (rows : List (List Int)) (p j : Nat) (X : Nat → List Value) (qs : List CRow) : Prop where
 x0 : X 0 = intsV tree
 x1 : X 1 = intsV ((rows.take p).headD [])
 x2 : X 2 = qs.map CRow.v
 ql : lsR qs = ownsP rows p
 x3 : X 3 = intsV (rshJ rows p j)
 x4 : X 4 = []
set_option maxHeartbeats 8000000 in
theorem rpartsof_any (n root : Int) (na pa : Option Addr) (nc pn pc : Nat) (nodes : List Int) (rs : List CRow) (a : Option Addr) (c : Nat) (w : World)
 (hN : RowOf w na (intsV nodes) ∧ (na = none → nodes.length = 0 ∧ nc = 0)) (hnl : nodes.length ≤ 1000000) (hR : Rws w a rs) (hok : ∀ q ∈ rs, q.ok w) (hn : rs.length ≤ 1000000) (hm : ∀ q ∈ rs, q.l.length ≤ 1000000) (ht : (lsR rs).flatten.length ≤ 100000000) :
 Calls Tryz.prog 25 #[.int .i64 n, .agg #[.slice na nodes.length nc, .slice pa pn pc], .int .i64 root, .slice a rs.length c] w (PartsTo (partsP n nodes root (lsR rs)) w) := by
 obtain ⟨w1, hw1⟩ : ∃ z, z = ((w.alloc (.cells #[.slice na nodes.length nc, .slice pa pn pc] 76)).alloc (.cells #[.slice none 0 0, .slice none 0 0, .slice none 0 0, .slice none 0 0, .slice none 0 0] 40)).alloc (.cells #[.slice none 0 0, .slice none 0 0, .slice none 0 0, .slice none 0 0, .slice none 0 0] 40) := ⟨_, rfl⟩;have hP1 : Pure w w1 := by rw [hw1]; exact ((ext_alloc w _).pure (ext_alloc _ _)).pure (ext_alloc _ _)
 have hBt : BlockIs w1 w.heap.size [.slice na nodes.length nc, .slice pa pn pc] 76 := by rw [hw1]; exact ((BlockIs.new w _ _).alloc _).alloc _
 have hBr : BlockIs w1 (w.heap.size + 1) [.slice none 0 0, .slice none 0 0, .slice none 0 0, .slice none 0 0, .slice none 0 0] 40 := by
  have := BlockIs.new (w.alloc (.cells #[.slice na nodes.length nc, .slice pa pn pc] 76)) [.slice none 0 0, .slice none 0 0, .slice none 0 0, .slice none 0 0, .slice none 0 0] 40;rw [World.size_alloc] at this;rw [hw1]; exact this.alloc _
 have hBo : BlockIs w1 (w.heap.size + 2) [.slice none 0 0, .slice none 0 0, .slice none 0 0, .slice none 0 0, .slice none 0 0] 40 := by
  have := BlockIs.new ((w.alloc (.cells #[.slice na nodes.length nc, .slice pa pn pc] 76)).alloc (.cells #[.slice none 0 0, .slice none 0 0, .slice none 0 0, .slice none 0 0, .slice none 0 0] 40)) [.slice none 0 0, .slice none 0 0, .slice none 0 0, .slice none 0 0, .slice none 0 0] 40;rw [World.size_alloc, World.size_alloc] at this;rw [hw1]; exact this
 have hs1 : w1.heap.size = w.heap.size + 3 := by rw [hw1, World.size_alloc, World.size_alloc, World.size_alloc]
 obtain ⟨R, hRw⟩ : ∃ z, z = w.heap.size := ⟨_, rfl⟩;have HSh0 := qh (RfC.start hBo hBr (by omega));rw [← hRw] at hBt hs1 HSh0;have HRw := qh hRw;have HW1 := qh hw1.symm;have HP1 := qh hP1;have HR := qh hR;have HOk := qh hok;have HM := qh hm;have HT := qh ht;have HNd := qh hN;have HMany : Hid (∀ x W, Pure w W → Calls Tryz.prog 56 #[.slice a rs.length c, .int .i64 x] W (IntTo ((manyP (lsR rs) x : Nat) : Int) W)) := qh (fun x W hP => rmany_any x rs a c W (hR.pure hP) hn hm);obtain ⟨nr, hNr⟩ : ∃ z, z = rs.length := ⟨_, rfl⟩;have HNr := qh hNr;rw [← hNr] at hn HMany ⊢;obtain ⟨rows, hrows⟩ : ∃ z, z = lsR rs := ⟨_, rfl⟩;have HRows := qh hrows;rw [← hrows] at HT HMany ⊢;obtain ⟨nn, hnn⟩ : ∃ z, z = nodes.length := ⟨_, rfl⟩;have HNn := qh hnn;rw [← hnn] at hBt HW1 hnl ⊢;have hRl1 : R < w1.heap.size := hBt.lt;have hRl2 : R + 2 < w1.heap.size := by omega
 have b0 : w1.cell? ⟨R, 0, none⟩ = some (.slice na nn nc) := hBt.cell 0;have r0 : w1.cell? ⟨R + 2, 0, none⟩ = some (.slice none 0 0) := HSh0.out.pi.blk.cell 0;clear hw1 hP1 hBt hBr hBo hs1 hRw hR hok hm ht hN hNr hrows hnn
 go_enter Tryz.func25, Tryz.ntmps25
 go_upto_region 2 with (fail)
 rw [HW1.out, ← HRw.out];obtain ⟨W3, hW3⟩ : ∃ z, z = w1.alloc (.cells #[.int .i64 root] 3) := ⟨_, rfl⟩;have HP13 : Hid (Pure w1 W3) := qh (by rw [hW3]; exact ext_alloc _ _);have HO3 : Hid (W3.ownsRow R 3 1 (.slice (some ⟨w1.heap.size, 0, none⟩) 1 1) 1 [.int .i64 root]) := qh (by rw [hW3]; exact own_new (cs := [.int .i64 root]) rfl (by decide) _ (Nat.le_of_lt hRl1));have HW3 : Hid (w1.alloc (.cells #[.int .i64 root] 3) = W3) := qh hW3.symm;have HNr3 : Hid (RowOf W3 na (intsV nodes)) := qh (HNd.out.1.ext (HP1.out.pure HP13.out) (fun _ _ => id));have HNil : Hid (na = none → nn = 0 ∧ nc = 0) := qh (fun h => by
  have h1 := HNd.out.2 h;have h3 := HNn.out;exact ⟨by omega, h1.2⟩)
 have HNl : Hid ((intsV nodes).length = nn * 1) := qh (by rw [intsV_len, ← HNn.out]; omega);have HN1 : Hid (∀ u ∈ intsV nodes, u.oneCell' = true) := qh (fun u hu => by
  obtain ⟨x, _, rfl⟩ := List.mem_map.1 hu
  rfl)
 have HRs3 : Hid (R ≤ W3.heap.size) := qh (Nat.le_trans (Nat.le_of_lt hRl1) HP13.out.size);have HQ0 : Hid (∀ W7, W3.grownBy W7 (some w1.heap.size) → W7.cell? ⟨R + 2, 0, none⟩ = some (.slice none 0 0) ∧ W7.frozen? ⟨R + 2, 0, none⟩ = false) := qh (fun W7 hg => by
  have hB := (HSh0.out.pi.blk.ext HP13.out id).ext (ext_of_grown hg) (fun e => by have e2 := Option.some.inj e; omega);exact ⟨hB.cell 0, hB.free 0⟩)
 clear hW3
 go_upto_region 3 with (at_builtin; rw [HW3.out]; refine wpList_append_fresh rfl (.tmp 16) (.tmp 18) 35 rfl R 3 (.int .i64 0) 1 8 Tryz.underlying35 infoI rfl (by decide) (.slice (some ⟨w1.heap.size, 0, none⟩) 1 1) 1 [.int .i64 root] rfl HO3.out na nn nc (intsV nodes) rfl HNil.out HNl.out HNr3.out HN1.out (1 + nn) rfl (intsV (root :: nodes)) rfl (by omega) (by unfold maxLen; omega) HRs3.out ?_; intro a1 c1 W4 hO4 hg4 hf4; have r3 := (HQ0.out W4 hg4).1; have f3 := (HQ0.out W4 hg4).2)
 have hE4 : Ext (fun b => kap0 R b = 0 + 1) w1 W4 := (HP13.out.mono (fun _ _ e => e.elim)).trans (ext_of_grown hg4) (fun i hi e => by have e2 : w1.heap.size = i := Option.some.inj e; omega);have hOC : OwnC (kap0 R) R 1 3 W4 a1 c1 (intsV (root :: nodes)) := ⟨by
  have e : (intsV (root :: nodes)).length = 1 + nn := by rw [intsV_len, List.length_cons, ← HNn.out]; omega
  rw [e]; exact hO4, fun x hx => by
  have : w1.heap.size ≤ x.block := by
   rcases hf4 x hx with h | h
   ·have h2 : w1.heap.size = x.block := Option.some.inj h
    omega
   ·exact Nat.le_trans HP13.out.size h
  unfold kap0;rw [if_neg (by omega), if_neg (by omega), if_neg (by omega)]⟩
 have hst := HSh0.out.pi.store (k := 0) (by decide) hE4 (Agree.refl _ _) hOC (n := 1 + nn) (by rw [intsV_len, List.length_cons, ← HNn.out]; omega);have HSh := qh (HSh0.out.stored (k := 0) (by decide) hst.1 hst.2 (Agree.refl _ _));have HP6 : Hid (Pure w (W4.setCell ⟨R + 2, 0, none⟩ (.slice a1 (1 + nn) c1))) := qh (pure_old HP1.out hst.2 (fun b hb => HSh0.out.pi.old b (by rw [HRw.out]; exact hb)) (fun b e => by omega));have HX : Hid (RfX (root :: nodes) rows 0 0 (setAt (fun _ => []) 0 (intsV (root :: nodes))) []) := qh ⟨rfl, rfl, rfl, rfl, rfl, rfl⟩;obtain ⟨W6, hW6⟩ : ∃ z, z = W4.setCell ⟨R + 2, 0, none⟩ (.slice a1 (1 + nn) c1) := ⟨_, rfl⟩;rw [← hW6] at HSh HP6 ⊢;clear r3 f3 hE4 hOC hst hW6 hO4 hg4 hf4 HO3 HW3 HNr3 HNil HNl HN1 HRs3 HQ0 HSh0 b0 r0 hRl1 HP1 HP13;generalize kap0 R = κ0 at HSh;obtain ⟨tb, htb⟩ : ∃ z, z = R + 2 := ⟨_, rfl⟩;rw [← htb] at HSh hRl2 ⊢;clear htb hRl2
 go_wp2_with fail
 go_loopw [10] (fun i wr => ∃ (p : Nat) (κ : Nat → Nat) (A : Nat → Option Addr) (C : Nat → Nat) (X : Nat → List Value) (qs : List CRow), p ≤ nr ∧ i = .int .i64 p ∧ Hid (RfC 40 R tb (R + 1) κ A C X qs wr) ∧ Hid (RfX (root :: nodes) rows p 0 X qs) ∧ Hid (Pure w wr)) (fun i _ => nr - (intOf i).toNat)
 case atStart => exact ⟨0, _, _, _, _, _, Nat.zero_le _, rfl, HSh, HX, HP6⟩
 case round =>
  clear HSh HX HP6;obtain ⟨p, κ, A, C, X, qs, hp, rfl, HSh, HX, HP⟩ := hrel;have htbl : tb < wr.heap.size := HSh.out.pi.blk.lt
  by_cases hlt : p < nr
  ·have hki : (p : Int) < (nr : Int) := by omega
   have hpi0 : (0 : Int) ≤ (p : Int) := by omega
   have hpr : p < rs.length := by rw [← HNr.out]; exact hlt
   have HPl : Hid (p < rows.length) := qh (by rw [HRows.out, lsR_len]; exact hpr);obtain ⟨b, o, rfl, hc⟩ := (HR.out.pure HP.out).get hpr;have HbR : Hid (b < R) := qh (by
    obtain ⟨b', o', e', hc'⟩ := HR.out.get hpr;cases e'
    rw [HRw.out]; exact World.block_lt_of_cell? w _ hc')
   obtain ⟨q, hq⟩ : ∃ z, z = rs[p] := ⟨_, rfl⟩;have HQ1 : Hid (q ∈ rs ∧ (∀ h : p < rows.length, rows[p] = q.l) ∧ q.ok w ∧ q.l.length ≤ 1000000) := qh (by
    subst hq;exact ⟨List.getElem_mem hpr, fun h => by
     have e := HRows.out;subst e;rw [lsR_get hpr], HOk.out _ (List.getElem_mem hpr), HM.out _ (List.getElem_mem hpr)⟩)
   rw [← hq] at hc;obtain ⟨m, hm⟩ : ∃ z, z = q.l.length := ⟨_, rfl⟩;have hmle : m ≤ 1000000 := by rw [hm]; exact HQ1.out.2.2.2
   rw [← hm] at hc;have HMm := qh hm;clear hq hm hpr
   go_upto_region 6 with (fail)
   by_cases hp0 : p = 0
   ·subst hp0
    have hc0 := hc;rw [Nat.add_zero] at hc0;have HQok := qh HQ1.out.2.2.1;have hx1n : (X 1).length ≤ 1000000 := by rw [HX.out.x1]; exact Nat.zero_le _
    have HX1 : Hid (X 1 = []) := qh (by rw [HX.out.x1]; rfl);clear hc
    go_wp2_with fail
    have hP0 : Pure wr wr.drew := (Ext.refl _ wr).drew;have k1 : wr.drew.cell? ⟨tb, 1, none⟩ = some (.slice (A 1) (X 1).length (C 1)) := ((HSh.out.pure hP0).pi.cell 1 (by decide)).1;have HC0 : Hid (∀ w', Ext (fun b => κ b = 2 ∨ κ b = 9) wr.drew w' → w'.cell? ⟨b, o, none⟩ = some (.slice q.a m q.c)) := qh (fun w' hS => by
     exact hS.cell_some hc0 (fun e => by have := HSh.out.pi.old b HbR.out; simp only at e; omega))
    have HOs : Hid (wr.drew.ownsRow R 3 1 (.slice (A 1) (X 1).length (C 1)) (X 1).length (X 1)) := qh ((HSh.out.pi.row 1 (by decide)).pure hP0).row;have HRq : Hid (RowOf wr.drew q.a (intsV q.l)) := qh ((HQok.out.pure (HP.out.pure hP0)).1);have HNl : Hid ((intsV q.l).length = m * 1) := qh (by rw [intsV_len, HMm.out]; omega);have HNil : Hid (q.a = none → m = 0 ∧ q.c = 0) := qh (fun h => by
     have h1 := HQok.out.2.1 h;have h2 := HQok.out.2.2;have h3 := HMm.out;exact ⟨by omega, h1⟩)
    have HN1 : Hid (∀ u ∈ intsV q.l, u.oneCell' = true) := qh (fun u hu => by
     obtain ⟨x, _, rfl⟩ := List.mem_map.1 hu
     rfl)
    have HRs : Hid (R ≤ wr.drew.heap.size) := qh (Nat.le_trans HSh.out.pi.rs hP0.size);have HQ : Hid (∀ W7, wr.drew.grownBy W7 (Value.slice (A 1) (X 1).length (C 1)).ownBlock → (W7.cell? ⟨tb, 1, none⟩ = some (.slice (A 1) (X 1).length (C 1)) ∧ W7.frozen? ⟨tb, 1, none⟩ = false) ∧ Ext (fun b => κ b = 2 ∨ κ b = 9) wr.drew W7) := qh (fun W7 hg => ⟨HSh.out.cells (k := 1) (by decide) hP0 hg, (ext_of_grown hg).mono (fun i _ e => by
     obtain ⟨y, hy, hyb⟩ := own_some e;rw [← hyb];exact Or.inl ((HSh.out.pi.row 1 (by decide)).col y hy))⟩)
    have HKb : Hid (κ tb = 9) := qh HSh.out.pi.kb;generalize q.a = qa at *;generalize q.c = qc at *;refine region_start (fun b => κ b = 2 ∨ κ b = 9) (by kernel_rfl) ?_
    try simp only [Act.put, sA, sZ, sS]
    refine rT 0 29 ?_;refine rT 2 31 ?_;refine rT 3 32 ?_;refine rU 4 33 (v := ?vff4) (fun w' hS => ?hff4) ?rff4
    case hff4 => (have e := HC0.out w' hS; go_simp; with_reducible rfl)
    try simp only [Act.put, sA, sZ, sS]
    refine rR 1 (fun K hK => ?_)
    go_simp
    refine hK.out _ _ (Ext.refl _ _) (fun hHeld => ?_);clear hK K hHeld;refine region_now (Ext.refl _ _) ?_
    try simp only [Act.put, sA, sZ, sS]
    refine rR 5 (fun K hK => ?_);refine step_of_list ?_;refine wpList_append_fresh rfl (.tmp 30) (.tmp 33) 35 rfl R 3 (.int .i64 0) 1 8 Tryz.underlying35 infoI rfl (by decide) (.slice (A 1) (X 1).length (C 1)) (X 1).length (X 1) rfl HOs.out qa m qc (intsV q.l) rfl HNil.out HNl.out HRq.out HN1.out ((X 1).length + m) rfl (X 1 ++ intsV q.l) rfl (by omega) (by unfold maxLen; omega) HRs.out ?_
    intro a7 c7 W7 hO7 hg7 hf7
    have r3 := (HQ.out W7 hg7).1.1;have f3 := (HQ.out W7 hg7).1.2;have hX7 := (HQ.out W7 hg7).2;refine hK.out _ _ (hX7) (fun hHeld => ?_);clear hK K hHeld;refine region_now (hX7) ?_
    try simp only [Act.put, sA, sZ, sS]
    refine rT 6 35 ?_;refine rR 7 (fun K hK => ?_)
    go_simp
    refine hK.out _ _ (Ext.setCell (S := fun b => κ b = 2 ∨ κ b = 9) (Ext.refl _ _) (p := ⟨tb, 1, none⟩) (fun _ => Or.inr HKb.out) _) (fun hHeld => ?_);clear hK K hHeld;refine region_now (Ext.setCell (S := fun b => κ b = 2 ∨ κ b = 9) (Ext.refl _ _) (p := ⟨tb, 1, none⟩) (fun _ => Or.inr HKb.out) _) ?_
    try simp only [Act.put, sA, sZ, sS]
    refine wpAnyH_done (by kernel_rfl) ?_ _;have hgr := (HSh.out.pi.row 1 (by decide)).growL (n := (X 1).length + m) hP0 hg7 (by rw [List.length_append, HNl.out]; omega) hO7 hf7;have hst := HSh.out.pi.store (k := 1) (by decide) hgr.2 (paint_agree wr κ 2) hgr.1 (n := (X 1).length + m) (by rw [List.length_append, HNl.out]; omega);have HSh2 := qh (HSh.out.stored (k := 1) (by decide) hst.1 hst.2 (paint_agree wr κ 2));have HP2 := qh (pure_old HP.out hst.2 (fun b hb => HSh.out.pi.old b (by rw [HRw.out]; exact hb)) (fun b e => by omega));have HX2 : Hid (RfX (root :: nodes) rows (0 + 1) 0 (setAt X 1 (X 1 ++ intsV q.l)) qs) := qh (by
     have h := HX.out;refine ⟨h.x0, ?_, h.x2, ?_, ?_, h.x4⟩
     ·show X 1 ++ intsV q.l = _
      rw [HX1.out, ← HQ1.out.2.1 HPl.out, take_flat rows 0 HPl.out]
      rfl
     ·rw [h.ql, ownsP_one]
      rfl
     ·have h3 := h.x3
      rw [rshJ_zero] at h3 ⊢;rw [shP_one];exact h3)
    clear hst hgr hO7 hg7 hf7 r3 f3 hX7 k1 hP0 hc0 HQ HC0
    go_wp2_with fail
    go_roundw
    case rel => exact ⟨0 + 1, _, _, _, _, _, by omega, by go_num, HSh2, HX2, HP2⟩
    case measure => simp [intOf]; omega
   ·have hpb : ((p : Int) == 0) = false := beq_eq_false_iff_ne.2 (by omega)
    have hp1 : 0 < p := Nat.pos_of_ne_zero hp0;have hnr0 : 0 < nr := by omega
    have HOn : Hid (∀ W, Pure w W → Calls Tryz.prog 55 #[.slice q.a m q.c] W (OwnI (onP [] q.l) W)) := qh (fun W hP => by
     have h := ronce_any q.l q.a q.c W ((HQ1.out.2.2.1.pure hP).1) HQ1.out.2.2.2;rw [← HMm.out] at h;exact h)
    have HGd : Hid (rows.getD p [] = q.l) := qh (by rw [getD_at rows p HPl.out, HQ1.out.2.1]);have h0r : 0 < rs.length := by have := HNr.out; omega
    obtain ⟨q0, hq0⟩ : ∃ z, z = rs[0] := ⟨_, rfl⟩;have HHd : Hid (rows.headD [] = q0.l) := qh (by
     have h1 : 0 < rows.length := by have := HPl.out; omega
     rw [head_at rows h1, hq0];have e := HRows.out;subst e;rw [lsR_get h0r])
    have HH00 : Hid (∀ x W, Pure w W → Calls Tryz.prog 57 #[.slice q0.a q0.l.length q0.c, .int .i64 x] W (BoolTo (decide (x ∈ q0.l)) W)) := qh (fun x W hP => by
     rw [hq0];exact rhas_any x _ _ _ W ((HR.out.pure hP).has _ (List.getElem_mem h0r)) (by have := HM.out _ (List.getElem_mem h0r); omega))
    have HR0 : Hid (∀ W, Pure w W → W.cell? ⟨b, o, none⟩ = some (.slice q0.a q0.l.length q0.c)) := qh (fun W hP => by
     obtain ⟨b', o', e', hc'⟩ := (HR.out.pure hP).get h0r;cases e'
     rw [hq0];exact hc')
    generalize q0.l.length = m0 at *;generalize q0.a = q0a at *;generalize q0.c = q0c at *;generalize q.a = qa at *;generalize q.c = qc at *;clear hp0 hq0 h0r
    go_wp2_with fail
    refine (HOn.out wr HP.out).mono ?_;rintro e W2 ⟨al, cl, he, hOl, hP2⟩;obtain ⟨Lr, hLr⟩ : ∃ z, z = onP [] q.l := ⟨_, rfl⟩;rw [← hLr] at he hOl;have HLp : Hid (onP [] (rows.getD p []) = Lr) := qh (by rw [HGd.out, hLr]);have HLm : Hid (∀ x ∈ Lr, x ∈ q.l) := qh (fun x hx => by rw [hLr] at hx; exact (onP_mem.1 hx).resolve_left (by simp));have hLl : Lr.length ≤ m := by rw [hLr, HMm.out]; have := onP_len [] q.l; simpa using this
    obtain ⟨ln, hln⟩ : ∃ z, z = Lr.length := ⟨_, rfl⟩;rw [← hln] at he hOl hLl;subst he;have HLn := qh hln;have hRwr : R ≤ wr.heap.size := HSh.out.pi.rs;have hag := paint_agree wr κ 11;have HL2 : Hid (OwnC (paint wr κ 11) R 11 3 W2 al cl (intsV Lr)) := qh ⟨by rw [intsV_len, ← HLn.out]; exact own_base hOl hRwr, fun x hx => paint_new (hOl.lt x.block (by rw [hx]; rfl)).1⟩;have HSh2 : Hid (RfC 40 R tb (R + 1) (paint wr κ 11) A C X qs W2) := qh (HSh.out.keep hP2 (fun _ e => e.elim) hag);have HP2 := qh (HP.out.pure hP2);generalize paint wr κ 11 = κ2 at HL2 HSh2;clear hag hRwr hOl hP2 hln hLr hc HSh HP htbl HOn
    go_wp2_with fail
    go_loopw [13, 11] (fun i s wr => ∃ (j : Nat) (κ : Nat → Nat) (A : Nat → Option Addr) (C : Nat → Nat) (X : Nat → List Value) (a6 : Option Addr) (c6 m6 : Nat), j ≤ ln ∧ i = .int .i64 j ∧ s = .slice a6 m6 c6 ∧ m6 ≤ j ∧ Hid (m6 = (rownJ rows p j).length) ∧ Hid (RfC 40 R tb (R + 1) κ A C X qs wr) ∧ Hid (OwnC κ R 11 3 wr al cl (intsV Lr)) ∧ Hid (OwnC κ R (20 + qs.length) 3 wr a6 c6 (intsV (rownJ rows p j))) ∧ Hid (RfX (root :: nodes) rows p j X qs) ∧ Hid (Pure w wr)) (fun i _ _ => ln - (intOf i).toNat)
    case atStart => exact ⟨0, κ2, A, C, X, none, 0, 0, Nat.zero_le _, rfl, rfl, Nat.zero_le _, qh (by rw [rownJ_zero]; rfl), HSh2, HL2, qh (by rw [rownJ_zero]; exact OwnC.nil _ _ _ _ _), HX, HP2⟩
    case round =>
     clear HSh2 HL2 HX HP2;obtain ⟨j, κ, A, C, X, a6, c6, m6, hj, rfl, rfl, hm6, HM6, HSh, HL, HOw, HX, HP⟩ := hrel;have htbl : tb < wr.heap.size := HSh.out.pi.blk.lt
     by_cases hltj : j < ln
     ·have hkj : (j : Int) < (ln : Int) := by omega
      have hj0 : (0 : Int) ≤ (j : Int) := by omega
      have hjL : j < Lr.length := by rw [← HLn.out]; exact hltj
      have hjG : j < (onP [] (rows.getD p [])).length := by rw [HLp.out]; exact hjL
      obtain ⟨lb, lo, rfl, hlc⟩ := iV_at HL.out.read.1 j hjL;obtain ⟨x, hx⟩ : ∃ z, z = Lr[j] := ⟨_, rfl⟩;rw [← hx] at hlc;have hxe : (onP [] (rows.getD p []))[j] = x := by rw [hx]; simp only [HLp.out]
      have HSj := qh (rshJ_step rows p j hjG hxe);have HOj := qh (rownJ_step rows p j hjG hxe);have hup : 1 ≤ manyP rows x := many_pos rows p HPl.out (by rw [HQ1.out.2.1 HPl.out]; exact HLm.out x (by rw [hx]; exact List.getElem_mem hjL));obtain ⟨u, hu⟩ : ∃ z, z = manyP rows x := ⟨_, rfl⟩;have HMx : Hid (∀ W, Pure w W → Calls Tryz.prog 56 #[.slice (some ⟨b, o, none⟩) nr c, .int .i64 x] W (IntTo ((u : Nat) : Int) W)) := qh (fun W hP => by rw [hu]; exact HMany.out x W hP);have HCo : Hid (condS rows x = decide (1 < u ∧ x ∉ q0.l)) := qh (by unfold condS; rw [HHd.out, hu]);rw [← hu] at HOj hup;have HH0 := qh (HH00.out x);clear hx hxe hjG hu;have hn3 : (X 3).length ≤ 200000000 := by rw [HX.out.x3, intsV_len]; have := rshJ_len rows p j; have := HT.out; omega
      by_cases hu1 : u = 1
      ·have hub : ((u : Int) == 1) = true := by rw [hu1]; rfl
       have hud : decide ((1 : Int) < (u : Int)) = false := decide_eq_false (by omega);have HO1 := qh (HOj.out.trans (if_pos hu1));have HS1 : Hid (rshJ rows p (j + 1) = rshJ rows p j) := qh (by rw [HSj.out, if_neg (by rw [HCo.out, decide_eq_false (fun h => by omega)]; decide)]);clear hu1
       go_wp2_with fail
       refine (HMx.out wr HP.out).mono ?_;rintro e W3 ⟨rfl, hP3⟩;have hlc3 := hP3.cell_some hlc id;obtain ⟨W1, hW1⟩ : ∃ z, z = W3.alloc (.cells #[.int .i64 x] 3) := ⟨_, rfl⟩;have HPa : Hid (Pure wr W1) := qh (by rw [hW1]; exact hP3.pure (ext_alloc _ _));have HRw1 : Hid (RowOf W1 (some ⟨W3.heap.size, 0, none⟩) [.int .i64 x]) := qh (by rw [hW1]; exact row_at _ rfl rfl);have HW1' : Hid (W3.alloc (.cells #[.int .i64 x] 3) = W1) := qh hW1.symm;have HRs : Hid (R ≤ W1.heap.size) := qh (Nat.le_trans HSh.out.pi.rs HPa.out.size);have HOs : Hid (W1.ownsRow R 3 1 (.slice a6 m6 c6) m6 (intsV (rownJ rows p j))) := qh (by
        have h := (HOw.out.pure HPa.out).row;rw [intsV_len, ← HM6.out] at h;exact h)
       have HB1 : Hid ((m6 + 1) * 8 ≤ 140737488355328) := qh (by omega);have HB2 : Hid (m6 + 1 ≤ maxLen) := qh (by unfold maxLen; omega);clear hW1 hP3
       go_upto_region 15 with (at_builtin; rw [HW1'.out]; refine wpList_append_fresh rfl (.tmp 54) (.tmp 59) 35 rfl R 3 (.int .i64 0) 1 8 Tryz.underlying35 infoI rfl (by decide) (.slice a6 m6 c6) m6 (intsV (rownJ rows p j)) rfl HOs.out (some ⟨W3.heap.size, 0, none⟩) 1 1 [.int .i64 x] rfl (fun e => by cases e) rfl HRw1.out (fun u hu => by simp at hu; subst hu; rfl) (m6 + 1) rfl (intsV (rownJ rows p j) ++ [.int .i64 x]) rfl HB1.out HB2.out HRs.out ?_; intro a8 c8 W8 hO8 hg8 hf8)
       have hgr := HOw.out.grow (a2 := a8) (c2 := c8) (u := .int .i64 x) HPa.out (by rw [intsV_len, ← HM6.out]; exact hg8) (by rw [intsV_len, ← HM6.out]; exact hO8) (by rw [intsV_len, ← HM6.out]; exact hf8);obtain ⟨κ8, hκ8⟩ : ∃ z, z = paint wr κ (20 + qs.length) := ⟨_, rfl⟩;have hag : Agree wr κ κ8 := by rw [hκ8]; exact paint_agree wr κ _
       rw [← hκ8] at hgr;have HSh8 := qh (HSh.out.keep hgr.2 (fun b e => Or.inr (by omega)) hag);have HL8 := qh (HL.out.keep hgr.2 (fun b hb e => by omega) hag);have HOw8 : Hid (OwnC κ8 R (20 + qs.length) 3 W8 a8 c8 (intsV (rownJ rows p (j + 1)))) := qh (by rw [HO1.out, intsV_snoc]; exact hgr.1);have HX9 : Hid (RfX (root :: nodes) rows p (j + 1) X qs) := qh ⟨HX.out.x0, HX.out.x1, HX.out.x2, HX.out.ql, by rw [HS1.out]; exact HX.out.x3, HX.out.x4⟩;have HM8 : Hid (m6 + 1 = (rownJ rows p (j + 1)).length) := qh (by rw [HO1.out, List.length_append, ← HM6.out]; rfl);have HP8 := qh (pure_old HP.out hgr.2 (fun b hb => HSh.out.pi.old b (by rw [HRw.out]; exact hb)) (fun b e => by omega));have HLc : Hid (∀ W, Pure W8 W → W.cell? ⟨lb, lo + j, none⟩ = some (.int .i64 x)) := qh (fun W hP => hP.cell_some (hgr.2.cell_some hlc (fun e => by
        have h1 := HL.out.col ⟨lb, lo, none⟩ rfl;simp only at h1 e
        omega)) id)
       clear hgr hκ8 hag hO8 hg8 hf8 HOs hlc hlc3;have hP0 : Pure W8 W8.drew := (Ext.refl _ W8).drew;refine region_start (fun _ => False) (by kernel_rfl) ?_
       try simp only [Act.put, sA, sZ, sS]
       refine rT 0 61 ?_;refine rT 1 62 ?_;refine rT 2 63 ?_;refine rT 3 64 ?_;refine rU 4 65 (v := ?vra4) (fun w' hS => ?hra4) ?rra4
       case hra4 => (have e := HLc.out w' (hP0.trans hS (fun _ _ e => e)); go_simp; with_reducible rfl)
       try simp only [Act.put, sA, sZ, sS]
       refine rR 5 (fun K hK => ?_)
       go_simp
       refine (HMx.out _ (HP8.out.pure hP0)).mono ?_;rintro e wa ⟨rfl, hP⟩;have hP0 := hP0.pure hP;refine hK.out _ _ (hP) (fun hHeld => ?_);clear hK K hHeld;refine region_now (hP) ?_
       try simp only [Act.put, sA, sZ, sS]
       refine rT 6 67 ?_;refine rT 7 68 ?_;refine region_skip 8 69 rfl rfl (by kernel_rfl) (by kernel_rfl) (by kernel_rfl) (fun _ _ _ h => h) (by rfl) ?_
       try simp only [Act.put, sA, sZ, sS]
       refine region_skip 9 70 rfl rfl (by kernel_rfl) (by kernel_rfl) (by kernel_rfl) (fun _ _ _ h => h) (by rfl) ?_
       try simp only [Act.put, sA, sZ, sS]
       refine region_skip 10 71 rfl rfl (by kernel_rfl) (by kernel_rfl) (by kernel_rfl) (fun _ _ _ h => h) (by rfl) ?_
       try simp only [Act.put, sA, sZ, sS]
       refine region_skip 11 72 rfl rfl (by kernel_rfl) (by kernel_rfl) (by kernel_rfl) (fun _ _ _ h => h) (by rfl) ?_
       try simp only [Act.put, sA, sZ, sS]
       refine region_skip 12 73 rfl rfl (by kernel_rfl) (by kernel_rfl) (by kernel_rfl) (fun _ _ _ h => h) (by rfl) ?_
       try simp only [Act.put, sA, sZ, sS]
       refine region_skip 13 74 rfl rfl (by kernel_rfl) (by kernel_rfl) (by kernel_rfl) (fun _ _ _ h => h) (by rfl) ?_
       try simp only [Act.put, sA, sZ, sS]
       refine region_skip 14 75 rfl rfl (by kernel_rfl) (by kernel_rfl) (by kernel_rfl) (fun _ _ _ h => h) (by rfl) ?_
       try simp only [Act.put, sA, sZ, sS]
       refine region_skip 15 76 rfl rfl (by kernel_rfl) (by kernel_rfl) (by kernel_rfl) (fun _ _ _ h => h) (by rfl) ?_
       try simp only [Act.put, sA, sZ, sS]
       refine region_skip 16 77 rfl rfl (by kernel_rfl) (by kernel_rfl) (by kernel_rfl) (fun _ _ _ h => h) (by rfl) ?_
       try simp only [Act.put, sA, sZ, sS]
       refine rT 17 78 ?_;refine rT 18 79 ?_;refine region_skip 19 80 rfl rfl (by kernel_rfl) (by kernel_rfl) (by kernel_rfl) (fun _ _ _ h => h) (by rfl) ?_
       try simp only [Act.put, sA, sZ, sS]
       refine region_skip 20 81 rfl rfl (by kernel_rfl) (by kernel_rfl) (by kernel_rfl) (fun _ _ _ h => h) (by rfl) ?_
       try simp only [Act.put, sA, sZ, sS]
       refine region_skip 21 82 rfl rfl (by kernel_rfl) (by kernel_rfl) (by kernel_rfl) (fun _ _ _ h => h) (by rfl) ?_
       try simp only [Act.put, sA, sZ, sS]
       refine region_skip 22 83 rfl rfl (by kernel_rfl) (by kernel_rfl) (by kernel_rfl) (fun _ _ _ h => h) (by rfl) ?_
       try simp only [Act.put, sA, sZ, sS]
       refine region_skip 23 84 rfl rfl (by kernel_rfl) (by kernel_rfl) (by kernel_rfl) (fun _ _ _ h => h) (by rfl) ?_
       try simp only [Act.put, sA, sZ, sS]
       refine region_skip 24 85 rfl rfl (by kernel_rfl) (by kernel_rfl) (by kernel_rfl) (fun _ _ _ h => h) (by rfl) ?_
       try simp only [Act.put, sA, sZ, sS]
       refine region_skip 25 86 rfl rfl (by kernel_rfl) (by kernel_rfl) (by kernel_rfl) (fun _ _ _ h => h) (by rfl) ?_
       try simp only [Act.put, sA, sZ, sS]
       refine region_skip 26 87 rfl rfl (by kernel_rfl) (by kernel_rfl) (by kernel_rfl) (fun _ _ _ h => h) (by rfl) ?_
       try simp only [Act.put, sA, sZ, sS]
       refine rT 27 88 ?_;refine wpAnyH_done (by kernel_rfl) ?_ _;have HSh9 := qh (HSh8.out.pure hP0);have HL9 := qh (HL8.out.pure hP0);have HOw9 := qh (HOw8.out.pure hP0);have HP9 := qh (HP8.out.pure hP0);clear hP0
       go_wp2_with fail
       go_roundw
       case rel => exact ⟨j + 1, κ8, A, C, X, a8, c8, m6 + 1, by omega, by go_num, rfl, by omega, HM8, HSh9, HL9, HOw9, HX9, HP9⟩
       case measure => simp [intOf]; omega
      ·have hub : ((u : Int) == 1) = false := beq_eq_false_iff_ne.2 (by omega)
       have hud : decide ((1 : Int) < (u : Int)) = true := decide_eq_true (by omega);have HU1 : Hid (1 < u) := qh (by omega);have HO1 := qh (HOj.out.trans (if_neg hu1));clear hu1
       go_wp2_with fail
       refine (HMx.out wr HP.out).mono ?_;rintro e W8 ⟨rfl, hP3⟩
       go_upto_region 15 with (fail)
       have HSh8 := qh (HSh.out.pure hP3);have HL8 := qh (HL.out.pure hP3);have HOw8 : Hid (OwnC κ R (20 + qs.length) 3 W8 a6 c6 (intsV (rownJ rows p (j + 1)))) := qh (by rw [HO1.out]; exact HOw.out.pure hP3);have HM8 : Hid (m6 = (rownJ rows p (j + 1)).length) := qh (by rw [HO1.out]; exact HM6.out);have HP8 := qh (HP.out.pure hP3);have HLc : Hid (∀ W, Pure W8 W → W.cell? ⟨lb, lo + j, none⟩ = some (.int .i64 x)) := qh (fun W hP => (hP3.pure hP).cell_some hlc id);have HK3 : Hid (∀ W, Pure W8 W → W.cell? ⟨tb, 3, none⟩ = some (.slice (A 3) (X 3).length (C 3))) := qh (fun W hP => ((HSh8.out.pure hP).pi.cell 3 (by decide)).1);have HHs0 : Hid (∀ W, Pure W8 W → Calls Tryz.prog 57 #[.slice (A 3) (X 3).length (C 3), .int .i64 x] W (BoolTo (decide (x ∈ rshJ rows p j)) W)) := qh (fun W hP => by
        have h0 := ((HSh8.out.pure hP).pi.row 3 (by decide)).read.1;rw [HX.out.x3] at h0;have e : (X 3).length = (rshJ rows p j).length := by rw [HX.out.x3, intsV_len]
        rw [e];exact rhas_any x (A 3) (C 3) _ W h0 (by rw [← e]; omega))
       clear hlc hP3
       by_cases hin0 : x ∈ q0.l
       ·rw [decide_eq_true hin0] at HH0
        have HX9 : Hid (RfX (root :: nodes) rows p (j + 1) X qs) := qh ⟨HX.out.x0, HX.out.x1, HX.out.x2, HX.out.ql, by rw [HSj.out, if_neg (by rw [HCo.out, decide_eq_false (fun h => h.2 hin0)]; decide)]; exact HX.out.x3, HX.out.x4⟩;clear hin0;have hP0 : Pure W8 W8.drew := (Ext.refl _ W8).drew;refine region_start (fun _ => False) (by kernel_rfl) ?_
        try simp only [Act.put, sA, sZ, sS]
        refine rT 0 61 ?_;refine rT 1 62 ?_;refine rT 2 63 ?_;refine rT 3 64 ?_;refine rU 4 65 (v := ?vrb4) (fun w' hS => ?hrb4) ?rrb4
        case hrb4 => (have e := HLc.out w' (hP0.trans hS (fun _ _ e => e)); go_simp; with_reducible rfl)
        try simp only [Act.put, sA, sZ, sS]
        refine rR 5 (fun K hK => ?_)
        go_simp
        refine (HMx.out _ (HP8.out.pure hP0)).mono ?_;rintro e wa ⟨rfl, hP⟩;have hP0 := hP0.pure hP;refine hK.out _ _ (hP) (fun hHeld => ?_);clear hK K hHeld;refine region_now (hP) ?_
        try simp only [Act.put, sA, sZ, sS]
        refine rT 6 67 ?_;refine rT 7 68 ?_;refine rT 8 69 ?_;refine rT 9 70 ?_;refine rU 10 71 (v := ?vrb10) (fun w' hS => ?hrb10) ?rrb10
        case hrb10 => (have e := HR0.out w' ((HP8.out.pure hP0).trans hS (fun _ _ e => e)); go_simp; with_reducible rfl)
        try simp only [Act.put, sA, sZ, sS]
        refine rT 11 72 ?_;refine rT 12 73 ?_;refine rT 13 74 ?_;refine rU 14 75 (v := ?vrb14) (fun w' hS => ?hrb14) ?rrb14
        case hrb14 => (have e := HLc.out w' (hP0.trans hS (fun _ _ e => e)); go_simp; with_reducible rfl)
        try simp only [Act.put, sA, sZ, sS]
        refine rR 15 (fun K hK => ?_)
        go_simp
        refine (HH0.out _ (HP8.out.pure hP0)).mono ?_;rintro e wa ⟨rfl, hP⟩;have hP0 := hP0.pure hP;refine hK.out _ _ (hP) (fun hHeld => ?_);clear hK K hHeld;refine region_now (hP) ?_
        try simp only [Act.put, sA, sZ, sS]
        refine rT 16 77 ?_;refine rT 17 78 ?_;refine rT 18 79 ?_;refine region_skip 19 80 rfl rfl (by kernel_rfl) (by kernel_rfl) (by kernel_rfl) (fun _ _ _ h => h) (by rfl) ?_
        try simp only [Act.put, sA, sZ, sS]
        refine region_skip 20 81 rfl rfl (by kernel_rfl) (by kernel_rfl) (by kernel_rfl) (fun _ _ _ h => h) (by rfl) ?_
        try simp only [Act.put, sA, sZ, sS]
        refine region_skip 21 82 rfl rfl (by kernel_rfl) (by kernel_rfl) (by kernel_rfl) (fun _ _ _ h => h) (by rfl) ?_
        try simp only [Act.put, sA, sZ, sS]
        refine region_skip 22 83 rfl rfl (by kernel_rfl) (by kernel_rfl) (by kernel_rfl) (fun _ _ _ h => h) (by rfl) ?_
        try simp only [Act.put, sA, sZ, sS]
        refine region_skip 23 84 rfl rfl (by kernel_rfl) (by kernel_rfl) (by kernel_rfl) (fun _ _ _ h => h) (by rfl) ?_
        try simp only [Act.put, sA, sZ, sS]
        refine region_skip 24 85 rfl rfl (by kernel_rfl) (by kernel_rfl) (by kernel_rfl) (fun _ _ _ h => h) (by rfl) ?_
        try simp only [Act.put, sA, sZ, sS]
        refine region_skip 25 86 rfl rfl (by kernel_rfl) (by kernel_rfl) (by kernel_rfl) (fun _ _ _ h => h) (by rfl) ?_
        try simp only [Act.put, sA, sZ, sS]
        refine region_skip 26 87 rfl rfl (by kernel_rfl) (by kernel_rfl) (by kernel_rfl) (fun _ _ _ h => h) (by rfl) ?_
        try simp only [Act.put, sA, sZ, sS]
        refine rT 27 88 ?_;refine wpAnyH_done (by kernel_rfl) ?_ _;have HSh9 := qh (HSh8.out.pure hP0);have HL9 := qh (HL8.out.pure hP0);have HOw9 := qh (HOw8.out.pure hP0);have HP9 := qh (HP8.out.pure hP0);clear hP0
        go_wp2_with fail
        go_roundw
        case rel => exact ⟨j + 1, κ, A, C, X, a6, c6, m6, by omega, by go_num, rfl, by omega, HM8, HSh9, HL9, HOw9, HX9, HP9⟩
        case measure => simp [intOf]; omega
       ·rw [decide_eq_false hin0] at HH0
        have HS1 : Hid (rshJ rows p (j + 1) = if x ∈ rshJ rows p j then rshJ rows p j else rshJ rows p j ++ [x]) := qh (by rw [HSj.out, if_pos (by rw [HCo.out]; exact decide_eq_true ⟨HU1.out, hin0⟩)])
        clear hin0
        by_cases hin1 : x ∈ rshJ rows p j
        ·have HHs := qh (fun W hP => by
          have h := HHs0.out W hP;rw [decide_eq_true hin1] at h;exact h)
         have HX9 : Hid (RfX (root :: nodes) rows p (j + 1) X qs) := qh ⟨HX.out.x0, HX.out.x1, HX.out.x2, HX.out.ql, by rw [HS1.out, if_pos hin1]; exact HX.out.x3, HX.out.x4⟩;clear hin1;have hP0 : Pure W8 W8.drew := (Ext.refl _ W8).drew;refine region_start (fun _ => False) (by kernel_rfl) ?_
         try simp only [Act.put, sA, sZ, sS]
         refine rT 0 61 ?_;refine rT 1 62 ?_;refine rT 2 63 ?_;refine rT 3 64 ?_;refine rU 4 65 (v := ?vrc4) (fun w' hS => ?hrc4) ?rrc4
         case hrc4 => (have e := HLc.out w' (hP0.trans hS (fun _ _ e => e)); go_simp; with_reducible rfl)
         try simp only [Act.put, sA, sZ, sS]
         refine rR 5 (fun K hK => ?_)
         go_simp
         refine (HMx.out _ (HP8.out.pure hP0)).mono ?_;rintro e wa ⟨rfl, hP⟩;have hP0 := hP0.pure hP;refine hK.out _ _ (hP) (fun hHeld => ?_);clear hK K hHeld;refine region_now (hP) ?_
         try simp only [Act.put, sA, sZ, sS]
         refine rT 6 67 ?_;refine rT 7 68 ?_;refine rT 8 69 ?_;refine rT 9 70 ?_;refine rU 10 71 (v := ?vrc10) (fun w' hS => ?hrc10) ?rrc10
         case hrc10 => (have e := HR0.out w' ((HP8.out.pure hP0).trans hS (fun _ _ e => e)); go_simp; with_reducible rfl)
         try simp only [Act.put, sA, sZ, sS]
         refine rT 11 72 ?_;refine rT 12 73 ?_;refine rT 13 74 ?_;refine rU 14 75 (v := ?vrc14) (fun w' hS => ?hrc14) ?rrc14
         case hrc14 => (have e := HLc.out w' (hP0.trans hS (fun _ _ e => e)); go_simp; with_reducible rfl)
         try simp only [Act.put, sA, sZ, sS]
         refine rR 15 (fun K hK => ?_)
         go_simp
         refine (HH0.out _ (HP8.out.pure hP0)).mono ?_;rintro e wa ⟨rfl, hP⟩;have hP0 := hP0.pure hP;refine hK.out _ _ (hP) (fun hHeld => ?_);clear hK K hHeld;refine region_now (hP) ?_
         try simp only [Act.put, sA, sZ, sS]
         refine rT 16 77 ?_;refine rT 17 78 ?_;refine rT 18 79 ?_;refine rT 19 80 ?_;refine rU 20 81 (v := ?vrc20) (fun w' hS => ?hrc20) ?rrc20
         case hrc20 => (have e := HK3.out w' (hP0.trans hS (fun _ _ e => e)); go_simp; with_reducible rfl)
         try simp only [Act.put, sA, sZ, sS]
         refine rT 21 82 ?_;refine rT 22 83 ?_;refine rT 23 84 ?_;refine rU 24 85 (v := ?vrc24) (fun w' hS => ?hrc24) ?rrc24
         case hrc24 => (have e := HLc.out w' (hP0.trans hS (fun _ _ e => e)); go_simp; with_reducible rfl)
         try simp only [Act.put, sA, sZ, sS]
         refine rR 25 (fun K hK => ?_)
         go_simp
         refine (HHs.out _ hP0).mono ?_;rintro e wa ⟨rfl, hP⟩;have hP0 := hP0.pure hP;refine hK.out _ _ (hP) (fun hHeld => ?_);clear hK K hHeld;refine region_now (hP) ?_
         try simp only [Act.put, sA, sZ, sS]
         refine rT 26 87 ?_;refine rT 27 88 ?_;refine wpAnyH_done (by kernel_rfl) ?_ _;have HSh9 := qh (HSh8.out.pure hP0);have HL9 := qh (HL8.out.pure hP0);have HOw9 := qh (HOw8.out.pure hP0);have HP9 := qh (HP8.out.pure hP0);clear hP0
         go_wp2_with fail
         go_roundw
         case rel => exact ⟨j + 1, κ, A, C, X, a6, c6, m6, by omega, by go_num, rfl, by omega, HM8, HSh9, HL9, HOw9, HX9, HP9⟩
         case measure => simp [intOf]; omega
        ·have HHs := qh (fun W hP => by
          have h := HHs0.out W hP;rw [decide_eq_false hin1] at h;exact h)
         have HX1 : Hid (intsV (rshJ rows p (j + 1)) = X 3 ++ [.int .i64 x]) := qh (by rw [HS1.out, if_neg hin1, intsV_snoc, ← HX.out.x3]);clear hin1;have hP0 : Pure W8 W8.drew := (Ext.refl _ W8).drew;refine region_start (fun _ => False) (by kernel_rfl) ?_
         try simp only [Act.put, sA, sZ, sS]
         refine rT 0 61 ?_;refine rT 1 62 ?_;refine rT 2 63 ?_;refine rT 3 64 ?_;refine rU 4 65 (v := ?vrd4) (fun w' hS => ?hrd4) ?rrd4
         case hrd4 => (have e := HLc.out w' (hP0.trans hS (fun _ _ e => e)); go_simp; with_reducible rfl)
         try simp only [Act.put, sA, sZ, sS]
         refine rR 5 (fun K hK => ?_)
         go_simp
         refine (HMx.out _ (HP8.out.pure hP0)).mono ?_;rintro e wa ⟨rfl, hP⟩;have hP0 := hP0.pure hP;refine hK.out _ _ (hP) (fun hHeld => ?_);clear hK K hHeld;refine region_now (hP) ?_
         try simp only [Act.put, sA, sZ, sS]
         refine rT 6 67 ?_;refine rT 7 68 ?_;refine rT 8 69 ?_;refine rT 9 70 ?_;refine rU 10 71 (v := ?vrd10) (fun w' hS => ?hrd10) ?rrd10
         case hrd10 => (have e := HR0.out w' ((HP8.out.pure hP0).trans hS (fun _ _ e => e)); go_simp; with_reducible rfl)
         try simp only [Act.put, sA, sZ, sS]
         refine rT 11 72 ?_;refine rT 12 73 ?_;refine rT 13 74 ?_;refine rU 14 75 (v := ?vrd14) (fun w' hS => ?hrd14) ?rrd14
         case hrd14 => (have e := HLc.out w' (hP0.trans hS (fun _ _ e => e)); go_simp; with_reducible rfl)
         try simp only [Act.put, sA, sZ, sS]
         refine rR 15 (fun K hK => ?_)
         go_simp
         refine (HH0.out _ (HP8.out.pure hP0)).mono ?_;rintro e wa ⟨rfl, hP⟩;have hP0 := hP0.pure hP;refine hK.out _ _ (hP) (fun hHeld => ?_);clear hK K hHeld;refine region_now (hP) ?_
         try simp only [Act.put, sA, sZ, sS]
         refine rT 16 77 ?_;refine rT 17 78 ?_;refine rT 18 79 ?_;refine rT 19 80 ?_;refine rU 20 81 (v := ?vrd20) (fun w' hS => ?hrd20) ?rrd20
         case hrd20 => (have e := HK3.out w' (hP0.trans hS (fun _ _ e => e)); go_simp; with_reducible rfl)
         try simp only [Act.put, sA, sZ, sS]
         refine rT 21 82 ?_;refine rT 22 83 ?_;refine rT 23 84 ?_;refine rU 24 85 (v := ?vrd24) (fun w' hS => ?hrd24) ?rrd24
         case hrd24 => (have e := HLc.out w' (hP0.trans hS (fun _ _ e => e)); go_simp; with_reducible rfl)
         try simp only [Act.put, sA, sZ, sS]
         refine rR 25 (fun K hK => ?_)
         go_simp
         refine (HHs.out _ hP0).mono ?_;rintro e wa ⟨rfl, hP⟩;have hP0 := hP0.pure hP;refine hK.out _ _ (hP) (fun hHeld => ?_);clear hK K hHeld;refine region_now (hP) ?_
         try simp only [Act.put, sA, sZ, sS]
         refine rT 26 87 ?_;refine rT 27 88 ?_;refine wpAnyH_done (by kernel_rfl) ?_ _;have HSh9 := qh (HSh8.out.pure hP0);have HL9 := qh (HL8.out.pure hP0);have HOw9 := qh (HOw8.out.pure hP0);have HP9 := qh (HP8.out.pure hP0);have HLc9 := qh (fun W hP => HLc.out W (hP0.pure hP));clear hP0
         go_wp2_with fail
         have hd : Pure wa wa.drew := (Ext.refl _ wa).drew;have k3w : wa.cell? ⟨tb, 3, none⟩ = some (.slice (A 3) (X 3).length (C 3)) := (HSh9.out.pi.cell 3 (by decide)).1;have k3 : wa.drew.cell? ⟨tb, 3, none⟩ = some (.slice (A 3) (X 3).length (C 3)) := ((HSh9.out.pure hd).pi.cell 3 (by decide)).1;have ha : Pure wa (wa.drew.alloc (.cells #[.int .i64 x] 3)) := hd.pure (ext_alloc _ _);have k3a : (wa.drew.alloc (.cells #[.int .i64 x] 3)).cell? ⟨tb, 3, none⟩ = some (.slice (A 3) (X 3).length (C 3)) := ((HSh9.out.pure ha).pi.cell 3 (by decide)).1;have HC5 : Hid (∀ w', Ext (fun b => κ b = 4 ∨ κ b = 9) wa.drew w' → w'.cell? ⟨lb, lo + j, none⟩ = some (.int .i64 x)) := qh (fun w' hS => hS.cell_some (HLc9.out _ hd) (fun e => by
          have h1 := HL9.out.col ⟨lb, lo, none⟩ rfl;simp only at h1 e
          omega))
         have HPa := qh ha;have HOs : Hid ((wa.drew.alloc (.cells #[.int .i64 x] 3)).ownsRow R 3 1 (.slice (A 3) (X 3).length (C 3)) (X 3).length (X 3)) := qh ((HSh9.out.pi.row 3 (by decide)).pure ha).row;have HRw1 : Hid (RowOf (wa.drew.alloc (.cells #[.int .i64 x] 3)) (some ⟨wa.drew.heap.size, 0, none⟩) [.int .i64 x]) := qh (row_at _ rfl rfl);have HRs : Hid (R ≤ (wa.drew.alloc (.cells #[.int .i64 x] 3)).heap.size) := qh (Nat.le_trans HSh9.out.pi.rs ha.size);have HQ : Hid (∀ W7, (wa.drew.alloc (.cells #[.int .i64 x] 3)).grownBy W7 (Value.slice (A 3) (X 3).length (C 3)).ownBlock → (W7.cell? ⟨tb, 3, none⟩ = some (.slice (A 3) (X 3).length (C 3)) ∧ W7.frozen? ⟨tb, 3, none⟩ = false) ∧ Ext (fun b => κ b = 4 ∨ κ b = 9) (wa.drew.alloc (.cells #[.int .i64 x] 3)) W7) := qh (fun W7 hg => ⟨HSh9.out.cells (k := 3) (by decide) ha hg, (ext_of_grown hg).mono (fun i _ e => by
          obtain ⟨y, hy, hyb⟩ := own_some e;rw [← hyb];exact Or.inl ((HSh9.out.pi.row 3 (by decide)).col y hy))⟩)
         have HKb : Hid (κ tb = 9) := qh HSh9.out.pi.kb;have HB1 : Hid (((X 3).length + 1) * 8 ≤ 140737488355328) := qh (by omega);have HB2 : Hid ((X 3).length + 1 ≤ maxLen) := qh (by unfold maxLen; omega);have htb9 : tb < wa.heap.size := HSh9.out.pi.blk.lt;clear ha hd;refine region_start (fun b => κ b = 4 ∨ κ b = 9) (by kernel_rfl) ?_
         try simp only [Act.put, sA, sZ, sS]
         refine rT 0 89 ?_;refine rT 2 91 ?_;refine rT 3 92 ?_;refine rT 4 93 ?_;refine rU 5 94 (v := ?vga5) (fun w' hS => ?hga5) ?rga5
         case hga5 => (have e := HC5.out w' hS; go_simp; with_reducible rfl)
         try simp only [Act.put, sA, sZ, sS]
         refine wpAnyH_ready (rs := [1, 6]) (by kernel_rfl) (by simp) (AllReadyH.cons rfl (fun K hK => ?_) (AllReadyH.cons rfl (fun K hK => ?_) (AllReadyH.nil)))
         go_simp
         refine hK.out _ _ (Ext.refl _ _) (fun hHeld => ?_);clear hK K hHeld;refine region_now (Ext.refl _ _) ?_
         try simp only [Act.put, sA, sZ, sS]
         refine rR 6 (fun K hK => ?_)
         go_simp
         refine hK.out _ _ ((Ext.refl _ _).alloc _) (fun hHeld => ?_);clear hK K hHeld;refine region_now ((Ext.refl _ _).alloc _) ?_
         try simp only [Act.put, sA, sZ, sS]
         refine rR 7 (fun K hK => ?_);refine step_of_list ?_;refine wpList_append_fresh rfl (.tmp 90) (.tmp 95) 35 rfl R 3 (.int .i64 0) 1 8 Tryz.underlying35 infoI rfl (by decide) (.slice (A 3) (X 3).length (C 3)) (X 3).length (X 3) rfl HOs.out (some ⟨wa.drew.heap.size, 0, none⟩) 1 1 [.int .i64 x] rfl (fun e => by cases e) rfl HRw1.out (fun u hu => by simp at hu; subst hu; rfl) ((X 3).length + 1) rfl (X 3 ++ [.int .i64 x]) rfl HB1.out HB2.out HRs.out ?_
         intro a7 c7 W7 hO7 hg7 hf7
         have r3 := (HQ.out W7 hg7).1.1;have f3 := (HQ.out W7 hg7).1.2;have hX7 := (HQ.out W7 hg7).2;refine hK.out _ _ (hX7) (fun hHeld => ?_);clear hK K hHeld;refine region_now (hX7) ?_
         try simp only [Act.put, sA, sZ, sS]
         refine rT 8 97 ?_;refine rR 9 (fun K hK => ?_)
         go_simp
         refine hK.out _ _ (Ext.setCell (S := fun b => κ b = 4 ∨ κ b = 9) (Ext.refl _ _) (p := ⟨tb, 3, none⟩) (fun _ => Or.inr HKb.out) _) (fun hHeld => ?_);clear hK K hHeld;refine region_now (Ext.setCell (S := fun b => κ b = 4 ∨ κ b = 9) (Ext.refl _ _) (p := ⟨tb, 3, none⟩) (fun _ => Or.inr HKb.out) _) ?_
         try simp only [Act.put, sA, sZ, sS]
         refine wpAnyH_done (by kernel_rfl) ?_ _
         rotate_left
         go_simp
         refine hK.out _ _ ((Ext.refl _ _).alloc _) (fun hHeld => ?_);clear hK K hHeld;refine region_now ((Ext.refl _ _).alloc _) ?_
         try simp only [Act.put, sA, sZ, sS]
         refine rR 1 (fun K hK => ?_)
         go_simp
         refine hK.out _ _ (Ext.refl _ _) (fun hHeld => ?_);clear hK K hHeld;refine region_now (Ext.refl _ _) ?_
         try simp only [Act.put, sA, sZ, sS]
         refine rR 7 (fun K hK => ?_);refine step_of_list ?_;refine wpList_append_fresh rfl (.tmp 90) (.tmp 95) 35 rfl R 3 (.int .i64 0) 1 8 Tryz.underlying35 infoI rfl (by decide) (.slice (A 3) (X 3).length (C 3)) (X 3).length (X 3) rfl HOs.out (some ⟨wa.drew.heap.size, 0, none⟩) 1 1 [.int .i64 x] rfl (fun e => by cases e) rfl HRw1.out (fun u hu => by simp at hu; subst hu; rfl) ((X 3).length + 1) rfl (X 3 ++ [.int .i64 x]) rfl HB1.out HB2.out HRs.out ?_
         intro a7 c7 W7 hO7 hg7 hf7
         have r3 := (HQ.out W7 hg7).1.1;have f3 := (HQ.out W7 hg7).1.2;have hX7 := (HQ.out W7 hg7).2;refine hK.out _ _ (hX7) (fun hHeld => ?_);clear hK K hHeld;refine region_now (hX7) ?_
         try simp only [Act.put, sA, sZ, sS]
         refine rT 8 97 ?_;refine rR 9 (fun K hK => ?_)
         go_simp
         refine hK.out _ _ (Ext.setCell (S := fun b => κ b = 4 ∨ κ b = 9) (Ext.refl _ _) (p := ⟨tb, 3, none⟩) (fun _ => Or.inr HKb.out) _) (fun hHeld => ?_);clear hK K hHeld;refine region_now (Ext.setCell (S := fun b => κ b = 4 ∨ κ b = 9) (Ext.refl _ _) (p := ⟨tb, 3, none⟩) (fun _ => Or.inr HKb.out) _) ?_
         try simp only [Act.put, sA, sZ, sS]
         refine wpAnyH_done (by kernel_rfl) ?_ _
         rotate_left
         all_goals
          have hst := HSh9.out.push (k := 3) (by decide) HPa.out hg7 hO7 hf7 rfl;have hag := paint_agree wa κ 4;have HShn := qh (HSh9.out.stored (k := 3) (by decide) hst.1.pi hst.2 hag);have HLn2 := qh (HL9.out.keep hst.2 (fun b e e2 => by omega) hag);have HOwn := qh (HOw9.out.keep hst.2 (fun b e e2 => by omega) hag);have HXn : Hid (RfX (root :: nodes) rows p (j + 1) (setAt X 3 (X 3 ++ [.int .i64 x])) qs) := qh ⟨HX.out.x0, HX.out.x1, HX.out.x2, HX.out.ql, HX1.out.symm, HX.out.x4⟩;have HPn := qh (pure_old HP9.out hst.2 (fun b hb => HSh9.out.pi.old b (by rw [HRw.out]; exact hb)) (fun b e => by omega));clear hst hag hO7 hg7 hf7 r3 f3 hX7 k3 k3a k3w
          go_simp
          try simp only [Act.put, sA, sZ, sS]
          go_wp2_with fail
          go_roundw
          case rel => exact ⟨j + 1, _, _, _, _, a6, c6, m6, by omega, by go_num, rfl, by omega, HM8, HShn, HLn2, HOwn, HXn, HPn⟩
          case measure => simp [intOf]; omega
     ·have hkj : ¬ (j : Int) < (ln : Int) := by omega
      obtain rfl : j = ln := by omega
      have k2 : wr.cell? ⟨tb, 2, none⟩ = some (.slice (A 2) (X 2).length (C 2)) := (HSh.out.pi.cell 2 (by decide)).1;obtain ⟨W1, hW1⟩ : ∃ z, z = wr.alloc (.cells #[.slice a6 m6 c6] 35) := ⟨_, rfl⟩;have HPa : Hid (Pure wr W1) := qh (by rw [hW1]; exact ext_alloc _ _);have HRw1 : Hid (RowOf W1 (some ⟨wr.heap.size, 0, none⟩) [.slice a6 m6 c6]) := qh (by rw [hW1]; exact row_at _ rfl rfl);have HW1' : Hid (wr.alloc (.cells #[.slice a6 m6 c6] 35) = W1) := qh hW1.symm;have HRs : Hid (R ≤ W1.heap.size) := qh (Nat.le_trans HSh.out.pi.rs HPa.out.size);have HOs : Hid (W1.ownsRow R 35 1 (.slice (A 2) (X 2).length (C 2)) (X 2).length (X 2)) := qh ((HSh.out.pi.row 2 (by decide)).pure HPa.out).row;have HQ : Hid (∀ W7, W1.grownBy W7 (Value.slice (A 2) (X 2).length (C 2)).ownBlock → W7.cell? ⟨tb, 2, none⟩ = some (.slice (A 2) (X 2).length (C 2)) ∧ W7.frozen? ⟨tb, 2, none⟩ = false) := qh (fun W7 hg => HSh.out.cells (k := 2) (by decide) HPa.out hg);have hn2 : (X 2).length ≤ 1000000 := by
       rw [HX.out.x2, List.length_map];have h1 := congrArg List.length HX.out.ql;rw [lsR_len, ownsP_len rows p (Nat.le_of_lt HPl.out)] at h1
       omega
      have HB1 : Hid (((X 2).length + 1) * 24 ≤ 140737488355328) := qh (by omega);have HB2 : Hid ((X 2).length + 1 ≤ maxLen) := qh (by unfold maxLen; omega);clear hW1
      go_wp2_with (at_builtin; rw [HW1'.out]; refine wpList_append_fresh rfl (.tmp 99) (.tmp 101) 27 rfl R 35 (.slice none 0 0) 1 24 Tryz.underlying27 infoR rfl (by decide) (.slice (A 2) (X 2).length (C 2)) (X 2).length (X 2) rfl HOs.out (some ⟨wr.heap.size, 0, none⟩) 1 1 [.slice a6 m6 c6] rfl (fun e => by cases e) rfl HRw1.out (fun u hu => by simp at hu; subst hu; rfl) ((X 2).length + 1) rfl (X 2 ++ [.slice a6 m6 c6]) rfl HB1.out HB2.out HRs.out ?_; intro a7 c7 W7 hO7 hg7 hf7; have r3 := (HQ.out W7 hg7).1; have f3 := (HQ.out W7 hg7).2)
      have hst := HSh.out.push (k := 2) (by decide) HPa.out hg7 hO7 hf7 rfl;have hag := paint_agree wr κ 3;have HSh8 := qh hst.1;have HOw8 := qh (HOw.out.keep hst.2 (fun b e e2 => by omega) hag);have HP8 := qh (pure_old HP.out hst.2 (fun b hb => HSh.out.pi.old b (by rw [HRw.out]; exact hb)) (fun b e => by omega));have hjr : j = (onP [] (rows.getD p [])).length := by rw [HLp.out]; exact HLn.out
      have HX9 : Hid (RfX (root :: nodes) rows (p + 1) 0 (setAt X 2 (X 2 ++ [.slice a6 m6 c6])) (qs ++ [⟨a6, c6, rownJ rows p j⟩])) := qh (by
       have h := HX.out;refine ⟨h.x0, ?_, ?_, ?_, ?_, h.x4⟩
       ·have e := h.x1
        rw [headD_take rows p hp1] at e;rw [headD_take rows (p + 1) (Nat.succ_pos _)];exact e
       ·show X 2 ++ _ = _
        rw [List.map_append, ← h.x2, HM6.out]
        rfl
       ·have e : lsR (qs ++ [⟨a6, c6, rownJ rows p j⟩]) = lsR qs ++ [rownJ rows p j] := by unfold lsR; rw [List.map_append]; rfl
        rw [e, h.ql, ownsP_row rows p hp1 HPl.out, rownJ_end rows p HPl.out hjr]
       ·have e := h.x3
        rw [rshJ_end rows p hp1 HPl.out hjr] at e;rw [rshJ_zero];exact e)
      have HSh9 : Hid (RfC 40 R tb (R + 1) (paint wr κ 3) (setAt A 2 a7) (setAt C 2 c7) (setAt X 2 (X 2 ++ [.slice a6 m6 c6])) (qs ++ [⟨a6, c6, rownJ rows p j⟩]) (W7.setCell ⟨tb, 2, none⟩ (.slice a7 ((X 2).length + 1) c7))) := qh ⟨HSh8.out.pi, HSh8.out.rw.snoc HOw8.out, HSh8.out.res, HSh8.out.kr⟩;clear hst hag hO7 hg7 hf7 r3 f3 hjr;go_roundw
      case rel => exact ⟨p + 1, _, _, _, _, _, by omega, by go_num, HSh9, HX9, HP8⟩
      case measure => simp [intOf]; omega
  ·have hki : ¬ (p : Int) < (nr : Int) := by omega
   obtain rfl : p = nr := by omega
   have hpr : p = rows.length := by rw [HRows.out, lsR_len]; exact HNr.out
   have HY0 : Hid (ShY (root :: nodes) rows 0 X qs) := qh (by
    have h := HX.out;refine ⟨h.x0, ?_, h.x2, by rw [h.ql, hpr], ?_, by rw [h.x4]; rfl⟩
    ·rw [h.x1, hpr, List.take_length]
    ·rw [h.x3, rshJ_zero, hpr])
   obtain ⟨mz, hmz⟩ : ∃ z, z = min n 4096 := ⟨_, rfl⟩;have HMz : Hid (lastP n = mz.toNat) := qh (by unfold lastP; rw [hmz]);have HMn : Hid (mz = min n 4096) := qh hmz;clear hmz hpr
   go_wp2_with fail
   obtain ⟨wo, rfl⟩ : ∃ wo : World, wo = wr := ⟨_, rfl⟩
   go_loopw [14] (fun k wr => ∃ (i : Nat) (x : Int) (κ : Nat → Nat) (A : Nat → Option Addr) (C : Nat → Nat) (X : Nat → List Value), k = .int .i64 x ∧ 1 ≤ x ∧ x ≤ 4097 ∧ Hid (x = (i : Int) + 1 ∧ i ≤ mz.toNat) ∧ Hid (RfC 40 R tb (R + 1) κ A C X qs wr) ∧ Hid (ShY (root :: nodes) rows i X qs) ∧ Hid (Pure w wr)) (fun k _ => 5000 - (intOf k).toNat)
   case atStart => exact ⟨0, 1, κ, A, C, X, rfl, by decide, by decide, qh ⟨rfl, Nat.zero_le _⟩, HSh, HY0, HP⟩
   case round =>
    clear HSh HX HP HY0 htbl;obtain ⟨i, x, κ, A, C, X, rfl, hx1, hx2, HXi, HSh, HY, HP⟩ := hrel;have htbl : tb < wr.heap.size := HSh.out.pi.blk.lt
    by_cases hle : x ≤ n ∧ x ≤ 4096
    ·obtain ⟨hxn, hx4⟩ := hle
     have HSt := qh (othP_step rows (root :: nodes) i);rw [← HXi.out.1] at HSt;obtain ⟨u, hu⟩ : ∃ z, z = manyP rows x := ⟨_, rfl⟩;have HMx : Hid (∀ W, Pure w W → Calls Tryz.prog 56 #[.slice a p c, .int .i64 x] W (IntTo ((u : Nat) : Int) W)) := qh (fun W hP => by rw [hu]; exact HMany.out x W hP);rw [← hu] at HSt;have HXn : Hid (x + 1 = ((i + 1 : Nat) : Int) + 1 ∧ i + 1 ≤ mz.toNat) := qh (by have := HXi.out; have := HMn.out; omega);clear hu
     go_wp2_with fail
     refine (HMx.out wr HP.out).mono ?_;rintro e W3 ⟨rfl, hP3⟩;have HSh3 := qh (HSh.out.pure hP3);have HP3 := qh (HP.out.pure hP3);have htb3 : tb < W3.heap.size := HSh3.out.pi.blk.lt;clear hP3 HSh HP
     by_cases hu0 : u = 0
     ·have hub : ((u : Int) == 0) = true := by rw [hu0]; rfl
      have k0 : W3.cell? ⟨tb, 0, none⟩ = some (.slice (A 0) (X 0).length (C 0)) := (HSh3.out.pi.cell 0 (by decide)).1;have HCt : Hid (Calls Tryz.prog 57 #[.slice (A 0) (X 0).length (C 0), .int .i64 x] W3 (BoolTo (decide (x ∈ (root :: nodes))) W3)) := qh (by
       have h0 := (HSh3.out.pi.row 0 (by decide)).read.1;rw [HY.out.x0] at h0;have e : (X 0).length = (root :: nodes).length := by rw [HY.out.x0, intsV_len]
       rw [e];exact rhas_any x (A 0) (C 0) (root :: nodes) W3 h0 (by rw [List.length_cons, ← HNn.out]; omega))
      obtain ⟨y, hy⟩ : ∃ z, z = decide (x ∈ (root :: nodes)) := ⟨_, rfl⟩;rw [← hy] at HCt;have HSt2 : Hid (othP rows (root :: nodes) (i + 1) = if y = true then othP rows (root :: nodes) i else othP rows (root :: nodes) i ++ [x]) := qh (by
       rw [HSt.out, hy]
       by_cases hin : x ∈ (root :: nodes)
       ·rw [if_neg (fun h => h.2 hin), if_pos (decide_eq_true hin)]
       ·rw [if_pos ⟨hu0, hin⟩, if_neg (by rw [decide_eq_false hin]; decide)])
      clear hy HSt hu0;cases y with
      | true =>
        go_wp2_with fail
        refine HCt.out.mono ?_;rintro e w2 ⟨rfl, hP2⟩;have HSh2 := qh (HSh3.out.pure hP2);have HP2 := qh (HP3.out.pure hP2);have HY2 : Hid (ShY (root :: nodes) rows (i + 1) X qs) := qh ⟨HY.out.x0, HY.out.x1, HY.out.x2, HY.out.ql, HY.out.x3, by rw [HSt2.out]; exact HY.out.x4⟩;clear hP2 k0
        go_wp2_with fail
        go_roundw
        case rel => exact ⟨i + 1, x + 1, κ, A, C, X, by go_num, by omega, by omega, HXn, HSh2, HY2, HP2⟩
        case measure => simp [intOf]; omega
      | false =>
        go_wp2_with fail
        refine HCt.out.mono ?_;rintro e w2 ⟨rfl, hP2⟩;have HSh2 := qh (HSh3.out.pure hP2);have HP2 := qh (HP3.out.pure hP2);have k4 : w2.cell? ⟨tb, 4, none⟩ = some (.slice (A 4) (X 4).length (C 4)) := (HSh2.out.pi.cell 4 (by decide)).1;have htb2 : tb < w2.heap.size := HSh2.out.pi.blk.lt;obtain ⟨W1, hW1⟩ : ∃ z, z = w2.alloc (.cells #[.int .i64 x] 3) := ⟨_, rfl⟩;have HPa : Hid (Pure w2 W1) := qh (by rw [hW1]; exact ext_alloc _ _);have HRw1 : Hid (RowOf W1 (some ⟨w2.heap.size, 0, none⟩) [.int .i64 x]) := qh (by rw [hW1]; exact row_at _ rfl rfl);have HW1' : Hid (w2.alloc (.cells #[.int .i64 x] 3) = W1) := qh hW1.symm;have HRs : Hid (R ≤ W1.heap.size) := qh (Nat.le_trans HSh2.out.pi.rs HPa.out.size);have HOs : Hid (W1.ownsRow R 3 1 (.slice (A 4) (X 4).length (C 4)) (X 4).length (X 4)) := qh ((HSh2.out.pi.row 4 (by decide)).pure HPa.out).row;have HQ : Hid (∀ W7, W1.grownBy W7 (Value.slice (A 4) (X 4).length (C 4)).ownBlock → W7.cell? ⟨tb, 4, none⟩ = some (.slice (A 4) (X 4).length (C 4)) ∧ W7.frozen? ⟨tb, 4, none⟩ = false) := qh (fun W7 hg => HSh2.out.cells (k := 4) (by decide) HPa.out hg);have hn4 : (X 4).length ≤ 4096 := by
         rw [HY.out.x4, intsV_len];have h1 := othP_len rows (root :: nodes) i;have h2 := HXi.out
         omega
        have HB1 : Hid (((X 4).length + 1) * 8 ≤ 140737488355328) := qh (by omega);have HB2 : Hid ((X 4).length + 1 ≤ maxLen) := qh (by unfold maxLen; omega);clear hW1 hP2 k0
        go_wp2_with (at_builtin; rw [HW1'.out]; refine wpList_append_fresh rfl (.tmp 125) (.tmp 127) 35 rfl R 3 (.int .i64 0) 1 8 Tryz.underlying35 infoI rfl (by decide) (.slice (A 4) (X 4).length (C 4)) (X 4).length (X 4) rfl HOs.out (some ⟨w2.heap.size, 0, none⟩) 1 1 [.int .i64 x] rfl (fun e => by cases e) rfl HRw1.out (fun u hu => by simp at hu; subst hu; rfl) ((X 4).length + 1) rfl (X 4 ++ [.int .i64 x]) rfl HB1.out HB2.out HRs.out ?_; intro a7 c7 W7 hO7 hg7 hf7; have r3 := (HQ.out W7 hg7).1; have f3 := (HQ.out W7 hg7).2)
        have hst := HSh2.out.push (k := 4) (by decide) HPa.out hg7 hO7 hf7 rfl;have HSh8 := qh hst.1;have HY8 : Hid (ShY (root :: nodes) rows (i + 1) (setAt X 4 (X 4 ++ [.int .i64 x])) qs) := qh ⟨HY.out.x0, HY.out.x1, HY.out.x2, HY.out.ql, HY.out.x3, by
         rw [HSt2.out, if_neg (by decide), intsV_snoc, ← HY.out.x4]
         rfl⟩
        have HP8 := qh (pure_old HP2.out hst.2 (fun b hb => HSh2.out.pi.old b (by rw [HRw.out]; exact hb)) (fun b e => by omega));clear hst hO7 hg7 hf7 r3 f3 k4;go_roundw
        case rel => exact ⟨i + 1, x + 1, _, _, _, _, by go_num, by omega, by omega, HXn, HSh8, HY8, HP8⟩
        case measure => simp [intOf]; omega
     ·have hub : ((u : Int) == 0) = false := beq_eq_false_iff_ne.2 (by omega)
      have HY2 : Hid (ShY (root :: nodes) rows (i + 1) X qs) := qh ⟨HY.out.x0, HY.out.x1, HY.out.x2, HY.out.ql, HY.out.x3, by rw [HSt.out, if_neg (fun h => hu0 h.1)]; exact HY.out.x4⟩;clear hu0
      go_wp2_with fail
      go_roundw
      case rel => exact ⟨i + 1, x + 1, κ, A, C, X, by go_num, by omega, by omega, HXn, HSh3, HY2, HP3⟩
      case measure => simp [intOf]; omega
    ·have HI : Hid (i = lastP n) := qh (by have := HXi.out; have := HMz.out; have := HMn.out; omega)
     have k0 : wr.cell? ⟨tb, 0, none⟩ = some (.slice (A 0) (X 0).length (C 0)) := (HSh.out.pi.cell 0 (by decide)).1;have k1 : wr.cell? ⟨tb, 1, none⟩ = some (.slice (A 1) (X 1).length (C 1)) := (HSh.out.pi.cell 1 (by decide)).1;have k2 : wr.cell? ⟨tb, 2, none⟩ = some (.slice (A 2) (X 2).length (C 2)) := (HSh.out.pi.cell 2 (by decide)).1;have k3 : wr.cell? ⟨tb, 3, none⟩ = some (.slice (A 3) (X 3).length (C 3)) := (HSh.out.pi.cell 3 (by decide)).1;have k4 : wr.cell? ⟨tb, 4, none⟩ = some (.slice (A 4) (X 4).length (C 4)) := (HSh.out.pi.cell 4 (by decide)).1;have HTh : Hid (wr.there (R + 1) 0 (#[Value.slice (A 0) (X 0).length (C 0), .slice (A 1) (X 1).length (C 1), .slice (A 2) (X 2).length (C 2), .slice (A 3) (X 3).length (C 3), .slice (A 4) (X 4).length (C 4)] : Array Value).size) := qh (HSh.out.res.there 5 rfl);have HSi : Hid ((Tryz.prog.info? 40).map (·.size) = some (#[Value.slice (A 0) (X 0).length (C 0), .slice (A 1) (X 1).length (C 1), .slice (A 2) (X 2).length (C 2), .slice (A 3) (X 3).length (C 3), .slice (A 4) (X 4).length (C 4)] : Array Value).size) := qh sizeRP;have HOn : Hid (((#[Value.slice (A 0) (X 0).length (C 0), .slice (A 1) (X 1).length (C 1), .slice (A 2) (X 2).length (C 2), .slice (A 3) (X 3).length (C 3), .slice (A 4) (X 4).length (C 4)] : Array Value).all fun u => u.oneCell') = true) := qh (all_oneCell_toArray (by intro u hu; simp only [List.mem_cons, List.not_mem_nil, or_false] at hu; rcases hu with rfl | rfl | rfl | rfl | rfl <;> rfl))
     have hB := HSh.out.res.setAll [.slice (A 0) (X 0).length (C 0), .slice (A 1) (X 1).length (C 1), .slice (A 2) (X 2).length (C 2), .slice (A 3) (X 3).length (C 3), .slice (A 4) (X 4).length (C 4)] rfl;have hE : Ext (fun b => b = R + 1) wr (wr.setCells (R + 1) 0 [.slice (A 0) (X 0).length (C 0), .slice (A 1) (X 1).length (C 1), .slice (A 2) (X 2).length (C 2), .slice (A 3) (X 3).length (C 3), .slice (A 4) (X 4).length (C 4)]) := Ext.setCells (S := fun b => b = R + 1) _ 0 _ (Ext.refl _ _) (b := R + 1) (fun _ => rfl);have kr := HSh.out.kr;have hpi := HSh.out.pi.keep hE (fun b hb e => by subst e; omega) (Agree.refl _ _);have hrw := HSh.out.rw.keep hE (fun b hb e => by subst e; omega) (Agree.refl _ _);have hy := HY.out;rw [HI.out] at hy;have hpt := hpi.parts (p := partsP n nodes root rows) hrw hy.x0 hy.x1 hy.x2 hy.ql hy.x3 hy.x4;have HFin : Hid (PartsTo (partsP n nodes root rows) w (.returned (.agg #[.slice (A 0) (X 0).length (C 0), .slice (A 1) (X 1).length (C 1), .slice (A 2) (X 2).length (C 2), .slice (A 3) (X 3).length (C 3), .slice (A 4) (X 4).length (C 4)])) (wr.setCells (R + 1) 0 [.slice (A 0) (X 0).length (C 0), .slice (A 1) (X 1).length (C 1), .slice (A 2) (X 2).length (C 2), .slice (A 3) (X 3).length (C 3), .slice (A 4) (X 4).length (C 4)])) := qh (by
      refine ⟨_, _, _, _, _, _, _, ?_, hpt, pure_old HP.out hE (fun b hb => HSh.out.pi.old b (by rw [HRw.out]; exact hb)) (fun b e => by subst e; omega)⟩;unfold CRow.v;rw [hy.x0, hy.x1, hy.x2, hy.x3, hy.x4, intsV_len, intsV_len, intsV_len, intsV_len, List.length_map]
      rfl)
     have HB := qh hB;clear hB hE kr hpi hrw hy hpt;have hway : (¬ x ≤ n) ∨ (x ≤ n ∧ ¬ x ≤ 4096) := by omega
     clear hle
     rcases hway with h1 | ⟨h1, h2⟩
     ·go_wp2_with (with_reducible refine at_store 40 (.tmp 8) (.tmp 130) ?_; refine wpList_store_mid rfl 40 (.tmp 8) (.tmp 130) rfl (R + 1) 0 #[.slice (A 0) (X 0).length (C 0), .slice (A 1) (X 1).length (C 1), .slice (A 2) (X 2).length (C 2), .slice (A 3) (X 3).length (C 3), .slice (A 4) (X 4).length (C 4)] rfl rfl HTh.out HSi.out HOn.out ?_)
      refine bodyPost_ret (results_row1 rfl _ _ (R + 1) _ [.slice (A 0) (X 0).length (C 0), .slice (A 1) (X 1).length (C 1), .slice (A 2) (X 2).length (C 2), .slice (A 3) (X 3).length (C 3), .slice (A 4) (X 4).length (C 4)] _ rfl HB.out Tryz.underlying40 rfl sizeRP) rfl ?_;exact HFin.out
     ·go_wp2_with (with_reducible refine at_store 40 (.tmp 8) (.tmp 130) ?_; refine wpList_store_mid rfl 40 (.tmp 8) (.tmp 130) rfl (R + 1) 0 #[.slice (A 0) (X 0).length (C 0), .slice (A 1) (X 1).length (C 1), .slice (A 2) (X 2).length (C 2), .slice (A 3) (X 3).length (C 3), .slice (A 4) (X 4).length (C 4)] rfl rfl HTh.out HSi.out HOn.out ?_)
      refine bodyPost_ret (results_row1 rfl _ _ (R + 1) _ [.slice (A 0) (X 0).length (C 0), .slice (A 1) (X 1).length (C 1), .slice (A 2) (X 2).length (C 2), .slice (A 3) (X 3).length (C 3), .slice (A 4) (X 4).length (C 4)] _ rfl HB.out Tryz.underlying40 rfl sizeRP) rfl ?_;exact HFin.out
