import Derived.Test.YtipmbcalnnomjaaGreatOrdTurnVw
import Derived.Test.YtipmbcalnnomjaaGreatSplitDVw
import Derived.Test.YtipmbcalnnomjaaGreatViewOfVw
import Derived.Test.YtipmbcalnnomjaaGreatTurnOVw
import Derived.Test.YtipmbcalnnomjaaGreatSqVw
set_option linter.unusedVariables false
set_option linter.unusedSimpArgs false
namespace Go.Proofs.YtipmbcalnnomjaaGreat
open Go.RowKit
mutual
theorem first_pos : ∀ v : V, v.first = 0 → ∀ x ∈ v.refs, 1 ≤ x
 | .mk k n s l, h, x, hx => by
   have ih := firstL_pos l
   rw [first_eq] at h
   have ho : ownE k n s l = 0 := by
    by_cases e : ownE k n s l = 0
    ·exact e
    ·rw [if_neg (show ¬ ownE (V.mk k n s l).kind (V.mk k n s l).n (V.mk k n s l).s (V.mk k n s l).l = 0 from e)] at h
     exact h
   rw [if_pos (show ownE (V.mk k n s l).kind (V.mk k n s l).n (V.mk k n s l).s (V.mk k n s l).l = 0 from ho)] at h
   rw [refs_eq] at hx
   by_cases h8 : (V.mk k n s l).kind = 8
   ·rw [if_pos h8, List.mem_singleton] at hx
    rw [hx]
    exact ((own_shape ho).2 h8).2.1
   ·rw [if_neg h8] at hx
    by_cases hh : (V.mk k n s l).holds = true
    ·rw [if_pos hh] at hx h
     exact ih h x hx
    ·rw [if_neg hh] at hx
     cases hx
theorem firstL_pos : ∀ l : List V, firstL l = 0 → ∀ x ∈ refsL l, 1 ≤ x
 | [], _, x, hx => by rw [refsL] at hx; cases hx
 | v :: l, h, x, hx => by
   rw [firstL] at h
   rw [refsL, List.mem_append] at hx
   have hv : v.first = 0 := by
    by_cases e : v.first = 0
    ·exact e
    ·rw [if_neg e] at h; exact h
   rw [if_pos hv] at h
   rcases hx with hx | hx
   ·exact first_pos v hv x hx
   ·exact firstL_pos l h x hx
end
theorem objs_ob (n : Int) : ∀ {r : List Ob}, objsE n r = 0 → ∀ o ∈ r, obE o = 0
 | [], _, o, ho => by cases ho
 | u :: r, h, o, ho => by
   unfold objsE at h
   split at h
   ·rename_i hc; exact absurd h hc
   ·rename_i hc
    split at h
    ·cases h
    ·rcases List.mem_cons.1 ho with rfl | ho
     ·exact Classical.byContradiction hc
     ·exact objs_ob n h o ho
theorem obE_first {o : Ob} (h : obE o = 0) : o.v.first = 0 := by
 have hc : o.v.checkE = 0 := by
  unfold obE at h
  by_cases e : o.v.checkE = 0
  ·exact e
  ·rw [if_pos e] at h; exact h
 unfold V.checkE at hc
 split at hc
 ·exact hc
 ·cases hc
theorem doc_fines {l : List Ob} {root : Int} (h : docE l root = 0) (x : Int) : (obAt l x).v.fine l.length := by
 have hO : objsE l.length l = 0 := by
  unfold docE at h
  split at h
  ·cases h
  split at h
  ·rename_i hc; exact absurd h hc
  rename_i hO
  simpa using hO
 rcases obAt_cases l x with hm | e
 ·have h1 := obE_first (objs_ob _ hO _ hm)
  exact first_fine _ _ h1 (fun y hy => ⟨first_pos _ h1 y hy, objs_few _ hO _ hm y hy⟩)
 ·rw [e]
  exact fine_null _
mutual
theorem seen_size (tu : List Int) : ∀ v : V, (v.seen tu).size ≤ v.size
 | .mk k n s l => by
   rw [V.seen]
   have h1 : nullV.size = 1 := by rw [size_eq]; rfl
   have h2 : ∀ x, (refV x).size = 1 := fun x => by rw [size_eq]; rfl
   split
   ·split
    ·rw [h2]; simp [V.size]
    ·rw [h1]; simp [V.size]
   ·split
    ·simp only [V.size]; have := seenL_size tu l; omega
    ·exact Nat.le_refl _
theorem seenL_size (tu : List Int) : ∀ l : List V, sizeL (seenL tu l) ≤ sizeL l
 | [] => by simp [seenL]
 | v :: l => by
   rw [seenL, sizeL, sizeL]
   have := seen_size tu v
   have := seenL_size tu l
   omega
end
theorem page_sizes {l : List Ob} (hz : ∀ x, (obAt l x).v.size ≤ 100000) (row : List Int) {g : V} (hg : g.size ≤ 100000) : (∀ o ∈ (pageP l row g).obs, o.v.size ≤ 100000) ∧ (pageP l row g).given.size ≤ 100000 := by
 refine ⟨fun o ho => ?_, Nat.le_trans (seen_size _ _) hg⟩
 have ho2 : o ∈ row.mapIdx fun i x => seenOb (rowTo row) i (obAt l x) := ho
 obtain ⟨i, hi, rfl⟩ := List.mem_mapIdx.1 ho2
 show ((if i = 0 then (obAt l row[i]).v.dropped "Parent".toUTF8 else (obAt l row[i]).v).seen _).size ≤ _
 refine Nat.le_trans (seen_size _ _) ?_
 split
 ·exact Nat.le_trans (dropped_size _ _) (hz _)
 ·exact hz _
theorem page_len (l : List Ob) (row : List Int) (g : V) : (pageP l row g).obs.length = row.length := by
 show (row.mapIdx _).length = _
 rw [List.length_mapIdx]
theorem empty_fine (n : Nat) : emptyV.fine n := by
 rw [fine_eq]
 exact ⟨fun h => absurd (show (7 : Int) = 8 from h) (by decide), fun _ => rfl, fun u hu => by cases hu⟩
theorem empty_turn (tu : List Int) : emptyV.turn tu = emptyV := by
 rw [turn_fine (empty_fine _)]
 rfl
section
variable {p : PartsP} {n : Nat}
theorem PartsN.turned_in (h : PartsN p n) {l : List Ob} (hl : l.length = n) (hf : ∀ x, (obAt l x).v.fine n) (hz : ∀ x, (obAt l x).v.size ≤ 100000) (hw : ∀ x, (obAt l x).v.wf) :
 ∀ u ∈ turnedP (fun x => turnOb (p.new n) (obAt l x)) p.main p.tree p.first, u.v.size ≤ 100000 ∧ u.v.wf := by
 have hnl : (p.new n).length = n := toP_len _ _
 have hone := h.perm_one
 have hpl := h.perm_len
 have hT : ∀ x, (turnOb (p.new n) (obAt l x)).v.size ≤ 100000 ∧ (turnOb (p.new n) (obAt l x)).v.wf := fun x => by
  refine ⟨Nat.le_trans (V.turn_size _ _) (hz x), ?_⟩
  show ((obAt l x).v.turn (p.new n)).wf
  rw [← turn_more (p.new n) [((p.main.length + 1 : Nat) : Int), ((p.main.length + p.tree.length + 2 : Nat) : Int)] _ (by rw [hnl]; exact hf x)]
  exact wf_turn (p.perm n) hone (by rw [hpl]; have := h.few; omega) _ (fine_mono (by rw [hpl]; omega) _ (hf x)) (hw x)
 have h0 : noOb.v.size ≤ 100000 ∧ noOb.v.wf := by
  have h1 : noOb.v.size = 1 := by unfold noOb nullV; rw [V.size, sizeL]
  exact ⟨by omega, null_wf⟩
 intro u hu
 unfold turnedP at hu
 simp only [List.mem_append, List.mem_map, List.mem_singleton] at hu
 rcases hu with (((⟨x, _, rfl⟩ | rfl) | ⟨x, _, rfl⟩) | rfl) | ⟨x, _, rfl⟩
 ·exact hT x
 ·exact h0
 ·exact hT x
 ·exact h0
 ·exact hT x
theorem PartsN.root_new (h : PartsN p n) {root : Int} {xs : List Int} (ht : p.tree = root :: xs) : toG (p.perm n) root = ((p.main.length + 2 : Nat) : Int) ∧ 1 ≤ root ∧ root ≤ n := by
 have hr := (h.split root).2 (Or.inr (Or.inl (by rw [ht]; exact List.mem_cons_self)))
 obtain ⟨i, rfl⟩ : ∃ i : Nat, root = (i : Int) + 1 := ⟨(root - 1).toNat, by omega⟩
 have hi : i < n := by omega
 have h1 := h.first_tree ht i hi rfl
 have hnl : (p.new n).length = n := toP_len _ _
 refine ⟨?_, hr⟩
 rw [toG_in (by rw [h.perm_len]; omega)]
 have e2 : (p.perm n)[i]? = some ((p.main.length + 2 : Nat) : Int) := by
  unfold PartsP.perm
  rw [List.getElem?_append_left (by rw [hnl]; exact hi)]
  exact h1
 exact (List.getElem?_eq_some_iff.1 e2).2
end
end Go.Proofs.YtipmbcalnnomjaaGreat
namespace Go.Proofs.YtipmbcalnnomjaaGreat
open Go.RowKit Go.Maps
def ViewE (P : PageP) (E : Int) (d : Nat) (w : World) (e : Ending) (w' : World) : Prop :=
 ∃ oa oc rows gcs, e = .returned (.tuple #[.agg (Value.slice oa P.obs.length oc :: gcs).toArray, .int .i64 0, .int .i64 E]) ∧ OKids w' (d + 1) P.obs oa rows ∧ Lies w' (d + 1) P.given gcs ∧ Pure w w'
theorem ViewTo.e {P : PageP} {d : Nat} {w w' : World} {e : Ending} (h : ViewTo P d w e w') : ViewE P 0 d w e w' := h
def noPage : PageP := ⟨[], nullV⟩
theorem no_kids (w : World) (d : Nat) : OKids w d [] none [] := ⟨rfl, (fun r hr => by cases hr), (fun i u hu => by simp at hu), (fun i o r ho => by simp at ho)⟩
def SeenOf (PG : PageP) (E q p0 : Int) (d : Nat) (w0 : World) (oa : Option Addr) (n oc : Nat) (root : Int) : Prop :=
 ∀ fb db W, Pure w0 W → FileAt W fb db oa n oc root → Calls Tryz.prog 15 #[.pointer (some ⟨fb, 0, none⟩), .int .i64 p0] W (ViewE PG E d W) ∧ Calls Tryz.prog 17 #[.pointer (some ⟨fb, 0, none⟩)] W (fun e w' => e = .returned (.tuple #[.int .i64 q, .int .i64 0, .int .i64 0]) ∧ Pure W w')
theorem seen_of {d : Nat} {l : List Ob} {oa : Option Addr} {oc : Nat} {root : Int} {rows : List (List Value)} {w0 : World} (hD : DocOk w0 d l oa rows root) {n0 : Int} {kids : List Int} {q : Int} (hT : TopOk l root n0 kids q) (p0 : Int) (hp : 0 ≤ p0 ∧ p0 < q) (R : Int × List Int × V)
 (hR : findP l 64 n0 kids q p0 [] emptyV = some R) (hgz : R.2.2.size ≤ 100000) (hgw : R.2.2.wf) (hn : (Lit.int .i64 R.1).wf = true) : SeenOf (pageP l (closP l R.1 R.2.2) R.2.2) 0 q p0 (d + 1) w0 oa l.length oc root := fun fb db W hP hF =>
 ⟨(viewof_any d l oa oc root rows fb db n0 w0 W hP hD hF kids q hT p0 hp R hR hgz hgw hn).mono (fun e w' h => ViewTo.e h), pages_any d l oa oc root rows fb db n0 w0 W hP hD hF kids q hT⟩
theorem seen_no {d : Nat} {l : List Ob} {oa : Option Addr} {oc : Nat} {root : Int} {rows : List (List Value)} {w0 : World} (hD : DocOk w0 d l oa rows root) {n0 : Int} {kids : List Int} {q : Int} (hT : TopOk l root n0 kids q) (p0 : Int) (hp : p0 < 0 ∨ q ≤ p0) : SeenOf noPage 25 q p0 (d + 1) w0 oa l.length oc root := fun fb db W hP hF =>
 ⟨(viewof_no d l oa oc root rows fb db n0 w0 W hP hD hF kids q hT p0 hp).mono (fun e w' h => by
   obtain ⟨rfl, hPw⟩ := h
   exact ⟨none, 0, [], zeroCs, rfl, no_kids _ _, (LiesIn.leaf (fun _ => True) w' (d + 1) 0 0 ⟨#[]⟩ (by decide)).lies, hPw⟩), pages_any d l oa oc root rows fb db n0 w0 W hP hD hF kids q hT⟩
theorem turned_ok {W : World} {g N d : Nat} {L : List Ob} {rws : List (List Value)} {rt : Int} (hB : BlockIs W g (rws.flatMap id) 61) (hX : ObsIn (fun b => b ≠ g) W (d + 1) L rws) (hl : L.length ≤ 5000) (hL : ∀ u ∈ L, u.v.size ≤ 100000 ∧ u.v.wf) (hr : (Lit.int .i64 rt).wf = true) : DocOk W d L (some ⟨g, 0, none⟩) rws rt :=
 ⟨hX.ok hB, hl, fun u hu => (hL u hu).1, fun u hu => (hL u hu).2, hr⟩
theorem nat_wf {n : Nat} (h : n ≤ 1000000) : (Lit.int .i64 (n : Int)).wf = true := by
 unfold Lit.wf
 simp [IntKind.min, IntKind.max, IntKind.bits, IntKind.signed]
 omega
theorem int_wf {x : Int} (h : 0 ≤ x ∧ x ≤ 1000000) : (Lit.int .i64 x).wf = true := by
 obtain ⟨n, rfl⟩ : ∃ n : Nat, x = (n : Int) := ⟨x.toNat, by omega⟩
 exact nat_wf (by omega)
theorem views_any {F0 n : Nat} {objs : List Ob} {oa : Option Addr} {rows : List (List Value)} {root : Int} {w : World} (hD : DocOk w F0 objs oa rows root) (hE : docE objs root = 0) {T : Tr} {n0 : Int} {kids : List Int} {q : Int} {Rs : List (Int × List Int × V)} (hG : GoodW objs root T n0 kids q Rs)
 {p : PartsP} (hn : objs.length = n) (hPN : PartsN p n) (hpt : p.tree = root :: T.nodes) (p0 : Int) :
 ∃ PG E, ((E = 0 ∧ 0 ≤ p0 ∧ p0 < q ∧ 0 < PG.obs.length) ∨ (E = 25 ∧ ¬ (0 ≤ p0 ∧ p0 < q))) ∧ PG.obs.length ≤ 1000000 ∧ (∀ o ∈ PG.obs, o.v.size ≤ 100000) ∧ PG.given.size ≤ 100000 ∧
   (∀ oc, SeenOf PG E q p0 (F0 + 1) w oa n oc root) ∧
   (∀ W5 g N rws, N = (turnedP (fun x => turnOb (p.new n) (obAt objs x)) p.main p.tree p.first).length → BlockIs W5 g (rws.flatMap id) 61 → ObsIn (fun b => b ≠ g) W5 (F0 + 1) (turnedP (fun x => turnOb (p.new n) (obAt objs x)) p.main p.tree p.first) rws → SeenOf PG E q p0 (F0 + 1) W5 (some ⟨g, 0, none⟩) N N ((p.main.length + 2 : Nat) : Int)) := by
 have hf : ∀ x, (obAt objs x).v.fine n := fun x => by rw [← hn]; exact doc_fines hE x
 have hRn := hPN.renum hn hf
 have hin := hPN.turned_in hn hf (fun x => hD.at_size x) (fun x => hD.at_wf x)
 have hroot := hPN.root_new hpt
 have hTop := hRn.top hG.top
 have hlen := hPN.len
 have hfew := hPN.few
 rw [hroot.1] at hTop
 obtain ⟨L, hL⟩ : ∃ z, z = turnedP (fun x => turnOb (p.new n) (obAt objs x)) p.main p.tree p.first := ⟨_, rfl⟩
 have hLl : L.length = n + 2 := by rw [hL, turnedP_len]; omega
 rw [← hL] at hRn hin hTop ⊢
 have hDk : ∀ W5 g rws, BlockIs W5 g (rws.flatMap id) 61 → ObsIn (fun b => b ≠ g) W5 (F0 + 1) L rws → DocOk W5 F0 L (some ⟨g, 0, none⟩) rws ((p.main.length + 2 : Nat) : Int) := fun W5 g rws hB hX => turned_ok (N := 0) hB hX (by omega) hin (nat_wf (by omega))
 have hpl := hPN.perm_len
 by_cases hp : 0 ≤ p0 ∧ p0 < q
 ·obtain ⟨k, rfl⟩ : ∃ k : Nat, p0 = (k : Int) := ⟨p0.toNat, by omega⟩
  have hk : k < Rs.length := by have := hG.cnt; omega
  obtain ⟨R, hR⟩ : ∃ R, R = Rs[k] := ⟨_, rfl⟩
  have h1 := hG.find k hk
  have h2 := hG.good.at_ k hk
  rw [← hR] at h1 h2
  obtain ⟨g1, _, g3, _⟩ := h2
  have hRf := find_fine hf 64 _ _ _ _ _ _ (empty_fine n) R h1
  have hRf2 : R.2.2.fine (p.perm n).length := fine_mono (by rw [hpl]; omega) _ hRf
  have hpg := hG.good.fine.tok.lo R.1 (Or.inr (List.mem_of_getElem? g1))
  have hc := hRn.closP hRf2 R.1
  have hpp := hRn.page hRf2 (closP objs R.1 R.2.2)
  have hfi := hRn.find 64 n0 kids q (k : Int) [] emptyV (empty_fine _)
  rw [h1, empty_turn] at hfi
  rw [← hc] at hpp
  have hrg := toG_range hPN.perm_one (x := R.1) (by rw [hpl]; omega)
  rw [hpl] at hrg
  refine ⟨pageP objs (closP objs R.1 R.2.2) R.2.2, 0, Or.inl ⟨rfl, hp.1, hp.2, ?_⟩, ?_, (page_sizes (fun x => hD.at_size x) _ g3.size).1, (page_sizes (fun x => hD.at_size x) _ g3.size).2, fun oc => ?_, fun W5 g N rws hN hB hX => ?_⟩
  ·rw [page_len]
   exact List.length_pos_iff.2 (closP_ne objs R.1 R.2.2)
  ·rw [page_len]
   have := (closP_lim objs R.1 R.2.2).len
   omega
  ·rw [← hn]
   exact seen_of hD hG.top k hp R h1 g3.size g3.wf (int_wf (by omega))
  ·subst hN
   rw [← hpp]
   exact seen_of (hDk W5 g rws hB hX) hTop k hp (toG (p.perm n) R.1, R.2.1.map (toG (p.perm n)), R.2.2.turn (p.perm n)) hfi (Nat.le_trans (V.turn_size _ _) g3.size) (wf_turn _ hPN.perm_one (by omega) _ hRf2 g3.wf) (int_wf (by show 0 ≤ toG _ _ ∧ toG _ _ ≤ 1000000; omega))
 ·refine ⟨noPage, 25, Or.inr ⟨rfl, hp⟩, Nat.zero_le _, (fun o ho => by cases ho), ?_, fun oc => ?_, fun W5 g N rws hN hB hX => ?_⟩
  ·have : nullV.size = 1 := by rw [size_eq]; rfl
   show nullV.size ≤ _
   omega
  ·rw [← hn]
   exact seen_no hD hG.top p0 (by omega)
  ·subst hN
   exact seen_no (hDk W5 g rws hB hX) hTop p0 (by omega)
