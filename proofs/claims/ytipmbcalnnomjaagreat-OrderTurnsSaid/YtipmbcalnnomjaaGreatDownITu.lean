import Derived.Test.YtipmbcalnnomjaaGreatNodeTu
import Derived.Test.YtipmbcalnnomjaaGreatRefsRTu
import Derived.Test.YtipmbcalnnomjaaGreatSqTu
set_option linter.unusedVariables false
set_option linter.unusedSimpArgs false
namespace Go.Proofs.YtipmbcalnnomjaaGreat
open Go.RowKit Go.Maps
structure DownK where
 w0 : World
 d : Nat
 l : List Ob
 oa : Option Addr
 oc : Nat
 rows : List (List Value)
 root : Int
 fb : Nat
 db : Nat
 tm : Nat
 tf : Nat
 tt : Nat
 td : Nat
 B : Nat
 R : Nat
def DownK.caps (K : DownK) : Array Value := #[.pointer (some ⟨K.tm, 0, none⟩), .pointer (some ⟨K.tf, 0, none⟩), .pointer (some ⟨K.tt, 0, none⟩), .pointer (some ⟨K.td, 0, none⟩)]
structure DownK.Ok (K : DownK) : Prop where
 doc : DocOk K.w0 K.d K.l K.oa K.rows K.root
 lott : K.w0.heap.size ≤ K.tt
 loB : K.w0.heap.size ≤ K.B
 loR : K.w0.heap.size ≤ K.R
 hfb : K.fb < K.R ∧ K.fb ≠ K.tt ∧ K.fb ≠ K.B
 hdb : K.db < K.R ∧ K.db ≠ K.tt ∧ K.db ≠ K.B
 htm : K.tm < K.R ∧ K.tm ≠ K.tt ∧ K.tm ≠ K.B
 htf : K.tf < K.R ∧ K.tf ≠ K.tt ∧ K.tf ≠ K.B
 htd : K.td < K.R ∧ K.td ≠ K.tt ∧ K.td ≠ K.B
 htt : K.tt < K.R ∧ K.tt ≠ K.B
 hB : K.B < K.R
structure DownG where
 t : Tr
 M : Int → Int
 a1 : Option Addr
 c1 : Nat
 a2 : Option Addr
 c2 : Nat
 k : Nat
 D : DataW Unit
def DownS (K : DownK) (γ : DownG) (k : Nat) : Prop := k = K.tt ∨ k = K.B ∨ (∃ x, γ.a1 = some x ∧ x.block = k) ∨ (∃ x, γ.a2 = some x ∧ x.block = k)
structure DownI (K : DownK) (γ : DownG) (W : World) : Prop where
 base : Pure K.w0 W
 file : FileAt W K.fb K.db K.oa K.l.length K.oc K.root
 mp : BlockIs W K.tm [.map (some K.B)] 122
 fl : BlockIs W K.tf [.pointer (some ⟨K.fb, 0, none⟩)] 53
 tr : BlockIs W K.tt [.slice γ.a1 γ.t.nodes.length γ.c1, .slice γ.a2 γ.t.pages.length γ.c2] 85
 dn : BlockIs W K.td [.func (.func 63) #[] K.caps] 123
 own : W.ownsMap Tryz.prog 3 (plainElem Tryz.prog 3) K.B γ.k γ.D
 row1 : W.ownsRow K.R 3 1 (.slice γ.a1 γ.t.nodes.length γ.c1) γ.t.nodes.length (intsV γ.t.nodes)
 row2 : W.ownsRow K.R 3 1 (.slice γ.a2 γ.t.pages.length γ.c2) γ.t.pages.length (intsV γ.t.pages)
 apart : ∀ x y, γ.a1 = some x → γ.a2 = some y → x.block ≠ y.block
 is : IsMap γ.D
 look : ∀ x, γ.D.atKey (.int .i64 x) (.lit (.int .i64 0)) = .lit (.int .i64 (γ.M x))
 rs : K.R ≤ W.heap.size
 ok : γ.t.Ok K.l
structure Seen (K : DownK) (γ : DownG) : Prop where
 is : ∀ x, γ.M x = if x = K.root ∨ γ.t.has x then 1 else 0
 few : γ.k ≤ γ.t.nodes.length + γ.t.pages.length + 1
def DownTo (K : DownK) (γ : DownG) (W : World) (r : Option (Tr × Int)) (e : Ending) (W' : World) : Prop :=
 match r with
 | some (u, m) => ∃ γ', e = .returned (.tuple #[.int .i64 m, .bool true]) ∧ γ'.t = u ∧ Seen K γ' ∧ Step (DownS K) (DownI K) γ W γ' W'
 | none => ∃ x, e = .returned (.tuple #[.int .i64 x, .bool false]) ∧ Ext (DownS K γ) W W'
theorem Step.trans_ext {Γ : Type} {S : Γ → Nat → Prop} {I : Γ → World → Prop} {γ γ' : Γ} {W W' W'' : World} (h : Step S I γ W γ' W') (k : Ext (S γ') W' W'') : Ext (S γ) W W'' :=
 h.ext.trans k (fun i hi hs => (h.own i hs).resolve_right (by omega))
theorem DownI.lt1 {K : DownK} {γ : DownG} {W : World} (h : DownI K γ W) {x : Addr} (hx : γ.a1 = some x) : K.R ≤ x.block ∧ x.block < W.heap.size := h.row1.lt x.block (by rw [hx]; rfl)
theorem DownI.lt2 {K : DownK} {γ : DownG} {W : World} (h : DownI K γ W) {x : Addr} (hx : γ.a2 = some x) : K.R ≤ x.block ∧ x.block < W.heap.size := h.row2.lt x.block (by rw [hx]; rfl)
theorem DownI.above {K : DownK} (hK : K.Ok) {γ : DownG} {W : World} (h : DownI K γ W) {k : Nat} (hs : DownS K γ k) : K.w0.heap.size ≤ k := by
 rcases hs with rfl | rfl | ⟨x, hx, rfl⟩ | ⟨x, hx, rfl⟩
 ·exact hK.lott
 ·exact hK.loB
 ·exact Nat.le_trans hK.loR (h.lt1 hx).1
 ·exact Nat.le_trans hK.loR (h.lt2 hx).1
theorem DownI.keep {K : DownK} {γ : DownG} {W W' : World} (h : DownI K γ W) (hP : Pure W W') : DownI K γ W' :=
 ⟨h.base.pure hP, h.file.ext hP id id, h.mp.ext hP id, h.fl.ext hP id, h.tr.ext hP id, h.dn.ext hP id, own_map_ext h.own hP id, own_ext h.row1 hP (fun _ _ => id), own_ext h.row2 hP (fun _ _ => id), h.apart, h.is, h.look, Nat.le_trans h.rs hP.size, h.ok⟩
theorem DownI.pure {K : DownK} {γ : DownG} {W W' : World} (h : DownI K γ W) (hP : Pure W W') : Step (DownS K) (DownI K) γ W γ W' :=
 ⟨hP.mono (fun _ _ e => e.elim), h.keep hP, fun _ hs => Or.inl hs⟩
theorem atM_put {D : DataW Unit} {M : Int → Int} (hD : IsMap D) (h : ∀ x, D.atKey (.int .i64 x) (.lit (.int .i64 0)) = .lit (.int .i64 (M x))) (n y : Int) :
 ∀ x, (D.put (.int .i64 n) (.lit (.int .i64 y))).atKey (.int .i64 x) (.lit (.int .i64 0)) = .lit (.int .i64 (if x = n then y else M x)) := by
 intro x
 by_cases e : x = n
 ·subst e
  rw [atKey_put_same hD (k := .int .i64 x) trivial, if_pos rfl]
 ·rw [atKey_put_other (fun e' => e (by cases e'; rfl)), h, if_neg e]
theorem zeroI (w : World) : (zeroValue 3).run Tryz.prog w = .ok (.int .i64 0) w := by kernel_rfl
theorem DownI.lookup {K : DownK} {γ : DownG} {W : World} (h : DownI K γ W) {x : Int} (hw : (Lit.int .i64 x).wf = true) :
 (Instr.lookup 122 (.map (some K.B)) (.int .i64 x) false).run Tryz.prog W = .ok (.int .i64 (γ.M x)) W := by
 obtain ⟨c, hrun, hat, _⟩ := h.own.lookup_int lawInt Tryz.underlying122 Tryz.underlying3 (zeroI W) (keyOf_int_mk Tryz.underlying3 hw)
 rw [h.look x] at hat
 cases hat
 exact hrun
def DownG.met (γ : DownG) (n y : Int) : DownG := { γ with M := fun x => if x = n then y else γ.M x, k := γ.k + 1, D := γ.D.put (.int .i64 n) (.lit (.int .i64 y)) }
theorem DownI.met {K : DownK} (hK : K.Ok) {γ : DownG} {W W' : World} (h : DownI K γ W) {n y : Int} (hO : W'.ownsMap Tryz.prog 3 (plainElem Tryz.prog 3) K.B (γ.k + 1) (γ.D.put (.int .i64 n) (.lit (.int .i64 y)))) (hg : W.grownBy W' (some K.B)) :
 Step (DownS K) (DownI K) γ W (γ.met n y) W' := by
 have hE := ext_of_grown hg
 have hn : ∀ {i : Nat}, i ≠ K.B → ¬ (some K.B = some i) := fun h e => h (Option.some.inj e).symm
 refine ⟨hE.mono (fun i _ e => Or.inr (Or.inl (Option.some.inj e).symm)), ⟨h.base.trans hE (fun i hi e => ?_), h.file.ext hE (hn hK.hfb.2.2) (hn hK.hdb.2.2), h.mp.ext hE (hn hK.htm.2.2), h.fl.ext hE (hn hK.htf.2.2), h.tr.ext hE (hn hK.htt.2), h.dn.ext hE (hn hK.htd.2.2), hO, ?_, ?_, h.apart, h.is.put _ _, atM_put h.is h.look n y, Nat.le_trans h.rs hE.size, h.ok⟩, fun _ hs => Or.inl hs⟩
 ·have := Option.some.inj e
  have := hK.loB
  omega
 ·exact own_ext h.row1 hE (fun g hg e => by have h1 := (h.row1.lt g hg).1; have := Option.some.inj e; have := hK.hB; omega)
 ·exact own_ext h.row2 hE (fun g hg e => by have h1 := (h.row2.lt g hg).1; have := Option.some.inj e; have := hK.hB; omega)
theorem DownI.addNode {K : DownK} (hK : K.Ok) {γ : DownG} {W W7 : World} (h : DownI K γ W) {n : Int} {a3 : Option Addr} {c3 : Nat}
 (hg : W.grownBy W7 (Value.slice γ.a1 γ.t.nodes.length γ.c1).ownBlock) (hO : W7.ownsRow K.R 3 1 (.slice a3 (γ.t.nodes.length + 1) c3) (γ.t.nodes.length + 1) (intsV γ.t.nodes ++ [.int .i64 n]))
 (hf : ∀ g, a3 = some g → (Value.slice γ.a1 γ.t.nodes.length γ.c1).ownBlock = some g.block ∨ W.heap.size ≤ g.block) (hok : Tr.Ok K.l ⟨γ.t.nodes ++ [n], γ.t.pages⟩) :
 Step (DownS K) (DownI K) γ W { γ with t := ⟨γ.t.nodes ++ [n], γ.t.pages⟩, a1 := a3, c1 := c3 } (W7.setCell ⟨K.tt, 0, none⟩ (.slice a3 (γ.t.nodes.length + 1) c3)) := by
 obtain ⟨t, M, a1, c1, a2, c2, k, D⟩ := γ
 simp only at *
 have hE := ext_of_grown hg
 have hX : Ext (fun i => i = K.tt) W7 (W7.setCell ⟨K.tt, 0, none⟩ (.slice a3 (t.nodes.length + 1) c3)) := Ext.setCell (S := fun i => i = K.tt) (Ext.refl _ _) (p := ⟨K.tt, 0, none⟩) (fun _ => rfl) _
 have hR : ∀ i, i < K.R → ¬ ((Value.slice a1 t.nodes.length c1).ownBlock = some i) := fun i hi e => by have := (h.row1.lt i e).1; omega
 have hb1 : ∀ i, (Value.slice a1 t.nodes.length c1).ownBlock = some i → ∃ x, a1 = some x ∧ x.block = i := by
  intro i e
  cases a1 with
  | none => cases e
  | some y => exact ⟨y, rfl, Option.some.inj e⟩
 have hEx : Ext (DownS K ⟨t, M, a1, c1, a2, c2, k, D⟩) W (W7.setCell ⟨K.tt, 0, none⟩ (.slice a3 (t.nodes.length + 1) c3)) :=
  (hE.mono (fun i _ e => Or.inr (Or.inr (Or.inl (hb1 i e))))).trans hX (fun i _ e => Or.inl e)
 have hlen : (t.nodes ++ [n]).length = t.nodes.length + 1 := by simp
 have hn1 : ∀ {i : Nat}, i < K.R → i ≠ K.tt → ∀ {cs : List Value} {T : TypeId}, BlockIs W i cs T → BlockIs (W7.setCell ⟨K.tt, 0, none⟩ (.slice a3 (t.nodes.length + 1) c3)) i cs T := fun hi hne _ _ hB => (hB.ext hE (hR _ hi)).ext hX hne
 refine ⟨hEx, ⟨h.base.trans hEx (fun i hi e => ?_), ⟨hn1 hK.hdb.1 hK.hdb.2.1 h.file.d, hn1 hK.hfb.1 hK.hfb.2.1 h.file.f⟩, hn1 hK.htm.1 hK.htm.2.1 h.mp, hn1 hK.htf.1 hK.htf.2.1 h.fl, ?_, hn1 hK.htd.1 hK.htd.2.1 h.dn, own_map_ext (own_map_ext h.own hE (hR _ hK.hB)) hX (fun e => hK.htt.2 e.symm), ?_, ?_, ?_, h.is, h.look, ?_, hok⟩, ?_⟩
 ·have := h.above hK e
  omega
 ·have h7 : BlockIs W7 K.tt _ _ := h.tr.ext hE (hR _ hK.htt.1)
  have h8 := h7.set 0 (.slice a3 (t.nodes.length + 1) c3)
  simp only [sZ] at h8
  simp only [hlen]
  exact h8
 ·simp only [hlen, intsV_snoc]
  exact own_ext hO hX (fun g hg e => by have := (hO.lt g hg).1; have := hK.htt.1; omega)
 ·refine own_ext (own_ext h.row2 hE (fun g hg e => ?_)) hX (fun g hg e => by have := (h.row2.lt g hg).1; have := hK.htt.1; omega)
  obtain ⟨x, hx, hxb⟩ := hb1 g e
  cases a2 with
  | none => cases hg
  | some y => exact h.apart x y hx rfl (hxb.trans (Option.some.inj hg).symm)
 ·intro x y hx hy e
  rcases hf x hx with h1 | h1
  ·obtain ⟨z, hz, hzb⟩ := hb1 _ h1
   exact h.apart z y hz hy (hzb.trans e)
  ·have := (h.lt2 hy).2
   omega
 ·exact Nat.le_trans h.rs hEx.size
 ·intro i hs
  rcases hs with hs | hs | ⟨x, hx, rfl⟩ | hs
  ·exact Or.inl (Or.inl hs)
  ·exact Or.inl (Or.inr (Or.inl hs))
  ·rcases hf x hx with h1 | h1
   ·exact Or.inl (Or.inr (Or.inr (Or.inl (hb1 _ h1))))
   ·exact Or.inr h1
  ·exact Or.inl (Or.inr (Or.inr (Or.inr hs)))
theorem DownI.addPage {K : DownK} (hK : K.Ok) {γ : DownG} {W W7 : World} (h : DownI K γ W) {n : Int} {a3 : Option Addr} {c3 : Nat}
 (hg : W.grownBy W7 (Value.slice γ.a2 γ.t.pages.length γ.c2).ownBlock) (hO : W7.ownsRow K.R 3 1 (.slice a3 (γ.t.pages.length + 1) c3) (γ.t.pages.length + 1) (intsV γ.t.pages ++ [.int .i64 n]))
 (hf : ∀ g, a3 = some g → (Value.slice γ.a2 γ.t.pages.length γ.c2).ownBlock = some g.block ∨ W.heap.size ≤ g.block) (hok : Tr.Ok K.l ⟨γ.t.nodes, γ.t.pages ++ [n]⟩) :
 Step (DownS K) (DownI K) γ W { γ with t := ⟨γ.t.nodes, γ.t.pages ++ [n]⟩, a2 := a3, c2 := c3 } (W7.setCell ⟨K.tt, 1, none⟩ (.slice a3 (γ.t.pages.length + 1) c3)) := by
 obtain ⟨t, M, a1, c1, a2, c2, k, D⟩ := γ
 simp only at *
 have hE := ext_of_grown hg
 have hX : Ext (fun i => i = K.tt) W7 (W7.setCell ⟨K.tt, 1, none⟩ (.slice a3 (t.pages.length + 1) c3)) := Ext.setCell (S := fun i => i = K.tt) (Ext.refl _ _) (p := ⟨K.tt, 1, none⟩) (fun _ => rfl) _
 have hR : ∀ i, i < K.R → ¬ ((Value.slice a2 t.pages.length c2).ownBlock = some i) := fun i hi e => by have := (h.row2.lt i e).1; omega
 have hb1 : ∀ i, (Value.slice a2 t.pages.length c2).ownBlock = some i → ∃ x, a2 = some x ∧ x.block = i := by
  intro i e
  cases a2 with
  | none => cases e
  | some y => exact ⟨y, rfl, Option.some.inj e⟩
 have hEx : Ext (DownS K ⟨t, M, a1, c1, a2, c2, k, D⟩) W (W7.setCell ⟨K.tt, 1, none⟩ (.slice a3 (t.pages.length + 1) c3)) :=
  (hE.mono (fun i _ e => Or.inr (Or.inr (Or.inr (hb1 i e))))).trans hX (fun i _ e => Or.inl e)
 have hlen : (t.pages ++ [n]).length = t.pages.length + 1 := by simp
 have hn1 : ∀ {i : Nat}, i < K.R → i ≠ K.tt → ∀ {cs : List Value} {T : TypeId}, BlockIs W i cs T → BlockIs (W7.setCell ⟨K.tt, 1, none⟩ (.slice a3 (t.pages.length + 1) c3)) i cs T := fun hi hne _ _ hB => (hB.ext hE (hR _ hi)).ext hX hne
 refine ⟨hEx, ⟨h.base.trans hEx (fun i hi e => ?_), ⟨hn1 hK.hdb.1 hK.hdb.2.1 h.file.d, hn1 hK.hfb.1 hK.hfb.2.1 h.file.f⟩, hn1 hK.htm.1 hK.htm.2.1 h.mp, hn1 hK.htf.1 hK.htf.2.1 h.fl, ?_, hn1 hK.htd.1 hK.htd.2.1 h.dn, own_map_ext (own_map_ext h.own hE (hR _ hK.hB)) hX (fun e => hK.htt.2 e.symm), ?_, ?_, ?_, h.is, h.look, ?_, hok⟩, ?_⟩
 ·have := h.above hK e
  omega
 ·have h7 : BlockIs W7 K.tt _ _ := h.tr.ext hE (hR _ hK.htt.1)
  have h8 := h7.set 1 (.slice a3 (t.pages.length + 1) c3)
  simp only [sZ, sS] at h8
  simp only [hlen]
  exact h8
 ·refine own_ext (own_ext h.row1 hE (fun g hg e => ?_)) hX (fun g hg e => by have := (h.row1.lt g hg).1; have := hK.htt.1; omega)
  obtain ⟨x, hx, hxb⟩ := hb1 g e
  cases a1 with
  | none => cases hg
  | some y => exact h.apart y x rfl hx ((Option.some.inj hg).trans hxb.symm)
 ·simp only [hlen, intsV_snoc]
  exact own_ext hO hX (fun g hg e => by have := (hO.lt g hg).1; have := hK.htt.1; omega)
 ·intro x y hx hy e
  rcases hf y hy with h1 | h1
  ·obtain ⟨z, hz, hzb⟩ := hb1 _ h1
   exact h.apart x z hx hz (e.trans hzb.symm)
  ·have := (h.lt1 hx).2
   omega
 ·exact Nat.le_trans h.rs hEx.size
 ·intro i hs
  rcases hs with hs | hs | hs | ⟨x, hx, rfl⟩
  ·exact Or.inl (Or.inl hs)
  ·exact Or.inl (Or.inr (Or.inl hs))
  ·exact Or.inl (Or.inr (Or.inr (Or.inl hs)))
  ·rcases hf x hx with h1 | h1
   ·exact Or.inl (Or.inr (Or.inr (Or.inr (hb1 _ h1))))
   ·exact Or.inr h1
theorem Seen.node {K : DownK} {γ : DownG} (h : Seen K γ) {n : Int} (y : Int) (hy : y = 1) {a3 : Option Addr} {c3 : Nat} : Seen K { (γ.met n y) with t := ⟨γ.t.nodes ++ [n], γ.t.pages⟩, a1 := a3, c1 := c3 } := by
 subst hy
 refine ⟨fun x => ?_, ?_⟩
 ·show (if x = n then 1 else γ.M x) = _
  rw [h.is x]
  by_cases e : x = n
  ·rw [if_pos e, if_pos (by simp [Tr.has, e])]
  ·rw [if_neg e]
   by_cases hq : x = K.root ∨ γ.t.has x
   ·rw [if_pos hq, if_pos (by simpa [Tr.has, e] using hq)]
   ·rw [if_neg hq, if_neg (by simpa [Tr.has, e] using hq)]
 ·have := h.few
  show γ.k + 1 ≤ (γ.t.nodes ++ [n]).length + γ.t.pages.length + 1
  simp only [List.length_append, List.length_singleton]
  omega
theorem Seen.page {K : DownK} {γ : DownG} (h : Seen K γ) {n : Int} (y : Int) (hy : y = 1) {a3 : Option Addr} {c3 : Nat} : Seen K { (γ.met n y) with t := ⟨γ.t.nodes, γ.t.pages ++ [n]⟩, a2 := a3, c2 := c3 } := by
 subst hy
 refine ⟨fun x => ?_, ?_⟩
 ·show (if x = n then 1 else γ.M x) = _
  rw [h.is x]
  by_cases e : x = n
  ·rw [if_pos e, if_pos (by simp [Tr.has, e])]
  ·rw [if_neg e]
   by_cases hq : x = K.root ∨ γ.t.has x
   ·rw [if_pos hq, if_pos (by simpa [Tr.has, e] using hq)]
   ·rw [if_neg hq, if_neg (by simpa [Tr.has, e] using hq)]
 ·have := h.few
  show γ.k + 1 ≤ γ.t.nodes.length + (γ.t.pages ++ [n]).length + 1
  simp only [List.length_append, List.length_singleton]
  omega
