import Derived.Test.YtipmbcalnnomjaaGreatRowPutTu
import Derived.Test.YtipmbcalnnomjaaGreatDocDTu
import Derived.Maps.OwnOps
import Derived.Test.YtipmbcalnnomjaaGreatSqTu
set_option linter.unusedVariables false
set_option linter.unusedSimpArgs false
set_option maxRecDepth 100000
namespace Go.Proofs.YtipmbcalnnomjaaGreat
open Go.RowKit
structure PartsP where
 tree : List Int
 first : List Int
 own : List (List Int)
 shared : List Int
 others : List Int
end Go.Proofs.YtipmbcalnnomjaaGreat
namespace Go.Proofs.YtipmbcalnnomjaaGreat
open Go.RowKit Go.Maps
structure Rws (W : World) (a : Option Addr) (rs : List CRow) : Prop where
 row : RowOf W a (rs.map CRow.v)
 has : ∀ q ∈ rs, RowOf W q.a (intsV q.l)
def lsR (rs : List CRow) : List (List Int) := rs.map (·.l)
theorem Rws.ext {S : Nat → Prop} {W W' : World} {a : Option Addr} {rs : List CRow} (h : Rws W a rs) (hE : Ext S W W') (h1 : ∀ x, a = some x → ¬ S x.block) (h2 : ∀ q ∈ rs, ∀ x, q.a = some x → ¬ S x.block) : Rws W' a rs :=
 ⟨h.row.ext hE h1, fun q hq => (h.has q hq).ext hE (h2 q hq)⟩
theorem Rws.pure {W W' : World} {a : Option Addr} {rs : List CRow} (h : Rws W a rs) (hP : Pure W W') : Rws W' a rs := h.ext hP (fun _ _ => id) (fun _ _ _ _ => id)
theorem Rws.get {W : World} {a : Option Addr} {rs : List CRow} (h : Rws W a rs) {p : Nat} (hp : p < rs.length) : ∃ b o, a = some ⟨b, o, none⟩ ∧ W.cell? ⟨b, o + p, none⟩ = some (.slice rs[p].a rs[p].l.length rs[p].c) :=
 h.row p _ (by rw [List.getElem?_map, List.getElem?_eq_getElem hp]; rfl)
theorem lsR_len (rs : List CRow) : (lsR rs).length = rs.length := by unfold lsR; rw [List.length_map]
section
variable {κ κ' : Nat → Nat} {R c e : Nat} {W W' W1 W2 : World} {a a2 : Option Addr} {cap c2 : Nat} {xs : List Value} {S : Nat → Prop}
end
section
variable {T R tb : Nat} {κ κ' : Nat → Nat} {A : Nat → Option Addr} {C : Nat → Nat} {X : Nat → List Value} {W W' W1 W2 : World} {S : Nat → Prop}
end
def CRow.ok (W : World) (q : CRow) : Prop := RowOf W q.a (intsV q.l) ∧ (q.a = none → q.c = 0) ∧ q.l.length ≤ q.c
structure PartsAt (p : PartsP) (t f s h : CRow) (a : Option Addr) (c : Nat) (rs : List CRow) (W : World) : Prop where
 lt : t.l = p.tree
 lf : f.l = p.first
 lo : lsR rs = p.own
 ls : s.l = p.shared
 lh : h.l = p.others
 t : t.ok W
 f : f.ok W
 o : Rws W a rs
 on : (a = none → c = 0) ∧ rs.length ≤ c
 oq : ∀ q ∈ rs, q.ok W
 s : s.ok W
 h : h.ok W
theorem CRow.ok.pure {q : CRow} {W W' : World} (h : q.ok W) (hP : Pure W W') : q.ok W' := ⟨h.1.ext hP (fun _ _ => id), h.2⟩
theorem PartsAt.pure {p : PartsP} {t f s h : CRow} {a : Option Addr} {c : Nat} {rs : List CRow} {W W' : World} (H : PartsAt p t f s h a c rs W) (hP : Pure W W') : PartsAt p t f s h a c rs W' :=
 ⟨H.lt, H.lf, H.lo, H.ls, H.lh, H.t.pure hP, H.f.pure hP, H.o.pure hP, H.on, fun q hq => (H.oq q hq).pure hP, H.s.pure hP, H.h.pure hP⟩
def OwnI (l : List Int) (w : World) (e : Ending) (w' : World) : Prop :=
 ∃ (a : Option Addr) (c : Nat), e = .returned (.slice a l.length c) ∧ w'.ownsRow w.heap.size 3 1 (.slice a l.length c) l.length (intsV l) ∧ Pure w w'
set_option maxHeartbeats 1000000 in
theorem rsame_any (S : List Int) (a : Option Addr) (c : Nat) (a' : Option Addr) (c' : Nat) (w : World) (hR : RowOf w a (intsV S)) (hR' : RowOf w a' (intsV S)) (hl : S.length ≤ 100000000) :
 Calls Tryz.prog 49 #[.slice a S.length c, .slice a' S.length c'] w (BoolTo true w) := by
 obtain ⟨n, hn⟩ : ∃ n, n = S.length := ⟨_, rfl⟩
 rw [← hn]
 rw [← hn] at hl
 have HN := qh hn
 have HR := qh hR
 have HR' := qh hR'
 clear hn hR hR'
 go_enter Tryz.func49, Tryz.ntmps49
 go_wp2_with fail
 go_loopw [5] (fun i W => ∃ k : Nat, k ≤ n ∧ i = .int .i64 k ∧ Pure w W) (fun i _ => n - (intOf i).toNat)
 case atStart => exact ⟨0, Nat.zero_le _, rfl, Ext.refl _ _⟩
 case round =>
  obtain ⟨k, hk, rfl, hE⟩ := hrel
  by_cases hlt : k < n
  ·have hki : (k : Int) < (n : Int) := by omega
   have hkS : k < S.length := by rw [← HN.out]; exact hlt
   obtain ⟨b, o, rfl, hc⟩ := HR.out k _ (intsV_get hkS)
   obtain ⟨b', o', rfl, hc'⟩ := HR'.out k _ (intsV_get hkS)
   obtain ⟨y, hy⟩ : ∃ y, y = S[k] := ⟨_, rfl⟩
   rw [← hy] at hc hc'
   have c1 := hE.cell_some hc id
   have c2 := hE.cell_some hc' id
   clear hy hc hc'
   go_wp2_with fail
   go_quiet (fail)
   go_wp2_with fail
   go_roundw
   case rel => exact ⟨k + 1, by omega, by go_num, (hE.drewN _)⟩
   case measure => simp [intOf]; omega
  ·have hki : ¬ (k : Int) < (n : Int) := by omega
   go_wp2_with fail
   go_ret
   exact ⟨rfl, hE⟩
set_option maxHeartbeats 1000000 in
theorem cloneI_any (a : Option Addr) (c : Nat) (l : List Int) (w : World) (hr : RowOf w a (intsV l)) (hnil : a = none → c = 0) (hn : l.length ≤ 1000000) :
 Calls Tryz.prog 27 #[.slice a l.length c] w (OwnI l w) := by
 have he := eql_nil Tryz.underlying25
 cases a with
 | none =>
   obtain rfl := hnil rfl
   obtain rfl : l = [] := by
    cases l with
    | nil => rfl
    | cons x l =>
      obtain ⟨_, _, e, _⟩ := hr 0 (.int .i64 x) rfl
      cases e
   go_enter Tryz.func27, Tryz.ntmps27
   go_wp2_with fail
   go_ret
   exact ⟨none, 0, rfl, ⟨rfl, Or.inl ⟨rfl, rfl⟩⟩, Ext.refl _ _⟩
 | some ad =>
   have HR := qh hr
   obtain ⟨n, hN⟩ : ∃ z, z = l.length := ⟨_, rfl⟩
   rw [← hN] at hn ⊢
   have HN := qh hN
   have HL : Hid ((intsV l).length = n * 1) := qh (by rw [intsV_len, hN]; omega)
   have H1 : Hid (∀ u ∈ intsV l, u.oneCell' = true) := qh (fun u hu => by
    obtain ⟨x, _, rfl⟩ := List.mem_map.1 hu
    rfl)
   clear hr hnil hN
   go_enter Tryz.func27, Tryz.ntmps27
   go_wp2_with (at_builtin; refine wpList_append_any rfl (.tmp 5) (.tmp 6) 25 rfl w.heap.size 3 (.int .i64 0) 1 8 Tryz.underlying25 infoI rfl (by decide) (.slice (some ⟨w.heap.size, 0, none⟩) 0 0) 0 [] rfl (own_new (cs := []) rfl (Nat.zero_le _) _ (Nat.le_refl _)) (some ad) n c (intsV l) rfl (fun e => by cases e) HL.out (HR.out.ext (ext_alloc w _) (fun _ _ => id)) H1.out n (Nat.zero_add n) (intsV l) rfl (by omega) (by unfold maxLen; omega) (ext_alloc w _).size ?_)
   intro a' c' w' hO hg
   have hE : Pure w w' := (ext_alloc w (.cells #[] 3)).trans (ext_of_grown hg) (fun i hi e => by cases e; exact absurd hi (Nat.lt_irrefl _))
   have HO := qh hO
   clear hO hg
   go_wp2_with fail
   go_ret
   exact ⟨a', c', by rw [← HN.out]; rfl, by rw [← HN.out]; exact HO.out, hE⟩
