import Derived.Test.YtipmbcalnnomjaaGreatFewDTu
import Derived.Test.YtipmbcalnnomjaaGreatRefsRTu
import Derived.Test.YtipmbcalnnomjaaGreatSqTu
set_option linter.unusedVariables false
set_option linter.unusedSimpArgs false
namespace Go.Proofs.YtipmbcalnnomjaaGreat
open Go.RowKit
def noOb : Ob := ⟨nullV, false, ⟨#[]⟩⟩
def obAt (l : List Ob) (n : Int) : Ob := if 1 ≤ n ∧ n ≤ l.length then (l[(n - 1).toNat]?).getD noOb else noOb
def typedO (o : Ob) (t : ByteArray) : Bool := !o.st && decide ((o.v.get "Type".toUTF8).1.kind = 5) && decide ((o.v.get "Type".toUTF8).1.s = t)
def nodeO (o : Ob) : Option (List Int × Int) :=
 if typedO o "Pages".toUTF8 && decide ((o.v.get "Kids".toUTF8).1.kind = 6) && decide ((o.v.get "Kids".toUTF8).1.l ≠ []) && decide ((o.v.get "Count".toUTF8).1.kind = 2)
  && (o.v.get "Kids".toUTF8).1.l.all (fun k => decide (k.kind = 8))
  && decide (((o.v.get "Kids".toUTF8).1.l.length : Int) ≤ (o.v.get "Count".toUTF8).1.n) && decide ((o.v.get "Count".toUTF8).1.n ≤ 2048)
 then some ((o.v.get "Kids".toUTF8).1.l.map V.n, (o.v.get "Count".toUTF8).1.n) else none
def parentB (v : V) (n : Int) : Bool :=
 if n = 0 then !(v.get "Parent".toUTF8).2 else decide ((v.get "Parent".toUTF8).1.kind = 8) && decide ((v.get "Parent".toUTF8).1.n = n)
structure Tr where
 nodes : List Int
 pages : List Int
def Tr.has (t : Tr) (n : Int) : Prop := n ∈ t.nodes ∨ n ∈ t.pages
instance (t : Tr) (n : Int) : Decidable (t.has n) := inferInstanceAs (Decidable (_ ∨ _))
def kidsP (f : Tr → Int → Option (Tr × Int)) (one : Bool) : List Int → Tr → Int → Option (Tr × Int)
 | [], t, s => some (t, s)
 | k :: r, t, s => match f t k with
   | none => none
   | some (u, m) => if one = true ∧ m ≠ 1 then none else kidsP f one r u (s + m)
def belP (l : List Ob) (root : Int) : Nat → Int → Bool → Tr → Int → Option (Tr × Int)
 | f, parent, page, t, n =>
   if n = root ∨ t.has n ∨ parentB (obAt l n).v parent = false then none
   else if page && typedO (obAt l n) "Page".toUTF8 then some (⟨t.nodes, t.pages ++ [n]⟩, 1)
   else match f, nodeO (obAt l n) with
    | f + 1, some (kids, count) =>
      match kidsP (belP l root f n (decide (count = kids.length))) (decide (count = kids.length)) kids ⟨t.nodes ++ [n], t.pages⟩ 0 with
      | some (u, s) => if s = count then some (u, s) else none
      | none => none
    | _, _ => none
def walkP (l : List Ob) (root : Int) : Tr × Int :=
 if typedO (obAt l root) "Catalog".toUTF8 && decide (((obAt l root).v.get "Pages".toUTF8).1.kind = 8) then
  match belP l root 64 0 false ⟨[], []⟩ ((obAt l root).v.get "Pages".toUTF8).1.n with
  | some (t, _) => (t, 0)
  | none => (⟨[], []⟩, 24)
 else (⟨[], []⟩, 23)
theorem kidsP_len {f : Tr → Int → Option (Tr × Int)} {one : Bool} (hf : ∀ t k u m, f t k = some (u, m) → (u.pages.length : Int) = t.pages.length + m) :
 ∀ (r : List Int) (t : Tr) (s : Int) (u : Tr) (m : Int), kidsP f one r t s = some (u, m) → (u.pages.length : Int) - t.pages.length = m - s
 | [], t, s, u, m, h => by simp only [kidsP, Option.some.injEq, Prod.mk.injEq] at h; obtain ⟨rfl, rfl⟩ := h; omega
 | k :: r, t, s, u, m, h => by
   unfold kidsP at h
   split at h
   ·cases h
   ·rename_i v q hq
    split at h
    ·cases h
    ·have h1 := hf _ _ _ _ hq
     have h2 := kidsP_len hf r v (s + q) u m h
     omega
theorem belP_len (l : List Ob) (root : Int) : ∀ (f : Nat) (parent : Int) (page : Bool) (t : Tr) (n : Int) (u : Tr) (m : Int), belP l root f parent page t n = some (u, m) → (u.pages.length : Int) = t.pages.length + m := by
 intro f
 induction f with
 | zero =>
   intro parent page t n u m h
   unfold belP at h
   split at h
   ·cases h
   ·split at h
    ·simp only [Option.some.injEq, Prod.mk.injEq] at h; obtain ⟨rfl, rfl⟩ := h; simp
    ·simp at h
 | succ f ih =>
   intro parent page t n u m h
   unfold belP at h
   split at h
   ·cases h
   ·split at h
    ·simp only [Option.some.injEq, Prod.mk.injEq] at h; obtain ⟨rfl, rfl⟩ := h; simp
    ·split at h
     ·rename_i f' kids count e1 e2
      cases e1
      split at h
      ·rename_i u' s' hk
       split at h
       ·simp only [Option.some.injEq, Prod.mk.injEq] at h
        obtain ⟨rfl, rfl⟩ := h
        have := kidsP_len (fun t k u m hh => ih n _ t k u m hh) kids _ 0 u' s' hk
        simp only at this
        omega
       ·cases h
      ·cases h
     ·cases h
theorem get_null (key : ByteArray) : nullV.get key = (nullV, false) := by
 have h : nullV.find key = none := by unfold V.find; rw [if_neg (by simp [nullV, V.kind])]
 unfold V.get; rw [h]
theorem typed_in {l : List Ob} {n : Int} {t : ByteArray} (h : typedO (obAt l n) t = true) : 1 ≤ n ∧ n ≤ l.length := by
 by_cases hc : 1 ≤ n ∧ n ≤ l.length
 ·exact hc
 ·exfalso
  unfold obAt at h
  rw [if_neg hc] at h
  unfold typedO at h
  rw [Bool.and_eq_true, Bool.and_eq_true] at h
  have h2 := of_decide_eq_true h.1.2
  change (nullV.get _).1.kind = 5 at h2
  rw [get_null] at h2
  exact absurd h2 (by decide)
theorem node_typed {o : Ob} {kids : List Int} {c : Int} (h : nodeO o = some (kids, c)) : typedO o "Pages".toUTF8 = true ∧ 0 < kids.length ∧ (kids.length : Int) ≤ c ∧ c ≤ 2048 := by
 unfold nodeO at h
 split at h
 ·rename_i hc
  simp only [Bool.and_eq_true, decide_eq_true_eq] at hc
  obtain ⟨⟨⟨⟨⟨⟨h1, h2⟩, h3⟩, h4⟩, h5⟩, h6⟩, h7⟩ := hc
  simp only [Option.some.injEq, Prod.mk.injEq] at h
  obtain ⟨rfl, rfl⟩ := h
  refine ⟨h1, ?_, ?_, h7⟩
  ·rw [List.length_map]; exact List.length_pos_iff.2 h3
  ·rw [List.length_map]; exact h6
 ·cases h
structure Tr.Ok (l : List Ob) (t : Tr) : Prop where
 nd : (t.nodes ++ t.pages).Nodup
 lo : ∀ x, t.has x → 1 ≤ x ∧ x ≤ l.length
theorem Tr.ok_nil (l : List Ob) : Tr.Ok l ⟨[], []⟩ := ⟨by simp, fun x h => by simp [Tr.has] at h⟩
theorem Tr.Ok.page {l : List Ob} {t : Tr} {n : Int} (h : t.Ok l) (hn : ¬ t.has n) (hi : 1 ≤ n ∧ n ≤ l.length) : Tr.Ok l ⟨t.nodes, t.pages ++ [n]⟩ := by
 refine ⟨?_, fun x hx => ?_⟩
 ·show (t.nodes ++ (t.pages ++ [n])).Nodup
  rw [← List.append_assoc, List.nodup_append]
  refine ⟨h.nd, by simp, fun a ha b hb e => ?_⟩
  simp only [List.mem_singleton] at hb
  subst hb; subst e
  exact hn (List.mem_append.1 ha)
 ·unfold Tr.has at hx
  simp only [List.mem_append, List.mem_singleton] at hx
  rcases hx with hx | hx | rfl
  ·exact h.lo x (Or.inl hx)
  ·exact h.lo x (Or.inr hx)
  ·exact hi
theorem Tr.Ok.node {l : List Ob} {t : Tr} {n : Int} (h : t.Ok l) (hn : ¬ t.has n) (hi : 1 ≤ n ∧ n ≤ l.length) : Tr.Ok l ⟨t.nodes ++ [n], t.pages⟩ := by
 refine ⟨?_, fun x hx => ?_⟩
 ·show ((t.nodes ++ [n]) ++ t.pages).Nodup
  have h1 := List.nodup_append.1 h.nd
  rw [List.append_assoc, List.nodup_append]
  refine ⟨h1.1, ?_, fun a ha b hb e => ?_⟩
  ·rw [List.singleton_append, List.nodup_cons]
   exact ⟨fun hm => hn (Or.inr hm), h1.2.1⟩
  ·subst e
   rcases List.mem_cons.1 hb with rfl | hb
   ·exact hn (Or.inl ha)
   ·exact h1.2.2 _ ha _ hb rfl
 ·unfold Tr.has at hx
  simp only [List.mem_append, List.mem_singleton] at hx
  rcases hx with (hx | rfl) | hx
  ·exact h.lo x (Or.inl hx)
  ·exact hi
  ·exact h.lo x (Or.inr hx)
theorem kidsP_ok {l : List Ob} {f : Tr → Int → Option (Tr × Int)} {one : Bool} (hf : ∀ t k u m, t.Ok l → f t k = some (u, m) → u.Ok l) :
 ∀ (r : List Int) (t : Tr) (s : Int) (u : Tr) (m : Int), t.Ok l → kidsP f one r t s = some (u, m) → u.Ok l
 | [], t, s, u, m, ht, h => by simp only [kidsP, Option.some.injEq, Prod.mk.injEq] at h; obtain ⟨rfl, rfl⟩ := h; exact ht
 | k :: r, t, s, u, m, ht, h => by
   unfold kidsP at h
   split at h
   ·cases h
   ·rename_i v q hq
    split at h
    ·cases h
    ·exact kidsP_ok hf r v (s + q) u m (hf _ _ _ _ ht hq) h
theorem belP_ok (l : List Ob) (root : Int) : ∀ (f : Nat) (parent : Int) (page : Bool) (t : Tr) (n : Int) (u : Tr) (m : Int), t.Ok l → belP l root f parent page t n = some (u, m) → u.Ok l ∧ 1 ≤ m := by
 intro f
 induction f with
 | zero =>
   intro parent page t n u m ht h
   unfold belP at h
   split at h
   ·cases h
   ·rename_i hc
    simp only [not_or] at hc
    split at h
    ·rename_i hp
     simp only [Option.some.injEq, Prod.mk.injEq] at h; obtain ⟨rfl, rfl⟩ := h
     rw [Bool.and_eq_true] at hp
     exact ⟨ht.page hc.2.1 (typed_in hp.2), by omega⟩
    ·simp at h
 | succ f ih =>
   intro parent page t n u m ht h
   unfold belP at h
   split at h
   ·cases h
   ·rename_i hc
    simp only [not_or] at hc
    split at h
    ·rename_i hp
     simp only [Option.some.injEq, Prod.mk.injEq] at h; obtain ⟨rfl, rfl⟩ := h
     rw [Bool.and_eq_true] at hp
     exact ⟨ht.page hc.2.1 (typed_in hp.2), by omega⟩
    ·split at h
     ·rename_i f' kids count e1 e2
      cases e1
      have hN := node_typed e2
      split at h
      ·rename_i u' s' hk
       split at h
       ·rename_i hs
        simp only [Option.some.injEq, Prod.mk.injEq] at h
        obtain ⟨rfl, rfl⟩ := h
        refine ⟨kidsP_ok (fun t k u m ht hh => (ih n _ t k u m ht hh).1) kids _ 0 u' s' (ht.node hc.2.1 (typed_in hN.1)) hk, ?_⟩
        have := hN.2.1; have := hN.2.2.1; omega
       ·cases h
      ·cases h
     ·cases h
theorem Tr.Ok.len {l : List Ob} {t : Tr} (h : t.Ok l) : t.nodes.length + t.pages.length ≤ l.length := by
 have h1 := nodup_len (t.nodes ++ t.pages) ((List.range l.length).map fun (k : Nat) => (k : Int) + 1) h.nd fun x hx => by
  have := h.lo x (List.mem_append.1 hx)
  exact List.mem_map.2 ⟨(x - 1).toNat, List.mem_range.2 (by omega), by omega⟩
 rw [List.length_append, List.length_map, List.length_range] at h1
 exact h1
