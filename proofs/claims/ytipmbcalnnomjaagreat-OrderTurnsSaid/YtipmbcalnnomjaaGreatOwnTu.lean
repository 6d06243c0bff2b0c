import Derived.Test.YtipmbcalnnomjaaGreatBaseTu
import Derived.Laws.AppendOwnNone
import Derived.Maps.AppendAt
import Derived.Test.YtipmbcalnnomjaaGreatSqTu
set_option linter.unusedVariables false
set_option linter.unusedSimpArgs false
namespace Go.Proofs.YtipmbcalnnomjaaGreat
open Go.RowKit
def RowOf (w : World) (ad : Option Addr) (cs : List Value) : Prop := ∀ i u, cs[i]? = some u → ∃ b o, ad = some ⟨b, o, none⟩ ∧ w.cell? ⟨b, o + i, none⟩ = some u
theorem addr_add (b o i : Nat) : (⟨b, o, none⟩ : Addr).add i = ⟨b, o + i, none⟩ := by unfold Addr.add; split <;> simp_all
theorem RowOf.ext {S : Nat → Prop} {w w' : World} {ad : Option Addr} {cs : List Value} (h : RowOf w ad cs) (e : Ext S w w') (hn : ∀ a, ad = some a → ¬ S a.block) : RowOf w' ad cs := by
 intro i u hu
 obtain ⟨b, o, h1, h2⟩ := h i u hu
 exact ⟨b, o, h1, e.cell_some h2 (by simpa using hn _ h1)⟩
theorem own_form {w : World} {B e size n : Nat} {v : Value} {xs : List Value} (h : w.ownsRow B e size v n xs) : ∃ a c, v = .slice a n c ∧ n ≤ c ∧ c ≤ maxLen ∧ (a = none → c = 0) ∧ (∀ x, a = some x → B ≤ x.block ∧ x.block < w.heap.size ∧ x.off = 0 ∧ x.spot = none) := by
 rcases h.2 with ⟨rfl, rfl⟩ | ⟨g, cap, cur, rfl, hg, hh, h1, h2, _⟩
 ·exact ⟨none, 0, rfl, Nat.le_refl _, by simp, fun _ => rfl, fun x hx => by cases hx⟩
 ·exact ⟨_, cap, rfl, h1, h2, (fun hx => by cases hx), fun x hx => by cases hx; exact ⟨hg, (Array.getElem?_eq_some_iff.1 hh).1, rfl, rfl⟩⟩
theorem own_row {w : World} {B e size n c : Nat} {a : Option Addr} {xs : List Value} (h : w.ownsRow B e size (.slice a n c) n xs) : RowOf w a xs := by
 intro i u hu
 rcases h.2 with ⟨hv, rfl⟩ | ⟨g, cap, cur, hv, hg, hh, h1, h2, h3, h4⟩
 ·have := h.1; simp at this; subst this; simp at hu
 ·cases hv
  have := World.ownsRow.cells h (g := g) rfl i u hu
  rw [addr_add] at this
  exact ⟨g, 0, rfl, this⟩
theorem wpList_append_any {P : Program} {w : World} {ops : Array Oper} {rest : List Oper} {o : Oper} {a : Act} {Q : Exit → Act → World → Prop} (hgd : o.guard = none) (s x : Operand) (t : TypeId)
 (ho : o.op = .call { callee := .builtin .append, args := #[s, x], argTypes := #[t, t] })
 (base : Nat) (e : TypeId) (z : Value) (size bytes : Nat) (ht : P.underlying t = some (.slice e)) (hinfo : (P.info? e).map (fun i => (i.zero, i.size, i.bytes)) = some (some z, size, bytes))
 (hzs : z.cells.size = size) (hsz : 0 < size)
 (v : Value) (n : Nat) (xs : List Value) (hs : a.eval s = v) (hown : w.ownsRow base e size v n xs)
 (ad : Option Addr) (m c : Nat) (news : List Value) (hx : a.eval x = .slice ad m c) (hnil : ad = none → m = 0 ∧ c = 0) (hl : news.length = m * size) (hnews : RowOf w ad news) (h1 : ∀ u ∈ news, u.oneCell' = true)
 (k : Nat) (hk : n + m = k) (zs : List Value) (hz' : xs ++ news = zs) (hbytes : k * bytes ≤ 140737488355328) (h63 : k ≤ maxLen) (hbase : base ≤ w.heap.size)
 (h : ∀ (a' : Option Addr) (c' : Nat) (w' : World), w'.ownsRow base e size (.slice a' k c') k zs → w.grownBy w' v.ownBlock → wpList P ops Q rest (a.put o.dst (.slice a' k c')) w') : wpList P ops Q (o :: rest) a w := by
 subst hk hz'
 obtain ⟨i, hi, hz, hsize, hby⟩ := info_parts hinfo
 cases ad with
 | none =>
   obtain ⟨rfl, rfl⟩ := hnil rfl
   have hnn : news = [] := by simpa using hl
   subst hnn
   refine wpList_append_own_none hgd s x t ho base e i size ht hi v n xs hs hown hx ?_
   obtain ⟨a', c', rfl, _⟩ := own_form hown
   exact h a' c' w (by simpa using hown) ⟨rfl, rfl, rfl, Nat.le_refl _, fun _ _ _ => rfl⟩
 | some ad =>
   by_cases hm : m = 0
   ·subst hm
    have hnn : news = [] := by simpa using hl
    subst hnn
    refine wpList_append_own w hgd s x t ho base e i z size bytes ht hi hz hsize hby hzs hsz v n xs hs hown ad 0 c [] hx hl (fun j u hu => by simp at hu) h1 h63 hbytes hbase ?_
    intro v' w' h2 h3 _
    obtain ⟨a', c', rfl, _⟩ := own_form h2
    exact h a' c' w' h2 h3
   ·have hpos : 0 < news.length := by rw [hl]; exact Nat.mul_pos (by omega) hsz
    obtain ⟨b, o', hb, _⟩ := hnews 0 news[0] (List.getElem?_eq_getElem hpos)
    cases hb
    refine wpList_append_own w hgd s x t ho base e i z size bytes ht hi hz hsize hby hzs hsz v n xs hs hown _ m c news hx hl ?_ h1 h63 hbytes hbase ?_
    ·intro j u hu
     obtain ⟨b', o'', he, hc⟩ := hnews j u hu
     cases he
     rw [addr_add]; exact hc
    ·intro v' w' h2 h3 _
     obtain ⟨a', c', rfl, _⟩ := own_form h2
     exact h a' c' w' h2 h3
theorem own_at_cases {a' : Option Addr} {n c B : Nat} {v : Value} (h : (Value.slice a' n c).ownBlock = v.ownBlock ∨ (Value.slice a' n c).ownBlock = some B) : ∀ g, a' = some g → v.ownBlock = some g.block ∨ B ≤ g.block := by
 intro g hg
 subst hg
 rcases h with h | h
 ·exact Or.inl h.symm
 ·have := Option.some.inj h
  exact Or.inr (by omega)
theorem wpList_append_fresh {P : Program} {w : World} {ops : Array Oper} {rest : List Oper} {o : Oper} {a : Act} {Q : Exit → Act → World → Prop} (hgd : o.guard = none) (s x : Operand) (t : TypeId)
 (ho : o.op = .call { callee := .builtin .append, args := #[s, x], argTypes := #[t, t] })
 (base : Nat) (e : TypeId) (z : Value) (size bytes : Nat) (ht : P.underlying t = some (.slice e)) (hinfo : (P.info? e).map (fun i => (i.zero, i.size, i.bytes)) = some (some z, size, bytes))
 (hzs : z.cells.size = size) (hsz : 0 < size)
 (v : Value) (n : Nat) (xs : List Value) (hs : a.eval s = v) (hown : w.ownsRow base e size v n xs)
 (ad : Option Addr) (m c : Nat) (news : List Value) (hx : a.eval x = .slice ad m c) (hnil : ad = none → m = 0 ∧ c = 0) (hl : news.length = m * size) (hnews : RowOf w ad news) (h1 : ∀ u ∈ news, u.oneCell' = true)
 (k : Nat) (hk : n + m = k) (zs : List Value) (hz' : xs ++ news = zs) (hbytes : k * bytes ≤ 140737488355328) (h63 : k ≤ maxLen) (hbase : base ≤ w.heap.size)
 (h : ∀ (a' : Option Addr) (c' : Nat) (w' : World), w'.ownsRow base e size (.slice a' k c') k zs → w.grownBy w' v.ownBlock → (∀ g, a' = some g → v.ownBlock = some g.block ∨ w.heap.size ≤ g.block) → wpList P ops Q rest (a.put o.dst (.slice a' k c')) w') : wpList P ops Q (o :: rest) a w := by
 subst hk hz'
 obtain ⟨i, hi, hz, hsize, hby⟩ := info_parts hinfo
 cases ad with
 | none =>
   obtain ⟨rfl, rfl⟩ := hnil rfl
   have hnn : news = [] := by simpa using hl
   subst hnn
   refine wpList_append_own_none hgd s x t ho base e i size ht hi v n xs hs hown hx ?_
   obtain ⟨a', c', rfl, _⟩ := own_form hown
   exact h a' c' w (by simpa using hown) ⟨rfl, rfl, rfl, Nat.le_refl _, fun _ _ _ => rfl⟩ (fun g hg => by subst hg; exact Or.inl rfl)
 | some ad =>
   by_cases hm : m = 0
   ·subst hm
    have hnn : news = [] := by simpa using hl
    subst hnn
    refine wpList_append_own_at w hgd s x t ho base e i z size bytes ht hi hz hsize hby hzs hsz v n xs hs hown ad 0 c [] hx hl (fun j u hu => by simp at hu) h1 h63 hbytes hbase ?_
    intro v' w' h2 h3 _ h5
    obtain ⟨a', c', rfl, _⟩ := own_form h2
    exact h a' c' w' h2 h3 (own_at_cases h5)
   ·have hpos : 0 < news.length := by rw [hl]; exact Nat.mul_pos (by omega) hsz
    obtain ⟨b, o', hb, _⟩ := hnews 0 news[0] (List.getElem?_eq_getElem hpos)
    cases hb
    refine wpList_append_own_at w hgd s x t ho base e i z size bytes ht hi hz hsize hby hzs hsz v n xs hs hown _ m c news hx hl ?_ h1 h63 hbytes hbase ?_
    ·intro j u hu
     obtain ⟨b', o'', he, hc⟩ := hnews j u hu
     cases he
     rw [addr_add]; exact hc
    ·intro v' w' h2 h3 _ h5
     obtain ⟨a', c', rfl, _⟩ := own_form h2
     exact h a' c' w' h2 h3 (own_at_cases h5)
theorem Ext.own {S : Nat → Prop} {w0 w w' : World} {e size n : Nat} {v : Value} {xs : List Value} (h : Ext S w0 w) (hown : w.ownsRow w0.heap.size e size v n xs) (hg : w.grownBy w' v.ownBlock) : Ext S w0 w' :=
 h.grown hg (fun k hk hlt => by have := (hown.lt k hk).1; omega)
theorem ext_of_grown {w w' : World} {row : Option Nat} (hg : w.grownBy w' row) : Ext (fun i => row = some i) w w' :=
 ⟨hg.os, hg.tape, hg.output, hg.size, fun k hk hn => hg.block k hk (fun e => hn e.symm)⟩
theorem own_ext {S : Nat → Prop} {w w' : World} {B e size n : Nat} {v : Value} {xs : List Value} (h : w.ownsRow B e size v n xs) (k : Ext S w w') (hn : ∀ g, v.ownBlock = some g → ¬ S g) : w'.ownsRow B e size v n xs := by
 refine ⟨h.1, ?_⟩
 rcases h.2 with hv | ⟨g, cap, cur, rfl, hb, hgg, rest⟩
 ·exact .inl hv
 ·refine .inr ⟨g, cap, cur, rfl, hb, ?_, rest⟩
  rw [k.block g (Array.getElem?_eq_some_iff.1 hgg).1 (hn g rfl)]; exact hgg
theorem own_base {w : World} {B B' e size n : Nat} {v : Value} {xs : List Value} (h : w.ownsRow B e size v n xs) (hB : B' ≤ B) : w.ownsRow B' e size v n xs := by
 refine ⟨h.1, ?_⟩
 rcases h.2 with hv | ⟨g, cap, cur, rfl, hb, rest⟩
 ·exact .inl hv
 ·exact .inr ⟨g, cap, cur, rfl, Nat.le_trans hB hb, rest⟩
theorem own_new {w : World} {e size n : Nat} {cs : List Value} (hl : cs.length = n * size) (hm : n ≤ maxLen) (B : Nat) (hB : B ≤ w.heap.size) : (w.alloc (.cells cs.toArray e)).ownsRow B e size (.slice (some ⟨w.heap.size, 0, none⟩) n n) n cs :=
 ⟨hl, .inr ⟨w.heap.size, n, cs.toArray, rfl, hB, heap_alloc_new w _, Nat.le_refl _, hm, by simpa using hl, by simp [← hl]⟩⟩
