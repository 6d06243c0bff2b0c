import Derived.WalkKit
import Derived.Lib.Hide
import Derived.Deep.QuietTactic
import Derived.BigQuiet
import Derived.Deep.LoopGhost
import Derived.Deep.MidRow
import Derived.Laws.AppendOwnNone
import Derived.Maps.AppendAt
import Derived.Test.YtomcdhljjmnahaaGreatProg
import Derived.Lib.SlBytesConst
import Derived.WalkSpells
import Derived.Deep.RegionHeld3
import Derived.RowKit
import Derived.StillTailTactics
import Derived.Test.YtomcdhljjmnahaaGreatSqPa
set_option linter.unusedVariables false
set_option linter.unusedSimpArgs false
set_option maxRecDepth 100000
namespace Go.Proofs.YtomcdhljjmnahaaGreat
open Go.RowKit
structure Ext (S : Nat → Prop) (w w' : World) : Prop where
 os : w'.os = w.os
 tape : w'.tape = w.tape
 output : w'.output = w.output
 size : w.heap.size ≤ w'.heap.size
 block : ∀ k, k < w.heap.size → ¬ S k → w'.heap[k]? = w.heap[k]?
abbrev Pure (w w' : World) : Prop := Ext (fun _ => False) w w'
namespace Ext
variable {S : Nat → Prop} {a w w' : World}
theorem refl (S : Nat → Prop) (w : World) : Ext S w w := ⟨rfl, rfl, rfl, Nat.le_refl _, fun _ _ _ => rfl⟩
theorem trans' {S T U : Nat → Prop} {a b c : World} (h : Ext S a b) (k : Ext T b c) (hS : ∀ i, i < a.heap.size → S i → U i) (hT : ∀ i, i < a.heap.size → T i → U i) : Ext U a c :=
 ⟨k.os.trans h.os, k.tape.trans h.tape, k.output.trans h.output, Nat.le_trans h.size k.size,
  fun i hi hn => (k.block i (Nat.lt_of_lt_of_le hi h.size) (fun e => hn (hT i hi e))).trans (h.block i hi (fun e => hn (hS i hi e)))⟩
theorem trans {T : Nat → Prop} {a b c : World} (h : Ext S a b) (k : Ext T b c) (hT : ∀ i, i < a.heap.size → T i → S i) : Ext S a c :=
 trans' h k (fun _ _ e => e) hT
theorem pure {b c : World} (h : Ext S a b) (k : Pure b c) : Ext S a c := trans h k (fun _ _ e => e.elim)
theorem mono {T : Nat → Prop} (h : Ext S a w) (hS : ∀ i, i < a.heap.size → S i → T i) : Ext T a w := ⟨h.os, h.tape, h.output, h.size, fun i hi hn => h.block i hi (fun e => hn (hS i hi e))⟩
theorem below (h : Pure a w) : Below a.heap.size a w := ⟨h.os, h.tape, h.output, h.size, fun k hk => h.block k hk id⟩
theorem of_below (h : Below a.heap.size a w) : Ext S a w := ⟨h.os, h.tape, h.output, h.size, fun k hk _ => h.block k hk⟩
theorem drew (h : Ext S a w) : Ext S a w.drew := ⟨h.os, h.tape, h.output, h.size, h.block⟩
theorem drewN (h : Ext S a w) (n : Nat) : Ext S a (w.drewN n) := ⟨h.os, h.tape, h.output, h.size, h.block⟩
theorem alloc (h : Ext S a w) (o : Obj) : Ext S a (w.alloc o) :=
 trans h (⟨rfl, rfl, rfl, by simp, fun k hk _ => Below.heap_alloc _ _ _ (by omega)⟩ : Pure w (w.alloc o)) (fun _ _ e => e.elim)
theorem setCell (h : Ext S a w) {p : Addr} (hp : p.block < a.heap.size → S p.block) (u : Value) : Ext S a (w.setCell p u) :=
 trans h (⟨rfl, rfl, rfl, by simp [World.setCell], fun k _ hn => Below.heap_setCell _ _ _ _ hn⟩ : Ext (fun i => i = p.block) w (w.setCell p u)) (fun i hi e => by subst e; exact hp hi)
theorem grown {row : Option Nat} (h : Ext S a w) (hg : w.grownBy w' row) (hr : ∀ k, row = some k → k < a.heap.size → S k) : Ext S a w' :=
 trans h (⟨hg.os, hg.tape, hg.output, hg.size, fun k hk hn => hg.block k hk (fun e => hn e.symm)⟩ : Ext (fun i => row = some i) w w') (fun i hi e => hr i e hi)
theorem cell (h : Ext S a w) {p : Addr} (hp : p.block < a.heap.size) (hn : ¬ S p.block) : w.cell? p = a.cell? p := World.cell?_of_block (w := a) (h.block p.block hp hn)
theorem cell_some (h : Ext S a w) {p : Addr} {v : Value} (hc : a.cell? p = some v) (hn : ¬ S p.block) : w.cell? p = some v := (h.cell (World.block_lt_of_cell? a p hc) hn).trans hc
end Ext
def BlockIs (w : World) (b : Nat) (cs : List Value) (T : TypeId) : Prop := w.heap[b]? = some (.cells cs.toArray T (0, 0))
namespace BlockIs
variable {w w' : World} {b : Nat} {cs : List Value} {T : TypeId}
theorem lt (h : BlockIs w b cs T) : b < w.heap.size := (Array.getElem?_eq_some_iff.1 h).1
theorem cell (h : BlockIs w b cs T) (i : Nat) : w.cell? ⟨b, i, none⟩ = cs[i]? := by unfold World.cell?; rw [h]; simp
theorem free (h : BlockIs w b cs T) (i : Nat) : w.frozen? ⟨b, i, none⟩ = false := by unfold World.frozen?; rw [h]; simp
theorem new (w : World) (cs : List Value) (T : TypeId) : BlockIs (w.alloc (.cells cs.toArray T)) w.heap.size cs T := by unfold BlockIs; exact heap_alloc_new w _
theorem alloc (h : BlockIs w b cs T) (o : Obj) : BlockIs (w.alloc o) b cs T := by unfold BlockIs; rw [Below.heap_alloc _ _ _ h.lt]; exact h
theorem drew (h : BlockIs w b cs T) : BlockIs w.drew b cs T := h
theorem drewN (h : BlockIs w b cs T) (n : Nat) : BlockIs (w.drewN n) b cs T := h
theorem ext {S : Nat → Prop} (h : BlockIs w b cs T) (e : Ext S w w') (hn : ¬ S b) : BlockIs w' b cs T := by unfold BlockIs; rw [e.block b h.lt hn]; exact h
theorem set (h : BlockIs w b cs T) (i : Nat) (v : Value) : BlockIs (w.setCell ⟨b, i, none⟩ v) b (cs.set i v) T := by
 unfold BlockIs World.setCell; simp only [Array.getElem?_modify]
 unfold BlockIs at h; rw [h]; simp
theorem setOther (h : BlockIs w b cs T) {p : Addr} (hp : p.block ≠ b) (v : Value) : BlockIs (w.setCell p v) b cs T := by
 unfold BlockIs; rw [Below.heap_setCell _ _ _ _ (fun e => hp e.symm)]; exact h
end BlockIs
theorem Ext.setCells {S : Nat → Prop} {a : World} {b : Nat} : ∀ (vs : List Value) (o : Nat) (w : World), Ext S a w → (b < a.heap.size → S b) → Ext S a (w.setCells b o vs)
 | [], _, _, h, _ => h
 | v :: r, o, w, h, hb => Ext.setCells r (o + 1) _ (h.setCell (p := ⟨b, o, none⟩) hb v) hb
theorem BlockIs.setCells {b : Nat} {T : TypeId} : ∀ (vs pre old : List Value) (w : World), BlockIs w b (pre ++ old) T → old.length = vs.length → BlockIs (w.setCells b pre.length vs) b (pre ++ vs) T
 | [], pre, old, w, h, hl => by
   obtain rfl : old = [] := List.length_eq_zero_iff.1 hl
   exact h
 | v :: r, pre, old, w, h, hl => by
   cases old with
   | nil => simp at hl
   | cons o old =>
     have h1 := h.set pre.length v
     have e : (pre ++ o :: old).set pre.length v = (pre ++ [v]) ++ old := by simp
     rw [e] at h1
     have h2 := BlockIs.setCells r (pre ++ [v]) old _ h1 (by simpa using hl)
     have e2 : (pre ++ [v]) ++ r = pre ++ v :: r := by simp
     rw [e2, List.length_append] at h2
     exact h2
theorem BlockIs.setAll {w : World} {b : Nat} {T : TypeId} {cs : List Value} (vs : List Value) (h : BlockIs w b cs T) (hl : cs.length = vs.length) : BlockIs (w.setCells b 0 vs) b vs T :=
 BlockIs.setCells vs [] cs w h hl
theorem BlockIs.range {w : World} {b : Nat} {T : TypeId} {cs : List Value} (h : BlockIs w b cs T) : w.rangeAt b 0 cs := fun j v hv => by rw [Nat.zero_add, h.cell j]; exact hv
theorem BlockIs.there {w : World} {b : Nat} {T : TypeId} {cs : List Value} (h : BlockIs w b cs T) (n : Nat) (hn : n = cs.length) : w.there b 0 n := fun j hj => by
 rw [Nat.zero_add, h.cell j, h.free j, List.getElem?_eq_getElem (by omega)]
 exact ⟨rfl, rfl⟩
def RowOf (w : World) (ad : Option Addr) (cs : List Value) : Prop := ∀ i u, cs[i]? = some u → ∃ b o, ad = some ⟨b, o, none⟩ ∧ w.cell? ⟨b, o + i, none⟩ = some u
theorem addr_add (b o i : Nat) : (⟨b, o, none⟩ : Addr).add i = ⟨b, o + i, none⟩ := by unfold Addr.add; split <;> simp_all
theorem RowOf.ext {S : Nat → Prop} {w w' : World} {ad : Option Addr} {cs : List Value} (h : RowOf w ad cs) (e : Ext S w w') (hn : ∀ a, ad = some a → ¬ S a.block) : RowOf w' ad cs := by
 intro i u hu
 obtain ⟨b, o, h1, h2⟩ := h i u hu
 exact ⟨b, o, h1, e.cell_some h2 (by simpa using hn _ h1)⟩
theorem own_form {w : World} {B e size n : Nat} {v : Value} {xs : List Value} (h : w.ownsRow B e size v n xs) : ∃ a c, v = .slice a n c ∧ n ≤ c ∧ c ≤ maxLen ∧ (a = none → c = 0) ∧ (∀ x, a = some x → B ≤ x.block ∧ x.block < w.heap.size ∧ x.off = 0 ∧ x.spot = none) := by
 rcases h.2 with ⟨rfl, rfl⟩ | ⟨g, cap, cur, rfl, hg, hh, h1, h2, _⟩
 ·exact ⟨none, 0, rfl, Nat.le_refl _, by simp, fun _ => rfl, fun x hx => by cases hx⟩
 ·exact ⟨_, cap, rfl, h1, h2, (fun hx => by cases hx), fun x hx => by cases hx; exact ⟨hg, (Array.getElem?_eq_some_iff.1 hh).1, rfl, rfl⟩⟩
theorem own_row {w : World} {B e size n c : Nat} {a : Option Addr} {xs : List Value} (h : w.ownsRow B e size (.slice a n c) n xs) : RowOf w a xs := by
 intro i u hu
 rcases h.2 with ⟨hv, rfl⟩ | ⟨g, cap, cur, hv, hg, hh, h1, h2, h3, h4⟩
 ·have := h.1; simp at this; subst this; simp at hu
 ·cases hv
  have := World.ownsRow.cells h (g := g) rfl i u hu
  rw [addr_add] at this
  exact ⟨g, 0, rfl, this⟩
theorem wpList_append_any {P : Program} {w : World} {ops : Array Oper} {rest : List Oper} {o : Oper} {a : Act} {Q : Exit → Act → World → Prop} (hgd : o.guard = none) (s x : Operand) (t : TypeId)
 (ho : o.op = .call { callee := .builtin .append, args := #[s, x], argTypes := #[t, t] })
 (base : Nat) (e : TypeId) (z : Value) (size bytes : Nat) (ht : P.underlying t = some (.slice e)) (hinfo : (P.info? e).map (fun i => (i.zero, i.size, i.bytes)) = some (some z, size, bytes))
 (hzs : z.cells.size = size) (hsz : 0 < size)
 (v : Value) (n : Nat) (xs : List Value) (hs : a.eval s = v) (hown : w.ownsRow base e size v n xs)
 (ad : Option Addr) (m c : Nat) (news : List Value) (hx : a.eval x = .slice ad m c) (hnil : ad = none → m = 0 ∧ c = 0) (hl : news.length = m * size) (hnews : RowOf w ad news) (h1 : ∀ u ∈ news, u.oneCell' = true)
 (k : Nat) (hk : n + m = k) (zs : List Value) (hz' : xs ++ news = zs) (hbytes : k * bytes ≤ 140737488355328) (h63 : k ≤ maxLen) (hbase : base ≤ w.heap.size)
 (h : ∀ (a' : Option Addr) (c' : Nat) (w' : World), w'.ownsRow base e size (.slice a' k c') k zs → w.grownBy w' v.ownBlock → wpList P ops Q rest (a.put o.dst (.slice a' k c')) w') : wpList P ops Q (o :: rest) a w := by
 subst hk hz'
 obtain ⟨i, hi, hz, hsize, hby⟩ := info_parts hinfo
 cases ad with
 | none =>
   obtain ⟨rfl, rfl⟩ := hnil rfl
   have hnn : news = [] := by simpa using hl
   subst hnn
   refine wpList_append_own_none hgd s x t ho base e i size ht hi v n xs hs hown hx ?_
   obtain ⟨a', c', rfl, _⟩ := own_form hown
   exact h a' c' w (by simpa using hown) ⟨rfl, rfl, rfl, Nat.le_refl _, fun _ _ _ => rfl⟩
 | some ad =>
   by_cases hm : m = 0
   ·subst hm
    have hnn : news = [] := by simpa using hl
    subst hnn
    refine wpList_append_own w hgd s x t ho base e i z size bytes ht hi hz hsize hby hzs hsz v n xs hs hown ad 0 c [] hx hl (fun j u hu => by simp at hu) h1 h63 hbytes hbase ?_
    intro v' w' h2 h3 _
    obtain ⟨a', c', rfl, _⟩ := own_form h2
    exact h a' c' w' h2 h3
   ·have hpos : 0 < news.length := by rw [hl]; exact Nat.mul_pos (by omega) hsz
    obtain ⟨b, o', hb, _⟩ := hnews 0 news[0] (List.getElem?_eq_getElem hpos)
    cases hb
    refine wpList_append_own w hgd s x t ho base e i z size bytes ht hi hz hsize hby hzs hsz v n xs hs hown _ m c news hx hl ?_ h1 h63 hbytes hbase ?_
    ·intro j u hu
     obtain ⟨b', o'', he, hc⟩ := hnews j u hu
     cases he
     rw [addr_add]; exact hc
    ·intro v' w' h2 h3 _
     obtain ⟨a', c', rfl, _⟩ := own_form h2
     exact h a' c' w' h2 h3
theorem own_at_cases {a' : Option Addr} {n c B : Nat} {v : Value} (h : (Value.slice a' n c).ownBlock = v.ownBlock ∨ (Value.slice a' n c).ownBlock = some B) : ∀ g, a' = some g → v.ownBlock = some g.block ∨ B ≤ g.block := by
 intro g hg
 subst hg
 rcases h with h | h
 ·exact Or.inl h.symm
 ·have := Option.some.inj h
  exact Or.inr (by omega)
theorem wpList_append_fresh {P : Program} {w : World} {ops : Array Oper} {rest : List Oper} {o : Oper} {a : Act} {Q : Exit → Act → World → Prop} (hgd : o.guard = none) (s x : Operand) (t : TypeId)
 (ho : o.op = .call { callee := .builtin .append, args := #[s, x], argTypes := #[t, t] })
 (base : Nat) (e : TypeId) (z : Value) (size bytes : Nat) (ht : P.underlying t = some (.slice e)) (hinfo : (P.info? e).map (fun i => (i.zero, i.size, i.bytes)) = some (some z, size, bytes))
 (hzs : z.cells.size = size) (hsz : 0 < size)
 (v : Value) (n : Nat) (xs : List Value) (hs : a.eval s = v) (hown : w.ownsRow base e size v n xs)
 (ad : Option Addr) (m c : Nat) (news : List Value) (hx : a.eval x = .slice ad m c) (hnil : ad = none → m = 0 ∧ c = 0) (hl : news.length = m * size) (hnews : RowOf w ad news) (h1 : ∀ u ∈ news, u.oneCell' = true)
 (k : Nat) (hk : n + m = k) (zs : List Value) (hz' : xs ++ news = zs) (hbytes : k * bytes ≤ 140737488355328) (h63 : k ≤ maxLen) (hbase : base ≤ w.heap.size)
 (h : ∀ (a' : Option Addr) (c' : Nat) (w' : World), w'.ownsRow base e size (.slice a' k c') k zs → w.grownBy w' v.ownBlock → (∀ g, a' = some g → v.ownBlock = some g.block ∨ w.heap.size ≤ g.block) → wpList P ops Q rest (a.put o.dst (.slice a' k c')) w') : wpList P ops Q (o :: rest) a w := by
 subst hk hz'
 obtain ⟨i, hi, hz, hsize, hby⟩ := info_parts hinfo
 cases ad with
 | none =>
   obtain ⟨rfl, rfl⟩ := hnil rfl
   have hnn : news = [] := by simpa using hl
   subst hnn
   refine wpList_append_own_none hgd s x t ho base e i size ht hi v n xs hs hown hx ?_
   obtain ⟨a', c', rfl, _⟩ := own_form hown
   exact h a' c' w (by simpa using hown) ⟨rfl, rfl, rfl, Nat.le_refl _, fun _ _ _ => rfl⟩ (fun g hg => by subst hg; exact Or.inl rfl)
 | some ad =>
   by_cases hm : m = 0
   ·subst hm
    have hnn : news = [] := by simpa using hl
    subst hnn
    refine wpList_append_own_at w hgd s x t ho base e i z size bytes ht hi hz hsize hby hzs hsz v n xs hs hown ad 0 c [] hx hl (fun j u hu => by simp at hu) h1 h63 hbytes hbase ?_
    intro v' w' h2 h3 _ h5
    obtain ⟨a', c', rfl, _⟩ := own_form h2
    exact h a' c' w' h2 h3 (own_at_cases h5)
   ·have hpos : 0 < news.length := by rw [hl]; exact Nat.mul_pos (by omega) hsz
    obtain ⟨b, o', hb, _⟩ := hnews 0 news[0] (List.getElem?_eq_getElem hpos)
    cases hb
    refine wpList_append_own_at w hgd s x t ho base e i z size bytes ht hi hz hsize hby hzs hsz v n xs hs hown _ m c news hx hl ?_ h1 h63 hbytes hbase ?_
    ·intro j u hu
     obtain ⟨b', o'', he, hc⟩ := hnews j u hu
     cases he
     rw [addr_add]; exact hc
    ·intro v' w' h2 h3 _ h5
     obtain ⟨a', c', rfl, _⟩ := own_form h2
     exact h a' c' w' h2 h3 (own_at_cases h5)
theorem Ext.own {S : Nat → Prop} {w0 w w' : World} {e size n : Nat} {v : Value} {xs : List Value} (h : Ext S w0 w) (hown : w.ownsRow w0.heap.size e size v n xs) (hg : w.grownBy w' v.ownBlock) : Ext S w0 w' :=
 h.grown hg (fun k hk hlt => by have := (hown.lt k hk).1; omega)
theorem ext_of_grown {w w' : World} {row : Option Nat} (hg : w.grownBy w' row) : Ext (fun i => row = some i) w w' :=
 ⟨hg.os, hg.tape, hg.output, hg.size, fun k hk hn => hg.block k hk (fun e => hn e.symm)⟩
theorem own_ext {S : Nat → Prop} {w w' : World} {B e size n : Nat} {v : Value} {xs : List Value} (h : w.ownsRow B e size v n xs) (k : Ext S w w') (hn : ∀ g, v.ownBlock = some g → ¬ S g) : w'.ownsRow B e size v n xs := by
 refine ⟨h.1, ?_⟩
 rcases h.2 with hv | ⟨g, cap, cur, rfl, hb, hgg, rest⟩
 ·exact .inl hv
 ·refine .inr ⟨g, cap, cur, rfl, hb, ?_, rest⟩
  rw [k.block g (Array.getElem?_eq_some_iff.1 hgg).1 (hn g rfl)]; exact hgg
theorem own_base {w : World} {B B' e size n : Nat} {v : Value} {xs : List Value} (h : w.ownsRow B e size v n xs) (hB : B' ≤ B) : w.ownsRow B' e size v n xs := by
 refine ⟨h.1, ?_⟩
 rcases h.2 with hv | ⟨g, cap, cur, rfl, hb, rest⟩
 ·exact .inl hv
 ·exact .inr ⟨g, cap, cur, rfl, Nat.le_trans hB hb, rest⟩
theorem own_new {w : World} {e size n : Nat} {cs : List Value} (hl : cs.length = n * size) (hm : n ≤ maxLen) (B : Nat) (hB : B ≤ w.heap.size) : (w.alloc (.cells cs.toArray e)).ownsRow B e size (.slice (some ⟨w.heap.size, 0, none⟩) n n) n cs :=
 ⟨hl, .inr ⟨w.heap.size, n, cs.toArray, rfl, hB, heap_alloc_new w _, Nat.le_refl _, hm, by simpa using hl, by simp [← hl]⟩⟩
theorem own_set {w : World} {B e n c : Nat} {a : Option Addr} {xs : List Value} (h : w.ownsRow B e 1 (.slice a n c) n xs) (i : Nat) (hi : i < n) (u : Value) : ∃ g, a = some ⟨g, 0, none⟩ ∧ B ≤ g ∧ (∃ y, w.cell? ⟨g, i, none⟩ = some y) ∧ w.frozen? ⟨g, i, none⟩ = false ∧ (w.setCell ⟨g, i, none⟩ u).ownsRow B e 1 (.slice a n c) n (xs.set i u) := by
 have hlen := h.1
 rcases h.2 with ⟨_, rfl⟩ | ⟨g, cap, cur, hv, hg, hh, h1, h2, h3, h4⟩
 ·omega
 ·cases hv
  refine ⟨g, rfl, hg, ?_, ?_, ?_⟩
  ·exact ⟨cur[i]'(by omega), by unfold World.cell?; simp [hh, show i < cur.size by omega]⟩
  ·unfold World.frozen?; simp [hh]
  ·refine ⟨by simpa using hlen, .inr ⟨g, c, cur.setIfInBounds i u, rfl, hg, ?_, h1, h2, by simpa using h3, ?_⟩⟩
   ·unfold World.setCell; simp only [Array.getElem?_modify]; rw [hh]; simp
   ·rw [← h4]; simp [List.take_set]
def byV (x : UInt8) : Value := .int .u8 (x.toNat : Int)
def Bytes (w : World) (ad : Option Addr) (l : List UInt8) : Prop := RowOf w ad (l.map byV)
theorem Bytes.at {w : World} {ad : Option Addr} {l : List UInt8} (h : Bytes w ad l) (i : Nat) (hi : i < l.length) : ∃ b o, ad = some ⟨b, o, none⟩ ∧ w.cell? ⟨b, o + i, none⟩ = some (.int .u8 (l[i].toNat : Int)) :=
 h i _ (by simp [hi, byV])
theorem Bytes.ext {S : Nat → Prop} {w w' : World} {ad : Option Addr} {l : List UInt8} (h : Bytes w ad l) (e : Ext S w w') (hn : ∀ a, ad = some a → ¬ S a.block) : Bytes w' ad l := RowOf.ext h e hn
theorem Bytes.pure {w w' : World} {ad : Option Addr} {l : List UInt8} (h : Bytes w ad l) (e : Pure w w') : Bytes w' ad l := RowOf.ext h e (fun _ _ => id)
theorem bytes_nil (w : World) (ad : Option Addr) : Bytes w ad [] := fun i u h => by simp at h
theorem byV_one (l : List UInt8) : ∀ u ∈ l.map byV, u.oneCell' = true := by intro u hu; simp at hu; obtain ⟨y, _, rfl⟩ := hu; rfl
theorem cell_new (w : World) (C : Array Value) (e : TypeId) (m : Nat × Nat) (i : Nat) : (w.alloc (.cells C e m)).cell? ⟨w.heap.size, i, none⟩ = C[i]? := by
 unfold World.cell?; rw [show (w.alloc (.cells C e m)).heap[w.heap.size]? = some (.cells C e m) from heap_alloc_new w _]; simp
theorem cell_at {w : World} {C : Array Value} {e : TypeId} {m : Nat × Nat} {b i : Nat} {v : Value} (hb : w.heap.size = b) (h : C[i]? = some v) : (w.alloc (.cells C e m)).cell? ⟨b, i, none⟩ = some v := by
 subst hb; rw [cell_new]; exact h
theorem row_at {w : World} {e : TypeId} {m : Nat × Nat} {C : Array Value} {b : Nat} (cs : List Value) (hb : w.heap.size = b) (hC : C = cs.toArray) : RowOf (w.alloc (.cells C e m)) (some ⟨b, 0, none⟩) cs := by
 subst hb hC
 intro i u hu
 refine ⟨_, _, rfl, ?_⟩
 rw [cell_new]; simpa using hu
theorem ext_alloc (w : World) (o : Obj) : Pure w (w.alloc o) := (Ext.refl _ w).alloc o
theorem row_take {w : World} {a : Option Addr} {l : List Value} (h : RowOf w a l) (n : Nat) : RowOf w a (l.take n) := by
 intro i u hu
 rw [List.getElem?_take] at hu
 split at hu
 ·exact h i u hu
 ·cases hu
theorem row_drop {w : World} {a : Option Addr} {l : List Value} (h : RowOf w a l) (n : Nat) : RowOf w (a.map fun x => x.add n) (l.drop n) := by
 intro i u hu
 rw [List.getElem?_drop] at hu
 obtain ⟨b, o, rfl, hc⟩ := h (n + i) u hu
 exact ⟨b, o + n, by simp [addr_add], by rw [show o + n + i = o + (n + i) from by omega]; exact hc⟩
theorem row_nil (w : World) (ad : Option Addr) : RowOf w ad [] := fun i u h => by simp at h
theorem infoByte : (Tryz.prog.info? 5).map (fun i => (i.zero, i.size, i.bytes)) = some (some (.int .u8 0), 1, 1) := by kernel_rfl
theorem eql_nil {P : Program} {t e : TypeId} (h : P.underlying t = some (.slice e)) (w : World) (a : Option Addr) (n c : Nat) : (binOp .eql t (.slice a n c) (.slice none 0 0)).run P w = .ok (.bool a.isNone) w := by
 simp only [binOp]
 simp [Op.equal, Op.maxDepth, Lib.run_equalIn_slice_nil w 9999 t e a n c 0 0 h]
theorem wpAnyH_strong {P : Program} {md : Region.Mode} {ops : Array Oper} {Q : Exit → Act → World → Prop} {S S' : World → Prop} (h : ∀ w, S' w → S w) :
 ∀ (fuel : Nat) (listed : Array Bool) (a : Act) (w : World), wpAnyH P md ops Q S' fuel listed a w → wpAnyH P md ops Q S fuel listed a w
 | 0, _, _, _, H => H
 | fuel + 1, _, _, _, H => ⟨H.1, fun i hi => wpOp_mono (fun a' w' h' => ⟨h _ h'.1, wpAnyH_strong h fuel _ a' w' h'.2⟩) (H.2 i hi)⟩
theorem region_start {P : Program} {ops : Array Oper} {Q : Exit → Act → World → Prop} {id : Nat} {a : Act} {w : World} (T : Nat → Prop) (hm : P.follows .mixedOrders = true)
 (h : wpAnyH P .any ops Q (Ext T w.drew) ops.size (Array.replicate ops.size false) a w.drew) : (Code.region id ops true).wp P Q a w :=
 wp_region_held hm h
theorem region_now {P : Program} {md : Region.Mode} {ops : Array Oper} {Q : Exit → Act → World → Prop} {T : Nat → Prop} {w0 w : World} {fuel : Nat} {listed : Array Bool} {a : Act}
 (hw : Ext T w0 w) (h : wpAnyH P md ops Q (Ext T w) fuel listed a w) : wpAnyH P md ops Q (Ext T w0) fuel listed a w :=
 wpAnyH_strong (fun _ h' => hw.trans h' (fun _ _ e => e)) _ _ _ _ h
theorem region_take {P : Program} {md : Region.Mode} {ops : Array Oper} {Q : Exit → Act → World → Prop} {T : Nat → Prop} {w : World} (i d : Nat) {oi : Oper} {v : Value} {fuel : Nat} {listed : Array Bool} {a : Act} (hi : ops[i]? = some oi) (hd : oi.dst = some d)
 (hs : Region.noSelect ops = true) (hf : Region.free md ops listed i = true) (hr : (Region.ready md ops listed).contains i = true)
 (hQ : ∀ c a w, Q (.panic c) (a.put (some d) v) w → Q (.panic c) a w) (hw : Region.wanted oi (yielded ops a.tmps) = true) (hv : ∀ w', Ext T w w' → (execOp a.eval oi).run P w' = .ok (.value v) w')
 (h : wpAnyH P md ops Q (Ext T w) fuel (listed.setIfInBounds i true) (a.put (some d) v) w) : wpAnyH P md ops Q (Ext T w) (fuel + 1) listed a w := by
 rw [← hd] at hQ h
 exact wpAnyH_take hi hs hf hr hQ (Or.inl ⟨hw, hv⟩) (Ext.refl _ _) h
theorem region_skip {P : Program} {md : Region.Mode} {ops : Array Oper} {Q : Exit → Act → World → Prop} {T : Nat → Prop} {w : World} (i d : Nat) {oi : Oper} {fuel : Nat} {listed : Array Bool} {a : Act} (hi : ops[i]? = some oi) (hd : oi.dst = some d)
 (hs : Region.noSelect ops = true) (hf : Region.free md ops listed i = true) (hr : (Region.ready md ops listed).contains i = true)
 (hQ : ∀ c a w, Q (.panic c) (a.put (some d) undef) w → Q (.panic c) a w) (hw : Region.wanted oi (yielded ops a.tmps) = false)
 (h : wpAnyH P md ops Q (Ext T w) fuel (listed.setIfInBounds i true) (a.put (some d) undef) w) : wpAnyH P md ops Q (Ext T w) (fuel + 1) listed a w := by
 rw [← hd] at hQ h
 exact wpAnyH_take hi hs hf hr hQ (Or.inr ⟨hw, rfl⟩) (Ext.refl _ _) h
end Go.Proofs.YtomcdhljjmnahaaGreat
namespace Go.Proofs.YtomcdhljjmnahaaGreat
def wt (high : Bool) (j : Nat) : Nat := if high then 2 ^ (7 - j) else 2 ^ j
def byte8 (high : Bool) (f : Nat → Bool) : Nat :=
 (f 0).toNat * wt high 0 + (f 1).toNat * wt high 1 + (f 2).toNat * wt high 2 + (f 3).toNat * wt high 3 + (f 4).toNat * wt high 4 + (f 5).toNat * wt high 5 + (f 6).toNat * wt high 6 + (f 7).toNat * wt high 7
theorem byte8_lt (high : Bool) (f : Nat → Bool) : byte8 high f < 256 := by
 unfold byte8
 generalize f 0 = b0; generalize f 1 = b1; generalize f 2 = b2; generalize f 3 = b3; generalize f 4 = b4; generalize f 5 = b5; generalize f 6 = b6; generalize f 7 = b7
 revert high b0 b1 b2 b3 b4 b5 b6 b7; decide
def pl (high : Bool) (j : Nat) : Nat := if high then 7 - j else j
theorem wt_pl (high : Bool) (j : Nat) : wt high j = 2 ^ pl high j := by unfold wt pl; cases high <;> rfl
theorem byte8_bit (high : Bool) (f : Nat → Bool) (j : Nat) (hj : j < 8) : (byte8 high f).testBit (pl high j) = f j := by
 have h : j = 0 ∨ j = 1 ∨ j = 2 ∨ j = 3 ∨ j = 4 ∨ j = 5 ∨ j = 6 ∨ j = 7 := by omega
 unfold byte8
 rcases h with rfl | rfl | rfl | rfl | rfl | rfl | rfl | rfl <;>
 ·generalize f 0 = b0; generalize f 1 = b1; generalize f 2 = b2; generalize f 3 = b3; generalize f 4 = b4; generalize f 5 = b5; generalize f 6 = b6; generalize f 7 = b7
  revert high b0 b1 b2 b3 b4 b5 b6 b7; decide
theorem pl_lt (high : Bool) (j : Nat) (hj : j < 8) : pl high j < 8 := by unfold pl; split <;> omega
theorem pl_pl (high : Bool) (j : Nat) (hj : j < 8) : pl high (pl high j) = j := by unfold pl; split <;> omega
theorem byte8_ext {x : Nat} (high : Bool) (f : Nat → Bool) (hx : x < 256) (h : ∀ j, j < 8 → x.testBit (pl high j) = f j) : x = byte8 high f := by
 apply Nat.eq_of_testBit_eq
 intro i
 by_cases hi : i < 8
 ·have := h (pl high i) (pl_lt high i hi)
  rw [pl_pl high i hi] at this
  rw [this, ← byte8_bit high f (pl high i) (pl_lt high i hi), pl_pl high i hi]
 ·have p : 256 ≤ 2 ^ i := Nat.le_trans (by decide : 256 ≤ 2 ^ 8) (Nat.pow_le_pow_right (by decide) (by omega))
  rw [Nat.testBit_lt_two_pow (by omega), Nat.testBit_lt_two_pow (by have := byte8_lt high f; omega)]
theorem byte8_or (high : Bool) (f g : Nat → Bool) (j0 : Nat) (h0 : j0 < 8) (hg : ∀ j, j < 8 → g j = (f j || decide (j = j0))) : byte8 high g = byte8 high f ||| wt high j0 := by
 have hw : wt high j0 < 256 := by rw [wt_pl]; exact Nat.lt_of_lt_of_le (Nat.pow_lt_pow_right (by decide) (pl_lt high j0 h0)) (by decide)
 refine (byte8_ext high g (Nat.or_lt_two_pow (n := 8) (byte8_lt high f) hw) fun j hj => ?_).symm
 rw [Nat.testBit_or, byte8_bit high f j hj, hg j hj, wt_pl, Nat.testBit_two_pow]
 congr 1
 by_cases e : j = j0
 ·subst e; simp
 ·have : pl high j0 ≠ pl high j := by unfold pl; split <;> omega
  simp [e, this]
def byteAt (high : Bool) (bs : List Bool) (i : Nat) : Nat := byte8 high (fun j => bs.getD (8 * i + j) false)
def pack (high : Bool) (bs : List Bool) : List UInt8 := (List.range ((bs.length + 7) / 8)).map fun i => UInt8.ofNat (byteAt high bs i)
theorem pack_length (high : Bool) (bs : List Bool) : (pack high bs).length = (bs.length + 7) / 8 := by simp [pack]
theorem byteAt_lt (high : Bool) (bs : List Bool) (i : Nat) : byteAt high bs i < 256 := byte8_lt _ _
theorem ofNat_toNat (n : Nat) (h : n < 256) : (UInt8.ofNat n).toNat = n := by rw [UInt8.toNat_ofNat']; omega
theorem pack_get (high : Bool) (bs : List Bool) (i : Nat) (hi : i < (pack high bs).length) : (pack high bs)[i].toNat = byteAt high bs i := by
 simp only [pack, List.getElem_map, List.getElem_range]
 exact ofNat_toNat _ (byteAt_lt _ _ _)
theorem pack_ext (high : Bool) (bs : List Bool) (l : List UInt8) (hl : l.length = (bs.length + 7) / 8) (h : ∀ i (hi : i < l.length), l[i].toNat = byteAt high bs i) : l = pack high bs := by
 apply List.ext_getElem (by rw [hl, pack_length])
 intro i h1 h2
 apply UInt8.toNat_inj.1
 rw [h i h1, pack_get]
theorem getD_snoc (bs : List Bool) (x : Bool) (k : Nat) : (bs ++ [x]).getD k false = (bs.getD k false || (decide (k = bs.length) && x)) := by
 rw [List.getD_eq_getElem?_getD, List.getD_eq_getElem?_getD]
 by_cases h : k < bs.length
 ·rw [List.getElem?_append_left h]; simp [show k ≠ bs.length by omega]
 ·rw [List.getElem?_append_right (by omega), List.getElem?_eq_none (by omega : bs.length ≤ k)]
  by_cases e : k = bs.length
  ·subst e; simp
  ·rw [List.getElem?_eq_none (by simp; omega)]; simp [e]
theorem pack_false_old (high : Bool) (bs : List Bool) (h : bs.length % 8 ≠ 0) : pack high (bs ++ [false]) = pack high bs := by
 refine (pack_ext high _ _ (by rw [pack_length]; simp; omega) fun i hi => ?_).symm
 rw [pack_get]; unfold byteAt; congr 1; funext j; rw [getD_snoc]; simp
theorem pack_false_new (high : Bool) (bs : List Bool) (h : bs.length % 8 = 0) : pack high (bs ++ [false]) = pack high bs ++ [0] := by
 refine (pack_ext high _ _ (by simp [pack_length]; omega) fun i hi => ?_).symm
 have e : byteAt high (bs ++ [false]) i = byteAt high bs i := by unfold byteAt; congr 1; funext j; rw [getD_snoc]; simp
 rw [e]
 by_cases hlt : i < (pack high bs).length
 ·rw [List.getElem_append_left hlt, pack_get]
 ·rw [List.getElem_append_right (by omega)]
  have : i = (bs.length + 7) / 8 := by simp [pack_length] at hi hlt; omega
  have hz : byteAt high bs i = 0 := by
   unfold byteAt
   have : (fun j => bs.getD (8 * i + j) false) = fun _ => false := by
    funext j; rw [List.getD_eq_getElem?_getD, List.getElem?_eq_none (by omega)]; rfl
   rw [this]; cases high <;> rfl
  rw [hz]; simp
theorem pack_true (high : Bool) (bs : List Bool) (hlt : bs.length / 8 < (pack high (bs ++ [false])).length) :
 pack high (bs ++ [true]) = (pack high (bs ++ [false])).set (bs.length / 8) (UInt8.ofNat ((pack high (bs ++ [false]))[bs.length / 8].toNat ||| wt high (bs.length % 8))) := by
 refine (pack_ext high _ _ (by simp [pack_length]) fun i hi => ?_).symm
 rw [List.getElem_set]
 split
 ·next e =>
  subst e
  have h0 := pack_get high (bs ++ [false]) _ hlt
  have ho : byteAt high (bs ++ [true]) (bs.length / 8) = byteAt high (bs ++ [false]) (bs.length / 8) ||| wt high (bs.length % 8) := by
   refine byte8_or high _ _ _ (by omega) fun j hj => ?_
   rw [getD_snoc, getD_snoc]; simp
   congr 1
   by_cases e : j = bs.length % 8
   ·subst e; simp; omega
   ·simp [e]; omega
  rw [h0, ← ho, ofNat_toNat _ (byteAt_lt _ _ _)]
 ·next e =>
  rw [pack_get]
  unfold byteAt
  simp only [byte8]
  have hk : ∀ j, j < 8 → (bs ++ [false]).getD (8 * i + j) false = (bs ++ [true]).getD (8 * i + j) false := by
   intro j hj; rw [getD_snoc, getD_snoc]; simp
   intro e'; omega
  rw [hk 0 (by omega), hk 1 (by omega), hk 2 (by omega), hk 3 (by omega), hk 4 (by omega), hk 5 (by omega), hk 6 (by omega), hk 7 (by omega)]
def dbl (x : Nat) (b : Bool) : Nat := 2 * x + b.toNat
def msb (l : List Bool) : Nat := l.foldl dbl 0
theorem msb_snoc (l : List Bool) (b : Bool) : msb (l ++ [b]) = 2 * msb l + b.toNat := by simp [msb, dbl]
theorem list_snoc_ind {α : Type} {p : List α → Prop} (h0 : p []) (h1 : ∀ l b, p l → p (l ++ [b])) (l : List α) : p l := by
 have key : ∀ n (l : List α), l.length = n → p l := by
  intro n
  induction n with
  | zero => intro l hl; rw [List.length_eq_zero_iff.1 hl]; exact h0
  | succ n ih =>
    intro l hl
    have hne : l ≠ [] := by intro e; subst e; simp at hl
    rw [← List.dropLast_concat_getLast hne]
    exact h1 _ _ (ih _ (by simp [hl]))
 exact key _ l rfl
theorem msb_lt (l : List Bool) : msb l < 2 ^ l.length := by
 induction l using list_snoc_ind with
 | h0 => simp [msb]
 | h1 l b ih =>
   rw [msb_snoc, List.length_append, List.length_singleton, Nat.pow_succ]
   have : b.toNat ≤ 1 := Bool.toNat_le b
   omega
theorem msb_bit (l : List Bool) (p : Nat) (hp : p < l.length) : (msb l).testBit p = l.getD (l.length - 1 - p) false := by
 induction l using list_snoc_ind generalizing p with
 | h0 => simp at hp
 | h1 l b ih =>
   rw [msb_snoc]
   simp at hp
   cases p with
   | zero =>
     rw [getD_snoc]
     simp [Nat.testBit_zero]
     cases b <;> simp <;> omega
   | succ p =>
     rw [Nat.testBit_succ, show (2 * msb l + b.toNat) / 2 = msb l from by have : b.toNat ≤ 1 := Bool.toNat_le b; omega, ih p (by omega), List.length_append, List.length_singleton, show l.length + 1 - 1 - (p + 1) = l.length - 1 - p from by omega, getD_snoc, decide_eq_false (by omega)]
     simp
def num (high : Bool) (l : List Bool) : Nat := msb (if high then l else l.reverse)
def turn (high : Bool) (k n : Nat) : Nat := if high then n - 1 - k else k
theorem num_lt (high : Bool) (l : List Bool) : num high l < 2 ^ l.length := by
 unfold num; split
 ·exact msb_lt l
 ·have := msb_lt l.reverse; simpa using this
theorem num_bit (high : Bool) (l : List Bool) (k : Nat) (hk : k < l.length) : (num high l).testBit (turn high k l.length) = l.getD k false := by
 unfold num turn
 cases high with
 | true =>
   simp only [if_true]
   rw [msb_bit _ _ (by omega)]; congr 1; omega
 | false =>
   simp only [Bool.false_eq_true, if_false]
   rw [msb_bit _ _ (by simpa using hk)]
   simp only [List.length_reverse, List.getD_eq_getElem?_getD]
   rw [List.getElem?_reverse (by omega)]
   congr 2; omega
theorem turn_lt (high : Bool) (k n : Nat) (h : k < n) : turn high k n < n := by unfold turn; split <;> omega
theorem turn_turn (high : Bool) (k n : Nat) (h : k < n) : turn high (turn high k n) n = k := by unfold turn; cases high <;> simp <;> omega
theorem num_ext {x n : Nat} (high : Bool) (l : List Bool) (hn : l.length = n) (hx : x < 2 ^ n) (h : ∀ k, k < n → x.testBit (turn high k n) = l.getD k false) : x = num high l := by
 subst hn
 apply Nat.eq_of_testBit_eq
 intro i
 by_cases hi : i < l.length
 ·have := h (turn high i l.length) (turn_lt high i _ hi)
  rw [turn_turn high i _ hi] at this
  rw [this, ← num_bit high l _ (turn_lt high i _ hi), turn_turn high i _ hi]
 ·have p : 2 ^ l.length ≤ 2 ^ i := Nat.pow_le_pow_right (by decide) (by omega)
  rw [Nat.testBit_lt_two_pow (by omega), Nat.testBit_lt_two_pow (by have := num_lt high l; omega)]
def bitsNum (high : Bool) (x n : Nat) : List Bool := (List.range n).map fun k => x.testBit (turn high k n)
theorem bitsNum_length (high : Bool) (x n : Nat) : (bitsNum high x n).length = n := by simp [bitsNum]
theorem num_bitsNum (high : Bool) (x n : Nat) (h : x < 2 ^ n) : num high (bitsNum high x n) = x :=
 (num_ext high _ (bitsNum_length _ _ _) h fun k hk => by simp [bitsNum, List.getD_eq_getElem?_getD, hk]).symm
def part (high : Bool) (l : List Bool) (n k : Nat) : Nat := num high (l.take k ++ List.replicate (n - k) false)
theorem part_lt (high : Bool) (l : List Bool) (n k : Nat) (hl : l.length = n) (hk : k ≤ n) : part high l n k < 2 ^ n := by
 have := num_lt high (l.take k ++ List.replicate (n - k) false)
 rwa [show (l.take k ++ List.replicate (n - k) false).length = n from by simp; omega] at this
theorem part_zero (high : Bool) (l : List Bool) (n : Nat) : part high l n 0 = 0 := by
 refine (num_ext high _ (by simp) (Nat.two_pow_pos n) fun k hk => ?_).symm
 simp [List.getD_eq_getElem?_getD, hk]
theorem part_all (high : Bool) (l : List Bool) (n : Nat) (hl : l.length = n) : part high l n n = num high l := by
 unfold part; simp [← hl]
theorem part_bit (high : Bool) (l : List Bool) (n k i : Nat) (hl : l.length = n) (hk : k ≤ n) (hi : i < n) : (part high l n k).testBit (turn high i n) = (decide (i < k) && l.getD i false) := by
 have hlen : (l.take k ++ List.replicate (n - k) false).length = n := by simp; omega
 have := num_bit high (l.take k ++ List.replicate (n - k) false) i (by omega)
 rw [hlen] at this
 unfold part
 rw [this, List.getD_eq_getElem?_getD, List.getD_eq_getElem?_getD]
 by_cases h : i < k
 ·rw [List.getElem?_append_left (by simp; omega)]; simp [List.getElem?_take, h]
 ·rw [List.getElem?_append_right (by simp; omega), List.getElem?_replicate]; simp [h]; split <;> rfl
theorem part_step (high : Bool) (l : List Bool) (n k : Nat) (hl : l.length = n) (hk : k < n) :
 part high l n (k + 1) = if l.getD k false then part high l n k ||| 2 ^ turn high k n else part high l n k := by
 have hlen : (l.take (k + 1) ++ List.replicate (n - (k + 1)) false).length = n := by simp; omega
 refine (num_ext high _ hlen ?_ fun i hi => ?_).symm
 ·have h1 := part_lt high l n k hl (by omega)
  split
  ·exact Nat.or_lt_two_pow h1 (Nat.pow_lt_pow_right (by decide) (turn_lt high k n hk))
  ·exact h1
 ·have h2 := part_bit high l n (k + 1) i hl (by omega) hi
  have h2' := num_bit high (l.take (k + 1) ++ List.replicate (n - (k + 1)) false) i (by omega)
  rw [hlen] at h2'
  unfold part at h2
  rw [h2'] at h2
  rw [h2]
  have h3 := part_bit high l n k i hl (by omega) hi
  by_cases e : i = k
  ·subst e
   split
   ·next h => rw [Nat.testBit_or, h3]; simp at h; simp [h]
   ·next h => rw [h3]; simp at h; simp [h]
  ·have hd : decide (i < k + 1) = decide (i < k) := by by_cases h : i < k <;> simp [h] <;> omega
   rw [hd]
   split
   ·rw [Nat.testBit_or, h3, Nat.testBit_two_pow]
    have : turn high k n ≠ turn high i n := by intro h; apply e; have := congrArg (fun x => turn high x n) h; simp only [turn_turn high k n hk, turn_turn high i n hi] at this; exact this.symm
    simp [this]
   ·exact h3
def bitOf (high : Bool) (b : List UInt8) (k : Nat) : Bool := (b.getD (k / 8) 0).toNat.testBit (pl high (k % 8))
def bitsOf (high : Bool) (b : List UInt8) : List Bool := (List.range (8 * b.length)).map (bitOf high b)
theorem bitsOf_length (high : Bool) (b : List UInt8) : (bitsOf high b).length = 8 * b.length := by simp [bitsOf]
theorem bitsOf_get (high : Bool) (b : List UInt8) (k : Nat) (hk : k < 8 * b.length) : (bitsOf high b).getD k false = bitOf high b k := by
 simp [bitsOf, List.getD_eq_getElem?_getD, hk]
theorem bitOf_pack (high : Bool) (bs : List Bool) (k : Nat) (hk : k < 8 * ((bs.length + 7) / 8)) : bitOf high (pack high bs) k = bs.getD k false := by
 have hi : k / 8 < (pack high bs).length := by rw [pack_length]; omega
 have h := pack_get high bs (k / 8) hi
 unfold bitOf
 rw [List.getD_eq_getElem?_getD, List.getElem?_eq_getElem hi, Option.getD_some, h]
 unfold byteAt
 rw [byte8_bit high _ (k % 8) (by omega), Nat.div_add_mod]
def align (bs : List Bool) : List Bool := bs ++ List.replicate (8 * ((bs.length + 7) / 8) - bs.length) false
theorem align_length (bs : List Bool) : (align bs).length = 8 * ((bs.length + 7) / 8) := by simp [align]; omega
theorem align_get (bs : List Bool) (k : Nat) : (align bs).getD k false = bs.getD k false := by
 unfold align
 rw [List.getD_eq_getElem?_getD, List.getD_eq_getElem?_getD]
 by_cases h : k < bs.length
 ·rw [List.getElem?_append_left h]
 ·rw [List.getElem?_append_right (by omega), List.getElem?_eq_none (by omega : bs.length ≤ k), List.getElem?_replicate]; split <;> rfl
theorem pack_align (high : Bool) (bs : List Bool) : pack high (align bs) = pack high bs := by
 refine (pack_ext high _ _ (by rw [pack_length, align_length]; omega) fun i hi => ?_).symm
 rw [pack_get]; unfold byteAt; congr 1; funext j; rw [align_get]
theorem bitsOf_pack (high : Bool) (bs : List Bool) : bitsOf high (pack high bs) = align bs := by
 apply List.ext_getElem (by rw [bitsOf_length, pack_length, align_length])
 intro k h1 h2
 have e1 := bitsOf_get high (pack high bs) k (by simpa [bitsOf_length] using h1)
 have e2 := bitOf_pack high bs k (by rw [bitsOf_length, pack_length] at h1; exact h1)
 have e3 := align_get bs k
 rw [List.getD_eq_getElem?_getD, List.getElem?_eq_getElem h1, Option.getD_some] at e1
 rw [List.getD_eq_getElem?_getD, List.getElem?_eq_getElem h2, Option.getD_some] at e3
 rw [e1, e2, e3]
end Go.Proofs.YtomcdhljjmnahaaGreat
namespace Go.Proofs.YtomcdhljjmnahaaGreat
open Go.RowKit
theorem ofInt_i64 (a : Nat) (ha : a < 18446744073709551616) : (BitVec.ofInt 64 (a : Int)).toNat = a := by
 rw [BitVec.ofInt_natCast, BitVec.toNat_ofNat]; exact Nat.mod_eq_of_lt (by omega)
theorem i64_and_nat (a b : Nat) (ha : a < 9223372036854775808) (hb : b < 9223372036854775808) : bits .and .i64 (a : Int) (b : Int) = ((a &&& b : Nat) : Int) := by
 have hx : a &&& b < 2 ^ 63 := Nat.and_lt_two_pow _ (by omega)
 show IntKind.i64.wrap ((BitVec.ofInt 64 (a : Int) &&& BitVec.ofInt 64 (b : Int)).toNat : Int) = _
 rw [BitVec.toNat_and, ofInt_i64 a (by omega), ofInt_i64 b (by omega)]
 exact IntWalk.i64_in _ (by omega)
theorem i64_and7 (n : Nat) (h : n < 9223372036854775808) : bits .and .i64 (n : Int) 7 = ((n % 8 : Nat) : Int) := by
 have := i64_and_nat n 7 h (by omega)
 rw [show (7 : Nat) = 2 ^ 3 - 1 from rfl, Nat.and_two_pow_sub_one_eq_mod] at this
 exact this
theorem and_not7 (a : Nat) (h : a < 9223372036854775808) : a &&& 18446744073709551608 = 8 * (a / 8) := by
 apply Nat.eq_of_testBit_eq
 intro i
 rw [Nat.testBit_and, show (18446744073709551608 : Nat) = 2 ^ 64 - (7 + 1) from rfl, Nat.testBit_two_pow_sub_succ (by decide)]
 rw [show 8 * (a / 8) = 2 ^ 3 * (a / 2 ^ 3) from rfl, Nat.testBit_two_pow_mul, Nat.testBit_div_two_pow]
 by_cases h3 : 3 ≤ i
 ·have e7 : Nat.testBit 7 i = false := Nat.testBit_lt_two_pow (Nat.lt_of_lt_of_le (by decide : 7 < 2 ^ 3) (Nat.pow_le_pow_right (by decide) h3))
  by_cases h64 : i < 64
  ·simp [h3, h64, e7, show i - 3 + 3 = i from by omega]
  ·have : a.testBit i = false := Nat.testBit_lt_two_pow (Nat.lt_of_lt_of_le (by omega : a < 2 ^ 64) (Nat.pow_le_pow_right (by decide) (by omega)))
   simp [h3, h64, this, show i - 3 + 3 = i from by omega]
 ·have : i = 0 ∨ i = 1 ∨ i = 2 := by omega
  rcases this with rfl | rfl | rfl
  all_goals first | (simp; done) | (simp; intro _; decide)
theorem i64_andNot7 (n : Nat) (h : n < 9223372036854775808) : bits .andNot .i64 (n : Int) 7 = ((8 * (n / 8) : Nat) : Int) := by
 show IntKind.i64.wrap ((BitVec.ofInt 64 (n : Int) &&& ~~~ BitVec.ofInt 64 7).toNat : Int) = _
 rw [BitVec.toNat_and, ofInt_i64 n (by omega), show (~~~ BitVec.ofInt 64 7).toNat = 18446744073709551608 from by decide, and_not7 n h]
 exact IntWalk.i64_in _ (by omega)
theorem u8_or_nat' (a b : Nat) (ha : a < 256) (hb : b < 256) : bits .or .u8 (a : Int) (b : Int) = ((a ||| b : Nat) : Int) := u8_or_nat a b ha hb
theorem ret_int {k : IntKind} {a b : Int} (h : a = b) : Ending.returned (.int k a) = .returned (.int k b) := by rw [h]
theorem pow_mod (j : Nat) (h : j < 8) : (2 ^ j % 256 : Int) = ((2 ^ j : Nat) : Int) := by
 have : j = 0 ∨ j = 1 ∨ j = 2 ∨ j = 3 ∨ j = 4 ∨ j = 5 ∨ j = 6 ∨ j = 7 := by omega
 rcases this with rfl | rfl | rfl | rfl | rfl | rfl | rfl | rfl <;> decide
theorem pow_div (j : Nat) (h : j < 8) : (128 / 2 ^ j : Int) = ((2 ^ (7 - j) : Nat) : Int) := by
 have : j = 0 ∨ j = 1 ∨ j = 2 ∨ j = 3 ∨ j = 4 ∨ j = 5 ∨ j = 6 ∨ j = 7 := by omega
 rcases this with rfl | rfl | rfl | rfl | rfl | rfl | rfl | rfl <;> decide
theorem turn_any (b : Nat) (high : Bool) (k n : Nat) (w : World) (hc : w.cell? ⟨b, 0 + 1, none⟩ = some (.bool high)) (hk : k < n) (hn : n ≤ 32) :
 Calls Tryz.prog 100 #[.pointer (some ⟨b, 0, none⟩), .int .i64 k, .int .i64 n] w fun e w' => e = .returned (.int .i64 (turn high k n)) ∧ w' = w := by
 unfold turn
 cases high
 ·go_enter Tryz.func100, Tryz.ntmps100
  go_wp2_with fail
  go_ret
  exact ⟨rfl, rfl⟩
 ·go_enter Tryz.func100, Tryz.ntmps100
  go_wp2_with fail
  go_ret
  exact ⟨by congr 1; simp; omega, rfl⟩
theorem mask_any (b : Nat) (high : Bool) (n : Nat) (w : World) (h0 : w.cell? ⟨b, 0, none⟩ = some (.int .i64 n)) (hc : w.cell? ⟨b, 0 + 1, none⟩ = some (.bool high)) (hn : n ≤ 1000000000) :
 Calls Tryz.prog 130 #[.pointer (some ⟨b, 0, none⟩)] w fun e w' => e = .returned (.int .u8 (wt high (n % 8) : Nat)) ∧ w' = w := by
 have hand := i64_and7 n (by omega)
 have hlt : n % 8 < 8 := by omega
 generalize n % 8 = j at *
 unfold wt
 cases high
 ·go_enter Tryz.func130, Tryz.ntmps130
  go_wp2_with fail
  go_ret
  exact ⟨ret_int (pow_mod j hlt), rfl⟩
 ·go_enter Tryz.func130, Tryz.ntmps130
  go_wp2_with fail
  go_ret
  exact ⟨ret_int (pow_div j hlt), rfl⟩
structure WrIs (w : World) (b : Nat) (high : Bool) (bs : List Bool) (a : Option Addr) (c : Nat) : Prop where
 blk : BlockIs w b [.int .i64 bs.length, .bool high, .bool true, .slice a (pack high bs).length c] 151
 own : w.ownsRow 0 5 1 (.slice a (pack high bs).length c) (pack high bs).length ((pack high bs).map byV)
 apart : ∀ g, a = some g → g.block ≠ b
def WrS (b : Nat) (a : Option Addr) (i : Nat) : Prop := i = b ∨ ∃ g, a = some g ∧ i = g.block
theorem new_any (high : Bool) (w : World) : Calls Tryz.prog 62 #[.bool high] w fun e w' => e = .returned (.pointer (some ⟨w.heap.size, 0, none⟩)) ∧ WrIs w' w.heap.size high [] none 0 ∧ Pure w w' := by
 go_enter Tryz.func62, Tryz.ntmps62
 go_wp2_with fail
 go_ret
 exact ⟨rfl, ⟨BlockIs.new w _ _, World.ownsRow_nil _ _ _ _, fun g hg => by cases hg⟩, ext_alloc _ _⟩
theorem dead_any (b : Nat) (w : World) (h : w.cell? ⟨b, 0 + 2, none⟩ = some (.bool true)) : Calls Tryz.prog 98 #[.pointer (some ⟨b, 0, none⟩)] w fun e w' => e = .returned (.bool false) ∧ w' = w := by
 go_enter Tryz.func98, Tryz.ntmps98
 go_wp2_with fail
 go_ret
 exact ⟨rfl, rfl⟩
theorem bit_new_false (b : Nat) (high : Bool) (bs : List Bool) (a : Option Addr) (c : Nat) (w : World) (h : WrIs w b high bs a c) (hlen : bs.length ≤ 1000000000) (hz : bs.length % 8 = 0) :
 Calls Tryz.prog 99 #[.pointer (some ⟨b, 0, none⟩), .bool false] w fun e w' => e = .returned (.tuple #[]) ∧ ∃ a' c', WrIs w' b high (bs ++ [false]) a' c' ∧ Ext (WrS b a) w w' ∧ (∀ g, a' = some g → a = some g ∨ w.heap.size ≤ g.block) := by
 have h0 : w.cell? ⟨b, 0, none⟩ = some (.int .i64 bs.length) := h.blk.cell 0
 have h1 : w.cell? ⟨b, 0 + 1, none⟩ = some (.bool high) := h.blk.cell 1
 have h3 : w.cell? ⟨b, 0 + 3, none⟩ = some (.slice a (pack high bs).length c) := h.blk.cell 3
 have f0 : w.frozen? ⟨b, 0, none⟩ = false := h.blk.free 0
 have f3 : w.frozen? ⟨b, 0 + 3, none⟩ = false := h.blk.free 3
 have hand := i64_and7 bs.length (by omega)
 rw [hz] at hand
 have hpf := qh (pack_false_new high bs hz)
 have hpb : (pack high bs).length ≤ 1000000000 := by rw [pack_length]; omega
 have hbl := h.blk.lt
 go_enter Tryz.func99, Tryz.ntmps99
 go_wp2_with (at_builtin; refine wpList_append_fresh rfl (.tmp 15) (.tmp 16) 59 rfl 0 5 (.int .u8 0) 1 1 Tryz.underlying59 infoByte rfl (by decide) _ (pack high bs).length ((pack high bs).map byV) rfl (h.own.alloc _) (some ⟨w.heap.size, 0, none⟩) 1 1 [.int .u8 0] rfl (fun e => by cases e) (by simp) (row_at _ rfl rfl) (by intro u hu; simp at hu; subst hu; rfl) ((pack high bs).length + 1) rfl (((pack high bs) ++ [0]).map byV) (by simp [byV]) (by omega) (by unfold maxLen; omega) (Nat.zero_le _) ?_)
 intro a1 c1 w1 hO1 hg1 hfr1
 have hlen1 : (pack high bs).length + 1 = (pack high (bs ++ [false])).length := by rw [hpf.out]; simp
 rw [← List.map_singleton, ← List.map_append, ← hpf.out, hlen1] at hO1
 rw [hlen1]
 have hE0 : Ext (WrS b a) w w1 := ((Ext.refl (WrS b a) w).alloc _).grown hg1 (fun k hk _ => by cases a with | none => cases hk | some y => cases hk; exact Or.inr ⟨y, rfl, rfl⟩)
 have hB0 := (h.blk.alloc (.cells #[.int .u8 0] 5)).ext (ext_of_grown hg1) (fun e => by cases a with | none => cases e | some y => cases e; exact h.apart y rfl rfl)
 have g3' : w1.cell? ⟨b, 0 + 3, none⟩ = some (.slice a (pack high bs).length c) := hB0.cell 3
 have k3' : w1.frozen? ⟨b, 0 + 3, none⟩ = false := hB0.free 3
 have g0' : w1.cell? ⟨b, 0, none⟩ = some (.int .i64 bs.length) := hB0.cell 0
 have k0' : w1.frozen? ⟨b, 0, none⟩ = false := hB0.free 0
 have hap1 : ∀ g, a1 = some g → g.block ≠ b := fun g hg => by
  rcases hfr1 g hg with e | e
  ·cases a with
   | none => cases e
   | some y => have := h.apart y rfl; have e2 : y.block = g.block := Option.some.inj e; omega
  ·omega
 have hz0 : ∀ g, a1 = some g → g.off = 0 ∧ g.spot = none := fun g hg => by
  obtain ⟨_, _, hh, _, _, _, hx⟩ := own_form hO1
  cases hh
  exact (hx g hg).2.2
 have hz1 : ∀ g, a = some g → g.off = 0 ∧ g.spot = none := fun g hg => by
  obtain ⟨_, _, hh, _, _, _, hx⟩ := own_form h.own
  cases hh
  exact (hx g hg).2.2
 have hfr2 : ∀ g, a1 = some g → a = some g ∨ w.heap.size ≤ g.block := fun g hg => by
  rcases hfr1 g hg with e | e
  ·left
   cases a with
   | none => cases e
   | some y =>
     have e2 : y.block = g.block := Option.some.inj e
     have p1 := hz0 g hg; have p2 := hz1 y rfl
     obtain ⟨gb, go, gs⟩ := g; obtain ⟨yb, yo, ys⟩ := y
     simp only at p1 p2 e2
     obtain ⟨rfl, rfl⟩ := p1; obtain ⟨rfl, rfl⟩ := p2; subst e2; rfl
  ·right; omega
 clear hz0 hz1 hfr1 hlen1 h0 h1 h3 f0 f3
 have hB1 := hB0.set 3 (.slice a1 (pack high (bs ++ [false])).length c1)
 simp only [List.set] at hB1
 have hO1' := own_ext hO1 ((Ext.refl (fun i => i = b) w1).setCell (p := ⟨b, 3, none⟩) (fun _ => rfl) (.slice a1 (pack high (bs ++ [false])).length c1)) (fun g hg e => by cases a1 with | none => cases hg | some y => cases hg; exact hap1 y rfl e)
 have hE1 := hE0.setCell (p := ⟨b, 3, none⟩) (fun _ => Or.inl rfl) (.slice a1 (pack high (bs ++ [false])).length c1)
 clear hg1
 go_wp2_with fail
 go_end0
 refine ⟨rfl, a1, c1, ⟨?_, own_ext hO1' ((Ext.refl (fun i => i = b) _).setCell (fun _ => rfl) _) (fun g hg e => by cases a1 with | none => cases hg | some y => cases hg; exact hap1 y rfl e), hap1⟩, hE1.setCell (fun _ => Or.inl rfl) _, hfr2⟩
 have := hB1.set 0 (.int .i64 ((bs.length : Int) + 1))
 simpa using this
theorem bit_new_true (b : Nat) (high : Bool) (bs : List Bool) (a : Option Addr) (c : Nat) (w : World) (h : WrIs w b high bs a c) (hlen : bs.length ≤ 1000000000) (hz : bs.length % 8 = 0) :
 Calls Tryz.prog 99 #[.pointer (some ⟨b, 0, none⟩), .bool true] w fun e w' => e = .returned (.tuple #[]) ∧ ∃ a' c', WrIs w' b high (bs ++ [true]) a' c' ∧ Ext (WrS b a) w w' ∧ (∀ g, a' = some g → a = some g ∨ w.heap.size ≤ g.block) := by
 have h0 : w.cell? ⟨b, 0, none⟩ = some (.int .i64 bs.length) := h.blk.cell 0
 have h1 : w.cell? ⟨b, 0 + 1, none⟩ = some (.bool high) := h.blk.cell 1
 have h3 : w.cell? ⟨b, 0 + 3, none⟩ = some (.slice a (pack high bs).length c) := h.blk.cell 3
 have f0 : w.frozen? ⟨b, 0, none⟩ = false := h.blk.free 0
 have f3 : w.frozen? ⟨b, 0 + 3, none⟩ = false := h.blk.free 3
 have hand := i64_and7 bs.length (by omega)
 rw [hz] at hand
 have hpf := qh (pack_false_new high bs hz)
 have hpb : (pack high bs).length ≤ 1000000000 := by rw [pack_length]; omega
 have hbl := h.blk.lt
 go_enter Tryz.func99, Tryz.ntmps99
 go_wp2_with (at_builtin; refine wpList_append_fresh rfl (.tmp 15) (.tmp 16) 59 rfl 0 5 (.int .u8 0) 1 1 Tryz.underlying59 infoByte rfl (by decide) _ (pack high bs).length ((pack high bs).map byV) rfl (h.own.alloc _) (some ⟨w.heap.size, 0, none⟩) 1 1 [.int .u8 0] rfl (fun e => by cases e) (by simp) (row_at _ rfl rfl) (by intro u hu; simp at hu; subst hu; rfl) ((pack high bs).length + 1) rfl (((pack high bs) ++ [0]).map byV) (by simp [byV]) (by omega) (by unfold maxLen; omega) (Nat.zero_le _) ?_)
 intro a1 c1 w1 hO1 hg1 hfr1
 have hlen1 : (pack high bs).length + 1 = (pack high (bs ++ [false])).length := by rw [hpf.out]; simp
 rw [← List.map_singleton, ← List.map_append, ← hpf.out, hlen1] at hO1
 rw [hlen1]
 have hE0 : Ext (WrS b a) w w1 := ((Ext.refl (WrS b a) w).alloc _).grown hg1 (fun k hk _ => by cases a with | none => cases hk | some y => cases hk; exact Or.inr ⟨y, rfl, rfl⟩)
 have hB0 := (h.blk.alloc (.cells #[.int .u8 0] 5)).ext (ext_of_grown hg1) (fun e => by cases a with | none => cases e | some y => cases e; exact h.apart y rfl rfl)
 have g3' : w1.cell? ⟨b, 0 + 3, none⟩ = some (.slice a (pack high bs).length c) := hB0.cell 3
 have k3' : w1.frozen? ⟨b, 0 + 3, none⟩ = false := hB0.free 3
 have g0' : w1.cell? ⟨b, 0, none⟩ = some (.int .i64 bs.length) := hB0.cell 0
 have k0' : w1.frozen? ⟨b, 0, none⟩ = false := hB0.free 0
 have hap1 : ∀ g, a1 = some g → g.block ≠ b := fun g hg => by
  rcases hfr1 g hg with e | e
  ·cases a with
   | none => cases e
   | some y => have := h.apart y rfl; have e2 : y.block = g.block := Option.some.inj e; omega
  ·omega
 have hz0 : ∀ g, a1 = some g → g.off = 0 ∧ g.spot = none := fun g hg => by
  obtain ⟨_, _, hh, _, _, _, hx⟩ := own_form hO1
  cases hh
  exact (hx g hg).2.2
 have hz1 : ∀ g, a = some g → g.off = 0 ∧ g.spot = none := fun g hg => by
  obtain ⟨_, _, hh, _, _, _, hx⟩ := own_form h.own
  cases hh
  exact (hx g hg).2.2
 have hfr2 : ∀ g, a1 = some g → a = some g ∨ w.heap.size ≤ g.block := fun g hg => by
  rcases hfr1 g hg with e | e
  ·left
   cases a with
   | none => cases e
   | some y =>
     have e2 : y.block = g.block := Option.some.inj e
     have p1 := hz0 g hg; have p2 := hz1 y rfl
     obtain ⟨gb, go, gs⟩ := g; obtain ⟨yb, yo, ys⟩ := y
     simp only at p1 p2 e2
     obtain ⟨rfl, rfl⟩ := p1; obtain ⟨rfl, rfl⟩ := p2; subst e2; rfl
  ·right; omega
 clear hz0 hz1 hfr1 hlen1 h0 h1 h3 f0 f3
 have hB1 := hB0.set 3 (.slice a1 (pack high (bs ++ [false])).length c1)
 simp only [List.set] at hB1
 have hO1' := own_ext hO1 ((Ext.refl (fun i => i = b) w1).setCell (p := ⟨b, 3, none⟩) (fun _ => rfl) (.slice a1 (pack high (bs ++ [false])).length c1)) (fun g hg e => by cases a1 with | none => cases hg | some y => cases hg; exact hap1 y rfl e)
 have hE1 := hE0.setCell (p := ⟨b, 3, none⟩) (fun _ => Or.inl rfl) (.slice a1 (pack high (bs ++ [false])).length c1)
 clear hg1
 go_wp2_with fail
 clear hB0 hO1 hE0 g3' k3' g0' k0'
 have hO1 := hO1'
 clear hO1'
 generalize (w1.setCell ⟨b, 3, none⟩ (.slice a1 (pack high (bs ++ [false])).length c1)) = w2 at *
 clear w1
 have g0 : w2.cell? ⟨b, 0, none⟩ = some (.int .i64 bs.length) := hB1.cell 0
 have g1 : w2.cell? ⟨b, 0 + 1, none⟩ = some (.bool high) := hB1.cell 1
 have g3 : w2.cell? ⟨b, 0 + 3, none⟩ = some (.slice a1 (pack high (bs ++ [false])).length c1) := hB1.cell 3
 have k0 : w2.frozen? ⟨b, 0, none⟩ = false := hB1.free 0
 have hlt : bs.length / 8 < (pack high (bs ++ [false])).length := by rw [pack_length]; simp; omega
 have hpt := pack_true high bs hlt
 have hplen := pack_length high (bs ++ [false])
 have hplen' := pack_length high (bs ++ [true])
 simp only [List.length_append, List.length_singleton] at hplen hplen'
 have hplt : (pack high (bs ++ [false])).length ≤ 1000000000 := by omega
 have hsame : (pack high (bs ++ [true])).length = (pack high (bs ++ [false])).length := by rw [hplen, hplen']
 obtain ⟨g, rfl, _, hcell, hfree, hO2⟩ := own_set hO1 (bs.length / 8) hlt (byV (UInt8.ofNat ((pack high (bs ++ [false]))[bs.length / 8].toNat ||| wt high (bs.length % 8))))
 have hgb : g ≠ b := hap1 _ rfl
 have hrow := own_row hO1 (bs.length / 8) (byV (pack high (bs ++ [false]))[bs.length / 8]) (by simp [hlt])
 obtain ⟨_, _, hh, hrow⟩ := hrow
 cases hh
 rw [Nat.zero_add] at hrow
 rw [← List.map_set, ← hpt] at hO2
 have hold := (pack high (bs ++ [false]))[bs.length / 8].toNat_lt
 have hwt : wt high (bs.length % 8) < 256 := by rw [wt_pl]; exact Nat.lt_of_lt_of_le (Nat.pow_lt_pow_right (by decide) (pl_lt high _ (by omega))) (by decide)
 have hor := u8_or_nat' (pack high (bs ++ [false]))[bs.length / 8].toNat (wt high (bs.length % 8)) (by omega) hwt
 have hnew : byV (UInt8.ofNat ((pack high (bs ++ [false]))[bs.length / 8].toNat ||| wt high (bs.length % 8))) = .int .u8 (((pack high (bs ++ [false]))[bs.length / 8].toNat ||| wt high (bs.length % 8) : Nat) : Int) := by
  unfold byV; rw [ofNat_toNat _ (Nat.or_lt_two_pow (n := 8) (by omega) hwt)]
 rw [hnew] at hO2
 unfold byV at hrow
 have hmask := fun u (h0 : u.cell? ⟨b, 0, none⟩ = some (.int .i64 bs.length)) (h1 : u.cell? ⟨b, 0 + 1, none⟩ = some (.bool high)) => mask_any b high bs.length u h0 h1 (by omega)
 have hidx : ((bs.length / 8 : Nat) : Int) < ((pack high (bs ++ [false])).length : Int) := by omega
 have hdiv : (bs.length : Int) / 8 = ((bs.length / 8 : Nat) : Int) := by omega
 have hsz : w2.heap.size = w2.heap.size := rfl
 clear hpt hplen hplen' hnew hcell hsz
 generalize wt high (bs.length % 8) = m at *
 generalize (pack high (bs ++ [false]))[bs.length / 8].toNat = old at *
 generalize (old ||| m) = nw at *
 generalize bs.length / 8 = q at *
 go_wp2_with fail
 refine wp_region_still_tail 18 (by kernel_rfl) (by kernel_rfl) ?_
 simp only [List.take_succ_cons, List.take_zero, List.drop_succ_cons, List.drop_zero]
 repeat still_step
 still_call (hmask _ g0 g1)
 repeat still_step
 refine wpStill_nil ?_
 change wpList _ _ _ _ _ (World.drew _)
 go_wp2_with fail
 go_end0
 refine ⟨rfl, some ⟨g, 0, none⟩, c1, ⟨?_, ?_, hap1⟩, ?_, hfr2⟩
 ·have hb' := ((hB1.setOther (p := ⟨g, q, none⟩) hgb (.int .u8 nw)).set 0 (.int .i64 ((bs.length : Int) + 1))).drew
  rw [hsame]
  simpa using hb'
 ·rw [hsame]
  exact own_ext hO2 ((Ext.refl (fun i => i = b) _).setCell (fun _ => rfl) _).drew (fun g' hg' e => by cases hg'; exact hgb e)
 ·refine ((hE1.setCell (p := ⟨g, q, none⟩) (fun hlt => ?_) _).setCell (p := ⟨b, 0, none⟩) (fun _ => Or.inl rfl) _).drew
  rcases hfr2 _ rfl with e | e
  ·exact Or.inr ⟨_, e, rfl⟩
  ·exact absurd e (by simp at hlt ⊢; omega)
theorem bit_old_false (b : Nat) (high : Bool) (bs : List Bool) (a : Option Addr) (c : Nat) (w : World) (h : WrIs w b high bs a c) (hlen : bs.length ≤ 1000000000) (hz : bs.length % 8 ≠ 0) :
 Calls Tryz.prog 99 #[.pointer (some ⟨b, 0, none⟩), .bool false] w fun e w' => e = .returned (.tuple #[]) ∧ ∃ a' c', WrIs w' b high (bs ++ [false]) a' c' ∧ Ext (WrS b a) w w' ∧ (∀ g, a' = some g → a = some g ∨ w.heap.size ≤ g.block) := by
 have h0 : w.cell? ⟨b, 0, none⟩ = some (.int .i64 bs.length) := h.blk.cell 0
 have h1 : w.cell? ⟨b, 0 + 1, none⟩ = some (.bool high) := h.blk.cell 1
 have h3 : w.cell? ⟨b, 0 + 3, none⟩ = some (.slice a (pack high bs).length c) := h.blk.cell 3
 have f0 : w.frozen? ⟨b, 0, none⟩ = false := h.blk.free 0
 have f3 : w.frozen? ⟨b, 0 + 3, none⟩ = false := h.blk.free 3
 have hand := i64_and7 bs.length (by omega)
 have hne : ((bs.length : Int) % 8 == 0) = false := beq_eq_false_iff_ne.2 (by omega)
 have hpf := qh (pack_false_old high bs hz)
 have hB1 := h.blk
 have hO1 := h.own
 have hap1 := h.apart
 go_enter Tryz.func99, Tryz.ntmps99
 go_wp2_with fail
 go_end0
 rw [← hpf.out] at hB1 hO1
 refine ⟨rfl, a, c, ⟨?_, own_ext hO1 ((Ext.refl (fun i => i = b) w).setCell (fun _ => rfl) _) (fun g hg e => by cases a with | none => cases hg | some y => cases hg; exact hap1 y rfl e), hap1⟩, (Ext.refl _ w).setCell (fun _ => Or.inl rfl) _, fun g hg => Or.inl hg⟩
 have := hB1.set 0 (.int .i64 ((bs.length : Int) + 1))
 simpa using this
theorem bit_old_true (b : Nat) (high : Bool) (bs : List Bool) (a : Option Addr) (c : Nat) (w : World) (h : WrIs w b high bs a c) (hlen : bs.length ≤ 1000000000) (hz : bs.length % 8 ≠ 0) :
 Calls Tryz.prog 99 #[.pointer (some ⟨b, 0, none⟩), .bool true] w fun e w' => e = .returned (.tuple #[]) ∧ ∃ a' c', WrIs w' b high (bs ++ [true]) a' c' ∧ Ext (WrS b a) w w' ∧ (∀ g, a' = some g → a = some g ∨ w.heap.size ≤ g.block) := by
 have h0 : w.cell? ⟨b, 0, none⟩ = some (.int .i64 bs.length) := h.blk.cell 0
 have h1 : w.cell? ⟨b, 0 + 1, none⟩ = some (.bool high) := h.blk.cell 1
 have h3 : w.cell? ⟨b, 0 + 3, none⟩ = some (.slice a (pack high bs).length c) := h.blk.cell 3
 have f0 : w.frozen? ⟨b, 0, none⟩ = false := h.blk.free 0
 have f3 : w.frozen? ⟨b, 0 + 3, none⟩ = false := h.blk.free 3
 have hand := i64_and7 bs.length (by omega)
 have hne : ((bs.length : Int) % 8 == 0) = false := beq_eq_false_iff_ne.2 (by omega)
 have hpf := qh (pack_false_old high bs hz)
 have hB1 := h.blk
 have hO1 := h.own
 have hap1 := h.apart
 go_enter Tryz.func99, Tryz.ntmps99
 go_wp2_with fail
 rw [← hpf.out] at hB1 hO1
 have hE1 : Ext (WrS b a) w w := Ext.refl _ _
 have hfr2 : ∀ g, a = some g → a = some g ∨ w.heap.size ≤ g.block := fun g hg => Or.inl hg
 clear h0 h1 h3 f0 f3
 have g0 : w.cell? ⟨b, 0, none⟩ = some (.int .i64 bs.length) := hB1.cell 0
 have g1 : w.cell? ⟨b, 0 + 1, none⟩ = some (.bool high) := hB1.cell 1
 have g3 : w.cell? ⟨b, 0 + 3, none⟩ = some (.slice a (pack high (bs ++ [false])).length c) := hB1.cell 3
 have k0 : w.frozen? ⟨b, 0, none⟩ = false := hB1.free 0
 have hlt : bs.length / 8 < (pack high (bs ++ [false])).length := by rw [pack_length]; simp; omega
 have hpt := pack_true high bs hlt
 have hplen := pack_length high (bs ++ [false])
 have hplen' := pack_length high (bs ++ [true])
 simp only [List.length_append, List.length_singleton] at hplen hplen'
 have hplt : (pack high (bs ++ [false])).length ≤ 1000000000 := by omega
 have hsame : (pack high (bs ++ [true])).length = (pack high (bs ++ [false])).length := by rw [hplen, hplen']
 obtain ⟨g, rfl, _, hcell, hfree, hO2⟩ := own_set hO1 (bs.length / 8) hlt (byV (UInt8.ofNat ((pack high (bs ++ [false]))[bs.length / 8].toNat ||| wt high (bs.length % 8))))
 have hgb : g ≠ b := hap1 _ rfl
 have hrow := own_row hO1 (bs.length / 8) (byV (pack high (bs ++ [false]))[bs.length / 8]) (by simp [hlt])
 obtain ⟨_, _, hh, hrow⟩ := hrow
 cases hh
 rw [Nat.zero_add] at hrow
 rw [← List.map_set, ← hpt] at hO2
 have hold := (pack high (bs ++ [false]))[bs.length / 8].toNat_lt
 have hwt : wt high (bs.length % 8) < 256 := by rw [wt_pl]; exact Nat.lt_of_lt_of_le (Nat.pow_lt_pow_right (by decide) (pl_lt high _ (by omega))) (by decide)
 have hor := u8_or_nat' (pack high (bs ++ [false]))[bs.length / 8].toNat (wt high (bs.length % 8)) (by omega) hwt
 have hnew : byV (UInt8.ofNat ((pack high (bs ++ [false]))[bs.length / 8].toNat ||| wt high (bs.length % 8))) = .int .u8 (((pack high (bs ++ [false]))[bs.length / 8].toNat ||| wt high (bs.length % 8) : Nat) : Int) := by
  unfold byV; rw [ofNat_toNat _ (Nat.or_lt_two_pow (n := 8) (by omega) hwt)]
 rw [hnew] at hO2
 unfold byV at hrow
 have hmask := fun u (h0 : u.cell? ⟨b, 0, none⟩ = some (.int .i64 bs.length)) (h1 : u.cell? ⟨b, 0 + 1, none⟩ = some (.bool high)) => mask_any b high bs.length u h0 h1 (by omega)
 have hidx : ((bs.length / 8 : Nat) : Int) < ((pack high (bs ++ [false])).length : Int) := by omega
 have hdiv : (bs.length : Int) / 8 = ((bs.length / 8 : Nat) : Int) := by omega
 have hsz : w.heap.size = w.heap.size := rfl
 clear hpt hplen hplen' hnew hcell hsz
 generalize wt high (bs.length % 8) = m at *
 generalize (pack high (bs ++ [false]))[bs.length / 8].toNat = old at *
 generalize (old ||| m) = nw at *
 generalize bs.length / 8 = q at *
 go_wp2_with fail
 refine wp_region_still_tail 18 (by kernel_rfl) (by kernel_rfl) ?_
 simp only [List.take_succ_cons, List.take_zero, List.drop_succ_cons, List.drop_zero]
 repeat still_step
 still_call (hmask _ g0 g1)
 repeat still_step
 refine wpStill_nil ?_
 change wpList _ _ _ _ _ (World.drew _)
 go_wp2_with fail
 go_end0
 refine ⟨rfl, some ⟨g, 0, none⟩, c, ⟨?_, ?_, hap1⟩, ?_, hfr2⟩
 ·have hb' := ((hB1.setOther (p := ⟨g, q, none⟩) hgb (.int .u8 nw)).set 0 (.int .i64 ((bs.length : Int) + 1))).drew
  rw [hsame]
  simpa using hb'
 ·rw [hsame]
  exact own_ext hO2 ((Ext.refl (fun i => i = b) _).setCell (fun _ => rfl) _).drew (fun g' hg' e => by cases hg'; exact hgb e)
 ·refine ((hE1.setCell (p := ⟨g, q, none⟩) (fun hlt => ?_) _).setCell (p := ⟨b, 0, none⟩) (fun _ => Or.inl rfl) _).drew
  rcases hfr2 _ rfl with e | e
  ·exact Or.inr ⟨_, e, rfl⟩
  ·exact absurd e (by simp at hlt ⊢; omega)
theorem bit_any (b : Nat) (high : Bool) (bs : List Bool) (a : Option Addr) (c : Nat) (x : Bool) (w : World) (h : WrIs w b high bs a c) (hlen : bs.length ≤ 1000000000) :
 Calls Tryz.prog 99 #[.pointer (some ⟨b, 0, none⟩), .bool x] w fun e w' => e = .returned (.tuple #[]) ∧ ∃ a' c', WrIs w' b high (bs ++ [x]) a' c' ∧ Ext (WrS b a) w w' ∧ (∀ g, a' = some g → a = some g ∨ w.heap.size ≤ g.block) := by
 by_cases hz : bs.length % 8 = 0
 ·cases x
  ·exact bit_new_false b high bs a c w h hlen hz
  ·exact bit_new_true b high bs a c w h hlen hz
 ·cases x
  ·exact bit_old_false b high bs a c w h hlen hz
  ·exact bit_old_true b high bs a c w h hlen hz
theorem wrs_trans {b : Nat} {a a1 a2 : Option Addr} {w w1 w2 : World} (h1 : Ext (WrS b a) w w1) (f1 : ∀ g, a1 = some g → a = some g ∨ w.heap.size ≤ g.block) (h2 : Ext (WrS b a1) w1 w2) (f2 : ∀ g, a2 = some g → a1 = some g ∨ w1.heap.size ≤ g.block) :
 Ext (WrS b a) w w2 ∧ ∀ g, a2 = some g → a = some g ∨ w.heap.size ≤ g.block := by
 refine ⟨h1.trans h2 (fun i hi e => ?_), fun g hg => ?_⟩
 ·rcases e with e | ⟨g, hg, e⟩
  ·exact Or.inl e
  ·rcases f1 g hg with e' | e'
   ·exact Or.inr ⟨g, e', e⟩
   ·omega
 ·rcases f2 g hg with e | e
  ·exact f1 g e
  ·exact Or.inr (Nat.le_trans h1.size e)
theorem bit_test (x t : Nat) (hx : x < 4294967296) : (bits .and .u32 ((x : Int) / 2 ^ t) 1 == 1) = x.testBit t := by
 have hlt : x / 2 ^ t < 4294967296 := Nat.lt_of_le_of_lt (Nat.div_le_self _ _) hx
 rw [show ((x : Int) / 2 ^ t) = ((x / 2 ^ t : Nat) : Int) from by push_cast; rfl]
 have := u32_and_nat (x / 2 ^ t) 1 hlt (by decide)
 rw [Nat.and_one_is_mod] at this
 have e : bits .and .u32 ((x / 2 ^ t : Nat) : Int) 1 = ((x / 2 ^ t % 2 : Nat) : Int) := this
 rw [e, Nat.testBit_eq_decide_div_mod_eq]
 by_cases h : x / 2 ^ t % 2 = 1
 ·rw [h]; rfl
 ·rw [decide_eq_false h, beq_eq_false_iff_ne]; omega
theorem put_yes (b : Nat) (high : Bool) (bs : List Bool) (a : Option Addr) (c : Nat) (x n : Nat) (w : World) (h : WrIs w b high bs a c) (hlen : bs.length ≤ 900000000) (hn : n ≤ 32) (hx : x < 4294967296) (hxn : x < 2 ^ n) :
 Calls Tryz.prog 64 #[.pointer (some ⟨b, 0, none⟩), .int .u32 x, .int .i64 n] w fun e w' => e = .returned (.int .i64 0) ∧ ∃ a' c', WrIs w' b high (bs ++ bitsNum high x n) a' c' ∧ Ext (WrS b a) w w' ∧ (∀ g, a' = some g → a = some g ∨ w.heap.size ≤ g.block) := by
 have h2 : w.cell? ⟨b, 0 + 2, none⟩ = some (.bool true) := h.blk.cell 2
 have hq : ((x : Int) / 2 ^ n != 0) = false := by
  rw [show ((x : Int) / 2 ^ n) = ((x / 2 ^ n : Nat) : Int) from by push_cast; rfl, Nat.div_eq_of_lt hxn]; rfl
 have hn0 : ¬ ((n : Int) < 0) := by omega
 have hn1 : ¬ ((32 : Int) < n) := by omega
 go_enter Tryz.func64, Tryz.ntmps64
 go_wp2_with fail
 refine (dead_any b w h2).mono ?_
 rintro e w1 ⟨rfl, hw1⟩
 obtain rfl := hw1.symm
 go_wp2_with fail
 clear hq hn0 hn1 h2
 go_loopw [26] (fun i wr => ∃ (k : Nat) (a' : Option Addr) (c' : Nat), k ≤ n ∧ i = .int .i64 k ∧ WrIs wr b high (bs ++ (bitsNum high x n).take k) a' c' ∧ Ext (WrS b a) w wr ∧ (∀ g, a' = some g → a = some g ∨ w.heap.size ≤ g.block)) (fun i _ => n - (intOf i).toNat)
 case atStart => exact ⟨0, a, c, Nat.zero_le _, rfl, by simpa using h, Ext.refl _ _, fun g hg => Or.inl hg⟩
 case round =>
  obtain ⟨k, a1, c1, hk, rfl, hW, hE, hfr⟩ := hrel
  by_cases hlt : k < n
  ·have hcell : wr.cell? ⟨b, 0 + 1, none⟩ = some (.bool high) := hW.blk.cell 1
   have hturn := turn_lt high k n hlt
   have htk : (bitsNum high x n).take (k + 1) = (bitsNum high x n).take k ++ [x.testBit (turn high k n)] := by
    rw [List.take_add_one, List.getElem?_eq_getElem (by simpa [bitsNum_length] using hlt)]; simp [bitsNum]
   have HB := qh (bit_test x (turn high k n) hx)
   have HT := qh htk
   have hl1 : (bs ++ (bitsNum high x n).take k).length ≤ 1000000000 := by simp [bitsNum_length]; omega
   have HL := qh hl1
   have HTu := qh (turn_any b high k n wr hcell hlt hn)
   clear htk hl1
   generalize turn high k n = t at *
   generalize x.testBit t = β at *
   go_wp2_with fail
   refine HTu.out.mono ?_
   rintro e w2 ⟨rfl, hw2⟩
   obtain rfl := hw2.symm
   have ht32 : (t : Int) ≤ 31 := by omega
   have ht0 : (0 : Int) ≤ t := by omega
   go_wp2_with fail
   rw [HB.out]
   refine (bit_any b high _ a1 c1 β wr hW HL.out).mono ?_
   rintro e w2 ⟨rfl, a2, c2, hW2, hE2, hfr2⟩
   obtain ⟨hE3, hfr3⟩ := wrs_trans hE hfr hE2 hfr2
   rw [List.append_assoc, ← HT.out] at hW2
   clear hE hfr hE2 hfr2 hW hcell
   go_wp2_with fail
   go_roundw
   case rel => exact ⟨k + 1, a2, c2, by omega, by go_num, hW2, hE3, hfr3⟩
   case measure => simp [intOf]; omega
  ·obtain rfl : k = n := by omega
   rw [List.take_of_length_le (by rw [bitsNum_length]; exact Nat.le_refl _)] at hW
   go_wp2_with fail
   go_ret
   exact ⟨rfl, a1, c1, hW, hE, hfr⟩
theorem WrIs.ext {S : Nat → Prop} {w w' : World} {b : Nat} {high : Bool} {bs : List Bool} {a : Option Addr} {c : Nat} (h : WrIs w b high bs a c) (e : Ext S w w') (hb : ¬ S b) (ha : ∀ g, a = some g → ¬ S g.block) : WrIs w' b high bs a c :=
 ⟨h.blk.ext e hb, own_ext h.own e (fun g hg => by cases a with | none => cases hg | some y => cases hg; exact ha y rfl), h.apart⟩
theorem WrIs.pure {w w' : World} {b : Nat} {high : Bool} {bs : List Bool} {a : Option Addr} {c : Nat} (h : WrIs w b high bs a c) (e : Pure w w') : WrIs w' b high bs a c := h.ext e id (fun _ _ => id)
theorem WrIs.lt {w : World} {b : Nat} {high : Bool} {bs : List Bool} {a : Option Addr} {c : Nat} (h : WrIs w b high bs a c) : ∀ g, a = some g → g.block < w.heap.size := by
 intro g hg
 obtain ⟨_, _, hh, _, _, _, h4⟩ := own_form h.own
 cases hh
 exact (h4 g hg).2.1
structure NewRow (w w' : World) (a : Option Addr) (c : Nat) (l : List UInt8) : Prop where
 bytes : Bytes w' a l
 ext : Pure w w'
 nil : a = none → c = 0
 fresh : ∀ g, a = some g → w.heap.size ≤ g.block
 lt : ∀ g, a = some g → g.block < w'.heap.size
 le : l.length ≤ c
 most : c ≤ maxLen
theorem bytes_of_own {w : World} {B n c : Nat} {a : Option Addr} {l : List UInt8} (h : w.ownsRow B 5 1 (.slice a n c) n (l.map byV)) : Bytes w a l := own_row h
theorem clone_any (ad : Option Addr) (cap : Nat) (l : List UInt8) (w : World) (hb : Bytes w ad l) (hnil : ad = none → cap = 0) (hle : l.length ≤ cap) (hmost : l.length ≤ 100000000000) :
 Calls Tryz.prog 101 #[.slice ad l.length cap] w fun e w' => ∃ a c, e = .returned (.slice a l.length c) ∧ NewRow w w' a c l := by
 have he := eql_nil Tryz.underlying59
 cases ad with
 | none =>
   obtain rfl := hnil rfl
   obtain rfl : l = [] := List.length_eq_zero_iff.1 (by omega)
   go_enter Tryz.func101, Tryz.ntmps101
   go_wp2_with fail
   go_ret
   exact ⟨none, 0, rfl, ⟨bytes_nil _ _, Ext.refl _ _, fun _ => rfl, fun g hg => (by cases hg), fun g hg => (by cases hg), Nat.zero_le _, Nat.zero_le _⟩⟩
 | some ad =>
   go_enter Tryz.func101, Tryz.ntmps101
   go_wp2_with (at_builtin; refine wpList_append_fresh rfl (.tmp 5) (.tmp 6) 59 rfl w.heap.size 5 (.int .u8 0) 1 1 Tryz.underlying59 infoByte rfl (by decide) _ 0 [] rfl (own_new (by simp) (by simp) _ (Nat.le_refl _)) (some ad) l.length cap (l.map byV) rfl (fun e => by cases e) (by simp) (hb.pure (ext_alloc _ _)) (byV_one l) l.length (by omega) (l.map byV) rfl (by omega) (by unfold maxLen; omega) (by simp) ?_)
   intro a1 c1 w1 hown hg hfr
   go_wp2_with fail
   go_ret
   obtain ⟨_, _, hh, h1, h2, h3, h4⟩ := own_form hown
   cases hh
   exact ⟨a1, c1, rfl, ⟨bytes_of_own hown, ((Ext.refl _ w).alloc _).grown hg (fun k hk hlt => by cases hk; exact absurd hlt (Nat.lt_irrefl _)), h3, fun g hg => (h4 g hg).1, fun g hg => (h4 g hg).2.1, h1, h2⟩⟩
theorem bytes_any (b : Nat) (high : Bool) (bs : List Bool) (a : Option Addr) (c : Nat) (w : World) (h : WrIs w b high bs a c) (hlen : bs.length ≤ 1000000000) :
 Calls Tryz.prog 70 #[.pointer (some ⟨b, 0, none⟩)] w fun e w' => ∃ a c, e = .returned (.slice a (pack high bs).length c) ∧ NewRow w w' a c (pack high bs) := by
 have h2 : w.cell? ⟨b, 0 + 2, none⟩ = some (.bool true) := h.blk.cell 2
 have h3 : w.cell? ⟨b, 0 + 3, none⟩ = some (.slice a (pack high bs).length c) := h.blk.cell 3
 obtain ⟨_, _, hh, hl, hm, hn, _⟩ := own_form h.own
 cases hh
 have hb := bytes_of_own h.own
 have hpl : (pack high bs).length ≤ 1000000000 := by rw [pack_length]; omega
 go_enter Tryz.func70, Tryz.ntmps70
 go_wp2_with fail
 refine (dead_any b w h2).mono ?_
 rintro e w1 ⟨rfl, hw1⟩
 obtain rfl := hw1.symm
 go_wp2_with fail
 refine (clone_any a c (pack high bs) w hb hn hl (by omega)).mono ?_
 rintro e w1 ⟨a1, c1, rfl, hN⟩
 go_wp2_with fail
 go_ret
 exact ⟨a1, c1, rfl, hN⟩
theorem walign_any (b : Nat) (high : Bool) (bs : List Bool) (a : Option Addr) (c : Nat) (w : World) (h : WrIs w b high bs a c) (hlen : bs.length ≤ 1000000000) :
 Calls Tryz.prog 73 #[.pointer (some ⟨b, 0, none⟩)] w fun e w' => e = .returned (.tuple #[]) ∧ WrIs w' b high (align bs) a c ∧ Ext (fun i => i = b) w w' := by
 have h0 : w.cell? ⟨b, 0, none⟩ = some (.int .i64 bs.length) := h.blk.cell 0
 have f0 : w.frozen? ⟨b, 0, none⟩ = false := h.blk.free 0
 have h2 : w.cell? ⟨b, 0 + 2, none⟩ = some (.bool true) := h.blk.cell 2
 have hand := i64_andNot7 (bs.length + 7) (by omega)
 rw [show ((bs.length + 7 : Nat) : Int) = (bs.length : Int) + 7 from by push_cast; rfl, ← align_length] at hand
 go_enter Tryz.func73, Tryz.ntmps73
 go_wp2_with fail
 refine (dead_any b w h2).mono ?_
 rintro e w1 ⟨rfl, hw1⟩
 obtain rfl := hw1.symm
 go_wp2_with fail
 go_end0
 refine ⟨rfl, ⟨?_, ?_, h.apart⟩, (Ext.refl (fun i => i = b) w).setCell (p := ⟨b, 0, none⟩) (fun _ => rfl) _⟩
 ·rw [pack_align]
  have := h.blk.set 0 (.int .i64 ((align bs).length : Int))
  simpa using this
 ·rw [pack_align]
  exact own_ext h.own ((Ext.refl (fun i => i = b) w).setCell (fun _ => rfl) _) (fun g hg e => by cases a with | none => cases hg | some y => cases hg; exact h.apart y rfl e)
structure RdIs (w : World) (b : Nat) (high : Bool) (l : List UInt8) (n : Nat) (a : Option Addr) (c : Nat) : Prop where
 blk : BlockIs w b [.int .i64 n, .bool high, .bool true, .slice a l.length c] 164
 bytes : Bytes w a l
 apart : ∀ g, a = some g → g.block ≠ b
theorem RdIs.ext {S : Nat → Prop} {w w' : World} {b : Nat} {high : Bool} {l : List UInt8} {n : Nat} {a : Option Addr} {c : Nat} (h : RdIs w b high l n a c) (e : Ext S w w') (hb : ¬ S b) (ha : ∀ g, a = some g → ¬ S g.block) : RdIs w' b high l n a c :=
 ⟨h.blk.ext e hb, h.bytes.ext e ha, h.apart⟩
theorem read_any (ad : Option Addr) (cap : Nat) (l : List UInt8) (high : Bool) (w : World) (hb : Bytes w ad l) (hnil : ad = none → cap = 0) (hle : l.length ≤ cap) (hmost : l.length ≤ 100000000000) :
 Calls Tryz.prog 83 #[.slice ad l.length cap, .bool high] w fun e w' => ∃ b a c, e = .returned (.pointer (some ⟨b, 0, none⟩)) ∧ RdIs w' b high l 0 a c ∧ Pure w w' ∧ w.heap.size ≤ b ∧ b < w'.heap.size ∧ ∀ g, a = some g → w.heap.size ≤ g.block := by
 go_enter Tryz.func83, Tryz.ntmps83
 go_wp2_with fail
 refine (clone_any ad cap l w hb hnil hle hmost).mono ?_
 rintro e w1 ⟨a1, c1, rfl, hN⟩
 go_wp2_with fail
 go_ret
 refine ⟨w1.heap.size, a1, c1, rfl, ⟨BlockIs.new w1 _ _, hN.bytes.pure (ext_alloc _ _), fun g hg e => ?_⟩, hN.ext.alloc _, hN.ext.size, by simp, hN.fresh⟩
 have := hN.lt g hg
 omega
theorem read_any2 (ad : Option Addr) (cap : Nat) (l : List UInt8) (high : Bool) (w : World) (hb : Bytes w ad l) (hnil : ad = none → cap = 0) (hle : l.length ≤ cap) (hmost : l.length ≤ 100000000000) :
 Calls Tryz.prog 83 #[.slice ad l.length cap, .bool high] w fun e w' => ∃ b a c, e = .returned (.pointer (some ⟨b, 0, none⟩)) ∧ RdIs w' b high l 0 a c ∧ Pure w w' ∧ w.heap.size ≤ b ∧ b < w'.heap.size ∧ (∀ g, a = some g → w.heap.size ≤ g.block) ∧ (∀ g, a = some g → g.block < w'.heap.size) := by
 go_enter Tryz.func83, Tryz.ntmps83
 go_wp2_with fail
 refine (clone_any ad cap l w hb hnil hle hmost).mono ?_
 rintro e w1 ⟨a1, c1, rfl, hN⟩
 go_wp2_with fail
 go_ret
 refine ⟨w1.heap.size, a1, c1, rfl, ⟨BlockIs.new w1 _ _, hN.bytes.pure (ext_alloc _ _), fun g hg e => ?_⟩, hN.ext.alloc _, hN.ext.size, by simp, hN.fresh, fun g hg => by have := hN.lt g hg; simp; omega⟩
 have := hN.lt g hg
 omega
theorem rdead_any (b : Nat) (w : World) (h : w.cell? ⟨b, 0 + 2, none⟩ = some (.bool true)) : Calls Tryz.prog 124 #[.pointer (some ⟨b, 0, none⟩)] w fun e w' => e = .returned (.bool false) ∧ w' = w := by
 go_enter Tryz.func124, Tryz.ntmps124
 go_wp2_with fail
 go_ret
 exact ⟨rfl, rfl⟩
theorem at_any (b : Nat) (high : Bool) (l : List UInt8) (n : Nat) (a : Option Addr) (c : Nat) (w : World) (h : RdIs w b high l n a c) :
 Calls Tryz.prog 86 #[.pointer (some ⟨b, 0, none⟩)] w fun e w' => e = .returned (.int .i64 n) ∧ w' = w := by
 have h2 : w.cell? ⟨b, 0 + 2, none⟩ = some (.bool true) := h.blk.cell 2
 have h0 : w.cell? ⟨b, 0, none⟩ = some (.int .i64 n) := h.blk.cell 0
 go_enter Tryz.func86, Tryz.ntmps86
 go_wp2_with fail
 refine (rdead_any b w h2).mono ?_
 rintro e w1 ⟨rfl, hw1⟩
 obtain rfl := hw1.symm
 go_wp2_with fail
 go_ret
 exact ⟨rfl, rfl⟩
theorem left_any (b : Nat) (high : Bool) (l : List UInt8) (n : Nat) (a : Option Addr) (c : Nat) (w : World) (h : RdIs w b high l n a c) (hl : l.length ≤ 100000000000) (hn : n ≤ 100000000000000) :
 Calls Tryz.prog 137 #[.pointer (some ⟨b, 0, none⟩)] w fun e w' => e = .returned (.int .i64 (8 * (l.length : Int) - n)) ∧ ∃ m, w' = w.drewN m := by
 have h2 : w.cell? ⟨b, 0 + 2, none⟩ = some (.bool true) := h.blk.cell 2
 have h0 : w.cell? ⟨b, 0, none⟩ = some (.int .i64 n) := h.blk.cell 0
 have h3 : w.cell? ⟨b, 0 + 3, none⟩ = some (.slice a l.length c) := h.blk.cell 3
 have e1 : IntKind.i64.wrap (8 * (l.length : Int)) = 8 * (l.length : Int) := IntWalk.i64_in _ (by omega)
 have e2 : IntKind.i64.wrap (8 * (l.length : Int) - n) = 8 * (l.length : Int) - n := IntWalk.i64_in _ (by omega)
 go_enter Tryz.func137, Tryz.ntmps137
 go_wp2_with fail
 refine (rdead_any b w h2).mono ?_
 rintro e w1 ⟨rfl, hw1⟩
 obtain rfl := hw1.symm
 go_wp2_with fail
 go_quiet (fail)
 go_wp2_with fail
 go_ret
 exact ⟨rfl, _, rfl⟩
theorem ralign_any (b : Nat) (high : Bool) (l : List UInt8) (n : Nat) (a : Option Addr) (c : Nat) (w : World) (h : RdIs w b high l n a c) (hn : n ≤ 100000000000000) :
 Calls Tryz.prog 136 #[.pointer (some ⟨b, 0, none⟩)] w fun e w' => e = .returned (.tuple #[]) ∧ RdIs w' b high l (8 * ((n + 7) / 8)) a c ∧ Ext (fun i => i = b) w w' := by
 have h0 : w.cell? ⟨b, 0, none⟩ = some (.int .i64 n) := h.blk.cell 0
 have f0 : w.frozen? ⟨b, 0, none⟩ = false := h.blk.free 0
 have h2 : w.cell? ⟨b, 0 + 2, none⟩ = some (.bool true) := h.blk.cell 2
 have hand := i64_andNot7 (n + 7) (by omega)
 rw [show ((n + 7 : Nat) : Int) = (n : Int) + 7 from by push_cast; rfl] at hand
 have hB := h.blk.set 0 (.int .i64 ((8 * ((n + 7) / 8) : Nat) : Int))
 generalize 8 * ((n + 7) / 8) = m at *
 go_enter Tryz.func136, Tryz.ntmps136
 go_wp2_with fail
 refine (rdead_any b w h2).mono ?_
 rintro e w1 ⟨rfl, hw1⟩
 obtain rfl := hw1.symm
 go_wp2_with fail
 go_end0
 have hE := (Ext.refl (fun i => i = b) w).setCell (p := ⟨b, 0, none⟩) (fun _ => rfl) (.int .i64 (m : Int))
 exact ⟨rfl, ⟨by simpa using hB, h.bytes.ext hE (fun g hg e => h.apart g hg e), h.apart⟩, hE⟩
theorem get_no2 (b : Nat) (high : Bool) (l : List UInt8) (m : Nat) (a : Option Addr) (c : Nat) (n : Nat) (w : World) (h : RdIs w b high l m a c) (hl : l.length ≤ 100000000000) (hm : m ≤ 8 * l.length) (hn : n ≤ 32) (hcut : 8 * l.length < m + n) :
 Calls Tryz.prog 125 #[.pointer (some ⟨b, 0, none⟩), .int .i64 n] w fun e w' => e = .returned (.tuple #[.int .u32 0, .int .i64 10]) ∧ ∃ q, w' = w.drewN q := by
 have h2 : w.cell? ⟨b, 0 + 2, none⟩ = some (.bool true) := h.blk.cell 2
 have hn0 : ¬ ((n : Int) < 0) := by omega
 have hn1 : ¬ ((32 : Int) < n) := by omega
 have hcut' : 8 * (l.length : Int) - m < n := by omega
 go_enter Tryz.func125, Tryz.ntmps125
 go_wp2_with fail
 refine (rdead_any b w h2).mono ?_
 rintro e w1 ⟨rfl, hw1⟩
 obtain rfl := hw1.symm
 go_wp2_with fail
 refine (left_any b high l m a c w h hl (by omega)).mono ?_
 rintro e w1 ⟨rfl, q, rfl⟩
 go_wp2_with fail
 go_ret2
 exact ⟨rfl, q, rfl⟩
theorem and_pow (x i : Nat) : x &&& 2 ^ i = if x.testBit i then 2 ^ i else 0 := by
 apply Nat.eq_of_testBit_eq
 intro j
 rw [Nat.testBit_and, Nat.testBit_two_pow]
 by_cases e : i = j
 ·subst e; cases h : x.testBit i <;> simp [h]
 ·cases h : x.testBit i <;> simp [e, Nat.testBit_two_pow]
theorem and_test (high : Bool) (u : UInt8) (j : Nat) (hj : j < 8) : (bits .and .u8 (u.toNat : Int) ((wt high j : Nat) : Int) != 0) = u.toNat.testBit (pl high j) := by
 have hw : wt high j < 256 := by rw [wt_pl]; exact Nat.lt_of_lt_of_le (Nat.pow_lt_pow_right (by decide) (pl_lt high j hj)) (by decide)
 rw [u8_and_nat u.toNat (wt high j) u.toNat_lt hw, wt_pl, and_pow]
 have h0 := Nat.two_pow_pos (pl high j)
 cases u.toNat.testBit (pl high j) with
 | false => rfl
 | true => simp only [if_true]; rw [bne_iff_ne]; omega
theorem rd_step {w : World} {b : Nat} {high : Bool} {l : List UInt8} {n : Nat} {a : Option Addr} {c : Nat} (h : RdIs w b high l n a c) (q : Nat) : RdIs ((w.drewN q).setCell ⟨b, 0, none⟩ (.int .i64 ((n : Int) + 1))) b high l (n + 1) a c := by
 refine ⟨?_, h.bytes.ext (((Ext.refl (fun i => i = b) w).drewN q).setCell (fun _ => rfl) _) (fun g hg e => h.apart g hg e), h.apart⟩
 have := (h.blk.drewN q).set 0 (.int .i64 ((n : Int) + 1))
 simpa using this
set_option maxHeartbeats 1000000 in
theorem get_yes (b : Nat) (high : Bool) (l : List UInt8) (m : Nat) (a : Option Addr) (c : Nat) (n : Nat) (w : World) (h : RdIs w b high l m a c) (hl : l.length ≤ 100000000) (hn : n ≤ 32) (hcut : m + n ≤ 8 * l.length) :
 Calls Tryz.prog 125 #[.pointer (some ⟨b, 0, none⟩), .int .i64 n] w fun e w' => e = .returned (.tuple #[.int .u32 ((num high (((bitsOf high l).drop m).take n) : Nat) : Int), .int .i64 0]) ∧ RdIs w' b high l (m + n) a c ∧ Ext (fun i => i = b) w w' := by
 have h2 : w.cell? ⟨b, 0 + 2, none⟩ = some (.bool true) := h.blk.cell 2
 have hn0 : ¬ ((n : Int) < 0) := by omega
 have hn1 : ¬ ((32 : Int) < n) := by omega
 have hcut' : ¬ 8 * (l.length : Int) - m < n := by omega
 have hlb : (((bitsOf high l).drop m).take n).length = n := by simp [bitsOf_length]; omega
 have HLB := qh hlb
 clear hlb
 have HA := qh (part_all high _ n HLB.out)
 have HZ := qh (part_zero high (((bitsOf high l).drop m).take n) n)
 have HB := qh (fun k (hk : k < n) => show (((bitsOf high l).drop m).take n).getD k false = bitOf high l (m + k) from by
  rw [← bitsOf_get high l (m + k) (by omega)]; simp [List.getD_eq_getElem?_getD, List.getElem?_take, hk])
 have HS := qh (fun k (hk : k < n) => part_step high _ n k HLB.out hk)
 have HP := qh (fun k (hk : k ≤ n) => part_lt high _ n k HLB.out hk)
 generalize (((bitsOf high l).drop m).take n) = bl at *
 go_enter Tryz.func125, Tryz.ntmps125
 go_wp2_with fail
 refine (rdead_any b w h2).mono ?_
 rintro e w1 ⟨rfl, hw1⟩
 obtain rfl := hw1.symm
 go_wp2_with fail
 refine (left_any b high l m a c w h (by omega) (by omega)).mono ?_
 rintro e w1 ⟨rfl, q, rfl⟩
 go_wp2_with fail
 clear hcut' hn0 hn1 h2
 go_loopw [6, 24] (fun x i wr => ∃ (k : Nat), k ≤ n ∧ i = .int .i64 k ∧ x = .int .u32 ((part high bl n k : Nat) : Int) ∧ RdIs wr b high l (m + k) a c ∧ Ext (fun i => i = b) w wr) (fun _ i _ => n - (intOf i).toNat)
 case atStart => exact ⟨0, Nat.zero_le _, rfl, by rw [HZ.out]; rfl, ⟨h.blk.drewN q, h.bytes.ext ((Ext.refl (fun _ => False) w).drewN q) (fun _ _ => id), h.apart⟩, (Ext.refl _ w).drewN q⟩
 case round =>
  obtain ⟨k, hk, rfl, rfl, hR, hE⟩ := hrel
  by_cases hlt : k < n
  ·obtain ⟨mk, hmk⟩ : ∃ mk, mk = m + k := ⟨_, rfl⟩
   have hmk1 : mk < 8 * l.length := by omega
   rw [← hmk] at hR
   obtain ⟨q8, hq8⟩ : ∃ q8, q8 = mk / 8 := ⟨_, rfl⟩
   have hql : q8 < l.length := by omega
   have hq81 : (mk : Int) / 8 = q8 := by omega
   have hq82 : (q8 : Int) < l.length := by omega
   have hq83 : (0 : Int) ≤ q8 := by omega
   have g0 : wr.cell? ⟨b, 0, none⟩ = some (.int .i64 mk) := hR.blk.cell 0
   have g1 : wr.cell? ⟨b, 0 + 1, none⟩ = some (.bool high) := hR.blk.cell 1
   have g3 : wr.cell? ⟨b, 0 + 3, none⟩ = some (.slice a l.length c) := hR.blk.cell 3
   have k0 : wr.frozen? ⟨b, 0, none⟩ = false := hR.blk.free 0
   obtain ⟨ab, ao, rfl, hcell⟩ := hR.bytes.at q8 hql
   have hbit := HB.out k hlt
   have htest := and_test high l[q8] (mk % 8) (by omega)
   have hbo : bitOf high l mk = l[q8].toNat.testBit (pl high (mk % 8)) := by
    unfold bitOf; rw [← hq8, List.getD_eq_getElem?_getD, List.getElem?_eq_getElem hql]; rfl
   rw [← hmk] at hbit
   rw [← hbo, ← hbit] at htest
   clear hbo hbit
   have hstep := HS.out k hlt
   have hP := HP.out k (by omega)
   have hP1 := HP.out (k + 1) (by omega)
   have hP32 : 2 ^ n ≤ 4294967296 := Nat.pow_le_pow_right (by decide) hn
   have hturn := turn_lt high k n hlt
   have HTu := qh (fun u (hc : u.cell? ⟨b, 0 + 1, none⟩ = some (.bool high)) => turn_any b high k n u hc hlt hn)
   have HMk := qh (fun u (h0 : u.cell? ⟨b, 0, none⟩ = some (.int .i64 mk)) (h1 : u.cell? ⟨b, 0 + 1, none⟩ = some (.bool high)) => mask_any b high mk u h0 h1 (by omega))
   have hbu := l[q8].toNat_lt
   have hpow : 2 ^ turn high k n < 4294967296 := Nat.lt_of_lt_of_le (Nat.pow_lt_pow_right (by decide) (show turn high k n < 32 by omega)) (by decide)
   have hor := u32_or_nat (part high bl n k) (2 ^ turn high k n) (by omega) hpow
   have HMK := qh hmk
   clear hmk hq8
   generalize wt high (mk % 8) = wm at *
   generalize l[q8].toNat = u at *
   generalize turn high k n = t at *
   cases hβ : bl.getD k false with
   | false =>
     rw [hβ] at hstep htest
     simp only [Bool.false_eq_true, if_false] at hstep
     have HStep := qh hstep
     clear hstep hor hβ
     go_wp2_with fail
     go_quiet ((go_at_call 130; exact Calls.quiet_of_same (HMk.out _ (by simpa using g0) (by simpa using g1))))
     go_wp2_with fail
     go_roundw
     case rel => exact ⟨k + 1, by omega, by go_num, by rw [HStep.out], by rw [show m + (k + 1) = mk + 1 from by rw [HMK.out]; omega]; exact rd_step hR _, (hE.drewN _).setCell (fun _ => rfl) _⟩
     case measure => simp [intOf]; omega
   | true =>
     rw [hβ] at hstep htest
     simp only [if_true] at hstep
     rw [← hstep] at hor
     have HStep := qh hstep
     clear hstep hβ
     have HOr := qh hor
     clear hor
     generalize part high bl n k = P0 at *
     go_wp2_with fail
     go_quiet ((go_at_call 130; exact Calls.quiet_of_same (HMk.out _ (by simpa using g0) (by simpa using g1))))
     go_wp2_with fail
     refine (HTu.out _ (by simpa using g1)).mono ?_
     rintro e w2 ⟨rfl, hw2⟩
     obtain rfl := hw2.symm
     have ht31 : (t : Int) ≤ 31 := by omega
     have ht0 : (0 : Int) ≤ t := by omega
     go_wp2_with fail
     go_roundw
     case rel =>
      refine ⟨k + 1, by omega, by go_num, ?_, by rw [show m + (k + 1) = mk + 1 from by rw [HMK.out]; omega]; exact rd_step hR _, (hE.drewN _).setCell (fun _ => rfl) _⟩
      rw [← HOr.out]; congr 2
      have e : (2 ^ t : Int) = ((2 ^ t : Nat) : Int) := by push_cast; rfl
      rw [e]; exact Int.emod_eq_of_lt (Int.natCast_nonneg _) (by omega)
     case measure => simp [intOf]; omega
  ·obtain rfl : k = n := by omega
   rw [HA.out]
   go_wp2_with fail
   go_ret2
   exact ⟨rfl, hR, hE⟩
end Go.Proofs.YtomcdhljjmnahaaGreat
namespace Go.Proofs.YtomcdhljjmnahaaGreat
end Go.Proofs.YtomcdhljjmnahaaGreat
namespace Go.Proofs.YtomcdhljjmnahaaGreat
open Go.RowKit
theorem refbit_any (x n : Nat) (w : World) (hx : x < 4294967296) (hn : n ≤ 1000) :
 Calls Tryz.prog 128 #[.int .u32 x, .int .i64 n] w fun e w' => e = .returned (.bool (x.testBit n)) ∧ w' = w := by
 go_enter Tryz.func128, Tryz.ntmps128
 go_wp2_with fail
 go_loopw [0, 5] (fun v i w' => ∃ k : Nat, k ≤ n ∧ i = .int .i64 k ∧ v = .int .u32 ((x / 2 ^ k : Nat) : Int) ∧ w' = w) (fun _ i _ => n - (intOf i).toNat)
 case atStart => exact ⟨0, Nat.zero_le _, rfl, by simp, rfl⟩
 case round =>
  obtain ⟨k, hk, rfl, rfl, hw⟩ := hrel
  obtain rfl := hw.symm
  obtain ⟨y, hy⟩ : ∃ y, y = x / 2 ^ k := ⟨_, rfl⟩
  have hyl : y ≤ x := by rw [hy]; exact Nat.div_le_self _ _
  rw [← hy]
  have HY := qh hy
  clear hy
  by_cases hlt : k < n
  ·have hki : (k : Int) < (n : Int) := by omega
   go_wp2_with fail
   go_roundw
   case rel => exact ⟨k + 1, by omega, by go_num, by rw [Nat.pow_succ, ← Nat.div_div_eq_div_mul, ← HY.out]; go_num, by first | rfl | trivial⟩
   case measure => simp [intOf]; omega
  ·have hki : ¬ (k : Int) < (n : Int) := by omega
   have hkn : k = n := by omega
   have HK := qh hkn
   clear hkn
   go_wp2_with fail
   go_ret
   refine ⟨?_, rfl⟩
   rw [Nat.testBit_eq_decide_div_mod_eq, ← HK.out, ← HY.out]
   have ht : ((y : Int) % 2 == 1) = decide (y % 2 = 1) := by rw [Bool.eq_iff_iff]; simp; omega
   show Ending.returned (.bool ((y : Int) % 2 == 1)) = _
   rw [ht]
theorem infoBool : (Tryz.prog.info? 4).map (fun i => (i.zero, i.size, i.bytes)) = some (some (.bool false), 1, 1) := by kernel_rfl
def upto (high : Bool) (l : List UInt8) (n : Nat) : List Bool := (List.range n).map (bitOf high l)
theorem upto_succ (high : Bool) (l : List UInt8) (n : Nat) : upto high l (n + 1) = upto high l n ++ [bitOf high l n] := by simp [upto, List.range_succ]
theorem bitOf_at (high : Bool) (l : List UInt8) (k j : Nat) (hk : k < l.length) (hj : j < 8) : bitOf high l (8 * k + j) = l[k].toNat.testBit (if high then 7 - j else j) := by
 unfold bitOf pl
 rw [show (8 * k + j) / 8 = k from by omega, show (8 * k + j) % 8 = j from by omega]
 simp [hk]
structure BitRow (w w' : World) (a : Option Addr) (c : Nat) (bs : List Bool) : Prop where
 own : w'.ownsRow w.heap.size 4 1 (.slice a bs.length c) bs.length (bs.map Value.bool)
 pure : Pure w w'
set_option maxHeartbeats 4000000 in
theorem refbits_any (high : Bool) (ad : Option Addr) (cap : Nat) (l : List UInt8) (w : World) (hb : Bytes w ad l) (hl : l.length ≤ 10000000) :
 Calls Tryz.prog 90 #[.slice ad l.length cap, .bool high] w fun e w' => ∃ a c, e = .returned (.slice a (bitsOf high l).length c) ∧ BitRow w w' a c (bitsOf high l) := by
 go_enter Tryz.func90, Tryz.ntmps90
 go_wp2_with fail
 go_loopw [5, 6, 7] (fun v i _ w' => ∃ (k : Nat) (a : Option Addr) (c : Nat), k ≤ l.length ∧ i = .int .i64 k ∧ v = .slice a (8 * k) c ∧ w'.ownsRow w.heap.size 4 1 v (8 * k) ((upto high l (8 * k)).map Value.bool) ∧ Pure w w') (fun _ i _ _ => l.length - (intOf i).toNat)
 case atStart => exact ⟨0, none, 0, Nat.zero_le _, rfl, rfl, World.ownsRow_nil _ _ _ _, Ext.refl _ _⟩
 case round =>
  obtain ⟨k, a0, c0, hk, rfl, rfl, hown0, hE0⟩ := hrel
  by_cases hlt : k < l.length
  ·have hki : (k : Int) < (l.length : Int) := by omega
   have hk0 : (0 : Int) ≤ (k : Int) := by omega
   go_wp2_with fail
   go_loopw [5, 7] (fun v j w' => ∃ (j' : Nat) (a : Option Addr) (c : Nat), j' ≤ 8 ∧ j = .int .i64 j' ∧ v = .slice a (8 * k + j') c ∧ w'.ownsRow w.heap.size 4 1 v (8 * k + j') ((upto high l (8 * k + j')).map Value.bool) ∧ Pure w w') (fun _ j _ => 8 - (intOf j).toNat)
   case atStart => exact ⟨0, a0, c0, Nat.zero_le _, rfl, rfl, hown0, hE0⟩
   case round =>
    obtain ⟨j, a, c, hj, rfl, rfl, hown, hE⟩ := hrel
    clear hown0 hE0
    by_cases hj8 : j < 8
    ·have hji : (j : Int) < 8 := by omega
     obtain ⟨bb, bo, rfl, h0⟩ := (hb.pure hE).at k hlt
     obtain ⟨y, hy⟩ : ∃ y, y = l[k].toNat := ⟨_, rfl⟩
     have hyl : y < 256 := by rw [hy]; exact UInt8.toNat_lt _
     have hsucc := upto_succ high l (8 * k + j)
     rw [bitOf_at high l k j hlt hj8, ← hy] at hsucc
     rw [← hy] at h0
     clear hy
     cases high with
     | true =>
       simp only [if_true] at hsucc
       obtain ⟨j', hj'⟩ : ∃ j' : Nat, j' = 7 - j := ⟨_, rfl⟩
       rw [← hj'] at hsucc
       have hz : (7 : Int) - (j : Int) = (j' : Int) := by omega
       have hz' : IntKind.i64.wrap (j' : Int) = (j' : Int) := IntWalk.i64_in _ (by omega)
       have HB := qh (fun w => refbit_any y j' w (by omega) (by omega))
       have HS := qh hsucc
       clear hsucc hj'
       go_wp2_with fail
       refine (HB.out _).mono ?_
       rintro e w2 ⟨rfl, hw2⟩
       obtain rfl := hw2.symm
       go_wp2_with (at_builtin; refine wpList_append_fresh rfl (.tmp 19) (.tmp 28) 142 rfl w.heap.size 4 (.bool false) 1 1 Tryz.underlying142 infoBool rfl (by decide) _ (8 * k + j) ((upto true l (8 * k + j)).map Value.bool) rfl (hown.alloc _) (some ⟨wr.heap.size, 0, none⟩) 1 1 [.bool (y.testBit j')] rfl (fun e => by cases e) rfl (row_at _ rfl rfl) (fun u hu => by simp at hu; subst hu; rfl) (8 * k + j + 1) rfl ((upto true l (8 * k + j + 1)).map Value.bool) (by rw [HS.out]; simp) (by omega) (by unfold maxLen; omega) (by have := hE.size; simp; omega) ?_)
       intro a2 c2 w3 hO3 hg3 hfr3
       have hE3 : Pure w w3 := Ext.own (hE.alloc _) (hown.alloc _) hg3
       clear hE hown hg3 hfr3 HB HS
       go_wp2_with fail
       go_roundw
       case rel => exact ⟨j + 1, a2, c2, by omega, by go_num, rfl, hO3, hE3⟩
       case measure => simp [intOf]; omega
     | false =>
       simp only [Bool.false_eq_true, if_false] at hsucc
       have HB := qh (fun w => refbit_any y j w (by omega) (by omega))
       have HS := qh hsucc
       clear hsucc
       go_wp2_with fail
       refine (HB.out _).mono ?_
       rintro e w2 ⟨rfl, hw2⟩
       obtain rfl := hw2.symm
       go_wp2_with (at_builtin; refine wpList_append_fresh rfl (.tmp 30) (.tmp 38) 142 rfl w.heap.size 4 (.bool false) 1 1 Tryz.underlying142 infoBool rfl (by decide) _ (8 * k + j) ((upto false l (8 * k + j)).map Value.bool) rfl (hown.alloc _) (some ⟨wr.heap.size, 0, none⟩) 1 1 [.bool (y.testBit j)] rfl (fun e => by cases e) rfl (row_at _ rfl rfl) (fun u hu => by simp at hu; subst hu; rfl) (8 * k + j + 1) rfl ((upto false l (8 * k + j + 1)).map Value.bool) (by rw [HS.out]; simp) (by omega) (by unfold maxLen; omega) (by have := hE.size; simp; omega) ?_)
       intro a2 c2 w3 hO3 hg3 hfr3
       have hE3 : Pure w w3 := Ext.own (hE.alloc _) (hown.alloc _) hg3
       clear hE hown hg3 hfr3 HB HS
       go_wp2_with fail
       go_roundw
       case rel => exact ⟨j + 1, a2, c2, by omega, by go_num, rfl, hO3, hE3⟩
       case measure => simp [intOf]; omega
    ·have hj8' : j = 8 := by omega
     subst hj8'
     go_wp2_with fail
     go_roundw
     case rel => exact ⟨k + 1, a, c, by omega, by go_num, rfl, hown, hE⟩
     case measure => simp [intOf]; omega
  ·have hki : ¬ (k : Int) < (l.length : Int) := by omega
   have hkk := qh (show 8 * k = (bitsOf high l).length by rw [bitsOf_length]; omega)
   have hup := qh (show upto high l (8 * k) = bitsOf high l by unfold bitsOf upto; rw [show k = l.length from by omega])
   go_wp2_with fail
   go_ret
   refine ⟨a0, c0, by rw [← hkk.out]; rfl, ?_, hE0⟩
   rw [← hkk.out, ← hup.out]; exact hown0
