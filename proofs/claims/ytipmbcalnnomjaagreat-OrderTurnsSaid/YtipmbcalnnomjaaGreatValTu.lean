import Derived.Test.YtipmbcalnnomjaaGreatBaseTu
import Derived.Deep.MidRow
import Derived.Test.YtipmbcalnnomjaaGreatOpenTu
import Derived.OwnWalk
import Derived.Test.YtipmbcalnnomjaaGreatSqTu
set_option linter.unusedVariables false
set_option linter.unusedSimpArgs false
set_option maxRecDepth 100000
namespace Go.Proofs.YtipmbcalnnomjaaGreat
open Go.RowKit
theorem Ext.setCells {S : Nat → Prop} {a : World} {b : Nat} : ∀ (vs : List Value) (o : Nat) (w : World), Ext S a w → (b < a.heap.size → S b) → Ext S a (w.setCells b o vs)
 | [], _, _, h, _ => h
 | v :: r, o, w, h, hb => Ext.setCells r (o + 1) _ (h.setCell (p := ⟨b, o, none⟩) hb v) hb
theorem BlockIs.setCells {b : Nat} {T : TypeId} : ∀ (vs pre old : List Value) (w : World), BlockIs w b (pre ++ old) T → old.length = vs.length → BlockIs (w.setCells b pre.length vs) b (pre ++ vs) T
 | [], pre, old, w, h, hl => by
   obtain rfl : old = [] := List.length_eq_zero_iff.1 hl
   exact h
 | v :: r, pre, old, w, h, hl => by
   cases old with
   | nil => simp at hl
   | cons o old =>
     have h1 := h.set pre.length v
     have e : (pre ++ o :: old).set pre.length v = (pre ++ [v]) ++ old := by simp
     rw [e] at h1
     have h2 := BlockIs.setCells r (pre ++ [v]) old _ h1 (by simpa using hl)
     have e2 : (pre ++ [v]) ++ r = pre ++ v :: r := by simp
     rw [e2, List.length_append] at h2
     exact h2
theorem BlockIs.setAll {w : World} {b : Nat} {T : TypeId} {cs : List Value} (vs : List Value) (h : BlockIs w b cs T) (hl : cs.length = vs.length) : BlockIs (w.setCells b 0 vs) b vs T :=
 BlockIs.setCells vs [] cs w h hl
theorem BlockIs.range {w : World} {b : Nat} {T : TypeId} {cs : List Value} (h : BlockIs w b cs T) : w.rangeAt b 0 cs := fun j v hv => by rw [Nat.zero_add, h.cell j]; exact hv
theorem BlockIs.there {w : World} {b : Nat} {T : TypeId} {cs : List Value} (h : BlockIs w b cs T) (n : Nat) (hn : n = cs.length) : w.there b 0 n := fun j hj => by
 rw [Nat.zero_add, h.cell j, h.free j, List.getElem?_eq_getElem (by omega)]
 exact ⟨rfl, rfl⟩
end Go.Proofs.YtipmbcalnnomjaaGreat
namespace Go.Proofs.YtipmbcalnnomjaaGreat
open Go.RowKit
inductive V where
 | mk (kind n : Int) (s : ByteArray) (l : List V)
namespace V
def kind : V → Int | mk k _ _ _ => k
def n : V → Int | mk _ n _ _ => n
def s : V → ByteArray | mk _ _ s _ => s
def l : V → List V | mk _ _ _ l => l
end V
def Lies (W : World) : Nat → V → List Value → Prop
 | 0, _, _ => False
 | d + 1, v, cs => ∃ (a : Option Addr) (c : Nat) (rows : List (List Value)), cs = [.int .i64 v.kind, .int .i64 v.n, .string v.s, .slice a v.l.length c] ∧ rows.length = v.l.length ∧ (∀ r ∈ rows, r.length = 4) ∧ RowOf W a (rows.flatMap id) ∧ v.l.length ≤ c ∧ c ≤ maxLen ∧ (a = none → c = 0) ∧ (∀ (i : Nat) (u : V) (r : List Value), v.l[i]? = some u → rows[i]? = some r → Lies W d u r) ∧ v.s.size ≤ maxLen
theorem Lies.pure {W W' : World} (h : Pure W W') : ∀ {d : Nat} {v : V} {cs : List Value}, Lies W d v cs → Lies W' d v cs
 | 0, _, _, hl => hl
 | d + 1, v, cs, hl => by
   obtain ⟨a, c, rows, h1, h2, h3, h4, h5, h6, h7, h8, h9⟩ := hl
   exact ⟨a, c, rows, h1, h2, h3, h4.ext h (fun _ _ => id), h5, h6, h7, fun i u r hu hr => Lies.pure h (h8 i u r hu hr), h9⟩
theorem Lies.len {W : World} {d : Nat} {v : V} {cs : List Value} (h : Lies W d v cs) : cs.length = 4 := by
 cases d with
 | zero => exact h.elim
 | succ d => obtain ⟨a, c, rows, rfl, _⟩ := h; rfl
theorem Lies.more {W : World} : ∀ {d : Nat} {v : V} {cs : List Value}, Lies W d v cs → Lies W (d + 1) v cs
 | 0, _, _, h => h.elim
 | d + 1, v, cs, h => by
   obtain ⟨a, c, rows, h1, h2, h3, h4, h5, h6, h7, h8, h9⟩ := h
   exact ⟨a, c, rows, h1, h2, h3, h4, h5, h6, h7, fun i u r hu hr => (h8 i u r hu hr).more, h9⟩
theorem Lies.mono {W : World} {d d' : Nat} {v : V} {cs : List Value} (h : Lies W d v cs) (hd : d ≤ d') : Lies W d' v cs := by
 induction hd with
 | refl => exact h
 | step _ ih => exact ih.more
structure Kids (W : World) (d : Nat) (l : List V) (a : Option Addr) (rows : List (List Value)) : Prop where
 len : rows.length = l.length
 four : ∀ r ∈ rows, r.length = 4
 row : RowOf W a (rows.flatMap id)
 lies : ∀ (i : Nat) (u : V) (r : List Value), l[i]? = some u → rows[i]? = some r → Lies W d u r
theorem Kids.pure {W W' : World} {d : Nat} {l : List V} {a : Option Addr} {rows : List (List Value)} (h : Kids W d l a rows) (hP : Pure W W') : Kids W' d l a rows :=
 ⟨h.len, h.four, h.row.ext hP (fun _ _ => id), fun i u r hu hr => (h.lies i u r hu hr).pure hP⟩
theorem Kids.at {W : World} {d : Nat} {l : List V} {a : Option Addr} {rows : List (List Value)} (h : Kids W d l a rows) (k : Nat) (u : V) (hk : l[k]? = some u) :
 ∃ b o r, a = some ⟨b, o, none⟩ ∧ W.rangeAt b (o + k * 4) r ∧ r.length = 4 ∧ Lies W d u r := by
 obtain ⟨hkl, rfl⟩ := List.getElem?_eq_some_iff.1 hk
 have hkr : k < rows.length := by rw [h.len]; exact hkl
 have h4 := h.four _ (List.getElem_mem hkr)
 have hg : ∀ j, j < 4 → (rows.flatMap id)[k * 4 + j]? = rows[k][j]? := fun j hj => flat_get id rows (fun r hr => h.four r hr) k hkr j hj
 obtain ⟨b, o, ha, _⟩ := h.row (k * 4 + 0) _ ((hg 0 (by omega)).trans (List.getElem?_eq_getElem (by omega)))
 refine ⟨b, o, rows[k], ha, fun j v hv => ?_, h4, h.lies k _ _ hk (List.getElem?_eq_getElem hkr)⟩
 have hj : j < 4 := by have := (List.getElem?_eq_some_iff.1 hv).1; omega
 obtain ⟨b', o', ha', hc⟩ := h.row (k * 4 + j) v ((hg j hj).trans hv)
 rw [ha] at ha'
 cases ha'
 rw [Nat.add_assoc]; exact hc
theorem Lies.kids {W : World} {d : Nat} {v : V} {cs : List Value} (h : Lies W (d + 1) v cs) : ∃ a c rows, cs = [.int .i64 v.kind, .int .i64 v.n, .string v.s, .slice a v.l.length c] ∧ v.l.length ≤ c ∧ c ≤ maxLen ∧ (a = none → c = 0) ∧ Kids W d v.l a rows ∧ v.s.size ≤ maxLen := by
 obtain ⟨a, c, rows, h1, h2, h3, h4, h5, h6, h7, h8, h9⟩ := h
 exact ⟨a, c, rows, h1, h5, h6, h7, ⟨h2, h3, h4, h8⟩, h9⟩
mutual
def V.few : V → Int → Int
 | .mk _ _ _ l, left => fewL l (left - 1)
def fewL : List V → Int → Int
 | [], left => left
 | v :: l, left => if 0 ≤ left then fewL l (v.few left) else left
end
theorem few_eq (v : V) (left : Int) : v.few left = fewL v.l (left - 1) := by cases v; simp [V.few, V.l]
theorem fewL_neg {l : List V} {x : Int} (h : x < 0) : fewL l x = x := by
 cases l with
 | nil => simp [fewL]
 | cons v l => rw [fewL, if_neg (by omega)]
theorem fewL_snoc (l : List V) (v : V) (x : Int) : fewL (l ++ [v]) x = if 0 ≤ fewL l x then v.few (fewL l x) else fewL l x := by
 induction l generalizing x with
 | nil => rw [List.nil_append, fewL, fewL, fewL]
 | cons u l ih =>
   rw [List.cons_append, fewL, fewL]
   by_cases h : 0 ≤ x
   ·rw [if_pos h, if_pos h, ih]
   ·rw [if_neg h, if_neg h, if_neg h]
mutual
theorem V.few_low : ∀ (v : V) (x : Int), 0 ≤ x → -1 ≤ v.few x ∧ v.few x ≤ x
 | .mk _ _ _ l, x, h => by
   have := fewL_low l (x - 1) (by omega)
   simp only [V.few]; omega
theorem fewL_low : ∀ (l : List V) (x : Int), -1 ≤ x → -1 ≤ fewL l x ∧ fewL l x ≤ x
 | [], x, h => by simp [fewL]; omega
 | v :: l, x, h => by
   rw [fewL]
   by_cases h0 : 0 ≤ x
   ·rw [if_pos h0]
    have h1 := V.few_low v x h0
    have h2 := fewL_low l (v.few x) h1.1
    omega
   ·rw [if_neg h0]; omega
end
def IntTo (x : Int) (w : World) (e : Ending) (w' : World) : Prop := e = .returned (.int .i64 x) ∧ Pure w w'
set_option maxHeartbeats 1000000 in
theorem few_any : ∀ (d : Nat) (v : V) (cs : List Value) (x : Int) (w : World), Lies w d v cs → 0 ≤ x → x ≤ 1000 →
 Calls Tryz.prog 47 #[.agg cs.toArray, .int .i64 x] w (IntTo (v.few x) w)
 | 0, _, _, _, _, h, _, _ => h.elim
 | d + 1, v, cs, x, w, h, hx0, hx1 => by
   have IH := few_any d
   obtain ⟨a, c, rows, rfl, hlc, hcm, hnil, hK, hs⟩ := h.kids
   obtain ⟨B, hB⟩ : ∃ B, B = v.few x := ⟨_, rfl⟩
   rw [← hB]
   rw [few_eq] at hB
   obtain ⟨n, hn⟩ : ∃ n, n = v.l.length := ⟨_, rfl⟩
   obtain ⟨l, hl⟩ : ∃ l, l = v.l := ⟨_, rfl⟩
   rw [← hl] at hB hn hK
   rw [← hl, ← hn]
   rw [← hl, ← hn] at hlc
   have HB := qh hB
   have HN := qh hn
   have HI := qh IH
   unfold maxLen at hcm
   clear h hB hn hl IH
   generalize v.kind = vk
   generalize v.n = vn
   generalize v.s = vs at *
   obtain ⟨w1, hw1⟩ : ∃ w1, w1 = w.alloc (.cells #[.int .i64 vk, .int .i64 vn, .string vs, .slice a n c] 48) := ⟨_, rfl⟩
   have hBx : BlockIs w1 w.heap.size [.int .i64 vk, .int .i64 vn, .string vs, .slice a n c] 48 := hw1 ▸ BlockIs.new w _ _
   have hP1 : Pure w w1 := hw1 ▸ ext_alloc w _
   obtain ⟨tb, htb⟩ : ∃ tb, tb = w.heap.size := ⟨_, rfl⟩
   rw [← htb] at hBx
   have HW1 := qh hw1
   have HTb := qh htb
   clear hw1 htb
   go_enter Tryz.func47, Tryz.ntmps47
   go_wp2_with fail
   rw [← HW1.out, ← HTb.out]
   go_loopw [1, 5] (fun y i W => ∃ k : Nat, k ≤ n ∧ i = .int .i64 k ∧ y = .int .i64 (fewL (l.take k) (x - 1)) ∧ Pure w1 W) (fun _ i _ => n - (intOf i).toNat)
   case atStart => exact ⟨0, Nat.zero_le _, rfl, by rw [List.take_zero, fewL], Ext.refl _ _⟩
   case round =>
    obtain ⟨k, hk, rfl, rfl, hE⟩ := hrel
    have hBk := hBx.ext hE id
    have c3 : wr.cell? ⟨tb, 3, none⟩ = some (.slice a n c) := hBk.cell 3
    obtain ⟨y, hy⟩ : ∃ y, y = fewL (l.take k) (x - 1) := ⟨_, rfl⟩
    have hyl := fewL_low (l.take k) (x - 1) (by omega)
    rw [← hy] at hyl ⊢
    have HY := qh hy
    have hy1 : -1 ≤ y := hyl.1
    have hy2 : y ≤ 1000 := by omega
    clear hy hyl
    by_cases hlt : k < n
    ·have hki : (k : Int) < (n : Int) := by omega
     by_cases h0 : 0 ≤ y
     ·obtain ⟨u, hu⟩ : ∃ u, l[k]? = some u := ⟨_, List.getElem?_eq_getElem (by rw [← HN.out]; exact hlt)⟩
      obtain ⟨b, o, r, rfl, hr, hr4, hL⟩ := (hK.pure (hP1.pure hE)).at k u hu
      have HSu : Hid (fewL (l.take (k + 1)) (x - 1) = u.few y) := qh (by
       obtain ⟨hkl, rfl⟩ := List.getElem?_eq_some_iff.1 hu
       rw [List.take_succ_eq_append_getElem hkl, fewL_snoc, ← HY.out, if_pos h0])
      have HC := qh (HI.out u r y wr hL h0 hy2)
      have hlo := V.few_low u y h0
      clear hu hL
      go_wp2_with (refine wpList_load_mid rfl 48 (.tmp 22) rfl b (o + k * 4) rfl r _ hr Tryz.underlying48 rfl (by rw [hr4]; kernel_rfl) ?_)
      refine HC.out.mono ?_
      rintro e w2 ⟨rfl, hP2⟩
      go_wp2_with fail
      go_roundw
      case rel => exact ⟨k + 1, by omega, by go_num, by rw [HSu.out], hE.pure hP2⟩
      case measure => simp [intOf]; omega
     ·have HBy : Hid (B = y) := qh (by
       obtain rfl : y = -1 := by omega
       rw [HB.out, ← List.take_append_drop k l]
       have : ∀ (p q : List V) (z : Int), fewL p z < 0 → fewL (p ++ q) z = fewL p z := by
        intro p
        induction p with
        | nil => intro q z hz; rw [List.nil_append]; rw [fewL] at hz ⊢; exact fewL_neg hz
        | cons v p ih =>
          intro q z hz
          rw [List.cons_append, fewL, fewL]
          rw [fewL] at hz
          split at hz
          ·next h => rw [if_pos h, if_pos h]; exact ih q _ hz
          ·next h => rw [if_neg h, if_neg h]
       rw [this _ _ _ (by rw [← HY.out]; decide), ← HY.out])
      go_wp2_with fail
      go_ret
      exact ⟨by rw [HBy.out]; rfl, hP1.pure hE⟩
    ·have hki : ¬ (k : Int) < (n : Int) := by omega
     have HBy : Hid (B = y) := qh (by rw [HB.out, HY.out, List.take_of_length_le (by rw [← HN.out]; omega)])
     go_wp2_with fail
     go_ret
     exact ⟨by rw [HBy.out]; rfl, hP1.pure hE⟩
section
open Go.ChangeShapes Go.WideShapes Go.ChangeAt
end
