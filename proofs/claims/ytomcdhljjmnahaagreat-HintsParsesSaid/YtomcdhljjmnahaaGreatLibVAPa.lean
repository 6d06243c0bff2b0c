import Derived.Test.YtomcdhljjmnahaaGreatLibBBPa
import Derived.Test.YtomcdhljjmnahaaGreatLibBAPa
import Derived.OwnWalk
import Derived.Deep.QuietTactic
import Derived.BigQuiet
import Derived.Lib.Bytealg
import Derived.Lib.IndexLaws
import Derived.Laws.Externs
import Derived.Laws.Strings
import Derived.Deep.RegionLaw
import Derived.Laws.Rows
import Derived.Laws.ResultCell
import Derived.Test.YtomcdhljjmnahaaGreatSqPa
set_option linter.unusedVariables false
set_option linter.unusedSimpArgs false
set_option maxRecDepth 100000
namespace Go.Proofs.YtomcdhljjmnahaaGreat.V11
open Go.RowKit
inductive V where
 | mk (kind n : Int) (s : ByteArray) (l : List V)
namespace V
def kind : V → Int | mk k _ _ _ => k
def n : V → Int | mk _ n _ _ => n
def s : V → ByteArray | mk _ _ s _ => s
def l : V → List V | mk _ _ _ l => l
end V
def Lies (W : World) : Nat → V → List Value → Prop
 | 0, _, _ => False
 | d + 1, v, cs => ∃ (a : Option Addr) (c : Nat) (rows : List (List Value)), cs = [.int .i64 v.kind, .int .i64 v.n, .string v.s, .slice a v.l.length c] ∧ rows.length = v.l.length ∧ (∀ r ∈ rows, r.length = 4) ∧ RowOf W a (rows.flatMap id) ∧ v.l.length ≤ c ∧ c ≤ maxLen ∧ (a = none → c = 0) ∧ (∀ (i : Nat) (u : V) (r : List Value), v.l[i]? = some u → rows[i]? = some r → Lies W d u r) ∧ v.s.size ≤ maxLen
theorem Lies.pure {W W' : World} (h : Pure W W') : ∀ {d : Nat} {v : V} {cs : List Value}, Lies W d v cs → Lies W' d v cs
 | 0, _, _, hl => hl
 | d + 1, v, cs, hl => by
   obtain ⟨a, c, rows, h1, h2, h3, h4, h5, h6, h7, h8, h9⟩ := hl
   exact ⟨a, c, rows, h1, h2, h3, h4.ext h (fun _ _ => id), h5, h6, h7, fun i u r hu hr => Lies.pure h (h8 i u r hu hr), h9⟩
theorem Lies.len {W : World} {d : Nat} {v : V} {cs : List Value} (h : Lies W d v cs) : cs.length = 4 := by
 cases d with
 | zero => exact h.elim
 | succ d => obtain ⟨a, c, rows, rfl, _⟩ := h; rfl
theorem Lies.more {W : World} : ∀ {d : Nat} {v : V} {cs : List Value}, Lies W d v cs → Lies W (d + 1) v cs
 | 0, _, _, h => h.elim
 | d + 1, v, cs, h => by
   obtain ⟨a, c, rows, h1, h2, h3, h4, h5, h6, h7, h8, h9⟩ := h
   exact ⟨a, c, rows, h1, h2, h3, h4, h5, h6, h7, fun i u r hu hr => (h8 i u r hu hr).more, h9⟩
theorem Lies.mono {W : World} {d d' : Nat} {v : V} {cs : List Value} (h : Lies W d v cs) (hd : d ≤ d') : Lies W d' v cs := by
 induction hd with
 | refl => exact h
 | step _ ih => exact ih.more
structure Kids (W : World) (d : Nat) (l : List V) (a : Option Addr) (rows : List (List Value)) : Prop where
 len : rows.length = l.length
 four : ∀ r ∈ rows, r.length = 4
 row : RowOf W a (rows.flatMap id)
 lies : ∀ (i : Nat) (u : V) (r : List Value), l[i]? = some u → rows[i]? = some r → Lies W d u r
theorem Kids.pure {W W' : World} {d : Nat} {l : List V} {a : Option Addr} {rows : List (List Value)} (h : Kids W d l a rows) (hP : Pure W W') : Kids W' d l a rows :=
 ⟨h.len, h.four, h.row.ext hP (fun _ _ => id), fun i u r hu hr => (h.lies i u r hu hr).pure hP⟩
theorem Kids.at {W : World} {d : Nat} {l : List V} {a : Option Addr} {rows : List (List Value)} (h : Kids W d l a rows) (k : Nat) (u : V) (hk : l[k]? = some u) :
 ∃ b o r, a = some ⟨b, o, none⟩ ∧ W.rangeAt b (o + k * 4) r ∧ r.length = 4 ∧ Lies W d u r := by
 obtain ⟨hkl, rfl⟩ := List.getElem?_eq_some_iff.1 hk
 have hkr : k < rows.length := by rw [h.len]; exact hkl
 have h4 := h.four _ (List.getElem_mem hkr)
 have hg : ∀ j, j < 4 → (rows.flatMap id)[k * 4 + j]? = rows[k][j]? := fun j hj => flat_get id rows (fun r hr => h.four r hr) k hkr j hj
 obtain ⟨b, o, ha, _⟩ := h.row (k * 4 + 0) _ ((hg 0 (by omega)).trans (List.getElem?_eq_getElem (by omega)))
 refine ⟨b, o, rows[k], ha, fun j v hv => ?_, h4, h.lies k _ _ hk (List.getElem?_eq_getElem hkr)⟩
 have hj : j < 4 := by have := (List.getElem?_eq_some_iff.1 hv).1; omega
 obtain ⟨b', o', ha', hc⟩ := h.row (k * 4 + j) v ((hg j hj).trans hv)
 rw [ha] at ha'
 cases ha'
 rw [Nat.add_assoc]; exact hc
theorem Lies.kids {W : World} {d : Nat} {v : V} {cs : List Value} (h : Lies W (d + 1) v cs) : ∃ a c rows, cs = [.int .i64 v.kind, .int .i64 v.n, .string v.s, .slice a v.l.length c] ∧ v.l.length ≤ c ∧ c ≤ maxLen ∧ (a = none → c = 0) ∧ Kids W d v.l a rows ∧ v.s.size ≤ maxLen := by
 obtain ⟨a, c, rows, h1, h2, h3, h4, h5, h6, h7, h8, h9⟩ := h
 exact ⟨a, c, rows, h1, h5, h6, h7, ⟨h2, h3, h4, h8⟩, h9⟩
mutual
def V.few : V → Int → Int
 | .mk _ _ _ l, left => fewL l (left - 1)
def fewL : List V → Int → Int
 | [], left => left
 | v :: l, left => if 0 ≤ left then fewL l (v.few left) else left
end
theorem few_eq (v : V) (left : Int) : v.few left = fewL v.l (left - 1) := by cases v; simp [V.few, V.l]
theorem fewL_neg {l : List V} {x : Int} (h : x < 0) : fewL l x = x := by
 cases l with
 | nil => simp [fewL]
 | cons v l => rw [fewL, if_neg (by omega)]
theorem fewL_snoc (l : List V) (v : V) (x : Int) : fewL (l ++ [v]) x = if 0 ≤ fewL l x then v.few (fewL l x) else fewL l x := by
 induction l generalizing x with
 | nil => rw [List.nil_append, fewL, fewL, fewL]
 | cons u l ih =>
   rw [List.cons_append, fewL, fewL]
   by_cases h : 0 ≤ x
   ·rw [if_pos h, if_pos h, ih]
   ·rw [if_neg h, if_neg h, if_neg h]
mutual
theorem V.few_low : ∀ (v : V) (x : Int), 0 ≤ x → -1 ≤ v.few x ∧ v.few x ≤ x
 | .mk _ _ _ l, x, h => by
   have := fewL_low l (x - 1) (by omega)
   simp only [V.few]; omega
theorem fewL_low : ∀ (l : List V) (x : Int), -1 ≤ x → -1 ≤ fewL l x ∧ fewL l x ≤ x
 | [], x, h => by simp [fewL]; omega
 | v :: l, x, h => by
   rw [fewL]
   by_cases h0 : 0 ≤ x
   ·rw [if_pos h0]
    have h1 := V.few_low v x h0
    have h2 := fewL_low l (v.few x) h1.1
    omega
   ·rw [if_neg h0]; omega
end
def IntTo (x : Int) (w : World) (e : Ending) (w' : World) : Prop := e = .returned (.int .i64 x) ∧ Pure w w'
set_option maxHeartbeats 1000000 in
theorem few_any : ∀ (d : Nat) (v : V) (cs : List Value) (x : Int) (w : World), Lies w d v cs → 0 ≤ x → x ≤ 1000 →
 Calls Tryz.prog 42 #[.agg cs.toArray, .int .i64 x] w (IntTo (v.few x) w)
 | 0, _, _, _, _, h, _, _ => h.elim
 | d + 1, v, cs, x, w, h, hx0, hx1 => by
   have IH := few_any d
   obtain ⟨a, c, rows, rfl, hlc, hcm, hnil, hK, hs⟩ := h.kids
   obtain ⟨B, hB⟩ : ∃ B, B = v.few x := ⟨_, rfl⟩
   rw [← hB]
   rw [few_eq] at hB
   obtain ⟨n, hn⟩ : ∃ n, n = v.l.length := ⟨_, rfl⟩
   obtain ⟨l, hl⟩ : ∃ l, l = v.l := ⟨_, rfl⟩
   rw [← hl] at hB hn hK
   rw [← hl, ← hn]
   rw [← hl, ← hn] at hlc
   have HB := qh hB
   have HN := qh hn
   have HI := qh IH
   unfold maxLen at hcm
   clear h hB hn hl IH
   generalize v.kind = vk
   generalize v.n = vn
   generalize v.s = vs at *
   obtain ⟨w1, hw1⟩ : ∃ w1, w1 = w.alloc (.cells #[.int .i64 vk, .int .i64 vn, .string vs, .slice a n c] 30) := ⟨_, rfl⟩
   have hBx : BlockIs w1 w.heap.size [.int .i64 vk, .int .i64 vn, .string vs, .slice a n c] 30 := hw1 ▸ BlockIs.new w _ _
   have hP1 : Pure w w1 := hw1 ▸ ext_alloc w _
   obtain ⟨tb, htb⟩ : ∃ tb, tb = w.heap.size := ⟨_, rfl⟩
   rw [← htb] at hBx
   have HW1 := qh hw1
   have HTb := qh htb
   clear hw1 htb
   go_enter Tryz.func42, Tryz.ntmps42
   go_wp2_with fail
   rw [← HW1.out, ← HTb.out]
   go_loopw [1, 5] (fun y i W => ∃ k : Nat, k ≤ n ∧ i = .int .i64 k ∧ y = .int .i64 (fewL (l.take k) (x - 1)) ∧ Pure w1 W) (fun _ i _ => n - (intOf i).toNat)
   case atStart => exact ⟨0, Nat.zero_le _, rfl, by rw [List.take_zero, fewL], Ext.refl _ _⟩
   case round =>
    obtain ⟨k, hk, rfl, rfl, hE⟩ := hrel
    have hBk := hBx.ext hE id
    have c3 : wr.cell? ⟨tb, 3, none⟩ = some (.slice a n c) := hBk.cell 3
    obtain ⟨y, hy⟩ : ∃ y, y = fewL (l.take k) (x - 1) := ⟨_, rfl⟩
    have hyl := fewL_low (l.take k) (x - 1) (by omega)
    rw [← hy] at hyl ⊢
    have HY := qh hy
    have hy1 : -1 ≤ y := hyl.1
    have hy2 : y ≤ 1000 := by omega
    clear hy hyl
    by_cases hlt : k < n
    ·have hki : (k : Int) < (n : Int) := by omega
     by_cases h0 : 0 ≤ y
     ·obtain ⟨u, hu⟩ : ∃ u, l[k]? = some u := ⟨_, List.getElem?_eq_getElem (by rw [← HN.out]; exact hlt)⟩
      obtain ⟨b, o, r, rfl, hr, hr4, hL⟩ := (hK.pure (hP1.pure hE)).at k u hu
      have HSu : Hid (fewL (l.take (k + 1)) (x - 1) = u.few y) := qh (by
       obtain ⟨hkl, rfl⟩ := List.getElem?_eq_some_iff.1 hu
       rw [List.take_succ_eq_append_getElem hkl, fewL_snoc, ← HY.out, if_pos h0])
      have HC := qh (HI.out u r y wr hL h0 hy2)
      have hlo := V.few_low u y h0
      clear hu hL
      go_wp2_with (refine wpList_load_mid rfl 30 (.tmp 22) rfl b (o + k * 4) rfl r _ hr Tryz.underlying30 rfl (by rw [hr4]; kernel_rfl) ?_)
      refine HC.out.mono ?_
      rintro e w2 ⟨rfl, hP2⟩
      go_wp2_with fail
      go_roundw
      case rel => exact ⟨k + 1, by omega, by go_num, by rw [HSu.out], hE.pure hP2⟩
      case measure => simp [intOf]; omega
     ·have HBy : Hid (B = y) := qh (by
       obtain rfl : y = -1 := by omega
       rw [HB.out, ← List.take_append_drop k l]
       have : ∀ (p q : List V) (z : Int), fewL p z < 0 → fewL (p ++ q) z = fewL p z := by
        intro p
        induction p with
        | nil => intro q z hz; rw [List.nil_append]; rw [fewL] at hz ⊢; exact fewL_neg hz
        | cons v p ih =>
          intro q z hz
          rw [List.cons_append, fewL, fewL]
          rw [fewL] at hz
          split at hz
          ·next h => rw [if_pos h, if_pos h]; exact ih q _ hz
          ·next h => rw [if_neg h, if_neg h]
       rw [this _ _ _ (by rw [← HY.out]; decide), ← HY.out])
      go_wp2_with fail
      go_ret
      exact ⟨by rw [HBy.out]; rfl, hP1.pure hE⟩
    ·have hki : ¬ (k : Int) < (n : Int) := by omega
     have HBy : Hid (B = y) := qh (by rw [HB.out, HY.out, List.take_of_length_le (by rw [← HN.out]; omega)])
     go_wp2_with fail
     go_ret
     exact ⟨by rw [HBy.out]; rfl, hP1.pure hE⟩
section
open Go.ChangeShapes Go.WideShapes Go.ChangeAt
theorem open_lies {H : Type} {enc : TypeId × Value → H} {W : World} {held : Bool} : ∀ (F : Nat) (cs : List Value) (y : DataW H × List MemPlace), DataW.trod enc Tryz.prog W 0 (fun _ => true) held F 30 cs = some y → cs.length = 4 → ∃ v, Lies W F v cs := by
 intro F
 induction F using Nat.strongRecOn with
 | ind F ih =>
   intro cs y hy hlen
   have s4 : Tryz.prog.cellsOf 30 = 4 := by kernel_rfl
   have s0 : Tryz.prog.cellsOf 3 = 1 := by kernel_rfl
   have s1 : Tryz.prog.cellsOf 9 = 1 := by kernel_rfl
   have s2 : Tryz.prog.cellsOf 28 = 1 := by kernel_rfl
   match cs, hlen with
   | [c0, c1, c2, c3], _ =>
     obtain ⟨xs, n, hF, hx, _, hl4, hfs⟩ := DataW.trod_struct Tryz.underlying30 hy
     have h0 : DataW.trod enc Tryz.prog W 0 (fun _ => true) held n 3 (([c0, c1, c2, c3].drop 0).take (Tryz.prog.cellsOf 3)) = xs[0]? := hfs 0 _ rfl
     have h1 : DataW.trod enc Tryz.prog W 0 (fun _ => true) held n 3 (([c0, c1, c2, c3].drop 1).take (Tryz.prog.cellsOf 3)) = xs[1]? := hfs 1 _ rfl
     have h2 : DataW.trod enc Tryz.prog W 0 (fun _ => true) held n 9 (([c0, c1, c2, c3].drop 2).take (Tryz.prog.cellsOf 9)) = xs[2]? := hfs 2 _ rfl
     have h3 : DataW.trod enc Tryz.prog W 0 (fun _ => true) held n 28 (([c0, c1, c2, c3].drop 3).take (Tryz.prog.cellsOf 28)) = xs[3]? := hfs 3 _ rfl
     rw [s0] at h0 h1
     rw [s1] at h2
     rw [s2] at h3
     simp only [List.drop, List.take] at h0 h1 h2 h3
     match xs, hl4 with
     | [y0, y1, y2, y3], _ =>
       simp only [List.getElem?_cons_zero, List.getElem?_cons_succ] at h0 h1 h2 h3
       obtain ⟨k, e0, _, _⟩ := DataW.trod_int Tryz.underlying3 h0
       obtain ⟨m, e1, _, _⟩ := DataW.trod_int Tryz.underlying3 h1
       obtain ⟨s, e2, _, hs⟩ := DataW.trod_string Tryz.underlying9 h2
       cases e0
       cases e1
       cases e2
       obtain ⟨a, c, rows, hcs, hl, hm, hn, hq, hrow⟩ := open_rows2 (size := 4) (Q := fun cs (u : V) => Lies W n u cs) Tryz.underlying28 s4 (by decide) (fun n' cs y hn' hy hlen => by
        obtain ⟨u, hu⟩ := ih n' (by omega) cs y hy hlen
        exact ⟨u, hu.mono (by omega)⟩) h3
       cases hcs
       subst hF
       refine ⟨.mk k m s (rows.map (·.2)), a, c, rows.map (·.1), by simp [V.kind, V.n, V.s, V.l], by simp [V.l], ?_, ?_, by simpa [V.l] using hl, hm, hn, ?_, hs⟩
       ·intro r hr
        obtain ⟨q, hq', rfl⟩ := List.mem_map.1 hr
        exact (hq q hq').1
       ·rw [List.flatMap_map]; exact hrow
       ·intro i u r hu hr
        simp only [V.l, List.getElem?_map, Option.map_eq_some_iff] at hu hr
        obtain ⟨q, h1, rfl⟩ := hu
        obtain ⟨q', h2, rfl⟩ := hr
        rw [h1] at h2
        cases h2
        exact (hq q (List.mem_of_getElem? h1)).2
end
end Go.Proofs.YtomcdhljjmnahaaGreat.V11
namespace Go.Proofs.YtomcdhljjmnahaaGreat.V11
open Go.RowKit
def BoolTo (x : Bool) (w : World) (e : Ending) (w' : World) : Prop := e = .returned (.bool x) ∧ Pure w w'
theorem Lies.one {W : World} {d : Nat} {v : V} {cs : List Value} (h : Lies W d v cs) : cs.toArray.all (fun u => u.oneCell') = true := by
 cases d with
 | zero => exact h.elim
 | succ d =>
   obtain ⟨a, c, rows, rfl, _⟩ := h
   exact all_oneCell_toArray (by intro u hu; simp only [List.mem_cons, List.not_mem_nil, or_false] at hu; rcases hu with rfl | rfl | rfl | rfl <;> rfl)
def zeroCs : List Value := [.int .i64 0, .int .i64 0, .string ⟨#[]⟩, .slice none 0 0]
theorem Kids.cells {W : World} {d : Nat} {l : List V} {a : Option Addr} {rows : List (List Value)} (h : Kids W d l a rows) (k : Nat) (u : V) (hk : l[k]? = some u) :
 ∃ b o a' c', a = some ⟨b, o, none⟩ ∧ W.cell? ⟨b, o + k * 4, none⟩ = some (.int .i64 u.kind) ∧ W.cell? ⟨b, o + k * 4 + 1, none⟩ = some (.int .i64 u.n) ∧ W.cell? ⟨b, o + k * 4 + 2, none⟩ = some (.string u.s) ∧ W.cell? ⟨b, o + k * 4 + 3, none⟩ = some (.slice a' u.l.length c') := by
 obtain ⟨b, o, r, ha, hr, _, hL⟩ := h.at k u hk
 cases d with
 | zero => exact hL.elim
 | succ d =>
   obtain ⟨a', c', _, rfl, _⟩ := hL.kids
   exact ⟨b, o, a', c', ha, hr 0 _ rfl, hr 1 _ rfl, hr 2 _ rfl, hr 3 _ rfl⟩
theorem bl_total : ∀ x y : List UInt8, (Op.bytesLess y x || y == x) = !Op.bytesLess x y
 | [], [] => by simp [Op.bytesLess]
 | [], b :: y => by simp [Op.bytesLess]
 | a :: x, [] => by simp [Op.bytesLess]
 | a :: x, b :: y => by
   have ih := bl_total x y
   simp only [Op.bytesLess]
   by_cases h1 : a < b
   ·have h2 : ¬ b < a := by simp only [UInt8.lt_iff_toNat_lt] at *; omega
    have h3 : ¬ b = a := fun e => by subst e; simp only [UInt8.lt_iff_toNat_lt] at h1; omega
    simp [h1, h2, h3]
   ·by_cases h2 : a = b
    ·subst h2
     simp only [UInt8.lt_irrefl, decide_false, Bool.false_or, beq_self_eq_true, Bool.true_and, ← ih]
     simp
    ·have h3 : b < a := by
      simp only [UInt8.lt_iff_toNat_lt] at *
      have : a.toNat ≠ b.toNat := fun e => h2 (UInt8.toNat_inj.1 e)
      omega
     simp [h1, h2, h3]
theorem info24 : (Tryz.prog.info? 30).map (fun i => (i.zero, i.size, i.bytes)) = some (some (.agg #[.int .i64 0, .int .i64 0, .string ⟨#[]⟩, .slice none 0 0]), 4, 56) := by kernel_rfl
def OwnTo (B n : Nat) (xs : List Value) (T : Nat → Prop) (w : World) (e : Ending) (w' : World) : Prop :=
 ∃ (a : Option Addr) (c : Nat), e = .returned (.slice a n c) ∧ w'.ownsRow B 30 4 (.slice a n c) n xs ∧ Ext T w w'
set_option maxHeartbeats 1000000 in
theorem clone_any (a : Option Addr) (n c : Nat) (cs : List Value) (w : World) (hl : cs.length = n * 4) (hr : RowOf w a cs) (hnil : a = none → n = 0 ∧ c = 0) (hn : n ≤ 100000) (h1 : ∀ u ∈ cs, u.oneCell' = true) :
 Calls Tryz.prog 104 #[.slice a n c] w (OwnTo w.heap.size n cs (fun _ => False) w) := by
 have he := eql_nil Tryz.underlying28
 cases a with
 | none =>
   obtain ⟨rfl, rfl⟩ := hnil rfl
   obtain rfl : cs = [] := by simpa using hl
   go_enter Tryz.func104, Tryz.ntmps104
   go_wp2_with fail
   go_ret
   exact ⟨none, 0, rfl, ⟨rfl, Or.inl ⟨rfl, rfl⟩⟩, Ext.refl _ _⟩
 | some ad =>
   have HR := qh hr
   have HL := qh hl
   have H1 := qh h1
   clear hr hl h1 hnil
   go_enter Tryz.func104, Tryz.ntmps104
   go_wp2_with (at_builtin; refine wpList_append_any rfl (.tmp 5) (.tmp 6) 28 rfl w.heap.size 30 (.agg #[.int .i64 0, .int .i64 0, .string ⟨#[]⟩, .slice none 0 0]) 4 56 Tryz.underlying28 info24 rfl (by decide) (.slice (some ⟨w.heap.size, 0, none⟩) 0 0) 0 [] rfl (own_new (cs := []) rfl (Nat.zero_le _) _ (Nat.le_refl _)) (some ad) n c cs rfl (fun e => by cases e) HL.out (HR.out.ext (ext_alloc w _) (fun _ _ => id)) H1.out n (Nat.zero_add n) cs rfl (by omega) (by unfold maxLen; omega) (ext_alloc w _).size ?_)
   intro a' c' w' hO hg
   have hE : Ext (fun _ => False) w w' := (ext_alloc w (.cells #[] 30)).trans (ext_of_grown hg) (fun i hi e => by cases e; exact absurd hi (Nat.lt_irrefl _))
   have HO := qh hO
   clear hO hg
   go_wp2_with fail
   go_ret
   exact ⟨a', c', rfl, HO.out, hE⟩
theorem own_cut {w : World} {B e n c : Nat} {a : Option Addr} {xs : List Value} (h : w.ownsRow B e 4 (.slice a n c) n xs) (i : Nat) (hi : i ≤ n) (ha : a ≠ none) : w.ownsRow B e 4 (.slice a i c) i (xs.take (i * 4)) := by
 refine ⟨by rw [List.length_take, h.1]; omega, ?_⟩
 rcases h.2 with ⟨hv, rfl⟩ | ⟨g, cap, cur, hv, hg, hh, h1, h2, h3, h4⟩
 ·cases hv; exact absurd rfl ha
 ·cases hv
  exact Or.inr ⟨g, c, cur, rfl, hg, hh, by omega, h2, h3, by rw [← h4, List.take_take, Nat.min_eq_left (by omega)]⟩
set_option maxHeartbeats 2000000 in
theorem insert_end (B : Nat) (a : Option Addr) (n c : Nat) (xs : List Value) (vb m : Nat) (news : List Value) (w : World) (hO : w.ownsRow B 30 4 (.slice a n c) n xs) (hV : BlockIs w vb news 30) (hnl : news.length = m * 4) (hm : 0 < m) (hm2 : m ≤ 2) (hn : n ≤ 100000) (hB : B ≤ w.heap.size) (h1 : ∀ u ∈ news, u.oneCell' = true) :
 Calls Tryz.prog 106 #[.slice a n c, .int .i64 n, .slice (some ⟨vb, 0, none⟩) m m] w (OwnTo B (n + m) (xs ++ news) (fun k => (Value.slice a n c).ownBlock = some k) w) := by
 obtain ⟨a0, c0, he, hnc, hcm, hnil, _⟩ := own_form hO
 cases he
 have HO := qh hO
 have hR : RowOf w (some ⟨vb, 0, none⟩) news := fun i u hu => ⟨vb, 0, rfl, by rw [Nat.zero_add, hV.cell, hu]⟩
 have HR := qh hR
 have HL := qh hnl
 have H1 := qh h1
 have hm0 : ¬ (m : Int) = 0 := by omega
 have hm0' : ((m : Int) == 0) = false := by simp; omega
 unfold maxLen at hcm
 clear hO hV hR hnl h1
 have hin : (n : Int) ≤ n := Int.le_refl _
 go_enter Tryz.func106, Tryz.ntmps106
 go_wp2_with (at_builtin; refine wpList_append_any rfl (.tmp 23) (.tmp 24) 28 rfl B 30 (.agg #[.int .i64 0, .int .i64 0, .string ⟨#[]⟩, .slice none 0 0]) 4 56 Tryz.underlying28 info24 rfl (by decide) _ n xs rfl HO.out (some ⟨vb, 0, none⟩) m m news rfl (fun e => by cases e) HL.out HR.out H1.out (n + m) rfl (xs ++ news) rfl (by omega) (by unfold maxLen; omega) hB ?_)
 all_goals
  intro a' c' w' hO' hg
  have hE := qh (ext_of_grown hg)
  have HO' := qh hO'
  clear hO' hg
  go_wp2_with fail
  go_ret
  exact ⟨a', c', rfl, HO'.out, by first | exact hE.out | (cases a <;> exact hE.out)⟩
theorem take3 {α : Type} {A N D R : List α} {k : Nat} (h : A.length + N.length + D.length = k) : (A ++ (N ++ (D ++ R))).take k = A ++ (N ++ D) := by
 have e : A ++ (N ++ (D ++ R)) = (A ++ (N ++ D)) ++ R := by simp
 rw [e, List.take_left' (by simp; omega)]
theorem splice_ins {α : Type} {cur xs news : List α} {n i m : Nat} (hx : cur.take (n * 4) = xs) (hi : i ≤ n) (hnl : news.length = m * 4) (hl : (n + m) * 4 ≤ cur.length) :
 (splice (splice cur ((i + m) * 4) (xs.drop (i * 4))) (i * 4) news).take ((n + m) * 4) = xs.take (i * 4) ++ (news ++ xs.drop (i * 4)) := by
 have hxl : xs.length = n * 4 := by rw [← hx, List.length_take]; omega
 have hd : (xs.drop (i * 4)).length = (n - i) * 4 := by rw [List.length_drop, hxl]; omega
 have e1 : (splice cur ((i + m) * 4) (xs.drop (i * 4))).take (i * 4) = xs.take (i * 4) := by
  rw [splice, List.take_append_of_le_length (by rw [List.length_take]; omega), List.take_take, ← hx, List.take_take, Nat.min_eq_left (by omega), Nat.min_eq_left (by omega)]
 have e2 : (splice cur ((i + m) * 4) (xs.drop (i * 4))).drop (i * 4 + news.length) = xs.drop (i * 4) ++ cur.drop ((i + m) * 4 + (xs.drop (i * 4)).length) := by
  rw [splice, List.drop_left' (by rw [List.length_take]; omega)]
 generalize splice cur ((i + m) * 4) (xs.drop (i * 4)) = L at *
 rw [splice, e1, e2, take3]
 rw [hd, hnl, List.length_take]; omega
theorem splice_ins2 {α : Type} {xs rest news : List α} {n i m : Nat} (hxl : xs.length = n * 4) (hi : i ≤ n) (hnl : news.length = m * 4) (hl : (n + m) * 4 ≤ (xs.take (i * 4) ++ rest).length) :
 (splice (splice (xs.take (i * 4) ++ rest) (i * 4) news) ((i + m) * 4) (xs.drop (i * 4))).take ((n + m) * 4) = xs.take (i * 4) ++ (news ++ xs.drop (i * 4)) := by
 have hd : (xs.drop (i * 4)).length = (n - i) * 4 := by rw [List.length_drop, hxl]; omega
 have ht : (xs.take (i * 4)).length = i * 4 := by rw [List.length_take]; omega
 have e1 : (splice (xs.take (i * 4) ++ rest) (i * 4) news).take ((i + m) * 4) = xs.take (i * 4) ++ news := by
  rw [splice, List.take_left' ht, ← List.append_assoc, List.take_left' (by simp only [List.length_append, ht, hnl]; omega)]
 generalize splice (xs.take (i * 4) ++ rest) (i * 4) news = L at *
 rw [splice, e1, List.append_assoc, take3]
 rw [hd, hnl, ht]; omega
theorem run59 {w : World} (a b : Addr) (la ca lb cb : Nat) (hne : a.block ≠ b.block) {tA tB : TypeId} {curA curB : List Value} (hA : BlockIs w a.block curA tA) (hB : BlockIs w b.block curB tB) (hkB : curB.length ≠ 0) (has : a.spot = none) :
 (callFunc 131 #[.slice (some a) la ca, .slice (some b) lb cb]).run Tryz.prog w = .ok (.value (.bool false)) w := by
 rw [run_callFunc_extern Tryz.func131 (by kernel_rfl) (by kernel_rfl) (by kernel_rfl) (e := Extern.SlicesOverlaps.overlaps #[28, 28] #[4]) (by kernel_rfl),
  run_overlaps_rows Tryz.underlying28 4 (fun w => by kernel_rfl) a b la ca lb cb hne hA hB hkB has]
 rfl
set_option maxHeartbeats 2000000 in
theorem insert_room (B g n c i : Nat) (cur : List Value) (vb m : Nat) (news : List Value) (w : World) (hG : BlockIs w g cur 30) (hcl : cur.length = c * 4) (hnc : n + m ≤ c) (hcm : c ≤ maxLen) (hV : BlockIs w vb news 30) (hne : vb ≠ g) (hnl : news.length = m * 4) (hm : 0 < m) (hm2 : m ≤ 2) (hn : n ≤ 100000) (hi : i < n) (hB : B ≤ g) (h1 : ∀ u ∈ news, u.oneCell' = true) (h2 : ∀ u ∈ cur.take (n * 4), u.oneCell' = true) :
 Calls Tryz.prog 106 #[.slice (some ⟨g, 0, none⟩) n c, .int .i64 i, .slice (some ⟨vb, 0, none⟩) m m] w (OwnTo B (n + m) ((cur.take (n * 4)).take (i * 4) ++ (news ++ (cur.take (n * 4)).drop (i * 4))) (fun k => k = g) w) := by
 obtain ⟨xs, hx⟩ : ∃ xs, xs = cur.take (n * 4) := ⟨_, rfl⟩
 rw [← hx] at h2 ⊢
 have hxl : xs.length = n * 4 := by rw [hx, List.length_take]; omega
 have hsp := splice_ins (cur := cur) (n := n) (i := i) (m := m) hx.symm (by omega) hnl (by omega)
 have h59 := fun (lb cb : Nat) => run59 (w := w) ⟨vb, 0, none⟩ ⟨g, (i + m) * 4, none⟩ m m lb cb hne hV hG (by omega) rfl
 have hdl : (xs.drop (i * 4)).length = (n - i) * 4 := by rw [List.length_drop, hxl]; omega
 have hw1 : IntKind.i64.wrap ((i : Int) + (m : Int)) = (i : Int) + (m : Int) := by rw [IntKind.wrap_i64]; omega
 have hb1 : (0 : Int) ≤ (i : Int) + (m : Int) := by omega
 have htn : ((i : Int) + (m : Int)).toNat = i + m := by omega
 have hb2 : ¬ (c = i + m) := by omega
 have hb3 : (i : Int) ≤ (n : Int) + (m : Int) := by omega
 have hb4 : ¬ (c = i) := by omega
 have hz1 : ¬ ((m : Int) = 0) := by omega
 have hz2 : ¬ ((i : Int) = (n : Int)) := by omega
 have hin : i ≤ n := by omega
 have hR : RowOf w (some ⟨vb, 0, none⟩) news := fun i u hu => ⟨vb, 0, rfl, by rw [Nat.zero_add, hV.cell, hu]⟩
 have HA1 : Hid ((xs.drop (i * 4)).length = Nat.min (n + m - i) (n + m - (i + m)) * 4) := qh (by rw [hdl]; simp only [Nat.min_def]; split <;> omega)
 have HA2 : Hid (RowOf w.drew (some ⟨g, i * 4, none⟩) (xs.drop (i * 4))) := qh (fun j u hu => ⟨g, i * 4, rfl, by
  rw [hG.drew.cell]
  rw [List.getElem?_drop, hx, List.getElem?_take] at hu
  split at hu
  ·exact hu
  ·cases hu⟩)
 have HA3 : Hid ((i + m) * 4 + (xs.drop (i * 4)).length ≤ cur.length) := qh (by rw [hdl]; omega)
 have HA4 : Hid (∀ v ∈ xs.drop (i * 4), v.oneCell' = true) := qh (fun v hv => h2 v (List.mem_of_mem_drop hv))
 have HL1 : Hid ((splice cur ((i + m) * 4) (xs.drop (i * 4))).length = cur.length) := qh (length_splice _ _ _ HA3.out)
 have HB1 : Hid (news.length = Nat.min m (n + m - i) * 4) := qh (by rw [hnl]; simp only [Nat.min_def]; split <;> omega)
 have HB4 := qh h1
 have HX := qh hx
 have HNL := qh hnl
 have HXL := qh hxl
 have HCL := qh hcl
 have HSP := qh hsp
 unfold maxLen at hcm
 clear h1 h2 hx hnl hxl hcl hsp hdl
 go_enter Tryz.func106, Tryz.ntmps106
 go_wp2_with (simp only [h59])
 refine region_start (fun k => k = g) (by kernel_rfl) ?_
 try simp only [Act.put, sA, sZ, sS]
 refine region_take 0 69 (v := ?vca0) rfl rfl (by kernel_rfl) (by kernel_rfl) (by kernel_rfl) (fun _ _ _ h => h) (by rfl) (fun w' hS => ?hca0) ?rca0
 case hca0 => go_simp; with_reducible rfl
 try simp only [Act.put, sA, sZ, sS]
 refine region_take 1 70 (v := ?vca1) rfl rfl (by kernel_rfl) (by kernel_rfl) (by kernel_rfl) (fun _ _ _ h => h) (by rfl) (fun w' hS => ?hca1) ?rca1
 case hca1 => go_simp; with_reducible rfl
 try simp only [Act.put, sA, sZ, sS]
 refine region_take 2 71 (v := ?vca2) rfl rfl (by kernel_rfl) (by kernel_rfl) (by kernel_rfl) (fun _ _ _ h => h) (by rfl) (fun w' hS => ?hca2) ?rca2
 case hca2 => go_simp; with_reducible rfl
 try simp only [Act.put, sA, sZ, sS]
 refine region_take 3 72 (v := ?vca3) rfl rfl (by kernel_rfl) (by kernel_rfl) (by kernel_rfl) (fun _ _ _ h => h) (by rfl) (fun w' hS => ?hca3) ?rca3
 case hca3 => go_simp; with_reducible rfl
 try simp only [Act.put, sA, sZ, sS]
 refine region_take 4 73 (v := ?vca4) rfl rfl (by kernel_rfl) (by kernel_rfl) (by kernel_rfl) (fun _ _ _ h => h) (by rfl) (fun w' hS => ?hca4) ?rca4
 case hca4 => go_simp; with_reducible rfl
 try simp only [Act.put, sA, sZ, sS]
 refine region_take 5 74 (v := ?vca5) rfl rfl (by kernel_rfl) (by kernel_rfl) (by kernel_rfl) (fun _ _ _ h => h) (by rfl) (fun w' hS => ?hca5) ?rca5
 case hca5 => go_simp; with_reducible rfl
 try simp only [Act.put, sA, sZ, sS]
 refine region_take 6 75 (v := ?vca6) rfl rfl (by kernel_rfl) (by kernel_rfl) (by kernel_rfl) (fun _ _ _ h => h) (by rfl) (fun w' hS => ?hca6) ?rca6
 case hca6 => go_simp; with_reducible rfl
 try simp only [Act.put, sA, sZ, sS]
 refine region_take 7 76 (v := ?vca7) rfl rfl (by kernel_rfl) (by kernel_rfl) (by kernel_rfl) (fun _ _ _ h => h) (by rfl) (fun w' hS => ?hca7) ?rca7
 case hca7 => go_simp; with_reducible rfl
 try simp only [Act.put, sA, sZ, sS]
 refine wpAnyH_ready (rs := [8]) (by kernel_rfl) (by simp) (AllReadyH.cons rfl (fun K hK => ?_) AllReadyH.nil)
 refine step_copy_big rfl (.tmp 73) (.tmp 76) 28 28 rfl 30 4 Tryz.underlying28 (by kernel_rfl) (some ⟨g, (i + m) * 4, none⟩) (some ⟨g, i * 4, none⟩) (n + m - (i + m)) (c - (i + m)) (n + m - i) (c - i) rfl rfl g ((i + m) * 4) cur 30 hG.drew (xs.drop (i * 4)) HA1.out (fun _ => ⟨rfl, HA2.out⟩) HA3.out HA4.out ?_
 intro w2 hG2 hE2
 refine hK.out _ _ (hE2) (fun hHeld => ?_)
 clear hK K hHeld
 refine region_now (hE2) ?_
 try simp only [Act.put, sA, sZ, sS]
 refine wpAnyH_done (by kernel_rfl) ?_ _
 obtain ⟨L1, hL1⟩ : ∃ L1, L1 = splice cur ((i + m) * 4) (xs.drop (i * 4)) := ⟨_, rfl⟩
 rw [← hL1] at HL1 HSP hG2
 have hR2 : RowOf w2 (some ⟨vb, 0, none⟩) news := (show RowOf w.drew _ _ from hR).ext hE2 (fun a ha e => by cases ha; exact hne e)
 have HR2 := qh hR2
 have HE2 : Hid (Ext (fun k => k = g) w w2) := qh ((Ext.refl _ w).drew.trans hE2 (fun _ _ e => e))
 clear hL1 hR hR2 h59 hV hG HA1 HA2 HA3 HA4
 go_wp2_with (refine wpList_copy_big rfl (.tmp 80) (.tmp 81) 28 28 rfl 30 4 Tryz.underlying28 (by kernel_rfl) (some ⟨g, i * 4, none⟩) (some ⟨vb, 0, none⟩) (n + m - i) (c - i) m m rfl rfl g (i * 4) L1 30 hG2 news HB1.out (fun _ => ⟨rfl, HR2.out⟩) (by rw [HL1.out, HCL.out, HNL.out]; omega) HB4.out ?_; intro w3 hG3 hE3)
 have HG3 := qh hG3
 have HE3 := qh hE3
 clear hG3 hE3 hG2 hE2
 go_wp2_with fail
 go_ret
 refine ⟨some ⟨g, 0, none⟩, c, rfl, ⟨?_, Or.inr ⟨g, c, _, rfl, hB, HG3.out, hnc, by unfold maxLen; omega, ?_, by simpa using HSP.out⟩⟩, HE2.out.trans HE3.out (fun _ _ e => e)⟩
 ·simp only [List.length_append, List.length_take, List.length_drop, HNL.out, HXL.out]; omega
 ·have := length_splice L1 (i * 4) news (by rw [HL1.out, HCL.out, HNL.out]; omega)
  simp only [List.size_toArray, this, HL1.out, HCL.out]
set_option maxHeartbeats 2000000 in
theorem insert_grow (B g n c i : Nat) (xs : List Value) (vb m : Nat) (news : List Value) (w : World) (hG : RowOf w (some ⟨g, 0, none⟩) xs) (hxl : xs.length = n * 4) (hnc : n ≤ c) (hroom : c < n + m) (hV : BlockIs w vb news 30) (hnl : news.length = m * 4) (hm : 0 < m) (hm2 : m ≤ 2) (hn : n ≤ 100000) (hi : i < n) (hB : B ≤ w.heap.size) (h1 : ∀ u ∈ news, u.oneCell' = true) (h2 : ∀ u ∈ xs, u.oneCell' = true) :
 Calls Tryz.prog 106 #[.slice (some ⟨g, 0, none⟩) n c, .int .i64 i, .slice (some ⟨vb, 0, none⟩) m m] w (OwnTo B (n + m) (xs.take (i * 4) ++ (news ++ xs.drop (i * 4))) (fun k => False) w) := by
 have hdl : (xs.drop (i * 4)).length = (n - i) * 4 := by rw [List.length_drop, hxl]; omega
 have htl : (xs.take (i * 4)).length = i * 4 := by rw [List.length_take, hxl]; omega
 have hsub : IntKind.i64.wrap ((n : Int) + (m : Int) - (i : Int)) = ((n + m - i : Nat) : Int) := by rw [IntKind.wrap_i64]; omega
 have hw1 : IntKind.i64.wrap ((i : Int) + (m : Int)) = (i : Int) + (m : Int) := by rw [IntKind.wrap_i64]; omega
 have hb1 : (0 : Int) ≤ (i : Int) + (m : Int) := by omega
 have htn : ((i : Int) + (m : Int)).toNat = i + m := by omega
 have hb4 : ¬ (c = i) := by omega
 have hz1 : ¬ ((m : Int) = 0) := by omega
 have hz2 : ¬ ((i : Int) = (n : Int)) := by omega
 have hz3 : (c : Int) < (n : Int) + (m : Int) := by omega
 have hin : i ≤ n := by omega
 have hR : RowOf w (some ⟨vb, 0, none⟩) news := fun i u hu => ⟨vb, 0, rfl, by rw [Nat.zero_add, hV.cell, hu]⟩
 have HT : Hid (RowOf w (some ⟨g, 0, none⟩) (xs.take (i * 4))) := qh (row_take hG _)
 have HD : Hid (RowOf w (some ⟨g, i * 4, none⟩) (xs.drop (i * 4))) := qh (by simpa [addr_add] using row_drop hG (i * 4))
 have HR := qh hR
 have HDL := qh hdl
 have HTL := qh htl
 have HXL := qh hxl
 have HNL := qh hnl
 have H1 := qh h1
 have H2 := qh h2
 have HVB := qh hV.lt
 clear hR hdl htl hxl hnl h1 h2 hG hV
 go_enter Tryz.func106, Tryz.ntmps106
 go_wp2_with (first
  | (at_builtin
     refine wpList_append_make rfl (.tmp 34) (.tmp 39) 28 3 rfl 30 Tryz.underlying28 Tryz.underlying3 (.agg #[.int .i64 0, .int .i64 0, .string ⟨#[]⟩, .slice none 0 0]) 4 56 info24 rfl (by decide) (some ⟨g, 0, none⟩) i c (n + m - i) (xs.take (i * 4)) rfl (by simp [go_sem, hsub]) HTL.out (fun _ => HT.out) (fun e => by cases e) (by omega) (by omega) (by omega) (by unfold maxLen; omega) ?_
     intro w2 G rest hG2 hGl hGn hGm hE2
     have hre : i + (n + m - i) = n + m := by omega
     rw [hre] at hGn ⊢
     obtain ⟨C0, hC0⟩ : ∃ C0, C0 = xs.take (i * 4) ++ rest := ⟨_, rfl⟩
     have hCl : C0.length = G * 4 := by rw [hC0, List.length_append]; omega
     have hsp := splice_ins2 (xs := xs) (rest := rest) (n := n) (i := i) (m := m) HXL.out (by omega) HNL.out (by rw [← hC0, hCl]; omega)
     rw [← hC0] at hG2 hsp
     have hb5 : ¬ (G = i) := by omega
     have hb6 : ¬ (G = i + m) := by omega
     have hb7 : (i : Int) ≤ (n : Int) + (m : Int) := by omega
     have hR2 : RowOf w2 (some ⟨vb, 0, none⟩) news := HR.out.ext hE2 (fun _ _ => id)
     have HR2 := qh hR2
     have HB1 : Hid (news.length = Nat.min m (n + m - i) * 4) := qh (by rw [HNL.out]; simp only [Nat.min_def]; split <;> omega)
     have HCl := qh hCl
     have HSP := qh hsp
     have HE2 := qh hE2
     obtain ⟨H, hH⟩ : ∃ H, H = w.heap.size := ⟨_, rfl⟩
     rw [← hH] at hG2 ⊢
     have HH := qh hH
     clear hC0 hCl hsp hR2 hre hH hGl)
  | (refine wpList_copy_big rfl (.tmp 43) (.tmp 44) 28 28 rfl 30 4 Tryz.underlying28 (by kernel_rfl) (some ⟨H, i * 4, none⟩) (some ⟨vb, 0, none⟩) (n + m - i) (G - i) m m rfl rfl H (i * 4) C0 30 hG2 news HB1.out (fun _ => ⟨rfl, HR2.out⟩) (by rw [HCl.out, HNL.out]; omega) H1.out ?_; intro w3 hG3 hE3))
 obtain ⟨L1, hL1⟩ : ∃ L1, L1 = splice C0 (i * 4) news := ⟨_, rfl⟩
 have hLl : L1.length = G * 4 := by rw [hL1, length_splice C0 (i * 4) news (by rw [HCl.out, HNL.out]; omega)]; exact HCl.out
 rw [← hL1] at hG3
 have HSP2 : Hid ((splice L1 ((i + m) * 4) (xs.drop (i * 4))).take ((n + m) * 4) = xs.take (i * 4) ++ (news ++ xs.drop (i * 4))) := qh (by rw [hL1]; exact HSP.out)
 have HLl := qh hLl
 have hE03 : Ext (fun _ => False) w w3 := HE2.out.trans hE3 (fun k hk e => by rw [e, HH.out] at hk; exact absurd hk (Nat.lt_irrefl _))
 have HA1 : Hid ((xs.drop (i * 4)).length = Nat.min (n - i) (n + m - (i + m)) * 4) := qh (by rw [HDL.out]; simp only [Nat.min_def]; split <;> omega)
 have HA2 : Hid (RowOf w3.drew (some ⟨g, i * 4, none⟩) (xs.drop (i * 4))) := qh (HD.out.ext hE03.drew (fun _ _ => id))
 have HA3 : Hid ((i + m) * 4 + (xs.drop (i * 4)).length ≤ L1.length) := qh (by rw [HLl.out, HDL.out]; omega)
 have HA4 : Hid (∀ v ∈ xs.drop (i * 4), v.oneCell' = true) := qh (fun v hv => H2.out v (List.mem_of_mem_drop hv))
 have HE03 := qh hE03
 clear hL1 hLl hE03 HR2 HB1 HSP
 go_wp2_with fail
 refine region_start (fun k => k = H) (by kernel_rfl) ?_
 try simp only [Act.put, sA, sZ, sS]
 refine region_take 0 46 (v := ?vcb0) rfl rfl (by kernel_rfl) (by kernel_rfl) (by kernel_rfl) (fun _ _ _ h => h) (by rfl) (fun w' hS => ?hcb0) ?rcb0
 case hcb0 => go_simp; with_reducible rfl
 try simp only [Act.put, sA, sZ, sS]
 refine region_take 1 47 (v := ?vcb1) rfl rfl (by kernel_rfl) (by kernel_rfl) (by kernel_rfl) (fun _ _ _ h => h) (by rfl) (fun w' hS => ?hcb1) ?rcb1
 case hcb1 => go_simp; with_reducible rfl
 try simp only [Act.put, sA, sZ, sS]
 refine region_take 2 48 (v := ?vcb2) rfl rfl (by kernel_rfl) (by kernel_rfl) (by kernel_rfl) (fun _ _ _ h => h) (by rfl) (fun w' hS => ?hcb2) ?rcb2
 case hcb2 => go_simp; with_reducible rfl
 try simp only [Act.put, sA, sZ, sS]
 refine region_take 3 49 (v := ?vcb3) rfl rfl (by kernel_rfl) (by kernel_rfl) (by kernel_rfl) (fun _ _ _ h => h) (by rfl) (fun w' hS => ?hcb3) ?rcb3
 case hcb3 => go_simp; with_reducible rfl
 try simp only [Act.put, sA, sZ, sS]
 refine region_take 4 50 (v := ?vcb4) rfl rfl (by kernel_rfl) (by kernel_rfl) (by kernel_rfl) (fun _ _ _ h => h) (by rfl) (fun w' hS => ?hcb4) ?rcb4
 case hcb4 => go_simp; with_reducible rfl
 try simp only [Act.put, sA, sZ, sS]
 refine region_take 5 51 (v := ?vcb5) rfl rfl (by kernel_rfl) (by kernel_rfl) (by kernel_rfl) (fun _ _ _ h => h) (by rfl) (fun w' hS => ?hcb5) ?rcb5
 case hcb5 => go_simp; with_reducible rfl
 try simp only [Act.put, sA, sZ, sS]
 refine region_take 6 52 (v := ?vcb6) rfl rfl (by kernel_rfl) (by kernel_rfl) (by kernel_rfl) (fun _ _ _ h => h) (by rfl) (fun w' hS => ?hcb6) ?rcb6
 case hcb6 => go_simp; with_reducible rfl
 try simp only [Act.put, sA, sZ, sS]
 refine region_take 7 53 (v := ?vcb7) rfl rfl (by kernel_rfl) (by kernel_rfl) (by kernel_rfl) (fun _ _ _ h => h) (by rfl) (fun w' hS => ?hcb7) ?rcb7
 case hcb7 => go_simp; with_reducible rfl
 try simp only [Act.put, sA, sZ, sS]
 refine wpAnyH_ready (rs := [8]) (by kernel_rfl) (by simp) (AllReadyH.cons rfl (fun K hK => ?_) AllReadyH.nil)
 refine step_copy_big rfl (.tmp 50) (.tmp 53) 28 28 rfl 30 4 Tryz.underlying28 (by kernel_rfl) (some ⟨H, (i + m) * 4, none⟩) (some ⟨g, i * 4, none⟩) (n + m - (i + m)) (G - (i + m)) (n - i) (c - i) rfl rfl H ((i + m) * 4) L1 30 hG3.drew (xs.drop (i * 4)) HA1.out (fun _ => ⟨rfl, HA2.out⟩) HA3.out HA4.out ?_
 intro w4 hG4 hE4
 refine hK.out _ _ (hE4) (fun hHeld => ?_)
 clear hK K hHeld
 refine region_now (hE4) ?_
 try simp only [Act.put, sA, sZ, sS]
 refine wpAnyH_done (by kernel_rfl) ?_ _
 have HG4 := qh hG4
 have HE4 : Hid (Ext (fun _ => False) w w4) := qh (HE03.out.drew.trans hE4 (fun k hk e => by rw [e, HH.out] at hk; exact absurd hk (Nat.lt_irrefl _)))
 clear hG4 hE4 hG3 hE3 hG2 hE2
 go_wp2_with fail
 go_ret
 refine ⟨some ⟨H, 0, none⟩, G, rfl, ⟨?_, Or.inr ⟨H, G, _, rfl, by rw [HH.out]; exact hB, HG4.out, hGn, by assumption, ?_, by simpa using HSP2.out⟩⟩, HE4.out⟩
 ·simp only [List.length_append, HNL.out, HTL.out, HDL.out]; omega
 ·have := length_splice L1 ((i + m) * 4) (xs.drop (i * 4)) HA3.out
  simp only [List.size_toArray, this, HLl.out]
theorem OwnTo.mono {B n : Nat} {xs : List Value} {T T' : Nat → Prop} {w : World} {e : Ending} {w' : World} (h : OwnTo B n xs T w e w') (hT : ∀ i, i < w.heap.size → T i → T' i) : OwnTo B n xs T' w e w' := by
 obtain ⟨a, c, h1, h2, h3⟩ := h
 exact ⟨a, c, h1, h2, h3.mono hT⟩
theorem insert_any (B : Nat) (a : Option Addr) (n c i : Nat) (xs : List Value) (vb m : Nat) (news : List Value) (w : World) (hO : w.ownsRow B 30 4 (.slice a n c) n xs) (hV : BlockIs w vb news 30) (hne : (Value.slice a n c).ownBlock ≠ some vb) (hnl : news.length = m * 4) (hm : 0 < m) (hm2 : m ≤ 2) (hn : n ≤ 100000) (hi : i ≤ n) (hB : B ≤ w.heap.size) (h1 : ∀ u ∈ news, u.oneCell' = true) (h2 : ∀ u ∈ xs, u.oneCell' = true) :
 Calls Tryz.prog 106 #[.slice a n c, .int .i64 i, .slice (some ⟨vb, 0, none⟩) m m] w (OwnTo B (n + m) (xs.take (i * 4) ++ (news ++ xs.drop (i * 4))) (fun k => (Value.slice a n c).ownBlock = some k) w) := by
 have hxl := hO.1
 by_cases he : i = n
 ·subst he
  have := insert_end B a i c xs vb m news w hO hV hnl hm hm2 hn hB h1
  rw [List.take_of_length_le (by omega), List.drop_eq_nil_of_le (by omega), List.append_nil]
  exact this
 ·rcases hO.2 with ⟨hv, rfl⟩ | ⟨g, cap, cur, hv, hg, hh, e1, e2, e3, e4⟩
  ·omega
  ·cases hv
   have hG : BlockIs w g cur.toList 30 := hh
   have e3' : cur.toList.length = c * 4 := by simpa using e3
   by_cases hr : n + m ≤ c
   ·have := insert_room B g n c i cur.toList vb m news w hG e3' hr e2 hV (fun e => hne (by rw [e]; rfl)) hnl hm hm2 hn (by omega) hg h1 (by rw [e4]; exact h2)
    rw [e4] at this
    exact this.mono fun e w' h => h.mono (fun k _ hk => by subst hk; rfl)
   ·have hR : RowOf w (some ⟨g, 0, none⟩) xs := own_row hO
    exact (insert_grow B g n c i xs vb m news w hR hxl e1 (by omega) hV hnl hm hm2 hn (by omega) hB h1 h2).mono fun e w' h => h.mono (fun k _ hk => hk.elim)
set_option maxHeartbeats 2000000 in
theorem replace_last (B : Nat) (a : Option Addr) (n c i : Nat) (xs : List Value) (vb : Nat) (news : List Value) (w : World) (hO : w.ownsRow B 30 4 (.slice a n c) n xs) (hV : BlockIs w vb news 30) (hnl : news.length = 4) (hn : n ≤ 100000) (hi : i + 1 = n) (hB : B ≤ w.heap.size) (h1 : ∀ u ∈ news, u.oneCell' = true) :
 Calls Tryz.prog 105 #[.slice a n c, .int .i64 i, .int .i64 n, .slice (some ⟨vb, 0, none⟩) 1 1] w (OwnTo B n (xs.take (i * 4) ++ news) (fun k => (Value.slice a n c).ownBlock = some k) w) := by
 obtain ⟨a0, c0, he, hnc, hcm, hnil, _⟩ := own_form hO
 cases he
 cases a with
 | none => have := hnil rfl; omega
 | some ad =>
 have hO2 := own_cut hO i (by omega) (fun e => by cases e)
 have had : ∃ g, ad = ⟨g, 0, none⟩ := by
  rcases hO.2 with ⟨hv, _⟩ | ⟨g, cap, cur, hv, _⟩
  ·cases hv
  ·cases hv; exact ⟨g, rfl⟩
 obtain ⟨g, rfl⟩ := had
 have HO := qh hO2
 have hR : RowOf w (some ⟨vb, 0, none⟩) news := fun i u hu => ⟨vb, 0, rfl, by rw [Nat.zero_add, hV.cell, hu]⟩
 have HR := qh hR
 have HL : Hid (news.length = 1 * 4) := qh (by rw [hnl])
 have H1 := qh h1
 have HI := qh hi
 have hz0 : ¬ (i : Int) = (n : Int) := by omega
 have hle : i ≤ n := by omega
 have hlc : i ≤ c := by omega
 have hnn : n ≤ n := Nat.le_refl n
 unfold maxLen at hcm
 clear hO hO2 hV hR hnl h1
 go_enter Tryz.func105, Tryz.ntmps105
 go_wp2_with (at_builtin; refine wpList_append_any rfl (.tmp 32) (.tmp 33) 28 rfl B 30 (.agg #[.int .i64 0, .int .i64 0, .string ⟨#[]⟩, .slice none 0 0]) 4 56 Tryz.underlying28 info24 rfl (by decide) _ i (xs.take (i * 4)) rfl HO.out (some ⟨vb, 0, none⟩) 1 1 news rfl (fun e => by cases e) HL.out HR.out H1.out n HI.out (xs.take (i * 4) ++ news) rfl (by omega) (by unfold maxLen; omega) hB ?_)
 intro a' c' w' hO' hg
 have hE := qh (ext_of_grown hg)
 have HO' := qh hO'
 clear hO' hg
 go_wp2_with fail
 go_ret
 exact ⟨a', c', rfl, HO'.out, hE.out⟩
theorem zero_cells : ∀ v ∈ (Value.agg #[.int .i64 0, .int .i64 0, .string ⟨#[]⟩, .slice none 0 0]).cells, v.oneCell' = true := by
 intro u hu
 simp only [Value.cells, List.mem_toArray, List.mem_cons, List.not_mem_nil, or_false] at hu
 rcases hu with rfl | rfl | rfl | rfl <;> rfl
theorem splice_self {α : Type} {L tail : List α} {k : Nat} (h : (L.drop k).take tail.length = tail) (hl : k + tail.length ≤ L.length) : splice L k tail = L := by
 rw [splice]
 conv => rhs; rw [← List.take_append_drop k L, ← List.take_append_drop tail.length (L.drop k), h, List.drop_drop]
theorem splice_rep {α : Type} {cur xs news : List α} {n i : Nat} (hx : cur.take (n * 4) = xs) (hi : i + 1 < n) (hnl : news.length = 4) (hl : n * 4 ≤ cur.length) :
 splice (splice cur (i * 4) news) ((i + 1) * 4) (xs.drop ((i + 1) * 4)) = splice cur (i * 4) news ∧ (splice cur (i * 4) news).take (n * 4) = xs.take (i * 4) ++ (news ++ xs.drop ((i + 1) * 4)) := by
 have hxl : xs.length = n * 4 := by rw [← hx, List.length_take]; omega
 have hd : (xs.drop ((i + 1) * 4)).length = (n - (i + 1)) * 4 := by rw [List.length_drop, hxl]; omega
 have e : splice cur (i * 4) news = xs.take (i * 4) ++ (news ++ (xs.drop ((i + 1) * 4) ++ cur.drop (n * 4))) := by
  rw [splice, ← hx, List.take_take, Nat.min_eq_left (by omega), hnl, List.drop_take]
  congr 2
  rw [show i * 4 + 4 = (i + 1) * 4 by omega]
  conv => lhs; rw [← List.take_append_drop (n * 4 - (i + 1) * 4) (cur.drop ((i + 1) * 4)), List.drop_drop, show (i + 1) * 4 + (n * 4 - (i + 1) * 4) = n * 4 by omega]
 have ht : (xs.take (i * 4)).length = i * 4 := by rw [List.length_take, hxl]; omega
 refine ⟨splice_self ?_ (by rw [length_splice _ _ _ (by omega)]; omega), ?_⟩
 ·rw [e, ← List.append_assoc, List.drop_left' (by simp only [List.length_append, ht, hnl]; omega), List.take_left' rfl]
 ·rw [e, take3]; rw [ht, hnl, hd]; omega
set_option maxHeartbeats 2000000 in
theorem replace_mid (B g n c i : Nat) (cur : List Value) (vb : Nat) (news : List Value) (w : World) (hG : BlockIs w g cur 30) (hcl : cur.length = c * 4) (hnc : n ≤ c) (hcm : c ≤ maxLen) (hV : BlockIs w vb news 30) (hnl : news.length = 4) (hn : n ≤ 100000) (hi : i + 1 < n) (hB : B ≤ g) (h1 : ∀ u ∈ news, u.oneCell' = true) (h2 : ∀ u ∈ cur.take (n * 4), u.oneCell' = true) :
 Calls Tryz.prog 105 #[.slice (some ⟨g, 0, none⟩) n c, .int .i64 i, .int .i64 ((i + 1 : Nat) : Int), .slice (some ⟨vb, 0, none⟩) 1 1] w (OwnTo B n ((cur.take (n * 4)).take (i * 4) ++ (news ++ (cur.take (n * 4)).drop ((i + 1) * 4))) (fun k => k = g) w) := by
 obtain ⟨xs, hx⟩ : ∃ xs, xs = cur.take (n * 4) := ⟨_, rfl⟩
 rw [← hx] at h2 ⊢
 have hxl : xs.length = n * 4 := by rw [hx, List.length_take]; omega
 obtain ⟨hsp1, hsp2⟩ := splice_rep (cur := cur) (n := n) (i := i) hx.symm hi hnl (by omega)
 obtain ⟨j, hj⟩ : ∃ j, j = i + 1 := ⟨_, rfl⟩
 rw [← hj] at hsp1 hsp2 hi ⊢
 have hR : RowOf w.drew (some ⟨vb, 0, none⟩) news := fun i u hu => ⟨vb, 0, rfl, by rw [Nat.zero_add, hV.drew.cell, hu]⟩
 have HA1 : Hid ((xs.drop (j * 4)).length = Nat.min (n - j) (n - j) * 4) := qh (by rw [List.length_drop, hxl, show Nat.min (n - j) (n - j) = n - j from Nat.min_self _]; omega)
 have HB1 : Hid (news.length = Nat.min 1 (n - i) * 4) := qh (by rw [hnl]; simp only [Nat.min_def]; split <;> omega)
 have HB3 : Hid (i * 4 + news.length ≤ cur.length) := qh (by rw [hnl, hcl]; omega)
 have hL1 := length_splice cur (i * 4) news HB3.out
 have HA3 : Hid (j * 4 + (xs.drop (j * 4)).length ≤ (splice cur (i * 4) news).length) := qh (by rw [hL1, List.length_drop, hxl, hcl]; omega)
 have HA4 : Hid (∀ v ∈ xs.drop (j * 4), v.oneCell' = true) := qh (fun v hv => h2 v (List.mem_of_mem_drop hv))
 have hrow : ∀ k u, (xs.drop (j * 4))[k]? = some u → (splice cur (i * 4) news)[j * 4 + k]? = some u := by
  intro k u hu
  have e := congrArg (fun L => L[j * 4 + k]?) hsp1.symm
  rw [show (splice cur (i * 4) news)[j * 4 + k]? = (splice (splice cur (i * 4) news) (j * 4) (xs.drop (j * 4)))[j * 4 + k]? from e, splice, List.getElem?_append_right (by rw [List.length_take, hL1]; omega)]
  rw [show j * 4 + k - (List.take (j * 4) (splice cur (i * 4) news)).length = k by rw [List.length_take, hL1]; omega]
  rw [List.getElem?_append_left (List.getElem?_eq_some_iff.1 hu).1]
  exact hu
 have HRow := qh hrow
 have HR := qh hR
 have HH1 := qh h1
 have HSP1 := qh hsp1
 have HSP2 := qh hsp2
 have HX := qh hx
 have HNL := qh hnl
 have HXL := qh hxl
 have HCL := qh hcl
 have HL1 := qh hL1
 have HJ := qh hj
 have hij : i ≤ j := by omega
 have hjn : j < n := by omega
 have hjn' : j ≤ n := by omega
 have hin : i ≤ n := by omega
 have hic : i ≤ c := by omega
 have hz1 : ¬ (i : Int) = (j : Int) := by omega
 have hz2 : ¬ (j : Int) = (n : Int) := by omega
 have hw1 : IntKind.i64.wrap ((i : Int) + 1) = (j : Int) := by rw [IntKind.wrap_i64]; omega
 have hw2 : (j : Int) + ((n - j : Nat) : Int) = (n : Int) := by omega
 have hw3 : IntKind.i64.wrap (n : Int) = (n : Int) := by rw [IntKind.wrap_i64]; omega
 have hwj : IntKind.i64.wrap (j : Int) = (j : Int) := by rw [IntKind.wrap_i64]; omega
 have hb0 : (0 : Int) ≤ (j : Int) := by omega
 have htj : ((j : Int)).toNat = j := by omega
 have hcn : ¬ (c : Int) < (n : Int) := by omega
 have hjj : (j : Int) ≤ (j : Int) := Int.le_refl _
 have hij1 : (i : Int) + 1 = (j : Int) := by omega
 have hci : ¬ (c = i) := by omega
 have hcj : ¬ (c = j) := by omega
 unfold maxLen at hcm
 clear h1 h2 hx hnl hxl hcl hsp1 hsp2 hR hrow hL1 hj
 go_enter Tryz.func105, Tryz.ntmps105
 go_wp2_with fail
 go_quiet (fail)
 go_wp2_with (refine wpList_copy_big rfl (.tmp 95) (.tmp 96) 28 28 rfl 30 4 Tryz.underlying28 (by kernel_rfl) (some ⟨g, i * 4, none⟩) (some ⟨vb, 0, none⟩) (n - i) (c - i) 1 1 rfl rfl g (i * 4) cur 30 hG.drew news HB1.out (fun _ => ⟨rfl, HR.out⟩) HB3.out HH1.out ?_; intro w3 hG3 hE3)
 obtain ⟨L1, hL1⟩ : ∃ L1, L1 = splice cur (i * 4) news := ⟨_, rfl⟩
 rw [← hL1] at hG3 HSP1 HSP2 HL1 HA3 HRow
 have HA2 : Hid (RowOf w3.drew (some ⟨g, j * 4, none⟩) (xs.drop (j * 4))) := qh (fun k u hu => ⟨g, j * 4, rfl, by rw [hG3.drew.cell]; exact HRow.out k u hu⟩)
 have hE03 : Ext (fun k => k = g) w w3 := ((Ext.refl _ w).drewN nq).trans hE3 (fun _ _ e => e)
 have HE03 := qh hE03
 clear hL1 hE03 HR HB1
 go_wp2_with fail
 refine region_start (fun k => k = g) (by kernel_rfl) ?_
 try simp only [Act.put, sA, sZ, sS]
 refine region_take 0 98 (v := ?vca0) rfl rfl (by kernel_rfl) (by kernel_rfl) (by kernel_rfl) (fun _ _ _ h => h) (by rfl) (fun w' hS => ?hca0) ?rca0
 case hca0 => go_simp; with_reducible rfl
 try simp only [Act.put, sA, sZ, sS]
 refine region_take 1 99 (v := ?vca1) rfl rfl (by kernel_rfl) (by kernel_rfl) (by kernel_rfl) (fun _ _ _ h => h) (by rfl) (fun w' hS => ?hca1) ?rca1
 case hca1 => go_simp; with_reducible rfl
 try simp only [Act.put, sA, sZ, sS]
 refine region_take 2 100 (v := ?vca2) rfl rfl (by kernel_rfl) (by kernel_rfl) (by kernel_rfl) (fun _ _ _ h => h) (by rfl) (fun w' hS => ?hca2) ?rca2
 case hca2 => go_simp; with_reducible rfl
 try simp only [Act.put, sA, sZ, sS]
 refine region_take 3 101 (v := ?vca3) rfl rfl (by kernel_rfl) (by kernel_rfl) (by kernel_rfl) (fun _ _ _ h => h) (by rfl) (fun w' hS => ?hca3) ?rca3
 case hca3 => go_simp; with_reducible rfl
 try simp only [Act.put, sA, sZ, sS]
 refine region_take 4 102 (v := ?vca4) rfl rfl (by kernel_rfl) (by kernel_rfl) (by kernel_rfl) (fun _ _ _ h => h) (by rfl) (fun w' hS => ?hca4) ?rca4
 case hca4 => go_simp; with_reducible rfl
 try simp only [Act.put, sA, sZ, sS]
 refine region_take 5 103 (v := ?vca5) rfl rfl (by kernel_rfl) (by kernel_rfl) (by kernel_rfl) (fun _ _ _ h => h) (by rfl) (fun w' hS => ?hca5) ?rca5
 case hca5 => go_simp; with_reducible rfl
 try simp only [Act.put, sA, sZ, sS]
 refine region_take 6 104 (v := ?vca6) rfl rfl (by kernel_rfl) (by kernel_rfl) (by kernel_rfl) (fun _ _ _ h => h) (by rfl) (fun w' hS => ?hca6) ?rca6
 case hca6 => go_simp; with_reducible rfl
 try simp only [Act.put, sA, sZ, sS]
 refine region_take 7 105 (v := ?vca7) rfl rfl (by kernel_rfl) (by kernel_rfl) (by kernel_rfl) (fun _ _ _ h => h) (by rfl) (fun w' hS => ?hca7) ?rca7
 case hca7 => go_simp; with_reducible rfl
 try simp only [Act.put, sA, sZ, sS]
 refine region_take 8 106 (v := ?vca8) rfl rfl (by kernel_rfl) (by kernel_rfl) (by kernel_rfl) (fun _ _ _ h => h) (by rfl) (fun w' hS => ?hca8) ?rca8
 case hca8 => go_simp; with_reducible rfl
 try simp only [Act.put, sA, sZ, sS]
 refine wpAnyH_ready (rs := [9]) (by kernel_rfl) (by simp) (AllReadyH.cons rfl (fun K hK => ?_) AllReadyH.nil)
 refine step_copy_big rfl (.tmp 103) (.tmp 106) 28 28 rfl 30 4 Tryz.underlying28 (by kernel_rfl) (some ⟨g, j * 4, none⟩) (some ⟨g, j * 4, none⟩) (n - j) (c - j) (n - j) (c - j) rfl rfl g (j * 4) L1 30 hG3.drew (xs.drop (j * 4)) HA1.out (fun _ => ⟨rfl, HA2.out⟩) HA3.out HA4.out ?_
 intro w4 hG4 hE4
 refine hK.out _ _ (hE4) (fun hHeld => ?_)
 clear hK K hHeld
 refine region_now (hE4) ?_
 try simp only [Act.put, sA, sZ, sS]
 refine wpAnyH_done (by kernel_rfl) ?_ _
 rw [HSP1.out] at hG4
 have hE04 : Ext (fun k => k = g) w w4 := HE03.out.drew.trans hE4 (fun _ _ e => e)
 have HE04 := qh hE04
 clear hG3 hE3 hE4 hE04 HE03
 have HN4 : Hid (n * 4 ≤ L1.length) := qh (by rw [HL1.out, HCL.out]; omega)
 have HNc := qh (show n ≤ c from hnc)
 have HHB := qh hB
 by_cases hcn2 : n = c
 ·subst hcn2
  go_wp2_with (refine wpList_clear_big rfl (.tmp 110) 28 rfl 30 Tryz.underlying28 (.agg #[.int .i64 0, .int .i64 0, .string ⟨#[]⟩, .slice none 0 0]) (fun w => by kernel_rfl) zero_cells _ 0 _ rfl g (n * 4) L1 30 hG4 (fun e => absurd e (Nat.lt_irrefl 0)) (by have := HN4.out; omega) ?_; intro w5 cur5 hG5 hl5 ht5 hE5)
  have HG5 := qh hG5
  have HL5 := qh hl5
  have HT5 := qh ht5
  have HE5 := qh hE5
  clear hG5 hl5 ht5 hE5 hG4
  go_wp2_with fail
  go_ret
  refine ⟨some ⟨g, 0, none⟩, n, rfl, ⟨?_, Or.inr ⟨g, n, _, rfl, HHB.out, HG5.out, Nat.le_refl _, by unfold maxLen; omega, ?_, by simp only [List.toList_toArray]; rw [HT5.out, HSP2.out]⟩⟩, HE04.out.trans HE5.out (fun _ _ e => e)⟩
  ·simp only [List.length_append, List.length_take, List.length_drop, HNL.out, HXL.out]; have := HJ.out; omega
  ·simp only [List.size_toArray, HL5.out, HL1.out, HCL.out]
 ·have hcn3 : ¬ (c = n) := fun e => hcn2 e.symm
  go_wp2_with (refine wpList_clear_big rfl (.tmp 110) 28 rfl 30 Tryz.underlying28 (.agg #[.int .i64 0, .int .i64 0, .string ⟨#[]⟩, .slice none 0 0]) (fun w => by kernel_rfl) zero_cells _ 0 _ rfl g (n * 4) L1 30 hG4 (fun e => absurd e (Nat.lt_irrefl 0)) (by have := HN4.out; omega) ?_; intro w5 cur5 hG5 hl5 ht5 hE5)
  have HG5 := qh hG5
  have HL5 := qh hl5
  have HT5 := qh ht5
  have HE5 := qh hE5
  clear hG5 hl5 ht5 hE5 hG4
  go_wp2_with fail
  go_ret
  refine ⟨some ⟨g, 0, none⟩, c, rfl, ⟨?_, Or.inr ⟨g, c, _, rfl, HHB.out, HG5.out, HNc.out, by unfold maxLen; omega, ?_, by simp only [List.toList_toArray]; rw [HT5.out, HSP2.out]⟩⟩, HE04.out.trans HE5.out (fun _ _ e => e)⟩
  ·simp only [List.length_append, List.length_take, List.length_drop, HNL.out, HXL.out]; have := HJ.out; omega
  ·simp only [List.size_toArray, HL5.out, HL1.out, HCL.out]
set_option maxHeartbeats 1000000 in
theorem replace_none (B : Nat) (a : Option Addr) (n c : Nat) (xs : List Value) (vb : Nat) (news : List Value) (w : World) (hO : w.ownsRow B 30 4 (.slice a n c) n xs) (hV : BlockIs w vb news 30) (hnl : news.length = 4) (hn : n ≤ 100000) (hn0 : 0 < n) (hB : B ≤ w.heap.size) (h1 : ∀ u ∈ news, u.oneCell' = true) :
 Calls Tryz.prog 105 #[.slice a n c, .int .i64 n, .int .i64 n, .slice (some ⟨vb, 0, none⟩) 1 1] w (OwnTo B (n + 1) (xs ++ news) (fun k => (Value.slice a n c).ownBlock = some k) w) := by
 obtain ⟨a0, c0, he, hnc, hcm, hnil, _⟩ := own_form hO
 cases he
 have HC := qh (insert_end B a n c xs vb 1 news w hO hV (by rw [hnl]) (by omega) (by omega) hn hB h1)
 have hnn : n ≤ n := Nat.le_refl n
 unfold maxLen at hcm
 cases a with
 | none => have := hnil rfl; omega
 | some ad =>
 clear hO hV
 rcases Decidable.em (c = n) with rfl | hcn
 all_goals
  go_enter Tryz.func105, Tryz.ntmps105
  go_wp2_with fail
  refine HC.out.mono ?_
  rintro e w1 ⟨a', c', rfl, hO', hE⟩
  have HO' := qh hO'
  have HE := qh hE
  clear hO' hE HC
  go_wp2_with fail
  go_ret
  exact ⟨a', c', rfl, HO'.out, HE.out⟩
theorem replace_any (B : Nat) (a : Option Addr) (n c i j : Nat) (xs : List Value) (vb : Nat) (news : List Value) (w : World) (hO : w.ownsRow B 30 4 (.slice a n c) n xs) (hV : BlockIs w vb news 30) (hnl : news.length = 4) (hn : n ≤ 100000) (hn0 : 0 < n) (hi : i ≤ n) (hj : j = min (i + 1) n) (hB : B ≤ w.heap.size) (h1 : ∀ u ∈ news, u.oneCell' = true) (h2 : ∀ u ∈ xs, u.oneCell' = true) :
 Calls Tryz.prog 105 #[.slice a n c, .int .i64 i, .int .i64 j, .slice (some ⟨vb, 0, none⟩) 1 1] w (OwnTo B (i + 1 + (n - j)) (xs.take (i * 4) ++ (news ++ xs.drop (j * 4))) (fun k => (Value.slice a n c).ownBlock = some k) w) := by
 have hxl := hO.1
 by_cases he : i = n
 ·obtain rfl : j = n := by omega
  subst he
  have := replace_none B a i c xs vb news w hO hV hnl hn hn0 hB h1
  rw [List.take_of_length_le (by omega), List.drop_eq_nil_of_le (by omega), List.append_nil, show i + 1 + (i - i) = i + 1 by omega]
  exact this
 ·obtain rfl : j = i + 1 := by omega
  by_cases he2 : i + 1 = n
  ·have := replace_last B a n c i xs vb news w hO hV hnl hn he2 hB h1
   rw [← he2] at this hxl ⊢
   rw [List.drop_eq_nil_of_le (by omega), List.append_nil, show i + 1 + (i + 1 - (i + 1)) = i + 1 by omega]
   exact this
  ·rcases hO.2 with ⟨hv, rfl⟩ | ⟨g, cap, cur, hv, hg, hh, e1, e2, e3, e4⟩
   ·omega
   ·cases hv
    have hG : BlockIs w g cur.toList 30 := hh
    have := replace_mid B g n c i cur.toList vb news w hG (by simpa using e3) e1 e2 hV hnl hn (by omega) hg h1 (by rw [e4]; exact h2)
    rw [e4] at this
    rw [show i + 1 + (n - (i + 1)) = n by omega]
    exact this.mono fun e w' h => h.mono (fun k _ hk => by subst hk; rfl)
inductive Fit (W : World) (d : Nat) : List V → List Value → Prop
 | nil : Fit W d [] []
 | cons {u : V} {r : List Value} {l : List V} {xs : List Value} : Lies W d u r → Fit W d l xs → Fit W d (u :: l) (r ++ xs)
theorem Fit.len {W : World} {d : Nat} {l : List V} {xs : List Value} (h : Fit W d l xs) : xs.length = l.length * 4 := by
 induction h with
 | nil => rfl
 | cons h1 _ ih => rw [List.length_append, h1.len, ih, List.length_cons]; omega
theorem Fit.pure {W W' : World} {d : Nat} {l : List V} {xs : List Value} (h : Fit W d l xs) (hP : Pure W W') : Fit W' d l xs := by
 induction h with
 | nil => exact .nil
 | cons h1 _ ih => exact .cons (h1.pure hP) ih
theorem Fit.one {W : World} {d : Nat} {l : List V} {xs : List Value} (h : Fit W d l xs) : ∀ u ∈ xs, u.oneCell' = true := by
 induction h with
 | nil => intro u hu; cases hu
 | cons h1 _ ih =>
   intro u hu
   rcases List.mem_append.1 hu with hu | hu
   ·have := h1.one
    rw [Array.all_eq_true'] at this
    exact this u (by simpa using hu)
   ·exact ih u hu
theorem Fit.append {W : World} {d : Nat} {l m : List V} {xs ys : List Value} (h : Fit W d l xs) (h2 : Fit W d m ys) : Fit W d (l ++ m) (xs ++ ys) := by
 induction h with
 | nil => exact h2
 | cons h1 _ ih => rw [List.cons_append, List.append_assoc]; exact .cons h1 ih
theorem Fit.single {W : World} {d : Nat} {u : V} {r : List Value} (h : Lies W d u r) : Fit W d [u] r := by
 have := Fit.cons h (Fit.nil (W := W) (d := d))
 rwa [List.append_nil] at this
theorem Fit.take {W : World} {d : Nat} {l : List V} {xs : List Value} (h : Fit W d l xs) : ∀ k : Nat, Fit W d (l.take k) (xs.take (k * 4)) := by
 induction h with
 | nil => intro k; simp; exact .nil
 | @cons u r l xs h1 _ ih =>
   intro k
   cases k with
   | zero => simp; exact .nil
   | succ k =>
     have e := h1.len
     rw [List.take_succ_cons, List.take_append, List.take_of_length_le (l := r) (by omega), show (k + 1) * 4 - r.length = k * 4 by omega]
     exact .cons h1 (ih k)
theorem Fit.drop {W : World} {d : Nat} {l : List V} {xs : List Value} (h : Fit W d l xs) : ∀ k : Nat, Fit W d (l.drop k) (xs.drop (k * 4)) := by
 induction h with
 | nil => intro k; simp; exact .nil
 | @cons u r l xs h1 h2 ih =>
   intro k
   cases k with
   | zero => simp; exact .cons h1 h2
   | succ k =>
     have e := h1.len
     rw [List.drop_succ_cons, List.drop_append, show r.drop ((k + 1) * 4) = [] from List.drop_eq_nil_of_le (by omega), List.nil_append, show (k + 1) * 4 - r.length = k * 4 by omega]
     exact ih k
theorem Fit.rows {W : World} {d : Nat} {l : List V} {xs : List Value} (h : Fit W d l xs) : ∃ rows : List (List Value), xs = rows.flatMap id ∧ rows.length = l.length ∧ (∀ r ∈ rows, r.length = 4) ∧ (∀ (i : Nat) (u : V) (r : List Value), l[i]? = some u → rows[i]? = some r → Lies W d u r) := by
 induction h with
 | nil => exact ⟨[], rfl, rfl, (fun r hr => by cases hr), (fun i u r hu => by simp at hu)⟩
 | @cons u r l xs h1 _ ih =>
   obtain ⟨rows, rfl, e1, e2, e3⟩ := ih
   refine ⟨r :: rows, by rw [List.flatMap_cons]; rfl, by simp [e1], ?_, ?_⟩
   ·intro r hr
    rcases List.mem_cons.1 hr with rfl | hr
    ·exact h1.len
    ·exact e2 r hr
   ·intro i u r hu hr
    cases i with
    | zero => cases hu; cases hr; exact h1
    | succ i => exact e3 i u r hu hr
theorem Fit.kids {W : World} {d : Nat} {l : List V} {xs : List Value} {a : Option Addr} (h : Fit W d l xs) (hr : RowOf W a xs) : ∃ rows : List (List Value), xs = rows.flatMap id ∧ Kids W d l a rows := by
 obtain ⟨rows, rfl, e1, e2, e3⟩ := h.rows
 exact ⟨rows, rfl, e1, e2, hr, e3⟩
theorem Fit.lies {W : World} {d : Nat} {l : List V} {xs : List Value} {a : Option Addr} (h : Fit W d l xs) (hr : RowOf W a xs) (k n : Int) (s : ByteArray) (c : Nat) (hc : l.length ≤ c) (hcm : c ≤ maxLen) (hnil : a = none → c = 0) (hs : s.size ≤ maxLen) :
 Lies W (d + 1) (.mk k n s l) [.int .i64 k, .int .i64 n, .string s, .slice a l.length c] := by
 obtain ⟨rows, rfl, hK⟩ := h.kids hr
 exact ⟨a, c, rows, rfl, hK.len, hK.four, hK.row, hc, hcm, hnil, hK.lies, hs⟩
theorem Lies.leaf (W : World) (d : Nat) (k n : Int) (s : ByteArray) (hs : s.size ≤ maxLen) : Lies W (d + 1) (.mk k n s []) [.int .i64 k, .int .i64 n, .string s, .slice none 0 0] :=
 Fit.lies .nil (fun i u hu => by simp at hu) k n s 0 (Nat.le_refl _) (Nat.zero_le _) (fun _ => rfl) hs
def nextP (p : V → Bool) : List V → Option Nat
 | [] => none
 | [u] => if p u then some 0 else none
 | u :: _ :: l => if p u then some 0 else (nextP p l).map (· + 2)
theorem nextP_hit {p : V → Bool} {u : V} {l : List V} (h : p u = true) : nextP p (u :: l) = some 0 := by
 cases l <;> simp [nextP, h]
theorem nextP_miss {p : V → Bool} {u : V} {l : List V} (h : p u = false) : nextP p (u :: l) = (nextP p (l.drop 1)).map (· + 2) := by
 cases l <;> simp [nextP, h]
def placeAt (p : V → Bool) (l : List V) (k : Nat) : Option Nat := (nextP p (l.drop k)).map (· + k)
theorem placeAt_end {p : V → Bool} {l : List V} {k : Nat} (h : l.length ≤ k) : placeAt p l k = none := by
 rw [placeAt, List.drop_eq_nil_of_le h]; rfl
theorem placeAt_hit {p : V → Bool} {l : List V} {k : Nat} {u : V} (hu : l[k]? = some u) (h : p u = true) : placeAt p l k = some k := by
 obtain ⟨hk, rfl⟩ := List.getElem?_eq_some_iff.1 hu
 rw [placeAt, List.drop_eq_getElem_cons hk, nextP_hit h]; simp
theorem placeAt_miss {p : V → Bool} {l : List V} {k : Nat} {u : V} (hu : l[k]? = some u) (h : p u = false) : placeAt p l k = placeAt p l (k + 2) := by
 obtain ⟨hk, rfl⟩ := List.getElem?_eq_some_iff.1 hu
 rw [placeAt, placeAt, List.drop_eq_getElem_cons hk, nextP_miss h, List.drop_drop, Option.map_map, show k + 1 + 1 = k + 2 from by omega]
 congr 1
 funext x
 simp only [Function.comp]
 omega
theorem nextP_spec {p : V → Bool} : ∀ (l : List V) (i : Nat), nextP p l = some i → i < l.length ∧ (∃ u, l[i]? = some u ∧ p u = true) ∧ i % 2 = 0
 | [], i, h => by simp [nextP] at h
 | [u], i, h => by
   simp only [nextP] at h
   split at h
   ·next hp => cases h; exact ⟨by simp, ⟨u, rfl, hp⟩, rfl⟩
   ·cases h
 | u :: y :: l, i, h => by
   simp only [nextP] at h
   split at h
   ·next hp => cases h; exact ⟨by simp, ⟨u, rfl, hp⟩, rfl⟩
   ·obtain ⟨j, hj, rfl⟩ := Option.map_eq_some_iff.1 h
    obtain ⟨h1, ⟨z, h2, h3⟩, h4⟩ := nextP_spec l j hj
    exact ⟨by simp; omega, ⟨z, by simpa using h2, h3⟩, by omega⟩
def hit (key : ByteArray) (u : V) : Bool := u.kind == 5 && (u.s.toList == key.toList)
def over (key : ByteArray) (u : V) : Bool := u.kind == 5 && Op.bytesLess key.toList u.s.toList
def V.find (v : V) (key : ByteArray) : Option Nat := if v.kind = 7 then nextP (hit key) v.l else none
def nameV (key : ByteArray) : V := .mk 5 0 key []
def nullV : V := .mk 0 0 ⟨#[]⟩ []
def placeOf (l : List V) (key : ByteArray) : Nat := (nextP (over key) l).getD l.length
def V.put (v : V) (key : ByteArray) (x : V) : V :=
 if v.kind = 7 then
  match nextP (hit key) v.l with
  | some i => .mk v.kind v.n v.s (v.l.take (i + 1) ++ ([x] ++ v.l.drop (min (i + 2) v.l.length)))
  | none => .mk v.kind v.n v.s (v.l.take (placeOf v.l key) ++ ([nameV key, x] ++ v.l.drop (placeOf v.l key)))
 else v
def V.get (v : V) (key : ByteArray) : V × Bool :=
 match v.find key with
 | some i => (v.l[i + 1]?.getD nullV, true)
 | none => (nullV, false)
def optI : Option Nat → Int
 | some i => i
 | none => -1
theorem placeAt_zero (p : V → Bool) (l : List V) : placeAt p l 0 = nextP p l := by
 rw [placeAt, List.drop_zero]; cases nextP p l <;> rfl
set_option maxHeartbeats 1000000 in
theorem find_any (d : Nat) (v : V) (cs : List Value) (key : ByteArray) (w : World) (h : Lies w (d + 1) v cs) (hl : v.l.length ≤ 1000000) :
 Calls Tryz.prog 81 #[.agg cs.toArray, .string key] w (IntTo (optI (v.find key)) w) := by
 obtain ⟨a, c, rows, rfl, hlc, hcm, hnil, hK, hs⟩ := h.kids
 obtain ⟨E, hE⟩ : ∃ E, E = optI (v.find key) := ⟨_, rfl⟩
 rw [← hE]
 unfold V.find at hE
 obtain ⟨l, hll⟩ : ∃ l, l = v.l := ⟨_, rfl⟩
 rw [← hll] at hE hl hK ⊢
 generalize v.kind = k0 at *
 generalize v.n = n0 at *
 generalize v.s = s0 at *
 obtain ⟨n, hn⟩ : ∃ n, n = l.length := ⟨_, rfl⟩
 rw [← hn] at hl ⊢
 obtain ⟨w1, hw1⟩ : ∃ w1, w1 = w.alloc (.cells #[.int .i64 k0, .int .i64 n0, .string s0, .slice a n c] 30) := ⟨_, rfl⟩
 have hBx : BlockIs w1 w.heap.size [.int .i64 k0, .int .i64 n0, .string s0, .slice a n c] 30 := hw1 ▸ BlockIs.new w _ _
 have hP1 : Pure w w1 := hw1 ▸ ext_alloc w _
 have hK1 := hK.pure hP1
 obtain ⟨tb, htb⟩ : ∃ tb, tb = w.heap.size := ⟨_, rfl⟩
 rw [← htb] at hBx
 have HE := qh hE
 have HN := qh hn
 have HW1 := qh hw1
 have HTb := qh htb
 have HP1 := qh hP1
 have c0 : w1.cell? ⟨tb, 0, none⟩ = some (.int .i64 k0) := hBx.cell 0
 have c3 : w1.cell? ⟨tb, 3, none⟩ = some (.slice a n c) := hBx.cell 3
 clear hE hn hw1 htb hK h hll hBx hP1 hs
 by_cases h7 : k0 = 7
 ·subst h7
  have HE1 : Hid (E = optI (nextP (hit key) l)) := qh (by rw [HE.out, if_pos rfl])
  clear HE
  go_enter Tryz.func81, Tryz.ntmps81
  go_wp2_with fail
  rw [← HW1.out, ← HTb.out]
  go_loop [5] (fun i => ∃ k : Nat, k ≤ n + 1 ∧ i = .int .i64 k ∧ Hid (E = optI (placeAt (hit key) l k))) (fun i => n + 1 - (intOf i).toNat)
  case atStart => exact ⟨0, by omega, rfl, qh (by rw [HE1.out, placeAt_zero])⟩
  case round =>
   obtain ⟨k, hk, rfl, HA⟩ := hrel
   by_cases hlt : k < n
   ·have hki : (k : Int) < (n : Int) := by omega
    obtain ⟨u, hu⟩ : ∃ u, l[k]? = some u := ⟨_, List.getElem?_eq_getElem (by rw [← HN.out]; exact hlt)⟩
    obtain ⟨b, o, a', c', rfl, e0, e1, e2, e3⟩ := hK1.cells k u hu
    obtain ⟨H, hH⟩ : ∃ H, H = hit key u := ⟨_, rfl⟩
    have hyes : H = true → E = k := fun e => by rw [HA.out, placeAt_hit hu (hH.symm.trans e)]; rfl
    have hno : H = false → E = optI (placeAt (hit key) l (k + 2)) := fun e => by rw [HA.out, placeAt_miss hu (hH.symm.trans e)]
    unfold hit at hH
    generalize u.kind = kk at *
    generalize u.s = ss at *
    clear hu
    by_cases h5 : kk = 5
    ·subst h5
     obtain ⟨Q, hQ⟩ : ∃ Q, Q = (ss.toList == key.toList) := ⟨_, rfl⟩
     have hHQ : H = Q := by rw [hH, hQ]; rfl
     have hQ' : (ss.toList == key.toList) = Q := hQ.symm
     subst hHQ
     have HY := qh hyes
     have HNo := qh hno
     clear hH hQ hyes hno
     cases H with
     | true =>
       have HB := qh (HY.out rfl)
       clear HY HNo HA
       go_wp2_with fail
       go_ret
       exact ⟨by rw [HB.out]; rfl, HP1.out⟩
     | false =>
       have HB := qh (HNo.out rfl)
       clear HY HNo HA
       go_wp2_with fail
       go_round
       case rel => exact ⟨k + 2, by omega, by go_num, HB⟩
       case measure => simp [intOf]; omega
    ·have HB : Hid (E = optI (placeAt (hit key) l (k + 2))) := qh (hno (by rw [hH]; simp [h5]))
     have h5' : (kk == 5) = false := by simpa using h5
     clear hH hyes hno HA h5
     go_wp2_with fail
     go_round
     case rel => exact ⟨k + 2, by omega, by go_num, HB⟩
     case measure => simp [intOf]; omega
   ·have hki : ¬ (k : Int) < (n : Int) := by omega
    have HB : Hid (E = -1) := qh (by rw [HA.out, placeAt_end (by rw [← HN.out]; omega)]; rfl)
    go_wp2_with fail
    go_ret
    exact ⟨by rw [HB.out]; rfl, HP1.out⟩
 ·have HB : Hid (E = -1) := qh (by rw [HE.out, if_neg h7]; rfl)
  have h7' : (k0 != 7) = true := by simpa using h7
  have h7'' : (k0 == 7) = false := by simpa using h7
  clear h7 HE
  go_enter Tryz.func81, Tryz.ntmps81
  go_wp2_with fail
  skip
  go_ret
  exact ⟨by rw [HB.out]; rfl, by rw [← HW1.out]; exact HP1.out⟩
set_option maxHeartbeats 1000000 in
theorem reffind_any (d : Nat) (v : V) (cs : List Value) (key : ByteArray) (w : World) (h : Lies w (d + 1) v cs) (hl : v.l.length ≤ 1000000) :
 Calls Tryz.prog 89 #[.agg cs.toArray, .string key] w (IntTo (optI (v.find key)) w) := by
 obtain ⟨a, c, rows, rfl, hlc, hcm, hnil, hK, hs⟩ := h.kids
 obtain ⟨E, hE⟩ : ∃ E, E = optI (v.find key) := ⟨_, rfl⟩
 rw [← hE]
 unfold V.find at hE
 obtain ⟨l, hll⟩ : ∃ l, l = v.l := ⟨_, rfl⟩
 rw [← hll] at hE hl hK ⊢
 generalize v.kind = k0 at *
 generalize v.n = n0 at *
 generalize v.s = s0 at *
 obtain ⟨n, hn⟩ : ∃ n, n = l.length := ⟨_, rfl⟩
 rw [← hn] at hl ⊢
 obtain ⟨w1, hw1⟩ : ∃ w1, w1 = w.alloc (.cells #[.int .i64 k0, .int .i64 n0, .string s0, .slice a n c] 30) := ⟨_, rfl⟩
 have hBx : BlockIs w1 w.heap.size [.int .i64 k0, .int .i64 n0, .string s0, .slice a n c] 30 := hw1 ▸ BlockIs.new w _ _
 have hP1 : Pure w w1 := hw1 ▸ ext_alloc w _
 have hK1 := hK.pure hP1
 obtain ⟨tb, htb⟩ : ∃ tb, tb = w.heap.size := ⟨_, rfl⟩
 rw [← htb] at hBx
 have HE := qh hE
 have HN := qh hn
 have HW1 := qh hw1
 have HTb := qh htb
 have HP1 := qh hP1
 have c0 : w1.cell? ⟨tb, 0, none⟩ = some (.int .i64 k0) := hBx.cell 0
 have c3 : w1.cell? ⟨tb, 3, none⟩ = some (.slice a n c) := hBx.cell 3
 clear hE hn hw1 htb hK h hll hBx hP1 hs
 by_cases h7 : k0 = 7
 ·subst h7
  have HE1 : Hid (E = optI (nextP (hit key) l)) := qh (by rw [HE.out, if_pos rfl])
  clear HE
  go_enter Tryz.func89, Tryz.ntmps89
  go_wp2_with fail
  rw [← HW1.out, ← HTb.out]
  go_loop [5] (fun i => ∃ k : Nat, k ≤ n + 1 ∧ i = .int .i64 k ∧ Hid (E = optI (placeAt (hit key) l k))) (fun i => n + 1 - (intOf i).toNat)
  case atStart => exact ⟨0, by omega, rfl, qh (by rw [HE1.out, placeAt_zero])⟩
  case round =>
   obtain ⟨k, hk, rfl, HA⟩ := hrel
   by_cases hlt : k < n
   ·have hki : (k : Int) < (n : Int) := by omega
    obtain ⟨u, hu⟩ : ∃ u, l[k]? = some u := ⟨_, List.getElem?_eq_getElem (by rw [← HN.out]; exact hlt)⟩
    obtain ⟨b, o, a', c', rfl, e0, e1, e2, e3⟩ := hK1.cells k u hu
    obtain ⟨H, hH⟩ : ∃ H, H = hit key u := ⟨_, rfl⟩
    have hyes : H = true → E = k := fun e => by rw [HA.out, placeAt_hit hu (hH.symm.trans e)]; rfl
    have hno : H = false → E = optI (placeAt (hit key) l (k + 2)) := fun e => by rw [HA.out, placeAt_miss hu (hH.symm.trans e)]
    unfold hit at hH
    generalize u.kind = kk at *
    generalize u.s = ss at *
    clear hu
    by_cases h5 : kk = 5
    ·subst h5
     obtain ⟨Q, hQ⟩ : ∃ Q, Q = (ss.toList == key.toList) := ⟨_, rfl⟩
     have hHQ : H = Q := by rw [hH, hQ]; rfl
     have hQ' : (ss.toList == key.toList) = Q := hQ.symm
     subst hHQ
     have HY := qh hyes
     have HNo := qh hno
     clear hH hQ hyes hno
     cases H with
     | true =>
       have HB := qh (HY.out rfl)
       clear HY HNo HA
       go_wp2_with fail
       go_ret
       exact ⟨by rw [HB.out]; rfl, HP1.out⟩
     | false =>
       have HB := qh (HNo.out rfl)
       clear HY HNo HA
       go_wp2_with fail
       go_round
       case rel => exact ⟨k + 2, by omega, by go_num, HB⟩
       case measure => simp [intOf]; omega
    ·have HB : Hid (E = optI (placeAt (hit key) l (k + 2))) := qh (hno (by rw [hH]; simp [h5]))
     have h5' : (kk == 5) = false := by simpa using h5
     clear hH hyes hno HA h5
     go_wp2_with fail
     go_round
     case rel => exact ⟨k + 2, by omega, by go_num, HB⟩
     case measure => simp [intOf]; omega
   ·have hki : ¬ (k : Int) < (n : Int) := by omega
    have HB : Hid (E = -1) := qh (by rw [HA.out, placeAt_end (by rw [← HN.out]; omega)]; rfl)
    go_wp2_with fail
    go_ret
    exact ⟨by rw [HB.out]; rfl, HP1.out⟩
 ·have HB : Hid (E = -1) := qh (by rw [HE.out, if_neg h7]; rfl)
  have h7' : (k0 != 7) = true := by simpa using h7
  have h7'' : (k0 == 7) = false := by simpa using h7
  clear h7 HE
  go_enter Tryz.func89, Tryz.ntmps89
  go_wp2_with fail
  (refine wp_loop_rounds 1 ?_; rw [rounds_succ]; go_wp2_with fail)
  go_ret
  exact ⟨by rw [HB.out]; rfl, by rw [← HW1.out]; exact HP1.out⟩
theorem results_row1 {P : Program} {fn : Func} {p : Tmp} {ty : TypeId} (h : fn.results = #[.cell p ty]) (tmps : Array Value) (w : World) (g : Nat) (t : TypeId) (cs : List Value) (d : TypeDesc)
 (hp : tmps.getD p undef = .pointer (some ⟨g, 0, none⟩)) (hg : BlockIs w g cs t) (hu : P.underlying ty = some d) (hd : (match d with | .struct _ | .array _ _ => true | _ => false) = true) (hi : (P.info? ty).map (·.size) = some cs.length) :
 (results fn tmps).run P w = .ok (.agg cs.toArray) w :=
 results_cell_row h tmps w g t cs.toArray (0, 0) d hp hg hu hd (by simpa using hi)
theorem results_row2 {P : Program} {fn : Func} {p u : Tmp} {ty : TypeId} (h : fn.results = #[.cell p ty, .tmp u]) (tmps : Array Value) (w : World) (g : Nat) (t : TypeId) (cs : List Value) (d : TypeDesc)
 (hp : tmps.getD p undef = .pointer (some ⟨g, 0, none⟩)) (hg : BlockIs w g cs t) (hu : P.underlying ty = some d) (hd : (match d with | .struct _ | .array _ _ => true | _ => false) = true) (hi : (P.info? ty).map (·.size) = some cs.length) :
 (results fn tmps).run P w = .ok (.tuple #[.agg cs.toArray, tmps.getD u undef]) w := by
 rw [results_cell_tmp h, hp]
 have := run_loadVar_row (P := P) w g t ty cs.toArray (0, 0) d hg hu hd (by simpa using hi)
 simp only [asAddr, Sem.run_pure, Result.andThen, this]
theorem size24 : (Tryz.prog.info? 30).map (·.size) = some 4 := by kernel_rfl
def GetTo (F : V × Bool) (d : Nat) (w : World) (e : Ending) (w' : World) : Prop :=
 ∃ cs, e = .returned (.tuple #[.agg cs.toArray, .bool F.2]) ∧ Lies w' (d + 1) F.1 cs ∧ Pure w w'
theorem find_lt {v : V} {key : ByteArray} {i : Nat} (h : v.find key = some i) : i < v.l.length := by
 unfold V.find at h
 split at h
 ·exact (nextP_spec _ _ h).1
 ·cases h
theorem lies_null (W : World) (d : Nat) : Lies W (d + 1) nullV zeroCs := Lies.leaf W d 0 0 ⟨#[]⟩ (Nat.zero_le _)
theorem one_zero : (zeroCs.toArray.all fun u => u.oneCell') = true := all_oneCell_toArray (by intro u hu; simp only [zeroCs, List.mem_cons, List.not_mem_nil, or_false] at hu; rcases hu with rfl | rfl | rfl | rfl <;> rfl)
