import Derived.Test.YtomcdhljjmnahaaGreatLibBBPa
import Derived.Test.YtomcdhljjmnahaaGreatLibBAPa
import Derived.Test.YtomcdhljjmnahaaGreatSqPa
set_option linter.unusedVariables false
set_option linter.unusedSimpArgs false
set_option maxRecDepth 100000
namespace Go.Proofs.YtomcdhljjmnahaaGreat.P26
open Go.RowKit C26
theorem _root_.Go.Proofs.YtomcdhljjmnahaaGreat.C26.RS.align {W W' : World} {rr rb : Nat} {l : List UInt8} {p : Nat} {er : Int} {a : Option Addr} {c : Nat} (h : RS W rr rb l (p, er) a c) (hR : RdIs W' rb true l (8 * ((p + 7) / 8)) a c) (hE : Ext (fun i => i = rb) W W') : RS W' rr rb l (8 * ((p + 7) / 8), er) a c :=
 ⟨h.blk.ext hE h.ne, hR, by have := h.le; simp only at this ⊢; omega, h.ne, h.ap⟩
def ProwTo (rr rb : Nat) (l : List UInt8) (a : Option Addr) (c p n wd : Nat) (I : Nat → World → Prop) (B : Nat → World → Prop) (e : Ending) (W' : World) : Prop :=
 e = .returned (.tuple #[]) ∧ ∃ (q : Nat) (er : Int), RS W' rr rb l (q, er) a c ∧
   ((er = 0 ∧ q = al8 (p + n * wd) ∧ p + n * wd ≤ (bitsOf true l).length ∧ I n W') ∨ (er = 27 ∧ ∃ k, k < n ∧ p + (k + 1) * wd ≤ (bitsOf true l).length ∧ B k W') ∨ (er = 10 ∧ ∃ k, k < n ∧ Fit (bitsOf true l).length p wd n k ∧ I k W'))
def TakeTo (rr rb : Nat) (l : List UInt8) (a : Option Addr) (c p k : Nat) (I : Nat → World → Prop) (B : Nat → World → Prop) (e : Ending) (W' : World) : Prop :=
 e = .returned (.tuple #[]) ∧ ((RS W' rr rb l (p, 0) a c ∧ I (k + 1) W') ∨ (RS W' rr rb l (p, 27) a c ∧ B k W'))
set_option maxHeartbeats 2000000 in
theorem prow_any (g : Nat) (caps : Array Value) (rr rb : Nat) (l : List UInt8) (a : Option Addr) (c p n wd : Nat) (I : Nat → World → Prop) (B : Nat → World → Prop) (W : World)
 (hTake : Hid (∀ (k x : Nat) (W : World), k < n → x = numAt (bitsOf true l) (p + k * wd) wd → p + (k + 1) * wd ≤ (bitsOf true l).length → RS W rr rb l (p + (k + 1) * wd, 0) a c → I k W → Calls Tryz.prog g (#[.int .i64 k, .int .i64 x] ++ caps) W (TakeTo rr rb l a c (p + (k + 1) * wd) k I B)))
 (hI : ∀ k W W', I k W → Ext (RdS rr rb) W W' → I k W') (hB : ∀ k W W', B k W → Ext (RdS rr rb) W W' → B k W')
 (hS : RS W rr rb l (p, 0) a c) (hI0 : I 0 W) (hw : wd ≤ 32) (hn : n ≤ 100000) (hl : l.length ≤ 10000000) (hg : ∀ args w, (callFunc g args).run Tryz.prog w = .ok (.enter g args) w) :
 Calls Tryz.prog 117 #[.pointer (some ⟨rr, 0, none⟩), .int .i64 n, .int .i64 wd, .func (.func g) #[] caps] W (ProwTo rr rb l a c p n wd I B) := by
 have HI := qh hI
 have HB := qh hB
 clear hI hB
 go_enter Tryz.func117, Tryz.ntmps117
 go_wp2_with fail
 go_loopw [8, 9] (fun i _ W => ∃ k : Nat, k ≤ n ∧ i = .int .i64 k ∧ ((RS W rr rb l (p + k * wd, 0) a c ∧ p + k * wd ≤ (bitsOf true l).length ∧ I k W) ∨ (∃ j q, k = j + 1 ∧ RS W rr rb l (q, 27) a c ∧ p + k * wd ≤ (bitsOf true l).length ∧ B j W) ∨ (∃ j q, k = j + 1 ∧ RS W rr rb l (q, 10) a c ∧ Fit (bitsOf true l).length p wd n j ∧ I j W))) (fun i _ _ => n - (intOf i).toNat)
 case atStart => exact ⟨0, Nat.zero_le _, rfl, Or.inl ⟨by simpa using hS, by have := hS.le; rw [bitsOf_length]; simpa using this, hI0⟩⟩
 case round =>
  obtain ⟨k, hk, rfl, h⟩ := hrel
  clear hS hI0
  rcases h with ⟨hS, hle, hIk⟩ | ⟨j, q, rfl, hS, hle, hBj⟩ | ⟨j, q, rfl, hS, hF, hIj⟩
  ·obtain ⟨q, hq⟩ : ∃ q, q = p + k * wd := ⟨_, rfl⟩
   have hq1 : p + (k + 1) * wd = q + wd := by rw [hq, Nat.add_mul]; omega
   rw [← hq] at hS hle
   have HQ := qh hq
   have HQ1 := qh hq1
   clear hq hq1
   have hql := hS.le
   by_cases hlt : k < n
   ·have hki : (k : Int) < (n : Int) := by omega
    have g1 : wr.cell? ⟨rr, 0 + 1, none⟩ = some (.int .i64 0) := hS.blk.cell 1
    by_cases hcut : 8 * l.length < q + wd
    ·have HN := qh (num_cut rr rb l q a c wd wr hS hw hl hcut)
     have HF : Hid (Fit (bitsOf true l).length p wd n k) := qh ⟨hk, by rw [← HQ.out]; exact hle, fun _ => by rw [HQ1.out, bitsOf_length]; exact hcut⟩
     have HV := qh (num1_cut (bs := bitsOf true l) (p := q) (w := wd) (by rw [bitsOf_length]; exact hcut))
     clear hS hcut
     go_wp2_with fail
     refine HN.out.mono ?_
     intro e w2 hnr
     unfold NumRes at hnr
     rw [HV.out] at hnr
     obtain ⟨rfl, hS2, hE2⟩ := hnr
     have hI2 := HI.out _ _ _ hIk hE2
     have g2 : w2.cell? ⟨rr, 0 + 1, none⟩ = some (.int .i64 10) := hS2.blk.cell 1
     clear HN g1 hIk hE2
     go_wp2_with fail
     go_roundw
     case rel => exact ⟨k + 1, by omega, by go_num, Or.inr (Or.inr ⟨k, q, rfl, hS2, HF.out, hI2⟩)⟩
     case measure => simp [intOf]; omega
    ·have hfit : q + wd ≤ 8 * l.length := by omega
     have HN := qh (num_yes rr rb l q a c wd wr hS hw hl hfit)
     have HV := qh (num1_yes (bs := bitsOf true l) (p := q) (w := wd) (by rw [bitsOf_length]; exact hfit))
     obtain ⟨x, hx⟩ : ∃ x, x = numAt (bitsOf true l) q wd := ⟨_, rfl⟩
     rw [← hx] at HV
     have hfit2 : q + wd ≤ (bitsOf true l).length := by rw [bitsOf_length]; exact hfit
     have HX := qh hx
     clear hS hcut hx
     go_wp2_with fail
     refine HN.out.mono ?_
     intro e w2 hnr
     unfold NumRes at hnr
     rw [HV.out] at hnr
     obtain ⟨rfl, hS2, hE2⟩ := hnr
     have hI2 := HI.out _ _ _ hIk hE2
     have g2 : w2.cell? ⟨rr, 0 + 1, none⟩ = some (.int .i64 0) := hS2.blk.cell 1
     have HT := qh (hTake.out k x w2 hlt (by rw [← HQ.out]; exact HX.out) (by rw [HQ1.out]; exact hfit2) (by rw [HQ1.out]; exact hS2) hI2)
     rw [HQ1.out] at HT
     clear HN g1 hIk hE2 hI2 hS2 hTake
     go_wp2_with fail
     refine HT.out.mono ?_
     rintro e w3 ⟨rfl, h3⟩
     clear HT
     go_wp2_with fail
     go_roundw
     case rel =>
      refine ⟨k + 1, by omega, by go_num, ?_⟩
      rw [HQ1.out]
      rcases h3 with ⟨hS3, hI3⟩ | ⟨hS3, hB3⟩
      ·exact Or.inl ⟨hS3, hfit2, hI3⟩
      ·exact Or.inr (Or.inl ⟨k, _, rfl, hS3, hfit2, hB3⟩)
     case measure => simp [intOf]; omega
   ·have hki : ¬ (k : Int) < (n : Int) := by omega
    obtain rfl : n = k := by omega
    have HA := qh (ralign_any rb true l q a c wr hS.rd (by omega))
    have g0 : wr.cell? ⟨rr, 0, none⟩ = some (.pointer (some ⟨rb, 0, none⟩)) := hS.blk.cell 0
    have HS := qh hS
    clear hS
    go_wp2_with fail
    refine HA.out.mono ?_
    rintro e w2 ⟨rfl, hR, hE⟩
    go_wp2_with fail
    go_end0
    refine ⟨rfl, 8 * ((q + 7) / 8), 0, HS.out.align hR hE, Or.inl ⟨rfl, ?_, by rw [← HQ.out]; exact hle, HI.out _ _ _ hIk (hE.mono (fun i _ e => Or.inr e))⟩⟩
    rw [← HQ.out]; rfl
  ·have g1 : wr.cell? ⟨rr, 0 + 1, none⟩ = some (.int .i64 27) := hS.blk.cell 1
   have HA := qh (ralign_any rb true l q a c wr hS.rd (by have := hS.le; omega))
   have g0 : wr.cell? ⟨rr, 0, none⟩ = some (.pointer (some ⟨rb, 0, none⟩)) := hS.blk.cell 0
   have HS := qh hS
   clear hS
   go_wp2_with fail
   all_goals
    refine HA.out.mono ?_
    rintro e w2 ⟨rfl, hR, hE⟩
    go_wp2_with fail
    go_end0
    exact ⟨rfl, 8 * ((q + 7) / 8), 27, HS.out.align hR hE, Or.inr (Or.inl ⟨rfl, j, by omega, hle, HB.out _ _ _ hBj (hE.mono (fun i _ e => Or.inr e))⟩)⟩
  ·have g1 : wr.cell? ⟨rr, 0 + 1, none⟩ = some (.int .i64 10) := hS.blk.cell 1
   have HA := qh (ralign_any rb true l q a c wr hS.rd (by have := hS.le; omega))
   have g0 : wr.cell? ⟨rr, 0, none⟩ = some (.pointer (some ⟨rb, 0, none⟩)) := hS.blk.cell 0
   have HS := qh hS
   clear hS
   go_wp2_with fail
   all_goals
    refine HA.out.mono ?_
    rintro e w2 ⟨rfl, hR, hE⟩
    go_wp2_with fail
    go_end0
    exact ⟨rfl, 8 * ((q + 7) / 8), 10, HS.out.align hR hE, Or.inr (Or.inr ⟨rfl, j, by omega, hF, HI.out _ _ _ hIj (hE.mono (fun i _ e => Or.inr e))⟩)⟩
def PskipTo (rr rb : Nat) (l : List UInt8) (a : Option Addr) (c : Nat) (er : Int) (W : World) (e : Ending) (W' : World) : Prop :=
 e = .returned (.tuple #[]) ∧ ∃ q : Nat, RS W' rr rb l (q, er) a c ∧ Ext (RdS rr rb) W W'
set_option maxHeartbeats 1000000 in
theorem prow_err (f : Value) (rr rb : Nat) (l : List UInt8) (a : Option Addr) (c p n wd : Nat) (er : Int) (W : World) (hS : RS W rr rb l (p, er) a c) (he : er ≠ 0) (hl : l.length ≤ 10000000) (hn : n ≤ 100000) :
 Calls Tryz.prog 117 #[.pointer (some ⟨rr, 0, none⟩), .int .i64 n, .int .i64 wd, f] W (PskipTo rr rb l a c er W) := by
 have g1 : W.cell? ⟨rr, 0 + 1, none⟩ = some (.int .i64 er) := hS.blk.cell 1
 have HA := qh (ralign_any rb true l p a c W hS.rd (by have := hS.le; omega))
 have g0 : W.cell? ⟨rr, 0, none⟩ = some (.pointer (some ⟨rb, 0, none⟩)) := hS.blk.cell 0
 have HS := qh hS
 have he1 : (er == 0) = false := by simpa using he
 clear hS
 by_cases h0 : (0 : Int) < (n : Int)
 all_goals
  go_enter Tryz.func117, Tryz.ntmps117
  go_wp2_with fail
  go_loopw [8] (fun i W' => i = .int .i64 0 ∧ W' = W) (fun _ _ => 0)
  case atStart => exact ⟨rfl, rfl⟩
  case round =>
   obtain ⟨rfl, rfl⟩ := hrel
   go_wp2_with fail
   refine HA.out.mono ?_
   rintro e w2 ⟨rfl, hR, hE⟩
   go_wp2_with fail
   go_end0
   exact ⟨rfl, 8 * ((p + 7) / 8), HS.out.align hR hE, hE.mono (fun i _ e => Or.inr e)⟩
end Go.Proofs.YtomcdhljjmnahaaGreat.P26
namespace Go.Proofs.YtomcdhljjmnahaaGreat.P26
def bN (x n : Nat) : List Bool := bitsNum true x n
theorem bN_len (x n : Nat) : (bN x n).length = n := bitsNum_length _ _ _
def least (ls : List Nat) : Nat := match ls with | [] => 0 | x :: xs => xs.foldl min x
def most (ls : List Nat) : Nat := match ls with | [] => 0 | x :: xs => xs.foldl max x
def width (ls : List Nat) : Nat := wid (most ls - least ls)
theorem foldl_min_le (xs : List Nat) (x : Nat) : xs.foldl min x ≤ x ∧ ∀ y ∈ xs, xs.foldl min x ≤ y := by
 induction xs generalizing x with
 | nil => exact ⟨Nat.le_refl _, fun y hy => by cases hy⟩
 | cons z xs ih =>
   obtain ⟨h1, h2⟩ := ih (min x z)
   refine ⟨Nat.le_trans h1 (Nat.min_le_left _ _), fun y hy => ?_⟩
   rcases List.mem_cons.1 hy with rfl | hy
   ·exact Nat.le_trans h1 (Nat.min_le_right _ _)
   ·exact h2 y hy
theorem foldl_max_le (xs : List Nat) (x : Nat) : x ≤ xs.foldl max x ∧ ∀ y ∈ xs, y ≤ xs.foldl max x := by
 induction xs generalizing x with
 | nil => exact ⟨Nat.le_refl _, fun y hy => by cases hy⟩
 | cons z xs ih =>
   obtain ⟨h1, h2⟩ := ih (max x z)
   refine ⟨Nat.le_trans (Nat.le_max_left _ _) h1, fun y hy => ?_⟩
   rcases List.mem_cons.1 hy with rfl | hy
   ·exact Nat.le_trans (Nat.le_max_right _ _) h1
   ·exact h2 y hy
theorem least_le {ls : List Nat} {y : Nat} (h : y ∈ ls) : least ls ≤ y := by
 cases ls with
 | nil => cases h
 | cons x xs =>
   rcases List.mem_cons.1 h with rfl | h
   ·exact (foldl_min_le xs _).1
   ·exact (foldl_min_le xs x).2 y h
theorem le_most {ls : List Nat} {y : Nat} (h : y ∈ ls) : y ≤ most ls := by
 cases ls with
 | nil => cases h
 | cons x xs =>
   rcases List.mem_cons.1 h with rfl | h
   ·exact (foldl_max_le xs _).1
   ·exact (foldl_max_le xs x).2 y h
theorem foldl_max_lt (xs : List Nat) (x B : Nat) (hx : x < B) (h : ∀ y ∈ xs, y < B) : xs.foldl max x < B := by
 induction xs generalizing x with
 | nil => exact hx
 | cons z xs ih => exact ih _ (Nat.max_lt.2 ⟨hx, h z (by simp)⟩) (fun y hy => h y (by simp [hy]))
theorem most_lt {ls : List Nat} {B : Nat} (hB : 0 < B) (h : ∀ y ∈ ls, y < B) : most ls < B := by
 cases ls with
 | nil => exact hB
 | cons x xs => exact foldl_max_lt xs x B (h x (by simp)) (fun y hy => h y (by simp [hy]))
theorem foldl_max_cast (xs : List Nat) (x : Nat) : (xs.map (fun y : Nat => (y : Int))).foldl max (x : Int) = ((xs.foldl max x : Nat) : Int) := by
 induction xs generalizing x with
 | nil => rfl
 | cons z xs ih => rw [List.map_cons, List.foldl_cons, List.foldl_cons, ← ih]; congr 1; omega
theorem above_lt {ls : List Nat} {y : Nat} (h : y ∈ ls) : y - least ls < 2 ^ width ls := by
 have h1 := le_most h
 have h2 := least_le h
 exact Nat.lt_of_le_of_lt (by omega) (lt_wid (most ls - least ls))
theorem width_le {ls : List Nat} (h : ∀ y ∈ ls, y < 4294967296) : width ls ≤ 32 := by
 unfold width
 exact wid_le.2 (Nat.lt_of_le_of_lt (Nat.sub_le _ _) (most_lt (by decide) h))
theorem align_id {bs : List Bool} (h : bs.length % 8 = 0) : align bs = bs := by
 unfold align
 rw [show 8 * ((bs.length + 7) / 8) - bs.length = 0 from by omega]; simp
theorem align_mod (bs : List Bool) : (align bs).length % 8 = 0 := by rw [align_length]; omega
theorem align_split (bs : List Bool) : ∃ z, align bs = bs ++ z := ⟨_, rfl⟩
end Go.Proofs.YtomcdhljjmnahaaGreat.P26
namespace Go.Proofs.YtomcdhljjmnahaaGreat.P26
open Go.RowKit
structure PH where
 o : Int
 l : Int
 sa : Option Addr
 sc : Nat
 sh : List Int
def numV (x : Int) : Value := .int .i64 x
def cellsP (p : PH) : List Value := [.int .i64 p.o, .int .i64 p.l, .slice p.sa p.sh.length p.sc]
theorem cellsP_len (l : List PH) : (l.flatMap cellsP).length = l.length * 3 := by
 induction l with
 | nil => rfl
 | cons p l ih => rw [List.flatMap_cons, List.length_append, ih, List.length_cons]; simp only [cellsP, List.length_cons, List.length_nil]; omega
theorem cellsP_get (l : List PH) (k : Nat) (hk : k < l.length) (j : Nat) (hj : j < 3) : (l.flatMap cellsP)[k * 3 + j]? = (cellsP l[k])[j]? := by
 induction l generalizing k with
 | nil => simp at hk
 | cons p l ih =>
   rw [List.flatMap_cons]
   cases k with
   | zero => rw [List.getElem?_append_left (by simp only [cellsP, List.length_cons, List.length_nil]; omega)]; simp
   | succ k =>
     rw [List.getElem?_append_right (by simp only [cellsP, List.length_cons, List.length_nil]; omega)]
     rw [show (k + 1) * 3 + j - (cellsP p).length = k * 3 + j from by simp only [cellsP, List.length_cons, List.length_nil]; omega, ih k (by simpa using hk)]
     simp
structure Hints (W : World) (ad : Option Addr) (ps : List PH) : Prop where
 row : RowOf W ad (ps.flatMap cellsP)
 sub : ∀ p ∈ ps, RowOf W p.sa (p.sh.map numV)
 fit : ∀ p ∈ ps, p.sh.length ≤ p.sc ∧ p.sc ≤ maxLen ∧ (p.sa = none → p.sc = 0)
theorem Hints.ext {S : Nat → Prop} {W W' : World} {ad : Option Addr} {ps : List PH} (h : Hints W ad ps) (e : Ext S W W') (hn : ∀ a, ad = some a → ¬ S a.block) (hs : ∀ p ∈ ps, ∀ a, p.sa = some a → ¬ S a.block) : Hints W' ad ps :=
 ⟨h.row.ext e hn, fun p hp => (h.sub p hp).ext e (hs p hp), h.fit⟩
theorem Hints.pure {W W' : World} {ad : Option Addr} {ps : List PH} (h : Hints W ad ps) (e : Pure W W') : Hints W' ad ps := h.ext e (fun _ _ => id) (fun _ _ _ _ => id)
theorem Hints.at {W : World} {ad : Option Addr} {ps : List PH} (h : Hints W ad ps) (k : Nat) (hk : k < ps.length) :
 ∃ b o, ad = some ⟨b, o, none⟩ ∧ W.cell? ⟨b, o + k * 3, none⟩ = some (.int .i64 ps[k].o) ∧ W.cell? ⟨b, o + k * 3 + 1, none⟩ = some (.int .i64 ps[k].l) ∧ W.cell? ⟨b, o + k * 3 + 2, none⟩ = some (.slice ps[k].sa ps[k].sh.length ps[k].sc) := by
 have h0 := cellsP_get ps k hk 0 (by omega)
 have h1 := cellsP_get ps k hk 1 (by omega)
 have h2 := cellsP_get ps k hk 2 (by omega)
 obtain ⟨b, o, rfl, c0⟩ := h.row (k * 3 + 0) _ (h0.trans rfl)
 obtain ⟨_, _, e, c1⟩ := h.row (k * 3 + 1) _ (h1.trans rfl)
 cases e
 obtain ⟨_, _, e, c2⟩ := h.row (k * 3 + 2) _ (h2.trans rfl)
 cases e
 exact ⟨b, o, rfl, c0, c1, c2⟩
theorem numV_at {w : World} {ad : Option Addr} {ls : List Int} (h : RowOf w ad (ls.map numV)) (i : Nat) (hi : i < ls.length) : ∃ b o, ad = some ⟨b, o, none⟩ ∧ w.cell? ⟨b, o + i, none⟩ = some (.int .i64 ls[i]) :=
 h i _ (by simp [hi, numV])
theorem all_take_succ {α : Type} {P : α → Prop} {l : List α} {k : Nat} (hk : k < l.length) (h : ∀ x ∈ l.take k, P x) (hx : P l[k]) : ∀ x ∈ l.take (k + 1), P x := by
 intro x hm
 rw [List.take_succ_eq_append_getElem hk, List.mem_append] at hm
 rcases hm with hm | hm
 ·exact h x hm
 ·rw [List.mem_singleton] at hm; rw [hm]; exact hx
def alikeB (ps qs : List PH) : Bool := decide (ps.map (fun p => (p.o, p.l, p.sh)) = qs.map (fun p => (p.o, p.l, p.sh)))
def inB (n a b : Int) : Bool := decide (a ≤ n) && decide (n ≤ b)
theorem inB_true {n a b : Int} : inB n a b = true ↔ a ≤ n ∧ n ≤ b := by simp [inB]
theorem inB_false {n a b : Int} : inB n a b = false ↔ n < a ∨ b < n := by
 rw [← Bool.not_eq_true, inB_true]; omega
def iV (x : Int) : Value := .int .i64 x
theorem within_any (n a b : Int) (w : World) : Calls Tryz.prog 82 #[.int .i64 n, .int .i64 a, .int .i64 b] w fun e w' => e = .returned (.bool (inB n a b)) ∧ w' = w := by
 cases h : inB n a b with
 | true =>
   obtain ⟨h1, h2⟩ := inB_true.1 h
   clear h
   go_enter Tryz.func82, Tryz.ntmps82
   go_wp2_with fail
   go_ret
   exact ⟨rfl, rfl⟩
 | false =>
   rcases inB_false.1 h with h1 | h1
   ·clear h
    have h2 : ¬ a ≤ n := by omega
    go_enter Tryz.func82, Tryz.ntmps82
    go_wp2_with fail
    go_ret
    exact ⟨rfl, rfl⟩
   ·clear h
    by_cases h2 : a ≤ n
    all_goals
     have h3 : ¬ n ≤ b := by omega
     go_enter Tryz.func82, Tryz.ntmps82
     go_wp2_with fail
     go_ret
     exact ⟨rfl, rfl⟩
def odd (x : Int) : Bool := !inB x 0 4095
theorem odd_any (x : Int) (w : World) : Calls Tryz.prog 96 #[.int .i64 x] w fun e w' => e = .returned (.bool (odd x)) ∧ w' = w := by
 have HO : Hid (odd x = !inB x 0 4095) := qh rfl
 have HW := qh (within_any x 0 4095 w)
 generalize inB x 0 4095 = β at *
 go_enter Tryz.func96, Tryz.ntmps96
 go_wp2_with fail
 refine HW.out.mono ?_
 rintro e w2 ⟨rfl, hw2⟩
 obtain rfl := hw2.symm
 go_wp2_with fail
 go_ret
 exact ⟨by rw [HO.out]; rfl, rfl⟩
def IdxRes (ls : List Int) (w : World) (e : Ending) (w' : World) : Prop := ∃ r : Int, e = .returned (.int .i64 r) ∧ decide (0 ≤ r) = ls.any odd ∧ w' = w
theorem iV_at {w : World} {ad : Option Addr} {ls : List Int} (h : RowOf w ad (ls.map iV)) (i : Nat) (hi : i < ls.length) : ∃ b o, ad = some ⟨b, o, none⟩ ∧ w.cell? ⟨b, o + i, none⟩ = some (.int .i64 ls[i]) :=
 h i _ (by simp [hi, iV])
theorem any_take_succ {α : Type} (p : α → Bool) (ls : List α) (k : Nat) (hk : k < ls.length) : (ls.take (k + 1)).any p = ((ls.take k).any p || p ls[k]) := by
 rw [List.take_add_one, List.getElem?_eq_getElem hk, List.any_append]; simp
theorem any_of_at {α : Type} (p : α → Bool) (ls : List α) (k : Nat) (hk : k < ls.length) (h : p ls[k] = true) : ls.any p = true := List.any_eq_true.2 ⟨_, List.getElem_mem _, h⟩
theorem index_any (ad : Option Addr) (cap : Nat) (ls : List Int) (w : World) (hr : RowOf w ad (ls.map iV)) (hl : ls.length ≤ 1000000000) :
 Calls Tryz.prog 79 #[.slice ad ls.length cap, .func (.func 96) #[] #[]] w (IdxRes ls w) := by
 go_enter Tryz.func79, Tryz.ntmps79
 go_wp2_with fail
 go_loopw [8, 5] (fun i _ w' => ∃ k : Nat, k ≤ ls.length ∧ i = .int .i64 k ∧ (ls.take k).any odd = false ∧ w' = w) (fun i _ _ => ls.length - (intOf i).toNat)
 case atStart => exact ⟨0, Nat.zero_le _, rfl, rfl, rfl⟩
 case round =>
  obtain ⟨k, hk, rfl, hno, hw⟩ := hrel
  obtain rfl := hw.symm
  have HNo := qh hno
  clear hno
  by_cases hlt : k < ls.length
  ·have hki : (k : Int) < (ls.length : Int) := by omega
   have hk0 : (0 : Int) ≤ (k : Int) := by omega
   obtain ⟨b, o, rfl, h0⟩ := iV_at hr k hlt
   have HB := qh (odd_any ls[k] w)
   have HT := qh (any_take_succ odd ls k hlt)
   have HA := qh (any_of_at odd ls k hlt)
   cases hb : odd ls[k] with
   | true =>
     rw [hb] at HB HA
     generalize ls[k] = x at *
     clear hb
     go_wp2_with fail
     refine HB.out.mono ?_
     rintro e w2 ⟨rfl, hw2⟩
     obtain rfl := hw2.symm
     go_wp2_with fail
     go_ret
     exact ⟨k, rfl, by rw [HA.out trivial]; simp, rfl⟩
   | false =>
     rw [hb, HNo.out] at HT
     have HB' := qh (hb ▸ HB.out)
     clear HB
     generalize ls[k] = x at *
     clear hb HA
     go_wp2_with fail
     refine HB'.out.mono ?_
     rintro e w2 ⟨rfl, hw2⟩
     obtain rfl := hw2.symm
     go_wp2_with fail
     go_roundw
     case rel => exact ⟨k + 1, by omega, by go_num, HT.out, by first | rfl | trivial⟩
     case measure => simp [intOf]; omega
  ·have hki : ¬ (k : Int) < (ls.length : Int) := by omega
   rw [List.take_of_length_le (by omega)] at HNo
   go_wp2_with fail
   go_ret
   exact ⟨-1, rfl, by rw [HNo.out]; rfl, rfl⟩
theorem contains_any (ad : Option Addr) (cap : Nat) (ls : List Int) (w : World) (hr : RowOf w ad (ls.map iV)) (hl : ls.length ≤ 1000000000) :
 Calls Tryz.prog 35 #[.slice ad ls.length cap, .func (.func 96) #[] #[]] w fun e w' => e = .returned (.bool (ls.any odd)) ∧ w' = w := by
 have HI := qh (index_any ad cap ls w hr hl)
 go_enter Tryz.func35, Tryz.ntmps35
 go_wp2_with fail
 refine HI.out.mono ?_
 rintro e w2 ⟨r, rfl, hd, hw2⟩
 obtain rfl := hw2.symm
 have HD := qh hd
 clear hd
 go_wp2_with fail
 go_ret
 exact ⟨by rw [← HD.out]; rfl, rfl⟩
def okP (p : PH) : Bool := !p.sh.any odd && inB p.o 1 4096 && inB p.l 1 2147483647
def totS (ps : List PH) : Nat := (ps.map (fun p => p.sh.length)).sum
def chk (a : Int) (ps : List PH) : Int :=
 if inB a 0 2147483647 && (inB (ps.length : Int) 1 2048 && ps.all okP) then (if 65536 < totS ps then 3 else 0) else 2
structure Mod (ps : List PH) : Prop where
 pages : ps.length ≤ 40
 numbers : ∀ p ∈ ps, p.sh.length ≤ 3000
structure Mod2 (ps : List PH) : Prop where
 pages : ps.length ≤ 100000
 numbers : ∀ p ∈ ps, p.sh.length ≤ 1000000
theorem Mod.mod2 {ps : List PH} (h : Mod ps) : Mod2 ps := ⟨by have := h.pages; omega, fun p hp => by have := h.numbers p hp; omega⟩
theorem totS_take_succ {ps : List PH} {k : Nat} (hk : k < ps.length) : totS (ps.take (k + 1)) = totS (ps.take k) + ps[k].sh.length := by
 unfold totS; rw [List.take_succ_eq_append_getElem hk, List.map_append, List.sum_append]; simp
theorem chk_bad {a : Int} {ps : List PH} {k : Nat} (hk : k < ps.length) (h : okP ps[k] = false) : chk a ps = 2 := by
 have : ps.all okP = false := by
  rw [← Bool.not_eq_true, List.all_eq_true]
  intro h'
  have := h' _ (List.getElem_mem hk)
  rw [h] at this; cases this
 unfold chk; rw [this]; simp
theorem chk_end {a : Int} {ps : List PH} (ha : inB a 0 2147483647 = true) (hl : inB (ps.length : Int) 1 2048 = true) (h : ∀ p ∈ ps, okP p = true) : chk a ps = if 65536 < totS ps then 3 else 0 := by
 have : ps.all okP = true := List.all_eq_true.2 h
 unfold chk; rw [this, ha, hl]; simp
theorem chk_head {a : Int} {ps : List PH} (h : inB a 0 2147483647 = false ∨ inB (ps.length : Int) 1 2048 = false) : chk a ps = 2 := by
 unfold chk; rcases h with h | h <;> rw [h] <;> simp
theorem okP_true {p : PH} (h1 : p.sh.any odd = false) (h2 : inB p.o 1 4096 = true) (h3 : inB p.l 1 2147483647 = true) : okP p = true := by unfold okP; rw [h1, h2, h3]; rfl
theorem okP_no {p : PH} (h : p.sh.any odd = true ∨ inB p.o 1 4096 = false ∨ inB p.l 1 2147483647 = false) : okP p = false := by
 unfold okP; rcases h with h | h | h <;> rw [h] <;> simp
def IntRes (x : Int) (w : World) (e : Ending) (w' : World) : Prop := e = .returned (.int .i64 x) ∧ Pure w w'
set_option maxHeartbeats 1000000 in
theorem check_big (a : Int) (ad : Option Addr) (c : Nat) (ps : List PH) (w : World) (h : Hints w ad ps) (hm : Mod2 ps) :
 Calls Tryz.prog 53 #[.int .i64 a, .slice ad ps.length c] w (IntRes (chk a ps) w) := by
 have hps := hm.pages
 obtain ⟨B, hB⟩ : ∃ B, B = chk a ps := ⟨_, rfl⟩
 rw [← hB]
 have HA := qh (within_any a 0 2147483647 w)
 have HN := qh (within_any (ps.length : Int) 1 2048 w)
 cases ha : inB a 0 2147483647 with
 | false =>
   have HB : Hid (B = 2) := qh (by rw [hB, chk_head (Or.inl ha)])
   rw [ha] at HA
   clear hB ha h
   go_enter Tryz.func53, Tryz.ntmps53
   go_wp2_with fail
   refine HA.out.mono ?_
   rintro e w2 ⟨rfl, hw2⟩
   obtain rfl := hw2.symm
   go_wp2_with fail
   go_ret
   exact ⟨by rw [HB.out]; rfl, Ext.refl _ _⟩
 | true =>
   rw [ha] at HA
   cases hn : inB (ps.length : Int) 1 2048 with
   | false =>
     have HB : Hid (B = 2) := qh (by rw [hB, chk_head (Or.inr hn)])
     rw [hn] at HN
     clear hB ha hn h
     go_enter Tryz.func53, Tryz.ntmps53
     go_wp2_with fail
     refine HA.out.mono ?_
     rintro e w2 ⟨rfl, hw2⟩
     obtain rfl := hw2.symm
     go_wp2_with fail
     refine HN.out.mono ?_
     rintro e w2 ⟨rfl, hw2⟩
     obtain rfl := hw2.symm
     go_wp2_with fail
     go_ret
     exact ⟨by rw [HB.out]; rfl, Ext.refl _ _⟩
   | true =>
     rw [hn] at HN
     have HB := qh hB
     have HAt := qh ha
     have HNt := qh hn
     have HM := qh hm
     clear hB ha hn hm
     go_enter Tryz.func53, Tryz.ntmps53
     go_wp2_with fail
     refine HA.out.mono ?_
     rintro e w2 ⟨rfl, hw2⟩
     obtain rfl := hw2.symm
     go_wp2_with fail
     refine HN.out.mono ?_
     rintro e w2 ⟨rfl, hw2⟩
     obtain rfl := hw2.symm
     clear HA HN
     go_wp2_with fail
     go_loopw [5, 7, 8, 20] (fun m _ _ i W => ∃ (k t : Nat), k ≤ ps.length ∧ i = .int .i64 k ∧ m = .int .i64 t ∧ Hid (t = min (totS (ps.take k)) 65537) ∧ t ≤ 65537 ∧ Hid (∀ p ∈ ps.take k, okP p = true) ∧ Pure w W) (fun _ _ _ i _ => ps.length - (intOf i).toNat)
     case atStart => exact ⟨0, 0, Nat.zero_le _, rfl, rfl, qh (by simp [totS]), by omega, qh (by simp), Ext.refl _ _⟩
     case round =>
      obtain ⟨k, t, hk, rfl, rfl, HT, ht, HO, hP⟩ := hrel
      by_cases hlt : k < ps.length
      ·have hki : (k : Int) < (ps.length : Int) := by omega
       obtain ⟨b, o, had, p0, p1, p2⟩ := (h.pure hP).at k hlt
       have hsub := (h.sub _ (List.getElem_mem hlt)).ext hP (fun _ _ => id)
       have hnum := HM.out.numbers _ (List.getElem_mem hlt)
       have HTS := qh (totS_take_succ hlt)
       have HBad := qh (fun e => chk_bad (a := a) hlt e)
       have HAll := qh (fun e => all_take_succ (P := fun p : PH => okP p = true) hlt HO.out e)
       obtain ⟨p, hpp⟩ : ∃ p, p = ps[k] := ⟨_, rfl⟩
       rw [← hpp] at p0 p1 p2 hsub hnum HTS HBad HAll
       have HC0 := fun W' (hE : Pure wr W') => contains_any p.sa p.sc p.sh W' (hsub.ext hE (fun _ _ => id)) (by omega)
       have HW1 := qh (within_any p.o 1 4096)
       have HW2 := qh (within_any p.l 1 2147483647)
       obtain ⟨po, pl, sa, sc, sh, rfl⟩ : ∃ po pl sa sc sh, p = ⟨po, pl, sa, sc, sh⟩ := ⟨p.o, p.l, p.sa, p.sc, p.sh, rfl⟩
       simp only at p0 p1 p2 hnum HC0 HW1 HW2 HTS
       have HC := qh HC0
       obtain ⟨n, hn⟩ : ∃ n, n = sh.length := ⟨_, rfl⟩
       subst had
       clear hpp HC0 hsub
       cases hodd : sh.any odd with
       | true =>
         have HF : Hid (chk a ps = 2) := qh (HBad.out (okP_no (Or.inl hodd)))
         rw [hodd] at HC
         clear hodd hn
         go_wp2_with fail
         refine (HC.out _ (ext_alloc wr _)).mono ?_
         rintro e w2 ⟨rfl, rfl⟩
         go_wp2_with fail
         go_ret
         exact ⟨by rw [HB.out, HF.out]; rfl, hP.alloc _⟩
       | false =>
         rw [hodd] at HC
         cases hw1 : inB po 1 4096 with
         | false =>
           have HF : Hid (chk a ps = 2) := qh (HBad.out (okP_no (Or.inr (Or.inl hw1))))
           rw [hw1] at HW1
           clear hodd hw1 hn
           go_wp2_with fail
           refine (HC.out _ (ext_alloc wr _)).mono ?_
           rintro e w2 ⟨rfl, rfl⟩
           go_wp2_with fail
           refine (HW1.out _).mono ?_
           rintro e w2 ⟨rfl, rfl⟩
           go_wp2_with fail
           go_ret
           exact ⟨by rw [HB.out, HF.out]; rfl, hP.alloc _⟩
         | true =>
           rw [hw1] at HW1
           cases hw2 : inB pl 1 2147483647 with
           | false =>
             have HF : Hid (chk a ps = 2) := qh (HBad.out (okP_no (Or.inr (Or.inr hw2))))
             rw [hw2] at HW2
             clear hodd hw1 hw2 hn
             go_wp2_with fail
             refine (HC.out _ (ext_alloc wr _)).mono ?_
             rintro e w2 ⟨rfl, rfl⟩
             go_wp2_with fail
             refine (HW1.out _).mono ?_
             rintro e w2 ⟨rfl, rfl⟩
             go_wp2_with fail
             refine (HW2.out _).mono ?_
             rintro e w2 ⟨rfl, rfl⟩
             go_wp2_with fail
             go_ret
             exact ⟨by rw [HB.out, HF.out]; rfl, hP.alloc _⟩
           | true =>
             rw [hw2] at HW2
             have HAll2 := qh (HAll.out (okP_true hodd hw1 hw2))
             have hT2 : min (totS (ps.take (k + 1))) 65537 = min (t + sh.length) 65537 := by rw [HTS.out, HT.out]; omega
             have HT2 := qh hT2
             clear hodd hw1 hw2 hn hT2
             go_wp2_with fail
             refine (HC.out _ (ext_alloc wr _)).mono ?_
             rintro e w2 ⟨rfl, rfl⟩
             go_wp2_with fail
             refine (HW1.out _).mono ?_
             rintro e w2 ⟨rfl, rfl⟩
             go_wp2_with fail
             refine (HW2.out _).mono ?_
             rintro e w2 ⟨rfl, rfl⟩
             go_wp2_with fail
             go_roundw
             case rel => exact ⟨k + 1, min (t + sh.length) 65537, by omega, by go_num, by congr 1; omega, qh HT2.out.symm, by omega, HAll2, hP.alloc _⟩
             case measure => simp [intOf]; omega
      ·have hki : ¬ (k : Int) < (ps.length : Int) := by omega
       have hall : ∀ p ∈ ps, okP p = true := by have := HO.out; rwa [List.take_of_length_le (by omega)] at this
       have hT := HT.out
       rw [List.take_of_length_le (by omega)] at hT
       have hchk := chk_end HAt.out HNt.out hall
       by_cases h6 : (65536 : Int) < (t : Int)
       ·have HF : Hid (chk a ps = 3) := qh (by rw [hchk, if_pos (by omega)])
        clear hchk hT hall
        go_wp2_with fail
        go_ret
        exact ⟨by rw [HB.out, HF.out]; rfl, hP⟩
       ·have HF : Hid (chk a ps = 0) := qh (by rw [hchk, if_neg (by omega)])
        clear hchk hT hall
        go_wp2_with fail
        go_ret
        exact ⟨by rw [HB.out, HF.out]; rfl, hP⟩
theorem check_any (a : Int) (ad : Option Addr) (c : Nat) (ps : List PH) (w : World) (h : Hints w ad ps) (hm : Mod ps) :
 Calls Tryz.prog 53 #[.int .i64 a, .slice ad ps.length c] w (IntRes (chk a ps) w) := check_big a ad c ps w h hm.mod2
end Go.Proofs.YtomcdhljjmnahaaGreat.P26
namespace Go.Proofs.YtomcdhljjmnahaaGreat.P26
open C26
def mx (ls : List Nat) : Nat := ls.foldl max 0
theorem le_mx {ls : List Nat} {y : Nat} (h : y ∈ ls) : y ≤ mx ls := (foldl_max_le ls 0).2 y h
theorem mx_lt {ls : List Nat} {B : Nat} (hB : 0 < B) (h : ∀ y ∈ ls, y < B) : mx ls < B := foldl_max_lt ls 0 B hB h
def fillN (n w x : Nat) : List Bool := (List.replicate n (x % 2 ^ w)).flatMap (fun y => bN y w)
theorem fillN_len (n w x : Nat) : (fillN n w x).length = n * w := by
 unfold fillN
 induction n with
 | zero => simp
 | succ n ih => rw [List.replicate_succ, List.flatMap_cons, List.length_append, ih, bN_len, Nat.add_mul]; omega
theorem fillN_zero (n x : Nat) : fillN n 0 x = [] := List.length_eq_zero_iff.1 (by rw [fillN_len, Nat.mul_zero])
def numsB (xs : List Nat) (w : Nat) : List Bool := xs.flatMap (fun x => bN x w)
theorem numsB_len (xs : List Nat) (w : Nat) : (numsB xs w).length = xs.length * w := by
 unfold numsB
 induction xs with
 | nil => simp
 | cons x xs ih => rw [List.flatMap_cons, List.length_append, ih, bN_len, List.length_cons, Nat.add_mul]; omega
theorem numsB_append (xs ys : List Nat) (w : Nat) : numsB (xs ++ ys) w = numsB xs w ++ numsB ys w := by unfold numsB; rw [List.flatMap_append]
theorem numsB_one (x w : Nat) : numsB [x] w = bN x w := by simp [numsB]
structure HN where
 os : List Nat
 ls : List Nat
 shs : List (List Nat)
namespace HN
def all (h : HN) : List Nat := h.shs.flatten
def counts (h : HN) : List Nat := h.shs.map List.length
def many (h : HN) : Nat := h.all.length
def wa (h : HN) : Nat := width h.os
def wb (h : HN) : Nat := width h.ls
def wc (h : HN) : Nat := wid (mx h.counts)
def wd (h : HN) : Nat := wid (mx h.all)
def above (xs : List Nat) : List Nat := xs.map (fun x => x - least xs)
structure Ok (h : HN) : Prop where
 pos : 1 ≤ h.os.length
 le : h.os.length ≤ 40
 ll : h.ls.length = h.os.length
 lsh : h.shs.length = h.os.length
 os : ∀ x ∈ h.os, 1 ≤ x ∧ x ≤ 4096
 ls : ∀ x ∈ h.ls, 1 ≤ x ∧ x ≤ 2147483647
 sh : ∀ x ∈ h.all, x ≤ 4095
 many : h.many ≤ 65536
end HN
structure RestN where
 f : Nat
 p : Nat
 q : Nat
 fill : Nat
def RestN.x (r : RestN) : Nat := if r.f + r.p + r.q = 0 then 0 else r.fill
def rest0 : RestN := ⟨0, 0, 0, 0⟩
def headB (a : Nat) (h : HN) (r : RestN) : List Bool :=
 bN (least h.os) 32 ++ bN a 32 ++ bN h.wa 16 ++ bN (least h.ls) 32 ++ bN h.wb 16 ++ bN r.x 32 ++ bN r.p 16 ++ bN r.x 32 ++ bN r.q 16 ++ bN h.wc 16 ++ bN h.wd 16 ++ bN r.f 16 ++ bN 1 16
theorem headB_len (a : Nat) (h : HN) (r : RestN) : (headB a h r).length = 288 := by simp [headB, bN_len]
def part1 (a : Nat) (h : HN) (r : RestN) : List Bool := align (headB a h r ++ numsB (HN.above h.os) h.wa)
def part2 (a : Nat) (h : HN) (r : RestN) : List Bool := align (part1 a h r ++ numsB (HN.above h.ls) h.wb)
def part3 (a : Nat) (h : HN) (r : RestN) : List Bool := align (part2 a h r ++ numsB h.counts h.wc)
def part4 (a : Nat) (h : HN) (r : RestN) : List Bool := align (part3 a h r ++ numsB h.all h.wd)
def part5 (a : Nat) (h : HN) (r : RestN) : List Bool := align (part4 a h r ++ fillN h.many r.f r.fill)
def part6 (a : Nat) (h : HN) (r : RestN) : List Bool := align (part5 a h r ++ fillN h.os.length r.p r.fill)
def tabB (a : Nat) (h : HN) (r : RestN) : List Bool := align (part6 a h r ++ fillN h.os.length r.q r.fill)
theorem tabB_plain (a : Nat) (h : HN) : tabB a h rest0 = part4 a h rest0 := by
 have e4 : align (part4 a h rest0) = part4 a h rest0 := align_id (align_mod _)
 unfold tabB part6 part5 rest0
 simp only [fillN_zero, List.append_nil]
 rw [show (⟨0, 0, 0, 0⟩ : RestN) = rest0 from rfl, e4, e4, e4]
end Go.Proofs.YtomcdhljjmnahaaGreat.P26
namespace Go.Proofs.YtomcdhljjmnahaaGreat.P26
open Go.RowKit C26
def h0 (bs : List Bool) : Nat := numAt bs 0 32
def h1 (bs : List Bool) : Nat := numAt bs 32 32
def h2 (bs : List Bool) : Nat := numAt bs 64 16
def h3 (bs : List Bool) : Nat := numAt bs 80 32
def h4 (bs : List Bool) : Nat := numAt bs 112 16
def h6 (bs : List Bool) : Nat := numAt bs 160 16
def h8 (bs : List Bool) : Nat := numAt bs 208 16
def h9 (bs : List Bool) : Nat := numAt bs 224 16
def h10 (bs : List Bool) : Nat := numAt bs 240 16
def h11 (bs : List Bool) : Nat := numAt bs 256 16
def HeadOk (bs : List Bool) : Prop := h1 bs ≤ 2147483647 ∧ h2 bs ≤ 32 ∧ h4 bs ≤ 32 ∧ h6 bs ≤ 32 ∧ h8 bs ≤ 32 ∧ h9 bs ≤ 32 ∧ h10 bs ≤ 32 ∧ h11 bs ≤ 32
structure DRes where
 e : Int
 a : Nat
 os : List Nat
 ls : List Nat
 shs : List (List Nat)
 m : Nat
def dErr (e : Int) : DRes := ⟨e, 0, [], [], [], 0⟩
def RowE (bs : List Bool) (p n w : Nat) (ok : List Nat → Prop) (e : Int) : Prop :=
 ∃ K, Fit bs.length p w n K ∧ ((¬ ok (vals bs p w K) ∧ e = 27) ∨ (ok (vals bs p w K) ∧ ((K ≠ n ∧ e = 10) ∨ (K = n ∧ e = 0))))
theorem RowE.unique {bs : List Bool} {p n w : Nat} {ok : List Nat → Prop} {e e' : Int} (h : RowE bs p n w ok e) (h' : RowE bs p n w ok e') : e = e' := by
 obtain ⟨K, hF, h⟩ := h
 obtain ⟨K', hF', h'⟩ := h'
 obtain rfl := hF.unique hF'
 rcases h with ⟨n1, rfl⟩ | ⟨y1, ⟨n2, rfl⟩ | ⟨y2, rfl⟩⟩ <;> rcases h' with ⟨m1, rfl⟩ | ⟨m1, ⟨m2, rfl⟩ | ⟨m2, rfl⟩⟩ <;> first | rfl | (exact absurd m1 n1) | (exact absurd y1 m1) | (exact absurd m2 n2) | (exact absurd y2 m2)
theorem RowE.zero {bs : List Bool} {p n w : Nat} {ok : List Nat → Prop} {e : Int} (h : RowE bs p n w ok e) (he : e = 0) : p + n * w ≤ bs.length ∧ ok (vals bs p w n) := by
 obtain ⟨K, hF, h⟩ := h
 rcases h with ⟨_, rfl⟩ | ⟨y1, ⟨_, rfl⟩ | ⟨rfl, _⟩⟩
 ·cases he
 ·cases he
 ·exact ⟨hF.fits, y1⟩
theorem RowE.of_zero {bs : List Bool} {p n w : Nat} {ok : List Nat → Prop} (h : p + n * w ≤ bs.length) (ho : ok (vals bs p w n)) : RowE bs p n w ok 0 :=
 ⟨n, ⟨Nat.le_refl _, h, fun h => absurd h (Nat.lt_irrefl _)⟩, Or.inr ⟨ho, Or.inr ⟨rfl, rfl⟩⟩⟩
def okO (l : Nat) (xs : List Nat) : Prop := ∀ x ∈ xs, inB ((l : Int) + (x : Int)) 1 4096 = true
def okL (l : Nat) (xs : List Nat) : Prop := ∀ x ∈ xs, inB ((l : Int) + (x : Int)) 1 2147483647 = true
def okC (xs : List Nat) : Prop := xs.sum ≤ 65536
def okS (xs : List Nat) : Prop := ∀ x ∈ xs, x ≤ 4095
def okA (xs : List Nat) : Prop := True
def q1 (bs : List Bool) (n : Nat) : Nat := al8 (288 + n * h2 bs)
def q2 (bs : List Bool) (n : Nat) : Nat := al8 (q1 bs n + n * h4 bs)
def q3 (bs : List Bool) (n : Nat) : Nat := al8 (q2 bs n + n * h9 bs)
def cnts (bs : List Bool) (n : Nat) : List Nat := vals bs (q2 bs n) (h9 bs) n
def mny (bs : List Bool) (n : Nat) : Nat := (cnts bs n).sum
def q4 (bs : List Bool) (n : Nat) : Nat := al8 (q3 bs n + mny bs n * h10 bs)
def q5 (bs : List Bool) (n : Nat) : Nat := al8 (q4 bs n + mny bs n * h11 bs)
def q6 (bs : List Bool) (n : Nat) : Nat := al8 (q5 bs n + n * h6 bs)
def q7 (bs : List Bool) (n : Nat) : Nat := al8 (q6 bs n + n * h8 bs)
def cut : List Nat → List Nat → List (List Nat)
 | [], _ => []
 | c :: cs, xs => xs.take c :: cut cs (xs.drop c)
theorem cut_flat : ∀ (ls : List (List Nat)), cut (ls.map List.length) ls.flatten = ls
 | [] => rfl
 | l :: ls => by
   rw [List.map_cons, List.flatten_cons, cut, List.take_left' rfl, List.drop_left' rfl, cut_flat ls]
def First (E : Int → Prop) (r : DRes) (k : Prop) : Prop := ∃ e, E e ∧ ((e ≠ 0 ∧ r = dErr e) ∨ (e = 0 ∧ k))
theorem First.unique {E : Int → Prop} {r r' : DRes} {k k' : Prop} (hE : ∀ e e', E e → E e' → e = e') (hk : k → k' → r = r') (h : First E r k) (h' : First E r' k') : r = r' := by
 obtain ⟨e, h1, h2⟩ := h
 obtain ⟨e', h1', h2'⟩ := h'
 obtain rfl := hE _ _ h1 h1'
 rcases h2 with ⟨n, rfl⟩ | ⟨z, hk1⟩
 ·rcases h2' with ⟨_, rfl⟩ | ⟨z, _⟩
  ·rfl
  ·exact absurd z n
 ·rcases h2' with ⟨n, _⟩ | ⟨_, hk2⟩
  ·exact absurd z n
  ·exact hk hk1 hk2
def good (bs : List Bool) (n : Nat) : DRes :=
 ⟨0, h1 bs, (vals bs 288 (h2 bs) n).map (fun x => h0 bs + x), (vals bs (q1 bs n) (h4 bs) n).map (fun x => h3 bs + x), cut (cnts bs n) (vals bs (q3 bs n) (h10 bs) (mny bs n)), q7 bs n / 8⟩
def Rest7 (bs : List Bool) (n : Nat) (r : DRes) : Prop := First (RowE bs (q6 bs n) n (h8 bs) okA) r (r = good bs n)
def Rest6 (bs : List Bool) (n : Nat) (r : DRes) : Prop := First (RowE bs (q5 bs n) n (h6 bs) okA) r (Rest7 bs n r)
def Rest5 (bs : List Bool) (n : Nat) (r : DRes) : Prop := First (RowE bs (q4 bs n) (mny bs n) (h11 bs) okA) r (Rest6 bs n r)
def Rest4 (bs : List Bool) (n : Nat) (r : DRes) : Prop := First (RowE bs (q3 bs n) (mny bs n) (h10 bs) okS) r (Rest5 bs n r)
def Rest3 (bs : List Bool) (n : Nat) (r : DRes) : Prop := First (RowE bs (q2 bs n) n (h9 bs) okC) r (Rest4 bs n r)
def Rest2 (bs : List Bool) (n : Nat) (r : DRes) : Prop := First (RowE bs (q1 bs n) n (h4 bs) (okL (h3 bs))) r (Rest3 bs n r)
def Rest1 (bs : List Bool) (n : Nat) (r : DRes) : Prop := First (RowE bs 288 n (h2 bs) (okO (h0 bs))) r (Rest2 bs n r)
theorem rest_unique {bs : List Bool} {n : Nat} {r r' : DRes} (h : Rest1 bs n r) (h' : Rest1 bs n r') : r = r' :=
 First.unique (fun _ _ => RowE.unique) (First.unique (fun _ _ => RowE.unique) (First.unique (fun _ _ => RowE.unique) (First.unique (fun _ _ => RowE.unique) (First.unique (fun _ _ => RowE.unique) (First.unique (fun _ _ => RowE.unique) (First.unique (fun _ _ => RowE.unique) (fun e e' => e.trans e'.symm))))))) h h'
def DecTo (bs : List Bool) (n : Int) (r : DRes) : Prop :=
 (inB n 1 2048 = false ∧ r = dErr 2) ∨ (inB n 1 2048 = true ∧ ((bs.length < 288 ∧ r = dErr 10) ∨ (288 ≤ bs.length ∧ ((¬ HeadOk bs ∧ r = dErr 27) ∨ (HeadOk bs ∧ Rest1 bs n.toNat r)))))
theorem dec_unique {bs : List Bool} {n : Int} {r r' : DRes} (h : DecTo bs n r) (h' : DecTo bs n r') : r = r' := by
 rcases h with ⟨a, rfl⟩ | ⟨a, ⟨b, rfl⟩ | ⟨b, ⟨c, rfl⟩ | ⟨c, d⟩⟩⟩ <;> rcases h' with ⟨a', rfl⟩ | ⟨a', ⟨b', rfl⟩ | ⟨b', ⟨c', rfl⟩ | ⟨c', d'⟩⟩⟩ <;>
  first
   | rfl
   | exact absurd (a.symm.trans a') (by decide)
   | omega
   | exact absurd c' c
   | exact absurd c c'
   | exact rest_unique d d'
theorem own_setc {w : World} {B e n c size : Nat} {a : Option Addr} {xs : List Value} (h : w.ownsRow B e size (.slice a n c) n xs) (i : Nat) (hi : i < n * size) (u : Value) : ∃ g, a = some ⟨g, 0, none⟩ ∧ B ≤ g ∧ (∃ y, w.cell? ⟨g, i, none⟩ = some y) ∧ w.frozen? ⟨g, i, none⟩ = false ∧ (w.setCell ⟨g, i, none⟩ u).ownsRow B e size (.slice a n c) n (xs.set i u) := by
 have hlen := h.1
 rcases h.2 with ⟨_, rfl⟩ | ⟨g, cap, cur, hv, hg, hh, h1, h2, h3, h4⟩
 ·simp at hlen; omega
 ·cases hv
  have hcs : i < cur.size := by
   rw [h3]
   exact Nat.lt_of_lt_of_le hi (Nat.mul_le_mul_right _ h1)
  refine ⟨g, rfl, hg, ?_, ?_, ?_⟩
  ·exact ⟨cur[i], by unfold World.cell?; simp [hh, hcs]⟩
  ·unfold World.frozen?; simp [hh]
  ·refine ⟨by simpa using hlen, .inr ⟨g, c, cur.setIfInBounds i u, rfl, hg, ?_, h1, h2, by simpa using h3, ?_⟩⟩
   ·unfold World.setCell; simp only [Array.getElem?_modify]; rw [hh]; simp
   ·rw [← h4]; simp [List.take_set]
def Fit3 (bs : List Bool) (p many n w11 w6 w8 : Nat) : Prop := p + many * w11 ≤ bs.length ∧ al8 (p + many * w11) + n * w6 ≤ bs.length ∧ al8 (al8 (p + many * w11) + n * w6) + n * w8 ≤ bs.length
instance (bs : List Bool) (p many n w11 w6 w8 : Nat) : Decidable (Fit3 bs p many n w11 w6 w8) := by unfold Fit3; infer_instance
def RestTo (bs : List Bool) (p many n w11 w6 w8 : Nat) (w : World) (e : Ending) (w' : World) : Prop :=
 ∃ z : Int, e = .returned (.tuple #[.int .i64 z, .bool (decide (Fit3 bs p many n w11 w6 w8))]) ∧ (Fit3 bs p many n w11 w6 w8 → z = (al8 (al8 (al8 (p + many * w11) + n * w6) + n * w8) : Nat)) ∧ Pure w w'
theorem al8_le' {x L : Nat} (h : x ≤ L) (h8 : L % 8 = 0) : al8 x ≤ L := by unfold al8; omega
theorem vals_at (bs : List Bool) (p w K k : Nat) (h : k < K) : (vals bs p w K)[k]? = some (numAt bs (p + k * w) w) := by simp [vals, h]
theorem vals_mem (bs : List Bool) (p w K k : Nat) (h : k < K) : numAt bs (p + k * w) w ∈ vals bs p w K := by simp only [vals, List.mem_map, List.mem_range]; exact ⟨k, h, rfl⟩
theorem vals_sum_mono (bs : List Bool) (p w : Nat) {k K : Nat} (h : k ≤ K) : (vals bs p w k).sum ≤ (vals bs p w K).sum := by
 induction K with
 | zero => obtain rfl : k = 0 := by omega
           exact Nat.le_refl _
 | succ K ih =>
   by_cases e : k = K + 1
   ·rw [e]; exact Nat.le_refl _
   ·rw [vals_succ, List.sum_append]
    have := ih (by omega)
    omega
theorem fit_lt {L p w n K : Nat} (h : Fit L p w n K) (hne : K ≠ n) : L < p + n * w := by
 have h1 : K < n := by have := h.le; omega
 have h2 := h.cut h1
 have h3 : (K + 1) * w ≤ n * w := Nat.mul_le_mul_right w h1
 omega
set_option maxHeartbeats 2000000 in
theorem refrest_any (bs : List Bool) (a : Option Addr) (c : Nat) (p many n w11 w6 w8 : Nat) (hb : Nat) (w : World) (hr : RowOf w a (bs.map Value.bool)) (hcap : bs.length ≤ c) (hnil : a = none → c = 0) (hlen : bs.length ≤ 80000000) (h8 : bs.length % 8 = 0) (hp : p ≤ bs.length) (hm : many ≤ 1000000) (hn : n ≤ 1000000) (hw1 : w11 ≤ 32) (hw2 : w6 ≤ 32) (hw3 : w8 ≤ 32)
 (c11 : w.cell? ⟨hb, 11, none⟩ = some (.int .i64 w11)) (c6 : w.cell? ⟨hb, 6, none⟩ = some (.int .i64 w6)) (c8 : w.cell? ⟨hb, 8, none⟩ = some (.int .i64 w8)) :
 Calls Tryz.prog 93 #[.slice a bs.length c, .int .i64 p, .int .i64 many, .int .i64 n, .slice (some ⟨hb, 0, none⟩) 13 13] w (RestTo bs p many n w11 w6 w8 w) := by
 have HRow1 := qh (refrow_any bs a c p many w11 w hr hcap hnil (by omega) hw1 hp (by omega))
 have HRow2 := qh (fun W (hP : Pure w W) p' (h : p' ≤ bs.length) => refrow_any bs a c p' n w6 W (hr.ext hP (fun _ _ => id)) hcap hnil (by omega) hw2 h (by omega))
 have HRow3 := qh (fun W (hP : Pure w W) p' (h : p' ≤ bs.length) => refrow_any bs a c p' n w8 W (hr.ext hP (fun _ _ => id)) hcap hnil (by omega) hw3 h (by omega))
 have H8 := qh h8
 clear hr h8
 go_enter Tryz.func93, Tryz.ntmps93
 go_wp2_with fail
 refine HRow1.out.mono ?_
 rintro e w1 ⟨K1, x1, y1, hF1, rfl, hO1, hP1⟩
 clear HRow1 hO1
 by_cases hK1 : K1 = many
 ·subst hK1
  obtain ⟨q1, hq1⟩ : ∃ z, z = al8 (p + K1 * w11) := ⟨_, rfl⟩
  have hq1l : q1 ≤ bs.length := hq1 ▸ al8_le' hF1.fits H8.out
  rw [if_pos rfl, decide_eq_true rfl, ← hq1]
  have HF1 := qh hF1
  have HQ1 := qh hq1
  have d6 := hP1.cell_some c6 id
  clear hF1 hq1
  go_wp2_with fail
  refine (HRow2.out w1 hP1 q1 hq1l).mono ?_
  rintro e w2 ⟨K2, x2, y2, hF2, rfl, hO2, hP2⟩
  clear HRow2 hO2 d6
  by_cases hK2 : K2 = n
  ·subst hK2
   obtain ⟨q2, hq2⟩ : ∃ z, z = al8 (q1 + K2 * w6) := ⟨_, rfl⟩
   have hq2l : q2 ≤ bs.length := hq2 ▸ al8_le' hF2.fits H8.out
   rw [if_pos rfl, decide_eq_true rfl, ← hq2]
   have HF2 := qh hF2
   have HQ2 := qh hq2
   have d8 := (hP1.pure hP2).cell_some c8 id
   clear hF2 hq2
   go_wp2_with fail
   refine (HRow3.out w2 (hP1.pure hP2) q2 hq2l).mono ?_
   rintro e w3 ⟨K3, x3, y3, hF3, rfl, hO3, hP3⟩
   clear HRow3 hO3 d8
   by_cases hK3 : K3 = K2
   ·subst hK3
    obtain ⟨q3, hq3⟩ : ∃ z, z = al8 (q2 + K3 * w8) := ⟨_, rfl⟩
    have hfit : Fit3 bs p K1 K3 w11 w6 w8 := ⟨HF1.out.fits, by rw [← HQ1.out]; exact HF2.out.fits, by rw [← HQ1.out, ← HQ2.out]; exact hF3.fits⟩
    rw [if_pos rfl, decide_eq_true rfl, ← hq3]
    have HFit := qh hfit
    have HQ3 := qh hq3
    clear hfit hq3 hF3
    go_wp2_with fail
    go_ret2
    exact ⟨(q3 : Nat), by rw [decide_eq_true HFit.out]; rfl, fun _ => by rw [HQ3.out, HQ2.out, HQ1.out], (hP1.pure hP2).pure hP3⟩
   ·have hnf : ¬ Fit3 bs p K1 K2 w11 w6 w8 := fun ⟨_, _, h⟩ => by
     rw [← HQ1.out, ← HQ2.out] at h
     have := fit_lt hF3 hK3
     omega
    rw [if_neg hK3, decide_eq_false hK3]
    have HNF := qh hnf
    clear hnf hF3 hK3
    go_wp2_with fail
    go_ret2
    exact ⟨0, by rw [decide_eq_false HNF.out]; rfl, fun h => absurd h HNF.out, (hP1.pure hP2).pure hP3⟩
  ·have hnf : ¬ Fit3 bs p K1 n w11 w6 w8 := fun ⟨_, h, _⟩ => by
    rw [← HQ1.out] at h
    have := fit_lt hF2 hK2
    omega
   rw [if_neg hK2, decide_eq_false hK2]
   have HNF := qh hnf
   clear hnf hF2 hK2
   go_wp2_with fail
   go_ret2
   exact ⟨0, by rw [decide_eq_false HNF.out]; rfl, fun h => absurd h HNF.out, hP1.pure hP2⟩
 ·have hnf : ¬ Fit3 bs p many n w11 w6 w8 := fun ⟨h, _, _⟩ => by
   have := fit_lt hF1 hK1
   omega
  rw [if_neg hK1, decide_eq_false hK1]
  have HNF := qh hnf
  clear hnf hF1 hK1
  go_wp2_with fail
  go_ret2
  exact ⟨0, by rw [decide_eq_false HNF.out]; rfl, fun h => absurd h HNF.out, hP1⟩
theorem infoPage : (Tryz.prog.info? 53).map (fun i => (i.zero, i.size, i.bytes)) = some (some (.agg #[.int .i64 0, .int .i64 0, .slice none 0 0]), 3, 40) := by kernel_rfl
def noPage : PH := ⟨0, 0, none, 0, []⟩
theorem made_pages (n : Nat) : (madeCells #[.int .i64 0, .int .i64 0, .slice none 0 0] (n * 3)).toList = (List.replicate n noPage).flatMap cellsP := by
 apply List.ext_getElem?
 intro i
 by_cases h : i < n * 3
 ·have hk : i / 3 < (List.replicate n noPage).length := by rw [List.length_replicate]; omega
  have e := cellsP_get (List.replicate n noPage) (i / 3) hk (i % 3) (by omega)
  rw [show i / 3 * 3 + i % 3 = i from by omega, List.getElem_replicate] at e
  rw [e]
  unfold madeCells
  have h3 : i % 3 = 0 ∨ i % 3 = 1 ∨ i % 3 = 2 := by omega
  simp only [Array.toList_map, Array.toList_range, List.getElem?_map, List.getElem?_range h, Option.map_some]
  rcases h3 with h3 | h3 | h3 <;> rw [show i % (#[Value.int .i64 0, .int .i64 0, .slice none 0 0] : Array Value).size = i % 3 from rfl, h3] <;> rfl
 ·rw [List.getElem?_eq_none, List.getElem?_eq_none]
  ·rw [cellsP_len, List.length_replicate]; omega
  ·unfold madeCells; simp; omega
theorem cellsP_set : ∀ (ps : List PH) (k j : Nat) (u : Value) (p' : PH) (hk : k < ps.length) (hj : j < 3), cellsP p' = (cellsP ps[k]).set j u → (ps.flatMap cellsP).set (k * 3 + j) u = (ps.set k p').flatMap cellsP
 | p :: ps, 0, j, u, p', hk, hj, h => by
   have hl : (cellsP p).length = 3 := rfl
   rw [List.flatMap_cons, sZ, List.flatMap_cons, Nat.zero_mul, Nat.zero_add, List.set_append_left _ _ (by omega), h]
   rfl
 | p :: ps, k + 1, j, u, p', hk, hj, h => by
   have hl : (cellsP p).length = 3 := rfl
   rw [List.flatMap_cons, sS, List.flatMap_cons, List.set_append_right _ _ (by omega), show (k + 1) * 3 + j - (cellsP p).length = k * 3 + j from by rw [hl]; omega]
   rw [cellsP_set ps k j u p' (by simpa using hk) hj (by simpa using h)]
structure OutIs (W : World) (ob n : Nat) (ps : List PH) : Prop where
 own : W.ownsRow ob 53 3 (.slice (some ⟨ob, 0, none⟩) n n) n (ps.flatMap cellsP)
 len : ps.length = n
theorem OutIs.lt {W : World} {ob n : Nat} {ps : List PH} (h : OutIs W ob n ps) : ob < W.heap.size := (h.own.lt _ rfl).2
theorem OutIs.ext {S : Nat → Prop} {W W' : World} {ob n : Nat} {ps : List PH} (h : OutIs W ob n ps) (e : Ext S W W') (hn : ¬ S ob) : OutIs W' ob n ps := ⟨own_ext h.own e (fun g hg => by cases hg; exact hn), h.len⟩
theorem OutIs.cell {W : World} {ob n : Nat} {ps : List PH} (h : OutIs W ob n ps) (k j : Nat) (hk : k < ps.length) (hj : j < 3) {u : Value} (hu : (cellsP ps[k])[j]? = some u) : W.cell? ⟨ob, k * 3 + j, none⟩ = some u := by
 obtain ⟨b, o, e, hc⟩ := own_row h.own (k * 3 + j) u (by rw [cellsP_get ps k hk j hj]; exact hu)
 cases e
 rw [Nat.zero_add] at hc; exact hc
theorem OutIs.set {W : World} {ob n : Nat} {ps : List PH} (h : OutIs W ob n ps) (k j : Nat) (hk : k < ps.length) (hj : j < 3) (u : Value) (p' : PH) (hp : cellsP p' = (cellsP ps[k]).set j u) :
 (∃ y, W.cell? ⟨ob, k * 3 + j, none⟩ = some y) ∧ W.frozen? ⟨ob, k * 3 + j, none⟩ = false ∧ OutIs (W.setCell ⟨ob, k * 3 + j, none⟩ u) ob n (ps.set k p') := by
 obtain ⟨g, hg, _, hy, hf, hO⟩ := own_setc h.own (k * 3 + j) (by have := h.len; omega) u
 cases hg
 refine ⟨hy, hf, ?_, by rw [List.length_set]; exact h.len⟩
 rw [← cellsP_set ps k j u p' hk hj hp]; exact hO
theorem map_set_same {β : Type} (f : PH → β) (ps : List PH) (k : Nat) (p' : PH) (hk : k < ps.length) (h : f p' = f ps[k]) : (ps.set k p').map f = ps.map f := by
 rw [List.map_set, h]
 apply List.ext_getElem?
 intro i
 rw [List.getElem?_set]
 split
 ·next e => subst e; simp [hk]
 ·rfl
theorem take_map_set {β : Type} (f : PH → β) (ps : List PH) (k : Nat) (p' : PH) (hk : k < ps.length) : ((ps.set k p').take (k + 1)).map f = (ps.take k).map f ++ [f p'] := by
 rw [List.take_succ_eq_append_getElem (by simpa using hk)]
 simp [List.take_set_of_le]
def HoldTo (rr rb : Nat) (l : List UInt8) (p : Nat) (er : Int) (a : Option Addr) (c : Nat) (W : World) (e : Ending) (W' : World) : Prop := e = .returned (.tuple #[]) ∧ RS W' rr rb l (p, er) a c ∧ Ext (fun i => i = rr) W W'
theorem hold_any (so : Bool) (rr rb : Nat) (l : List UInt8) (a : Option Addr) (c p : Nat) (W : World) (hS : RS W rr rb l (p, 0) a c) :
 Calls Tryz.prog 116 #[.pointer (some ⟨rr, 0, none⟩), .bool so] W (HoldTo rr rb l p (if so = true then 0 else 27) a c W) := by
 have g1 : W.cell? ⟨rr, 0 + 1, none⟩ = some (.int .i64 0) := hS.blk.cell 1
 have f1 : W.frozen? ⟨rr, 0 + 1, none⟩ = false := hS.blk.free 1
 have HS := qh hS
 clear hS
 cases so with
 | true =>
   go_enter Tryz.func116, Tryz.ntmps116
   go_wp2_with fail
   go_end0
   exact ⟨rfl, HS.out, Ext.refl _ _⟩
 | false =>
   go_enter Tryz.func116, Tryz.ntmps116
   go_wp2_with fail
   go_end0
   exact ⟨rfl, HS.out.setErr 27, (Ext.refl (fun i => i = rr) W).setCell (p := ⟨rr, 1, none⟩) (fun _ => rfl) _⟩
structure PBox (W : World) (rr hb ub pb ob N : Nat) (hv : List Value) : Prop where
 h : BlockIs W hb hv 134
 u : BlockIs W ub [.slice (some ⟨ob, 0, none⟩) N N] 22
 p : BlockIs W pb [.pointer (some ⟨rr, 0, none⟩)] 128
theorem PBox.ext {S : Nat → Prop} {W W' : World} {rr hb ub pb ob N : Nat} {hv : List Value} (h : PBox W rr hb ub pb ob N hv) (e : Ext S W W') (h1 : ¬ S hb) (h2 : ¬ S ub) (h3 : ¬ S pb) : PBox W' rr hb ub pb ob N hv := ⟨h.h.ext e h1, h.u.ext e h2, h.p.ext e h3⟩
def Take1To (rr rb : Nat) (l : List UInt8) (a : Option Addr) (c p : Nat) (ob N k : Nat) (z : Int) (ps : List PH) (W : World) (e : Ending) (W' : World) : Prop :=
 e = .returned (.tuple #[]) ∧ RS W' rr rb l (p, if inB z 1 4096 = true then 0 else 27) a c ∧ (∃ ps', OutIs W' ob N ps' ∧ (ps'.take (k + 1)).map (fun p => p.o) = (ps.take k).map (fun p => p.o) ++ [z] ∧ ps'.map (fun p => p.l) = ps.map (fun p => p.l)) ∧ Ext (fun i => i = rr ∨ i = ob) W W'
set_option maxHeartbeats 2000000 in
theorem take1_any (rr rb : Nat) (l : List UInt8) (a : Option Addr) (c p : Nat) (hb ub pb ob N k x v0 : Nat) (hv : List Value) (ps : List PH) (W : World) (hB : PBox W rr hb ub pb ob N hv) (h0 : hv[0]? = some (.int .i64 v0)) (hO : OutIs W ob N ps) (hk : k < N) (hN : N ≤ 2048) (hx : x < 4294967296) (hv0 : v0 < 4294967296) (hS : RS W rr rb l (p, 0) a c) (hne : ob ≠ rr ∧ ob ≠ rb ∧ (∀ g, a = some g → g.block ≠ ob) ∧ hb ≠ ob ∧ ub ≠ ob ∧ pb ≠ ob ∧ ub ≠ rr ∧ pb ≠ rr) :
 Calls Tryz.prog 118 #[.int .i64 k, .int .i64 x, .pointer (some ⟨hb, 0, none⟩), .pointer (some ⟨ub, 0, none⟩), .pointer (some ⟨pb, 0, none⟩)] W (Take1To rr rb l a c p ob N k ((v0 : Int) + (x : Int)) ps W) := by
 obtain ⟨n1, n2, n3, n4, n5, n6, n7, n8⟩ := hne
 have c0 : W.cell? ⟨hb, 0, none⟩ = some (.int .i64 v0) := by rw [← h0]; exact hB.h.cell 0
 have c1 : W.cell? ⟨ub, 0, none⟩ = some (.slice (some ⟨ob, 0, none⟩) N N) := hB.u.cell 0
 have hkp : k < ps.length := by have := hO.len; omega
 have hki : (k : Int) < (N : Int) := by omega
 obtain ⟨z, hz⟩ : ∃ z : Int, z = (v0 : Int) + (x : Int) := ⟨_, rfl⟩
 obtain ⟨pp, hpp⟩ : ∃ pp : PH, pp = { ps[k] with o := z } := ⟨_, rfl⟩
 obtain ⟨⟨y, hy⟩, hf, hO1⟩ := hO.set k 0 hkp (by omega) (.int .i64 z) pp (by rw [hpp]; rfl)
 have hM1 : ((ps.set k pp).take (k + 1)).map (fun p => p.o) = (ps.take k).map (fun p => p.o) ++ [z] := by rw [take_map_set (fun p : PH => p.o) ps k pp hkp, hpp]
 have hM2 : (ps.set k pp).map (fun p => p.l) = ps.map (fun p => p.l) := map_set_same (fun p : PH => p.l) ps k pp hkp (by rw [hpp])
 have hX1 : Ext (fun i => i = ob) W (W.setCell ⟨ob, k * 3, none⟩ (.int .i64 z)) := (Ext.refl (fun i => i = ob) W).setCell (p := ⟨ob, k * 3, none⟩) (fun _ => rfl) _
 have hcell : (cellsP ((ps.set k pp)[k]'(by simpa using hkp)))[0]? = some (.int .i64 z) := by rw [List.getElem_set_self, hpp]; rfl
 have HM := qh (And.intro hM1 hM2)
 obtain ⟨W1, hW1⟩ : ∃ z', z' = W.setCell ⟨ob, k * 3, none⟩ (.int .i64 z) := ⟨_, rfl⟩
 try simp only [Nat.add_zero] at hy hf hO1
 rw [← hW1] at hO1 hX1
 have hB1 := hB.ext hX1 n4 n5 n6
 have hS1 := hS.ext hX1 (fun e => n1 e.symm) (fun e => n2 e.symm) (fun g hg e => n3 g hg e)
 have HH := qh (fun (so : Bool) (W2 : World) (hP : Pure W1 W2) => hold_any so rr rb l a c p W2 (hS1.pure hP))
 have HW1 := qh hW1
 have HZ := qh hz
 have hz1 : 0 ≤ z := by omega
 have hz2 : z < 8589934592 := by omega
 have d0 : W1.drew.cell? ⟨pb, 0, none⟩ = some (.pointer (some ⟨rr, 0, none⟩)) := hB1.p.cell 0
 have d1 : W1.drew.cell? ⟨ub, 0, none⟩ = some (.slice (some ⟨ob, 0, none⟩) N N) := hB1.u.cell 0
 have d2 : W1.drew.cell? ⟨ob, k * 3, none⟩ = some (.int .i64 z) := hO1.cell k 0 (by simpa using hkp) (by omega) hcell
 have k0 := fun w' (hS : Ext (fun i => i = rr) W1.drew w') => hS.cell_some d0 (fun e => n8 e)
 have k1 := fun w' (hS : Ext (fun i => i = rr) W1.drew w') => hS.cell_some d1 (fun e => n7 e)
 have k2 := fun w' (hS : Ext (fun i => i = rr) W1.drew w') => hS.cell_some d2 (fun e => n1 e)
 have hyd : W.cell? ⟨ob, k * 3, none⟩ = some y := hy
 have hfd : W.frozen? ⟨ob, k * 3, none⟩ = false := hf
 have hzw : (v0 : Int) + (x : Int) = z := hz.symm
 clear hB hO h0 hpp hW1 hz hM1 hM2 hcell hy hf
 go_enter Tryz.func118, Tryz.ntmps118
 go_wp2_with fail
 rw [← HW1.out]
 refine region_start (fun i => i = rr) (by kernel_rfl) ?_
 try simp only [Act.put, sA, sZ, sS]
 refine region_take 0 15 (v := ?vtk10) rfl rfl (by kernel_rfl) (by kernel_rfl) (by kernel_rfl) (fun _ _ _ h => h) (by rfl) (fun w' hS => ?htk10) ?rtk10
 case htk10 => go_simp; with_reducible rfl
 try simp only [Act.put, sA, sZ, sS]
 refine region_take 1 16 (v := ?vtk11) rfl rfl (by kernel_rfl) (by kernel_rfl) (by kernel_rfl) (fun _ _ _ h => h) (by rfl) (fun w' hS => ?htk11) ?rtk11
 case htk11 => go_simp; with_reducible rfl
 try simp only [Act.put, sA, sZ, sS]
 refine region_take 2 17 (v := ?vtk12) rfl rfl (by kernel_rfl) (by kernel_rfl) (by kernel_rfl) (fun _ _ _ h => h) (by rfl) (fun w' hS => ?htk12) ?rtk12
 case htk12 => go_simp; with_reducible rfl
 try simp only [Act.put, sA, sZ, sS]
 refine region_take 3 18 (v := ?vtk13) rfl rfl (by kernel_rfl) (by kernel_rfl) (by kernel_rfl) (fun _ _ _ h => h) (by rfl) (fun w' hS => ?htk13) ?rtk13
 case htk13 => go_simp; with_reducible rfl
 try simp only [Act.put, sA, sZ, sS]
 refine region_take 4 19 (v := ?vtk14) rfl rfl (by kernel_rfl) (by kernel_rfl) (by kernel_rfl) (fun _ _ _ h => h) (by rfl) (fun w' hS => ?htk14) ?rtk14
 case htk14 => go_simp; with_reducible rfl
 try simp only [Act.put, sA, sZ, sS]
 refine region_take 5 20 (v := ?vtk15) rfl rfl (by kernel_rfl) (by kernel_rfl) (by kernel_rfl) (fun _ _ _ h => h) (by rfl) (fun w' hS => ?htk15) ?rtk15
 case htk15 => go_simp; with_reducible rfl
 try simp only [Act.put, sA, sZ, sS]
 refine wpAnyH_ready (rs := [6]) (by kernel_rfl) (by simp) (AllReadyH.cons rfl (fun K hK => ?_) AllReadyH.nil)
 go_simp
 refine (within_any z 1 4096 _).mono ?_
 rintro e w3 ⟨rfl, hw3⟩
 obtain rfl := hw3.symm
 refine hK.out _ _ (Ext.refl _ _) (fun hHeld => ?_)
 clear hK K hHeld
 refine region_now (Ext.refl _ _) ?_
 try simp only [Act.put, sA, sZ, sS]
 refine wpAnyH_ready (rs := [7]) (by kernel_rfl) (by simp) (AllReadyH.cons rfl (fun K hK => ?_) AllReadyH.nil)
 go_simp
 refine (HH.out (inB z 1 4096) _ ((Ext.refl _ W1).drew)).mono ?_
 rintro e w4 ⟨rfl, hS4, hX4⟩
 refine hK.out _ _ (hX4) (fun hHeld => ?_)
 clear hK K hHeld
 refine region_now (hX4) ?_
 try simp only [Act.put, sA, sZ, sS]
 refine wpAnyH_done (by kernel_rfl) ?_ _
 clear k0 k1 k2 d0 d1 d2 hyd hfd c0 c1
 go_wp2_with fail
 go_end0
 have hX5 : Ext (fun i => i = rr) W1 w4 := ((Ext.refl (fun i => i = rr) W1).drew).trans hX4 (fun _ _ e => e)
 exact ⟨rfl, hS4, ⟨_, hO1.ext hX5 (fun e => n1 e), HM.out.1, HM.out.2⟩, hX1.trans' hX5 (fun _ _ e => Or.inr e) (fun _ _ e => Or.inl e)⟩
def Take2To (rr rb : Nat) (l : List UInt8) (a : Option Addr) (c p : Nat) (ob N k : Nat) (z : Int) (ps : List PH) (W : World) (e : Ending) (W' : World) : Prop :=
 e = .returned (.tuple #[]) ∧ RS W' rr rb l (p, if inB z 1 2147483647 = true then 0 else 27) a c ∧ (∃ ps', OutIs W' ob N ps' ∧ (ps'.take (k + 1)).map (fun p => p.l) = (ps.take k).map (fun p => p.l) ++ [z] ∧ ps'.map (fun p => p.o) = ps.map (fun p => p.o)) ∧ Ext (fun i => i = rr ∨ i = ob) W W'
set_option maxHeartbeats 2000000 in
theorem take2_any (rr rb : Nat) (l : List UInt8) (a : Option Addr) (c p : Nat) (hb ub pb ob N k x v0 : Nat) (hv : List Value) (ps : List PH) (W : World) (hB : PBox W rr hb ub pb ob N hv) (h0 : hv[3]? = some (.int .i64 v0)) (hO : OutIs W ob N ps) (hk : k < N) (hN : N ≤ 2048) (hx : x < 4294967296) (hv0 : v0 < 4294967296) (hS : RS W rr rb l (p, 0) a c) (hne : ob ≠ rr ∧ ob ≠ rb ∧ (∀ g, a = some g → g.block ≠ ob) ∧ hb ≠ ob ∧ ub ≠ ob ∧ pb ≠ ob ∧ ub ≠ rr ∧ pb ≠ rr) :
 Calls Tryz.prog 119 #[.int .i64 k, .int .i64 x, .pointer (some ⟨hb, 0, none⟩), .pointer (some ⟨ub, 0, none⟩), .pointer (some ⟨pb, 0, none⟩)] W (Take2To rr rb l a c p ob N k ((v0 : Int) + (x : Int)) ps W) := by
 obtain ⟨n1, n2, n3, n4, n5, n6, n7, n8⟩ := hne
 have c0 : W.cell? ⟨hb, 0 + 3, none⟩ = some (.int .i64 v0) := by rw [← h0]; exact hB.h.cell 3
 have c1 : W.cell? ⟨ub, 0, none⟩ = some (.slice (some ⟨ob, 0, none⟩) N N) := hB.u.cell 0
 have hkp : k < ps.length := by have := hO.len; omega
 have hki : (k : Int) < (N : Int) := by omega
 obtain ⟨z, hz⟩ : ∃ z : Int, z = (v0 : Int) + (x : Int) := ⟨_, rfl⟩
 obtain ⟨pp, hpp⟩ : ∃ pp : PH, pp = { ps[k] with l := z } := ⟨_, rfl⟩
 obtain ⟨⟨y, hy⟩, hf, hO1⟩ := hO.set k 1 hkp (by omega) (.int .i64 z) pp (by rw [hpp]; rfl)
 have hM1 : ((ps.set k pp).take (k + 1)).map (fun p => p.l) = (ps.take k).map (fun p => p.l) ++ [z] := by rw [take_map_set (fun p : PH => p.l) ps k pp hkp, hpp]
 have hM2 : (ps.set k pp).map (fun p => p.o) = ps.map (fun p => p.o) := map_set_same (fun p : PH => p.o) ps k pp hkp (by rw [hpp])
 have hX1 : Ext (fun i => i = ob) W (W.setCell ⟨ob, k * 3 + 1, none⟩ (.int .i64 z)) := (Ext.refl (fun i => i = ob) W).setCell (p := ⟨ob, k * 3 + 1, none⟩) (fun _ => rfl) _
 have hcell : (cellsP ((ps.set k pp)[k]'(by simpa using hkp)))[1]? = some (.int .i64 z) := by rw [List.getElem_set_self, hpp]; rfl
 have HM := qh (And.intro hM1 hM2)
 obtain ⟨W1, hW1⟩ : ∃ z', z' = W.setCell ⟨ob, k * 3 + 1, none⟩ (.int .i64 z) := ⟨_, rfl⟩
 try simp only [Nat.add_zero] at hy hf hO1
 rw [← hW1] at hO1 hX1
 have hB1 := hB.ext hX1 n4 n5 n6
 have hS1 := hS.ext hX1 (fun e => n1 e.symm) (fun e => n2 e.symm) (fun g hg e => n3 g hg e)
 have HH := qh (fun (so : Bool) (W2 : World) (hP : Pure W1 W2) => hold_any so rr rb l a c p W2 (hS1.pure hP))
 have HW1 := qh hW1
 have HZ := qh hz
 have hz1 : 0 ≤ z := by omega
 have hz2 : z < 8589934592 := by omega
 have d0 : W1.drew.cell? ⟨pb, 0, none⟩ = some (.pointer (some ⟨rr, 0, none⟩)) := hB1.p.cell 0
 have d1 : W1.drew.cell? ⟨ub, 0, none⟩ = some (.slice (some ⟨ob, 0, none⟩) N N) := hB1.u.cell 0
 have d2 : W1.drew.cell? ⟨ob, k * 3 + 1, none⟩ = some (.int .i64 z) := hO1.cell k 1 (by simpa using hkp) (by omega) hcell
 have k0 := fun w' (hS : Ext (fun i => i = rr) W1.drew w') => hS.cell_some d0 (fun e => n8 e)
 have k1 := fun w' (hS : Ext (fun i => i = rr) W1.drew w') => hS.cell_some d1 (fun e => n7 e)
 have k2 := fun w' (hS : Ext (fun i => i = rr) W1.drew w') => hS.cell_some d2 (fun e => n1 e)
 have hyd : W.cell? ⟨ob, k * 3 + 1, none⟩ = some y := hy
 have hfd : W.frozen? ⟨ob, k * 3 + 1, none⟩ = false := hf
 have hzw : (v0 : Int) + (x : Int) = z := hz.symm
 clear hB hO h0 hpp hW1 hz hM1 hM2 hcell hy hf
 go_enter Tryz.func119, Tryz.ntmps119
 go_wp2_with fail
 rw [← HW1.out]
 refine region_start (fun i => i = rr) (by kernel_rfl) ?_
 try simp only [Act.put, sA, sZ, sS]
 refine region_take 0 15 (v := ?vtk20) rfl rfl (by kernel_rfl) (by kernel_rfl) (by kernel_rfl) (fun _ _ _ h => h) (by rfl) (fun w' hS => ?htk20) ?rtk20
 case htk20 => go_simp; with_reducible rfl
 try simp only [Act.put, sA, sZ, sS]
 refine region_take 1 16 (v := ?vtk21) rfl rfl (by kernel_rfl) (by kernel_rfl) (by kernel_rfl) (fun _ _ _ h => h) (by rfl) (fun w' hS => ?htk21) ?rtk21
 case htk21 => go_simp; with_reducible rfl
 try simp only [Act.put, sA, sZ, sS]
 refine region_take 2 17 (v := ?vtk22) rfl rfl (by kernel_rfl) (by kernel_rfl) (by kernel_rfl) (fun _ _ _ h => h) (by rfl) (fun w' hS => ?htk22) ?rtk22
 case htk22 => go_simp; with_reducible rfl
 try simp only [Act.put, sA, sZ, sS]
 refine region_take 3 18 (v := ?vtk23) rfl rfl (by kernel_rfl) (by kernel_rfl) (by kernel_rfl) (fun _ _ _ h => h) (by rfl) (fun w' hS => ?htk23) ?rtk23
 case htk23 => go_simp; with_reducible rfl
 try simp only [Act.put, sA, sZ, sS]
 refine region_take 4 19 (v := ?vtk24) rfl rfl (by kernel_rfl) (by kernel_rfl) (by kernel_rfl) (fun _ _ _ h => h) (by rfl) (fun w' hS => ?htk24) ?rtk24
 case htk24 => go_simp; with_reducible rfl
 try simp only [Act.put, sA, sZ, sS]
 refine region_take 5 20 (v := ?vtk25) rfl rfl (by kernel_rfl) (by kernel_rfl) (by kernel_rfl) (fun _ _ _ h => h) (by rfl) (fun w' hS => ?htk25) ?rtk25
 case htk25 => go_simp; with_reducible rfl
 try simp only [Act.put, sA, sZ, sS]
 refine wpAnyH_ready (rs := [6]) (by kernel_rfl) (by simp) (AllReadyH.cons rfl (fun K hK => ?_) AllReadyH.nil)
 go_simp
 refine (within_any z 1 2147483647 _).mono ?_
 rintro e w3 ⟨rfl, hw3⟩
 obtain rfl := hw3.symm
 refine hK.out _ _ (Ext.refl _ _) (fun hHeld => ?_)
 clear hK K hHeld
 refine region_now (Ext.refl _ _) ?_
 try simp only [Act.put, sA, sZ, sS]
 refine wpAnyH_ready (rs := [7]) (by kernel_rfl) (by simp) (AllReadyH.cons rfl (fun K hK => ?_) AllReadyH.nil)
 go_simp
 refine (HH.out (inB z 1 2147483647) _ ((Ext.refl _ W1).drew)).mono ?_
 rintro e w4 ⟨rfl, hS4, hX4⟩
 refine hK.out _ _ (hX4) (fun hHeld => ?_)
 clear hK K hHeld
 refine region_now (hX4) ?_
 try simp only [Act.put, sA, sZ, sS]
 refine wpAnyH_done (by kernel_rfl) ?_ _
 clear k0 k1 k2 d0 d1 d2 hyd hfd c0 c1
 go_wp2_with fail
 go_end0
 have hX5 : Ext (fun i => i = rr) W1 w4 := ((Ext.refl (fun i => i = rr) W1).drew).trans hX4 (fun _ _ e => e)
 exact ⟨rfl, hS4, ⟨_, hO1.ext hX5 (fun e => n1 e), HM.out.1, HM.out.2⟩, hX1.trans' hX5 (fun _ _ e => Or.inr e) (fun _ _ e => Or.inl e)⟩
structure RBox (W : World) (kb cb n : Nat) (xs : List Value) : Prop where
 box : BlockIs W kb [.slice (some ⟨cb, 0, none⟩) n n] 23
 row : W.ownsRow cb 3 1 (.slice (some ⟨cb, 0, none⟩) n n) n xs
theorem RBox.ext {S : Nat → Prop} {W W' : World} {kb cb n : Nat} {xs : List Value} (h : RBox W kb cb n xs) (e : Ext S W W') (h1 : ¬ S kb) (h2 : ¬ S cb) : RBox W' kb cb n xs :=
 ⟨h.box.ext e h1, own_ext h.row e (fun g hg => by cases hg; exact h2)⟩
theorem RBox.set {W : World} {kb cb n : Nat} {xs : List Value} (h : RBox W kb cb n xs) (hne : kb ≠ cb) (k : Nat) (hk : k < n) (u : Value) : (∃ y, W.cell? ⟨cb, k, none⟩ = some y) ∧ W.frozen? ⟨cb, k, none⟩ = false ∧ RBox (W.setCell ⟨cb, k, none⟩ u) kb cb n (xs.set k u) := by
 obtain ⟨g, hg, _, hy, hf, hO⟩ := own_set h.row k hk u
 cases hg
 exact ⟨hy, hf, h.box.setOther (p := ⟨cb, k, none⟩) (fun e => hne e.symm) u, hO⟩
def Take3To (rr rb : Nat) (l : List UInt8) (a : Option Addr) (c p : Nat) (kb cb mb n k x t : Nat) (xs : List Value) (W : World) (e : Ending) (W' : World) : Prop :=
 e = .returned (.tuple #[]) ∧ RS W' rr rb l (p, if t + x ≤ 65536 then 0 else 27) a c ∧ RBox W' kb cb n (xs.set k (intV x)) ∧ BlockIs W' mb [intV (t + x)] 3 ∧ Ext (fun i => i = rr ∨ i = cb ∨ i = mb) W W'
set_option maxHeartbeats 2000000 in
theorem take3_any (rr rb : Nat) (l : List UInt8) (a : Option Addr) (c p : Nat) (kb cb mb pb n k x t : Nat) (xs : List Value) (W : World) (hR : RBox W kb cb n xs) (hM : BlockIs W mb [intV t] 3) (hP : BlockIs W pb [.pointer (some ⟨rr, 0, none⟩)] 128) (hk : k < n) (hn : n ≤ 2048) (hx : x < 4294967296) (ht : t ≤ 65536) (hS : RS W rr rb l (p, 0) a c) (hne : cb ≠ rr ∧ cb ≠ rb ∧ mb ≠ rr ∧ mb ≠ rb ∧ (∀ g, a = some g → g.block ≠ cb ∧ g.block ≠ mb) ∧ kb ≠ cb ∧ kb ≠ mb ∧ kb ≠ rr ∧ pb ≠ rr ∧ pb ≠ cb ∧ pb ≠ mb ∧ cb ≠ mb) :
 Calls Tryz.prog 120 #[.int .i64 k, .int .i64 x, .pointer (some ⟨kb, 0, none⟩), .pointer (some ⟨mb, 0, none⟩), .pointer (some ⟨pb, 0, none⟩)] W (Take3To rr rb l a c p kb cb mb n k x t xs W) := by
 obtain ⟨n1, n2, n3, n4, n5, n6, n7, n8, n9, n10, n11, n12⟩ := hne
 have c0 : W.cell? ⟨kb, 0, none⟩ = some (.slice (some ⟨cb, 0, none⟩) n n) := hR.box.cell 0
 have c1 : W.cell? ⟨mb, 0, none⟩ = some (.int .i64 t) := hM.cell 0
 have f1 : W.frozen? ⟨mb, 0, none⟩ = false := hM.free 0
 have c2 : W.cell? ⟨pb, 0, none⟩ = some (.pointer (some ⟨rr, 0, none⟩)) := hP.cell 0
 have hki : (k : Int) < (n : Int) := by omega
 obtain ⟨⟨y, hy⟩, hf, hR1⟩ := hR.set n6 k hk (intV x)
 have hX1 : Ext (fun i => i = cb) W (W.setCell ⟨cb, k, none⟩ (intV x)) := (Ext.refl (fun i => i = cb) W).setCell (p := ⟨cb, k, none⟩) (fun _ => rfl) _
 have hM1 := hM.ext hX1 (fun e => n12 e.symm)
 have hP1 := hP.ext hX1 n10
 have hX2 : Ext (fun i => i = mb) (W.setCell ⟨cb, k, none⟩ (intV x)) ((W.setCell ⟨cb, k, none⟩ (intV x)).setCell ⟨mb, 0, none⟩ (intV (t + x))) := (Ext.refl (fun i => i = mb) _).setCell (p := ⟨mb, 0, none⟩) (fun _ => rfl) _
 have hM2 : BlockIs ((W.setCell ⟨cb, k, none⟩ (intV x)).setCell ⟨mb, 0, none⟩ (intV (t + x))) mb [intV (t + x)] 3 := by simpa using hM1.set 0 (intV (t + x))
 have hR2 := hR1.ext hX2 n7 n12
 have hP2 := hP1.ext hX2 n11
 have hS2 := (hS.ext hX1 (fun e => n1 e.symm) (fun e => n2 e.symm) (fun g hg e => (n5 g hg).1 e)).ext hX2 (fun e => n3 e.symm) (fun e => n4 e.symm) (fun g hg e => (n5 g hg).2 e)
 have hX12 : Ext (fun i => i = rr ∨ i = cb ∨ i = mb) W ((W.setCell ⟨cb, k, none⟩ (intV x)).setCell ⟨mb, 0, none⟩ (intV (t + x))) := hX1.trans' hX2 (fun _ _ e => Or.inr (Or.inl e)) (fun _ _ e => Or.inr (Or.inr e))
 have hcast : ((t + x : Nat) : Int) = (t : Int) + (x : Int) := by omega
 simp only [intV, hcast] at hX12 hM2 hR2 hP2 hS2
 obtain ⟨W2, hW2⟩ : ∃ z', z' = (W.setCell ⟨cb, k, none⟩ (.int .i64 (x : Int))).setCell ⟨mb, 0, none⟩ (.int .i64 ((t : Int) + (x : Int))) := ⟨_, rfl⟩
 rw [← hW2] at hX12 hM2 hR2 hP2 hS2
 have HH := qh (fun (so : Bool) => hold_any so rr rb l a c p W2 hS2)
 have HW2 := qh hW2
 have e0 : W2.cell? ⟨mb, 0, none⟩ = some (.int .i64 ((t : Int) + (x : Int))) := hM2.cell 0
 have e1 : W2.cell? ⟨pb, 0, none⟩ = some (.pointer (some ⟨rr, 0, none⟩)) := hP2.cell 0
 clear hR hR1 hX1 hM1 hP1 hX2 hW2 hcast hM hP hS hP2 hS2
 by_cases hbig : (t : Int) + (x : Int) ≤ 65536
 ·have HTX : Hid (t + x ≤ 65536) := qh (by omega)
  go_enter Tryz.func120, Tryz.ntmps120
  go_wp2_with fail
  rw [← HW2.out]
  refine (HH.out true).mono ?_
  rintro e w4 ⟨rfl, hS4, hX4⟩
  clear HH e0 e1
  go_wp2_with fail
  go_end0
  exact ⟨rfl, by rw [if_pos HTX.out]; exact hS4, hR2.ext hX4 n8 n1, by show BlockIs w4 mb [.int .i64 ((t + x : Nat) : Int)] _; rw [Int.natCast_add]; exact hM2.ext hX4 n3, hX12.trans hX4 (fun _ _ e => Or.inl e)⟩
 ·have HTX : Hid (¬ t + x ≤ 65536) := qh (by omega)
  go_enter Tryz.func120, Tryz.ntmps120
  go_wp2_with fail
  rw [← HW2.out]
  refine (HH.out false).mono ?_
  rintro e w4 ⟨rfl, hS4, hX4⟩
  clear HH e0 e1
  go_wp2_with fail
  go_end0
  exact ⟨rfl, by rw [if_neg HTX.out]; exact hS4, hR2.ext hX4 n8 n1, by show BlockIs w4 mb [.int .i64 ((t + x : Nat) : Int)] _; rw [Int.natCast_add]; exact hM2.ext hX4 n3, hX12.trans hX4 (fun _ _ e => Or.inl e)⟩
def Take4To (rr rb : Nat) (l : List UInt8) (a : Option Addr) (c p : Nat) (kb cb n k x : Nat) (xs : List Value) (W : World) (e : Ending) (W' : World) : Prop :=
 e = .returned (.tuple #[]) ∧ RS W' rr rb l (p, if x ≤ 4095 then 0 else 27) a c ∧ RBox W' kb cb n (xs.set k (intV x)) ∧ Ext (fun i => i = rr ∨ i = cb) W W'
set_option maxHeartbeats 2000000 in
theorem take4_any (rr rb : Nat) (l : List UInt8) (a : Option Addr) (c p : Nat) (kb cb pb n k x : Nat) (xs : List Value) (W : World) (hR : RBox W kb cb n xs) (hP : BlockIs W pb [.pointer (some ⟨rr, 0, none⟩)] 128) (hk : k < n) (hn : n ≤ 65536) (hx : x < 4294967296) (hS : RS W rr rb l (p, 0) a c) (hne : cb ≠ rr ∧ cb ≠ rb ∧ (∀ g, a = some g → g.block ≠ cb) ∧ kb ≠ cb ∧ kb ≠ rr ∧ pb ≠ rr ∧ pb ≠ cb) :
 Calls Tryz.prog 121 #[.int .i64 k, .int .i64 x, .pointer (some ⟨kb, 0, none⟩), .pointer (some ⟨pb, 0, none⟩)] W (Take4To rr rb l a c p kb cb n k x xs W) := by
 obtain ⟨n1, n2, n5, n6, n8, n9, n10⟩ := hne
 have c0 : W.cell? ⟨kb, 0, none⟩ = some (.slice (some ⟨cb, 0, none⟩) n n) := hR.box.cell 0
 have c2 : W.cell? ⟨pb, 0, none⟩ = some (.pointer (some ⟨rr, 0, none⟩)) := hP.cell 0
 have hki : (k : Int) < (n : Int) := by omega
 obtain ⟨⟨y, hy⟩, hf, hR1⟩ := hR.set n6 k hk (intV x)
 have hX1 : Ext (fun i => i = cb) W (W.setCell ⟨cb, k, none⟩ (intV x)) := (Ext.refl (fun i => i = cb) W).setCell (p := ⟨cb, k, none⟩) (fun _ => rfl) _
 have hP1 := hP.ext hX1 n10
 have hS1 := hS.ext hX1 (fun e => n1 e.symm) (fun e => n2 e.symm) (fun g hg e => n5 g hg e)
 simp only [intV] at hX1 hR1 hP1 hS1
 obtain ⟨W2, hW2⟩ : ∃ z', z' = W.setCell ⟨cb, k, none⟩ (.int .i64 (x : Int)) := ⟨_, rfl⟩
 rw [← hW2] at hX1 hR1 hP1 hS1
 have HH := qh (fun (so : Bool) => hold_any so rr rb l a c p W2 hS1)
 have HW2 := qh hW2
 have e1 : W2.cell? ⟨pb, 0, none⟩ = some (.pointer (some ⟨rr, 0, none⟩)) := hP1.cell 0
 clear hR hW2 hP hS hP1 hS1
 by_cases hbig : (x : Int) < 4096
 ·have HTX : Hid (x ≤ 4095) := qh (by omega)
  go_enter Tryz.func121, Tryz.ntmps121
  go_wp2_with fail
  rw [← HW2.out]
  refine (HH.out true).mono ?_
  rintro e w4 ⟨rfl, hS4, hX4⟩
  clear HH e1
  go_wp2_with fail
  go_end0
  exact ⟨rfl, by rw [if_pos HTX.out]; exact hS4, hR1.ext hX4 n8 n1, hX1.trans' hX4 (fun _ _ e => Or.inr e) (fun _ _ e => Or.inl e)⟩
 ·have HTX : Hid (¬ x ≤ 4095) := qh (by omega)
  go_enter Tryz.func121, Tryz.ntmps121
  go_wp2_with fail
  rw [← HW2.out]
  refine (HH.out false).mono ?_
  rintro e w4 ⟨rfl, hS4, hX4⟩
  clear HH e1
  go_wp2_with fail
  go_end0
  exact ⟨rfl, by rw [if_neg HTX.out]; exact hS4, hR1.ext hX4 n8 n1, hX1.trans' hX4 (fun _ _ e => Or.inr e) (fun _ _ e => Or.inl e)⟩
def Take5To (W : World) (e : Ending) (W' : World) : Prop := e = .returned (.tuple #[]) ∧ W' = W
theorem take5_any (k x : Int) (W : World) : Calls Tryz.prog 122 #[.int .i64 k, .int .i64 x] W (Take5To W) := by
 go_enter Tryz.func122, Tryz.ntmps122
 go_wp2_with fail
 go_end0
 exact ⟨rfl, rfl⟩
structure NewInts (w w' : World) (a : Option Addr) (c : Nat) (l : List Nat) : Prop where
 row : RowOf w' a (l.map intV)
 ext : Pure w w'
 nil : a = none → c = 0
 fresh : ∀ g, a = some g → w.heap.size ≤ g.block
 le : l.length ≤ c
 most : c ≤ maxLen
def ClonedTo (w : World) (l : List Nat) (e : Ending) (w' : World) : Prop := ∃ a c, e = .returned (.slice a l.length c) ∧ NewInts w w' a c l
theorem clone_int (ad : Option Addr) (cap : Nat) (l : List Nat) (w : World) (hb : RowOf w ad (l.map intV)) (hnil : ad = none → cap = 0) (hle : l.length ≤ cap) (hmost : l.length ≤ 1000000) :
 Calls Tryz.prog 123 #[.slice ad l.length cap] w (ClonedTo w l) := by
 have he := eql_nil Tryz.underlying23
 cases ad with
 | none =>
   obtain rfl := hnil rfl
   obtain rfl : l = [] := List.length_eq_zero_iff.1 (by omega)
   go_enter Tryz.func123, Tryz.ntmps123
   go_wp2_with fail
   go_ret
   exact ⟨none, 0, rfl, ⟨row_nil _ _, Ext.refl _ _, fun _ => rfl, fun g hg => (by cases hg), Nat.zero_le _, Nat.zero_le _⟩⟩
 | some ad =>
   go_enter Tryz.func123, Tryz.ntmps123
   go_wp2_with (at_builtin; refine wpList_append_fresh rfl (.tmp 5) (.tmp 6) 23 rfl w.heap.size 3 (.int .i64 0) 1 8 Tryz.underlying23 infoInt rfl (by decide) _ 0 [] rfl (own_new (by simp) (by simp) _ (Nat.le_refl _)) (some ad) l.length cap (l.map intV) rfl (fun e => by cases e) (by simp) (hb.ext (ext_alloc _ _) (fun _ _ => id)) (intV_one l) l.length (by omega) (l.map intV) rfl (by omega) (by unfold maxLen; omega) (by simp) ?_)
   intro a1 c1 w1 hown hg hfr
   go_wp2_with fail
   go_ret
   obtain ⟨_, _, hh, h1, h2, h3, h4⟩ := own_form hown
   cases hh
   exact ⟨a1, c1, rfl, ⟨own_row hown, ((Ext.refl _ w).alloc _).grown hg (fun k hk hlt => by cases hk; exact absurd hlt (Nat.lt_irrefl _)), h3, fun g hg => (h4 g hg).1, h1, h2⟩⟩
theorem cut_take_succ : ∀ (cs xs : List Nat) (k c : Nat), cs[k]? = some c → cut (cs.take (k + 1)) xs = cut (cs.take k) xs ++ [(xs.drop (cs.take k).sum).take c]
 | [], _, _, _, h => by simp at h
 | d :: cs, xs, 0, c, h => by simp at h; subst h; simp [cut]
 | d :: cs, xs, k + 1, c, h => by
   rw [List.take_succ_cons, List.take_succ_cons, cut, cut, cut_take_succ cs (xs.drop d) k c (by simpa using h), List.drop_drop, List.sum_cons]; rfl
theorem sum_take_succ (cs : List Nat) (k c : Nat) (h : cs[k]? = some c) : (cs.take (k + 1)).sum = (cs.take k).sum + c := by
 obtain ⟨hk, rfl⟩ := List.getElem?_eq_some_iff.1 h
 rw [List.take_succ_eq_append_getElem hk, List.sum_append]; simp
theorem sum_take_le (cs : List Nat) (k : Nat) : (cs.take k).sum ≤ cs.sum := by
 have : cs.sum = (cs.take k).sum + (cs.drop k).sum := by rw [← List.sum_append, List.take_append_drop]
 omega
structure CutIs (w0 W : World) (ob N : Nat) (os ls : List Int) (xs cs : List Nat) (k : Nat) (ps : List PH) : Prop where
 out : OutIs W ob N ps
 hos : ps.map (fun p => p.o) = os
 hls : ps.map (fun p => p.l) = ls
 hsh : (ps.take k).map (fun p => p.sh) = (cut (cs.take k) xs).map (fun l => l.map (fun x : Nat => (x : Int)))
 sub : ∀ p ∈ ps.take k, RowOf W p.sa (p.sh.map numV) ∧ (p.sh.length ≤ p.sc ∧ p.sc ≤ maxLen ∧ (p.sa = none → p.sc = 0)) ∧ ∀ g, p.sa = some g → g.block ≠ ob ∧ w0.heap.size ≤ g.block
 ext : Ext (fun i => i = ob) w0 W
theorem CutIs.step {w0 W W' : World} {ob N k c c' j : Nat} {os ls : List Int} {xs cs : List Nat} {ps : List PH} {a : Option Addr} (h : CutIs w0 W ob N os ls xs cs k ps) (hk : k < N) (hc : cs[k]? = some c) (hE : Pure W W') (hj : j = (cs.take k).sum)
 (hrow : RowOf W' a (((xs.drop j).take c).map intV)) (hl : ((xs.drop j).take c).length = c) (hfit : c ≤ c' ∧ c' ≤ maxLen ∧ (a = none → c' = 0)) (hfr : ∀ g, a = some g → g.block ≠ ob ∧ w0.heap.size ≤ g.block) :
 (∃ y, W'.cell? ⟨ob, k * 3 + 2, none⟩ = some y) ∧ W'.frozen? ⟨ob, k * 3 + 2, none⟩ = false ∧ ∃ ps', CutIs w0 (W'.setCell ⟨ob, k * 3 + 2, none⟩ (.slice a c c')) ob N os ls xs cs (k + 1) ps' := by
 subst hj
 have hkp : k < ps.length := by have := h.out.len; omega
 obtain ⟨p', hp'⟩ : ∃ p' : PH, p' = { ps[k] with sa := a, sc := c', sh := ((xs.drop (cs.take k).sum).take c).map (fun x : Nat => (x : Int)) } := ⟨_, rfl⟩
 obtain ⟨hy, hf, hO⟩ := (h.out.ext hE id).set k 2 hkp (by omega) (.slice a c c') p' (by rw [hp']; simp only [cellsP, List.length_map, hl]; rfl)
 have hX : Ext (fun i => i = ob) W' (W'.setCell ⟨ob, k * 3 + 2, none⟩ (.slice a c c')) := (Ext.refl (fun i => i = ob) W').setCell (p := ⟨ob, k * 3 + 2, none⟩) (fun _ => rfl) _
 refine ⟨hy, hf, _, hO, ?_, ?_, ?_, ?_, (h.ext.pure hE).trans hX (fun _ _ e => e)⟩
 ·rw [map_set_same (fun p : PH => p.o) ps k p' hkp (by rw [hp'])]; exact h.hos
 ·rw [map_set_same (fun p : PH => p.l) ps k p' hkp (by rw [hp'])]; exact h.hls
 ·rw [take_map_set (fun p : PH => p.sh) ps k p' hkp, h.hsh, cut_take_succ cs xs k c hc, List.map_append, hp']; rfl
 ·intro p hp
  rw [List.take_succ_eq_append_getElem (by simpa using hkp), List.mem_append] at hp
  rcases hp with hp | hp
  ·rw [List.take_set_of_le (Nat.le_refl _)] at hp
   obtain ⟨r, f, n⟩ := h.sub p hp
   exact ⟨(r.ext hE (fun _ _ => id)).ext hX (fun g hg e => (n g hg).1 e), f, n⟩
  ·rw [List.getElem_set_self, List.mem_singleton] at hp
   rw [hp, hp']
   refine ⟨?_, ?_, hfr⟩
   ·have := hrow.ext hX (fun g hg e => (hfr g hg).1 e)
    simp only [List.map_map]
    exact this
   ·simp only [List.length_map, hl]; exact hfit
theorem CutIs.hints {w0 W : World} {ob N : Nat} {os ls : List Int} {xs cs : List Nat} {ps : List PH} (h : CutIs w0 W ob N os ls xs cs N ps) : Hints W (some ⟨ob, 0, none⟩) ps := by
 have ht : ps.take N = ps := List.take_of_length_le (by have := h.out.len; omega)
 have hs := h.sub
 rw [ht] at hs
 exact ⟨own_row h.out.own, fun p hp => (hs p hp).1, fun p hp => (hs p hp).2.1⟩
theorem CutIs.fresh {w0 W : World} {ob N : Nat} {os ls : List Int} {xs cs : List Nat} {ps : List PH} (h : CutIs w0 W ob N os ls xs cs N ps) : ∀ p ∈ ps, ∀ g, p.sa = some g → w0.heap.size ≤ g.block := by
 have ht : ps.take N = ps := List.take_of_length_le (by have := h.out.len; omega)
 have hs := h.sub
 rw [ht] at hs
 exact fun p hp g hg => ((hs p hp).2.2 g hg).2
def resV (r : DRes) : List (Int × Int × List Int) := (r.os.zip (r.ls.zip r.shs)).map (fun t => ((t.1 : Int), (t.2.1 : Int), t.2.2.map (fun x : Nat => (x : Int))))
theorem resV_of (ps : List PH) (r : DRes) (ho : ps.map (fun p => p.o) = r.os.map (fun x : Nat => (x : Int))) (hl : ps.map (fun p => p.l) = r.ls.map (fun x : Nat => (x : Int))) (hs : ps.map (fun p => p.sh) = r.shs.map (fun l => l.map (fun x : Nat => (x : Int)))) : ps.map (fun p => (p.o, p.l, p.sh)) = resV r := by
 have e : ps.map (fun p => (p.o, p.l, p.sh)) = (ps.map (fun p => p.o)).zip ((ps.map (fun p => p.l)).zip (ps.map (fun p => p.sh))) := by rw [List.zip_map', List.zip_map']
 rw [e, ho, hl, hs, resV, List.zip_map, List.zip_map]; rfl
theorem fit_ex (L p w n : Nat) (h : p ≤ L) : ∃ K, Fit L p w n K := by
 induction n with
 | zero => exact ⟨0, Nat.le_refl _, by omega, fun h => absurd h (Nat.lt_irrefl _)⟩
 | succ n ih =>
   obtain ⟨K, h1, h2, h3⟩ := ih
   by_cases e : K < n
   ·exact ⟨K, by omega, h2, fun _ => h3 e⟩
   ·obtain rfl : K = n := by omega
    by_cases f : p + (K + 1) * w ≤ L
    ·exact ⟨K + 1, Nat.le_refl _, f, fun h => absurd h (Nat.lt_irrefl _)⟩
    ·exact ⟨K, by omega, h2, fun _ => by omega⟩
theorem rowE_cut {bs : List Bool} {p n w : Nat} (h : p ≤ bs.length) (hc : ¬ p + n * w ≤ bs.length) : RowE bs p n w okA 10 := by
 obtain ⟨K, hF⟩ := fit_ex bs.length p w n h
 refine ⟨K, hF, Or.inr ⟨trivial, Or.inl ⟨fun e => ?_, rfl⟩⟩⟩
 subst e
 exact hc hF.fits
theorem rest5_yes {bs : List Bool} {n : Nat} (h : Fit3 bs (q4 bs n) (mny bs n) n (h11 bs) (h6 bs) (h8 bs)) : Rest5 bs n (good bs n) :=
 ⟨0, RowE.of_zero h.1 trivial, Or.inr ⟨rfl, ⟨0, RowE.of_zero h.2.1 trivial, Or.inr ⟨rfl, ⟨0, RowE.of_zero h.2.2 trivial, Or.inr ⟨rfl, rfl⟩⟩⟩⟩⟩⟩
theorem rest5_no {bs : List Bool} {n : Nat} (hq : q4 bs n ≤ bs.length) (hm8 : bs.length % 8 = 0) (h : ¬ Fit3 bs (q4 bs n) (mny bs n) n (h11 bs) (h6 bs) (h8 bs)) : Rest5 bs n (dErr 10) := by
 by_cases a : q4 bs n + mny bs n * h11 bs ≤ bs.length
 ·refine ⟨0, RowE.of_zero a trivial, Or.inr ⟨rfl, ?_⟩⟩
  have hq5 : q5 bs n ≤ bs.length := al8_le' a hm8
  by_cases b : q5 bs n + n * h6 bs ≤ bs.length
  ·refine ⟨0, RowE.of_zero b trivial, Or.inr ⟨rfl, ?_⟩⟩
   have hq6 : q6 bs n ≤ bs.length := al8_le' b hm8
   exact ⟨10, rowE_cut hq6 (fun c => h ⟨a, b, c⟩), Or.inl ⟨by decide, rfl⟩⟩
  ·exact ⟨10, rowE_cut hq5 b, Or.inl ⟨by decide, rfl⟩⟩
 ·exact ⟨10, rowE_cut hq a, Or.inl ⟨by decide, rfl⟩⟩
theorem enters {P : Program} {f : FuncId} {fn : Func} {c : Code} (hf : P.funcs[f]? = some fn) (hname : (fn.name == "runtime.NumGoroutine") = false) (hb : fn.body = some c) (args : Array Value) (w : World) : (callFunc f args).run P w = .ok (.enter f args) w := by
 have h1 : fn.name ≠ "runtime.NumGoroutine" := by simpa using hname
 simp [callFunc, go_sem, hf, h1, hb]
theorem vals_sub {bs : List Bool} {p w k K x : Nat} (h : k ≤ K) (hx : x ∈ vals bs p w k) : x ∈ vals bs p w K := by
 simp only [vals, List.mem_map, List.mem_range] at hx ⊢
 obtain ⟨j, hj, rfl⟩ := hx
 exact ⟨j, by omega, rfl⟩
theorem rowE_bad {bs : List Bool} {p n w k : Nat} {ok : List Nat → Prop} (hp : p ≤ bs.length) (hm : ∀ K k, k ≤ K → ok (vals bs p w K) → ok (vals bs p w k)) (hk : k < n) (hfit : p + (k + 1) * w ≤ bs.length) (hbad : ¬ ok (vals bs p w (k + 1))) : RowE bs p n w ok 27 := by
 obtain ⟨K, hF⟩ := fit_ex bs.length p w n hp
 refine ⟨K, hF, Or.inl ⟨fun h => ?_, rfl⟩⟩
 by_cases e : k + 1 ≤ K
 ·exact hbad (hm K (k + 1) e h)
 ·have h1 := hF.cut (by omega)
  have h2 : (K + 1) * w ≤ (k + 1) * w := Nat.mul_le_mul_right w (by omega)
  omega
theorem rowE_short {bs : List Bool} {p n w k : Nat} {ok : List Nat → Prop} (hk : k < n) (hF : Fit bs.length p w n k) (hok : ok (vals bs p w k)) : RowE bs p n w ok 10 :=
 ⟨k, hF, Or.inr ⟨hok, Or.inl ⟨by omega, rfl⟩⟩⟩
def Row1To (rr rb : Nat) (l : List UInt8) (a : Option Addr) (c p0 N wd v0 ob : Nat) (ps0 : List PH) (er0 : Int) (W : World) (e : Ending) (W' : World) : Prop :=
 e = .returned (.tuple #[]) ∧ ∃ (q : Nat) (er : Int) (ps : List PH), RS W' rr rb l (q, er) a c ∧ Ext (fun i => i = rr ∨ i = rb ∨ i = ob) W W' ∧ ((er0 ≠ 0 ∧ er = er0) ∨ (er0 = 0 ∧ RowE (bitsOf true l) p0 N wd (okO v0) er)) ∧ (er = 0 → q = al8 (p0 + N * wd) ∧ OutIs W' ob N ps ∧ ps.map (fun p => p.o) = (vals (bitsOf true l) p0 wd N).map (fun x => ((v0 + x : Nat) : Int)) ∧ ps.map (fun p => p.l) = ps0.map (fun p => p.l))
theorem row1_any (rr rb : Nat) (l : List UInt8) (a : Option Addr) (c p p0 : Nat) (hb ub pb ob N wd v0 : Nat) (hv : List Value) (ps0 : List PH) (er0 : Int) (W : World) (hB : PBox W rr hb ub pb ob N hv) (h0 : hv[0]? = some (.int .i64 v0)) (hO : er0 = 0 → p = p0 ∧ OutIs W ob N ps0) (hN : N ≤ 2048) (hwd : wd ≤ 32) (hv0 : v0 < 4294967296) (hl : l.length ≤ 10000000) (hS : RS W rr rb l (p, er0) a c) (hne : ob ≠ rr ∧ ob ≠ rb ∧ (∀ g, a = some g → g.block ≠ ob) ∧ hb ≠ ob ∧ ub ≠ ob ∧ pb ≠ ob ∧ ub ≠ rr ∧ pb ≠ rr ∧ hb ≠ rr ∧ hb ≠ rb ∧ ub ≠ rb ∧ pb ≠ rb) :
 Calls Tryz.prog 117 #[.pointer (some ⟨rr, 0, none⟩), .int .i64 N, .int .i64 wd, .func (.func 118) #[] #[.pointer (some ⟨hb, 0, none⟩), .pointer (some ⟨ub, 0, none⟩), .pointer (some ⟨pb, 0, none⟩)]] W (Row1To rr rb l a c p0 N wd v0 ob ps0 er0 W) := by
 by_cases he : er0 = 0
 ·obtain ⟨rfl, hOut⟩ := hO he
  subst he
  obtain ⟨n1, n2, n3, n4, n5, n6, n7, n8, n9, n10, n11, n12⟩ := hne
  have hpl : p ≤ (bitsOf true l).length := by rw [bitsOf_length]; exact hS.le
  refine (prow_any 118 #[.pointer (some ⟨hb, 0, none⟩), .pointer (some ⟨ub, 0, none⟩), .pointer (some ⟨pb, 0, none⟩)] rr rb l a c p N wd
   (fun k W' => PBox W' rr hb ub pb ob N hv ∧ (∃ ps, OutIs W' ob N ps ∧ (ps.take k).map (fun p => p.o) = (vals (bitsOf true l) p wd k).map (fun x => ((v0 + x : Nat) : Int)) ∧ ps.map (fun p => p.l) = ps0.map (fun p => p.l)) ∧ okO v0 (vals (bitsOf true l) p wd k) ∧ Ext (fun i => i = rr ∨ i = rb ∨ i = ob) W W')
   (fun k W' => ¬ okO v0 (vals (bitsOf true l) p wd (k + 1)) ∧ Ext (fun i => i = rr ∨ i = rb ∨ i = ob) W W') W (qh ?_) ?_ ?_ hS ⟨hB, ⟨ps0, hOut, by simp [vals], rfl⟩, fun x hx => by simp [vals] at hx, Ext.refl _ _⟩ hwd (by omega) hl (enters Tryz.func118 (by decide +kernel) rfl)).mono ?_
  ·rintro k x W1 hk hx hfit hS1 ⟨hB1, ⟨ps, hO1, hM, hK⟩, hok, hE⟩
   refine (take1_any rr rb l a c _ hb ub pb ob N k x v0 hv ps W1 hB1 h0 hO1 hk hN (hx ▸ numAt_lt32 _ _ wd hwd) hv0 hS1 ⟨n1, n2, n3, n4, n5, n6, n7, n8⟩).mono ?_
   rintro e W2 ⟨rfl, hS2, ⟨ps', hO2, hM2, hK2⟩, hX⟩
   have hv1 : vals (bitsOf true l) p wd (k + 1) = vals (bitsOf true l) p wd k ++ [x] := by rw [vals_succ, hx]
   have hE2 : Ext (fun i => i = rr ∨ i = rb ∨ i = ob) W W2 := hE.trans hX (fun i _ e => by rcases e with e | e; exact Or.inl e; exact Or.inr (Or.inr e))
   by_cases hin : inB ((v0 : Int) + (x : Int)) 1 4096 = true
   ·rw [if_pos hin] at hS2
    refine ⟨rfl, Or.inl ⟨hS2, hB1.ext hX (fun e => by rcases e with e | e; exact n9 e; exact n4 e) (fun e => by rcases e with e | e; exact n7 e; exact n5 e) (fun e => by rcases e with e | e; exact n8 e; exact n6 e), ⟨ps', hO2, ?_, hK2.trans hK⟩, ?_, hE2⟩⟩
    ·rw [hM2, hM, hv1, List.map_append]; simp
    ·intro y hy
     rw [hv1, List.mem_append] at hy
     rcases hy with hy | hy
     ·exact hok y hy
     ·rw [List.mem_singleton] at hy; rw [hy]; exact hin
   ·rw [if_neg hin] at hS2
    exact ⟨rfl, Or.inr ⟨hS2, fun h => hin (h x (by rw [hv1]; simp)), hE2⟩⟩
  ·rintro k W1 W2 ⟨hB1, ⟨ps, hO1, hM, hK⟩, hok, hE⟩ hX
   exact ⟨hB1.ext hX (fun e => by rcases e with e | e; exact n9 e; exact n10 e) (fun e => by rcases e with e | e; exact n7 e; exact n11 e) (fun e => by rcases e with e | e; exact n8 e; exact n12 e), ⟨ps, hO1.ext hX (fun e => by rcases e with e | e; exact n1 e; exact n2 e), hM, hK⟩, hok, hE.trans hX (fun i _ e => by rcases e with e | e; exact Or.inl e; exact Or.inr (Or.inl e))⟩
  ·rintro k W1 W2 ⟨hb1, hE⟩ hX
   exact ⟨hb1, hE.trans hX (fun i _ e => by rcases e with e | e; exact Or.inl e; exact Or.inr (Or.inl e))⟩
  ·rintro e W1 ⟨rfl, q, er, hS1, ⟨rfl, rfl, hfit, hB1, ⟨ps, hO1, hM, hK⟩, hok, hE⟩ | ⟨rfl, k, hk, hfit, hbad, hE⟩ | ⟨rfl, k, hk, hF, hB1, ⟨ps, hO1, hM, hK⟩, hok, hE⟩⟩
   ·rw [List.take_of_length_le (by have := hO1.len; omega)] at hM
    exact ⟨rfl, _, 0, ps, hS1, hE, Or.inr ⟨rfl, RowE.of_zero hfit hok⟩, fun _ => ⟨rfl, hO1, hM, hK⟩⟩
   ·exact ⟨rfl, q, 27, [], hS1, hE, Or.inr ⟨rfl, rowE_bad hpl (fun K k h hK x hx => hK x (vals_sub h hx)) hk hfit hbad⟩, fun h => by cases h⟩
   ·exact ⟨rfl, q, 10, [], hS1, hE, Or.inr ⟨rfl, rowE_short hk hF hok⟩, fun h => by cases h⟩
 ·refine (prow_err _ rr rb l a c p N wd er0 W hS he hl (by omega)).mono ?_
  rintro e W1 ⟨rfl, q, hS1, hE⟩
  exact ⟨rfl, q, er0, [], hS1, hE.mono (fun i _ e => by rcases e with e | e; exact Or.inl e; exact Or.inr (Or.inl e)), Or.inl ⟨he, rfl⟩, fun h => absurd h he⟩
def Row2To (rr rb : Nat) (l : List UInt8) (a : Option Addr) (c p0 N wd v0 ob : Nat) (ps0 : List PH) (er0 : Int) (W : World) (e : Ending) (W' : World) : Prop :=
 e = .returned (.tuple #[]) ∧ ∃ (q : Nat) (er : Int) (ps : List PH), RS W' rr rb l (q, er) a c ∧ Ext (fun i => i = rr ∨ i = rb ∨ i = ob) W W' ∧ ((er0 ≠ 0 ∧ er = er0) ∨ (er0 = 0 ∧ RowE (bitsOf true l) p0 N wd (okL v0) er)) ∧ (er = 0 → q = al8 (p0 + N * wd) ∧ OutIs W' ob N ps ∧ ps.map (fun p => p.l) = (vals (bitsOf true l) p0 wd N).map (fun x => ((v0 + x : Nat) : Int)) ∧ ps.map (fun p => p.o) = ps0.map (fun p => p.o))
theorem row2_any (rr rb : Nat) (l : List UInt8) (a : Option Addr) (c p p0 : Nat) (hb ub pb ob N wd v0 : Nat) (hv : List Value) (ps0 : List PH) (er0 : Int) (W : World) (hB : PBox W rr hb ub pb ob N hv) (h0 : hv[3]? = some (.int .i64 v0)) (hO : er0 = 0 → p = p0 ∧ OutIs W ob N ps0) (hN : N ≤ 2048) (hwd : wd ≤ 32) (hv0 : v0 < 4294967296) (hl : l.length ≤ 10000000) (hS : RS W rr rb l (p, er0) a c) (hne : ob ≠ rr ∧ ob ≠ rb ∧ (∀ g, a = some g → g.block ≠ ob) ∧ hb ≠ ob ∧ ub ≠ ob ∧ pb ≠ ob ∧ ub ≠ rr ∧ pb ≠ rr ∧ hb ≠ rr ∧ hb ≠ rb ∧ ub ≠ rb ∧ pb ≠ rb) :
 Calls Tryz.prog 117 #[.pointer (some ⟨rr, 0, none⟩), .int .i64 N, .int .i64 wd, .func (.func 119) #[] #[.pointer (some ⟨hb, 0, none⟩), .pointer (some ⟨ub, 0, none⟩), .pointer (some ⟨pb, 0, none⟩)]] W (Row2To rr rb l a c p0 N wd v0 ob ps0 er0 W) := by
 by_cases he : er0 = 0
 ·obtain ⟨rfl, hOut⟩ := hO he
  subst he
  obtain ⟨n1, n2, n3, n4, n5, n6, n7, n8, n9, n10, n11, n12⟩ := hne
  have hpl : p ≤ (bitsOf true l).length := by rw [bitsOf_length]; exact hS.le
  refine (prow_any 119 #[.pointer (some ⟨hb, 0, none⟩), .pointer (some ⟨ub, 0, none⟩), .pointer (some ⟨pb, 0, none⟩)] rr rb l a c p N wd
   (fun k W' => PBox W' rr hb ub pb ob N hv ∧ (∃ ps, OutIs W' ob N ps ∧ (ps.take k).map (fun p => p.l) = (vals (bitsOf true l) p wd k).map (fun x => ((v0 + x : Nat) : Int)) ∧ ps.map (fun p => p.o) = ps0.map (fun p => p.o)) ∧ okL v0 (vals (bitsOf true l) p wd k) ∧ Ext (fun i => i = rr ∨ i = rb ∨ i = ob) W W')
   (fun k W' => ¬ okL v0 (vals (bitsOf true l) p wd (k + 1)) ∧ Ext (fun i => i = rr ∨ i = rb ∨ i = ob) W W') W (qh ?_) ?_ ?_ hS ⟨hB, ⟨ps0, hOut, by simp [vals], rfl⟩, fun x hx => by simp [vals] at hx, Ext.refl _ _⟩ hwd (by omega) hl (enters Tryz.func119 (by decide +kernel) rfl)).mono ?_
  ·rintro k x W1 hk hx hfit hS1 ⟨hB1, ⟨ps, hO1, hM, hK⟩, hok, hE⟩
   refine (take2_any rr rb l a c _ hb ub pb ob N k x v0 hv ps W1 hB1 h0 hO1 hk hN (hx ▸ numAt_lt32 _ _ wd hwd) hv0 hS1 ⟨n1, n2, n3, n4, n5, n6, n7, n8⟩).mono ?_
   rintro e W2 ⟨rfl, hS2, ⟨ps', hO2, hM2, hK2⟩, hX⟩
   have hv1 : vals (bitsOf true l) p wd (k + 1) = vals (bitsOf true l) p wd k ++ [x] := by rw [vals_succ, hx]
   have hE2 : Ext (fun i => i = rr ∨ i = rb ∨ i = ob) W W2 := hE.trans hX (fun i _ e => by rcases e with e | e; exact Or.inl e; exact Or.inr (Or.inr e))
   by_cases hin : inB ((v0 : Int) + (x : Int)) 1 2147483647 = true
   ·rw [if_pos hin] at hS2
    refine ⟨rfl, Or.inl ⟨hS2, hB1.ext hX (fun e => by rcases e with e | e; exact n9 e; exact n4 e) (fun e => by rcases e with e | e; exact n7 e; exact n5 e) (fun e => by rcases e with e | e; exact n8 e; exact n6 e), ⟨ps', hO2, ?_, hK2.trans hK⟩, ?_, hE2⟩⟩
    ·rw [hM2, hM, hv1, List.map_append]; simp
    ·intro y hy
     rw [hv1, List.mem_append] at hy
     rcases hy with hy | hy
     ·exact hok y hy
     ·rw [List.mem_singleton] at hy; rw [hy]; exact hin
   ·rw [if_neg hin] at hS2
    exact ⟨rfl, Or.inr ⟨hS2, fun h => hin (h x (by rw [hv1]; simp)), hE2⟩⟩
  ·rintro k W1 W2 ⟨hB1, ⟨ps, hO1, hM, hK⟩, hok, hE⟩ hX
   exact ⟨hB1.ext hX (fun e => by rcases e with e | e; exact n9 e; exact n10 e) (fun e => by rcases e with e | e; exact n7 e; exact n11 e) (fun e => by rcases e with e | e; exact n8 e; exact n12 e), ⟨ps, hO1.ext hX (fun e => by rcases e with e | e; exact n1 e; exact n2 e), hM, hK⟩, hok, hE.trans hX (fun i _ e => by rcases e with e | e; exact Or.inl e; exact Or.inr (Or.inl e))⟩
  ·rintro k W1 W2 ⟨hb1, hE⟩ hX
   exact ⟨hb1, hE.trans hX (fun i _ e => by rcases e with e | e; exact Or.inl e; exact Or.inr (Or.inl e))⟩
  ·rintro e W1 ⟨rfl, q, er, hS1, ⟨rfl, rfl, hfit, hB1, ⟨ps, hO1, hM, hK⟩, hok, hE⟩ | ⟨rfl, k, hk, hfit, hbad, hE⟩ | ⟨rfl, k, hk, hF, hB1, ⟨ps, hO1, hM, hK⟩, hok, hE⟩⟩
   ·rw [List.take_of_length_le (by have := hO1.len; omega)] at hM
    exact ⟨rfl, _, 0, ps, hS1, hE, Or.inr ⟨rfl, RowE.of_zero hfit hok⟩, fun _ => ⟨rfl, hO1, hM, hK⟩⟩
   ·exact ⟨rfl, q, 27, [], hS1, hE, Or.inr ⟨rfl, rowE_bad hpl (fun K k h hK x hx => hK x (vals_sub h hx)) hk hfit hbad⟩, fun h => by cases h⟩
   ·exact ⟨rfl, q, 10, [], hS1, hE, Or.inr ⟨rfl, rowE_short hk hF hok⟩, fun h => by cases h⟩
 ·refine (prow_err _ rr rb l a c p N wd er0 W hS he hl (by omega)).mono ?_
  rintro e W1 ⟨rfl, q, hS1, hE⟩
  exact ⟨rfl, q, er0, [], hS1, hE.mono (fun i _ e => by rcases e with e | e; exact Or.inl e; exact Or.inr (Or.inl e)), Or.inl ⟨he, rfl⟩, fun h => absurd h he⟩
theorem take_set_succ (xs : List Value) (k : Nat) (u : Value) (hk : k < xs.length) : (xs.set k u).take (k + 1) = xs.take k ++ [u] := by
 rw [List.take_succ_eq_append_getElem (by simpa using hk)]
 simp [List.take_set_of_le]
def Row3To (rr rb : Nat) (l : List UInt8) (a : Option Addr) (c p0 N wd kb cb mb : Nat) (er0 : Int) (W : World) (e : Ending) (W' : World) : Prop :=
 e = .returned (.tuple #[]) ∧ ∃ (q : Nat) (er : Int), RS W' rr rb l (q, er) a c ∧ Ext (fun i => i = rr ∨ i = rb ∨ i = cb ∨ i = mb) W W' ∧ ((er0 ≠ 0 ∧ er = er0) ∨ (er0 = 0 ∧ RowE (bitsOf true l) p0 N wd okC er)) ∧ (er = 0 → q = al8 (p0 + N * wd) ∧ RBox W' kb cb N ((vals (bitsOf true l) p0 wd N).map intV) ∧ BlockIs W' mb [intV (vals (bitsOf true l) p0 wd N).sum] 3)
theorem row3_any (rr rb : Nat) (l : List UInt8) (a : Option Addr) (c p p0 : Nat) (kb cb mb pb N wd : Nat) (xs0 : List Value) (er0 : Int) (W : World) (hR : RBox W kb cb N xs0) (hM : BlockIs W mb [intV 0] 3) (hP : BlockIs W pb [.pointer (some ⟨rr, 0, none⟩)] 128) (hp : er0 = 0 → p = p0) (hN : N ≤ 2048) (hwd : wd ≤ 32) (hl : l.length ≤ 10000000) (hS : RS W rr rb l (p, er0) a c)
 (hne : cb ≠ rr ∧ cb ≠ rb ∧ mb ≠ rr ∧ mb ≠ rb ∧ (∀ g, a = some g → g.block ≠ cb ∧ g.block ≠ mb) ∧ kb ≠ cb ∧ kb ≠ mb ∧ kb ≠ rr ∧ pb ≠ rr ∧ pb ≠ cb ∧ pb ≠ mb ∧ cb ≠ mb ∧ kb ≠ rb ∧ pb ≠ rb) :
 Calls Tryz.prog 117 #[.pointer (some ⟨rr, 0, none⟩), .int .i64 N, .int .i64 wd, .func (.func 120) #[] #[.pointer (some ⟨kb, 0, none⟩), .pointer (some ⟨mb, 0, none⟩), .pointer (some ⟨pb, 0, none⟩)]] W (Row3To rr rb l a c p0 N wd kb cb mb er0 W) := by
 by_cases he : er0 = 0
 ·obtain rfl := hp he
  subst he
  obtain ⟨n1, n2, n3, n4, n5, n6, n7, n8, n9, n10, n11, n12, n13, n14⟩ := hne
  have hpl : p ≤ (bitsOf true l).length := by rw [bitsOf_length]; exact hS.le
  refine (prow_any 120 #[.pointer (some ⟨kb, 0, none⟩), .pointer (some ⟨mb, 0, none⟩), .pointer (some ⟨pb, 0, none⟩)] rr rb l a c p N wd
   (fun k W' => (∃ xs : List Value, RBox W' kb cb N xs ∧ xs.take k = (vals (bitsOf true l) p wd k).map intV) ∧ BlockIs W' mb [intV (vals (bitsOf true l) p wd k).sum] 3 ∧ BlockIs W' pb [.pointer (some ⟨rr, 0, none⟩)] 128 ∧ okC (vals (bitsOf true l) p wd k) ∧ Ext (fun i => i = rr ∨ i = rb ∨ i = cb ∨ i = mb) W W')
   (fun k W' => ¬ okC (vals (bitsOf true l) p wd (k + 1)) ∧ Ext (fun i => i = rr ∨ i = rb ∨ i = cb ∨ i = mb) W W') W (qh ?_) ?_ ?_ hS ⟨⟨xs0, hR, by simp [vals]⟩, hM, hP, by simp [vals, okC], Ext.refl _ _⟩ hwd (by omega) hl (enters Tryz.func120 (by decide +kernel) rfl)).mono ?_
  ·rintro k x W1 hk hx hfit hS1 ⟨⟨xs, hR1, hT⟩, hM1, hP1, hok, hE⟩
   have hxl : xs.length = N := by have := hR1.row.1; omega
   refine (take3_any rr rb l a c _ kb cb mb pb N k x (vals (bitsOf true l) p wd k).sum xs W1 hR1 hM1 hP1 hk hN (hx ▸ numAt_lt32 _ _ wd hwd) hok hS1 ⟨n1, n2, n3, n4, n5, n6, n7, n8, n9, n10, n11, n12⟩).mono ?_
   rintro e W2 ⟨rfl, hS2, hR2, hM2, hX⟩
   have hv1 : vals (bitsOf true l) p wd (k + 1) = vals (bitsOf true l) p wd k ++ [x] := by rw [vals_succ, hx]
   have hs1 : (vals (bitsOf true l) p wd (k + 1)).sum = (vals (bitsOf true l) p wd k).sum + x := by rw [hv1, List.sum_append]; simp
   have hE2 : Ext (fun i => i = rr ∨ i = rb ∨ i = cb ∨ i = mb) W W2 := hE.trans hX (fun i _ e => by rcases e with e | e; exact Or.inl e; exact Or.inr (Or.inr e))
   by_cases hin : (vals (bitsOf true l) p wd k).sum + x ≤ 65536
   ·rw [if_pos hin] at hS2
    refine ⟨rfl, Or.inl ⟨hS2, ⟨_, hR2, ?_⟩, by rw [hs1]; exact hM2, hP1.ext hX (fun e => by rcases e with e | e | e; exact n9 e; exact n10 e; exact n11 e), by show _ ≤ _; rw [hs1]; exact hin, hE2⟩⟩
    rw [take_set_succ xs k _ (by omega), hT, hv1, List.map_append]; rfl
   ·rw [if_neg hin] at hS2
    exact ⟨rfl, Or.inr ⟨hS2, fun h => hin (by rw [← hs1]; exact h), hE2⟩⟩
  ·rintro k W1 W2 ⟨⟨xs, hR1, hT⟩, hM1, hP1, hok, hE⟩ hX
   exact ⟨⟨xs, hR1.ext hX (fun e => by rcases e with e | e; exact n8 e; exact n13 e) (fun e => by rcases e with e | e; exact n1 e; exact n2 e), hT⟩, hM1.ext hX (fun e => by rcases e with e | e; exact n3 e; exact n4 e), hP1.ext hX (fun e => by rcases e with e | e; exact n9 e; exact n14 e), hok, hE.trans hX (fun i _ e => by rcases e with e | e; exact Or.inl e; exact Or.inr (Or.inl e))⟩
  ·rintro k W1 W2 ⟨hb1, hE⟩ hX
   exact ⟨hb1, hE.trans hX (fun i _ e => by rcases e with e | e; exact Or.inl e; exact Or.inr (Or.inl e))⟩
  ·rintro e W1 ⟨rfl, q, er, hS1, ⟨rfl, rfl, hfit, ⟨xs, hR1, hT⟩, hM1, hP1, hok, hE⟩ | ⟨rfl, k, hk, hfit, hbad, hE⟩ | ⟨rfl, k, hk, hF, ⟨xs, hR1, hT⟩, hM1, hP1, hok, hE⟩⟩
   ·rw [List.take_of_length_le (by have := hR1.row.1; omega)] at hT
    exact ⟨rfl, _, 0, hS1, hE, Or.inr ⟨rfl, RowE.of_zero hfit hok⟩, fun _ => ⟨rfl, hT ▸ hR1, hM1⟩⟩
   ·exact ⟨rfl, q, 27, hS1, hE, Or.inr ⟨rfl, rowE_bad hpl (fun K k h hK => Nat.le_trans (vals_sum_mono _ _ _ h) hK) hk hfit hbad⟩, fun h => by cases h⟩
   ·exact ⟨rfl, q, 10, hS1, hE, Or.inr ⟨rfl, rowE_short hk hF hok⟩, fun h => by cases h⟩
 ·refine (prow_err _ rr rb l a c p N wd er0 W hS he hl (by omega)).mono ?_
  rintro e W1 ⟨rfl, q, hS1, hE⟩
  exact ⟨rfl, q, er0, hS1, hE.mono (fun i _ e => by rcases e with e | e; exact Or.inl e; exact Or.inr (Or.inl e)), Or.inl ⟨he, rfl⟩, fun h => absurd h he⟩
def Row4To (rr rb : Nat) (l : List UInt8) (a : Option Addr) (c p0 n wd kb cb : Nat) (er0 : Int) (W : World) (e : Ending) (W' : World) : Prop :=
 e = .returned (.tuple #[]) ∧ ∃ (q : Nat) (er : Int) (ys : List Nat), RS W' rr rb l (q, er) a c ∧ Ext (fun i => i = rr ∨ i = rb ∨ i = cb) W W' ∧ ((er0 ≠ 0 ∧ er = er0) ∨ (er0 = 0 ∧ RowE (bitsOf true l) p0 n wd okS er)) ∧ RBox W' kb cb n (ys.map intV) ∧ (er = 0 → q = al8 (p0 + n * wd) ∧ ys = vals (bitsOf true l) p0 wd n)
theorem row4_any (rr rb : Nat) (l : List UInt8) (a : Option Addr) (c p p0 : Nat) (kb cb pb n wd : Nat) (ys0 : List Nat) (er0 : Int) (W : World) (hR : RBox W kb cb n (ys0.map intV)) (hP : BlockIs W pb [.pointer (some ⟨rr, 0, none⟩)] 128) (hp : er0 = 0 → p = p0) (hN : n ≤ 65536) (hwd : wd ≤ 32) (hl : l.length ≤ 10000000) (hS : RS W rr rb l (p, er0) a c)
 (hne : cb ≠ rr ∧ cb ≠ rb ∧ (∀ g, a = some g → g.block ≠ cb) ∧ kb ≠ cb ∧ kb ≠ rr ∧ pb ≠ rr ∧ pb ≠ cb ∧ kb ≠ rb ∧ pb ≠ rb) :
 Calls Tryz.prog 117 #[.pointer (some ⟨rr, 0, none⟩), .int .i64 n, .int .i64 wd, .func (.func 121) #[] #[.pointer (some ⟨kb, 0, none⟩), .pointer (some ⟨pb, 0, none⟩)]] W (Row4To rr rb l a c p0 n wd kb cb er0 W) := by
 obtain ⟨n1, n2, n5, n6, n8, n9, n10, n13, n14⟩ := hne
 by_cases he : er0 = 0
 ·obtain rfl := hp he
  subst he
  have hpl : p ≤ (bitsOf true l).length := by rw [bitsOf_length]; exact hS.le
  refine (prow_any 121 #[.pointer (some ⟨kb, 0, none⟩), .pointer (some ⟨pb, 0, none⟩)] rr rb l a c p n wd
   (fun k W' => (∃ ys : List Nat, RBox W' kb cb n (ys.map intV) ∧ ys.take k = vals (bitsOf true l) p wd k) ∧ BlockIs W' pb [.pointer (some ⟨rr, 0, none⟩)] 128 ∧ okS (vals (bitsOf true l) p wd k) ∧ Ext (fun i => i = rr ∨ i = rb ∨ i = cb) W W')
   (fun k W' => ¬ okS (vals (bitsOf true l) p wd (k + 1)) ∧ (∃ ys : List Nat, RBox W' kb cb n (ys.map intV)) ∧ Ext (fun i => i = rr ∨ i = rb ∨ i = cb) W W') W (qh ?_) ?_ ?_ hS ⟨⟨ys0, hR, by simp [vals]⟩, hP, fun x hx => by simp [vals] at hx, Ext.refl _ _⟩ hwd (by omega) hl (enters Tryz.func121 (by decide +kernel) rfl)).mono ?_
  ·rintro k x W1 hk hx hfit hS1 ⟨⟨ys, hR1, hT⟩, hP1, hok, hE⟩
   have hxl : ys.length = n := by have := hR1.row.1; rw [List.length_map] at this; omega
   refine (take4_any rr rb l a c _ kb cb pb n k x (ys.map intV) W1 hR1 hP1 hk hN (hx ▸ numAt_lt32 _ _ wd hwd) hS1 ⟨n1, n2, n5, n6, n8, n9, n10⟩).mono ?_
   rintro e W2 ⟨rfl, hS2, hR2, hX⟩
   rw [← List.map_set] at hR2
   have hv1 : vals (bitsOf true l) p wd (k + 1) = vals (bitsOf true l) p wd k ++ [x] := by rw [vals_succ, hx]
   have hE2 : Ext (fun i => i = rr ∨ i = rb ∨ i = cb) W W2 := hE.trans hX (fun i _ e => by rcases e with e | e; exact Or.inl e; exact Or.inr (Or.inr e))
   by_cases hin : x ≤ 4095
   ·rw [if_pos hin] at hS2
    refine ⟨rfl, Or.inl ⟨hS2, ⟨_, hR2, ?_⟩, hP1.ext hX (fun e => by rcases e with e | e; exact n9 e; exact n10 e), ?_, hE2⟩⟩
    ·rw [List.take_succ_eq_append_getElem (by rw [List.length_set]; omega), hv1, ← hT]
     simp [List.take_set_of_le]
    ·intro y hy
     rw [hv1, List.mem_append] at hy
     rcases hy with hy | hy
     ·exact hok y hy
     ·rw [List.mem_singleton] at hy; rw [hy]; exact hin
   ·rw [if_neg hin] at hS2
    exact ⟨rfl, Or.inr ⟨hS2, fun h => hin (h x (by rw [hv1]; simp)), ⟨_, hR2⟩, hE2⟩⟩
  ·rintro k W1 W2 ⟨⟨ys, hR1, hT⟩, hP1, hok, hE⟩ hX
   exact ⟨⟨ys, hR1.ext hX (fun e => by rcases e with e | e; exact n8 e; exact n13 e) (fun e => by rcases e with e | e; exact n1 e; exact n2 e), hT⟩, hP1.ext hX (fun e => by rcases e with e | e; exact n9 e; exact n14 e), hok, hE.trans hX (fun i _ e => by rcases e with e | e; exact Or.inl e; exact Or.inr (Or.inl e))⟩
  ·rintro k W1 W2 ⟨hb1, ⟨ys, hR1⟩, hE⟩ hX
   exact ⟨hb1, ⟨ys, hR1.ext hX (fun e => by rcases e with e | e; exact n8 e; exact n13 e) (fun e => by rcases e with e | e; exact n1 e; exact n2 e)⟩, hE.trans hX (fun i _ e => by rcases e with e | e; exact Or.inl e; exact Or.inr (Or.inl e))⟩
  ·rintro e W1 ⟨rfl, q, er, hS1, ⟨rfl, rfl, hfit, ⟨ys, hR1, hT⟩, hP1, hok, hE⟩ | ⟨rfl, k, hk, hfit, hbad, ⟨ys, hR1⟩, hE⟩ | ⟨rfl, k, hk, hF, ⟨ys, hR1, hT⟩, hP1, hok, hE⟩⟩
   ·rw [List.take_of_length_le (by have := hR1.row.1; rw [List.length_map] at this; omega)] at hT
    exact ⟨rfl, _, 0, ys, hS1, hE, Or.inr ⟨rfl, RowE.of_zero hfit hok⟩, hR1, fun _ => ⟨rfl, hT⟩⟩
   ·exact ⟨rfl, q, 27, ys, hS1, hE, Or.inr ⟨rfl, rowE_bad hpl (fun K k h hK x hx => hK x (vals_sub h hx)) hk hfit hbad⟩, hR1, fun h => by cases h⟩
   ·exact ⟨rfl, q, 10, ys, hS1, hE, Or.inr ⟨rfl, rowE_short hk hF hok⟩, hR1, fun h => by cases h⟩
 ·refine (prow_err _ rr rb l a c p n wd er0 W hS he hl (by omega)).mono ?_
  rintro e W1 ⟨rfl, q, hS1, hE⟩
  exact ⟨rfl, q, er0, ys0, hS1, hE.mono (fun i _ e => by rcases e with e | e; exact Or.inl e; exact Or.inr (Or.inl e)), Or.inl ⟨he, rfl⟩, hR.ext hE (fun e => by rcases e with e | e; exact n8 e; exact n13 e) (fun e => by rcases e with e | e; exact n1 e; exact n2 e), fun h => absurd h he⟩
def Row5To (rr rb : Nat) (l : List UInt8) (a : Option Addr) (c p0 n wd : Nat) (er0 : Int) (W : World) (e : Ending) (W' : World) : Prop :=
 e = .returned (.tuple #[]) ∧ ∃ (q : Nat) (er : Int), RS W' rr rb l (q, er) a c ∧ Ext (RdS rr rb) W W' ∧ ((er0 ≠ 0 ∧ er = er0) ∨ (er0 = 0 ∧ RowE (bitsOf true l) p0 n wd okA er)) ∧ (er = 0 → q = al8 (p0 + n * wd))
theorem row5_any (rr rb : Nat) (l : List UInt8) (a : Option Addr) (c p p0 n wd : Nat) (er0 : Int) (W : World) (hp : er0 = 0 → p = p0) (hN : n ≤ 65536) (hwd : wd ≤ 32) (hl : l.length ≤ 10000000) (hS : RS W rr rb l (p, er0) a c) :
 Calls Tryz.prog 117 #[.pointer (some ⟨rr, 0, none⟩), .int .i64 n, .int .i64 wd, .func (.func 122) #[] #[]] W (Row5To rr rb l a c p0 n wd er0 W) := by
 by_cases he : er0 = 0
 ·obtain rfl := hp he
  subst he
  refine (prow_any 122 #[] rr rb l a c p n wd (fun k W' => Ext (RdS rr rb) W W') (fun k W' => False) W (qh ?_) (fun k W1 W2 h hX => h.trans hX (fun _ _ e => e)) (fun k W1 W2 h hX => h) hS (Ext.refl _ _) hwd (by omega) hl (enters Tryz.func122 (by decide +kernel) rfl)).mono ?_
  ·rintro k x W1 hk hx hfit hS1 hE
   refine (take5_any k x W1).mono ?_
   rintro e W2 ⟨rfl, rfl⟩
   exact ⟨rfl, Or.inl ⟨hS1, hE⟩⟩
  ·rintro e W1 ⟨rfl, q, er, hS1, ⟨rfl, rfl, hfit, hE⟩ | ⟨rfl, k, hk, hfit, hbad⟩ | ⟨rfl, k, hk, hF, hE⟩⟩
   ·exact ⟨rfl, _, 0, hS1, hE, Or.inr ⟨rfl, RowE.of_zero hfit trivial⟩, fun _ => rfl⟩
   ·exact hbad.elim
   ·exact ⟨rfl, q, 10, hS1, hE, Or.inr ⟨rfl, rowE_short hk hF trivial⟩, fun h => by cases h⟩
 ·refine (prow_err _ rr rb l a c p n wd er0 W hS he hl (by omega)).mono ?_
  rintro e W1 ⟨rfl, q, hS1, hE⟩
  exact ⟨rfl, q, er0, hS1, hE, Or.inl ⟨he, rfl⟩, fun h => absurd h he⟩
end Go.Proofs.YtomcdhljjmnahaaGreat.P26
namespace Go.Proofs.YtomcdhljjmnahaaGreat.P26
open C26
def toN (ps : List PH) : HN := ⟨ps.map (fun p => p.o.toNat), ps.map (fun p => p.l.toNat), ps.map (fun p => p.sh.map Int.toNat)⟩
structure NatP (p : PH) : Prop where
 o : 1 ≤ p.o ∧ p.o ≤ 4096
 l : 1 ≤ p.l ∧ p.l ≤ 2147483647
 sh : ∀ x ∈ p.sh, 0 ≤ x ∧ x ≤ 4095
theorem okP_nat {p : PH} (h : okP p = true) : NatP p := by
 unfold okP at h
 simp only [Bool.and_eq_true, Bool.not_eq_true'] at h
 obtain ⟨⟨h1, h2⟩, h3⟩ := h
 refine ⟨inB_true.1 h2, inB_true.1 h3, fun x hx => ?_⟩
 have := List.any_eq_false.1 h1 x hx
 have h6 : inB x 0 4095 = true := by simpa [odd] using this
 exact inB_true.1 h6
theorem totS_all (ps : List PH) : (toN ps).many = totS ps := by
 unfold HN.many HN.all toN totS
 induction ps with
 | nil => rfl
 | cons p ps ih => simp only [List.map_cons, List.flatten_cons, List.length_append, List.length_map, List.sum_cons] at ih ⊢; omega
theorem toN_os_len (ps : List PH) : (toN ps).os.length = ps.length := by simp [toN]
theorem toN_ls_len (ps : List PH) : (toN ps).ls.length = ps.length := by simp [toN]
theorem toN_shs_len (ps : List PH) : (toN ps).shs.length = ps.length := by simp [toN]
structure ChkOk (a : Int) (ps : List PH) : Prop where
 a : 0 ≤ a ∧ a ≤ 2147483647
 ok : (toN ps).Ok
 nat : ∀ p ∈ ps, NatP p
theorem chk_ok {a : Int} {ps : List PH} (h : chk a ps = 0) (hm : Mod ps) : ChkOk a ps := by
 unfold chk at h
 split at h
 ·next hc =>
  simp only [Bool.and_eq_true] at hc
  obtain ⟨h1, h2, h3⟩ := hc
  have hall : ∀ p ∈ ps, NatP p := fun p hp => okP_nat (List.all_eq_true.1 h3 p hp)
  have hlen := inB_true.1 h2
  have htot : totS ps ≤ 65536 := by
   split at h
   ·cases h
   ·omega
  refine ⟨inB_true.1 h1, ⟨by rw [toN_os_len]; omega, by rw [toN_os_len]; exact hm.pages, by rw [toN_os_len, toN_ls_len], by rw [toN_os_len, toN_shs_len], ?_, ?_, ?_, by rw [totS_all]; exact htot⟩, hall⟩
  ·intro x hx
   obtain ⟨p, hp, rfl⟩ := List.mem_map.1 hx
   have := (hall p hp).o
   omega
  ·intro x hx
   obtain ⟨p, hp, rfl⟩ := List.mem_map.1 hx
   have := (hall p hp).l
   omega
  ·intro x hx
   obtain ⟨row, hr, hx⟩ := List.mem_flatten.1 hx
   obtain ⟨p, hp, rfl⟩ := List.mem_map.1 hr
   obtain ⟨y, hy, rfl⟩ := List.mem_map.1 hx
   have := (hall p hp).sh y hy
   omega
 ·cases h
theorem toN_at {ps : List PH} (h : ∀ p ∈ ps, NatP p) (k : Nat) (hk : k < ps.length) : ∃ (o l : Nat) (xs : List Nat), ps[k].o = (o : Int) ∧ ps[k].l = (l : Int) ∧ ps[k].sh = xs.map (fun x : Nat => (x : Int)) ∧ (toN ps).os[k]? = some o ∧ (toN ps).ls[k]? = some l ∧ (toN ps).shs[k]? = some xs ∧ o ≤ 4096 ∧ l ≤ 2147483647 ∧ (∀ x ∈ xs, x ≤ 4095) ∧ 1 ≤ o ∧ 1 ≤ l := by
 have hp := h _ (List.getElem_mem hk)
 refine ⟨ps[k].o.toNat, ps[k].l.toNat, ps[k].sh.map Int.toNat, by have := hp.o; omega, by have := hp.l; omega, ?_, by simp [toN, hk], by simp [toN, hk], by simp [toN, hk], by have := hp.o; omega, by have := hp.l; omega, ?_, by have := hp.o; omega, by have := hp.l; omega⟩
 ·rw [List.map_map]
  refine (List.map_id _).symm.trans (List.map_congr_left fun x hx => ?_)
  have := hp.sh x hx
  simp only [id, Function.comp]; omega
 ·intro x hx
  obtain ⟨y, hy, rfl⟩ := List.mem_map.1 hx
  have := hp.sh y hy
  omega
theorem least_fold {xs : List Nat} (h : xs ≠ []) : xs.foldl min (xs.headD 0) = least xs := by
 cases xs with
 | nil => exact absurd rfl h
 | cons x xs => simp [least]
theorem most_fold {xs : List Nat} (h : xs ≠ []) : xs.foldl max (xs.headD 0) = most xs := by
 cases xs with
 | nil => exact absurd rfl h
 | cons x xs => simp [most]
theorem fold_take_succ (f : Nat → Nat → Nat) (z : Nat) (xs : List Nat) (k : Nat) (x : Nat) (h : xs[k]? = some x) : (xs.take (k + 1)).foldl f z = f ((xs.take k).foldl f z) x := by
 rw [List.take_add_one, h, List.foldl_append]; rfl
theorem counts_at {h : HN} {k : Nat} {xs : List Nat} (e : h.shs[k]? = some xs) : h.counts[k]? = some xs.length := by unfold HN.counts; rw [List.getElem?_map, e]; rfl
theorem flat_take_succ {shs : List (List Nat)} {k : Nat} {xs : List Nat} (e : shs[k]? = some xs) : (shs.take (k + 1)).flatten = (shs.take k).flatten ++ xs := by
 rw [List.take_add_one, e, List.flatten_append]; simp
end Go.Proofs.YtomcdhljjmnahaaGreat.P26
namespace Go.Proofs.YtomcdhljjmnahaaGreat.P26
open Go.RowKit C26
theorem fold_take_int (f : Int → Int → Int) (x : Int) (xs : List Int) (k : Nat) (hk : k < xs.length) : (xs.take (k + 1)).foldl f x = f ((xs.take k).foldl f x) xs[k] := by
 rw [List.take_add_one, List.getElem?_eq_getElem hk, List.foldl_append]; rfl
theorem max_int (ad : Option Addr) (cap : Nat) (x : Int) (xs : List Int) (w : World) (hr : RowOf w ad ((x :: xs).map iV)) (hl : xs.length ≤ 1000000000) :
 Calls Tryz.prog 61 #[.slice ad (x :: xs).length cap] w fun e w' => e = .returned (.int .i64 (xs.foldl max x)) ∧ w' = w := by
 obtain ⟨b, o, rfl, h0⟩ := iV_at hr 0 (by simp)
 obtain ⟨n, hn⟩ : ∃ n, n = (x :: xs).length := ⟨_, rfl⟩
 have hn1 : n = xs.length + 1 := by rw [hn, List.length_cons]
 rw [← hn]
 simp only [List.getElem_cons_zero, Nat.add_zero] at h0
 have HN := qh hn1
 have hn2 : 0 < n := by omega
 have hn3 : n ≤ 1000000001 := by omega
 have hn4 : ¬ (n : Int) < 1 := by omega
 have HN2 := qh hn
 clear hn hn1
 go_enter Tryz.func61, Tryz.ntmps61
 go_wp2_with fail
 go_loop [3, 4] (fun m i => ∃ k : Nat, k + 1 ≤ n ∧ i = .int .i64 ((k + 1 : Nat) : Int) ∧ m = .int .i64 ((xs.take k).foldl max x)) (fun _ i => n - (intOf i).toNat)
 case atStart => exact ⟨0, by omega, rfl, rfl⟩
 case round =>
  obtain ⟨k, hk, rfl, rfl⟩ := hrel
  obtain ⟨k1, hk1⟩ : ∃ k1, k1 = k + 1 := ⟨_, rfl⟩
  rw [← hk1] at hk ⊢
  have HK1 := qh hk1
  obtain ⟨m, hm⟩ : ∃ m, m = (xs.take k).foldl max x := ⟨_, rfl⟩
  rw [← hm]
  by_cases hlt : k1 < n
  ·have hki : (k1 : Int) < (n : Int) := by omega
   have hk0 : (0 : Int) ≤ (k1 : Int) := by omega
   have hkx : k < xs.length := by have := HN.out; omega
   have hs := fold_take_int max x xs k hkx
   rw [← hm] at hs
   obtain ⟨_, _, hh, h1⟩ := iV_at hr k1 (by rw [← HN2.out]; exact hlt)
   cases hh
   have hg : (x :: xs)[k1]'(by rw [← HN2.out]; exact hlt) = xs[k] := by subst hk1; rfl
   rw [hg] at h1
   generalize xs[k] = y at *
   have HS := qh hs
   clear hs hm hk1
   go_wp2_with fail
   go_round
   case rel => exact ⟨k1, by omega, by go_num, by rw [show k1 = k + 1 from HK1.out, HS.out]; try (congr 1; first | omega | (split <;> omega))⟩
   case measure => simp [intOf]; omega
  ·have hki : ¬ (k1 : Int) < (n : Int) := by omega
   have ht : xs.take k = xs := List.take_of_length_le (by have := HN.out; omega)
   rw [ht] at hm
   have HM := qh hm
   clear hm ht hk1
   go_wp2_with fail
   go_ret
   exact ⟨by rw [← HM.out]; rfl, rfl⟩
theorem mx_cons (x : Nat) (xs : List Nat) : mx (x :: xs) = xs.foldl max x := by unfold mx; rw [List.foldl_cons, Nat.max_eq_right (Nat.zero_le _)]
theorem maxN_any (ad : Option Addr) (cap : Nat) (ls : List Nat) (w : World) (hr : RowOf w ad (ls.map intV)) (hne : ls ≠ []) (hl : ls.length ≤ 1000000000) :
 Calls Tryz.prog 61 #[.slice ad ls.length cap] w fun e w' => e = .returned (.int .i64 (mx ls : Nat)) ∧ w' = w := by
 cases ls with
 | nil => exact absurd rfl hne
 | cons x xs =>
   have h := max_int ad cap (x : Int) (xs.map (fun y : Nat => (y : Int))) w (by rw [← List.map_cons (f := fun y : Nat => (y : Int)), List.map_map]; exact hr) (by rw [List.length_map]; simp at hl; omega)
   rw [foldl_max_cast, ← mx_cons] at h
   simpa using h
