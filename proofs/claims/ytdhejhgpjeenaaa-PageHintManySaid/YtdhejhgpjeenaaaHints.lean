/-
  What is known of pages, as it lies in memory; and walked: are there few, are two alike?
-/
import Derived.Test.YtdhejhgpjeenaaaSl
namespace Go.Proofs.Ytdhejhgpjeenaaa
open Go.RowKit
set_option linter.unusedVariables false

/-- what is known of a page, and where its row of shared numbers lies -/
structure PH where
  o : Int
  l : Int
  sa : Option Addr
  sc : Nat
  sh : List Int
def numV (x : Int) : Value := .int .i64 x
def cellsP (p : PH) : List Value := [.int .i64 p.o, .int .i64 p.l, .slice p.sa p.sh.length p.sc]
theorem cellsP_len (l : List PH) : (l.flatMap cellsP).length = l.length * 3 := by
  induction l with
  | nil => rfl
  | cons p l ih => rw [List.flatMap_cons, List.length_append, ih, List.length_cons]; simp only [cellsP, List.length_cons, List.length_nil]; omega
theorem cellsP_get (l : List PH) (k : Nat) (hk : k < l.length) (j : Nat) (hj : j < 3) : (l.flatMap cellsP)[k * 3 + j]? = (cellsP l[k])[j]? := by
  induction l generalizing k with
  | nil => simp at hk
  | cons p l ih =>
    rw [List.flatMap_cons]
    cases k with
    | zero => rw [List.getElem?_append_left (by simp only [cellsP, List.length_cons, List.length_nil]; omega)]; simp
    | succ k =>
      rw [List.getElem?_append_right (by simp only [cellsP, List.length_cons, List.length_nil]; omega)]
      rw [show (k + 1) * 3 + j - (cellsP p).length = k * 3 + j from by simp only [cellsP, List.length_cons, List.length_nil]; omega, ih k (by simpa using hk)]
      simp
structure Hints (W : World) (ad : Option Addr) (ps : List PH) : Prop where
  row : RowOf W ad (ps.flatMap cellsP)
  sub : ∀ p ∈ ps, RowOf W p.sa (p.sh.map numV)
  fit : ∀ p ∈ ps, p.sh.length ≤ p.sc ∧ p.sc ≤ maxLen ∧ (p.sa = none → p.sc = 0)
theorem Hints.ext {S : Nat → Prop} {W W' : World} {ad : Option Addr} {ps : List PH} (h : Hints W ad ps) (e : Ext S W W') (hn : ∀ a, ad = some a → ¬ S a.block) (hs : ∀ p ∈ ps, ∀ a, p.sa = some a → ¬ S a.block) : Hints W' ad ps :=
  ⟨h.row.ext e hn, fun p hp => (h.sub p hp).ext e (hs p hp), h.fit⟩
theorem Hints.pure {W W' : World} {ad : Option Addr} {ps : List PH} (h : Hints W ad ps) (e : Pure W W') : Hints W' ad ps := h.ext e (fun _ _ => id) (fun _ _ _ _ => id)
theorem Hints.at {W : World} {ad : Option Addr} {ps : List PH} (h : Hints W ad ps) (k : Nat) (hk : k < ps.length) :
    ∃ b o, ad = some ⟨b, o, none⟩ ∧ W.cell? ⟨b, o + k * 3, none⟩ = some (.int .i64 ps[k].o) ∧ W.cell? ⟨b, o + k * 3 + 1, none⟩ = some (.int .i64 ps[k].l) ∧ W.cell? ⟨b, o + k * 3 + 2, none⟩ = some (.slice ps[k].sa ps[k].sh.length ps[k].sc) := by
  have h0 := cellsP_get ps k hk 0 (by omega)
  have h1 := cellsP_get ps k hk 1 (by omega)
  have h2 := cellsP_get ps k hk 2 (by omega)
  obtain ⟨b, o, rfl, c0⟩ := h.row (k * 3 + 0) _ (h0.trans rfl)
  obtain ⟨_, _, e, c1⟩ := h.row (k * 3 + 1) _ (h1.trans rfl)
  cases e
  obtain ⟨_, _, e, c2⟩ := h.row (k * 3 + 2) _ (h2.trans rfl)
  cases e
  exact ⟨b, o, rfl, c0, c1, c2⟩
theorem numV_at {w : World} {ad : Option Addr} {ls : List Int} (h : RowOf w ad (ls.map numV)) (i : Nat) (hi : i < ls.length) : ∃ b o, ad = some ⟨b, o, none⟩ ∧ w.cell? ⟨b, o + i, none⟩ = some (.int .i64 ls[i]) :=
  h i _ (by simp [hi, numV])
theorem numV_one (l : List Int) : ∀ u ∈ l.map numV, u.oneCell' = true := by intro u hu; obtain ⟨y, _, rfl⟩ := List.mem_map.1 hu; rfl

/-- are there at most 40, of at most 40 numbers each? -/
def fewB (ps : List PH) : Bool := decide (ps.length ≤ 40) && ps.all (fun p => decide (p.sh.length ≤ 40))
theorem fewB_true {ps : List PH} : fewB ps = true ↔ ps.length ≤ 40 ∧ ∀ p ∈ ps, p.sh.length ≤ 40 := by simp [fewB]
theorem fewB_of {ps : List PH} {k : Nat} (hk : k < ps.length) (h : 40 < ps[k].sh.length) : fewB ps = false := by
  rw [← Bool.not_eq_true, fewB_true]
  intro ⟨_, h2⟩
  have := h2 _ (List.getElem_mem hk)
  omega
theorem all_take_succ {α : Type} {P : α → Prop} {l : List α} {k : Nat} (hk : k < l.length) (h : ∀ x ∈ l.take k, P x) (hx : P l[k]) : ∀ x ∈ l.take (k + 1), P x := by
  intro x hm
  rw [List.take_succ_eq_append_getElem hk, List.mem_append] at hm
  rcases hm with hm | hm
  · exact h x hm
  · rw [List.mem_singleton] at hm; rw [hm]; exact hx
set_option maxRecDepth 100000 in
theorem few_any (ad : Option Addr) (c : Nat) (ps : List PH) (w : World) (h : Hints w ad ps) (hl : (ps.length : Int) ≤ 9223372036854775807) :
    Calls Try.prog 8 #[.slice ad ps.length c, .int .i64 40, .int .i64 40] w fun e w' => e = .returned (.bool (fewB ps)) ∧ w' = w := by
  obtain ⟨B, hB⟩ : ∃ B, B = fewB ps := ⟨_, rfl⟩
  rw [← hB]
  by_cases h40 : (40 : Int) < (ps.length : Int)
  · have HB : Hid (B = false) := Lib.hid (by rw [hB, ← Bool.not_eq_true, fewB_true]; omega)
    clear hB
    go_enter Try.func8, Try.ntmps8
    go_wp2_with fail
    go_ret
    exact ⟨by rw [HB.out]; rfl, rfl⟩
  · have HB := Lib.hid hB
    clear hB
    go_enter Try.func8, Try.ntmps8
    go_wp2_with fail
    go_loop [7] (fun i => ∃ k : Nat, k ≤ ps.length ∧ i = .int .i64 k ∧ Hid (∀ p ∈ ps.take k, p.sh.length ≤ 40)) (fun i => ps.length - (intOf i).toNat)
    case atStart => exact ⟨0, Nat.zero_le _, rfl, Lib.hid (by simp)⟩
    case round =>
      obtain ⟨k, hk, rfl, HA⟩ := hrel
      by_cases hlt : k < ps.length
      · have hki : (k : Int) < (ps.length : Int) := by omega
        obtain ⟨b, o, rfl, _, _, c2⟩ := h.at k hlt
        obtain ⟨n, hn⟩ : ∃ n, n = ps[k].sh.length := ⟨_, rfl⟩
        rw [← hn] at c2
        by_cases hn40 : (40 : Int) < (n : Int)
        · have HF := Lib.hid (fewB_of hlt (by omega))
          clear hn h
          go_wp2_with fail
          go_ret
          exact ⟨by rw [HB.out, HF.out]; rfl, rfl⟩
        · have HA2 := Lib.hid (all_take_succ (P := fun p : PH => p.sh.length ≤ 40) hlt HA.out (by omega))
          clear hn
          go_wp2_with fail
          go_round
          case rel => exact ⟨k + 1, by omega, by go_num, HA2⟩
          case measure => simp [intOf]; omega
      · have hki : ¬ (k : Int) < (ps.length : Int) := by omega
        have HF : Hid (fewB ps = true) := Lib.hid (fewB_true.2 ⟨by omega, by have := HA.out; rwa [List.take_of_length_le (by omega)] at this⟩)
        go_wp2_with fail
        go_ret
        exact ⟨by rw [HB.out, HF.out]; rfl, rfl⟩

/-- are two alike, where they lie aside? -/
def alikeB (ps qs : List PH) : Bool := decide (ps.map (fun p => (p.o, p.l, p.sh)) = qs.map (fun p => (p.o, p.l, p.sh)))
end Go.Proofs.Ytdhejhgpjeenaaa
