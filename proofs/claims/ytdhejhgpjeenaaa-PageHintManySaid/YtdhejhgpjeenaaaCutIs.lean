/-
  Plain: what the bytes of a table of hints come to.
  Walked: the reference's rest (rows that are nothing); and a cell of a row of the call's own is written.
  The row of pages that Decode makes, page by page.
  The row of pages that Decode makes, with the shared numbers cut, page by page; and, plain, what the rows that are nothing come to.
-/
import Derived.Test.YtdhejhgpjeenaaaTabPlain
import Derived.Test.YtdhejhgpjeenaaaNum26
import Derived.Test.YtdhejhgpjeenaaaRefRow26
import Derived.Test.YtdhejhgpjeenaaaHints
namespace Go.Proofs.Ytdhejhgpjeenaaa
open Go.RowKit C26
set_option linter.unusedVariables false

/-- the numbers of a head -/
def h0 (bs : List Bool) : Nat := numAt bs 0 32
def h1 (bs : List Bool) : Nat := numAt bs 32 32
def h2 (bs : List Bool) : Nat := numAt bs 64 16
def h3 (bs : List Bool) : Nat := numAt bs 80 32
def h4 (bs : List Bool) : Nat := numAt bs 112 16
def h6 (bs : List Bool) : Nat := numAt bs 160 16
def h8 (bs : List Bool) : Nat := numAt bs 208 16
def h9 (bs : List Bool) : Nat := numAt bs 224 16
def h10 (bs : List Bool) : Nat := numAt bs 240 16
def h11 (bs : List Bool) : Nat := numAt bs 256 16
def HeadOk (bs : List Bool) : Prop := h1 bs ≤ 2147483647 ∧ h2 bs ≤ 32 ∧ h4 bs ≤ 32 ∧ h6 bs ≤ 32 ∧ h8 bs ≤ 32 ∧ h9 bs ≤ 32 ∧ h10 bs ≤ 32 ∧ h11 bs ≤ 32
structure DRes where
  e : Int
  a : Nat
  os : List Nat
  ls : List Nat
  shs : List (List Nat)
  m : Nat
def dErr (e : Int) : DRes := ⟨e, 0, [], [], [], 0⟩
/-- which error a row of numbers has: 27 if what is there may not be, 10 if it is cut, 0 -/
def RowE (bs : List Bool) (p n w : Nat) (ok : List Nat → Prop) (e : Int) : Prop :=
  ∃ K, Fit bs.length p w n K ∧ ((¬ ok (vals bs p w K) ∧ e = 27) ∨ (ok (vals bs p w K) ∧ ((K ≠ n ∧ e = 10) ∨ (K = n ∧ e = 0))))
theorem RowE.unique {bs : List Bool} {p n w : Nat} {ok : List Nat → Prop} {e e' : Int} (h : RowE bs p n w ok e) (h' : RowE bs p n w ok e') : e = e' := by
  obtain ⟨K, hF, h⟩ := h
  obtain ⟨K', hF', h'⟩ := h'
  obtain rfl := hF.unique hF'
  rcases h with ⟨n1, rfl⟩ | ⟨y1, ⟨n2, rfl⟩ | ⟨y2, rfl⟩⟩ <;> rcases h' with ⟨m1, rfl⟩ | ⟨m1, ⟨m2, rfl⟩ | ⟨m2, rfl⟩⟩ <;> first | rfl | (exact absurd m1 n1) | (exact absurd y1 m1) | (exact absurd m2 n2) | (exact absurd y2 m2)
theorem RowE.zero {bs : List Bool} {p n w : Nat} {ok : List Nat → Prop} {e : Int} (h : RowE bs p n w ok e) (he : e = 0) : p + n * w ≤ bs.length ∧ ok (vals bs p w n) := by
  obtain ⟨K, hF, h⟩ := h
  rcases h with ⟨_, rfl⟩ | ⟨y1, ⟨_, rfl⟩ | ⟨rfl, _⟩⟩
  · cases he
  · cases he
  · exact ⟨hF.fits, y1⟩
theorem RowE.of_zero {bs : List Bool} {p n w : Nat} {ok : List Nat → Prop} (h : p + n * w ≤ bs.length) (ho : ok (vals bs p w n)) : RowE bs p n w ok 0 :=
  ⟨n, ⟨Nat.le_refl _, h, fun h => absurd h (Nat.lt_irrefl _)⟩, Or.inr ⟨ho, Or.inr ⟨rfl, rfl⟩⟩⟩
def okO (l : Nat) (xs : List Nat) : Prop := ∀ x ∈ xs, inB ((l : Int) + (x : Int)) 1 4096 = true
def okL (l : Nat) (xs : List Nat) : Prop := ∀ x ∈ xs, inB ((l : Int) + (x : Int)) 1 2147483647 = true
def okC (xs : List Nat) : Prop := xs.sum ≤ 65536
def okS (xs : List Nat) : Prop := ∀ x ∈ xs, x ≤ 4095
def okA (xs : List Nat) : Prop := True
/-- where rows begin -/
def q1 (bs : List Bool) (n : Nat) : Nat := al8 (288 + n * h2 bs)
def q2 (bs : List Bool) (n : Nat) : Nat := al8 (q1 bs n + n * h4 bs)
def q3 (bs : List Bool) (n : Nat) : Nat := al8 (q2 bs n + n * h9 bs)
def cnts (bs : List Bool) (n : Nat) : List Nat := vals bs (q2 bs n) (h9 bs) n
def mny (bs : List Bool) (n : Nat) : Nat := (cnts bs n).sum
def q4 (bs : List Bool) (n : Nat) : Nat := al8 (q3 bs n + mny bs n * h10 bs)
def q5 (bs : List Bool) (n : Nat) : Nat := al8 (q4 bs n + mny bs n * h11 bs)
def q6 (bs : List Bool) (n : Nat) : Nat := al8 (q5 bs n + n * h6 bs)
def q7 (bs : List Bool) (n : Nat) : Nat := al8 (q6 bs n + n * h8 bs)
/-- a row cut into rows of so many -/
def cut : List Nat → List Nat → List (List Nat)
  | [], _ => []
  | c :: cs, xs => xs.take c :: cut cs (xs.drop c)
theorem cut_len (cs xs : List Nat) : (cut cs xs).length = cs.length := by
  induction cs generalizing xs with
  | nil => rfl
  | cons c cs ih => simp [cut, ih]
theorem cut_flat : ∀ (ls : List (List Nat)), cut (ls.map List.length) ls.flatten = ls
  | [] => rfl
  | l :: ls => by
    rw [List.map_cons, List.flatten_cons, cut, List.take_left' rfl, List.drop_left' rfl, cut_flat ls]
/-- first this, and if it has no error that -/
def First (E : Int → Prop) (r : DRes) (k : Prop) : Prop := ∃ e, E e ∧ ((e ≠ 0 ∧ r = dErr e) ∨ (e = 0 ∧ k))
theorem First.unique {E : Int → Prop} {r r' : DRes} {k k' : Prop} (hE : ∀ e e', E e → E e' → e = e') (hk : k → k' → r = r') (h : First E r k) (h' : First E r' k') : r = r' := by
  obtain ⟨e, h1, h2⟩ := h
  obtain ⟨e', h1', h2'⟩ := h'
  obtain rfl := hE _ _ h1 h1'
  rcases h2 with ⟨n, rfl⟩ | ⟨z, hk1⟩
  · rcases h2' with ⟨_, rfl⟩ | ⟨z, _⟩
    · rfl
    · exact absurd z n
  · rcases h2' with ⟨n, _⟩ | ⟨_, hk2⟩
    · exact absurd z n
    · exact hk hk1 hk2
def good (bs : List Bool) (n : Nat) : DRes :=
  ⟨0, h1 bs, (vals bs 288 (h2 bs) n).map (fun x => h0 bs + x), (vals bs (q1 bs n) (h4 bs) n).map (fun x => h3 bs + x), cut (cnts bs n) (vals bs (q3 bs n) (h10 bs) (mny bs n)), q7 bs n / 8⟩
def Rest7 (bs : List Bool) (n : Nat) (r : DRes) : Prop := First (RowE bs (q6 bs n) n (h8 bs) okA) r (r = good bs n)
def Rest6 (bs : List Bool) (n : Nat) (r : DRes) : Prop := First (RowE bs (q5 bs n) n (h6 bs) okA) r (Rest7 bs n r)
def Rest5 (bs : List Bool) (n : Nat) (r : DRes) : Prop := First (RowE bs (q4 bs n) (mny bs n) (h11 bs) okA) r (Rest6 bs n r)
def Rest4 (bs : List Bool) (n : Nat) (r : DRes) : Prop := First (RowE bs (q3 bs n) (mny bs n) (h10 bs) okS) r (Rest5 bs n r)
def Rest3 (bs : List Bool) (n : Nat) (r : DRes) : Prop := First (RowE bs (q2 bs n) n (h9 bs) okC) r (Rest4 bs n r)
def Rest2 (bs : List Bool) (n : Nat) (r : DRes) : Prop := First (RowE bs (q1 bs n) n (h4 bs) (okL (h3 bs))) r (Rest3 bs n r)
def Rest1 (bs : List Bool) (n : Nat) (r : DRes) : Prop := First (RowE bs 288 n (h2 bs) (okO (h0 bs))) r (Rest2 bs n r)
theorem rest_unique {bs : List Bool} {n : Nat} {r r' : DRes} (h : Rest1 bs n r) (h' : Rest1 bs n r') : r = r' :=
  First.unique (fun _ _ => RowE.unique) (First.unique (fun _ _ => RowE.unique) (First.unique (fun _ _ => RowE.unique) (First.unique (fun _ _ => RowE.unique) (First.unique (fun _ _ => RowE.unique) (First.unique (fun _ _ => RowE.unique) (First.unique (fun _ _ => RowE.unique) (fun e e' => e.trans e'.symm))))))) h h'
def DecTo (bs : List Bool) (n : Int) (r : DRes) : Prop :=
  (inB n 1 2048 = false ∧ r = dErr 2) ∨ (inB n 1 2048 = true ∧ ((bs.length < 288 ∧ r = dErr 10) ∨ (288 ≤ bs.length ∧ ((¬ HeadOk bs ∧ r = dErr 27) ∨ (HeadOk bs ∧ Rest1 bs n.toNat r)))))
theorem dec_unique {bs : List Bool} {n : Int} {r r' : DRes} (h : DecTo bs n r) (h' : DecTo bs n r') : r = r' := by
  rcases h with ⟨a, rfl⟩ | ⟨a, ⟨b, rfl⟩ | ⟨b, ⟨c, rfl⟩ | ⟨c, d⟩⟩⟩ <;> rcases h' with ⟨a', rfl⟩ | ⟨a', ⟨b', rfl⟩ | ⟨b', ⟨c', rfl⟩ | ⟨c', d'⟩⟩⟩ <;>
    first
      | rfl
      | exact absurd (a.symm.trans a') (by decide)
      | omega
      | exact absurd c' c
      | exact absurd c c'
      | exact rest_unique d d'
end Go.Proofs.Ytdhejhgpjeenaaa
namespace Go.Proofs.Ytdhejhgpjeenaaa
open Go.RowKit C26
set_option linter.unusedVariables false

theorem own_setc {w : World} {B e n c size : Nat} {a : Option Addr} {xs : List Value} (h : w.ownsRow B e size (.slice a n c) n xs) (i : Nat) (hi : i < n * size) (u : Value) : ∃ g, a = some ⟨g, 0, none⟩ ∧ B ≤ g ∧ (∃ y, w.cell? ⟨g, i, none⟩ = some y) ∧ w.frozen? ⟨g, i, none⟩ = false ∧ (w.setCell ⟨g, i, none⟩ u).ownsRow B e size (.slice a n c) n (xs.set i u) := by
  have hlen := h.1
  rcases h.2 with ⟨_, rfl⟩ | ⟨g, cap, cur, hv, hg, hh, h1, h2, h3, h4⟩
  · simp at hlen; omega
  · cases hv
    have hcs : i < cur.size := by
      rw [h3]
      exact Nat.lt_of_lt_of_le hi (Nat.mul_le_mul_right _ h1)
    refine ⟨g, rfl, hg, ?_, ?_, ?_⟩
    · exact ⟨cur[i], by unfold World.cell?; simp [hh, hcs]⟩
    · unfold World.frozen?; simp [hh]
    · refine ⟨by simpa using hlen, .inr ⟨g, c, cur.setIfInBounds i u, rfl, hg, ?_, h1, h2, by simpa using h3, ?_⟩⟩
      · unfold World.setCell; simp only [Array.getElem?_modify]; rw [hh]; simp
      · rw [← h4]; simp [List.take_set]
def Fit3 (bs : List Bool) (p many n w11 w6 w8 : Nat) : Prop := p + many * w11 ≤ bs.length ∧ al8 (p + many * w11) + n * w6 ≤ bs.length ∧ al8 (al8 (p + many * w11) + n * w6) + n * w8 ≤ bs.length
instance (bs : List Bool) (p many n w11 w6 w8 : Nat) : Decidable (Fit3 bs p many n w11 w6 w8) := by unfold Fit3; infer_instance
def RestTo (bs : List Bool) (p many n w11 w6 w8 : Nat) (w : World) (e : Ending) (w' : World) : Prop :=
  ∃ z : Int, e = .returned (.tuple #[.int .i64 z, .bool (decide (Fit3 bs p many n w11 w6 w8))]) ∧ (Fit3 bs p many n w11 w6 w8 → z = (al8 (al8 (al8 (p + many * w11) + n * w6) + n * w8) : Nat)) ∧ Pure w w'
theorem al8_le' {x L : Nat} (h : x ≤ L) (h8 : L % 8 = 0) : al8 x ≤ L := by unfold al8; omega
theorem vals_at (bs : List Bool) (p w K k : Nat) (h : k < K) : (vals bs p w K)[k]? = some (numAt bs (p + k * w) w) := by simp [vals, h]
theorem vals_mem (bs : List Bool) (p w K k : Nat) (h : k < K) : numAt bs (p + k * w) w ∈ vals bs p w K := by simp only [vals, List.mem_map, List.mem_range]; exact ⟨k, h, rfl⟩
theorem vals_sum_mono (bs : List Bool) (p w : Nat) {k K : Nat} (h : k ≤ K) : (vals bs p w k).sum ≤ (vals bs p w K).sum := by
  induction K with
  | zero => obtain rfl : k = 0 := by omega
            exact Nat.le_refl _
  | succ K ih =>
    by_cases e : k = K + 1
    · rw [e]; exact Nat.le_refl _
    · rw [vals_succ, List.sum_append]
      have := ih (by omega)
      omega
theorem fit_lt {L p w n K : Nat} (h : Fit L p w n K) (hne : K ≠ n) : L < p + n * w := by
  have h1 : K < n := by have := h.le; omega
  have h2 := h.cut h1
  have h3 : (K + 1) * w ≤ n * w := Nat.mul_le_mul_right w h1
  omega
set_option maxHeartbeats 2000000 in
set_option maxRecDepth 100000 in
theorem refrest_any (bs : List Bool) (a : Option Addr) (c : Nat) (p many n w11 w6 w8 : Nat) (hb : Nat) (w : World) (hr : RowOf w a (bs.map Value.bool)) (hcap : bs.length ≤ c) (hnil : a = none → c = 0) (hlen : bs.length ≤ 80000000) (h8 : bs.length % 8 = 0) (hp : p ≤ bs.length) (hm : many ≤ 1000000) (hn : n ≤ 1000000) (hw1 : w11 ≤ 32) (hw2 : w6 ≤ 32) (hw3 : w8 ≤ 32)
    (c11 : w.cell? ⟨hb, 11, none⟩ = some (.int .i64 w11)) (c6 : w.cell? ⟨hb, 6, none⟩ = some (.int .i64 w6)) (c8 : w.cell? ⟨hb, 8, none⟩ = some (.int .i64 w8)) :
    Calls Try.prog 45 #[.slice a bs.length c, .int .i64 p, .int .i64 many, .int .i64 n, .slice (some ⟨hb, 0, none⟩) 13 13] w (RestTo bs p many n w11 w6 w8 w) := by
  have HRow1 := Lib.hid (refrow_any bs a c p many w11 w hr hcap hnil (by omega) hw1 hp (by omega))
  have HRow2 := Lib.hid (fun W (hP : Pure w W) p' (h : p' ≤ bs.length) => refrow_any bs a c p' n w6 W (hr.ext hP (fun _ _ => id)) hcap hnil (by omega) hw2 h (by omega))
  have HRow3 := Lib.hid (fun W (hP : Pure w W) p' (h : p' ≤ bs.length) => refrow_any bs a c p' n w8 W (hr.ext hP (fun _ _ => id)) hcap hnil (by omega) hw3 h (by omega))
  have H8 := Lib.hid h8
  clear hr h8
  go_enter Try.func45, Try.ntmps45
  go_wp2_with fail
  refine HRow1.out.mono ?_
  rintro e w1 ⟨K1, x1, y1, hF1, rfl, hO1, hP1⟩
  clear HRow1 hO1
  by_cases hK1 : K1 = many
  · subst hK1
    obtain ⟨q1, hq1⟩ : ∃ z, z = al8 (p + K1 * w11) := ⟨_, rfl⟩
    have hq1l : q1 ≤ bs.length := hq1 ▸ al8_le' hF1.fits H8.out
    rw [if_pos rfl, decide_eq_true rfl, ← hq1]
    have HF1 := Lib.hid hF1
    have HQ1 := Lib.hid hq1
    have d6 := hP1.cell_some c6 id
    clear hF1 hq1
    go_wp2_with fail
    refine (HRow2.out w1 hP1 q1 hq1l).mono ?_
    rintro e w2 ⟨K2, x2, y2, hF2, rfl, hO2, hP2⟩
    clear HRow2 hO2 d6
    by_cases hK2 : K2 = n
    · subst hK2
      obtain ⟨q2, hq2⟩ : ∃ z, z = al8 (q1 + K2 * w6) := ⟨_, rfl⟩
      have hq2l : q2 ≤ bs.length := hq2 ▸ al8_le' hF2.fits H8.out
      rw [if_pos rfl, decide_eq_true rfl, ← hq2]
      have HF2 := Lib.hid hF2
      have HQ2 := Lib.hid hq2
      have d8 := (hP1.pure hP2).cell_some c8 id
      clear hF2 hq2
      go_wp2_with fail
      refine (HRow3.out w2 (hP1.pure hP2) q2 hq2l).mono ?_
      rintro e w3 ⟨K3, x3, y3, hF3, rfl, hO3, hP3⟩
      clear HRow3 hO3 d8
      by_cases hK3 : K3 = K2
      · subst hK3
        obtain ⟨q3, hq3⟩ : ∃ z, z = al8 (q2 + K3 * w8) := ⟨_, rfl⟩
        have hfit : Fit3 bs p K1 K3 w11 w6 w8 := ⟨HF1.out.fits, by rw [← HQ1.out]; exact HF2.out.fits, by rw [← HQ1.out, ← HQ2.out]; exact hF3.fits⟩
        rw [if_pos rfl, decide_eq_true rfl, ← hq3]
        have HFit := Lib.hid hfit
        have HQ3 := Lib.hid hq3
        clear hfit hq3 hF3
        go_wp2_with fail
        go_ret2
        exact ⟨(q3 : Nat), by rw [decide_eq_true HFit.out]; rfl, fun _ => by rw [HQ3.out, HQ2.out, HQ1.out], (hP1.pure hP2).pure hP3⟩
      · have hnf : ¬ Fit3 bs p K1 K2 w11 w6 w8 := fun ⟨_, _, h⟩ => by
          rw [← HQ1.out, ← HQ2.out] at h
          have := fit_lt hF3 hK3
          omega
        rw [if_neg hK3, decide_eq_false hK3]
        have HNF := Lib.hid hnf
        clear hnf hF3 hK3
        go_wp2_with fail
        go_ret2
        exact ⟨0, by rw [decide_eq_false HNF.out]; rfl, fun h => absurd h HNF.out, (hP1.pure hP2).pure hP3⟩
    · have hnf : ¬ Fit3 bs p K1 n w11 w6 w8 := fun ⟨_, h, _⟩ => by
        rw [← HQ1.out] at h
        have := fit_lt hF2 hK2
        omega
      rw [if_neg hK2, decide_eq_false hK2]
      have HNF := Lib.hid hnf
      clear hnf hF2 hK2
      go_wp2_with fail
      go_ret2
      exact ⟨0, by rw [decide_eq_false HNF.out]; rfl, fun h => absurd h HNF.out, hP1.pure hP2⟩
  · have hnf : ¬ Fit3 bs p many n w11 w6 w8 := fun ⟨h, _, _⟩ => by
      have := fit_lt hF1 hK1
      omega
    rw [if_neg hK1, decide_eq_false hK1]
    have HNF := Lib.hid hnf
    clear hnf hF1 hK1
    go_wp2_with fail
    go_ret2
    exact ⟨0, by rw [decide_eq_false HNF.out]; rfl, fun h => absurd h HNF.out, hP1⟩
end Go.Proofs.Ytdhejhgpjeenaaa
namespace Go.Proofs.Ytdhejhgpjeenaaa
open Go.RowKit C26
set_option linter.unusedVariables false

theorem infoPage : (Try.prog.info? 49).map (fun i => (i.zero, i.size, i.bytes)) = some (some (.agg #[.int .i64 0, .int .i64 0, .slice none 0 0]), 3, 40) := by kernel_rfl
def noPage : PH := ⟨0, 0, none, 0, []⟩
theorem made_pages (n : Nat) : (madeCells #[.int .i64 0, .int .i64 0, .slice none 0 0] (n * 3)).toList = (List.replicate n noPage).flatMap cellsP := by
  apply List.ext_getElem?
  intro i
  by_cases h : i < n * 3
  · have hk : i / 3 < (List.replicate n noPage).length := by rw [List.length_replicate]; omega
    have e := cellsP_get (List.replicate n noPage) (i / 3) hk (i % 3) (by omega)
    rw [show i / 3 * 3 + i % 3 = i from by omega, List.getElem_replicate] at e
    rw [e]
    unfold madeCells
    have h3 : i % 3 = 0 ∨ i % 3 = 1 ∨ i % 3 = 2 := by omega
    simp only [Array.toList_map, Array.toList_range, List.getElem?_map, List.getElem?_range h, Option.map_some]
    rcases h3 with h3 | h3 | h3 <;> rw [show i % (#[Value.int .i64 0, .int .i64 0, .slice none 0 0] : Array Value).size = i % 3 from rfl, h3] <;> rfl
  · rw [List.getElem?_eq_none, List.getElem?_eq_none]
    · rw [cellsP_len, List.length_replicate]; omega
    · unfold madeCells; simp; omega
theorem cellsP_set : ∀ (ps : List PH) (k j : Nat) (u : Value) (p' : PH) (hk : k < ps.length) (hj : j < 3), cellsP p' = (cellsP ps[k]).set j u → (ps.flatMap cellsP).set (k * 3 + j) u = (ps.set k p').flatMap cellsP
  | p :: ps, 0, j, u, p', hk, hj, h => by
    have hl : (cellsP p).length = 3 := rfl
    rw [List.flatMap_cons, List.set_cons_zero, List.flatMap_cons, Nat.zero_mul, Nat.zero_add, List.set_append_left _ _ (by omega), h]
    rfl
  | p :: ps, k + 1, j, u, p', hk, hj, h => by
    have hl : (cellsP p).length = 3 := rfl
    rw [List.flatMap_cons, List.set_cons_succ, List.flatMap_cons, List.set_append_right _ _ (by omega), show (k + 1) * 3 + j - (cellsP p).length = k * 3 + j from by rw [hl]; omega]
    rw [cellsP_set ps k j u p' (by simpa using hk) hj (by simpa using h)]
structure OutIs (W : World) (ob n : Nat) (ps : List PH) : Prop where
  own : W.ownsRow ob 49 3 (.slice (some ⟨ob, 0, none⟩) n n) n (ps.flatMap cellsP)
  len : ps.length = n
theorem OutIs.lt {W : World} {ob n : Nat} {ps : List PH} (h : OutIs W ob n ps) : ob < W.heap.size := (h.own.lt _ rfl).2
theorem OutIs.ext {S : Nat → Prop} {W W' : World} {ob n : Nat} {ps : List PH} (h : OutIs W ob n ps) (e : Ext S W W') (hn : ¬ S ob) : OutIs W' ob n ps := ⟨own_ext h.own e (fun g hg => by cases hg; exact hn), h.len⟩
theorem OutIs.cell {W : World} {ob n : Nat} {ps : List PH} (h : OutIs W ob n ps) (k j : Nat) (hk : k < ps.length) (hj : j < 3) {u : Value} (hu : (cellsP ps[k])[j]? = some u) : W.cell? ⟨ob, k * 3 + j, none⟩ = some u := by
  obtain ⟨b, o, e, hc⟩ := own_row h.own (k * 3 + j) u (by rw [cellsP_get ps k hk j hj]; exact hu)
  cases e
  rw [Nat.zero_add] at hc; exact hc
theorem OutIs.set {W : World} {ob n : Nat} {ps : List PH} (h : OutIs W ob n ps) (k j : Nat) (hk : k < ps.length) (hj : j < 3) (u : Value) (p' : PH) (hp : cellsP p' = (cellsP ps[k]).set j u) :
    (∃ y, W.cell? ⟨ob, k * 3 + j, none⟩ = some y) ∧ W.frozen? ⟨ob, k * 3 + j, none⟩ = false ∧ OutIs (W.setCell ⟨ob, k * 3 + j, none⟩ u) ob n (ps.set k p') := by
  obtain ⟨g, hg, _, hy, hf, hO⟩ := own_setc h.own (k * 3 + j) (by have := h.len; omega) u
  cases hg
  refine ⟨hy, hf, ?_, by rw [List.length_set]; exact h.len⟩
  rw [← cellsP_set ps k j u p' hk hj hp]; exact hO
theorem map_set_same {β : Type} (f : PH → β) (ps : List PH) (k : Nat) (p' : PH) (hk : k < ps.length) (h : f p' = f ps[k]) : (ps.set k p').map f = ps.map f := by
  rw [List.map_set, h]
  apply List.ext_getElem?
  intro i
  rw [List.getElem?_set]
  split
  · next e => subst e; simp [hk]
  · rfl
theorem take_map_set {β : Type} (f : PH → β) (ps : List PH) (k : Nat) (p' : PH) (hk : k < ps.length) : ((ps.set k p').take (k + 1)).map f = (ps.take k).map f ++ [f p'] := by
  rw [List.take_succ_eq_append_getElem (by simpa using hk)]
  simp [List.take_set_of_le]
end Go.Proofs.Ytdhejhgpjeenaaa
namespace Go.Proofs.Ytdhejhgpjeenaaa
open Go.RowKit C26
set_option linter.unusedVariables false

theorem cut_take_succ : ∀ (cs xs : List Nat) (k c : Nat), cs[k]? = some c → cut (cs.take (k + 1)) xs = cut (cs.take k) xs ++ [(xs.drop (cs.take k).sum).take c]
  | [], _, _, _, h => by simp at h
  | d :: cs, xs, 0, c, h => by simp at h; subst h; simp [cut]
  | d :: cs, xs, k + 1, c, h => by
    rw [List.take_succ_cons, List.take_succ_cons, cut, cut, cut_take_succ cs (xs.drop d) k c (by simpa using h), List.drop_drop, List.sum_cons]; rfl
theorem sum_take_succ (cs : List Nat) (k c : Nat) (h : cs[k]? = some c) : (cs.take (k + 1)).sum = (cs.take k).sum + c := by
  obtain ⟨hk, rfl⟩ := List.getElem?_eq_some_iff.1 h
  rw [List.take_succ_eq_append_getElem hk, List.sum_append]; simp
theorem sum_take_le (cs : List Nat) (k : Nat) : (cs.take k).sum ≤ cs.sum := by
  have : cs.sum = (cs.take k).sum + (cs.drop k).sum := by rw [← List.sum_append, List.take_append_drop]
  omega
/-- the first k pages have their shared numbers -/
structure CutIs (w0 W : World) (ob N : Nat) (os ls : List Int) (xs cs : List Nat) (k : Nat) (ps : List PH) : Prop where
  out : OutIs W ob N ps
  hos : ps.map (fun p => p.o) = os
  hls : ps.map (fun p => p.l) = ls
  hsh : (ps.take k).map (fun p => p.sh) = (cut (cs.take k) xs).map (fun l => l.map (fun x : Nat => (x : Int)))
  sub : ∀ p ∈ ps.take k, RowOf W p.sa (p.sh.map numV) ∧ (p.sh.length ≤ p.sc ∧ p.sc ≤ maxLen ∧ (p.sa = none → p.sc = 0)) ∧ ∀ g, p.sa = some g → g.block ≠ ob
  ext : Ext (fun i => i = ob) w0 W
theorem CutIs.step {w0 W W' : World} {ob N k c c' j : Nat} {os ls : List Int} {xs cs : List Nat} {ps : List PH} {a : Option Addr} (h : CutIs w0 W ob N os ls xs cs k ps) (hk : k < N) (hc : cs[k]? = some c) (hE : Pure W W') (hj : j = (cs.take k).sum)
    (hrow : RowOf W' a (((xs.drop j).take c).map intV)) (hl : ((xs.drop j).take c).length = c) (hfit : c ≤ c' ∧ c' ≤ maxLen ∧ (a = none → c' = 0)) (hfr : ∀ g, a = some g → g.block ≠ ob) :
    (∃ y, W'.cell? ⟨ob, k * 3 + 2, none⟩ = some y) ∧ W'.frozen? ⟨ob, k * 3 + 2, none⟩ = false ∧ ∃ ps', CutIs w0 (W'.setCell ⟨ob, k * 3 + 2, none⟩ (.slice a c c')) ob N os ls xs cs (k + 1) ps' := by
  subst hj
  have hkp : k < ps.length := by have := h.out.len; omega
  obtain ⟨p', hp'⟩ : ∃ p' : PH, p' = { ps[k] with sa := a, sc := c', sh := ((xs.drop (cs.take k).sum).take c).map (fun x : Nat => (x : Int)) } := ⟨_, rfl⟩
  obtain ⟨hy, hf, hO⟩ := (h.out.ext hE id).set k 2 hkp (by omega) (.slice a c c') p' (by rw [hp']; simp only [cellsP, List.length_map, hl]; rfl)
  have hX : Ext (fun i => i = ob) W' (W'.setCell ⟨ob, k * 3 + 2, none⟩ (.slice a c c')) := (Ext.refl (fun i => i = ob) W').setCell (p := ⟨ob, k * 3 + 2, none⟩) (fun _ => rfl) _
  refine ⟨hy, hf, _, hO, ?_, ?_, ?_, ?_, (h.ext.pure hE).trans hX (fun _ _ e => e)⟩
  · rw [map_set_same (fun p : PH => p.o) ps k p' hkp (by rw [hp'])]; exact h.hos
  · rw [map_set_same (fun p : PH => p.l) ps k p' hkp (by rw [hp'])]; exact h.hls
  · rw [take_map_set (fun p : PH => p.sh) ps k p' hkp, h.hsh, cut_take_succ cs xs k c hc, List.map_append, hp']; rfl
  · intro p hp
    rw [List.take_succ_eq_append_getElem (by simpa using hkp), List.mem_append] at hp
    rcases hp with hp | hp
    · rw [List.take_set_of_le (Nat.le_refl _)] at hp
      obtain ⟨r, f, n⟩ := h.sub p hp
      exact ⟨(r.ext hE (fun _ _ => id)).ext hX (fun g hg e => n g hg e), f, n⟩
    · rw [List.getElem_set_self, List.mem_singleton] at hp
      rw [hp, hp']
      refine ⟨?_, ?_, hfr⟩
      · have := hrow.ext hX (fun g hg e => hfr g hg e)
        simp only [List.map_map]
        exact this
      · simp only [List.length_map, hl]; exact hfit
theorem CutIs.hints {w0 W : World} {ob N : Nat} {os ls : List Int} {xs cs : List Nat} {ps : List PH} (h : CutIs w0 W ob N os ls xs cs N ps) : Hints W (some ⟨ob, 0, none⟩) ps := by
  have ht : ps.take N = ps := List.take_of_length_le (by have := h.out.len; omega)
  have hs := h.sub
  rw [ht] at hs
  exact ⟨own_row h.out.own, fun p hp => (hs p hp).1, fun p hp => (hs p hp).2.1⟩
/-- what is told: hints, where they are, and all else as it was -/
def resV (r : DRes) : List (Int × Int × List Int) := (r.os.zip (r.ls.zip r.shs)).map (fun t => ((t.1 : Int), (t.2.1 : Int), t.2.2.map (fun x : Nat => (x : Int))))
theorem resV_of (ps : List PH) (r : DRes) (ho : ps.map (fun p => p.o) = r.os.map (fun x : Nat => (x : Int))) (hl : ps.map (fun p => p.l) = r.ls.map (fun x : Nat => (x : Int))) (hs : ps.map (fun p => p.sh) = r.shs.map (fun l => l.map (fun x : Nat => (x : Int)))) : ps.map (fun p => (p.o, p.l, p.sh)) = resV r := by
  have e : ps.map (fun p => (p.o, p.l, p.sh)) = (ps.map (fun p => p.o)).zip ((ps.map (fun p => p.l)).zip (ps.map (fun p => p.sh))) := by rw [List.zip_map', List.zip_map']
  rw [e, ho, hl, hs, resV, List.zip_map, List.zip_map]; rfl
theorem fit_ex (L p w n : Nat) (h : p ≤ L) : ∃ K, Fit L p w n K := by
  induction n with
  | zero => exact ⟨0, Nat.le_refl _, by omega, fun h => absurd h (Nat.lt_irrefl _)⟩
  | succ n ih =>
    obtain ⟨K, h1, h2, h3⟩ := ih
    by_cases e : K < n
    · exact ⟨K, by omega, h2, fun _ => h3 e⟩
    · obtain rfl : K = n := by omega
      by_cases f : p + (K + 1) * w ≤ L
      · exact ⟨K + 1, Nat.le_refl _, f, fun h => absurd h (Nat.lt_irrefl _)⟩
      · exact ⟨K, by omega, h2, fun _ => by omega⟩
theorem rowE_cut {bs : List Bool} {p n w : Nat} (h : p ≤ bs.length) (hc : ¬ p + n * w ≤ bs.length) : RowE bs p n w okA 10 := by
  obtain ⟨K, hF⟩ := fit_ex bs.length p w n h
  refine ⟨K, hF, Or.inr ⟨trivial, Or.inl ⟨fun e => ?_, rfl⟩⟩⟩
  subst e
  exact hc hF.fits
theorem rest5_yes {bs : List Bool} {n : Nat} (h : Fit3 bs (q4 bs n) (mny bs n) n (h11 bs) (h6 bs) (h8 bs)) : Rest5 bs n (good bs n) :=
  ⟨0, RowE.of_zero h.1 trivial, Or.inr ⟨rfl, ⟨0, RowE.of_zero h.2.1 trivial, Or.inr ⟨rfl, ⟨0, RowE.of_zero h.2.2 trivial, Or.inr ⟨rfl, rfl⟩⟩⟩⟩⟩⟩
theorem rest5_no {bs : List Bool} {n : Nat} (hq : q4 bs n ≤ bs.length) (hm8 : bs.length % 8 = 0) (h : ¬ Fit3 bs (q4 bs n) (mny bs n) n (h11 bs) (h6 bs) (h8 bs)) : Rest5 bs n (dErr 10) := by
  by_cases a : q4 bs n + mny bs n * h11 bs ≤ bs.length
  · refine ⟨0, RowE.of_zero a trivial, Or.inr ⟨rfl, ?_⟩⟩
    have hq5 : q5 bs n ≤ bs.length := al8_le' a hm8
    by_cases b : q5 bs n + n * h6 bs ≤ bs.length
    · refine ⟨0, RowE.of_zero b trivial, Or.inr ⟨rfl, ?_⟩⟩
      have hq6 : q6 bs n ≤ bs.length := al8_le' b hm8
      exact ⟨10, rowE_cut hq6 (fun c => h ⟨a, b, c⟩), Or.inl ⟨by decide, rfl⟩⟩
    · exact ⟨10, rowE_cut hq5 b, Or.inl ⟨by decide, rfl⟩⟩
  · exact ⟨10, rowE_cut hq a, Or.inl ⟨by decide, rfl⟩⟩
end Go.Proofs.Ytdhejhgpjeenaaa
