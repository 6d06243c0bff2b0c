/-
  Plain: whole numbers below 2 to the 53rd as floats of 64 bits: sums, products, order, and back, are exact.
-/
import Derived.Laws.ComplexArith
namespace Go.Proofs.Ytnibjjpohhknkaa
open Ieee
set_option linter.unusedVariables false
set_option linter.unusedSimpArgs false

namespace Fl
def sg (s : Bool) (m : Nat) : Int := if s then -(m : Int) else m
theorem sg_abs (s : Bool) (m : Nat) : (sg s m).natAbs = m := by cases s <;> simp [sg]
theorem sg_mul (s t : Bool) (m n : Nat) : sg (s ^^ t) (m * n) = sg s m * sg t n := by
  cases s <;> cases t <;> simp [sg, Int.mul_neg, Int.neg_mul]
theorem signed_eq (s : Bool) (m u : Nat) : signed s m u = sg s m * 2 ^ u := by
  cases s <;> simp [signed, sg, Nat.shiftLeft_eq, Int.neg_mul]
theorem sg_total (t : Int) (b : Bool) : sg (if t = 0 then b else decide (t < 0)) t.natAbs = t := by
  by_cases h : t = 0
  · subst h; cases b <;> rfl
  · rw [if_neg h]
    by_cases h2 : t < 0
    · simp [sg, h2]; omega
    · simp [sg, h2]; omega
/-- x times two to the i is z -/
def Val (x i z : Int) : Prop := ∀ N : Nat, 0 ≤ i + N → x * 2 ^ (i + N).toNat = z * 2 ^ N
theorem two_pos (n : Nat) : (0 : Int) < 2 ^ n := Int.pow_pos (by decide)
theorem val_of {x i z : Int} (N0 : Nat) (h0 : 0 ≤ i + N0) (h : x * 2 ^ (i + N0).toNat = z * 2 ^ N0) : Val x i z := by
  intro N hN
  by_cases hle : N0 ≤ N
  · obtain ⟨k, rfl⟩ : ∃ k, N = N0 + k := ⟨N - N0, by omega⟩
    rw [show (i + ((N0 + k : Nat) : Int)).toNat = (i + N0).toNat + k by omega, Int.pow_add, Int.pow_add, ← Int.mul_assoc, ← Int.mul_assoc, h]
  · obtain ⟨k, rfl⟩ : ∃ k, N0 = N + k := ⟨N0 - N, by omega⟩
    rw [show (i + ((N + k : Nat) : Int)).toNat = (i + N).toNat + k by omega, Int.pow_add, Int.pow_add, ← Int.mul_assoc, ← Int.mul_assoc] at h
    exact Int.eq_of_mul_eq_mul_right (Int.ne_of_gt (two_pos k)) h
theorem Val.natAbs {s : Bool} {m : Nat} {i z : Int} (h : Val (sg s m) i z) (N : Nat) (hN : 0 ≤ i + N) : m * 2 ^ (i + N).toNat = z.natAbs * 2 ^ N := by
  have := congrArg Int.natAbs (h N hN)
  rw [Int.natAbs_mul, Int.natAbs_mul, Int.natAbs_pow, Int.natAbs_pow, sg_abs] at this
  exact this
theorem val_sg {s : Bool} {m : Nat} {i z : Int} (N : Nat) (hN : 0 ≤ i + N) (h : m * 2 ^ (i + N).toNat = z.natAbs * 2 ^ N) (hs : m ≠ 0 → (s = true ↔ z < 0)) : Val (sg s m) i z := by
  refine val_of N hN ?_
  by_cases hm : m = 0
  · subst hm
    have : z.natAbs * 2 ^ N = 0 := by rw [← h]; simp
    have hz : z.natAbs = 0 := by
      rcases Nat.mul_eq_zero.1 this with e | e
      · exact e
      · exact absurd e (Nat.ne_of_gt (Nat.two_pow_pos N))
    obtain rfl : z = 0 := by omega
    cases s <;> simp [sg]
  · have hz := hs hm
    have hi : (m : Int) * 2 ^ (i + N).toNat = (z.natAbs : Int) * 2 ^ N := by exact_mod_cast h
    cases s with
    | true =>
      have h0 : z < 0 := hz.1 rfl
      have e : z = -(z.natAbs : Int) := by omega
      simp only [sg, if_true]
      rw [Int.neg_mul, hi, ← Int.neg_mul, ← e]
    | false =>
      have h0 : ¬ z < 0 := fun e => by have := hz.2 e; cases this
      have e : z = (z.natAbs : Int) := by omega
      simp only [sg]
      rw [show (if false = true then -(m : Int) else (m : Int)) = m from rfl, hi, ← e]
/-- the float b is z -/
def Rep (b : Nat) (z : Int) : Prop := ∃ s m i, double.read b = .number s m i ∧ Val (sg s m) i z
theorem sum_val {b1 b2 : Nat} {z1 z2 : Int} (h1 : Rep b1 z1) (h2 : Rep b2 z2) : ∃ s m i, (double.read b1).sum (double.read b2) = some (.number s m i) ∧ Val (sg s m) i (z1 + z2) := by
  obtain ⟨s, m, i, e1, v1⟩ := h1
  obtain ⟨t, n, j, e2, v2⟩ := h2
  rw [e1, e2]
  refine ⟨_, _, _, rfl, ?_⟩
  simp only [signed_eq]
  rw [sg_total]
  intro N hN
  have q1 := v1 N (by omega)
  have q2 := v2 N (by omega)
  rw [Int.add_mul, Int.mul_assoc, Int.mul_assoc, ← Int.pow_add, ← Int.pow_add, Int.add_mul, ← q1, ← q2]
  congr 3 <;> omega
theorem opp_rep {b : Nat} {z : Int} (h : Rep b z) : ∃ s m i, (double.read b).opposite = .number s m i ∧ Val (sg s m) i (-z) := by
  obtain ⟨s, m, i, e, v⟩ := h
  rw [e]
  refine ⟨!s, m, i, rfl, fun N hN => ?_⟩
  have := v N hN
  have e2 : sg (!s) m = - sg s m := by cases s <;> simp [sg]
  rw [e2, Int.neg_mul, this, Int.neg_mul]
theorem product_val {b1 b2 : Nat} {z1 z2 : Int} (h1 : Rep b1 z1) (h2 : Rep b2 z2) : ∃ s m i, (double.read b1).product (double.read b2) = some (.number s m i) ∧ Val (sg s m) i (z1 * z2) := by
  obtain ⟨s, m, i, e1, v1⟩ := h1
  obtain ⟨t, n, j, e2, v2⟩ := h2
  rw [e1, e2]
  refine ⟨_, _, _, rfl, ?_⟩
  rw [sg_mul]
  have q1 := v1 (-i).toNat (by omega)
  have q2 := v2 (-j).toNat (by omega)
  refine val_of ((-i).toNat + (-j).toNat) (by omega) ?_
  rw [show (i + j + (((-i).toNat + (-j).toNat : Nat) : Int)).toNat = (i + ((-i).toNat : Int)).toNat + (j + ((-j).toNat : Int)).toNat by omega, Int.pow_add, Int.pow_add]
  have : sg s m * sg t n * (2 ^ (i + ((-i).toNat : Int)).toNat * 2 ^ (j + ((-j).toNat : Int)).toNat) = (sg s m * 2 ^ (i + ((-i).toNat : Int)).toNat) * (sg t n * 2 ^ (j + ((-j).toNat : Int)).toNat) := by
    simp only [Int.mul_assoc, Int.mul_left_comm]
  rw [this, q1, q2]
  simp only [Int.mul_assoc, Int.mul_left_comm]
theorem dvd_log {m k : Nat} (hm : m ≠ 0) (h : 2 ^ k ∣ m) : k ≤ m.log2 := (Nat.le_log2 hm).2 (Nat.le_of_dvd (Nat.pos_of_ne_zero hm) h)
theorem cut_exact (way : Toward) (neg : Bool) {n k q : Nat} (h : n = q * 2 ^ k) : way.cut neg n k = q := by
  have hp := Nat.two_pow_pos k
  by_cases hn : n = 0
  · subst hn
    have hq : q = 0 := by
      rcases Nat.mul_eq_zero.1 h.symm with e | e
      · exact e
      · omega
    subst hq
    simp only [Toward.cut]
    have hg : 0 < 1 <<< min k (Nat.log2 0 + 2) := by rw [Nat.shiftLeft_eq, Nat.one_mul]; exact Nat.two_pow_pos _
    generalize 1 <<< min k (Nat.log2 0 + 2) = g at *
    rw [Nat.zero_div, Nat.zero_mod]
    have e : ¬ g < 0 := by omega
    cases way <;> simp
  · have hk := dvd_log hn (h ▸ Nat.dvd_mul_left (2 ^ k) q)
    simp only [Toward.cut]
    rw [show min k (n.log2 + 2) = k by omega, Nat.shiftLeft_eq, Nat.one_mul]
    have h1 : n / 2 ^ k = q := by rw [h]; exact Nat.mul_div_cancel _ hp
    have h2 : n % 2 ^ k = 0 := by rw [h]; exact Nat.mul_mod_left _ _
    rw [h1, h2]
    cases way <;> simp
theorem toInt_rep {b : Nat} {z : Int} (h : Rep b z) : (double.read b).toInt .zero = some z := by
  obtain ⟨s, m, i, e, v⟩ := h
  rw [e]
  unfold Datum.toInt Datum.integral
  simp only [signed_eq]
  by_cases hi : 0 ≤ i
  · have q := v 0 (by omega)
    rw [show (-i).toNat = 0 by omega, cut_exact (q := m <<< i.toNat) .zero s (by simp), Int.pow_zero, Int.mul_one]
    congr 1
    rw [Nat.shiftLeft_eq]
    rw [show (i + ((0 : Nat) : Int)).toNat = i.toNat by omega, Int.pow_zero, Int.mul_one] at q
    rw [← q]
    cases s <;> simp [sg, Int.neg_mul]
  · have q := v.natAbs (-i).toNat (by omega)
    rw [show (i + ((-i).toNat : Int)).toNat = 0 by omega, Nat.pow_zero, Nat.mul_one] at q
    rw [show i.toNat = 0 by omega, cut_exact (q := z.natAbs) .zero s (by simpa using q), Int.pow_zero, Int.mul_one]
    congr 1
    have q2 := v (-i).toNat (by omega)
    rw [show (i + ((-i).toNat : Int)).toNat = 0 by omega, Int.pow_zero, Int.mul_one] at q2
    have hp := two_pos (-i).toNat
    by_cases hm : m = 0
    · subst hm
      have hz : z.natAbs = 0 := by
        rcases Nat.mul_eq_zero.1 q.symm with e | e
        · exact e
        · exact absurd e (Nat.ne_of_gt (Nat.two_pow_pos _))
      rw [hz]
      obtain rfl : z = 0 := by omega
      cases s <;> rfl
    · cases s with
      | true =>
        have hneg : z < 0 := by
          simp only [sg, if_true] at q2
          by_cases hc : z < 0
          · exact hc
          · have := Int.mul_nonneg (show 0 ≤ z by omega) (Int.le_of_lt hp); omega
        simp only [sg, if_true]; omega
      | false =>
        have hpos : 0 ≤ z := by
          simp only [sg] at q2
          by_cases hc : 0 ≤ z
          · exact hc
          · have := Int.mul_neg_of_neg_of_pos (show z < 0 by omega) hp
            simp at q2; omega
        simp [sg]; omega
theorem compare_mul (x y c : Int) (hc : 0 < c) : compare (x * c) (y * c) = compare x y := by
  simp only [Int.compare_eq_ite_lt, Int.mul_lt_mul_right hc]
theorem order_rep {b1 b2 : Nat} {z1 z2 : Int} (h1 : Rep b1 z1) (h2 : Rep b2 z2) : double.order b1 b2 = some (compare z1 z2) := by
  obtain ⟨s, m, i, e1, v1⟩ := h1
  obtain ⟨t, n, j, e2, v2⟩ := h2
  unfold Format.order
  rw [e1, e2]
  simp only [Datum.order, signed_eq]
  congr 1
  obtain ⟨N, hN⟩ : ∃ N : Nat, 0 ≤ min i j + N := ⟨(-(min i j)).toNat, by omega⟩
  rw [← compare_mul _ _ _ (two_pos (min i j + N).toNat), ← compare_mul z1 z2 _ (two_pos N), ← v1 N (by omega), ← v2 N (by omega), Int.mul_assoc, Int.mul_assoc, ← Int.pow_add, ← Int.pow_add]
  congr 3 <;> omega
theorem read_word (s : Bool) {rung : Nat} (h : rung < 2 ^ 63) : double.read (double.word s rung) = if rung < 2 ^ 52 then .number s rung (-1074) else if rung < double.infRung then .number s (2 ^ 52 + rung % 2 ^ 52) (-1074 + (rung / 2 ^ 52 - 1 : Nat)) else if rung = double.infRung then .infinity s else .nan s (rung - double.infRung) := by
  have e1 : double.word s rung / double.signWeight % 2 = if s then 1 else 0 := by
    cases s
    · show rung / 2 ^ 63 % 2 = 0
      omega
    · show (2 ^ 63 + rung) / 2 ^ 63 % 2 = 1
      omega
  have e2 : double.word s rung % double.signWeight = rung := by
    cases s
    · show rung % 2 ^ 63 = rung
      omega
    · show (2 ^ 63 + rung) % 2 ^ 63 = rung
      omega
  unfold Format.read
  simp only [e1, e2]
  have e3 : ((if s = true then 1 else 0) == 1) = s := by cases s <;> rfl
  rw [e3]
  rfl
/-- the float of so many in so high a place -/
theorem rep_word {s : Bool} {kept : Nat} {last z : Int} (hl : -1074 ≤ last) (hl0 : last ≤ 1) (hk : kept < 2 ^ 53) (hk2 : last = -1074 ∨ 2 ^ 52 ≤ kept) (hv : Val (sg s kept) last z) : Rep (double.word s (min ((last - double.leastPlace).toNat * double.binade + kept) double.infRung)) z := by
  have hlp : double.leastPlace = -1074 := by decide
  have hb : double.binade = 2 ^ 52 := by decide
  have hi : double.infRung = 2047 * 2 ^ 52 := by decide
  rw [hlp, hb]
  obtain ⟨q, hq⟩ : ∃ q : Nat, last = -1074 + q := ⟨(last + 1074).toNat, by omega⟩
  subst hq
  rw [show (-1074 + (q : Int) - -1074).toNat = q by omega]
  have hq1 : q ≤ 1075 := by omega
  have hlt : q * 2 ^ 52 + kept < 2047 * 2 ^ 52 := by omega
  rw [hi, Nat.min_eq_left (by omega)]
  unfold Rep
  rw [read_word s (by omega), hi]
  by_cases h52 : q * 2 ^ 52 + kept < 2 ^ 52
  · rw [if_pos h52]
    have hq0 : q = 0 := by omega
    subst hq0
    exact ⟨s, _, _, rfl, by simpa using hv⟩
  · rw [if_neg h52, if_pos hlt]
    refine ⟨s, _, _, rfl, ?_⟩
    have e1 : 2 ^ 52 + (q * 2 ^ 52 + kept) % 2 ^ 52 = kept := by omega
    have e2 : ((q * 2 ^ 52 + kept) / 2 ^ 52 - 1 : Nat) = q := by omega
    rw [e1, e2]
    exact hv
/-- two to the 53rd itself -/
theorem write_top {s : Bool} {m : Nat} {i z : Int} (hv : Val (sg s m) i z) (hz : z.natAbs = 2 ^ 53) : Rep (double.write (.number s m i)) z := by
  show Rep (double.nearest s m i) z
  unfold Format.nearest
  have hlp : double.leastPlace = -1074 := by decide
  have hfb : (double.fractionBits : Int) = 52 := by decide
  obtain ⟨N, hN⟩ : ∃ N : Nat, 0 ≤ i + N := ⟨(-i).toNat, by omega⟩
  have h1 := hv.natAbs N hN
  rw [hz, ← Nat.pow_add] at h1
  have hm : m ≠ 0 := by
    intro e
    rw [e, Nat.zero_mul] at h1
    have := Nat.two_pow_pos (53 + N)
    omega
  rw [if_neg hm]
  simp only []
  rw [hfb]
  have hlo := (Nat.le_log2 hm).1 (Nat.le_refl _)
  have hhi := (Nat.log2_lt hm).1 (Nat.lt_succ_self m.log2)
  obtain ⟨L, hL⟩ : ∃ L, L = m.log2 := ⟨_, rfl⟩
  rw [← hL] at hlo hhi ⊢
  have hp := Nat.two_pow_pos (i + N).toNat
  have a1 : 2 ^ (L + (i + N).toNat) ≤ 2 ^ (53 + N) := by rw [← h1, Nat.pow_add]; exact Nat.mul_le_mul_right _ hlo
  have a2 : 2 ^ (53 + N) < 2 ^ (L + 1 + (i + N).toNat) := by rw [← h1, Nat.pow_add]; exact Nat.mul_lt_mul_of_pos_right hhi hp
  have b1 := (Nat.pow_le_pow_iff_right (by decide : 1 < 2)).1 a1
  have b2 := (Nat.pow_lt_pow_iff_right (by decide : 1 < 2)).1 a2
  have hLi : (L : Int) + i = 53 := by omega
  have hmL : m = 2 ^ L := by
    have : m * 2 ^ (i + N).toNat = 2 ^ L * 2 ^ (i + N).toNat := by rw [h1, ← Nat.pow_add]; congr 1; omega
    exact Nat.eq_of_mul_eq_mul_right hp this
  have hla : max (i + L - 52) double.leastPlace = 1 := by rw [hlp]; omega
  rw [hla]
  have hcut : Toward.even.cut s (m <<< (i - 1).toNat) (1 - i).toNat = 2 ^ 52 := by
    refine cut_exact _ _ ?_
    rw [Nat.shiftLeft_eq, hmL, ← Nat.pow_add, ← Nat.pow_add]
    congr 1
    omega
  rw [hcut]
  refine rep_word (by decide) (by decide) (by decide) (Or.inr (Nat.le_refl _)) ?_
  refine val_sg 0 (by decide) (by rw [hz]; decide) (fun _ => ?_)
  have q2 := hv N hN
  have hp1 := two_pos N
  have hp2 := two_pos (i + N).toNat
  cases s with
  | true =>
    simp only [sg, if_true] at q2
    refine ⟨fun _ => ?_, fun _ => rfl⟩
    by_cases hc : z < 0
    · exact hc
    · have g1 := Int.mul_nonneg (show 0 ≤ z by omega) (Int.le_of_lt hp1)
      have g2 := Int.mul_neg_of_neg_of_pos (show -(m : Int) < 0 by omega) hp2
      omega
  | false =>
    refine ⟨fun e => by (cases e), fun hc => ?_⟩
    simp only [sg] at q2
    have g1 := Int.mul_neg_of_neg_of_pos hc hp1
    have g2 := Int.mul_nonneg (show (0 : Int) ≤ m by omega) (Int.le_of_lt hp2)
    simp at q2
    omega
theorem write_below {s : Bool} {m : Nat} {i z : Int} (hv : Val (sg s m) i z) (hz : z.natAbs < 2 ^ 53) : Rep (double.write (.number s m i)) z := by
  show Rep (double.nearest s m i) z
  unfold Format.nearest
  have hlp : double.leastPlace = -1074 := by decide
  have hfb : (double.fractionBits : Int) = 52 := by decide
  by_cases hm : m = 0
  · subst hm
    rw [if_pos rfl]
    unfold Rep
    rw [read_word s (by decide), if_pos (by decide)]
    refine ⟨s, 0, -1074, rfl, ?_⟩
    have := hv.natAbs (-i).toNat (by omega)
    have h0 : z.natAbs = 0 := by
      rw [Nat.zero_mul] at this
      rcases Nat.mul_eq_zero.1 this.symm with e | e
      · exact e
      · exact absurd e (Nat.ne_of_gt (Nat.two_pow_pos _))
    obtain rfl : z = 0 := by omega
    intro N hN
    cases s <;> simp [sg]
  · rw [if_neg hm]
    simp only []
    rw [hfb]
    have hlo := (Nat.le_log2 hm).1 (Nat.le_refl _)
    have hhi := (Nat.log2_lt hm).1 (Nat.lt_succ_self m.log2)
    obtain ⟨L, hL⟩ : ∃ L, L = m.log2 := ⟨_, rfl⟩
    rw [← hL] at hlo hhi ⊢
    obtain ⟨last, hla⟩ : ∃ last : Int, last = max (i + L - 52) double.leastPlace := ⟨_, rfl⟩
    rw [← hla]
    rw [hlp] at hla
    have hl1 : -1074 ≤ last := by omega
    by_cases hc : last ≤ i
    · -- nothing is dropped
      rw [show (last - i).toNat = 0 by omega, cut_exact (q := m <<< (i - last).toNat) .even s (by simp), Nat.shiftLeft_eq]
      obtain ⟨u, hu⟩ : ∃ u : Nat, i = last + u := ⟨(i - last).toNat, by omega⟩
      subst hu
      rw [show (last + (u : Int) - last).toNat = u by omega]
      have hL52 : L + u ≤ 52 := by omega
      have hk : m * 2 ^ u < 2 ^ 53 := by
        have h1 : m * 2 ^ u < 2 ^ (L + 1) * 2 ^ u := Nat.mul_lt_mul_of_pos_right hhi (Nat.two_pow_pos u)
        rw [← Nat.pow_add] at h1
        exact Nat.lt_of_lt_of_le h1 (Nat.pow_le_pow_right (by decide) (by omega))
      have hv2 : Val (sg s (m * 2 ^ u)) last z := by
        intro N hN
        have := hv N (by omega)
        rw [← this]
        have e : sg s (m * 2 ^ u) = sg s m * 2 ^ u := by cases s <;> simp [sg, Int.neg_mul]
        rw [e, Int.mul_assoc, ← Int.pow_add]
        congr 2
        omega
      have hk2 : last = -1074 ∨ 2 ^ 52 ≤ m * 2 ^ u := by
        by_cases hd : last = -1074
        · exact Or.inl hd
        · refine Or.inr ?_
          have hLu : L + u = 52 := by omega
          rw [← hLu, Nat.pow_add]
          exact Nat.mul_le_mul_right _ hlo
      have hl0 : last ≤ 0 := by
        rcases hk2 with e | e
        · omega
        · by_cases hg : last ≤ 0
          · exact hg
          · have h1 := hv2.natAbs 0 (by omega)
            rw [Nat.pow_zero, Nat.mul_one] at h1
            obtain ⟨k, hk'⟩ : ∃ k, (last + ((0 : Nat) : Int)).toNat = k + 1 := ⟨(last + ((0 : Nat) : Int)).toNat - 1, by omega⟩
            rw [hk', Nat.pow_succ, ← Nat.mul_assoc] at h1
            have h2 : m * 2 ^ u * 1 ≤ m * 2 ^ u * 2 ^ k := Nat.mul_le_mul_left _ (Nat.two_pow_pos k)
            omega
      have := rep_word hl1 (by omega) hk hk2 hv2
      exact this
    · -- as many noughts are dropped
      have hi0 : i < 0 := by
        by_cases hd : i < 0
        · exact hd
        · have h1 := hv.natAbs 0 (by omega)
          rw [Nat.pow_zero, Nat.mul_one] at h1
          have h2 : m * 1 ≤ m * 2 ^ (i + ((0 : Nat) : Int)).toNat := Nat.mul_le_mul_left _ (Nat.two_pow_pos _)
          have h3 : 53 ≤ L := by omega
          have h4 : 2 ^ 53 ≤ 2 ^ L := Nat.pow_le_pow_right (by decide) h3
          omega
      have hme := hv.natAbs (-i).toNat (by omega)
      rw [show (i + ((-i).toNat : Int)).toNat = 0 by omega, Nat.pow_zero, Nat.mul_one] at hme
      have ha : z.natAbs ≠ 0 := by
        intro e
        rw [e, Nat.zero_mul] at hme
        exact hm hme
      have hlz : L < 53 + (-i).toNat := by
        have h1 : m < 2 ^ (53 + (-i).toNat) := by
          rw [hme, Nat.pow_add]
          exact Nat.mul_lt_mul_of_pos_right hz (Nat.two_pow_pos _)
        rw [hL]
        exact (Nat.log2_lt hm).2 h1
      have hl0 : last ≤ 0 := by omega
      obtain ⟨u, hu⟩ : ∃ u : Nat, last = i + u := ⟨(last - i).toNat, by omega⟩
      have hul : u + (-last).toNat = (-i).toNat := by omega
      have hmq : m = z.natAbs * 2 ^ (-last).toNat * 2 ^ u := by rw [Nat.mul_assoc, ← Nat.pow_add, Nat.add_comm, hul]; exact hme
      rw [show (i - last).toNat = 0 by omega, show (last - i).toNat = u by omega, show m <<< 0 = m from rfl, cut_exact (q := z.natAbs * 2 ^ (-last).toNat) .even s hmq]
      obtain ⟨kept, hke⟩ : ∃ kept, kept = z.natAbs * 2 ^ (-last).toNat := ⟨_, rfl⟩
      rw [← hke]
      rw [← hke] at hmq
      have hup := Nat.two_pow_pos u
      have hk : kept < 2 ^ 53 := by
        have h1 : kept * 2 ^ u < 2 ^ 53 * 2 ^ u := by
          rw [← hmq, ← Nat.pow_add]
          exact Nat.lt_of_lt_of_le hhi (Nat.pow_le_pow_right (by decide) (by omega))
        exact Nat.lt_of_mul_lt_mul_right h1
      have hk2 : last = -1074 ∨ 2 ^ 52 ≤ kept := by
        by_cases hd : last = -1074
        · exact Or.inl hd
        · refine Or.inr ?_
          have hLu : L = 52 + u := by omega
          rw [hLu, Nat.pow_add, hmq] at hlo
          exact Nat.le_of_mul_le_mul_right hlo hup
      refine rep_word hl1 (by omega) hk hk2 ?_
      refine val_sg (-last).toNat (by omega) (by rw [show (last + ((-last).toNat : Int)).toNat = 0 by omega, Nat.pow_zero, Nat.mul_one]; exact hke) (fun _ => ?_)
      have q2 := hv (-i).toNat (by omega)
      rw [show (i + ((-i).toNat : Int)).toNat = 0 by omega, Int.pow_zero, Int.mul_one] at q2
      have hp := two_pos (-i).toNat
      cases s with
      | true =>
        simp only [sg, if_true] at q2
        refine ⟨fun _ => ?_, fun _ => rfl⟩
        by_cases hc : z < 0
        · exact hc
        · have := Int.mul_nonneg (show 0 ≤ z by omega) (Int.le_of_lt hp); omega
      | false =>
        refine ⟨fun e => by (cases e), fun hc => ?_⟩
        simp only [sg] at q2
        have := Int.mul_neg_of_neg_of_pos hc hp
        simp at q2; omega
theorem write_rep {s : Bool} {m : Nat} {i z : Int} (hv : Val (sg s m) i z) (hz : z.natAbs ≤ 2 ^ 53) : Rep (double.write (.number s m i)) z := by
  by_cases h : z.natAbs = 2 ^ 53
  · exact write_top hv h
  · exact write_below hv (by omega)
theorem of_int {z : Int} (hz : z.natAbs ≤ 2 ^ 53) : Rep (double.write (.number (z < 0) z.natAbs 0)) z := by
  refine write_rep (fun N hN => ?_) hz
  have e : sg (decide (z < 0)) z.natAbs = z := by
    by_cases h : z < 0 <;> simp [sg, h] <;> omega
  rw [e, show ((0 : Int) + (N : Int)).toNat = N by omega]
theorem add_rep {b1 b2 : Nat} {z1 z2 : Int} (h1 : Rep b1 z1) (h2 : Rep b2 z2) (hz : (z1 + z2).natAbs ≤ 2 ^ 53) : ∃ b, double.add b1 b2 = some b ∧ Rep b (z1 + z2) := by
  obtain ⟨s, m, i, e, v⟩ := sum_val h1 h2
  exact ⟨_, by unfold Format.add; rw [e]; rfl, write_rep v hz⟩
theorem mul_rep {b1 b2 : Nat} {z1 z2 : Int} (h1 : Rep b1 z1) (h2 : Rep b2 z2) (hz : (z1 * z2).natAbs ≤ 2 ^ 53) : ∃ b, double.mul b1 b2 = some b ∧ Rep b (z1 * z2) := by
  obtain ⟨s, m, i, e, v⟩ := product_val h1 h2
  exact ⟨_, by unfold Format.mul; rw [e]; rfl, write_rep v hz⟩
theorem sub_rep {b1 b2 : Nat} {z1 z2 : Int} (h1 : Rep b1 z1) (h2 : Rep b2 z2) (hz : (z1 - z2).natAbs ≤ 2 ^ 53) : ∃ b, double.sub b1 b2 = some b ∧ Rep b (z1 - z2) := by
  obtain ⟨s, m, i, e1, v1⟩ := h1
  obtain ⟨t, n, j, e2, v2⟩ := opp_rep h2
  refine ⟨double.write (.number (if signed s m (i - min i j).toNat + signed t n (j - min i j).toNat = 0 then s && t else decide (signed s m (i - min i j).toNat + signed t n (j - min i j).toNat < 0)) (signed s m (i - min i j).toNat + signed t n (j - min i j).toNat).natAbs (min i j)), ?_, ?_⟩
  · unfold Format.sub
    rw [e1, e2]
    rfl
  · refine write_rep ?_ hz
    simp only [signed_eq]
    rw [sg_total]
    intro N hN
    have q1 := v1 N (by omega)
    have q2 := v2 N (by omega)
    rw [Int.add_mul, Int.mul_assoc, Int.mul_assoc, ← Int.pow_add, ← Int.pow_add, show (z1 - z2) * 2 ^ N = z1 * 2 ^ N + -z2 * 2 ^ N by rw [Int.sub_eq_add_neg, Int.add_mul], ← q1, ← q2]
    congr 3 <;> omega
end Fl
end Go.Proofs.Ytnibjjpohhknkaa
