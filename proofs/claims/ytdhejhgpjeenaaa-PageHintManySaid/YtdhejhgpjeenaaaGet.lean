/-
  The walks: the reader's functions.
-/
import Derived.Test.YtdhejhgpjeenaaaRead
namespace Go.Proofs.Ytdhejhgpjeenaaa
open Go.RowKit
set_option linter.unusedVariables false

theorem rdead_any (b : Nat) (w : World) (h : w.cell? ⟨b, 0 + 2, none⟩ = some (.bool true)) : Calls Try.prog 67 #[.pointer (some ⟨b, 0, none⟩)] w fun e w' => e = .returned (.bool false) ∧ w' = w := by
  go_enter Try.func67, Try.ntmps67
  go_wp2_with fail
  go_ret
  exact ⟨rfl, rfl⟩
theorem at_any (b : Nat) (high : Bool) (l : List UInt8) (n : Nat) (a : Option Addr) (c : Nat) (w : World) (h : RdIs w b high l n a c) :
    Calls Try.prog 41 #[.pointer (some ⟨b, 0, none⟩)] w fun e w' => e = .returned (.int .i64 n) ∧ w' = w := by
  have h2 : w.cell? ⟨b, 0 + 2, none⟩ = some (.bool true) := h.blk.cell 2
  have h0 : w.cell? ⟨b, 0, none⟩ = some (.int .i64 n) := h.blk.cell 0
  go_enter Try.func41, Try.ntmps41
  go_wp2_with fail
  refine (rdead_any b w h2).mono ?_
  rintro e w1 ⟨rfl, hw1⟩
  obtain rfl := hw1.symm
  go_wp2_with fail
  go_ret
  exact ⟨rfl, rfl⟩
theorem left_any (b : Nat) (high : Bool) (l : List UInt8) (n : Nat) (a : Option Addr) (c : Nat) (w : World) (h : RdIs w b high l n a c) (hl : l.length ≤ 100000000000) (hn : n ≤ 100000000000000) :
    Calls Try.prog 75 #[.pointer (some ⟨b, 0, none⟩)] w fun e w' => e = .returned (.int .i64 (8 * (l.length : Int) - n)) ∧ ∃ m, w' = w.drewN m := by
  have h2 : w.cell? ⟨b, 0 + 2, none⟩ = some (.bool true) := h.blk.cell 2
  have h0 : w.cell? ⟨b, 0, none⟩ = some (.int .i64 n) := h.blk.cell 0
  have h3 : w.cell? ⟨b, 0 + 3, none⟩ = some (.slice a l.length c) := h.blk.cell 3
  have e1 : IntKind.i64.wrap (8 * (l.length : Int)) = 8 * (l.length : Int) := IntWalk.i64_in _ (by omega)
  have e2 : IntKind.i64.wrap (8 * (l.length : Int) - n) = 8 * (l.length : Int) - n := IntWalk.i64_in _ (by omega)
  go_enter Try.func75, Try.ntmps75
  go_wp2_with fail
  refine (rdead_any b w h2).mono ?_
  rintro e w1 ⟨rfl, hw1⟩
  obtain rfl := hw1.symm
  go_wp2_with fail
  go_quiet (fail)
  go_wp2_with fail
  go_ret
  exact ⟨rfl, _, rfl⟩
theorem ralign_any (b : Nat) (high : Bool) (l : List UInt8) (n : Nat) (a : Option Addr) (c : Nat) (w : World) (h : RdIs w b high l n a c) (hn : n ≤ 100000000000000) :
    Calls Try.prog 74 #[.pointer (some ⟨b, 0, none⟩)] w fun e w' => e = .returned (.tuple #[]) ∧ RdIs w' b high l (8 * ((n + 7) / 8)) a c ∧ Ext (fun i => i = b) w w' := by
  have h0 : w.cell? ⟨b, 0, none⟩ = some (.int .i64 n) := h.blk.cell 0
  have f0 : w.frozen? ⟨b, 0, none⟩ = false := h.blk.free 0
  have h2 : w.cell? ⟨b, 0 + 2, none⟩ = some (.bool true) := h.blk.cell 2
  have hand := i64_andNot7 (n + 7) (by omega)
  rw [show ((n + 7 : Nat) : Int) = (n : Int) + 7 from by push_cast; rfl] at hand
  have hB := h.blk.set 0 (.int .i64 ((8 * ((n + 7) / 8) : Nat) : Int))
  generalize 8 * ((n + 7) / 8) = m at *
  go_enter Try.func74, Try.ntmps74
  go_wp2_with fail
  refine (rdead_any b w h2).mono ?_
  rintro e w1 ⟨rfl, hw1⟩
  obtain rfl := hw1.symm
  go_wp2_with fail
  go_end0
  have hE := (Ext.refl (fun i => i = b) w).setCell (p := ⟨b, 0, none⟩) (fun _ => rfl) (.int .i64 (m : Int))
  exact ⟨rfl, ⟨by simpa using hB, h.bytes.ext hE (fun g hg e => h.apart g hg e), h.apart⟩, hE⟩

theorem get_no1 (b : Nat) (n : Int) (w : World) (h2 : w.cell? ⟨b, 0 + 2, none⟩ = some (.bool true)) (hn : n < 0 ∨ 32 < n) :
    Calls Try.prog 73 #[.pointer (some ⟨b, 0, none⟩), .int .i64 n] w fun e w' => e = .returned (.tuple #[.int .u32 0, .int .i64 2]) ∧ w' = w := by
  rcases hn with hn | hn
  · go_enter Try.func73, Try.ntmps73
    go_wp2_with fail
    refine (rdead_any b w h2).mono ?_
    rintro e w1 ⟨rfl, hw1⟩
    obtain rfl := hw1.symm
    go_wp2_with fail
    go_ret2
    exact ⟨rfl, rfl⟩
  · have h0 : 0 ≤ n := by omega
    go_enter Try.func73, Try.ntmps73
    go_wp2_with fail
    refine (rdead_any b w h2).mono ?_
    rintro e w1 ⟨rfl, hw1⟩
    obtain rfl := hw1.symm
    go_wp2_with fail
    go_ret2
    exact ⟨rfl, rfl⟩
theorem get_no2 (b : Nat) (high : Bool) (l : List UInt8) (m : Nat) (a : Option Addr) (c : Nat) (n : Nat) (w : World) (h : RdIs w b high l m a c) (hl : l.length ≤ 100000000000) (hm : m ≤ 8 * l.length) (hn : n ≤ 32) (hcut : 8 * l.length < m + n) :
    Calls Try.prog 73 #[.pointer (some ⟨b, 0, none⟩), .int .i64 n] w fun e w' => e = .returned (.tuple #[.int .u32 0, .int .i64 10]) ∧ ∃ q, w' = w.drewN q := by
  have h2 : w.cell? ⟨b, 0 + 2, none⟩ = some (.bool true) := h.blk.cell 2
  have hn0 : ¬ ((n : Int) < 0) := by omega
  have hn1 : ¬ ((32 : Int) < n) := by omega
  have hcut' : 8 * (l.length : Int) - m < n := by omega
  go_enter Try.func73, Try.ntmps73
  go_wp2_with fail
  refine (rdead_any b w h2).mono ?_
  rintro e w1 ⟨rfl, hw1⟩
  obtain rfl := hw1.symm
  go_wp2_with fail
  refine (left_any b high l m a c w h hl (by omega)).mono ?_
  rintro e w1 ⟨rfl, q, rfl⟩
  go_wp2_with fail
  go_ret2
  exact ⟨rfl, q, rfl⟩
theorem and_pow (x i : Nat) : x &&& 2 ^ i = if x.testBit i then 2 ^ i else 0 := by
  apply Nat.eq_of_testBit_eq
  intro j
  rw [Nat.testBit_and, Nat.testBit_two_pow]
  by_cases e : i = j
  · subst e; cases h : x.testBit i <;> simp [h]
  · cases h : x.testBit i <;> simp [e, Nat.testBit_two_pow]
theorem and_test (high : Bool) (u : UInt8) (j : Nat) (hj : j < 8) : (bits .and .u8 (u.toNat : Int) ((wt high j : Nat) : Int) != 0) = u.toNat.testBit (pl high j) := by
  have hw : wt high j < 256 := by rw [wt_pl]; exact Nat.lt_of_lt_of_le (Nat.pow_lt_pow_right (by decide) (pl_lt high j hj)) (by decide)
  rw [u8_and_nat u.toNat (wt high j) u.toNat_lt hw, wt_pl, and_pow]
  have h0 := Nat.two_pow_pos (pl high j)
  cases u.toNat.testBit (pl high j) with
  | false => rfl
  | true => simp only [if_true]; rw [bne_iff_ne]; omega
theorem rd_step {w : World} {b : Nat} {high : Bool} {l : List UInt8} {n : Nat} {a : Option Addr} {c : Nat} (h : RdIs w b high l n a c) (q : Nat) : RdIs ((w.drewN q).setCell ⟨b, 0, none⟩ (.int .i64 ((n : Int) + 1))) b high l (n + 1) a c := by
  refine ⟨?_, h.bytes.ext (((Ext.refl (fun i => i = b) w).drewN q).setCell (fun _ => rfl) _) (fun g hg e => h.apart g hg e), h.apart⟩
  have := (h.blk.drewN q).set 0 (.int .i64 ((n : Int) + 1))
  simpa using this
set_option maxHeartbeats 1000000 in
theorem get_yes (b : Nat) (high : Bool) (l : List UInt8) (m : Nat) (a : Option Addr) (c : Nat) (n : Nat) (w : World) (h : RdIs w b high l m a c) (hl : l.length ≤ 100000000) (hn : n ≤ 32) (hcut : m + n ≤ 8 * l.length) :
    Calls Try.prog 73 #[.pointer (some ⟨b, 0, none⟩), .int .i64 n] w fun e w' => e = .returned (.tuple #[.int .u32 ((num high (((bitsOf high l).drop m).take n) : Nat) : Int), .int .i64 0]) ∧ RdIs w' b high l (m + n) a c ∧ Ext (fun i => i = b) w w' := by
  have h2 : w.cell? ⟨b, 0 + 2, none⟩ = some (.bool true) := h.blk.cell 2
  have hn0 : ¬ ((n : Int) < 0) := by omega
  have hn1 : ¬ ((32 : Int) < n) := by omega
  have hcut' : ¬ 8 * (l.length : Int) - m < n := by omega
  have hlb : (((bitsOf high l).drop m).take n).length = n := by simp [bitsOf_length]; omega
  have HLB := Lib.hid hlb
  clear hlb
  have HA := Lib.hid (part_all high _ n HLB.out)
  have HZ := Lib.hid (part_zero high (((bitsOf high l).drop m).take n) n)
  have HB := Lib.hid (fun k (hk : k < n) => show (((bitsOf high l).drop m).take n).getD k false = bitOf high l (m + k) from by
    rw [← bitsOf_get high l (m + k) (by omega)]; simp [List.getD_eq_getElem?_getD, List.getElem?_take, hk])
  have HS := Lib.hid (fun k (hk : k < n) => part_step high _ n k HLB.out hk)
  have HP := Lib.hid (fun k (hk : k ≤ n) => part_lt high _ n k HLB.out hk)
  generalize (((bitsOf high l).drop m).take n) = bl at *
  go_enter Try.func73, Try.ntmps73
  go_wp2_with fail
  refine (rdead_any b w h2).mono ?_
  rintro e w1 ⟨rfl, hw1⟩
  obtain rfl := hw1.symm
  go_wp2_with fail
  refine (left_any b high l m a c w h (by omega) (by omega)).mono ?_
  rintro e w1 ⟨rfl, q, rfl⟩
  go_wp2_with fail
  clear hcut' hn0 hn1 h2
  go_loopw [6, 24] (fun x i wr => ∃ (k : Nat), k ≤ n ∧ i = .int .i64 k ∧ x = .int .u32 ((part high bl n k : Nat) : Int) ∧ RdIs wr b high l (m + k) a c ∧ Ext (fun i => i = b) w wr) (fun _ i _ => n - (intOf i).toNat)
  case atStart => exact ⟨0, Nat.zero_le _, rfl, by rw [HZ.out]; rfl, ⟨h.blk.drewN q, h.bytes.ext ((Ext.refl (fun _ => False) w).drewN q) (fun _ _ => id), h.apart⟩, (Ext.refl _ w).drewN q⟩
  case round =>
    obtain ⟨k, hk, rfl, rfl, hR, hE⟩ := hrel
    by_cases hlt : k < n
    · obtain ⟨mk, hmk⟩ : ∃ mk, mk = m + k := ⟨_, rfl⟩
      have hmk1 : mk < 8 * l.length := by omega
      rw [← hmk] at hR
      obtain ⟨q8, hq8⟩ : ∃ q8, q8 = mk / 8 := ⟨_, rfl⟩
      have hql : q8 < l.length := by omega
      have hq81 : (mk : Int) / 8 = q8 := by omega
      have hq82 : (q8 : Int) < l.length := by omega
      have hq83 : (0 : Int) ≤ q8 := by omega
      have g0 : wr.cell? ⟨b, 0, none⟩ = some (.int .i64 mk) := hR.blk.cell 0
      have g1 : wr.cell? ⟨b, 0 + 1, none⟩ = some (.bool high) := hR.blk.cell 1
      have g3 : wr.cell? ⟨b, 0 + 3, none⟩ = some (.slice a l.length c) := hR.blk.cell 3
      have k0 : wr.frozen? ⟨b, 0, none⟩ = false := hR.blk.free 0
      obtain ⟨ab, ao, rfl, hcell⟩ := hR.bytes.at q8 hql
      have hbit := HB.out k hlt
      have htest := and_test high l[q8] (mk % 8) (by omega)
      have hbo : bitOf high l mk = l[q8].toNat.testBit (pl high (mk % 8)) := by
        unfold bitOf; rw [← hq8, List.getD_eq_getElem?_getD, List.getElem?_eq_getElem hql]; rfl
      rw [← hmk] at hbit
      rw [← hbo, ← hbit] at htest
      clear hbo hbit
      have hstep := HS.out k hlt
      have hP := HP.out k (by omega)
      have hP1 := HP.out (k + 1) (by omega)
      have hP32 : 2 ^ n ≤ 4294967296 := Nat.pow_le_pow_right (by decide) hn
      have hturn := turn_lt high k n hlt
      have HTu := Lib.hid (fun u (hc : u.cell? ⟨b, 0 + 1, none⟩ = some (.bool high)) => turn_any b high k n u hc hlt hn)
      have HMk := Lib.hid (fun u (h0 : u.cell? ⟨b, 0, none⟩ = some (.int .i64 mk)) (h1 : u.cell? ⟨b, 0 + 1, none⟩ = some (.bool high)) => mask_any b high mk u h0 h1 (by omega))
      have hbu := l[q8].toNat_lt
      have hpow : 2 ^ turn high k n < 4294967296 := Nat.lt_of_lt_of_le (Nat.pow_lt_pow_right (by decide) (show turn high k n < 32 by omega)) (by decide)
      have hor := u32_or_nat (part high bl n k) (2 ^ turn high k n) (by omega) hpow
      have HMK := Lib.hid hmk
      clear hmk hq8
      generalize wt high (mk % 8) = wm at *
      generalize l[q8].toNat = u at *
      generalize turn high k n = t at *
      cases hβ : bl.getD k false with
      | false =>
        rw [hβ] at hstep htest
        simp only [Bool.false_eq_true, if_false] at hstep
        have HStep := Lib.hid hstep
        clear hstep hor hβ
        go_wp2_with fail
        go_quiet ((go_at_call 72; exact Calls.quiet_of_same (HMk.out _ (by simpa using g0) (by simpa using g1))))
        go_wp2_with fail
        go_roundw
        case rel => exact ⟨k + 1, by omega, by go_num, by rw [HStep.out], by rw [show m + (k + 1) = mk + 1 from by rw [HMK.out]; omega]; exact rd_step hR _, (hE.drewN _).setCell (fun _ => rfl) _⟩
        case measure => simp [intOf]; omega
      | true =>
        rw [hβ] at hstep htest
        simp only [if_true] at hstep
        rw [← hstep] at hor
        have HStep := Lib.hid hstep
        clear hstep hβ
        have HOr := Lib.hid hor
        clear hor
        generalize part high bl n k = P0 at *
        go_wp2_with fail
        go_quiet ((go_at_call 72; exact Calls.quiet_of_same (HMk.out _ (by simpa using g0) (by simpa using g1))))
        go_wp2_with fail
        refine (HTu.out _ (by simpa using g1)).mono ?_
        rintro e w2 ⟨rfl, hw2⟩
        obtain rfl := hw2.symm
        have ht31 : (t : Int) ≤ 31 := by omega
        have ht0 : (0 : Int) ≤ t := by omega
        go_wp2_with fail
        go_roundw
        case rel =>
          refine ⟨k + 1, by omega, by go_num, ?_, by rw [show m + (k + 1) = mk + 1 from by rw [HMK.out]; omega]; exact rd_step hR _, (hE.drewN _).setCell (fun _ => rfl) _⟩
          rw [← HOr.out]; congr 2
          have e : (2 ^ t : Int) = ((2 ^ t : Nat) : Int) := by push_cast; rfl
          rw [e]; exact Int.emod_eq_of_lt (Int.natCast_nonneg _) (by omega)
        case measure => simp [intOf]; omega
    · obtain rfl : k = n := by omega
      rw [HA.out]
      go_wp2_with fail
      go_ret2
      exact ⟨rfl, hR, hE⟩
end Go.Proofs.Ytdhejhgpjeenaaa
