/-
  The walks: (*Writer).Put, Align, Bytes.
-/
import Derived.Test.YtdhejhgpjeenaaaWalks
namespace Go.Proofs.Ytdhejhgpjeenaaa
open Go.RowKit
set_option linter.unusedVariables false

theorem put_no1 (b : Nat) (high : Bool) (bs : List Bool) (a : Option Addr) (c : Nat) (x n : Int) (w : World) (h : WrIs w b high bs a c) (hn : n < 0) :
    Calls Try.prog 28 #[.pointer (some ⟨b, 0, none⟩), .int .u32 x, .int .i64 n] w fun e w' => e = .returned (.int .i64 2) ∧ w' = w := by
  have h2 : w.cell? ⟨b, 0 + 2, none⟩ = some (.bool true) := h.blk.cell 2
  go_enter Try.func28, Try.ntmps28
  go_wp2_with fail
  refine (dead_any b w h2).mono ?_
  rintro e w1 ⟨rfl, rfl⟩
  go_wp2_with fail
  go_ret
  exact ⟨rfl, rfl⟩
theorem put_no2 (b : Nat) (high : Bool) (bs : List Bool) (a : Option Addr) (c : Nat) (x n : Int) (w : World) (h : WrIs w b high bs a c) (hn : 32 < n) :
    Calls Try.prog 28 #[.pointer (some ⟨b, 0, none⟩), .int .u32 x, .int .i64 n] w fun e w' => e = .returned (.int .i64 2) ∧ w' = w := by
  have h2 : w.cell? ⟨b, 0 + 2, none⟩ = some (.bool true) := h.blk.cell 2
  have h0 : 0 ≤ n := by omega
  go_enter Try.func28, Try.ntmps28
  go_wp2_with fail
  refine (dead_any b w h2).mono ?_
  rintro e w1 ⟨rfl, rfl⟩
  go_wp2_with fail
  go_ret
  exact ⟨rfl, rfl⟩
theorem put_no3 (b : Nat) (high : Bool) (bs : List Bool) (a : Option Addr) (c : Nat) (x n : Nat) (w : World) (h : WrIs w b high bs a c) (hn : n ≤ 32) (hx : x < 4294967296) (hxn : 2 ^ n ≤ x) :
    Calls Try.prog 28 #[.pointer (some ⟨b, 0, none⟩), .int .u32 x, .int .i64 n] w fun e w' => e = .returned (.int .i64 2) ∧ w' = w := by
  have h2 : w.cell? ⟨b, 0 + 2, none⟩ = some (.bool true) := h.blk.cell 2
  have hq : ((x : Int) / 2 ^ n != 0) = true := by
    rw [show ((x : Int) / 2 ^ n) = ((x / 2 ^ n : Nat) : Int) from by push_cast; rfl]
    have := Nat.div_pos hxn (Nat.two_pow_pos n)
    rw [bne_iff_ne]; omega
  have hn0 : ¬ ((n : Int) < 0) := by omega
  have hn1 : ¬ ((32 : Int) < n) := by omega
  go_enter Try.func28, Try.ntmps28
  go_wp2_with fail
  refine (dead_any b w h2).mono ?_
  rintro e w1 ⟨rfl, rfl⟩
  go_wp2_with fail
  go_ret
  exact ⟨rfl, rfl⟩
theorem wrs_trans {b : Nat} {a a1 a2 : Option Addr} {w w1 w2 : World} (h1 : Ext (WrS b a) w w1) (f1 : ∀ g, a1 = some g → a = some g ∨ w.heap.size ≤ g.block) (h2 : Ext (WrS b a1) w1 w2) (f2 : ∀ g, a2 = some g → a1 = some g ∨ w1.heap.size ≤ g.block) :
    Ext (WrS b a) w w2 ∧ ∀ g, a2 = some g → a = some g ∨ w.heap.size ≤ g.block := by
  refine ⟨h1.trans h2 (fun i hi e => ?_), fun g hg => ?_⟩
  · rcases e with e | ⟨g, hg, e⟩
    · exact Or.inl e
    · rcases f1 g hg with e' | e'
      · exact Or.inr ⟨g, e', e⟩
      · omega
  · rcases f2 g hg with e | e
    · exact f1 g e
    · exact Or.inr (Nat.le_trans h1.size e)
theorem bit_test (x t : Nat) (hx : x < 4294967296) : (bits .and .u32 ((x : Int) / 2 ^ t) 1 == 1) = x.testBit t := by
  have hlt : x / 2 ^ t < 4294967296 := Nat.lt_of_le_of_lt (Nat.div_le_self _ _) hx
  rw [show ((x : Int) / 2 ^ t) = ((x / 2 ^ t : Nat) : Int) from by push_cast; rfl]
  have := u32_and_nat (x / 2 ^ t) 1 hlt (by decide)
  rw [Nat.and_one_is_mod] at this
  have e : bits .and .u32 ((x / 2 ^ t : Nat) : Int) 1 = ((x / 2 ^ t % 2 : Nat) : Int) := this
  rw [e, Nat.testBit_eq_decide_div_mod_eq]
  by_cases h : x / 2 ^ t % 2 = 1
  · rw [h]; rfl
  · rw [decide_eq_false h, beq_eq_false_iff_ne]; omega
theorem put_yes (b : Nat) (high : Bool) (bs : List Bool) (a : Option Addr) (c : Nat) (x n : Nat) (w : World) (h : WrIs w b high bs a c) (hlen : bs.length ≤ 900000000) (hn : n ≤ 32) (hx : x < 4294967296) (hxn : x < 2 ^ n) :
    Calls Try.prog 28 #[.pointer (some ⟨b, 0, none⟩), .int .u32 x, .int .i64 n] w fun e w' => e = .returned (.int .i64 0) ∧ ∃ a' c', WrIs w' b high (bs ++ bitsNum high x n) a' c' ∧ Ext (WrS b a) w w' ∧ (∀ g, a' = some g → a = some g ∨ w.heap.size ≤ g.block) := by
  have h2 : w.cell? ⟨b, 0 + 2, none⟩ = some (.bool true) := h.blk.cell 2
  have hq : ((x : Int) / 2 ^ n != 0) = false := by
    rw [show ((x : Int) / 2 ^ n) = ((x / 2 ^ n : Nat) : Int) from by push_cast; rfl, Nat.div_eq_of_lt hxn]; rfl
  have hn0 : ¬ ((n : Int) < 0) := by omega
  have hn1 : ¬ ((32 : Int) < n) := by omega
  go_enter Try.func28, Try.ntmps28
  go_wp2_with fail
  refine (dead_any b w h2).mono ?_
  rintro e w1 ⟨rfl, hw1⟩
  obtain rfl := hw1.symm
  go_wp2_with fail
  clear hq hn0 hn1 h2
  go_loopw [26] (fun i wr => ∃ (k : Nat) (a' : Option Addr) (c' : Nat), k ≤ n ∧ i = .int .i64 k ∧ WrIs wr b high (bs ++ (bitsNum high x n).take k) a' c' ∧ Ext (WrS b a) w wr ∧ (∀ g, a' = some g → a = some g ∨ w.heap.size ≤ g.block)) (fun i _ => n - (intOf i).toNat)
  case atStart => exact ⟨0, a, c, Nat.zero_le _, rfl, by simpa using h, Ext.refl _ _, fun g hg => Or.inl hg⟩
  case round =>
    obtain ⟨k, a1, c1, hk, rfl, hW, hE, hfr⟩ := hrel
    by_cases hlt : k < n
    · have hcell : wr.cell? ⟨b, 0 + 1, none⟩ = some (.bool high) := hW.blk.cell 1
      have hturn := turn_lt high k n hlt
      have htk : (bitsNum high x n).take (k + 1) = (bitsNum high x n).take k ++ [x.testBit (turn high k n)] := by
        rw [List.take_add_one, List.getElem?_eq_getElem (by simpa [bitsNum_length] using hlt)]; simp [bitsNum]
      have HB := Lib.hid (bit_test x (turn high k n) hx)
      have HT := Lib.hid htk
      have hl1 : (bs ++ (bitsNum high x n).take k).length ≤ 1000000000 := by simp [bitsNum_length]; omega
      have HL := Lib.hid hl1
      have HTu := Lib.hid (turn_any b high k n wr hcell hlt hn)
      clear htk hl1
      generalize turn high k n = t at *
      generalize x.testBit t = β at *
      go_wp2_with fail
      refine HTu.out.mono ?_
      rintro e w2 ⟨rfl, hw2⟩
      obtain rfl := hw2.symm
      have ht32 : (t : Int) ≤ 31 := by omega
      have ht0 : (0 : Int) ≤ t := by omega
      go_wp2_with fail
      rw [HB.out]
      refine (bit_any b high _ a1 c1 β wr hW HL.out).mono ?_
      rintro e w2 ⟨rfl, a2, c2, hW2, hE2, hfr2⟩
      obtain ⟨hE3, hfr3⟩ := wrs_trans hE hfr hE2 hfr2
      rw [List.append_assoc, ← HT.out] at hW2
      clear hE hfr hE2 hfr2 hW hcell
      go_wp2_with fail
      go_roundw
      case rel => exact ⟨k + 1, a2, c2, by omega, by go_num, hW2, hE3, hfr3⟩
      case measure => simp [intOf]; omega
    · obtain rfl : k = n := by omega
      rw [List.take_of_length_le (by rw [bitsNum_length]; exact Nat.le_refl _)] at hW
      go_wp2_with fail
      go_ret
      exact ⟨rfl, a1, c1, hW, hE, hfr⟩
theorem WrIs.ext {S : Nat → Prop} {w w' : World} {b : Nat} {high : Bool} {bs : List Bool} {a : Option Addr} {c : Nat} (h : WrIs w b high bs a c) (e : Ext S w w') (hb : ¬ S b) (ha : ∀ g, a = some g → ¬ S g.block) : WrIs w' b high bs a c :=
  ⟨h.blk.ext e hb, own_ext h.own e (fun g hg => by cases a with | none => cases hg | some y => cases hg; exact ha y rfl), h.apart⟩
theorem WrIs.pure {w w' : World} {b : Nat} {high : Bool} {bs : List Bool} {a : Option Addr} {c : Nat} (h : WrIs w b high bs a c) (e : Pure w w') : WrIs w' b high bs a c := h.ext e id (fun _ _ => id)
theorem WrIs.lt {w : World} {b : Nat} {high : Bool} {bs : List Bool} {a : Option Addr} {c : Nat} (h : WrIs w b high bs a c) : ∀ g, a = some g → g.block < w.heap.size := by
  intro g hg
  obtain ⟨_, _, hh, _, _, _, h4⟩ := own_form h.own
  cases hh
  exact (h4 g hg).2.1
theorem not_wrs {b i : Nat} {a : Option Addr} (h1 : i ≠ b) (h2 : ∀ g, a = some g → i ≠ g.block) : ¬ WrS b a i := fun e => by
  rcases e with e | ⟨g, hg, e⟩
  · exact h1 e
  · exact h2 g hg e
theorem ext_new {b : Nat} {a : Option Addr} {w0 w w' : World} (h0 : Pure w0 w) (h : Ext (WrS b a) w w') (hb : w0.heap.size ≤ b) (ha : ∀ g, a = some g → w0.heap.size ≤ g.block) : Pure w0 w' :=
  h0.trans h (fun i hi e => by
    rcases e with e | ⟨g, hg, e⟩
    · omega
    · have := ha g hg; omega)

end Go.Proofs.Ytdhejhgpjeenaaa
