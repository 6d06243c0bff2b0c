/-
  The walks of package bits.
-/
import Derived.Test.YtdhejhgpjeenaaaSl
import Derived.Test.YtdhejhgpjeenaaaReg
import Derived.Test.YtdhejhgpjeenaaaNums
import Derived.Test.YtdhejhgpjeenaaaInt
import Derived.StillTailTactics
namespace Go.Proofs.Ytdhejhgpjeenaaa
open Go.RowKit
set_option linter.unusedVariables false

theorem ret_int {k : IntKind} {a b : Int} (h : a = b) : Ending.returned (.int k a) = .returned (.int k b) := by rw [h]
theorem pow_mod (j : Nat) (h : j < 8) : (2 ^ j % 256 : Int) = ((2 ^ j : Nat) : Int) := by
  have : j = 0 ∨ j = 1 ∨ j = 2 ∨ j = 3 ∨ j = 4 ∨ j = 5 ∨ j = 6 ∨ j = 7 := by omega
  rcases this with rfl | rfl | rfl | rfl | rfl | rfl | rfl | rfl <;> decide
theorem pow_div (j : Nat) (h : j < 8) : (128 / 2 ^ j : Int) = ((2 ^ (7 - j) : Nat) : Int) := by
  have : j = 0 ∨ j = 1 ∨ j = 2 ∨ j = 3 ∨ j = 4 ∨ j = 5 ∨ j = 6 ∨ j = 7 := by omega
  rcases this with rfl | rfl | rfl | rfl | rfl | rfl | rfl | rfl <;> decide
theorem turn_any (b : Nat) (high : Bool) (k n : Nat) (w : World) (hc : w.cell? ⟨b, 0 + 1, none⟩ = some (.bool high)) (hk : k < n) (hn : n ≤ 32) :
    Calls Try.prog 54 #[.pointer (some ⟨b, 0, none⟩), .int .i64 k, .int .i64 n] w fun e w' => e = .returned (.int .i64 (turn high k n)) ∧ w' = w := by
  unfold turn
  cases high
  · go_enter Try.func54, Try.ntmps54
    go_wp2_with fail
    go_ret
    exact ⟨rfl, rfl⟩
  · go_enter Try.func54, Try.ntmps54
    go_wp2_with fail
    go_ret
    exact ⟨by congr 1; simp; omega, rfl⟩
theorem mask_any (b : Nat) (high : Bool) (n : Nat) (w : World) (h0 : w.cell? ⟨b, 0, none⟩ = some (.int .i64 n)) (hc : w.cell? ⟨b, 0 + 1, none⟩ = some (.bool high)) (hn : n ≤ 1000000000) :
    Calls Try.prog 72 #[.pointer (some ⟨b, 0, none⟩)] w fun e w' => e = .returned (.int .u8 (wt high (n % 8) : Nat)) ∧ w' = w := by
  have hand := i64_and7 n (by omega)
  have hlt : n % 8 < 8 := by omega
  generalize n % 8 = j at *
  unfold wt
  cases high
  · go_enter Try.func72, Try.ntmps72
    go_wp2_with fail
    go_ret
    exact ⟨ret_int (pow_mod j hlt), rfl⟩
  · go_enter Try.func72, Try.ntmps72
    go_wp2_with fail
    go_ret
    exact ⟨ret_int (pow_div j hlt), rfl⟩

/-- a writer: its block, its bits, its bytes' row -/
structure WrIs (w : World) (b : Nat) (high : Bool) (bs : List Bool) (a : Option Addr) (c : Nat) : Prop where
  blk : BlockIs w b [.int .i64 bs.length, .bool high, .bool true, .slice a (pack high bs).length c] 93
  own : w.ownsRow 0 5 1 (.slice a (pack high bs).length c) (pack high bs).length ((pack high bs).map byV)
  apart : ∀ g, a = some g → g.block ≠ b
/-- what a writer may write -/
def WrS (b : Nat) (a : Option Addr) (i : Nat) : Prop := i = b ∨ ∃ g, a = some g ∧ i = g.block

theorem new_any (high : Bool) (w : World) : Calls Try.prog 26 #[.bool high] w fun e w' => e = .returned (.pointer (some ⟨w.heap.size, 0, none⟩)) ∧ WrIs w' w.heap.size high [] none 0 ∧ Pure w w' := by
  go_enter Try.func26, Try.ntmps26
  go_wp2_with fail
  go_ret
  exact ⟨rfl, ⟨BlockIs.new w _ _, World.ownsRow_nil _ _ _ _, fun g hg => by cases hg⟩, ext_alloc _ _⟩
theorem dead_any (b : Nat) (w : World) (h : w.cell? ⟨b, 0 + 2, none⟩ = some (.bool true)) : Calls Try.prog 52 #[.pointer (some ⟨b, 0, none⟩)] w fun e w' => e = .returned (.bool false) ∧ w' = w := by
  go_enter Try.func52, Try.ntmps52
  go_wp2_with fail
  go_ret
  exact ⟨rfl, rfl⟩
theorem bit_new_false (b : Nat) (high : Bool) (bs : List Bool) (a : Option Addr) (c : Nat) (w : World) (h : WrIs w b high bs a c) (hlen : bs.length ≤ 1000000000) (hz : bs.length % 8 = 0) :
    Calls Try.prog 53 #[.pointer (some ⟨b, 0, none⟩), .bool false] w fun e w' => e = .returned (.tuple #[]) ∧ ∃ a' c', WrIs w' b high (bs ++ [false]) a' c' ∧ Ext (WrS b a) w w' ∧ (∀ g, a' = some g → a = some g ∨ w.heap.size ≤ g.block) := by
  have h0 : w.cell? ⟨b, 0, none⟩ = some (.int .i64 bs.length) := h.blk.cell 0
  have h1 : w.cell? ⟨b, 0 + 1, none⟩ = some (.bool high) := h.blk.cell 1
  have h3 : w.cell? ⟨b, 0 + 3, none⟩ = some (.slice a (pack high bs).length c) := h.blk.cell 3
  have f0 : w.frozen? ⟨b, 0, none⟩ = false := h.blk.free 0
  have f3 : w.frozen? ⟨b, 0 + 3, none⟩ = false := h.blk.free 3
  have hand := i64_and7 bs.length (by omega)
  rw [hz] at hand
  have hpf := Lib.hid (pack_false_new high bs hz)
  have hpb : (pack high bs).length ≤ 1000000000 := by rw [pack_length]; omega
  have hbl := h.blk.lt
  go_enter Try.func53, Try.ntmps53
  go_wp2_with (at_builtin; refine wpList_append_fresh rfl (.tmp 15) (.tmp 16) 25 rfl 0 5 (.int .u8 0) 1 1 Try.underlying25 infoByte rfl (by decide) _ (pack high bs).length ((pack high bs).map byV) rfl (h.own.alloc _) (some ⟨w.heap.size, 0, none⟩) 1 1 [.int .u8 0] rfl (fun e => by cases e) (by simp) (row_at _ rfl rfl) (by intro u hu; simp at hu; subst hu; rfl) ((pack high bs).length + 1) rfl (((pack high bs) ++ [0]).map byV) (by simp [byV]) (by omega) (by unfold maxLen; omega) (Nat.zero_le _) ?_)
  intro a1 c1 w1 hO1 hg1 hfr1
  have hlen1 : (pack high bs).length + 1 = (pack high (bs ++ [false])).length := by rw [hpf.out]; simp
  rw [← List.map_singleton, ← List.map_append, ← hpf.out, hlen1] at hO1
  rw [hlen1]
  have hE0 : Ext (WrS b a) w w1 := ((Ext.refl (WrS b a) w).alloc _).grown hg1 (fun k hk _ => by cases a with | none => cases hk | some y => cases hk; exact Or.inr ⟨y, rfl, rfl⟩)
  have hB0 := (h.blk.alloc (.cells #[.int .u8 0] 5)).ext (ext_of_grown hg1) (fun e => by cases a with | none => cases e | some y => cases e; exact h.apart y rfl rfl)
  have g3' : w1.cell? ⟨b, 0 + 3, none⟩ = some (.slice a (pack high bs).length c) := hB0.cell 3
  have k3' : w1.frozen? ⟨b, 0 + 3, none⟩ = false := hB0.free 3
  have g0' : w1.cell? ⟨b, 0, none⟩ = some (.int .i64 bs.length) := hB0.cell 0
  have k0' : w1.frozen? ⟨b, 0, none⟩ = false := hB0.free 0
  have hap1 : ∀ g, a1 = some g → g.block ≠ b := fun g hg => by
    rcases hfr1 g hg with e | e
    · cases a with
      | none => cases e
      | some y => have := h.apart y rfl; have e2 : y.block = g.block := Option.some.inj e; omega
    · omega
  have hz0 : ∀ g, a1 = some g → g.off = 0 ∧ g.spot = none := fun g hg => by
    obtain ⟨_, _, hh, _, _, _, hx⟩ := own_form hO1
    cases hh
    exact (hx g hg).2.2
  have hz1 : ∀ g, a = some g → g.off = 0 ∧ g.spot = none := fun g hg => by
    obtain ⟨_, _, hh, _, _, _, hx⟩ := own_form h.own
    cases hh
    exact (hx g hg).2.2
  have hfr2 : ∀ g, a1 = some g → a = some g ∨ w.heap.size ≤ g.block := fun g hg => by
    rcases hfr1 g hg with e | e
    · left
      cases a with
      | none => cases e
      | some y =>
        have e2 : y.block = g.block := Option.some.inj e
        have p1 := hz0 g hg; have p2 := hz1 y rfl
        obtain ⟨gb, go, gs⟩ := g; obtain ⟨yb, yo, ys⟩ := y
        simp only at p1 p2 e2
        obtain ⟨rfl, rfl⟩ := p1; obtain ⟨rfl, rfl⟩ := p2; subst e2; rfl
    · right; omega
  clear hz0 hz1 hfr1 hlen1 h0 h1 h3 f0 f3
  have hB1 := hB0.set 3 (.slice a1 (pack high (bs ++ [false])).length c1)
  simp only [List.set] at hB1
  have hO1' := own_ext hO1 ((Ext.refl (fun i => i = b) w1).setCell (p := ⟨b, 3, none⟩) (fun _ => rfl) (.slice a1 (pack high (bs ++ [false])).length c1)) (fun g hg e => by cases a1 with | none => cases hg | some y => cases hg; exact hap1 y rfl e)
  have hE1 := hE0.setCell (p := ⟨b, 3, none⟩) (fun _ => Or.inl rfl) (.slice a1 (pack high (bs ++ [false])).length c1)
  clear hg1
  go_wp2_with fail
  go_end0
  refine ⟨rfl, a1, c1, ⟨?_, own_ext hO1' ((Ext.refl (fun i => i = b) _).setCell (fun _ => rfl) _) (fun g hg e => by cases a1 with | none => cases hg | some y => cases hg; exact hap1 y rfl e), hap1⟩, hE1.setCell (fun _ => Or.inl rfl) _, hfr2⟩
  have := hB1.set 0 (.int .i64 ((bs.length : Int) + 1))
  simpa using this
set_option maxRecDepth 100000 in
theorem bit_new_true (b : Nat) (high : Bool) (bs : List Bool) (a : Option Addr) (c : Nat) (w : World) (h : WrIs w b high bs a c) (hlen : bs.length ≤ 1000000000) (hz : bs.length % 8 = 0) :
    Calls Try.prog 53 #[.pointer (some ⟨b, 0, none⟩), .bool true] w fun e w' => e = .returned (.tuple #[]) ∧ ∃ a' c', WrIs w' b high (bs ++ [true]) a' c' ∧ Ext (WrS b a) w w' ∧ (∀ g, a' = some g → a = some g ∨ w.heap.size ≤ g.block) := by
  have h0 : w.cell? ⟨b, 0, none⟩ = some (.int .i64 bs.length) := h.blk.cell 0
  have h1 : w.cell? ⟨b, 0 + 1, none⟩ = some (.bool high) := h.blk.cell 1
  have h3 : w.cell? ⟨b, 0 + 3, none⟩ = some (.slice a (pack high bs).length c) := h.blk.cell 3
  have f0 : w.frozen? ⟨b, 0, none⟩ = false := h.blk.free 0
  have f3 : w.frozen? ⟨b, 0 + 3, none⟩ = false := h.blk.free 3
  have hand := i64_and7 bs.length (by omega)
  rw [hz] at hand
  have hpf := Lib.hid (pack_false_new high bs hz)
  have hpb : (pack high bs).length ≤ 1000000000 := by rw [pack_length]; omega
  have hbl := h.blk.lt
  go_enter Try.func53, Try.ntmps53
  go_wp2_with (at_builtin; refine wpList_append_fresh rfl (.tmp 15) (.tmp 16) 25 rfl 0 5 (.int .u8 0) 1 1 Try.underlying25 infoByte rfl (by decide) _ (pack high bs).length ((pack high bs).map byV) rfl (h.own.alloc _) (some ⟨w.heap.size, 0, none⟩) 1 1 [.int .u8 0] rfl (fun e => by cases e) (by simp) (row_at _ rfl rfl) (by intro u hu; simp at hu; subst hu; rfl) ((pack high bs).length + 1) rfl (((pack high bs) ++ [0]).map byV) (by simp [byV]) (by omega) (by unfold maxLen; omega) (Nat.zero_le _) ?_)
  intro a1 c1 w1 hO1 hg1 hfr1
  have hlen1 : (pack high bs).length + 1 = (pack high (bs ++ [false])).length := by rw [hpf.out]; simp
  rw [← List.map_singleton, ← List.map_append, ← hpf.out, hlen1] at hO1
  rw [hlen1]
  have hE0 : Ext (WrS b a) w w1 := ((Ext.refl (WrS b a) w).alloc _).grown hg1 (fun k hk _ => by cases a with | none => cases hk | some y => cases hk; exact Or.inr ⟨y, rfl, rfl⟩)
  have hB0 := (h.blk.alloc (.cells #[.int .u8 0] 5)).ext (ext_of_grown hg1) (fun e => by cases a with | none => cases e | some y => cases e; exact h.apart y rfl rfl)
  have g3' : w1.cell? ⟨b, 0 + 3, none⟩ = some (.slice a (pack high bs).length c) := hB0.cell 3
  have k3' : w1.frozen? ⟨b, 0 + 3, none⟩ = false := hB0.free 3
  have g0' : w1.cell? ⟨b, 0, none⟩ = some (.int .i64 bs.length) := hB0.cell 0
  have k0' : w1.frozen? ⟨b, 0, none⟩ = false := hB0.free 0
  have hap1 : ∀ g, a1 = some g → g.block ≠ b := fun g hg => by
    rcases hfr1 g hg with e | e
    · cases a with
      | none => cases e
      | some y => have := h.apart y rfl; have e2 : y.block = g.block := Option.some.inj e; omega
    · omega
  have hz0 : ∀ g, a1 = some g → g.off = 0 ∧ g.spot = none := fun g hg => by
    obtain ⟨_, _, hh, _, _, _, hx⟩ := own_form hO1
    cases hh
    exact (hx g hg).2.2
  have hz1 : ∀ g, a = some g → g.off = 0 ∧ g.spot = none := fun g hg => by
    obtain ⟨_, _, hh, _, _, _, hx⟩ := own_form h.own
    cases hh
    exact (hx g hg).2.2
  have hfr2 : ∀ g, a1 = some g → a = some g ∨ w.heap.size ≤ g.block := fun g hg => by
    rcases hfr1 g hg with e | e
    · left
      cases a with
      | none => cases e
      | some y =>
        have e2 : y.block = g.block := Option.some.inj e
        have p1 := hz0 g hg; have p2 := hz1 y rfl
        obtain ⟨gb, go, gs⟩ := g; obtain ⟨yb, yo, ys⟩ := y
        simp only at p1 p2 e2
        obtain ⟨rfl, rfl⟩ := p1; obtain ⟨rfl, rfl⟩ := p2; subst e2; rfl
    · right; omega
  clear hz0 hz1 hfr1 hlen1 h0 h1 h3 f0 f3
  have hB1 := hB0.set 3 (.slice a1 (pack high (bs ++ [false])).length c1)
  simp only [List.set] at hB1
  have hO1' := own_ext hO1 ((Ext.refl (fun i => i = b) w1).setCell (p := ⟨b, 3, none⟩) (fun _ => rfl) (.slice a1 (pack high (bs ++ [false])).length c1)) (fun g hg e => by cases a1 with | none => cases hg | some y => cases hg; exact hap1 y rfl e)
  have hE1 := hE0.setCell (p := ⟨b, 3, none⟩) (fun _ => Or.inl rfl) (.slice a1 (pack high (bs ++ [false])).length c1)
  clear hg1
  go_wp2_with fail
  clear hB0 hO1 hE0 g3' k3' g0' k0'
  have hO1 := hO1'
  clear hO1'
  generalize (w1.setCell ⟨b, 3, none⟩ (.slice a1 (pack high (bs ++ [false])).length c1)) = w2 at *
  clear w1
  -- THE TAIL: the row is as if 'false' were put
  have g0 : w2.cell? ⟨b, 0, none⟩ = some (.int .i64 bs.length) := hB1.cell 0
  have g1 : w2.cell? ⟨b, 0 + 1, none⟩ = some (.bool high) := hB1.cell 1
  have g3 : w2.cell? ⟨b, 0 + 3, none⟩ = some (.slice a1 (pack high (bs ++ [false])).length c1) := hB1.cell 3
  have k0 : w2.frozen? ⟨b, 0, none⟩ = false := hB1.free 0
  have hlt : bs.length / 8 < (pack high (bs ++ [false])).length := by rw [pack_length]; simp; omega
  have hpt := pack_true high bs hlt
  have hplen := pack_length high (bs ++ [false])
  have hplen' := pack_length high (bs ++ [true])
  simp only [List.length_append, List.length_singleton] at hplen hplen'
  have hplt : (pack high (bs ++ [false])).length ≤ 1000000000 := by omega
  have hsame : (pack high (bs ++ [true])).length = (pack high (bs ++ [false])).length := by rw [hplen, hplen']
  obtain ⟨g, rfl, _, hcell, hfree, hO2⟩ := own_set hO1 (bs.length / 8) hlt (byV (UInt8.ofNat ((pack high (bs ++ [false]))[bs.length / 8].toNat ||| wt high (bs.length % 8))))
  have hgb : g ≠ b := hap1 _ rfl
  have hrow := own_row hO1 (bs.length / 8) (byV (pack high (bs ++ [false]))[bs.length / 8]) (by simp [hlt])
  obtain ⟨_, _, hh, hrow⟩ := hrow
  cases hh
  rw [Nat.zero_add] at hrow
  rw [← List.map_set, ← hpt] at hO2
  have hold := (pack high (bs ++ [false]))[bs.length / 8].toNat_lt
  have hwt : wt high (bs.length % 8) < 256 := by rw [wt_pl]; exact Nat.lt_of_lt_of_le (Nat.pow_lt_pow_right (by decide) (pl_lt high _ (by omega))) (by decide)
  have hor := u8_or_nat' (pack high (bs ++ [false]))[bs.length / 8].toNat (wt high (bs.length % 8)) (by omega) hwt
  have hnew : byV (UInt8.ofNat ((pack high (bs ++ [false]))[bs.length / 8].toNat ||| wt high (bs.length % 8))) = .int .u8 (((pack high (bs ++ [false]))[bs.length / 8].toNat ||| wt high (bs.length % 8) : Nat) : Int) := by
    unfold byV; rw [ofNat_toNat _ (Nat.or_lt_two_pow (n := 8) (by omega) hwt)]
  rw [hnew] at hO2
  unfold byV at hrow
  have hmask := fun u (h0 : u.cell? ⟨b, 0, none⟩ = some (.int .i64 bs.length)) (h1 : u.cell? ⟨b, 0 + 1, none⟩ = some (.bool high)) => mask_any b high bs.length u h0 h1 (by omega)
  have hidx : ((bs.length / 8 : Nat) : Int) < ((pack high (bs ++ [false])).length : Int) := by omega
  have hdiv : (bs.length : Int) / 8 = ((bs.length / 8 : Nat) : Int) := by omega
  have hsz : w2.heap.size = w2.heap.size := rfl
  clear hpt hplen hplen' hnew hcell hsz
  generalize wt high (bs.length % 8) = m at *
  generalize (pack high (bs ++ [false]))[bs.length / 8].toNat = old at *
  generalize (old ||| m) = nw at *
  generalize bs.length / 8 = q at *
  go_wp2_with fail
  refine wp_region_still_tail 18 (by kernel_rfl) (by kernel_rfl) ?_
  simp only [List.take_succ_cons, List.take_zero, List.drop_succ_cons, List.drop_zero]
  repeat still_step
  still_call (hmask _ g0 g1)
  repeat still_step
  refine wpStill_nil ?_
  change wpList _ _ _ _ _ (World.drew _)
  go_wp2_with fail
  go_end0
  refine ⟨rfl, some ⟨g, 0, none⟩, c1, ⟨?_, ?_, hap1⟩, ?_, hfr2⟩
  · have hb' := ((hB1.setOther (p := ⟨g, q, none⟩) hgb (.int .u8 nw)).set 0 (.int .i64 ((bs.length : Int) + 1))).drew
    rw [hsame]
    simpa using hb'
  · rw [hsame]
    exact own_ext hO2 ((Ext.refl (fun i => i = b) _).setCell (fun _ => rfl) _).drew (fun g' hg' e => by cases hg'; exact hgb e)
  · refine ((hE1.setCell (p := ⟨g, q, none⟩) (fun hlt => ?_) _).setCell (p := ⟨b, 0, none⟩) (fun _ => Or.inl rfl) _).drew
    rcases hfr2 _ rfl with e | e
    · exact Or.inr ⟨_, e, rfl⟩
    · exact absurd e (by simp at hlt ⊢; omega)
theorem bit_old_false (b : Nat) (high : Bool) (bs : List Bool) (a : Option Addr) (c : Nat) (w : World) (h : WrIs w b high bs a c) (hlen : bs.length ≤ 1000000000) (hz : bs.length % 8 ≠ 0) :
    Calls Try.prog 53 #[.pointer (some ⟨b, 0, none⟩), .bool false] w fun e w' => e = .returned (.tuple #[]) ∧ ∃ a' c', WrIs w' b high (bs ++ [false]) a' c' ∧ Ext (WrS b a) w w' ∧ (∀ g, a' = some g → a = some g ∨ w.heap.size ≤ g.block) := by
  have h0 : w.cell? ⟨b, 0, none⟩ = some (.int .i64 bs.length) := h.blk.cell 0
  have h1 : w.cell? ⟨b, 0 + 1, none⟩ = some (.bool high) := h.blk.cell 1
  have h3 : w.cell? ⟨b, 0 + 3, none⟩ = some (.slice a (pack high bs).length c) := h.blk.cell 3
  have f0 : w.frozen? ⟨b, 0, none⟩ = false := h.blk.free 0
  have f3 : w.frozen? ⟨b, 0 + 3, none⟩ = false := h.blk.free 3
  have hand := i64_and7 bs.length (by omega)
  have hne : ((bs.length : Int) % 8 == 0) = false := beq_eq_false_iff_ne.2 (by omega)
  have hpf := Lib.hid (pack_false_old high bs hz)
  have hB1 := h.blk
  have hO1 := h.own
  have hap1 := h.apart
  go_enter Try.func53, Try.ntmps53
  go_wp2_with fail
  go_end0
  rw [← hpf.out] at hB1 hO1
  refine ⟨rfl, a, c, ⟨?_, own_ext hO1 ((Ext.refl (fun i => i = b) w).setCell (fun _ => rfl) _) (fun g hg e => by cases a with | none => cases hg | some y => cases hg; exact hap1 y rfl e), hap1⟩, (Ext.refl _ w).setCell (fun _ => Or.inl rfl) _, fun g hg => Or.inl hg⟩
  have := hB1.set 0 (.int .i64 ((bs.length : Int) + 1))
  simpa using this
set_option maxRecDepth 100000 in
theorem bit_old_true (b : Nat) (high : Bool) (bs : List Bool) (a : Option Addr) (c : Nat) (w : World) (h : WrIs w b high bs a c) (hlen : bs.length ≤ 1000000000) (hz : bs.length % 8 ≠ 0) :
    Calls Try.prog 53 #[.pointer (some ⟨b, 0, none⟩), .bool true] w fun e w' => e = .returned (.tuple #[]) ∧ ∃ a' c', WrIs w' b high (bs ++ [true]) a' c' ∧ Ext (WrS b a) w w' ∧ (∀ g, a' = some g → a = some g ∨ w.heap.size ≤ g.block) := by
  have h0 : w.cell? ⟨b, 0, none⟩ = some (.int .i64 bs.length) := h.blk.cell 0
  have h1 : w.cell? ⟨b, 0 + 1, none⟩ = some (.bool high) := h.blk.cell 1
  have h3 : w.cell? ⟨b, 0 + 3, none⟩ = some (.slice a (pack high bs).length c) := h.blk.cell 3
  have f0 : w.frozen? ⟨b, 0, none⟩ = false := h.blk.free 0
  have f3 : w.frozen? ⟨b, 0 + 3, none⟩ = false := h.blk.free 3
  have hand := i64_and7 bs.length (by omega)
  have hne : ((bs.length : Int) % 8 == 0) = false := beq_eq_false_iff_ne.2 (by omega)
  have hpf := Lib.hid (pack_false_old high bs hz)
  have hB1 := h.blk
  have hO1 := h.own
  have hap1 := h.apart
  go_enter Try.func53, Try.ntmps53
  go_wp2_with fail
  rw [← hpf.out] at hB1 hO1
  have hE1 : Ext (WrS b a) w w := Ext.refl _ _
  have hfr2 : ∀ g, a = some g → a = some g ∨ w.heap.size ≤ g.block := fun g hg => Or.inl hg
  clear h0 h1 h3 f0 f3
  -- THE TAIL: the row is as if 'false' were put
  have g0 : w.cell? ⟨b, 0, none⟩ = some (.int .i64 bs.length) := hB1.cell 0
  have g1 : w.cell? ⟨b, 0 + 1, none⟩ = some (.bool high) := hB1.cell 1
  have g3 : w.cell? ⟨b, 0 + 3, none⟩ = some (.slice a (pack high (bs ++ [false])).length c) := hB1.cell 3
  have k0 : w.frozen? ⟨b, 0, none⟩ = false := hB1.free 0
  have hlt : bs.length / 8 < (pack high (bs ++ [false])).length := by rw [pack_length]; simp; omega
  have hpt := pack_true high bs hlt
  have hplen := pack_length high (bs ++ [false])
  have hplen' := pack_length high (bs ++ [true])
  simp only [List.length_append, List.length_singleton] at hplen hplen'
  have hplt : (pack high (bs ++ [false])).length ≤ 1000000000 := by omega
  have hsame : (pack high (bs ++ [true])).length = (pack high (bs ++ [false])).length := by rw [hplen, hplen']
  obtain ⟨g, rfl, _, hcell, hfree, hO2⟩ := own_set hO1 (bs.length / 8) hlt (byV (UInt8.ofNat ((pack high (bs ++ [false]))[bs.length / 8].toNat ||| wt high (bs.length % 8))))
  have hgb : g ≠ b := hap1 _ rfl
  have hrow := own_row hO1 (bs.length / 8) (byV (pack high (bs ++ [false]))[bs.length / 8]) (by simp [hlt])
  obtain ⟨_, _, hh, hrow⟩ := hrow
  cases hh
  rw [Nat.zero_add] at hrow
  rw [← List.map_set, ← hpt] at hO2
  have hold := (pack high (bs ++ [false]))[bs.length / 8].toNat_lt
  have hwt : wt high (bs.length % 8) < 256 := by rw [wt_pl]; exact Nat.lt_of_lt_of_le (Nat.pow_lt_pow_right (by decide) (pl_lt high _ (by omega))) (by decide)
  have hor := u8_or_nat' (pack high (bs ++ [false]))[bs.length / 8].toNat (wt high (bs.length % 8)) (by omega) hwt
  have hnew : byV (UInt8.ofNat ((pack high (bs ++ [false]))[bs.length / 8].toNat ||| wt high (bs.length % 8))) = .int .u8 (((pack high (bs ++ [false]))[bs.length / 8].toNat ||| wt high (bs.length % 8) : Nat) : Int) := by
    unfold byV; rw [ofNat_toNat _ (Nat.or_lt_two_pow (n := 8) (by omega) hwt)]
  rw [hnew] at hO2
  unfold byV at hrow
  have hmask := fun u (h0 : u.cell? ⟨b, 0, none⟩ = some (.int .i64 bs.length)) (h1 : u.cell? ⟨b, 0 + 1, none⟩ = some (.bool high)) => mask_any b high bs.length u h0 h1 (by omega)
  have hidx : ((bs.length / 8 : Nat) : Int) < ((pack high (bs ++ [false])).length : Int) := by omega
  have hdiv : (bs.length : Int) / 8 = ((bs.length / 8 : Nat) : Int) := by omega
  have hsz : w.heap.size = w.heap.size := rfl
  clear hpt hplen hplen' hnew hcell hsz
  generalize wt high (bs.length % 8) = m at *
  generalize (pack high (bs ++ [false]))[bs.length / 8].toNat = old at *
  generalize (old ||| m) = nw at *
  generalize bs.length / 8 = q at *
  go_wp2_with fail
  refine wp_region_still_tail 18 (by kernel_rfl) (by kernel_rfl) ?_
  simp only [List.take_succ_cons, List.take_zero, List.drop_succ_cons, List.drop_zero]
  repeat still_step
  still_call (hmask _ g0 g1)
  repeat still_step
  refine wpStill_nil ?_
  change wpList _ _ _ _ _ (World.drew _)
  go_wp2_with fail
  go_end0
  refine ⟨rfl, some ⟨g, 0, none⟩, c, ⟨?_, ?_, hap1⟩, ?_, hfr2⟩
  · have hb' := ((hB1.setOther (p := ⟨g, q, none⟩) hgb (.int .u8 nw)).set 0 (.int .i64 ((bs.length : Int) + 1))).drew
    rw [hsame]
    simpa using hb'
  · rw [hsame]
    exact own_ext hO2 ((Ext.refl (fun i => i = b) _).setCell (fun _ => rfl) _).drew (fun g' hg' e => by cases hg'; exact hgb e)
  · refine ((hE1.setCell (p := ⟨g, q, none⟩) (fun hlt => ?_) _).setCell (p := ⟨b, 0, none⟩) (fun _ => Or.inl rfl) _).drew
    rcases hfr2 _ rfl with e | e
    · exact Or.inr ⟨_, e, rfl⟩
    · exact absurd e (by simp at hlt ⊢; omega)
theorem bit_any (b : Nat) (high : Bool) (bs : List Bool) (a : Option Addr) (c : Nat) (x : Bool) (w : World) (h : WrIs w b high bs a c) (hlen : bs.length ≤ 1000000000) :
    Calls Try.prog 53 #[.pointer (some ⟨b, 0, none⟩), .bool x] w fun e w' => e = .returned (.tuple #[]) ∧ ∃ a' c', WrIs w' b high (bs ++ [x]) a' c' ∧ Ext (WrS b a) w w' ∧ (∀ g, a' = some g → a = some g ∨ w.heap.size ≤ g.block) := by
  by_cases hz : bs.length % 8 = 0
  · cases x
    · exact bit_new_false b high bs a c w h hlen hz
    · exact bit_new_true b high bs a c w h hlen hz
  · cases x
    · exact bit_old_false b high bs a c w h hlen hz
    · exact bit_old_true b high bs a c w h hlen hz
end Go.Proofs.Ytdhejhgpjeenaaa
