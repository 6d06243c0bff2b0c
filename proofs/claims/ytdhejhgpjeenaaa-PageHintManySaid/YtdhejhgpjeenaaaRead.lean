/-
  The walks: slices.Clone, (*Writer).Bytes and Align, the reader.
-/
import Derived.Test.YtdhejhgpjeenaaaPut
import Derived.WalkSpells
namespace Go.Proofs.Ytdhejhgpjeenaaa
open Go.RowKit
set_option linter.unusedVariables false

/-- what a clone is -/
structure NewRow (w w' : World) (a : Option Addr) (c : Nat) (l : List UInt8) : Prop where
  bytes : Bytes w' a l
  ext : Pure w w'
  nil : a = none → c = 0
  fresh : ∀ g, a = some g → w.heap.size ≤ g.block
  lt : ∀ g, a = some g → g.block < w'.heap.size
  le : l.length ≤ c
  most : c ≤ maxLen

theorem bytes_of_own {w : World} {B n c : Nat} {a : Option Addr} {l : List UInt8} (h : w.ownsRow B 5 1 (.slice a n c) n (l.map byV)) : Bytes w a l := own_row h

theorem clone_any (ad : Option Addr) (cap : Nat) (l : List UInt8) (w : World) (hb : Bytes w ad l) (hnil : ad = none → cap = 0) (hle : l.length ≤ cap) (hmost : l.length ≤ 100000000000) :
    Calls Try.prog 56 #[.slice ad l.length cap] w fun e w' => ∃ a c, e = .returned (.slice a l.length c) ∧ NewRow w w' a c l := by
  have he := eql_nil Try.underlying25
  cases ad with
  | none =>
    obtain rfl := hnil rfl
    obtain rfl : l = [] := List.length_eq_zero_iff.1 (by omega)
    go_enter Try.func56, Try.ntmps56
    go_wp2_with fail
    go_ret
    exact ⟨none, 0, rfl, ⟨bytes_nil _ _, Ext.refl _ _, fun _ => rfl, fun g hg => (by cases hg), fun g hg => (by cases hg), Nat.zero_le _, Nat.zero_le _⟩⟩
  | some ad =>
    go_enter Try.func56, Try.ntmps56
    go_wp2_with (at_builtin; refine wpList_append_fresh rfl (.tmp 5) (.tmp 6) 25 rfl w.heap.size 5 (.int .u8 0) 1 1 Try.underlying25 infoByte rfl (by decide) _ 0 [] rfl (own_new (by simp) (by simp) _ (Nat.le_refl _)) (some ad) l.length cap (l.map byV) rfl (fun e => by cases e) (by simp) (hb.pure (ext_alloc _ _)) (byV_one l) l.length (by omega) (l.map byV) rfl (by omega) (by unfold maxLen; omega) (by simp) ?_)
    intro a1 c1 w1 hown hg hfr
    go_wp2_with fail
    go_ret
    obtain ⟨_, _, hh, h1, h2, h3, h4⟩ := own_form hown
    cases hh
    exact ⟨a1, c1, rfl, ⟨bytes_of_own hown, ((Ext.refl _ w).alloc _).grown hg (fun k hk hlt => by cases hk; exact absurd hlt (Nat.lt_irrefl _)), h3, fun g hg => (h4 g hg).1, fun g hg => (h4 g hg).2.1, h1, h2⟩⟩
theorem bytes_any (b : Nat) (high : Bool) (bs : List Bool) (a : Option Addr) (c : Nat) (w : World) (h : WrIs w b high bs a c) (hlen : bs.length ≤ 1000000000) :
    Calls Try.prog 34 #[.pointer (some ⟨b, 0, none⟩)] w fun e w' => ∃ a c, e = .returned (.slice a (pack high bs).length c) ∧ NewRow w w' a c (pack high bs) := by
  have h2 : w.cell? ⟨b, 0 + 2, none⟩ = some (.bool true) := h.blk.cell 2
  have h3 : w.cell? ⟨b, 0 + 3, none⟩ = some (.slice a (pack high bs).length c) := h.blk.cell 3
  obtain ⟨_, _, hh, hl, hm, hn, _⟩ := own_form h.own
  cases hh
  have hb := bytes_of_own h.own
  have hpl : (pack high bs).length ≤ 1000000000 := by rw [pack_length]; omega
  go_enter Try.func34, Try.ntmps34
  go_wp2_with fail
  refine (dead_any b w h2).mono ?_
  rintro e w1 ⟨rfl, hw1⟩
  obtain rfl := hw1.symm
  go_wp2_with fail
  refine (clone_any a c (pack high bs) w hb hn hl (by omega)).mono ?_
  rintro e w1 ⟨a1, c1, rfl, hN⟩
  go_wp2_with fail
  go_ret
  exact ⟨a1, c1, rfl, hN⟩
theorem walign_any (b : Nat) (high : Bool) (bs : List Bool) (a : Option Addr) (c : Nat) (w : World) (h : WrIs w b high bs a c) (hlen : bs.length ≤ 1000000000) :
    Calls Try.prog 55 #[.pointer (some ⟨b, 0, none⟩)] w fun e w' => e = .returned (.tuple #[]) ∧ WrIs w' b high (align bs) a c ∧ Ext (fun i => i = b) w w' := by
  have h0 : w.cell? ⟨b, 0, none⟩ = some (.int .i64 bs.length) := h.blk.cell 0
  have f0 : w.frozen? ⟨b, 0, none⟩ = false := h.blk.free 0
  have h2 : w.cell? ⟨b, 0 + 2, none⟩ = some (.bool true) := h.blk.cell 2
  have hand := i64_andNot7 (bs.length + 7) (by omega)
  rw [show ((bs.length + 7 : Nat) : Int) = (bs.length : Int) + 7 from by push_cast; rfl, ← align_length] at hand
  go_enter Try.func55, Try.ntmps55
  go_wp2_with fail
  refine (dead_any b w h2).mono ?_
  rintro e w1 ⟨rfl, hw1⟩
  obtain rfl := hw1.symm
  go_wp2_with fail
  go_end0
  refine ⟨rfl, ⟨?_, ?_, h.apart⟩, (Ext.refl (fun i => i = b) w).setCell (p := ⟨b, 0, none⟩) (fun _ => rfl) _⟩
  · rw [pack_align]
    have := h.blk.set 0 (.int .i64 ((align bs).length : Int))
    simpa using this
  · rw [pack_align]
    exact own_ext h.own ((Ext.refl (fun i => i = b) w).setCell (fun _ => rfl) _) (fun g hg e => by cases a with | none => cases hg | some y => cases hg; exact h.apart y rfl e)

/-- a reader: its block, its bytes, how many bits were taken -/
structure RdIs (w : World) (b : Nat) (high : Bool) (l : List UInt8) (n : Nat) (a : Option Addr) (c : Nat) : Prop where
  blk : BlockIs w b [.int .i64 n, .bool high, .bool true, .slice a l.length c] 99
  bytes : Bytes w a l
  apart : ∀ g, a = some g → g.block ≠ b
theorem RdIs.ext {S : Nat → Prop} {w w' : World} {b : Nat} {high : Bool} {l : List UInt8} {n : Nat} {a : Option Addr} {c : Nat} (h : RdIs w b high l n a c) (e : Ext S w w') (hb : ¬ S b) (ha : ∀ g, a = some g → ¬ S g.block) : RdIs w' b high l n a c :=
  ⟨h.blk.ext e hb, h.bytes.ext e ha, h.apart⟩
theorem read_any (ad : Option Addr) (cap : Nat) (l : List UInt8) (high : Bool) (w : World) (hb : Bytes w ad l) (hnil : ad = none → cap = 0) (hle : l.length ≤ cap) (hmost : l.length ≤ 100000000000) :
    Calls Try.prog 38 #[.slice ad l.length cap, .bool high] w fun e w' => ∃ b a c, e = .returned (.pointer (some ⟨b, 0, none⟩)) ∧ RdIs w' b high l 0 a c ∧ Pure w w' ∧ w.heap.size ≤ b ∧ b < w'.heap.size ∧ ∀ g, a = some g → w.heap.size ≤ g.block := by
  go_enter Try.func38, Try.ntmps38
  go_wp2_with fail
  refine (clone_any ad cap l w hb hnil hle hmost).mono ?_
  rintro e w1 ⟨a1, c1, rfl, hN⟩
  go_wp2_with fail
  go_ret
  refine ⟨w1.heap.size, a1, c1, rfl, ⟨BlockIs.new w1 _ _, hN.bytes.pure (ext_alloc _ _), fun g hg e => ?_⟩, hN.ext.alloc _, hN.ext.size, by simp, hN.fresh⟩
  have := hN.lt g hg
  omega
theorem read_any2 (ad : Option Addr) (cap : Nat) (l : List UInt8) (high : Bool) (w : World) (hb : Bytes w ad l) (hnil : ad = none → cap = 0) (hle : l.length ≤ cap) (hmost : l.length ≤ 100000000000) :
    Calls Try.prog 38 #[.slice ad l.length cap, .bool high] w fun e w' => ∃ b a c, e = .returned (.pointer (some ⟨b, 0, none⟩)) ∧ RdIs w' b high l 0 a c ∧ Pure w w' ∧ w.heap.size ≤ b ∧ b < w'.heap.size ∧ (∀ g, a = some g → w.heap.size ≤ g.block) ∧ (∀ g, a = some g → g.block < w'.heap.size) := by
  go_enter Try.func38, Try.ntmps38
  go_wp2_with fail
  refine (clone_any ad cap l w hb hnil hle hmost).mono ?_
  rintro e w1 ⟨a1, c1, rfl, hN⟩
  go_wp2_with fail
  go_ret
  refine ⟨w1.heap.size, a1, c1, rfl, ⟨BlockIs.new w1 _ _, hN.bytes.pure (ext_alloc _ _), fun g hg e => ?_⟩, hN.ext.alloc _, hN.ext.size, by simp, hN.fresh, fun g hg => by have := hN.lt g hg; simp; omega⟩
  have := hN.lt g hg
  omega
end Go.Proofs.Ytdhejhgpjeenaaa
