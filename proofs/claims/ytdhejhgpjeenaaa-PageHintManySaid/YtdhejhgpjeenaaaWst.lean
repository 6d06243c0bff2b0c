/-
  A writer of a call's own: what it has, and that all else is as it was; and walked: put (the closure), row of numbers.
-/
import Derived.Test.YtdhejhgpjeenaaaPageAt
import Derived.Test.YtdhejhgpjeenaaaClos
import Derived.Test.YtdhejhgpjeenaaaRead
import Derived.Test.YtdhejhgpjeenaaaPut
namespace Go.Proofs.Ytdhejhgpjeenaaa
open Go.RowKit C26
set_option linter.unusedVariables false

/-- a writer has so many bits; behind a world only it, and what is new, may have been written -/
def WSt (w0 : World) (wb : Nat) (bs : List Bool) (W : World) : Prop := ∃ wa wc, WrIs W wb true bs wa wc ∧ Ext (fun i => i = wb) w0 W ∧ (∀ g, wa = some g → w0.heap.size ≤ g.block) ∧ wb < w0.heap.size
theorem WSt.ext {w0 W : World} {wb : Nat} {bs : List Bool} (h : WSt w0 wb bs W) : Ext (fun i => i = wb) w0 W := by obtain ⟨_, _, _, h, _⟩ := h; exact h
theorem WSt.later {w0 W W' : World} {wb : Nat} {bs : List Bool} (h : WSt w0 wb bs W) (hE : Pure W W') : WSt w0 wb bs W' := by
  obtain ⟨wa, wc, hW, hX, hf, hb⟩ := h
  exact ⟨wa, wc, hW.pure hE, hX.trans hE (fun _ _ e => e.elim), hf, hb⟩
def PutTo (w0 : World) (wb : Nat) (bs : List Bool) (e : Ending) (W' : World) : Prop := e = .returned (.int .i64 0) ∧ WSt w0 wb bs W'
def DoneTo (w0 : World) (wb : Nat) (bs : List Bool) (e : Ending) (W' : World) : Prop := e = .returned (.tuple #[]) ∧ WSt w0 wb bs W'
theorem wsput {w0 W : World} {wb : Nat} {bs : List Bool} (h : WSt w0 wb bs W) (x n : Nat) (hlen : bs.length ≤ 900000000) (hn : n ≤ 32) (hx : x < 4294967296) (hxn : x < 2 ^ n) :
    Calls Try.prog 28 #[.pointer (some ⟨wb, 0, none⟩), .int .u32 x, .int .i64 n] W (PutTo w0 wb (bs ++ bN x n)) := by
  obtain ⟨wa, wc, hW, hX, hf, hb⟩ := h
  refine (put_yes wb true bs wa wc x n W hW hlen hn hx hxn).mono ?_
  rintro e W' ⟨rfl, wa', wc', hW', hE, hf'⟩
  refine ⟨rfl, wa', wc', hW', hX.trans hE (fun i hi e => ?_), fun g hg => ?_, hb⟩
  · rcases e with e | ⟨g, hg, e⟩
    · exact e
    · have := hf g hg; omega
  · rcases hf' g hg with e | e
    · exact hf g e
    · exact Nat.le_trans hX.size e
theorem wsalign {w0 W : World} {wb : Nat} {bs : List Bool} (h : WSt w0 wb bs W) (hlen : bs.length ≤ 1000000000) :
    Calls Try.prog 55 #[.pointer (some ⟨wb, 0, none⟩)] W (DoneTo w0 wb (align bs)) := by
  obtain ⟨wa, wc, hW, hX, hf, hb⟩ := h
  refine (walign_any wb true bs wa wc W hW hlen).mono ?_
  rintro e W' ⟨rfl, hW', hE⟩
  exact ⟨rfl, wa, wc, hW', hX.trans hE (fun _ _ e => e), hf, hb⟩
def PutcTo (wb : Nat) (a : Option Addr) (bs : List Bool) (W : World) (e : Ending) (W' : World) : Prop := e = .returned (.tuple #[]) ∧ ∃ a' c', WrIs W' wb true bs a' c' ∧ Ext (WrS wb a) W W' ∧ (∀ g, a' = some g → a = some g ∨ W.heap.size ≤ g.block)
set_option maxHeartbeats 1000000 in
set_option maxRecDepth 100000 in
theorem putc_any (wb : Nat) (bs : List Bool) (a : Option Addr) (c : Nat) (W : World) (h : WrIs W wb true bs a c) (pc ab n cap wd : Nat) (xs : List Nat) (hn : xs.length = n) (hrow : RowOf W (some ⟨ab, 0, none⟩) (xs.map intV)) (hab : ¬ WrS wb a ab) (hcell : W.cell? ⟨pc, 0, none⟩ = some (.pointer (some ⟨wb, 0, none⟩))) (hpc : ¬ WrS wb a pc) (hlen : bs.length ≤ 100000000) (hw : wd ≤ 32) (hn8 : n ≤ 8) (hx : ∀ x ∈ xs, x < 4294967296 ∧ x < 2 ^ wd) :
    Calls Try.prog 27 #[.int .i64 wd, .slice (some ⟨ab, 0, none⟩) n cap, .pointer (some ⟨pc, 0, none⟩)] W (PutcTo wb a (bs ++ numsB xs wd) W) := by
  have HX := Lib.hid hx
  have HN := Lib.hid hn
  have hablt : 0 < n → ab < W.heap.size := fun hp => by
    obtain ⟨b, o, e, hc⟩ := hrow 0 (intV (xs[0]'(by omega))) (by rw [List.getElem?_map, List.getElem?_eq_getElem (by omega)]; rfl)
    cases e
    exact World.block_lt_of_cell? W _ hc
  have hpclt := World.block_lt_of_cell? W _ hcell
  clear hx hn
  go_enter Try.func27, Try.ntmps27
  go_wp2_with fail
  go_loopw [6, 9] (fun _ i W' => ∃ (k : Nat) (wa : Option Addr) (wc : Nat), k ≤ n ∧ i = .int .i64 k ∧ WrIs W' wb true (bs ++ numsB (xs.take k) wd) wa wc ∧ Ext (WrS wb a) W W' ∧ Hid (∀ g, wa = some g → a = some g ∨ W.heap.size ≤ g.block)) (fun _ i _ => n - (intOf i).toNat)
  case atStart => exact ⟨0, a, c, Nat.zero_le _, rfl, by simpa [numsB] using h, Ext.refl _ _, Lib.hid (fun g hg => Or.inl hg)⟩
  case round =>
    obtain ⟨k, wa, wc, hk, rfl, hW, hE, hf⟩ := hrel
    by_cases hlt : k < n
    · have hki : (k : Int) < (n : Int) := by omega
      have hkx : k < xs.length := by rw [HN.out]; exact hlt
      obtain ⟨x, hxx⟩ : ∃ x, x = xs[k] := ⟨_, rfl⟩
      obtain ⟨b, o, e, hc⟩ := hrow k (intV x) (by rw [List.getElem?_map, List.getElem?_eq_getElem hkx, hxx]; rfl)
      cases e
      have hc2 : wr.cell? ⟨ab, k, none⟩ = some (.int .i64 x) := hE.cell_some (by rw [Nat.zero_add] at hc; exact hc) hab
      have hp2 : wr.cell? ⟨pc, 0, none⟩ = some (.pointer (some ⟨wb, 0, none⟩)) := hE.cell_some hcell hpc
      have hx1 := HX.out x (hxx ▸ List.getElem_mem hkx)
      have hln : (bs ++ numsB (xs.take k) wd).length ≤ 100000256 := by
        rw [List.length_append, numsB_len, List.length_take]
        have : min k xs.length * wd ≤ 8 * 32 := Nat.mul_le_mul (by omega) hw
        omega
      have HS : Hid (bs ++ numsB (xs.take k) wd ++ bitsNum true x wd = bs ++ numsB (xs.take (k + 1)) wd) := Lib.hid (by rw [numsB_take_at (List.getElem?_eq_getElem hkx), hxx, List.append_assoc]; rfl)
      have HPut := Lib.hid (put_yes wb true _ wa wc x wd wr hW (by omega) hw hx1.1 hx1.2)
      have hu : IntKind.u32.wrap (x : Int) = (x : Int) := IntWalk.u32_in _ (by omega)
      have hx32 := hx1.1
      clear hc hkx hxx hx1 hln hW
      go_wp2_with fail
      refine HPut.out.mono ?_
      rintro e w5 ⟨rfl, wa5, wc5, hW5, hE5, hf5⟩
      rw [HS.out] at hW5
      obtain ⟨hX5, hF5⟩ := wrs_trans hE hf.out hE5 hf5
      clear HPut hE5 hf5 hc2 hp2
      go_wp2_with fail
      go_roundw
      case rel => exact ⟨k + 1, wa5, wc5, by omega, by go_num, hW5, hX5, Lib.hid hF5⟩
      case measure => simp [intOf]; omega
    · have hki : ¬ (k : Int) < (n : Int) := by omega
      obtain rfl : n = k := by omega
      rw [List.take_of_length_le (by rw [HN.out]; omega)] at hW
      go_wp2_with fail
      go_end0
      exact ⟨rfl, wa, wc, hW, hE, hf.out⟩
/-- the closure put, on a writer of the call's own -/
theorem wsputc {w0 W : World} {wb : Nat} {bs : List Bool} (h : WSt w0 wb bs W) (pc ab n cap wd : Nat) (xs : List Nat) (C : Array Value) (hC : C = (xs.map intV).toArray) (habq : W.heap.size = ab) (hn : xs.length = n) (hcell : w0.cell? ⟨pc, 0, none⟩ = some (.pointer (some ⟨wb, 0, none⟩))) (hpc : pc ≠ wb) (hlen : bs.length ≤ 100000000) (hw : wd ≤ 32) (hn8 : n ≤ 8) (hx : ∀ x ∈ xs, x < 4294967296 ∧ x < 2 ^ wd) :
    Calls Try.prog 27 #[.int .i64 wd, .slice (some ⟨ab, 0, none⟩) n cap, .pointer (some ⟨pc, 0, none⟩)] (W.alloc (.cells C 3)) (DoneTo w0 wb (bs ++ numsB xs wd)) := by
  obtain ⟨wa, wc, hW, hX, hf, hb⟩ := h
  have hpl := World.block_lt_of_cell? w0 _ hcell
  have hwl := hW.lt
  have hbl := hW.blk.lt
  refine (putc_any wb bs wa wc _ (hW.pure (ext_alloc W (.cells C 3))) pc ab n cap wd xs hn (row_at _ habq hC) ?_ (((hX.alloc _).cell_some hcell (fun e => hpc e))) ?_ hlen hw hn8 hx).mono ?_
  · rintro (e | ⟨g, hg, e⟩)
    · omega
    · have := hwl g hg; omega
  · rintro (e | ⟨g, hg, e⟩)
    · exact hpc e
    · have := hf g hg; simp only at hpl; omega
  · rintro e W' ⟨rfl, a', c', hW', hE, hf'⟩
    refine ⟨rfl, a', c', hW', (hX.alloc _).trans hE (fun i hi e => ?_), fun g hg => ?_, hb⟩
    · rcases e with e | ⟨g, hg, e⟩
      · exact e
      · have := hf g hg; omega
    · rcases hf' g hg with e | e
      · exact hf g e
      · exact Nat.le_trans (hX.alloc (.cells C 3)).size e
end Go.Proofs.Ytdhejhgpjeenaaa
