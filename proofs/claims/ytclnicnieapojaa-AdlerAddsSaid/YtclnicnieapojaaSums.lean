/-
  The walks: adler.Sum, (*Sum32).Add, Value, Len, and the document's Sum.
-/
import Derived.Test.YtclnicnieapojaaTake
namespace Go.Proofs.Ytclnicnieapojaa
set_option linter.unusedVariables false
open Go.RowKit

theorem sum_any (ad : Option Addr) (cap : Nat) (l : List UInt8) (w : World) (hl : l.length ≤ cap) (hcap : (cap : Int) ≤ 9223372036854775807) (hc : Bytes w ad l) :
    Calls Try.prog 7 #[.slice ad l.length cap] w fun e w' => e = .returned (.int .u32 (sumOf (run l))) ∧ Pure w w' := by
  go_enter Try.func7, Try.ntmps7
  go_wp2_with fail
  refine (take_any w.heap.size [] 30 (1, 0) (by unfold InR; decide) ad cap l _ hl hcap (BlockIs.new w _ _) ?_).mono ?_
  · intro i hi
    obtain ⟨b, o, h1, h2⟩ := hc i hi
    exact ⟨b, o, h1, ((Ext.refl (fun _ => False) w).alloc _).cell_some h2 id⟩
  rintro e w1 ⟨rfl, hB, hE⟩
  go_wp2_with fail
  refine (value_any w.heap.size [] _ _ (runFrom_in _ (by unfold InR; decide) l) w1 hB).mono ?_
  rintro e w2 ⟨rfl, n, rfl⟩
  go_wp2_with fail
  go_ret
  exact ⟨rfl, Ext.drewN (((Ext.refl _ w).alloc _).trans hE (fun i hi e => by omega)) n⟩

theorem refSum_any (ad : Option Addr) (cap : Nat) (l : List UInt8) (w : World) (hl : l.length ≤ cap) (hcap : (cap : Int) ≤ 9223372036854775807) (hc : Bytes w ad l) :
    Calls Try.prog 8 #[.slice ad l.length cap] w fun e w' => e = .returned (.int .u32 (sumOf (run l))) ∧ w = w' := by
  go_enter Try.func8, Try.ntmps8
  go_wp2
  go_loop [3, 4, 5] (fun x y i => ∃ k : Nat, k ≤ l.length ∧ i = .int .i64 k ∧ x = .int .i64 (run (l.take k)).1 ∧ y = .int .i64 (run (l.take k)).2) (fun _ _ i => l.length - (intOf i).toNat)
  case atStart => exact ⟨0, Nat.zero_le _, rfl, rfl, rfl⟩
  case round =>
    obtain ⟨k, hk, rfl, rfl, rfl⟩ := hrel
    by_cases hlt : k < l.length
    · obtain ⟨b, o, rfl, hcell⟩ := hc k hlt
      have hs : run (l.take (k + 1)) = st (run (l.take k)) (l.getD k 0) := by
        rw [List.take_add_one, List.getElem?_eq_getElem hlt, Option.toList, run_append]; simp [runFrom, hlt]
      have hb := run_in (l.take k)
      unfold InR at hb
      have hx : (0 : Int) ≤ ((l.getD k 0).toNat : Int) ∧ ((l.getD k 0).toNat : Int) ≤ 255 := ⟨by omega, by have := (l.getD k 0).toNat_lt; omega⟩
      simp only [st] at hs
      have h1 := congrArg Prod.fst hs
      have h2 := congrArg Prod.snd hs
      simp only at h1 h2
      clear hs
      unfold byV at hcell
      generalize (run (l.take k)).1 = A at *
      generalize (run (l.take k)).2 = B at *
      generalize ((l.getD k 0).toNat : Int) = x at *
      have H1 := Lib.hid h1; have H2 := Lib.hid h2; clear h1 h2
      go_wp2
      go_round
      case rel => exact ⟨k + 1, by omega, by go_num, by rw [H1.out], by rw [H2.out]⟩
      case measure => simp [intOf]; omega
    · have hb := run_in l
      unfold InR at hb
      rw [List.take_of_length_le (by omega)]
      have hp : sumOf (run l) = 65536 * (run l).2 + (run l).1 := rfl
      have HP := Lib.hid hp; clear hp
      generalize hA : (run l).1 = A at *
      generalize hB : (run l).2 = B at *
      have HA := Lib.hid hA; have HB := Lib.hid hB; clear hA hB
      go_wp2
      go_ret
      exact ⟨by rw [HP.out]; rfl, rfl⟩

/-- the sum of bytes that come, and how many there were -/
def Sum32Is (w : World) (b : Nat) (l : List UInt8) : Prop := BlockIs w b [.int .u32 (((run l).1 + 65520) % 65521), .int .u32 (run l).2, .int .i64 l.length] 32

theorem valueNil_any (w : World) : Calls Try.prog 11 #[.pointer none] w fun e w' => e = .returned (.int .u32 1) ∧ w = w' := by
  go_enter Try.func11, Try.ntmps11
  go_wp2_with fail
  go_ret
  exact ⟨rfl, rfl⟩
theorem lenNil_any (w : World) : Calls Try.prog 12 #[.pointer none] w fun e w' => e = .returned (.int .i64 0) ∧ w = w' := by
  go_enter Try.func12, Try.ntmps12
  go_wp2_with fail
  go_ret
  exact ⟨rfl, rfl⟩
theorem addNil_any (v : Value) (w : World) : Calls Try.prog 10 #[.pointer none, v] w fun e w' => e = .returned (.tuple #[]) ∧ w = w' := by
  go_enter Try.func10, Try.ntmps10
  go_wp2_with fail
  refine bodyPost_ret (results_none rfl _ _ _) rfl ?_
  exact ⟨rfl, rfl⟩
theorem value32_any (b : Nat) (l : List UInt8) (w : World) (h : Sum32Is w b l) :
    Calls Try.prog 11 #[.pointer (some ⟨b, 0, none⟩)] w fun e w' => e = .returned (.int .u32 (sumOf (run l))) ∧ ∃ n, w' = w.drewN n := by
  go_enter Try.func11, Try.ntmps11
  go_wp2_with fail
  refine (value_any b _ _ (run l) (run_in l) w h).mono ?_
  rintro e w1 ⟨rfl, n, rfl⟩
  go_wp2_with fail
  go_ret
  exact ⟨rfl, n, rfl⟩
theorem len32_any (b : Nat) (l : List UInt8) (w : World) (h : Sum32Is w b l) :
    Calls Try.prog 12 #[.pointer (some ⟨b, 0, none⟩)] w fun e w' => e = .returned (.int .i64 l.length) ∧ w = w' := by
  have h2 : w.cell? ⟨b, 0 + 2, none⟩ = some (.int .i64 l.length) := BlockIs.cell h 2
  go_enter Try.func12, Try.ntmps12
  go_wp2_with fail
  go_ret
  exact ⟨rfl, rfl⟩

/-- a slice of slices of bytes: of each its address, its capacity, its bytes -/
abbrev Part := Option Addr × Nat × List UInt8
def PartIs (w : World) (p : Part) (v : Value) : Prop := v = .slice p.1 p.2.2.length p.2.1 ∧ p.2.2.length ≤ p.2.1 ∧ (p.2.1 : Int) ≤ 9223372036854775807 ∧ Bytes w p.1 p.2.2
def PartsAt (w : World) (ad : Option Addr) (ps : List Part) : Prop := ∀ i (h : i < ps.length), ∃ b o v, ad = some ⟨b, o, none⟩ ∧ w.cell? ⟨b, o + i, none⟩ = some v ∧ PartIs w ps[i] v
def bytesOf (ps : List Part) : List UInt8 := (ps.map (fun p => p.2.2)).flatten

theorem bytesOf_append (a b : List Part) : bytesOf (a ++ b) = bytesOf a ++ bytesOf b := by simp [bytesOf]
theorem bytesOf_succ (ps : List Part) (k : Nat) (hlt : k < ps.length) : bytesOf (ps.take (k + 1)) = bytesOf (ps.take k) ++ ps[k].2.2 := by
  rw [List.take_add_one, List.getElem?_eq_getElem hlt, bytesOf_append]; simp [bytesOf]
theorem bytesOf_split (ps : List Part) (k : Nat) : (bytesOf ps).length = (bytesOf (ps.take k)).length + (bytesOf (ps.drop k)).length := by
  rw [← List.length_append, ← bytesOf_append, List.take_append_drop]

set_option maxHeartbeats 400000 in
theorem add_any (sb : Nat) (l : List UInt8) (ad : Option Addr) (cap : Nat) (ps : List Part) (w : World) (hB : Sum32Is w sb l) (hn : (ps.length : Int) ≤ 9223372036854775807)
    (hp : ∀ w', Ext (fun i => i = sb) w w' → PartsAt w' ad ps) (hlen : (l.length : Int) + (bytesOf ps).length ≤ 9223372036854775807) :
    Calls Try.prog 10 #[.pointer (some ⟨sb, 0, none⟩), .slice ad ps.length cap] w fun e w' => e = .returned (.tuple #[]) ∧ Sum32Is w' sb (l ++ bytesOf ps) ∧ Ext (fun i => i = sb) w w' := by
  go_enter Try.func10, Try.ntmps10
  go_wp2_with fail
  go_loopw [10] (fun i wr => ∃ k : Nat, k ≤ ps.length ∧ i = .int .i64 k ∧ Sum32Is wr sb (l ++ bytesOf (ps.take k)) ∧ Ext (fun i => i = sb) w wr) (fun i _ => ps.length - (intOf i).toNat)
  case atStart => exact ⟨0, Nat.zero_le _, rfl, by simpa [bytesOf] using hB, Ext.refl _ _⟩
  case round =>
    obtain ⟨k, hk, rfl, hB1, hE⟩ := hrel
    by_cases hlt : k < ps.length
    · obtain ⟨b, o, v, rfl, hcell, rfl, hl, hc, hbytes⟩ := hp _ hE k hlt
      have hs := bytesOf_succ ps k hlt
      have hs2 := bytesOf_split ps (k + 1)
      rw [hs, List.length_append] at hs2
      have hlen' : ((l.length : Int) + (bytesOf (ps.take k)).length + ps[k].2.2.length) ≤ 9223372036854775807 := by omega
      have HS := Lib.hid hs
      clear hs hs2
      go_wp2_with fail
      refine (take_any sb _ _ (run (l ++ bytesOf (ps.take k))) (run_in _) _ _ _ _ hl hc hB1 hbytes).mono ?_
      rintro e w2 ⟨rfl, hB2, hE2⟩
      have h2 : w2.cell? ⟨sb, 0 + 2, none⟩ = some (.int .i64 (l ++ bytesOf (ps.take k)).length) := hB2.cell 2
      have f2 : w2.frozen? ⟨sb, 0 + 2, none⟩ = false := hB2.free 2
      have hB3 := hB2.set 2 (.int .i64 ((l.length : Int) + (bytesOf (ps.take k)).length + ps[k].2.2.length : Int))
      have hE3 := (hE.trans hE2 (fun _ _ e => e)).setCell (p := ⟨sb, 2, none⟩) (fun _ => rfl) (.int .i64 ((l.length : Int) + (bytesOf (ps.take k)).length + ps[k].2.2.length : Int))
      clear hE2 hB2 hB1 hE
      go_wp2_with fail
      go_roundw
      case rel =>
        refine ⟨k + 1, by omega, by go_num, ?_, hE3⟩
        unfold Sum32Is
        rw [HS.out, ← List.append_assoc, run_append]
        have e : (((l ++ bytesOf (ps.take k) ++ ps[k].2.2).length : Nat) : Int) = (l.length : Int) + (bytesOf (ps.take k)).length + ps[k].2.2.length := by simp; omega
        rw [e]
        exact hB3
      case measure => simp [intOf]; omega
    · go_wp2_with fail
      go_end0
      rw [List.take_of_length_le (by omega)] at hB1
      exact ⟨rfl, hB1, hE⟩
end Go.Proofs.Ytclnicnieapojaa
