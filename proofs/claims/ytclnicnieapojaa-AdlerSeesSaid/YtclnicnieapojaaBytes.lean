/-
  The walks: adler.Bytes, the document's Bytes, adler.Value.
-/
import Derived.Test.YtclnicnieapojaaWorks
import Derived.Deep.RegionWith
namespace Go.Proofs.Ytclnicnieapojaa
open Go.RowKit
set_option linter.unusedVariables false

/-- a sum's bytes, the highest first -/
def cells4 (x : Int) : Array Value := #[.int .u8 (x / 16777216), .int .u8 (x / 65536 % 256), .int .u8 (x / 256 % 256), .int .u8 (x % 256)]

theorem refBytes_any (x : Int) (w : World) (h0 : 0 ≤ x) (h1 : x < 4294967296) :
    Calls Try.prog 15 #[.int .u32 x] w fun e w' => e = .returned (.slice (some ⟨w.heap.size, 0, none⟩) 4 4) ∧ w' = w.alloc (.cells (cells4 x) 5) := by
  go_enter Try.func15, Try.ntmps15
  go_wp2_with fail
  go_ret
  exact ⟨rfl, rfl⟩
theorem bytes_any (x : Int) (w : World) (h0 : 0 ≤ x) (h1 : x < 4294967296) :
    Calls Try.prog 14 #[.int .u32 x] w fun e w' => e = .returned (.slice (some ⟨w.heap.size, 0, none⟩) 4 4) ∧ w' = w.alloc (.cells (cells4 x) 5) := by
  go_enter Try.func14, Try.ntmps14
  go_wp2_with fail
  go_ret
  exact ⟨rfl, rfl⟩

/-- what four bytes say -/
def valOf (l : List UInt8) : Int := l.foldl (fun x c => x * 256 + c.toNat) 0
theorem valOf_snoc (l : List UInt8) (c : UInt8) : valOf (l ++ [c]) = valOf l * 256 + c.toNat := by simp [valOf]
theorem valOf_bd (l : List UInt8) : 0 ≤ valOf l ∧ valOf l < 256 ^ l.length := by
  have key : ∀ k, k ≤ l.length → 0 ≤ valOf (l.take k) ∧ valOf (l.take k) < 256 ^ k := by
    intro k
    induction k with
    | zero => intro _; simp [valOf]
    | succ k ih =>
      intro hk
      have := ih (by omega)
      rw [List.take_add_one, List.getElem?_eq_getElem (show k < l.length by omega), Option.toList, valOf_snoc, Int.pow_succ]
      have hx := (l[k]'(by omega)).toNat_lt
      omega
  have := key l.length (Nat.le_refl _)
  rwa [List.take_of_length_le (Nat.le_refl _)] at this

theorem value_no (ad : Option Addr) (cap n : Nat) (w : World) (h : ((n : Int) == 4) = false) (hn : (n : Int) ≤ 9223372036854775807) :
    Calls Try.prog 13 #[.slice ad n cap] w fun e w' => e = .returned (.tuple #[.int .u32 0, .int .i64 11]) ∧ w = w' := by
  have h' : ((n : Int) != 4) = true := by simp [bne, h]
  go_enter Try.func13, Try.ntmps13
  go_wp2_with fail
  go_ret2
  exact ⟨rfl, rfl⟩

theorem value_four (ad : Option Addr) (cap : Nat) (l : List UInt8) (w : World) (h4 : l.length = 4) (hb : Bytes w ad l) :
    Calls Try.prog 13 #[.slice ad 4 cap] w fun e w' => e = .returned (.tuple #[.int .u32 (valOf l), .int .i64 0]) ∧ w = w' := by
  have H4 := Lib.hid h4
  go_enter Try.func13, Try.ntmps13
  clear h4
  go_wp2_with fail
  go_loop [4, 12] (fun x i => ∃ k : Nat, k ≤ 4 ∧ i = .int .i64 k ∧ x = .int .u32 (valOf (l.take k))) (fun _ i => 4 - (intOf i).toNat)
  case atStart => exact ⟨0, by omega, rfl, rfl⟩
  case round =>
    obtain ⟨k, hk, rfl, rfl⟩ := hrel
    by_cases hlt : k < 4
    · obtain ⟨b, o, rfl, hcell⟩ := hb k (by rw [H4.out]; exact hlt)
      have hkl : k < l.length := by rw [H4.out]; exact hlt
      have hs : valOf (l.take (k + 1)) = valOf (l.take k) * 256 + (l.getD k 0).toNat := by
        rw [List.take_add_one, List.getElem?_eq_getElem hkl, Option.toList, valOf_snoc]; simp [hkl]
      have hbd := valOf_bd (l.take k)
      rw [show (l.take k).length = k from by simp; omega] at hbd
      have hbd2 : (256 : Int) ^ k ≤ 16777216 := by
        have : k = 0 ∨ k = 1 ∨ k = 2 ∨ k = 3 := by omega
        rcases this with rfl | rfl | rfl | rfl <;> decide
      have hx : (0 : Int) ≤ ((l.getD k 0).toNat : Int) ∧ ((l.getD k 0).toNat : Int) ≤ 255 := ⟨by omega, by have := (l.getD k 0).toNat_lt; omega⟩
      have h1 : 0 ≤ valOf (l.take k) ∧ valOf (l.take k) < 16777216 := by omega
      clear hbd hbd2 hkl
      unfold byV at hcell
      generalize ((l.getD k 0).toNat : Int) = x at *
      generalize valOf (l.take k) = A at *
      have hor := u32_or_shift 8 A x h1.1 hx.1 (by simp; omega) (by simp; omega) (by omega)
      simp only [Int.reducePow] at hor
      rw [← hor] at hs
      have HS := Lib.hid hs; clear hs hor
      go_wp2_with fail
      go_round
      case rel => exact ⟨k + 1, by omega, by go_num, by rw [HS.out]⟩
      case measure => simp [intOf]; omega
    · rw [List.take_of_length_le (by rw [H4.out]; omega)]
      go_wp2_with fail
      go_ret2
      exact ⟨rfl, rfl⟩

def toB (n : Int) : UInt8 := UInt8.ofNat n.toNat
theorem toB_toNat {n : Int} (h0 : 0 ≤ n) (h1 : n < 256) : ((toB n).toNat : Int) = n := by
  obtain ⟨m, rfl⟩ := Int.eq_ofNat_of_zero_le h0
  unfold toB
  rw [Int.toNat_natCast, UInt8.toNat_ofNat']
  omega
def bytes4 (x : Int) : List UInt8 := [toB (x / 16777216), toB (x / 65536 % 256), toB (x / 256 % 256), toB (x % 256)]
theorem cells4_eq (x : Int) (h0 : 0 ≤ x) (h1 : x < 4294967296) : cells4 x = ((bytes4 x).map byV).toArray := by
  simp only [cells4, bytes4, byV, List.map, toB_toNat (show 0 ≤ x / 16777216 by omega) (by omega), toB_toNat (show 0 ≤ x / 65536 % 256 by omega) (by omega), toB_toNat (show 0 ≤ x / 256 % 256 by omega) (by omega), toB_toNat (show 0 ≤ x % 256 by omega) (by omega)]
theorem valOf_bytes4 (x : Int) (h0 : 0 ≤ x) (h1 : x < 4294967296) : valOf (bytes4 x) = x := by
  simp only [valOf, bytes4, List.foldl, toB_toNat (show 0 ≤ x / 16777216 by omega) (by omega), toB_toNat (show 0 ≤ x / 65536 % 256 by omega) (by omega), toB_toNat (show 0 ≤ x / 256 % 256 by omega) (by omega), toB_toNat (show 0 ≤ x % 256 by omega) (by omega)]
  omega
theorem bytes4_valOf (l : List UInt8) (h : l.length = 4) : bytes4 (valOf l) = l := by
  match l, h with
  | [a, b, c, d], _ =>
    have ha := a.toNat_lt; have hb := b.toNat_lt; have hc := c.toNat_lt; have hd := d.toNat_lt
    have back : ∀ (u : UInt8) (n : Int), n = u.toNat → toB n = u := by
      intro u n e; subst e; unfold toB; rw [Int.toNat_natCast]; exact UInt8.ofNat_toNat
    simp only [valOf, List.foldl, bytes4]
    rw [back a _ (by omega), back b _ (by omega), back c _ (by omega), back d _ (by omega)]
def strB (l : List UInt8) : ByteArray := ⟨l.toArray⟩
abbrev str (l : List UInt8) : Value := .string (strB l)
/-- a row of bytes, as a string -/
theorem conv_str (w : World) (ad : Option Addr) (cap : Nat) (l : List UInt8) (h : 0 < l.length) (hb : Bytes w ad l) :
    (convert 22 9 (.slice ad l.length cap)).run Try.prog w = .ok (str l) w := by
  obtain ⟨b, o, rfl, _⟩ := hb 0 h
  refine run_convert_bytes_back w _ _ _ ⟨b, o, none⟩ cap l Try.underlying22 Try.underlying5 Try.underlying9 fun j hj => ?_
  obtain ⟨b', o', e, hc⟩ := hb j hj
  cases e
  have : (⟨b, o, none⟩ : Addr).add j = ⟨b, o + j, none⟩ := by unfold Addr.add; split <;> simp_all
  rw [this, hc]; simp [byV, List.getD_eq_getElem?_getD, hj]
theorem conv_len (w : World) (ad : Option Addr) (cap n : Nat) (l : List UInt8) (hn : l.length = n) (h : 0 < n) (hb : Bytes w ad l) :
    (convert 22 9 (.slice ad n cap)).run Try.prog w = .ok (str l) w := by
  subst hn; exact conv_str w ad cap l h hb
theorem bytes_of_alloc {w w' : World} {x : Int} (h0 : 0 ≤ x) (h1 : x < 4294967296) (h : w' = w.alloc (.cells (cells4 x) 5)) : Bytes w' (some ⟨w.heap.size, 0, none⟩) (bytes4 x) ∧ Pure w w' := by
  subst h; exact ⟨bytes_at _ rfl (cells4_eq x h0 h1), ext_alloc _ _⟩
theorem bytes_new_any (x : Int) (w : World) (h0 : 0 ≤ x) (h1 : x < 4294967296) :
    Calls Try.prog 14 #[.int .u32 x] w fun e w' => ∃ ad, e = .returned (.slice ad 4 4) ∧ Bytes w' ad (bytes4 x) ∧ Pure w w' :=
  (bytes_any x w h0 h1).mono fun _ _ ⟨he, hw⟩ => ⟨_, he, bytes_of_alloc h0 h1 hw⟩
theorem refBytes_new_any (x : Int) (w : World) (h0 : 0 ≤ x) (h1 : x < 4294967296) :
    Calls Try.prog 15 #[.int .u32 x] w fun e w' => ∃ ad, e = .returned (.slice ad 4 4) ∧ Bytes w' ad (bytes4 x) ∧ Pure w w' :=
  (refBytes_any x w h0 h1).mono fun _ _ ⟨he, hw⟩ => ⟨_, he, bytes_of_alloc h0 h1 hw⟩
end Go.Proofs.Ytclnicnieapojaa
