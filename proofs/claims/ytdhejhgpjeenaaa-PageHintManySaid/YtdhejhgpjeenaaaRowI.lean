/-
  Walked: row, of shared numbers.
-/
import Derived.Test.YtdhejhgpjeenaaaRowW
namespace Go.Proofs.Ytdhejhgpjeenaaa
open Go.RowKit C26
set_option linter.unusedVariables false

set_option maxHeartbeats 2000000 in
set_option maxRecDepth 100000 in
theorem row_int (ad : Option Addr) (c n : Nat) (LS : List Nat) (w0 W : World) (wb : Nat) (bs : List Bool) (wv : Nat) (hRow : RowOf w0 ad (LS.map intV)) (had : ∀ g, ad = some g → g.block ≠ wb) (hn : n ≤ 65536) (hlst : LS.length = n) (hS : WSt w0 wb bs W) (hlen : bs.length ≤ 1000000) (hx : ∀ x ∈ LS, x ≤ 4095 ∧ x < 2 ^ wv) (hwl : wv ≤ 32) :
    Calls Try.prog 32 #[.pointer (some ⟨wb, 0, none⟩), .slice ad n c, .int .i64 wv, .func (.func 33) #[] #[]] W (DoneTo w0 wb (align (bs ++ numsB LS wv))) := by
  have HLL := Lib.hid hlst
  have HX := Lib.hid hx
  have HId := Lib.hid (fun (x : Int) W => id_any x W)
  clear hlst hx
  go_enter Try.func32, Try.ntmps32
  go_wp2_with fail
  go_loopw [9, 12] (fun _ i W' => ∃ k : Nat, k ≤ n ∧ i = .int .i64 k ∧ WSt w0 wb (bs ++ numsB (LS.take k) wv) W') (fun _ i _ => n - (intOf i).toNat)
  case atStart => exact ⟨0, Nat.zero_le _, rfl, by simpa [numsB] using hS⟩
  case round =>
    obtain ⟨k, hk, rfl, hT⟩ := hrel
    clear hS
    have hlk2 : (bs ++ numsB (LS.take k) wv).length ≤ 1000000 + 65536 * 32 := by
      rw [List.length_append, numsB_len, List.length_take]
      have : min k LS.length * wv ≤ 65536 * 32 := Nat.mul_le_mul (by rw [HLL.out]; omega) hwl
      omega
    by_cases hlt : k < n
    · have hki : (k : Int) < (n : Int) := by omega
      have hkx : k < LS.length := by rw [HLL.out]; exact hlt
      obtain ⟨d, hdd⟩ : ∃ d, d = LS[k] := ⟨_, rfl⟩
      obtain ⟨b, o, rfl, hc⟩ := (hRow.ext hT.ext (fun g hg e => had g hg e)) k (intV d) (by rw [List.getElem?_map, List.getElem?_eq_getElem hkx, hdd]; rfl)
      have hc2 : wr.cell? ⟨b, o + k, none⟩ = some (.int .i64 d) := hc
      have hd : LS[k]? = some d := by rw [List.getElem?_eq_getElem hkx, hdd]
      have hd1 := HX.out d (hdd ▸ List.getElem_mem hkx)
      have hd2 : d ≤ 4095 := hd1.1
      have HS2 : Hid (bs ++ numsB (LS.take k) wv ++ bN d wv = bs ++ numsB (LS.take (k + 1)) wv) := Lib.hid (by rw [numsB_take_at hd, List.append_assoc])
      have HPut := Lib.hid (fun W'' (hP : Pure wr W'') => wsput (hT.later hP) d wv (by omega) (by omega) (by omega) hd1.2)
      have hu : IntKind.u32.wrap (d : Int) = (d : Int) := IntWalk.u32_in _ (by omega)
      clear hd hd1 hT hc hkx hdd hlk2
      go_wp2_with fail
      refine (HId.out (d : Int) _).mono ?_
      rintro e w3 ⟨rfl, hP3⟩
      go_wp2_with fail
      refine (HPut.out _ hP3).mono ?_
      rintro e w4 ⟨rfl, hT4⟩
      rw [HS2.out] at hT4
      clear HPut
      go_wp2_with fail
      go_roundw
      case rel => exact ⟨k + 1, by omega, by go_num, hT4⟩
      case measure => simp [intOf]; omega
    · have hki : ¬ (k : Int) < (n : Int) := by omega
      obtain rfl : n = k := by omega
      have hf : bs ++ numsB (LS.take n) wv = bs ++ numsB LS wv := by rw [List.take_of_length_le (by rw [HLL.out]; omega)]
      rw [hf] at hT hlk2
      have HA := Lib.hid (wsalign hT (by omega))
      clear hf hT
      go_wp2_with fail
      refine HA.out.mono ?_
      rintro e w4 ⟨rfl, hT4⟩
      go_wp2_with fail
      go_end0
      exact ⟨rfl, hT4⟩
end Go.Proofs.Ytdhejhgpjeenaaa
