/-
  Walked: the reference's bits of a number, and the bytes of bits.
  Walked: the reference's number of bits.
  Walked: the reference's put, full, get, row (chapter 26).
  Walked: the reference's row of numbers (chapter 26).
  Walked: the reader that keeps the first error: num (chapter 26).
  Walked: the reference's put, full, get, row (chapter 27).
  Walked: the reference's row of numbers (chapter 27).
  Walked: the reader that keeps the first error: num (chapter 27).
  Plain: numbers that were put are found at their places (chapter 26).
  Plain: numbers that were put are found at their places (chapter 27).
  What came in: slices of whatever element, as rows of cells.
  What came in: a row of truths, a row of bytes.
  A single operation of a region that draws its order, walked as a list of one (for laws that speak of lists: append).
  Slices of elements of any size: copy into a row that is known whole, clear, append of a make, overlaps.
  The state of a call that lays bits one behind the other: its own row of bits, its boxed argument, all else as it was (chapter 26).
  The state of a call that lays bits one behind the other: its own row of bits, its boxed argument, all else as it was (chapter 27).
  Plain: how many bits a number has; walked: both ways to tell.
-/
import Derived.Test.YtomcdhljjmnahaaGreatLibBAOb
import Derived.OwnWalk
import Derived.Laws.OwnMore
import Derived.Test.YtomcdhljjmnahaaGreatRows
import Derived.ProofKit
import Derived.OpenShut
import Derived.ShutString
import Derived.ChangeOld
import Derived.Below
import Derived.Deep.Slices
import Derived.Laws.CopyOwn
import Derived.Lib.AppendZerosOnto
import Derived.Lib.AppendZeros
import Derived.Lib.Overlaps
import Derived.Laws.Externs
import Derived.Lib.Small
import Derived.Lib.BitFns
import Derived.Lib.Walk
import Derived.Lib.Strings
namespace Go.Proofs.YtomcdhljjmnahaaGreat
set_option linter.unusedVariables false
set_option linter.unusedSimpArgs false
open Go.RowKit
def lenOf : Value → Nat
  | .slice _ n _ => n
  | _ => 0
theorem own_blk {a : Option Addr} {n c i : Nat} (h : (Value.slice a n c).ownBlock = some i) : ∃ g, a = some g ∧ g.block = i := by
  cases a with
  | none => cases h
  | some y =>
    have e : some y.block = some i := h
    exact ⟨y, rfl, Option.some.inj e⟩
theorem bool_one (l : List Bool) : ∀ u ∈ l.map Value.bool, u.oneCell' = true := by intro u hu; obtain ⟨y, _, rfl⟩ := List.mem_map.1 hu; rfl
set_option maxRecDepth 100000 in
theorem number_no1 (x n : Int) (high : Bool) (w : World) (hn : n < 0 ∨ 32 < n) :
    Calls Tryz.prog 134 #[.int .u32 x, .int .i64 n, .bool high] w fun e w' => e = .returned (.tuple #[.slice none 0 0, .bool false]) ∧ w' = w := by
  rcases hn with hn | hn
  · go_enter Tryz.func134, Tryz.ntmps134
    go_wp2_with fail
    go_ret2
    exact ⟨rfl, rfl⟩
  · have h0 : ¬ n < 0 := by omega
    go_enter Tryz.func134, Tryz.ntmps134
    go_wp2_with fail
    go_ret2
    exact ⟨rfl, rfl⟩
set_option maxRecDepth 100000 in
theorem number_no2 (x n : Nat) (high : Bool) (w : World) (hn : n ≤ 32) (hx : x < 4294967296) (hxn : 2 ^ n ≤ x) :
    Calls Tryz.prog 134 #[.int .u32 x, .int .i64 n, .bool high] w fun e w' => e = .returned (.tuple #[.slice none 0 0, .bool false]) ∧ w' = w := by
  have h0 : ¬ (n : Int) < 0 := by omega
  have h1 : ¬ (32 : Int) < (n : Int) := by omega
  have HX := Lib.hid hxn
  clear hxn
  go_enter Tryz.func134, Tryz.ntmps134
  go_wp2_with fail
  go_loopw [8] (fun i w' => ∃ k : Nat, n ≤ k ∧ k ≤ 32 ∧ i = .int .i64 k ∧ (∀ j, n ≤ j → j < k → x.testBit j = false) ∧ w' = w) (fun i _ => 32 - (intOf i).toNat)
  case atStart => exact ⟨n, Nat.le_refl _, hn, rfl, fun j h1 h2 => (by omega), rfl⟩
  case round =>
    obtain ⟨k, hk1, hk, rfl, hall, hw⟩ := hrel
    obtain rfl := hw.symm
    have HA := Lib.hid hall
    clear hall
    by_cases hlt : k < 32
    · have hki : (k : Int) < 32 := by omega
      have HB := Lib.hid (refbit_any x k w hx (by omega))
      obtain ⟨β, hβ⟩ : ∃ β, β = x.testBit k := ⟨_, rfl⟩
      rw [← hβ] at HB
      cases β with
      | false =>
        have HV := Lib.hid hβ
        clear hβ
        go_wp2_with fail
        refine HB.out.mono ?_
        rintro e w2 ⟨rfl, hw2⟩
        obtain rfl := hw2.symm
        go_wp2_with fail
        go_roundw
        case rel => exact ⟨k + 1, by omega, by omega, by go_num, fun j h1 h2 => (by by_cases e : j = k; · rw [e]; exact HV.out.symm
                                                                                    exact HA.out j h1 (by omega)), by first | rfl | trivial⟩
        case measure => simp [intOf]; omega
      | true =>
        clear hβ
        go_wp2_with fail
        refine HB.out.mono ?_
        rintro e w2 ⟨rfl, hw2⟩
        obtain rfl := hw2.symm
        go_wp2_with fail
        go_ret2
        exact ⟨rfl, rfl⟩
    · exact absurd (high_none x n hx (fun j h1 h2 => HA.out j h1 (by omega))) (by have := HX.out; omega)
set_option maxHeartbeats 2000000 in
set_option maxRecDepth 100000 in
theorem number_yes (x n : Nat) (high : Bool) (w : World) (hn : n ≤ 32) (hx : x < 4294967296) (hxn : x < 2 ^ n) :
    Calls Tryz.prog 134 #[.int .u32 x, .int .i64 n, .bool high] w fun e w' => ∃ a c, e = .returned (.tuple #[.slice a n c, .bool true]) ∧ w'.ownsRow w.heap.size 4 1 (.slice a n c) n ((bitsNum high x n).map Value.bool) ∧ Pure w w' := by
  have h0 : ¬ (n : Int) < 0 := by omega
  have h1 : ¬ (32 : Int) < (n : Int) := by omega
  have HX := Lib.hid hxn
  clear hxn
  go_enter Tryz.func134, Tryz.ntmps134
  go_wp2_with fail
  go_loopw [8] (fun i w' => ∃ k : Nat, n ≤ k ∧ k ≤ 32 ∧ i = .int .i64 k ∧ w' = w) (fun i _ => 32 - (intOf i).toNat)
  case atStart => exact ⟨n, Nat.le_refl _, hn, rfl, rfl⟩
  case round =>
    obtain ⟨k, hk1, hk, rfl, hw⟩ := hrel
    obtain rfl := hw.symm
    by_cases hlt : k < 32
    · have hki : (k : Int) < 32 := by omega
      have HB := Lib.hid (refbit_any x k w hx (by omega))
      rw [show x.testBit k = false from Nat.testBit_lt_two_pow (Nat.lt_of_lt_of_le HX.out (Nat.pow_le_pow_right (by decide) hk1))] at HB
      go_wp2_with fail
      refine HB.out.mono ?_
      rintro e w2 ⟨rfl, hw2⟩
      obtain rfl := hw2.symm
      go_wp2_with fail
      go_roundw
      case rel => exact ⟨k + 1, by omega, by omega, by go_num, by first | rfl | trivial⟩
      case measure => simp [intOf]; omega
    · have hki : ¬ (k : Int) < 32 := by omega
      go_wp2_with fail
      go_loopw [9, 10] (fun v i w' => ∃ (k : Nat) (a : Option Addr) (c : Nat), k ≤ n ∧ i = .int .i64 k ∧ v = .slice a k c ∧ w'.ownsRow w.heap.size 4 1 v k (((bitsNum high x n).take k).map Value.bool) ∧ Pure w w') (fun _ i _ => n - (intOf i).toNat)
      case atStart => exact ⟨0, none, 0, Nat.zero_le _, rfl, rfl, World.ownsRow_nil _ _ _ _, Ext.refl _ _⟩
      case round =>
        obtain ⟨j, a, c, hj, rfl, rfl, hown, hE⟩ := hrel
        by_cases hjn : j < n
        · have hji : (j : Int) < (n : Int) := by omega
          have HS := Lib.hid (bitsNum_take high x n j hjn)
          cases high with
          | true =>
            obtain ⟨t, ht⟩ : ∃ t : Nat, t = n - 1 - j := ⟨_, rfl⟩
            have hz : (n : Int) - 1 - (j : Int) = (t : Int) := by omega
            have hz' : IntKind.i64.wrap (t : Int) = (t : Int) := IntWalk.i64_in _ (by omega)
            have hS := HS.out
            rw [show turn true j n = t from ht ▸ rfl] at hS
            have HS2 := Lib.hid hS
            have HB := Lib.hid (fun w => refbit_any x t w hx (by omega))
            clear HS hS ht
            go_wp2_with fail
            refine (HB.out _).mono ?_
            rintro e w2 ⟨rfl, hw2⟩
            obtain rfl := hw2.symm
            go_wp2_with (at_builtin; refine wpList_append_fresh rfl (.tmp 31) (.tmp 38) 142 rfl w.heap.size 4 (.bool false) 1 1 Tryz.underlying142 infoBool rfl (by decide) _ j (((bitsNum true x n).take j).map Value.bool) rfl (hown.alloc _) (some ⟨wr.heap.size, 0, none⟩) 1 1 [.bool (x.testBit t)] rfl (fun e => by cases e) rfl (row_at _ rfl rfl) (fun u hu => by simp at hu; subst hu; rfl) (j + 1) rfl (((bitsNum true x n).take (j + 1)).map Value.bool) (by rw [HS2.out]; simp) (by omega) (by unfold maxLen; omega) (by have := hE.size; simp; omega) ?_)
            intro a2 c2 w3 hO3 hg3 hfr3
            have hE3 : Pure w w3 := Ext.own (hE.alloc _) (hown.alloc _) hg3
            clear hE hown hg3 hfr3 HB HS2
            go_wp2_with fail
            go_roundw
            case rel => exact ⟨j + 1, a2, c2, by omega, by go_num, rfl, by rw [List.map_take]; exact hO3, hE3⟩
            case measure => simp [intOf]; omega
          | false =>
            have hS := HS.out
            rw [show turn false j n = j from rfl] at hS
            have HS2 := Lib.hid hS
            have HB := Lib.hid (fun w => refbit_any x j w hx (by omega))
            clear HS hS
            go_wp2_with fail
            refine (HB.out _).mono ?_
            rintro e w2 ⟨rfl, hw2⟩
            obtain rfl := hw2.symm
            go_wp2_with (at_builtin; refine wpList_append_fresh rfl (.tmp 40) (.tmp 44) 142 rfl w.heap.size 4 (.bool false) 1 1 Tryz.underlying142 infoBool rfl (by decide) _ j (((bitsNum false x n).take j).map Value.bool) rfl (hown.alloc _) (some ⟨wr.heap.size, 0, none⟩) 1 1 [.bool (x.testBit j)] rfl (fun e => by cases e) rfl (row_at _ rfl rfl) (fun u hu => by simp at hu; subst hu; rfl) (j + 1) rfl (((bitsNum false x n).take (j + 1)).map Value.bool) (by rw [HS2.out]; simp) (by omega) (by unfold maxLen; omega) (by have := hE.size; simp; omega) ?_)
            intro a2 c2 w3 hO3 hg3 hfr3
            have hE3 : Pure w w3 := Ext.own (hE.alloc _) (hown.alloc _) hg3
            clear hE hown hg3 hfr3 HB HS2
            go_wp2_with fail
            go_roundw
            case rel => exact ⟨j + 1, a2, c2, by omega, by go_num, rfl, by rw [List.map_take]; exact hO3, hE3⟩
            case measure => simp [intOf]; omega
        · have hji : ¬ (j : Int) < (n : Int) := by omega
          obtain rfl : j = n := by omega
          rw [List.take_of_length_le (by rw [bitsNum_length]; exact Nat.le_refl _)] at hown
          go_wp2_with fail
          go_ret2
          exact ⟨a, c, rfl, hown, hE⟩
set_option maxHeartbeats 4000000 in
set_option maxRecDepth 100000 in
theorem refbytes_any (high : Bool) (ad : Option Addr) (cap : Nat) (l : List Bool) (w : World) (hr : RowOf w ad (l.map Value.bool)) (hl : l.length ≤ 1000000000) :
    Calls Tryz.prog 111 #[.slice ad l.length cap, .bool high] w fun e w' => ∃ a c, e = .returned (.slice a (pack high l).length c) ∧ w'.ownsRow w.heap.size 5 1 (.slice a (pack high l).length c) (pack high l).length ((pack high l).map byV) ∧ Pure w w' := by
  obtain ⟨i, hi, hz, hsz, hby⟩ := info_parts infoByte
  obtain ⟨N, hN⟩ : ∃ N, N = (l.length + 7) / 8 := ⟨_, rfl⟩
  have hNi : ((l.length : Int) + 7) / 8 = (N : Int) := by omega
  have hpl : ∀ k, k ≤ l.length → (pack high (fillB l k)).length = N := fun k hk => by rw [pack_length, fillB_len _ _ hk, hN]
  have HP := Lib.hid hpl
  have hN' : l.length ≤ 8 * N ∧ N ≤ 200000000 := by omega
  have HN := Lib.hid hN
  clear hN hpl
  go_enter Tryz.func111, Tryz.ntmps111
  go_wp2_with (refine wpList_make_full w rfl (.tmp 13) (.tmp 13) 59 rfl w.heap.size 5 i (.int .u8 0) 1 Tryz.underlying59 hi hz hsz .i64 .i64 (((l.length : Int) + 7) / 8) (((l.length : Int) + 7) / 8) N rfl rfl hNi hNi (by rw [hby]; omega) (by unfold maxLen; omega) (Nat.le_refl _) ?_)
  intro w1 hown1 hg1
  have hE1' : Pure w w1 := (Ext.refl _ w).grown hg1 (fun k hk hlt => by cases hk)
  have hown2 : w1.ownsRow w.heap.size 5 1 (.slice (some ⟨w.heap.size, 0, none⟩) N N) N ((pack high (fillB l 0)).map byV) := by
    have e : (madeCells #[Value.int IntKind.u8 0] N).toList = (pack high (fillB l 0)).map byV := by
      rw [fillB_zero, pack_falses, ← HN.out, toList_madeCells_one]; simp [byV]
    rw [← e]; exact hown1
  clear hown1 hg1
  have hE1 : Pure w w1 := hE1'
  go_wp2_with fail
  go_loopw [6, 7, 8, 9] (fun i _ _ _ w' => ∃ k : Nat, k ≤ l.length ∧ i = .int .i64 k ∧ w'.ownsRow w.heap.size 5 1 (.slice (some ⟨w.heap.size, 0, none⟩) N N) N ((pack high (fillB l k)).map byV) ∧ Pure w w') (fun i _ _ _ _ => l.length - (intOf i).toNat)
  case atStart => exact ⟨0, Nat.zero_le _, rfl, hown2, hE1⟩
  case round =>
    obtain ⟨k, hk, rfl, hown, hE⟩ := hrel
    clear hown2 hE1 hE1'
    obtain ⟨wo, rfl⟩ : ∃ wo : World, wo = wr := ⟨_, rfl⟩
    by_cases hlt : k < l.length
    · have hki : (k : Int) < (l.length : Int) := by omega
      go_wp2_with fail
      go_loopw [7, 8] (fun v j w' => ∃ j' : Nat, j' ≤ k % 8 ∧ j = .int .i64 j' ∧ v = .int .u8 ((2 ^ j' : Nat) : Int) ∧ w' = wo) (fun _ j _ => 8 - (intOf j).toNat)
      case atStart => exact ⟨0, Nat.zero_le _, rfl, rfl, rfl⟩
      case round =>
        obtain ⟨j, hj, rfl, rfl, hw⟩ := hrel
        obtain rfl := hw.symm
        obtain ⟨y, hy⟩ : ∃ y, y = 2 ^ j := ⟨_, rfl⟩
        have hp : 2 ^ j ≤ 2 ^ (k % 8) := Nat.pow_le_pow_right (by decide) hj
        have hp8 : 2 ^ (k % 8) ≤ 2 ^ 7 := Nat.pow_le_pow_right (by decide) (by omega)
        have hy128 : y ≤ 128 := by rw [hy]; exact Nat.le_trans hp hp8
        rw [← hy]
        by_cases hj8 : j < k % 8
        · have hji : (j : Int) < (k : Int) % 8 := by omega
          have hp2 : 2 ^ j ≤ 2 ^ 6 := Nat.pow_le_pow_right (by decide) (by omega)
          have hy64 : y ≤ 64 := by rw [hy]; exact hp2
          have HY := Lib.hid hy
          clear hy hp hp8 hp2
          go_wp2_with fail
          go_roundw
          case rel => exact ⟨j + 1, by omega, by go_num, by rw [Nat.pow_succ, ← HY.out]; go_num, by first | rfl | trivial⟩
          case measure => simp [intOf]; omega
        · have hji : ¬ (j : Int) < (k : Int) % 8 := by omega
          obtain rfl : j = k % 8 := by omega
          clear hp hp8
          cases high with
          | false =>
            have hw2 : y = wt false (k % 8) := by rw [hy]; rfl
            clear hy
            have hq : k / 8 < N := by omega
            have hplk := HP.out k (Nat.le_of_lt hlt)
            obtain ⟨ab, ao, rfl, h0⟩ := hr k (.bool l[k]) (by simp [hlt])
            have h0' := hE.cell_some h0 id
            have hk0 : (0 : Int) ≤ (k : Int) := by omega
            clear h0
            cases hv : l[k] with
            | false =>
              rw [hv] at h0'
              have HF := Lib.hid (fillB_false l k hlt hv)
              clear hv
              go_wp2_with fail
              go_roundw
              case rel => exact ⟨k + 1, by omega, by go_num, by rw [HF.out]; exact hown, hE⟩
              case measure => simp [intOf]; omega
            | true =>
              rw [hv] at h0'
              obtain ⟨hs1, hs2⟩ := pack_fill_step false l k hlt (by omega) hv
              have hrow := own_row hown (k / 8) (byV ((pack false (fillB l k))[k / 8]'(by omega))) (by simp [hplk, hq])
              obtain ⟨_, _, hh, hrow⟩ := hrow
              cases hh
              rw [Nat.zero_add] at hrow
              obtain ⟨g2, hg2, _, _, hfree, hO2⟩ := own_set hown (k / 8) hq (byV (UInt8.ofNat (((pack false (fillB l k))[k / 8]'(by omega)).toNat + wt false (k % 8))))
              cases hg2
              rw [← List.map_set, ← hs1] at hO2
              unfold byV at hrow
              have hnew : byV (UInt8.ofNat (((pack false (fillB l k))[k / 8]'(by omega)).toNat + wt false (k % 8))) = .int .u8 ((((pack false (fillB l k))[k / 8]'(by omega)).toNat : Int) + (wt false (k % 8) : Int)) := by
                unfold byV; rw [ofNat_toNat _ hs2]; push_cast; rfl
              rw [hnew] at hO2
              rw [← hw2] at hs2 hO2
              have hk8 : (k : Int) / 8 = ((k / 8 : Nat) : Int) := by omega
              have hqi : ((k / 8 : Nat) : Int) < (N : Int) := by omega
              have hqj : (0 : Int) ≤ ((k / 8 : Nat) : Int) := by omega
              obtain ⟨old, hold⟩ : ∃ old, old = ((pack false (fillB l k))[k / 8]'(by omega)).toNat := ⟨_, rfl⟩
              rw [← hold] at hs2 hO2 hrow
              clear hs1 hnew hv hw2 hold hplk
              generalize k / 8 = q at *
              have hsum : (old : Int) + (y : Int) ≤ 255 := by omega
              go_wp2_with fail
              go_roundw
              case rel => exact ⟨k + 1, by omega, by go_num, hO2, hE.setCell (p := ⟨w.heap.size, q, none⟩) (fun hlt => absurd hlt (Nat.lt_irrefl _)) _⟩
              case measure => simp [intOf]; omega
          | true =>
            clear hy hy128
            go_wp2_with fail
            go_loopw [7, 9] (fun v j w' => ∃ j' : Nat, j' ≤ k % 8 ∧ j = .int .i64 j' ∧ v = .int .u8 ((128 / 2 ^ j' : Nat) : Int) ∧ w' = wo) (fun _ j _ => 8 - (intOf j).toNat)
            case atStart => exact ⟨0, Nat.zero_le _, rfl, rfl, rfl⟩
            case round =>
              obtain ⟨j, hj, rfl, rfl, hw⟩ := hrel
              obtain rfl := hw.symm
              obtain ⟨y, hy⟩ : ∃ y, y = 128 / 2 ^ j := ⟨_, rfl⟩
              have hy128 : y ≤ 128 := by rw [hy]; exact Nat.div_le_self _ _
              rw [← hy]
              by_cases hj8 : j < k % 8
              · have hji : (j : Int) < (k : Int) % 8 := by omega
                have HY := Lib.hid hy
                clear hy
                go_wp2_with fail
                go_roundw
                case rel => exact ⟨j + 1, by omega, by go_num, by rw [Nat.pow_succ, ← Nat.div_div_eq_div_mul, ← HY.out]; go_num, by first | rfl | trivial⟩
                case measure => simp [intOf]; omega
              · have hji : ¬ (j : Int) < (k : Int) % 8 := by omega
                obtain rfl : j = k % 8 := by omega
                have hw2 : y = wt true (k % 8) := by
                  rw [hy]
                  have h : k % 8 = 0 ∨ k % 8 = 1 ∨ k % 8 = 2 ∨ k % 8 = 3 ∨ k % 8 = 4 ∨ k % 8 = 5 ∨ k % 8 = 6 ∨ k % 8 = 7 := by omega
                  rcases h with h | h | h | h | h | h | h | h <;> rw [h] <;> rfl
                clear hy
                have hq : k / 8 < N := by omega
                have hplk := HP.out k (Nat.le_of_lt hlt)
                obtain ⟨ab, ao, rfl, h0⟩ := hr k (.bool l[k]) (by simp [hlt])
                have h0' := hE.cell_some h0 id
                have hk0 : (0 : Int) ≤ (k : Int) := by omega
                clear h0
                cases hv : l[k] with
                | false =>
                  rw [hv] at h0'
                  have HF := Lib.hid (fillB_false l k hlt hv)
                  clear hv
                  go_wp2_with fail
                  go_roundw
                  case rel => exact ⟨k + 1, by omega, by go_num, by rw [HF.out]; exact hown, hE⟩
                  case measure => simp [intOf]; omega
                | true =>
                  rw [hv] at h0'
                  obtain ⟨hs1, hs2⟩ := pack_fill_step true l k hlt (by omega) hv
                  have hrow := own_row hown (k / 8) (byV ((pack true (fillB l k))[k / 8]'(by omega))) (by simp [hplk, hq])
                  obtain ⟨_, _, hh, hrow⟩ := hrow
                  cases hh
                  rw [Nat.zero_add] at hrow
                  obtain ⟨g2, hg2, _, _, hfree, hO2⟩ := own_set hown (k / 8) hq (byV (UInt8.ofNat (((pack true (fillB l k))[k / 8]'(by omega)).toNat + wt true (k % 8))))
                  cases hg2
                  rw [← List.map_set, ← hs1] at hO2
                  unfold byV at hrow
                  have hnew : byV (UInt8.ofNat (((pack true (fillB l k))[k / 8]'(by omega)).toNat + wt true (k % 8))) = .int .u8 ((((pack true (fillB l k))[k / 8]'(by omega)).toNat : Int) + (wt true (k % 8) : Int)) := by
                    unfold byV; rw [ofNat_toNat _ hs2]; push_cast; rfl
                  rw [hnew] at hO2
                  rw [← hw2] at hs2 hO2
                  have hk8 : (k : Int) / 8 = ((k / 8 : Nat) : Int) := by omega
                  have hqi : ((k / 8 : Nat) : Int) < (N : Int) := by omega
                  have hqj : (0 : Int) ≤ ((k / 8 : Nat) : Int) := by omega
                  obtain ⟨old, hold⟩ : ∃ old, old = ((pack true (fillB l k))[k / 8]'(by omega)).toNat := ⟨_, rfl⟩
                  rw [← hold] at hs2 hO2 hrow
                  clear hs1 hnew hv hw2 hold hplk
                  generalize k / 8 = q at *
                  have hsum : (old : Int) + (y : Int) ≤ 255 := by omega
                  go_wp2_with fail
                  go_roundw
                  case rel => exact ⟨k + 1, by omega, by go_num, hO2, hE.setCell (p := ⟨w.heap.size, q, none⟩) (fun hlt => absurd hlt (Nat.lt_irrefl _)) _⟩
                  case measure => simp [intOf]; omega
    · have hki : ¬ (k : Int) < (l.length : Int) := by omega
      obtain rfl : k = l.length := by omega
      have hpn := HP.out l.length (Nat.le_refl _)
      rw [fillB_all] at hpn hown
      have HPN := Lib.hid hpn
      clear hpn
      go_wp2_with fail
      go_ret
      exact ⟨some ⟨w.heap.size, 0, none⟩, N, by rw [HPN.out]; rfl, by rw [HPN.out]; exact hown, hE⟩
end Go.Proofs.YtomcdhljjmnahaaGreat
namespace Go.Proofs.YtomcdhljjmnahaaGreat
set_option linter.unusedVariables false
set_option linter.unusedSimpArgs false
open Go.RowKit
end Go.Proofs.YtomcdhljjmnahaaGreat
namespace Go.Proofs.YtomcdhljjmnahaaGreat.C26
set_option linter.unusedVariables false
set_option linter.unusedSimpArgs false
open Go.RowKit Go.Proofs.YtomcdhljjmnahaaGreat

set_option maxRecDepth 100000 in
theorem refput_any (B : Nat) (bs : List Bool) (a : Option Addr) (c : Nat) (x n : Nat) (w : World) (hB : B ≤ w.heap.size) (hO : w.ownsRow B 4 1 (.slice a bs.length c) bs.length (bs.map Value.bool)) (hlen : bs.length ≤ 1000000000) (hn : n ≤ 32) (hx : x < 4294967296) (hxn : x < 2 ^ n) :
    Calls Tryz.prog 108 #[.slice a bs.length c, .int .i64 x, .int .i64 n] w fun e w' => ∃ a' c', e = .returned (.slice a' (bs ++ bitsNum true x n).length c') ∧ w'.ownsRow B 4 1 (.slice a' (bs ++ bitsNum true x n).length c') (bs ++ bitsNum true x n).length ((bs ++ bitsNum true x n).map Value.bool) ∧ Ext (fun i => (Value.slice a bs.length c).ownBlock = some i) w w' ∧ (∀ g, a' = some g → (Value.slice a bs.length c).ownBlock = some g.block ∨ w.heap.size ≤ g.block) := by
  have HN := Lib.hid (number_yes x n true w hn hx hxn)
  have HXN := Lib.hid hxn
  clear hxn
  have hlq := bitsNum_length true x n
  obtain ⟨q, hq⟩ : ∃ q, q = bitsNum true x n := ⟨_, rfl⟩
  rw [← hq] at hlq HN ⊢
  have hu : IntKind.u32.wrap (x : Int) = (x : Int) := IntWalk.u32_in _ (by omega)
  have HQ := Lib.hid hlq
  clear hq hlq
  go_enter Tryz.func108, Tryz.ntmps108
  go_wp2_with fail
  refine HN.out.mono ?_
  rintro e w1 ⟨na, nc, rfl, hOn, hE1⟩
  have hO1 := own_ext hO hE1 (fun _ _ => id)
  obtain ⟨_, _, hh, h1, _, h3, _⟩ := own_form hOn
  cases hh
  have hnle : na = none → n = 0 ∧ nc = 0 := fun h => by have := h3 h; omega
  have hrow := own_row hOn
  have hB1 : B ≤ w1.heap.size := Nat.le_trans hB hE1.size
  clear HN hu h1 h3 hOn hO
  go_wp2_with (at_builtin; refine wpList_append_fresh rfl (.tmp 16) (.tmp 17) 142 rfl B 4 (.bool false) 1 1 Tryz.underlying142 infoBool rfl (by decide) _ bs.length (bs.map Value.bool) rfl hO1 na n nc (q.map Value.bool) rfl hnle (by rw [List.length_map, HQ.out, Nat.mul_one]) hrow (bool_one q) (bs.length + n) rfl (bs.map Value.bool ++ q.map Value.bool) rfl (by omega) (by unfold maxLen; omega) hB1 ?_)
  intro a2 c2 w2 hO2 hg2 hfr2
  go_wp2_with fail
  go_ret
  have hl : (bs ++ q).length = bs.length + n := by rw [List.length_append, HQ.out]
  refine ⟨a2, c2, by rw [hl]; rfl, by rw [hl, List.map_append]; exact hO2, hE1.trans' (ext_of_grown hg2) (fun i _ e => e.elim) (fun i _ e => e), fun g hg => ?_⟩
  rcases hfr2 g hg with e | e
  · exact Or.inl e
  · exact Or.inr (Nat.le_trans hE1.size e)

set_option maxRecDepth 100000 in
theorem reffull_any (B : Nat) (bs : List Bool) (a : Option Addr) (c : Nat) (w : World) (hB : B ≤ w.heap.size) (hO : w.ownsRow B 4 1 (.slice a bs.length c) bs.length (bs.map Value.bool)) (hlen : bs.length ≤ 1000000000) :
    Calls Tryz.prog 109 #[.slice a bs.length c] w fun e w' => ∃ a' c', e = .returned (.slice a' (align bs).length c') ∧ w'.ownsRow B 4 1 (.slice a' (align bs).length c') (align bs).length ((align bs).map Value.bool) ∧ Ext (fun i => (Value.slice a bs.length c).ownBlock = some i) w w' ∧ (∀ g, a' = some g → (Value.slice a bs.length c).ownBlock = some g.block ∨ w.heap.size ≤ g.block) := by
  have hall := align_length bs
  have hal3 : bs.length ≤ (align bs).length := by omega
  have hal4 : (align bs).length ≤ 1000000007 := by omega
  have HAL := Lib.hid hall
  clear hall
  go_enter Tryz.func109, Tryz.ntmps109
  go_wp2_with fail
  go_loopw [0] (fun v wi => ∃ (bs' : List Bool) (fa : Option Addr) (fc : Nat), v = .slice fa bs'.length fc ∧ align bs' = align bs ∧ bs'.length ≤ (align bs).length ∧ wi.ownsRow B 4 1 v bs'.length (bs'.map Value.bool) ∧ Ext (fun i => (Value.slice a bs.length c).ownBlock = some i) w wi ∧ (∀ g, fa = some g → (Value.slice a bs.length c).ownBlock = some g.block ∨ w.heap.size ≤ g.block)) (fun v _ => (align bs).length - lenOf v)
  case atStart => exact ⟨bs, a, c, rfl, rfl, hal3, hO, Ext.refl _ _, fun g hg => Or.inl (by rw [hg]; rfl)⟩
  case round =>
    obtain ⟨bs', fa, fc, rfl, hae, hle, hO', hE', hfr'⟩ := hrel
    clear hO
    have hal' := align_length bs'
    rw [hae] at hal'
    by_cases h8 : bs'.length % 8 = 0
    · have h8' : ((bs'.length : Int) % 8 != 0) = false := by simp; omega
      have hnb := (align_done bs' h8).symm.trans hae
      have HNB := Lib.hid hnb
      clear h8 hae hal' hnb
      go_wp2_with fail
      go_ret
      exact ⟨fa, fc, by rw [← HNB.out]; rfl, by rw [← HNB.out]; exact hO', hE', hfr'⟩
    · have h8' : ((bs'.length : Int) % 8 != 0) = true := by simp; omega
      have HA := Lib.hid ((align_step bs' h8).trans hae)
      have hle' : bs'.length + 1 ≤ (align bs).length := by omega
      have hszB := hE'.size
      clear h8 hae hal'
      go_wp2_with (at_builtin; refine wpList_append_fresh rfl (.tmp 7) (.tmp 8) 142 rfl B 4 (.bool false) 1 1 Tryz.underlying142 infoBool rfl (by decide) _ bs'.length (bs'.map Value.bool) rfl (hO'.alloc _) (some ⟨wr.heap.size, 0, none⟩) 1 1 [.bool false] rfl (fun e => by cases e) rfl (row_at _ rfl rfl) (fun u hu => by simp at hu; subst hu; rfl) (bs'.length + 1) rfl ((bs' ++ [false]).map Value.bool) (by simp) (by omega) (by unfold maxLen; omega) (by simp; omega) ?_)
      intro a2 c2 w7 hO7 hg7 hfr7
      have hg7' := ext_of_grown hg7
      have hE7 := (hE'.pure (ext_alloc _ _)).trans hg7' (fun i hi e => by
        obtain ⟨y, hy, hyg⟩ := own_blk e
        rcases hfr' y hy with e2 | e2
        · rw [e2, hyg]
        · omega)
      go_wp2_with fail
      go_roundw
      case rel =>
        refine ⟨bs' ++ [false], a2, c2, by simp, HA.out, by simpa using hle', by simpa using hO7, hE7, fun g hg => ?_⟩
        rcases hfr7 g hg with e | e
        · obtain ⟨y, hy, hyg⟩ := own_blk e
          rw [← hyg]; exact hfr' y hy
        · exact Or.inr (by omega)
      case measure => simp [lenOf]; omega

/-- the number of n bits from a place on -/
def numAt (bs : List Bool) (at' n : Nat) : Nat := num true ((bs.drop at').take n)
theorem numAt_lt (bs : List Bool) (at' n : Nat) : numAt bs at' n < 2 ^ n := by
  have := num_lt true ((bs.drop at').take n)
  exact Nat.lt_of_lt_of_le this (Nat.pow_le_pow_right (by decide) (List.length_take_le _ _))
theorem numAt_lt32 (bs : List Bool) (at' n : Nat) (h : n ≤ 32) : numAt bs at' n < 4294967296 := Nat.lt_of_lt_of_le (numAt_lt bs at' n) (show 2 ^ n ≤ 2 ^ 32 from Nat.pow_le_pow_right (by decide) h)
end Go.Proofs.YtomcdhljjmnahaaGreat.C26
namespace Go.Proofs.YtomcdhljjmnahaaGreat.C26
set_option linter.unusedVariables false
set_option linter.unusedSimpArgs false
open Go.RowKit Go.Proofs.YtomcdhljjmnahaaGreat

theorem infoInt : (Tryz.prog.info? 3).map (fun i => (i.zero, i.size, i.bytes)) = some (some (.int .i64 0), 1, 8) := by kernel_rfl
def intV (x : Nat) : Value := .int .i64 (x : Int)
theorem intV_one (l : List Nat) : ∀ u ∈ l.map intV, u.oneCell' = true := by intro u hu; obtain ⟨y, _, rfl⟩ := List.mem_map.1 hu; rfl
/-- the first k numbers of a width, from a place on -/
def vals (bs : List Bool) (at' w k : Nat) : List Nat := (List.range k).map fun j => numAt bs (at' + j * w) w
theorem vals_len (bs : List Bool) (at' w k : Nat) : (vals bs at' w k).length = k := by simp [vals]
theorem vals_succ (bs : List Bool) (at' w k : Nat) : vals bs at' w (k + 1) = vals bs at' w k ++ [numAt bs (at' + k * w) w] := by simp [vals, List.range_succ]
/-- how many numbers of a width there are in L bits, from a place on -/
structure Fit (L at' w many K : Nat) : Prop where
  le : K ≤ many
  fits : at' + K * w ≤ L
  cut : K < many → L < at' + (K + 1) * w
theorem Fit.unique {L at' w many K K' : Nat} (h : Fit L at' w many K) (h' : Fit L at' w many K') : K = K' := by
  rcases Nat.lt_trichotomy K K' with h1 | h1 | h1
  · have a := h.cut (Nat.lt_of_lt_of_le h1 h'.le)
    have b := h'.fits
    have c : (K + 1) * w ≤ K' * w := Nat.mul_le_mul_right w h1
    omega
  · exact h1
  · have a := h'.cut (Nat.lt_of_lt_of_le h1 h.le)
    have b := h.fits
    have c : (K' + 1) * w ≤ K * w := Nat.mul_le_mul_right w h1
    omega
/-- the next whole byte -/
def al8 (x : Nat) : Nat := 8 * ((x + 7) / 8)

end Go.Proofs.YtomcdhljjmnahaaGreat.C26
namespace Go.Proofs.YtomcdhljjmnahaaGreat.C26
set_option linter.unusedVariables false
set_option linter.unusedSimpArgs false
open Go.RowKit Go.Proofs.YtomcdhljjmnahaaGreat

/-- a reader: how many bits were taken, which error it has -/
abbrev St := Nat × Int
def num1 (bs : List Bool) (s : St) (w : Nat) : Nat × St :=
  if s.2 = 0 then (if s.1 + w ≤ bs.length then (numAt bs s.1 w, (s.1 + w, 0)) else (0, (s.1, 10))) else (0, s)
theorem num1_err {bs : List Bool} {s : St} {w : Nat} (h : s.2 ≠ 0) : num1 bs s w = (0, s) := by unfold num1; rw [if_neg h]
theorem num1_cut {bs : List Bool} {p : Nat} {w : Nat} (h : bs.length < p + w) : num1 bs (p, 0) w = (0, (p, 10)) := by unfold num1; rw [if_pos rfl, if_neg (by simp; omega)]
theorem num1_yes {bs : List Bool} {p : Nat} {w : Nat} (h : p + w ≤ bs.length) : num1 bs (p, 0) w = (numAt bs p w, (p + w, 0)) := by unfold num1; rw [if_pos rfl, if_pos h]
structure RS (W : World) (rr rb : Nat) (l : List UInt8) (s : St) (a : Option Addr) (c : Nat) : Prop where
  blk : BlockIs W rr [.pointer (some ⟨rb, 0, none⟩), .int .i64 s.2] 132
  rd : RdIs W rb true l s.1 a c
  le : s.1 ≤ 8 * l.length
  ne : rr ≠ rb
  ap : ∀ g, a = some g → g.block ≠ rr
/-- what reading writes -/
def RdS (rr rb : Nat) (i : Nat) : Prop := i = rr ∨ i = rb
theorem RS.ext {S : Nat → Prop} {W W' : World} {rr rb : Nat} {l : List UInt8} {s : St} {a : Option Addr} {c : Nat} (h : RS W rr rb l s a c) (e : Ext S W W') (h1 : ¬ S rr) (h2 : ¬ S rb) (h3 : ∀ g, a = some g → ¬ S g.block) : RS W' rr rb l s a c :=
  ⟨h.blk.ext e h1, h.rd.ext e h2 h3, h.le, h.ne, h.ap⟩
theorem RS.pure {W W' : World} {rr rb : Nat} {l : List UInt8} {s : St} {a : Option Addr} {c : Nat} (h : RS W rr rb l s a c) (e : Pure W W') : RS W' rr rb l s a c := h.ext e id id (fun _ _ => id)
theorem RS.setErr {W : World} {rr rb : Nat} {l : List UInt8} {p : Nat} {e0 : Int} {a : Option Addr} {c : Nat} (h : RS W rr rb l (p, e0) a c) (e1 : Int) : RS (W.setCell ⟨rr, 1, none⟩ (.int .i64 e1)) rr rb l (p, e1) a c := by
  have hE : Ext (fun i => i = rr) W (W.setCell ⟨rr, 1, none⟩ (.int .i64 e1)) := (Ext.refl (fun i => i = rr) W).setCell (p := ⟨rr, 1, none⟩) (fun _ => rfl) _
  exact ⟨by simpa using h.blk.set 1 (.int .i64 e1), h.rd.ext hE (fun e => h.ne e.symm) (fun g hg e => h.ap g hg e), h.le, h.ne, h.ap⟩

def NumRes (rr rb : Nat) (l : List UInt8) (s : St) (n : Nat) (a : Option Addr) (c : Nat) (W : World) (e : Ending) (W' : World) : Prop :=
  e = .returned (.int .i64 ((num1 (bitsOf true l) s n).1 : Nat)) ∧ RS W' rr rb l (num1 (bitsOf true l) s n).2 a c ∧ Ext (RdS rr rb) W W'
set_option maxRecDepth 100000 in
theorem num_err (rr rb : Nat) (l : List UInt8) (p : Nat) (er : Int) (a : Option Addr) (c : Nat) (n : Nat) (W : World) (h : RS W rr rb l (p, er) a c) (he : er ≠ 0) :
    Calls Tryz.prog 115 #[.pointer (some ⟨rr, 0, none⟩), .int .i64 n] W (NumRes rr rb l (p, er) n a c W) := by
  have h1 : W.cell? ⟨rr, 0 + 1, none⟩ = some (.int .i64 er) := h.blk.cell 1
  have he' : (er != 0) = true := by simpa using he
  have HN := Lib.hid (num1_err (bs := bitsOf true l) (s := (p, er)) (w := n) he)
  clear he
  go_enter Tryz.func115, Tryz.ntmps115
  go_wp2_with fail
  go_ret
  unfold NumRes
  rw [HN.out]
  exact ⟨rfl, h, Ext.refl _ _⟩
set_option maxRecDepth 100000 in
theorem num_cut (rr rb : Nat) (l : List UInt8) (p : Nat) (a : Option Addr) (c : Nat) (n : Nat) (W : World) (h : RS W rr rb l (p, 0) a c) (hn : n ≤ 32) (hl : l.length ≤ 10000000) (hcut : 8 * l.length < p + n) :
    Calls Tryz.prog 115 #[.pointer (some ⟨rr, 0, none⟩), .int .i64 n] W (NumRes rr rb l (p, 0) n a c W) := by
  have h0 : W.cell? ⟨rr, 0, none⟩ = some (.pointer (some ⟨rb, 0, none⟩)) := h.blk.cell 0
  have h1 : W.cell? ⟨rr, 0 + 1, none⟩ = some (.int .i64 0) := h.blk.cell 1
  have f1 : W.frozen? ⟨rr, 0 + 1, none⟩ = false := h.blk.free 1
  have HG := Lib.hid (get_no2 rb true l p a c n W h.rd (by omega) h.le hn hcut)
  have HN := Lib.hid (num1_cut (bs := bitsOf true l) (p := p) (w := n) (by rw [bitsOf_length]; exact hcut))
  clear hcut
  go_enter Tryz.func115, Tryz.ntmps115
  go_wp2_with fail
  refine HG.out.mono ?_
  rintro e w1 ⟨rfl, q, rfl⟩
  go_wp2_with fail
  go_ret
  unfold NumRes
  rw [HN.out]
  refine ⟨rfl, ?_, ?_⟩
  · have := (h.pure ((Ext.refl (fun _ => False) W).drewN q)).setErr 10
    first | exact this | exact (h.setErr 10).pure ((Ext.refl (fun _ => False) _).drewN q)
  · first | exact ((Ext.refl (RdS rr rb) W).drewN q).setCell (p := ⟨rr, 1, none⟩) (fun _ => Or.inl rfl) _ | exact ((Ext.refl (RdS rr rb) W).setCell (p := ⟨rr, 1, none⟩) (fun _ => Or.inl rfl) _).drewN q
set_option maxRecDepth 100000 in
theorem num_yes (rr rb : Nat) (l : List UInt8) (p : Nat) (a : Option Addr) (c : Nat) (n : Nat) (W : World) (h : RS W rr rb l (p, 0) a c) (hn : n ≤ 32) (hl : l.length ≤ 10000000) (hcut : p + n ≤ 8 * l.length) :
    Calls Tryz.prog 115 #[.pointer (some ⟨rr, 0, none⟩), .int .i64 n] W (NumRes rr rb l (p, 0) n a c W) := by
  have h0 : W.cell? ⟨rr, 0, none⟩ = some (.pointer (some ⟨rb, 0, none⟩)) := h.blk.cell 0
  have h1 : W.cell? ⟨rr, 0 + 1, none⟩ = some (.int .i64 0) := h.blk.cell 1
  have hv := numAt_lt32 (bitsOf true l) p n hn
  have HG0 := get_yes rb true l p a c n W h.rd (by omega) hn hcut
  obtain ⟨v, hvv⟩ : ∃ v, v = numAt (bitsOf true l) p n := ⟨_, rfl⟩
  rw [show num true (((bitsOf true l).drop p).take n) = v from hvv.symm] at HG0
  have HN0 := num1_yes (bs := bitsOf true l) (p := p) (w := n) (by rw [bitsOf_length]; exact hcut)
  rw [← hvv] at hv HN0
  have HG := Lib.hid HG0
  have HN := Lib.hid HN0
  have HC := Lib.hid hcut
  have hne := h.ne
  have hap := h.ap
  have hblk := h.blk
  clear HG0 HN0 hvv hcut h
  go_enter Tryz.func115, Tryz.ntmps115
  go_wp2_with fail
  refine HG.out.mono ?_
  rintro e w1 ⟨rfl, hR, hE⟩
  have hblk1 := hblk.ext hE hne
  have c1 : w1.cell? ⟨rr, 0 + 1, none⟩ = some (.int .i64 0) := hblk1.cell 1
  have f1 : w1.frozen? ⟨rr, 0 + 1, none⟩ = false := hblk1.free 1
  clear HG
  go_wp2_with fail
  go_ret
  unfold NumRes
  rw [HN.out]
  have hRS : RS w1 rr rb l (p + n, 0) a c := ⟨hblk1, hR, HC.out, hne, hap⟩
  exact ⟨rfl, hRS.setErr 0, (hE.mono (T := RdS rr rb) (fun i _ e => Or.inr e)).setCell (p := ⟨rr, 1, none⟩) (fun _ => Or.inl rfl) _⟩
theorem num_any (rr rb : Nat) (l : List UInt8) (s : St) (a : Option Addr) (c : Nat) (n : Nat) (W : World) (h : RS W rr rb l s a c) (hn : n ≤ 32) (hl : l.length ≤ 10000000) :
    Calls Tryz.prog 115 #[.pointer (some ⟨rr, 0, none⟩), .int .i64 n] W (NumRes rr rb l s n a c W) := by
  obtain ⟨p, er⟩ := s
  by_cases he : er = 0
  · subst he
    by_cases hcut : 8 * l.length < p + n
    · exact num_cut rr rb l p a c n W h hn hl hcut
    · exact num_yes rr rb l p a c n W h hn hl (by omega)
  · exact num_err rr rb l p er a c n W h he
end Go.Proofs.YtomcdhljjmnahaaGreat.C26
namespace Go.Proofs.YtomcdhljjmnahaaGreat.C27
set_option linter.unusedVariables false
set_option linter.unusedSimpArgs false
open Go.RowKit Go.Proofs.YtomcdhljjmnahaaGreat

set_option maxRecDepth 100000 in
theorem refput_any (B : Nat) (bs : List Bool) (a : Option Addr) (c : Nat) (x n : Nat) (w : World) (hB : B ≤ w.heap.size) (hO : w.ownsRow B 4 1 (.slice a bs.length c) bs.length (bs.map Value.bool)) (hlen : bs.length ≤ 1000000000) (hn : n ≤ 32) (hx : x < 4294967296) (hxn : x < 2 ^ n) :
    Calls Tryz.prog 112 #[.slice a bs.length c, .int .i64 x, .int .i64 n] w fun e w' => ∃ a' c', e = .returned (.slice a' (bs ++ bitsNum true x n).length c') ∧ w'.ownsRow B 4 1 (.slice a' (bs ++ bitsNum true x n).length c') (bs ++ bitsNum true x n).length ((bs ++ bitsNum true x n).map Value.bool) ∧ Ext (fun i => (Value.slice a bs.length c).ownBlock = some i) w w' ∧ (∀ g, a' = some g → (Value.slice a bs.length c).ownBlock = some g.block ∨ w.heap.size ≤ g.block) := by
  have HN := Lib.hid (number_yes x n true w hn hx hxn)
  have HXN := Lib.hid hxn
  clear hxn
  have hlq := bitsNum_length true x n
  obtain ⟨q, hq⟩ : ∃ q, q = bitsNum true x n := ⟨_, rfl⟩
  rw [← hq] at hlq HN ⊢
  have hu : IntKind.u32.wrap (x : Int) = (x : Int) := IntWalk.u32_in _ (by omega)
  have HQ := Lib.hid hlq
  clear hq hlq
  go_enter Tryz.func112, Tryz.ntmps112
  go_wp2_with fail
  refine HN.out.mono ?_
  rintro e w1 ⟨na, nc, rfl, hOn, hE1⟩
  have hO1 := own_ext hO hE1 (fun _ _ => id)
  obtain ⟨_, _, hh, h1, _, h3, _⟩ := own_form hOn
  cases hh
  have hnle : na = none → n = 0 ∧ nc = 0 := fun h => by have := h3 h; omega
  have hrow := own_row hOn
  have hB1 : B ≤ w1.heap.size := Nat.le_trans hB hE1.size
  clear HN hu h1 h3 hOn hO
  go_wp2_with (at_builtin; refine wpList_append_fresh rfl (.tmp 16) (.tmp 17) 142 rfl B 4 (.bool false) 1 1 Tryz.underlying142 infoBool rfl (by decide) _ bs.length (bs.map Value.bool) rfl hO1 na n nc (q.map Value.bool) rfl hnle (by rw [List.length_map, HQ.out, Nat.mul_one]) hrow (bool_one q) (bs.length + n) rfl (bs.map Value.bool ++ q.map Value.bool) rfl (by omega) (by unfold maxLen; omega) hB1 ?_)
  intro a2 c2 w2 hO2 hg2 hfr2
  go_wp2_with fail
  go_ret
  have hl : (bs ++ q).length = bs.length + n := by rw [List.length_append, HQ.out]
  refine ⟨a2, c2, by rw [hl]; rfl, by rw [hl, List.map_append]; exact hO2, hE1.trans' (ext_of_grown hg2) (fun i _ e => e.elim) (fun i _ e => e), fun g hg => ?_⟩
  rcases hfr2 g hg with e | e
  · exact Or.inl e
  · exact Or.inr (Nat.le_trans hE1.size e)

set_option maxRecDepth 100000 in
theorem reffull_any (B : Nat) (bs : List Bool) (a : Option Addr) (c : Nat) (w : World) (hB : B ≤ w.heap.size) (hO : w.ownsRow B 4 1 (.slice a bs.length c) bs.length (bs.map Value.bool)) (hlen : bs.length ≤ 1000000000) :
    Calls Tryz.prog 113 #[.slice a bs.length c] w fun e w' => ∃ a' c', e = .returned (.slice a' (align bs).length c') ∧ w'.ownsRow B 4 1 (.slice a' (align bs).length c') (align bs).length ((align bs).map Value.bool) ∧ Ext (fun i => (Value.slice a bs.length c).ownBlock = some i) w w' ∧ (∀ g, a' = some g → (Value.slice a bs.length c).ownBlock = some g.block ∨ w.heap.size ≤ g.block) := by
  have hall := align_length bs
  have hal3 : bs.length ≤ (align bs).length := by omega
  have hal4 : (align bs).length ≤ 1000000007 := by omega
  have HAL := Lib.hid hall
  clear hall
  go_enter Tryz.func113, Tryz.ntmps113
  go_wp2_with fail
  go_loopw [0] (fun v wi => ∃ (bs' : List Bool) (fa : Option Addr) (fc : Nat), v = .slice fa bs'.length fc ∧ align bs' = align bs ∧ bs'.length ≤ (align bs).length ∧ wi.ownsRow B 4 1 v bs'.length (bs'.map Value.bool) ∧ Ext (fun i => (Value.slice a bs.length c).ownBlock = some i) w wi ∧ (∀ g, fa = some g → (Value.slice a bs.length c).ownBlock = some g.block ∨ w.heap.size ≤ g.block)) (fun v _ => (align bs).length - lenOf v)
  case atStart => exact ⟨bs, a, c, rfl, rfl, hal3, hO, Ext.refl _ _, fun g hg => Or.inl (by rw [hg]; rfl)⟩
  case round =>
    obtain ⟨bs', fa, fc, rfl, hae, hle, hO', hE', hfr'⟩ := hrel
    clear hO
    have hal' := align_length bs'
    rw [hae] at hal'
    by_cases h8 : bs'.length % 8 = 0
    · have h8' : ((bs'.length : Int) % 8 != 0) = false := by simp; omega
      have hnb := (align_done bs' h8).symm.trans hae
      have HNB := Lib.hid hnb
      clear h8 hae hal' hnb
      go_wp2_with fail
      go_ret
      exact ⟨fa, fc, by rw [← HNB.out]; rfl, by rw [← HNB.out]; exact hO', hE', hfr'⟩
    · have h8' : ((bs'.length : Int) % 8 != 0) = true := by simp; omega
      have HA := Lib.hid ((align_step bs' h8).trans hae)
      have hle' : bs'.length + 1 ≤ (align bs).length := by omega
      have hszB := hE'.size
      clear h8 hae hal'
      go_wp2_with (at_builtin; refine wpList_append_fresh rfl (.tmp 7) (.tmp 8) 142 rfl B 4 (.bool false) 1 1 Tryz.underlying142 infoBool rfl (by decide) _ bs'.length (bs'.map Value.bool) rfl (hO'.alloc _) (some ⟨wr.heap.size, 0, none⟩) 1 1 [.bool false] rfl (fun e => by cases e) rfl (row_at _ rfl rfl) (fun u hu => by simp at hu; subst hu; rfl) (bs'.length + 1) rfl ((bs' ++ [false]).map Value.bool) (by simp) (by omega) (by unfold maxLen; omega) (by simp; omega) ?_)
      intro a2 c2 w7 hO7 hg7 hfr7
      have hg7' := ext_of_grown hg7
      have hE7 := (hE'.pure (ext_alloc _ _)).trans hg7' (fun i hi e => by
        obtain ⟨y, hy, hyg⟩ := own_blk e
        rcases hfr' y hy with e2 | e2
        · rw [e2, hyg]
        · omega)
      go_wp2_with fail
      go_roundw
      case rel =>
        refine ⟨bs' ++ [false], a2, c2, by simp, HA.out, by simpa using hle', by simpa using hO7, hE7, fun g hg => ?_⟩
        rcases hfr7 g hg with e | e
        · obtain ⟨y, hy, hyg⟩ := own_blk e
          rw [← hyg]; exact hfr' y hy
        · exact Or.inr (by omega)
      case measure => simp [lenOf]; omega

/-- the number of n bits from a place on -/
def numAt (bs : List Bool) (at' n : Nat) : Nat := num true ((bs.drop at').take n)
theorem numAt_lt (bs : List Bool) (at' n : Nat) : numAt bs at' n < 2 ^ n := by
  have := num_lt true ((bs.drop at').take n)
  exact Nat.lt_of_lt_of_le this (Nat.pow_le_pow_right (by decide) (List.length_take_le _ _))
theorem numAt_lt32 (bs : List Bool) (at' n : Nat) (h : n ≤ 32) : numAt bs at' n < 4294967296 := Nat.lt_of_lt_of_le (numAt_lt bs at' n) (show 2 ^ n ≤ 2 ^ 32 from Nat.pow_le_pow_right (by decide) h)
end Go.Proofs.YtomcdhljjmnahaaGreat.C27
namespace Go.Proofs.YtomcdhljjmnahaaGreat.C27
set_option linter.unusedVariables false
set_option linter.unusedSimpArgs false
open Go.RowKit Go.Proofs.YtomcdhljjmnahaaGreat

theorem infoInt : (Tryz.prog.info? 3).map (fun i => (i.zero, i.size, i.bytes)) = some (some (.int .i64 0), 1, 8) := by kernel_rfl
def intV (x : Nat) : Value := .int .i64 (x : Int)
/-- the first k numbers of a width, from a place on -/
def vals (bs : List Bool) (at' w k : Nat) : List Nat := (List.range k).map fun j => numAt bs (at' + j * w) w
theorem vals_len (bs : List Bool) (at' w k : Nat) : (vals bs at' w k).length = k := by simp [vals]
theorem vals_succ (bs : List Bool) (at' w k : Nat) : vals bs at' w (k + 1) = vals bs at' w k ++ [numAt bs (at' + k * w) w] := by simp [vals, List.range_succ]
/-- how many numbers of a width there are in L bits, from a place on -/
structure Fit (L at' w many K : Nat) : Prop where
  le : K ≤ many
  fits : at' + K * w ≤ L
  cut : K < many → L < at' + (K + 1) * w
theorem Fit.unique {L at' w many K K' : Nat} (h : Fit L at' w many K) (h' : Fit L at' w many K') : K = K' := by
  rcases Nat.lt_trichotomy K K' with h1 | h1 | h1
  · have a := h.cut (Nat.lt_of_lt_of_le h1 h'.le)
    have b := h'.fits
    have c : (K + 1) * w ≤ K' * w := Nat.mul_le_mul_right w h1
    omega
  · exact h1
  · have a := h'.cut (Nat.lt_of_lt_of_le h1 h.le)
    have b := h.fits
    have c : (K' + 1) * w ≤ K * w := Nat.mul_le_mul_right w h1
    omega
/-- the next whole byte -/
def al8 (x : Nat) : Nat := 8 * ((x + 7) / 8)

end Go.Proofs.YtomcdhljjmnahaaGreat.C27
namespace Go.Proofs.YtomcdhljjmnahaaGreat.C27
set_option linter.unusedVariables false
set_option linter.unusedSimpArgs false
open Go.RowKit Go.Proofs.YtomcdhljjmnahaaGreat

/-- a reader: how many bits were taken, which error it has -/
abbrev St := Nat × Int
def num1 (bs : List Bool) (s : St) (w : Nat) : Nat × St :=
  if s.2 = 0 then (if s.1 + w ≤ bs.length then (numAt bs s.1 w, (s.1 + w, 0)) else (0, (s.1, 10))) else (0, s)
theorem num1_err {bs : List Bool} {s : St} {w : Nat} (h : s.2 ≠ 0) : num1 bs s w = (0, s) := by unfold num1; rw [if_neg h]
theorem num1_cut {bs : List Bool} {p : Nat} {w : Nat} (h : bs.length < p + w) : num1 bs (p, 0) w = (0, (p, 10)) := by unfold num1; rw [if_pos rfl, if_neg (by simp; omega)]
theorem num1_yes {bs : List Bool} {p : Nat} {w : Nat} (h : p + w ≤ bs.length) : num1 bs (p, 0) w = (numAt bs p w, (p + w, 0)) := by unfold num1; rw [if_pos rfl, if_pos h]
structure RS (W : World) (rr rb : Nat) (l : List UInt8) (s : St) (a : Option Addr) (c : Nat) : Prop where
  blk : BlockIs W rr [.pointer (some ⟨rb, 0, none⟩), .int .i64 s.2] 140
  rd : RdIs W rb true l s.1 a c
  le : s.1 ≤ 8 * l.length
  ne : rr ≠ rb
  ap : ∀ g, a = some g → g.block ≠ rr
/-- what reading writes -/
def RdS (rr rb : Nat) (i : Nat) : Prop := i = rr ∨ i = rb
theorem RS.ext {S : Nat → Prop} {W W' : World} {rr rb : Nat} {l : List UInt8} {s : St} {a : Option Addr} {c : Nat} (h : RS W rr rb l s a c) (e : Ext S W W') (h1 : ¬ S rr) (h2 : ¬ S rb) (h3 : ∀ g, a = some g → ¬ S g.block) : RS W' rr rb l s a c :=
  ⟨h.blk.ext e h1, h.rd.ext e h2 h3, h.le, h.ne, h.ap⟩
theorem RS.pure {W W' : World} {rr rb : Nat} {l : List UInt8} {s : St} {a : Option Addr} {c : Nat} (h : RS W rr rb l s a c) (e : Pure W W') : RS W' rr rb l s a c := h.ext e id id (fun _ _ => id)
theorem RS.setErr {W : World} {rr rb : Nat} {l : List UInt8} {p : Nat} {e0 : Int} {a : Option Addr} {c : Nat} (h : RS W rr rb l (p, e0) a c) (e1 : Int) : RS (W.setCell ⟨rr, 1, none⟩ (.int .i64 e1)) rr rb l (p, e1) a c := by
  have hE : Ext (fun i => i = rr) W (W.setCell ⟨rr, 1, none⟩ (.int .i64 e1)) := (Ext.refl (fun i => i = rr) W).setCell (p := ⟨rr, 1, none⟩) (fun _ => rfl) _
  exact ⟨by simpa using h.blk.set 1 (.int .i64 e1), h.rd.ext hE (fun e => h.ne e.symm) (fun g hg e => h.ap g hg e), h.le, h.ne, h.ap⟩

def NumRes (rr rb : Nat) (l : List UInt8) (s : St) (n : Nat) (a : Option Addr) (c : Nat) (W : World) (e : Ending) (W' : World) : Prop :=
  e = .returned (.int .i64 ((num1 (bitsOf true l) s n).1 : Nat)) ∧ RS W' rr rb l (num1 (bitsOf true l) s n).2 a c ∧ Ext (RdS rr rb) W W'
set_option maxRecDepth 100000 in
theorem num_err (rr rb : Nat) (l : List UInt8) (p : Nat) (er : Int) (a : Option Addr) (c : Nat) (n : Nat) (W : World) (h : RS W rr rb l (p, er) a c) (he : er ≠ 0) :
    Calls Tryz.prog 87 #[.pointer (some ⟨rr, 0, none⟩), .int .i64 n] W (NumRes rr rb l (p, er) n a c W) := by
  have h1 : W.cell? ⟨rr, 0 + 1, none⟩ = some (.int .i64 er) := h.blk.cell 1
  have he' : (er != 0) = true := by simpa using he
  have HN := Lib.hid (num1_err (bs := bitsOf true l) (s := (p, er)) (w := n) he)
  clear he
  go_enter Tryz.func87, Tryz.ntmps87
  go_wp2_with fail
  go_ret
  unfold NumRes
  rw [HN.out]
  exact ⟨rfl, h, Ext.refl _ _⟩
set_option maxRecDepth 100000 in
theorem num_cut (rr rb : Nat) (l : List UInt8) (p : Nat) (a : Option Addr) (c : Nat) (n : Nat) (W : World) (h : RS W rr rb l (p, 0) a c) (hn : n ≤ 32) (hl : l.length ≤ 10000000) (hcut : 8 * l.length < p + n) :
    Calls Tryz.prog 87 #[.pointer (some ⟨rr, 0, none⟩), .int .i64 n] W (NumRes rr rb l (p, 0) n a c W) := by
  have h0 : W.cell? ⟨rr, 0, none⟩ = some (.pointer (some ⟨rb, 0, none⟩)) := h.blk.cell 0
  have h1 : W.cell? ⟨rr, 0 + 1, none⟩ = some (.int .i64 0) := h.blk.cell 1
  have f1 : W.frozen? ⟨rr, 0 + 1, none⟩ = false := h.blk.free 1
  have HG := Lib.hid (get_no2 rb true l p a c n W h.rd (by omega) h.le hn hcut)
  have HN := Lib.hid (num1_cut (bs := bitsOf true l) (p := p) (w := n) (by rw [bitsOf_length]; exact hcut))
  clear hcut
  go_enter Tryz.func87, Tryz.ntmps87
  go_wp2_with fail
  refine HG.out.mono ?_
  rintro e w1 ⟨rfl, q, rfl⟩
  go_wp2_with fail
  go_ret
  unfold NumRes
  rw [HN.out]
  refine ⟨rfl, ?_, ?_⟩
  · have := (h.pure ((Ext.refl (fun _ => False) W).drewN q)).setErr 10
    first | exact this | exact (h.setErr 10).pure ((Ext.refl (fun _ => False) _).drewN q)
  · first | exact ((Ext.refl (RdS rr rb) W).drewN q).setCell (p := ⟨rr, 1, none⟩) (fun _ => Or.inl rfl) _ | exact ((Ext.refl (RdS rr rb) W).setCell (p := ⟨rr, 1, none⟩) (fun _ => Or.inl rfl) _).drewN q
set_option maxRecDepth 100000 in
theorem num_yes (rr rb : Nat) (l : List UInt8) (p : Nat) (a : Option Addr) (c : Nat) (n : Nat) (W : World) (h : RS W rr rb l (p, 0) a c) (hn : n ≤ 32) (hl : l.length ≤ 10000000) (hcut : p + n ≤ 8 * l.length) :
    Calls Tryz.prog 87 #[.pointer (some ⟨rr, 0, none⟩), .int .i64 n] W (NumRes rr rb l (p, 0) n a c W) := by
  have h0 : W.cell? ⟨rr, 0, none⟩ = some (.pointer (some ⟨rb, 0, none⟩)) := h.blk.cell 0
  have h1 : W.cell? ⟨rr, 0 + 1, none⟩ = some (.int .i64 0) := h.blk.cell 1
  have hv := numAt_lt32 (bitsOf true l) p n hn
  have HG0 := get_yes rb true l p a c n W h.rd (by omega) hn hcut
  obtain ⟨v, hvv⟩ : ∃ v, v = numAt (bitsOf true l) p n := ⟨_, rfl⟩
  rw [show num true (((bitsOf true l).drop p).take n) = v from hvv.symm] at HG0
  have HN0 := num1_yes (bs := bitsOf true l) (p := p) (w := n) (by rw [bitsOf_length]; exact hcut)
  rw [← hvv] at hv HN0
  have HG := Lib.hid HG0
  have HN := Lib.hid HN0
  have HC := Lib.hid hcut
  have hne := h.ne
  have hap := h.ap
  have hblk := h.blk
  clear HG0 HN0 hvv hcut h
  go_enter Tryz.func87, Tryz.ntmps87
  go_wp2_with fail
  refine HG.out.mono ?_
  rintro e w1 ⟨rfl, hR, hE⟩
  have hblk1 := hblk.ext hE hne
  have c1 : w1.cell? ⟨rr, 0 + 1, none⟩ = some (.int .i64 0) := hblk1.cell 1
  have f1 : w1.frozen? ⟨rr, 0 + 1, none⟩ = false := hblk1.free 1
  clear HG
  go_wp2_with fail
  go_ret
  unfold NumRes
  rw [HN.out]
  have hRS : RS w1 rr rb l (p + n, 0) a c := ⟨hblk1, hR, HC.out, hne, hap⟩
  exact ⟨rfl, hRS.setErr 0, (hE.mono (T := RdS rr rb) (fun i _ e => Or.inr e)).setCell (p := ⟨rr, 1, none⟩) (fun _ => Or.inl rfl) _⟩
theorem num_any (rr rb : Nat) (l : List UInt8) (s : St) (a : Option Addr) (c : Nat) (n : Nat) (W : World) (h : RS W rr rb l s a c) (hn : n ≤ 32) (hl : l.length ≤ 10000000) :
    Calls Tryz.prog 87 #[.pointer (some ⟨rr, 0, none⟩), .int .i64 n] W (NumRes rr rb l s n a c W) := by
  obtain ⟨p, er⟩ := s
  by_cases he : er = 0
  · subst he
    by_cases hcut : 8 * l.length < p + n
    · exact num_cut rr rb l p a c n W h hn hl hcut
    · exact num_yes rr rb l p a c n W h hn hl (by omega)
  · exact num_err rr rb l p er a c n W h he
end Go.Proofs.YtomcdhljjmnahaaGreat.C27
namespace Go.Proofs.YtomcdhljjmnahaaGreat.C26
set_option linter.unusedVariables false
set_option linter.unusedSimpArgs false
open Go.RowKit Go.Proofs.YtomcdhljjmnahaaGreat

theorem numAt_mid {bs pre post : List Bool} {x n p : Nat} (hb : bs = pre ++ (bitsNum true x n ++ post)) (hp : p = pre.length) (hx : x < 2 ^ n) : numAt bs p n = x := by
  subst hb hp
  unfold numAt
  rw [List.drop_left' rfl, List.take_left' (bitsNum_length true x n)]
  exact num_bitsNum true x n hx
theorem vals_cons (bs : List Bool) (p w k : Nat) : vals bs p w (k + 1) = numAt bs p w :: vals bs (p + w) w k := by
  unfold vals
  rw [List.range_succ_eq_map, List.map_cons, List.map_map]
  congr 1
  · rw [Nat.zero_mul, Nat.add_zero]
  · refine List.map_congr_left fun j _ => ?_
    simp only [Function.comp, Nat.succ_eq_add_one]
    rw [show p + (j + 1) * w = p + w + j * w from by rw [Nat.add_mul]; omega]
theorem vals_flat {bs post : List Bool} {w p n : Nat} : ∀ (xs : List Nat) (pre : List Bool), bs = pre ++ (xs.flatMap (fun x => bitsNum true x w) ++ post) → p = pre.length → n = xs.length → (∀ x ∈ xs, x < 2 ^ w) → vals bs p w n = xs := by
  intro xs
  induction xs generalizing p n with
  | nil => intro pre _ _ hn _; subst hn; rfl
  | cons x xs ih =>
    intro pre hb hp hn hx
    subst hn
    rw [List.length_cons, vals_cons, numAt_mid (pre := pre) (post := xs.flatMap (fun x => bitsNum true x w) ++ post) (by rw [hb, List.flatMap_cons, List.append_assoc]) hp (hx x (by simp))]
    congr 1
    exact ih (pre ++ bitsNum true x w) (by rw [hb, List.flatMap_cons, List.append_assoc, List.append_assoc]) (by rw [List.length_append, bitsNum_length, hp]) rfl (fun y hy => hx y (by simp [hy]))
def bitN (b : Bool) : Nat := if b then 1 else 0
theorem sum_bits (l : List Bool) : (l.map bitN).sum = l.count true := by
  induction l with
  | nil => rfl
  | cons b l ih => rw [List.map_cons, List.sum_cons, ih, List.count_cons]; cases b <;> simp [bitN] <;> omega
theorem bitsOf_append (high : Bool) (x y : List UInt8) : bitsOf high (x ++ y) = bitsOf high x ++ bitsOf high y := by
  apply List.ext_getElem (by rw [List.length_append, bitsOf_length, bitsOf_length, bitsOf_length, List.length_append]; omega)
  intro k h1 h2
  have h1' : k < 8 * (x ++ y).length := by simpa [bitsOf_length] using h1
  have e1 := bitsOf_get high (x ++ y) k h1'
  rw [List.getD_eq_getElem?_getD, List.getElem?_eq_getElem h1, Option.getD_some] at e1
  rw [e1]
  by_cases h : k < (bitsOf high x).length
  · rw [List.getElem_append_left h]
    have hk : k < 8 * x.length := by rwa [bitsOf_length] at h
    have e2 := bitsOf_get high x k hk
    rw [List.getD_eq_getElem?_getD, List.getElem?_eq_getElem h, Option.getD_some] at e2
    rw [e2]; unfold bitOf
    rw [List.getD_eq_getElem?_getD, List.getD_eq_getElem?_getD, List.getElem?_append_left (by omega)]
  · have hge : 8 * x.length ≤ k := by rw [bitsOf_length] at h; omega
    have hk : k - (bitsOf high x).length < (bitsOf high y).length := by rw [List.length_append] at h2; omega
    rw [List.getElem_append_right (by omega)]
    have hk' : k - 8 * x.length < 8 * y.length := by rw [bitsOf_length, bitsOf_length] at hk; omega
    have e2 := bitsOf_get high y (k - (bitsOf high x).length) (by rw [bitsOf_length]; exact hk')
    rw [List.getD_eq_getElem?_getD, List.getElem?_eq_getElem hk, Option.getD_some] at e2
    rw [e2, bitsOf_length]; unfold bitOf
    rw [List.getD_eq_getElem?_getD, List.getD_eq_getElem?_getD, List.getElem?_append_right (by omega), show k / 8 - x.length = (k - 8 * x.length) / 8 from by omega, show (k - 8 * x.length) % 8 = k % 8 from by omega]
theorem al8_id {x : Nat} (h : x % 8 = 0) : al8 x = x := by unfold al8; omega
theorem al8_align (bs : List Bool) : (align bs).length = al8 bs.length := align_length bs
end Go.Proofs.YtomcdhljjmnahaaGreat.C26
namespace Go.Proofs.YtomcdhljjmnahaaGreat.C27
set_option linter.unusedVariables false
set_option linter.unusedSimpArgs false
open Go.RowKit Go.Proofs.YtomcdhljjmnahaaGreat

theorem numAt_mid {bs pre post : List Bool} {x n p : Nat} (hb : bs = pre ++ (bitsNum true x n ++ post)) (hp : p = pre.length) (hx : x < 2 ^ n) : numAt bs p n = x := by
  subst hb hp
  unfold numAt
  rw [List.drop_left' rfl, List.take_left' (bitsNum_length true x n)]
  exact num_bitsNum true x n hx
theorem vals_cons (bs : List Bool) (p w k : Nat) : vals bs p w (k + 1) = numAt bs p w :: vals bs (p + w) w k := by
  unfold vals
  rw [List.range_succ_eq_map, List.map_cons, List.map_map]
  congr 1
  · rw [Nat.zero_mul, Nat.add_zero]
  · refine List.map_congr_left fun j _ => ?_
    simp only [Function.comp, Nat.succ_eq_add_one]
    rw [show p + (j + 1) * w = p + w + j * w from by rw [Nat.add_mul]; omega]
theorem vals_flat {bs post : List Bool} {w p n : Nat} : ∀ (xs : List Nat) (pre : List Bool), bs = pre ++ (xs.flatMap (fun x => bitsNum true x w) ++ post) → p = pre.length → n = xs.length → (∀ x ∈ xs, x < 2 ^ w) → vals bs p w n = xs := by
  intro xs
  induction xs generalizing p n with
  | nil => intro pre _ _ hn _; subst hn; rfl
  | cons x xs ih =>
    intro pre hb hp hn hx
    subst hn
    rw [List.length_cons, vals_cons, numAt_mid (pre := pre) (post := xs.flatMap (fun x => bitsNum true x w) ++ post) (by rw [hb, List.flatMap_cons, List.append_assoc]) hp (hx x (by simp))]
    congr 1
    exact ih (pre ++ bitsNum true x w) (by rw [hb, List.flatMap_cons, List.append_assoc, List.append_assoc]) (by rw [List.length_append, bitsNum_length, hp]) rfl (fun y hy => hx y (by simp [hy]))
def bitN (b : Bool) : Nat := if b then 1 else 0
theorem bits_flat (l : List Bool) : (l.map bitN).flatMap (fun x => bitsNum true x 1) = l := by
  induction l with
  | nil => rfl
  | cons b l ih => rw [List.map_cons, List.flatMap_cons, ih]; cases b <;> rfl
theorem vals_bits {bs pre post l : List Bool} {p n : Nat} (hb : bs = pre ++ (l ++ post)) (hp : p = pre.length) (hn : n = l.length) : vals bs p 1 n = l.map bitN :=
  vals_flat (post := post) (l.map bitN) pre (by rw [bits_flat]; exact hb) hp (by rw [List.length_map]; exact hn) (fun x hx => by obtain ⟨b, _, rfl⟩ := List.mem_map.1 hx; cases b <;> decide)
theorem sum_bits (l : List Bool) : (l.map bitN).sum = l.count true := by
  induction l with
  | nil => rfl
  | cons b l ih => rw [List.map_cons, List.sum_cons, ih, List.count_cons]; cases b <;> simp [bitN] <;> omega
theorem bitsOf_append (high : Bool) (x y : List UInt8) : bitsOf high (x ++ y) = bitsOf high x ++ bitsOf high y := by
  apply List.ext_getElem (by rw [List.length_append, bitsOf_length, bitsOf_length, bitsOf_length, List.length_append]; omega)
  intro k h1 h2
  have h1' : k < 8 * (x ++ y).length := by simpa [bitsOf_length] using h1
  have e1 := bitsOf_get high (x ++ y) k h1'
  rw [List.getD_eq_getElem?_getD, List.getElem?_eq_getElem h1, Option.getD_some] at e1
  rw [e1]
  by_cases h : k < (bitsOf high x).length
  · rw [List.getElem_append_left h]
    have hk : k < 8 * x.length := by rwa [bitsOf_length] at h
    have e2 := bitsOf_get high x k hk
    rw [List.getD_eq_getElem?_getD, List.getElem?_eq_getElem h, Option.getD_some] at e2
    rw [e2]; unfold bitOf
    rw [List.getD_eq_getElem?_getD, List.getD_eq_getElem?_getD, List.getElem?_append_left (by omega)]
  · have hge : 8 * x.length ≤ k := by rw [bitsOf_length] at h; omega
    have hk : k - (bitsOf high x).length < (bitsOf high y).length := by rw [List.length_append] at h2; omega
    rw [List.getElem_append_right (by omega)]
    have hk' : k - 8 * x.length < 8 * y.length := by rw [bitsOf_length, bitsOf_length] at hk; omega
    have e2 := bitsOf_get high y (k - (bitsOf high x).length) (by rw [bitsOf_length]; exact hk')
    rw [List.getD_eq_getElem?_getD, List.getElem?_eq_getElem hk, Option.getD_some] at e2
    rw [e2, bitsOf_length]; unfold bitOf
    rw [List.getD_eq_getElem?_getD, List.getD_eq_getElem?_getD, List.getElem?_append_right (by omega), show k / 8 - x.length = (k - 8 * x.length) / 8 from by omega, show (k - 8 * x.length) % 8 = k % 8 from by omega]
theorem al8_id {x : Nat} (h : x % 8 = 0) : al8 x = x := by unfold al8; omega
theorem al8_align (bs : List Bool) : (align bs).length = al8 bs.length := align_length bs
end Go.Proofs.YtomcdhljjmnahaaGreat.C27
namespace Go.Proofs.YtomcdhljjmnahaaGreat
set_option linter.unusedVariables false
set_option linter.unusedSimpArgs false
open Go.ChangeShapes Go.WideShapes Go.ChangeAt Go.RowKit

theorem own : ownKnob Tryz.prog.godebug = none := by kernel_rfl
theorem laidOut : laidOutB Tryz.prog = true := by kernel_rfl

theorem spot_none {w : World} {x : Addr} {v : Value} (h : w.cell? x = some v) : x.spot = none := by
  unfold World.cell? at h
  split at h
  · split at h
    · cases h
    · next hs => simpa using hs
  · cases h
theorem choose_list {τ : Type} {n : Nat} {p : Nat → τ → Prop} (h : ∀ i, i < n → ∃ q, p i q) : ∃ ps : List τ, ps.length = n ∧ ∀ i (hi : i < ps.length), p i ps[i] := by
  induction n with
  | zero => exact ⟨[], rfl, fun i hi => by simp at hi⟩
  | succ n ih =>
    obtain ⟨ps, hl, hp⟩ := ih (fun i hi => h i (by omega))
    obtain ⟨q, hq⟩ := h n (by omega)
    refine ⟨ps ++ [q], by simp [hl], fun i hi => ?_⟩
    by_cases e : i < ps.length
    · rw [List.getElem_append_left e]; exact hp i e
    · have e' : i = n := by simp at hi; omega
      subst e'
      rw [List.getElem_append_right (by omega)]; simp [hl, hq]
/-- the cells of rows of one size -/
theorem flat_get {τ : Type} {size : Nat} (f : τ → List Value) (rows : List τ) (hs : ∀ r ∈ rows, (f r).length = size) (i : Nat) (hi : i < rows.length) (j : Nat) (hj : j < size) : (rows.flatMap f)[i * size + j]? = (f rows[i])[j]? := by
  induction rows generalizing i with
  | nil => simp at hi
  | cons r rows ih =>
    have h0 := hs r (by simp)
    rw [List.flatMap_cons]
    cases i with
    | zero => rw [Nat.zero_mul, Nat.zero_add, List.getElem?_append_left (by omega)]; rfl
    | succ i =>
      rw [List.getElem?_append_right (by rw [h0, Nat.add_mul]; omega), h0, show (i + 1) * size + j - size = i * size + j from by rw [Nat.add_mul]; omega, ih (fun r hr => hs r (by simp [hr])) i (by simpa using hi)]
      simp
theorem flat_len {τ : Type} {size : Nat} (f : τ → List Value) (rows : List τ) (hs : ∀ r ∈ rows, (f r).length = size) : (rows.flatMap f).length = rows.length * size := by
  induction rows with
  | nil => simp
  | cons r rows ih => rw [List.flatMap_cons, List.length_append, hs r (by simp), ih (fun r hr => hs r (by simp [hr])), List.length_cons, Nat.add_mul]; omega
theorem div_mod_of {k size n : Nat} (h : k < n * size) : k / size < n ∧ k % size < size ∧ k / size * size + k % size = k := by
  have hs : 0 < size := by rcases Nat.eq_zero_or_pos size with e | e; subst e; simp at h; exact e
  exact ⟨Nat.div_lt_of_lt_mul (by rw [Nat.mul_comm]; exact h), Nat.mod_lt _ hs, by rw [Nat.mul_comm]; exact Nat.div_add_mod _ _⟩

section
variable {P : Program} {H : Type} {enc : TypeId × Value → H} {W : World} {held : Bool}
/-- a slice that came in: its rows, each with what it says -/
theorem open_rows {τ : Type} {Q : List Value → τ → Prop} {t e size fuel : Nat} {cs : List Value} {x : DataW H × List MemPlace} (ht : P.underlying t = some (.slice e)) (hsz : P.cellsOf e = size) (hpos : 0 < size)
    (hel : ∀ n cs y, DataW.trod enc P W 0 (fun _ => true) held n e cs = some y → cs.length = size → ∃ v, Q cs v) (h : DataW.trod enc P W 0 (fun _ => true) held fuel t cs = some x) :
    ∃ (a : Option Addr) (cap : Nat) (rows : List (List Value × τ)), cs = [.slice a rows.length cap] ∧ rows.length ≤ cap ∧ cap ≤ maxLen ∧ (a = none → cap = 0) ∧ (∀ r ∈ rows, r.1.length = size ∧ Q r.1 r.2) ∧ RowOf W a (rows.flatMap (·.1)) := by
  rcases Deep.open_slice ht h with ⟨rfl, _⟩ | ⟨a, len, cap, m, n, D, Pl, rfl, _, hl, hm, hmm, _, hx⟩
  · exact ⟨none, 0, [], rfl, Nat.le_refl _, Nat.zero_le _, fun _ => rfl, fun r hr => by simp at hr, row_nil _ _⟩
  · simp at hmm
    subst hmm
    obtain ⟨rows, hrl, hrows⟩ := choose_list (n := len) (p := fun i (r : List Value × τ) => W.cells? 0 (a.add (i * size)) size = some r.1 ∧ r.1.length = size ∧ Q r.1 r.2) (fun i hi => by
      obtain ⟨cs', h1, h2⟩ := hx i (by omega)
      rw [hsz] at h1
      obtain ⟨_, hlen, _⟩ := World.cells?_some h1
      obtain ⟨v, hv⟩ := hel _ _ _ h2 hlen
      exact ⟨(cs', v), h1, hlen, hv⟩)
    have hsize : ∀ r ∈ rows, r.1.length = size := fun r hr => by
      obtain ⟨i, hi, rfl⟩ := List.mem_iff_getElem.1 hr
      exact (hrows i hi).2.1
    refine ⟨some a, m, rows, by rw [hrl], by rw [hrl]; exact hl, hm, (fun h => by cases h), fun r hr => ?_, fun k u hk => ?_⟩
    · obtain ⟨i, hi, rfl⟩ := List.mem_iff_getElem.1 hr
      exact (hrows i hi).2
    · have hklt := (List.getElem?_eq_some_iff.1 hk).1
      rw [flat_len (·.1) rows hsize] at hklt
      obtain ⟨h1, h2, h3⟩ := div_mod_of hklt
      rw [← h3, flat_get (·.1) rows hsize _ h1 _ h2] at hk
      obtain ⟨hc, _, _⟩ := hrows _ h1
      obtain ⟨_, _, hcell⟩ := World.cells?_some hc
      have h0 : 0 < rows.length := Nat.lt_of_le_of_lt (Nat.zero_le _) h1
      obtain ⟨hc0, hl0, _⟩ := hrows 0 h0
      obtain ⟨_, _, hcell0⟩ := World.cells?_some hc0
      have g0 := (hcell0 0 hpos).trans (List.getElem?_eq_getElem (show 0 < rows[0].1.length by omega))
      have g1 := (hcell _ h2).trans hk
      obtain ⟨b, o, s⟩ := a
      have hs : s = none := by
        have := spot_none g0
        simpa [Addr.add] using this
      subst hs
      refine ⟨b, o, rfl, ?_⟩
      rw [addr_add, addr_add] at g1
      rw [← h3, ← Nat.add_assoc]; exact g1
end
end Go.Proofs.YtomcdhljjmnahaaGreat
namespace Go.Proofs.YtomcdhljjmnahaaGreat
set_option linter.unusedVariables false
set_option linter.unusedSimpArgs false
open Go.ChangeShapes Go.WideShapes Go.ChangeAt Go.RowKit

theorem row_of_rows {τ : Type} {W : World} {a : Option Addr} {rows : List (List Value × τ)} {g : τ → Value} (hq : ∀ r ∈ rows, r.1 = [g r.2]) (h : RowOf W a (rows.flatMap (·.1))) : RowOf W a ((rows.map (·.2)).map g) := by
  have : rows.flatMap (·.1) = (rows.map (·.2)).map g := by
    clear h
    induction rows with
    | nil => rfl
    | cons r rows ih => rw [List.flatMap_cons, ih (fun r hr => hq r (by simp [hr])), hq r (by simp)]; rfl
  rw [← this]; exact h
end Go.Proofs.YtomcdhljjmnahaaGreat
namespace Go.Proofs.YtomcdhljjmnahaaGreat
set_option linter.unusedVariables false
set_option linter.unusedSimpArgs false
open Go.RowKit

def normalOnly (K : Act → World → Prop) : Exit → Act → World → Prop
  | .normal, a, w => K a w
  | _, _, _ => False
theorem normalOnly_out {K : Act → World → Prop} (h : LetsOut (normalOnly K)) : False := by obtain ⟨a, w, h⟩ := h; exact h
theorem step_of_list {P : Program} {ops : Array Oper} {o : Oper} {a : Act} {w : World} {K : Act → World → Prop} {Q : Exit → Act → World → Prop}
    (h : wpList P ops (normalOnly K) [o] a w) : if Region.wanted o (yielded ops a.tmps) = true then Oper.wp P o a w K Q else K (a.put o.dst undef) w := by
  unfold wpList at h
  split at h
  · rename_i hw
    rw [if_pos hw]
    rcases h with h | ⟨_, h⟩
    · unfold Oper.wp at *
      generalize (execOp a.eval o).run P w = r at *
      cases r with
      | ok n w' =>
        cases n <;> simp only [Oper.upon] at h ⊢ <;>
          first
            | exact h
            | exact h.elim
            | exact (normalOnly_out h).elim
            | exact Calls.mono h (fun e w'' he => by cases e <;> first | exact he | exact he.elim | exact (normalOnly_out he).elim)
            | exact Rows.mono h (fun _ _ he => he)
      | halt x w' => cases x <;> simp only [Oper.upon] at h ⊢ <;> first | exact h.elim | exact (normalOnly_out h).elim | exact h
    · exact (normalOnly_out h).elim
  · rename_i hw
    rw [if_neg hw]
    exact h
end Go.Proofs.YtomcdhljjmnahaaGreat
namespace Go.Proofs.YtomcdhljjmnahaaGreat
set_option linter.unusedVariables false
set_option linter.unusedSimpArgs false
open Go.RowKit

theorem setRow_is {w : World} {g : Nat} {cur new : List Value} {t : TypeId} (hg : BlockIs w g cur t) : BlockIs (w.setRow g new.toArray) g new t := setRow_heap w g _ _ t _ hg
theorem setRow_ext (w : World) (g : Nat) (cs : Array Value) : Ext (fun k => k = g) w (w.setRow g cs) :=
  ⟨rfl, rfl, rfl, by simp [World.setRow], fun k hk hn => setRow_other w g k cs hn⟩
theorem loads {P : Program} {w : World} {sp : Option Addr} {cs : List Value} (n size len cap : Nat) (hl : cs.length = n * size) (hr : 0 < cs.length → RowOf w sp cs) (hsp : sp = none → cs = []) : (Builtin.firstCells size n (.slice sp len cap)).run P w = .ok cs.toArray w := by
  cases sp with
  | none => obtain rfl := hsp rfl; exact run_firstCells_none w size n len cap
  | some ad =>
    refine run_firstCells_some w size n ad len cap cs hl (fun j v hj => ?_)
    have hlt := (List.getElem?_eq_some_iff.1 hj).1
    obtain ⟨b, o, h1, h2⟩ := hr (by omega) j v hj
    cases h1
    rw [addr_add]; exact h2
theorem run_copy_big {P : Program} (w : World) (dT sT ty elem : TypeId) (size : Nat) (hu : P.underlying dT = some (.slice elem)) (hsz : (P.info? elem).map (·.size) = some size)
    (dp sp : Option Addr) (dLen dCap sLen sCap g off : Nat) (cur : List Value) (t : TypeId) (hg : BlockIs w g cur t) (cs : List Value) (hn : cs.length = Nat.min sLen dLen * size)
    (hpos : 0 < cs.length → dp = some ⟨g, off, none⟩ ∧ RowOf w sp cs) (hfit : off + cs.length ≤ cur.length) (h1 : ∀ v ∈ cs, v.oneCell' = true) :
    ∃ w', BlockIs w' g (splice cur off cs) t ∧ Ext (fun k => k = g) w w' ∧ (Builtin.copy_ #[dT, sT] ty #[.slice dp dLen dCap, .slice sp sLen sCap]).run P w = .ok (goInt (Nat.min sLen dLen)) w' := by
  by_cases h0 : cs.length = 0
  · obtain rfl : cs = [] := List.eq_nil_of_length_eq_zero h0
    refine ⟨w, by simpa [splice] using hg, Ext.refl _ _, ?_⟩
    have hl := loads (P := P) (w := w) (sp := sp) (cs := []) (Nat.min sLen dLen) size sLen sCap hn (fun h => by simp at h) (fun _ => rfl)
    cases hq : P.info? elem with
    | none => simp [hq] at hsz
    | some i =>
      have hi : i.size = size := by simpa [hq] using hsz
      cases dp <;> simp [Builtin.copy_, run_underlying hu, Builtin.lenOf, sizeOf, typeInfo, hq, hi, hl, storeCells]
  · obtain ⟨rfl, hR⟩ := hpos (by omega)
    have hl := loads (P := P) (w := w) (sp := sp) (cs := cs) (Nat.min sLen dLen) size sLen sCap hn (fun _ => hR) (fun e => by
      subst e
      have hlt : 0 < cs.length := by omega
      obtain ⟨_, _, h, _⟩ := hR 0 _ (List.getElem?_eq_getElem hlt)
      cases h)
    have hst := run_storeCells_at P g off t cs 0 cur.toArray w hg (by simpa using hfit) h1
    refine ⟨w.setRow g (splice cur off cs).toArray, setRow_is hg, setRow_ext _ _ _, ?_⟩
    cases hq : P.info? elem with
    | none => simp [hq] at hsz
    | some i =>
      have hi : i.size = size := by simpa [hq] using hsz
      simp [Builtin.copy_, run_underlying hu, Builtin.lenOf, sizeOf, typeInfo, hq, hi, hl, hst, splice]
theorem wpList_copy_big {P : Program} {w : World} {ops : Array Oper} {rest : List Oper} {o : Oper} {a : Act} {Q : Exit → Act → World → Prop} (hgd : o.guard = none) (d s : Operand) (dT sT : TypeId)
    (ho : o.op = .call { callee := .builtin .copy, args := #[d, s], argTypes := #[dT, sT] }) (elem : TypeId) (size : Nat) (hu : P.underlying dT = some (.slice elem)) (hsz : (P.info? elem).map (·.size) = some size)
    (dp sp : Option Addr) (dLen dCap sLen sCap : Nat) (hd : a.eval d = .slice dp dLen dCap) (hs : a.eval s = .slice sp sLen sCap)
    (g off : Nat) (cur : List Value) (t : TypeId) (hg : BlockIs w g cur t) (cs : List Value) (hn : cs.length = Nat.min sLen dLen * size)
    (hpos : 0 < cs.length → dp = some ⟨g, off, none⟩ ∧ RowOf w sp cs) (hfit : off + cs.length ≤ cur.length) (h1 : ∀ v ∈ cs, v.oneCell' = true)
    (h : ∀ w', BlockIs w' g (splice cur off cs) t → Ext (fun k => k = g) w w' → wpList P ops Q rest (a.put o.dst (goInt (Nat.min sLen dLen))) w') :
    wpList P ops Q (o :: rest) a w := by
  refine wpList_plain hgd fun K hK => ?_
  obtain ⟨w', hb, hE, hrun⟩ := run_copy_big (P := P) w dT sT o.type elem size hu hsz dp sp dLen dCap sLen sCap g off cur t hg cs hn hpos hfit h1
  unfold Oper.wp
  simp [execOp, ho, resolve, invoke, builtin, hd, hs, hrun, Result.andThen]
  exact hK _ _ (h w' hb hE)
/-- as one step of a region that draws -/
theorem step_copy_big {P : Program} {ops : Array Oper} {o : Oper} {a : Act} {w : World} {K : Act → World → Prop} {Q : Exit → Act → World → Prop} {E : Prop} (hgd : o.guard = none) (d s : Operand) (dT sT : TypeId)
    (ho : o.op = .call { callee := .builtin .copy, args := #[d, s], argTypes := #[dT, sT] }) (elem : TypeId) (size : Nat) (hu : P.underlying dT = some (.slice elem)) (hsz : (P.info? elem).map (·.size) = some size)
    (dp sp : Option Addr) (dLen dCap sLen sCap : Nat) (hd : a.eval d = .slice dp dLen dCap) (hs : a.eval s = .slice sp sLen sCap)
    (g off : Nat) (cur : List Value) (t : TypeId) (hg : BlockIs w g cur t) (cs : List Value) (hn : cs.length = Nat.min sLen dLen * size)
    (hpos : 0 < cs.length → dp = some ⟨g, off, none⟩ ∧ RowOf w sp cs) (hfit : off + cs.length ≤ cur.length) (h1 : ∀ v ∈ cs, v.oneCell' = true)
    (h : ∀ w', BlockIs w' g (splice cur off cs) t → Ext (fun k => k = g) w w' → K (a.put o.dst (goInt (Nat.min sLen dLen))) w') :
    if Region.wanted o (yielded ops a.tmps) = true then Oper.wp P o a w K Q else E := by
  have hw : Region.wanted o (yielded ops a.tmps) = true := by simp [Region.wanted, hgd]
  rw [if_pos hw]
  obtain ⟨w', hb, hE, hrun⟩ := run_copy_big (P := P) w dT sT o.type elem size hu hsz dp sp dLen dCap sLen sCap g off cur t hg cs hn hpos hfit h1
  unfold Oper.wp
  simp [execOp, ho, resolve, invoke, builtin, hd, hs, hrun, Result.andThen]
  exact h w' hb hE
/-- behind a clear: what stands ahead of the place is as it was -/
theorem wpList_clear_big {P : Program} {w : World} {ops : Array Oper} {rest : List Oper} {o : Oper} {a : Act} {Q : Exit → Act → World → Prop} (hgd : o.guard = none) (d : Operand) (dT : TypeId)
    (ho : o.op = .call { callee := .builtin .clear, args := #[d], argTypes := #[dT] }) (elem : TypeId) (hu : P.underlying dT = some (.slice elem)) (z : Value) (hz : ∀ w, (zeroValue elem).run P w = .ok z w) (hz1 : ∀ v ∈ z.cells, v.oneCell' = true)
    (dp : Option Addr) (dLen dCap : Nat) (hd : a.eval d = .slice dp dLen dCap)
    (g off : Nat) (cur : List Value) (t : TypeId) (hg : BlockIs w g cur t) (hpos : 0 < dLen → dp = some ⟨g, off, none⟩) (hfit : off + dLen * z.cells.size ≤ cur.length)
    (h : ∀ w' cur', BlockIs w' g cur' t → cur'.length = cur.length → cur'.take off = cur.take off → Ext (fun k => k = g) w w' → wpList P ops Q rest (a.put o.dst (.tuple #[])) w') :
    wpList P ops Q (o :: rest) a w := by
  refine wpList_plain hgd fun K hK => ?_
  by_cases h0 : dLen = 0
  · subst h0
    have hrun : (Builtin.clear_ #[dT] o.type #[.slice dp 0 dCap]).run P w = .ok (.tuple #[]) w := by
      cases dp <;> simp [Builtin.clear_, run_underlying hu]
    unfold Oper.wp
    simp [execOp, ho, resolve, invoke, builtin, hd, hrun, Result.andThen]
    exact hK _ _ (h w cur hg rfl rfl (Ext.refl _ _))
  · obtain rfl := hpos (by omega)
    obtain ⟨zs, hzs⟩ : ∃ zs, zs = (Builtin.zeroCells z.cells dLen).toList := ⟨_, rfl⟩
    have hzl : zs.length = dLen * z.cells.size := by rw [hzs]; simp [Builtin.zeroCells]
    have hz2 : ∀ v ∈ zs, v.oneCell' = true := by
      intro v hv
      rw [hzs] at hv
      simp only [Builtin.zeroCells, Array.mem_toList_iff, Array.mem_map, Array.mem_range] at hv
      obtain ⟨k, hk, rfl⟩ := hv
      have hm : k % z.cells.size < z.cells.size := Nat.mod_lt _ (by rcases Nat.eq_zero_or_pos z.cells.size with e | e; rw [e] at hk; simp at hk; exact e)
      rw [getElem!_pos z.cells _ hm]
      exact hz1 _ (Array.getElem_mem hm)
    have hst := run_storeCells_at P g off t zs 0 cur.toArray w hg (by rw [hzl]; simpa using hfit) hz2
    have hrun : (Builtin.clear_ #[dT] o.type #[.slice (some ⟨g, off, none⟩) dLen dCap]).run P w = .ok (.tuple #[]) (w.setRow g (splice cur off zs).toArray) := by
      obtain ⟨m, rfl⟩ : ∃ m, dLen = m + 1 := ⟨dLen - 1, by omega⟩
      simp [Builtin.clear_, run_underlying hu, hz, ← hzs, hst, splice]
    unfold Oper.wp
    simp [execOp, ho, resolve, invoke, builtin, hd, hrun, Result.andThen]
    refine hK _ _ (h _ (splice cur off zs) (setRow_is hg) (length_splice _ _ _ (by omega)) ?_ (setRow_ext _ _ _))
    rw [splice, List.take_append_of_le_length (by simp; omega), List.take_take, Nat.min_self]
/-- 'append(s, make([]T, k)...)' where s has no room: a new row -/
theorem wpList_append_make {P : Program} {w : World} {ops : Array Oper} {rest : List Oper} {o : Oper} {a : Act} {Q : Exit → Act → World → Prop} (hgd : o.guard = none) (s x : Operand) (t tn : TypeId)
    (ho : o.op = .call { callee := .builtin .append, args := #[s, x], argTypes := #[t, tn] }) (e : TypeId) (ht : P.underlying t = some (.slice e)) (htn : P.underlying tn = some (.int .i64))
    (z : Value) (size bytes : Nat) (hinfo : (P.info? e).map (fun i => (i.zero, i.size, i.bytes)) = some (some z, size, bytes)) (hzs : z.cells.size = size) (hsz : 0 < size)
    (sp : Option Addr) (n c k : Nat) (xs : List Value) (hs : a.eval s = .slice sp n c) (hx : a.eval x = .int .i64 k) (hl : xs.length = n * size) (hr : 0 < xs.length → RowOf w sp xs) (hsp : sp = none → xs = [])
    (h0 : 0 < k) (hroom : c < n + k) (hbytes : (n + k) * bytes ≤ 140737488355328) (h63 : n + k ≤ maxLen)
    (h : ∀ w' G rest', BlockIs w' w.heap.size (xs ++ rest') e → rest'.length + xs.length = G * size → n + k ≤ G → G ≤ maxLen → Pure w w' → wpList P ops Q rest (a.put o.dst (.slice (some ⟨w.heap.size, 0, none⟩) (n + k) G)) w') :
    wpList P ops Q (o :: rest) a w := by
  obtain ⟨i, hi, hz, hsize, hby⟩ := info_parts hinfo
  have hold : (Builtin.firstCells i.size n (.slice sp n c)).run P w.drew = .ok xs.toArray w.drew := loads n i.size n c (by rw [hsize]; exact hl) (fun hp => hr hp) hsp
  have hmk : k * i.bytes ≤ 281474976710656 := by
    rw [hby]
    have : k * bytes ≤ (n + k) * bytes := Nat.mul_le_mul_right _ (by omega)
    omega
  have hrun := Lib.run_append_grow_zeros w t tn o.type e i z .i64 .i64 ht htn hi hz sp n c xs hold k h0 (by omega) hroom (by unfold maxLen at h63; omega) hmk (by rw [hby]; exact growslice_fits hroom hbytes)
  have hG := grownCap_ge w (n + k) c e
  have hG2 := grownCap_le_maxLen w (n + k) c e h63
  generalize grownCap w (n + k) c e = G at *
  refine Lib.wpList_append_run w hgd s x t tn ho _ _ hs hx _ _ hrun (h _ G ((Builtin.zeroCells z.cells k).toList ++ (Builtin.zeroCells z.cells (G - (n + k))).toList) ?_ ?_ hG hG2 ((Ext.refl _ w).drew.alloc _))
  · have := BlockIs.new w.drew (xs ++ ((Builtin.zeroCells z.cells k).toList ++ (Builtin.zeroCells z.cells (G - (n + k))).toList)) e
    have e : (xs ++ ((Builtin.zeroCells z.cells k).toList ++ (Builtin.zeroCells z.cells (G - (n + k))).toList)).toArray = xs.toArray ++ Builtin.zeroCells z.cells k ++ Builtin.zeroCells z.cells (G - (n + k)) := by
      apply Array.ext'
      simp
    rw [e] at this
    exact this
  · have e1 : (Builtin.zeroCells z.cells k).toList.length = k * size := by simp [Builtin.zeroCells, hzs]
    have e2 : (Builtin.zeroCells z.cells (G - (n + k))).toList.length = (G - (n + k)) * size := by simp [Builtin.zeroCells, hzs]
    rw [List.length_append, e1, e2, hl, ← Nat.add_mul, ← Nat.add_mul]
    congr 1
    omega
/-- slices.overlaps of two rows of blocks of their own -/
theorem run_overlaps_rows {P : Program} {w : World} {tS tR e : TypeId} (ht : P.underlying tS = some (.slice e)) (size : Nat) (hz : ∀ w, (Go.sizeOf e).run P w = .ok size w)
    (a b : Addr) (la ca lb cb : Nat) (hne : a.block ≠ b.block) {tA tB : TypeId} {curA curB : List Value} (hA : BlockIs w a.block curA tA) (hB : BlockIs w b.block curB tB) (hkB : curB.length ≠ 0) (has : a.spot = none) :
    (Extern.SlicesOverlaps.overlaps #[tS, tS] #[tR] #[.slice (some a) la ca, .slice (some b) lb cb]).run P w = .ok (.bool false) w := by
  obtain ⟨ab, ao, aq⟩ := a
  simp only at has hne hA
  subst has
  refine Lib.run_overlaps_apart w tS tR e ht size hz _ _ la ca lb cb hne tA tB curA.length curB.length ?_ ?_ hkB (hA.free _) (hA.free _)
  · unfold BlockIs at hA; unfold World.shape?; rw [hA]; simp
  · unfold BlockIs at hB; unfold World.shape?; rw [hB]; simp
end Go.Proofs.YtomcdhljjmnahaaGreat
namespace Go.Proofs.YtomcdhljjmnahaaGreat.C26
set_option linter.unusedVariables false
set_option linter.unusedSimpArgs false
open Go.RowKit Go.Proofs.YtomcdhljjmnahaaGreat

structure TS (T : TypeId) (w W : World) (cells : List Value) (bs : List Bool) (a : Option Addr) (c : Nat) : Prop where
  own : W.ownsRow (w.heap.size + 1) 4 1 (.slice a bs.length c) bs.length (bs.map Value.bool)
  box : BlockIs W w.heap.size cells T
  pure : Pure w W
variable {T : TypeId} {w W W' : World} {cells : List Value} {bs bs' : List Bool} {a a' : Option Addr} {c c' : Nat}
theorem TS.of (hB : BlockIs W w.heap.size cells T) (hP : Pure w W) (hE : Ext (fun i => w.heap.size < i) W W') (hO : W'.ownsRow (w.heap.size + 1) 4 1 (.slice a bs.length c) bs.length (bs.map Value.bool)) : TS T w W' cells bs a c :=
  ⟨hO, hB.ext hE (Nat.lt_irrefl _), hP.trans hE (fun i hi e => by omega)⟩
theorem TS.start (hB : BlockIs W w.heap.size cells T) (hP : Pure w W) : TS T w W cells [] none 0 := ⟨World.ownsRow_nil _ _ _ _, hB, hP⟩
theorem TS.size (h : TS T w W cells bs a c) : w.heap.size + 1 ≤ W.heap.size := h.box.lt
theorem TS.cell (h : TS T w W cells bs a c) (i : Nat) : W.cell? ⟨w.heap.size, i, none⟩ = cells[i]? := h.box.cell i
theorem TS.later (h : TS T w W cells bs a c) (hE : Pure W W') : TS T w W' cells bs a c := ⟨own_ext h.own hE (fun _ _ => id), h.box.ext hE id, h.pure.pure hE⟩
theorem TS.row (h : TS T w W cells bs a c) : RowOf W a (bs.map Value.bool) := own_row h.own
theorem TS.ownExt (h : TS T w W cells bs a c) (hE : Ext (fun i => (Value.slice a bs.length c).ownBlock = some i) W W') : Ext (fun i => w.heap.size < i) W W' := hE.mono (fun i _ e => (h.own.lt i e).1)
def PutRes (T : TypeId) (w : World) (cells : List Value) (bs : List Bool) (W : World) (e : Ending) (W' : World) : Prop := ∃ a' c', e = .returned (.slice a' bs.length c') ∧ TS T w W' cells bs a' c' ∧ Ext (fun i => w.heap.size < i) W W'
theorem tsput (h : TS T w W cells bs a c) (x n : Nat) (hlen : bs.length ≤ 1000000000) (hn : n ≤ 32) (hx : x < 4294967296) (hxn : x < 2 ^ n) :
    Calls Tryz.prog 108 #[.slice a bs.length c, .int .i64 x, .int .i64 n] W (PutRes T w cells (bs ++ bitsNum true x n) W) :=
  (refput_any (w.heap.size + 1) bs a c x n W h.size h.own hlen hn hx hxn).mono fun e W' ⟨a', c', he, hO, hE, _⟩ => ⟨a', c', he, TS.of h.box h.pure (h.ownExt hE) hO, h.ownExt hE⟩
theorem tsfull (h : TS T w W cells bs a c) (hlen : bs.length ≤ 1000000000) :
    Calls Tryz.prog 109 #[.slice a bs.length c] W (PutRes T w cells (align bs) W) :=
  (reffull_any (w.heap.size + 1) bs a c W h.size h.own hlen).mono fun e W' ⟨a', c', he, hO, hE, _⟩ => ⟨a', c', he, TS.of h.box h.pure (h.ownExt hE) hO, h.ownExt hE⟩
end Go.Proofs.YtomcdhljjmnahaaGreat.C26
namespace Go.Proofs.YtomcdhljjmnahaaGreat.C27
set_option linter.unusedVariables false
set_option linter.unusedSimpArgs false
open Go.RowKit Go.Proofs.YtomcdhljjmnahaaGreat

structure TS (T : TypeId) (w W : World) (cells : List Value) (bs : List Bool) (a : Option Addr) (c : Nat) : Prop where
  own : W.ownsRow (w.heap.size + 1) 4 1 (.slice a bs.length c) bs.length (bs.map Value.bool)
  box : BlockIs W w.heap.size cells T
  pure : Pure w W
variable {T : TypeId} {w W W' : World} {cells : List Value} {bs bs' : List Bool} {a a' : Option Addr} {c c' : Nat}
theorem TS.of (hB : BlockIs W w.heap.size cells T) (hP : Pure w W) (hE : Ext (fun i => w.heap.size < i) W W') (hO : W'.ownsRow (w.heap.size + 1) 4 1 (.slice a bs.length c) bs.length (bs.map Value.bool)) : TS T w W' cells bs a c :=
  ⟨hO, hB.ext hE (Nat.lt_irrefl _), hP.trans hE (fun i hi e => by omega)⟩
theorem TS.start (hB : BlockIs W w.heap.size cells T) (hP : Pure w W) : TS T w W cells [] none 0 := ⟨World.ownsRow_nil _ _ _ _, hB, hP⟩
theorem TS.size (h : TS T w W cells bs a c) : w.heap.size + 1 ≤ W.heap.size := h.box.lt
theorem TS.cell (h : TS T w W cells bs a c) (i : Nat) : W.cell? ⟨w.heap.size, i, none⟩ = cells[i]? := h.box.cell i
theorem TS.later (h : TS T w W cells bs a c) (hE : Pure W W') : TS T w W' cells bs a c := ⟨own_ext h.own hE (fun _ _ => id), h.box.ext hE id, h.pure.pure hE⟩
theorem TS.row (h : TS T w W cells bs a c) : RowOf W a (bs.map Value.bool) := own_row h.own
theorem TS.ownExt (h : TS T w W cells bs a c) (hE : Ext (fun i => (Value.slice a bs.length c).ownBlock = some i) W W') : Ext (fun i => w.heap.size < i) W W' := hE.mono (fun i _ e => (h.own.lt i e).1)
def PutRes (T : TypeId) (w : World) (cells : List Value) (bs : List Bool) (W : World) (e : Ending) (W' : World) : Prop := ∃ a' c', e = .returned (.slice a' bs.length c') ∧ TS T w W' cells bs a' c' ∧ Ext (fun i => w.heap.size < i) W W'
theorem tsput (h : TS T w W cells bs a c) (x n : Nat) (hlen : bs.length ≤ 1000000000) (hn : n ≤ 32) (hx : x < 4294967296) (hxn : x < 2 ^ n) :
    Calls Tryz.prog 112 #[.slice a bs.length c, .int .i64 x, .int .i64 n] W (PutRes T w cells (bs ++ bitsNum true x n) W) :=
  (refput_any (w.heap.size + 1) bs a c x n W h.size h.own hlen hn hx hxn).mono fun e W' ⟨a', c', he, hO, hE, _⟩ => ⟨a', c', he, TS.of h.box h.pure (h.ownExt hE) hO, h.ownExt hE⟩
theorem tsfull (h : TS T w W cells bs a c) (hlen : bs.length ≤ 1000000000) :
    Calls Tryz.prog 113 #[.slice a bs.length c] W (PutRes T w cells (align bs) W) :=
  (reffull_any (w.heap.size + 1) bs a c W h.size h.own hlen).mono fun e W' ⟨a', c', he, hO, hE, _⟩ => ⟨a', c', he, TS.of h.box h.pure (h.ownExt hE) hO, h.ownExt hE⟩
/-- behind an append of one bit, laid in a block of its own first -/
theorem TS.appended {o : Obj} (h : TS T w W cells bs a c) (hO : W'.ownsRow (w.heap.size + 1) 4 1 (.slice a' bs'.length c') bs'.length (bs'.map Value.bool)) (hg : (W.alloc o).grownBy W' (Value.slice a bs.length c).ownBlock) : TS T w W' cells bs' a' c' := by
  have h' := h.later (ext_alloc W o)
  exact TS.of h'.box h'.pure (h'.ownExt (ext_of_grown hg)) hO
end Go.Proofs.YtomcdhljjmnahaaGreat.C27
namespace Go.Proofs.YtomcdhljjmnahaaGreat
set_option linter.unusedVariables false
set_option linter.unusedSimpArgs false
open Go.RowKit

def wid (x : Nat) : Nat := if x = 0 then 0 else x.log2 + 1
theorem wid_le {x n : Nat} : wid x ≤ n ↔ x < 2 ^ n := by
  unfold wid
  split
  · next h => subst h; simp [Nat.two_pow_pos]
  · next h => rw [← Nat.log2_lt h]; omega
theorem lt_wid (x : Nat) : x < 2 ^ wid x := wid_le.1 (Nat.le_refl _)
theorem wid_eq {x n : Nat} (h1 : x < 2 ^ n) (h2 : ∀ m, x < 2 ^ m → n ≤ m) : wid x = n := Nat.le_antisymm (wid_le.2 h1) (h2 _ (lt_wid x))
theorem wid_div (x k : Nat) (h : 2 ^ k ≤ x) : wid x = k + wid (x / 2 ^ k) := by
  refine wid_eq ?_ fun m hm => ?_
  · have := lt_wid (x / 2 ^ k)
    rw [Nat.div_lt_iff_lt_mul (Nat.two_pow_pos k), ← Nat.pow_add] at this
    rwa [Nat.add_comm] 
  · have hkm : k ≤ m := by
      rcases Nat.lt_or_ge m k with h1 | h1
      · have := Nat.pow_le_pow_right (show 0 < 2 by decide) (Nat.le_of_lt h1); omega
      · exact h1
    have : wid (x / 2 ^ k) ≤ m - k := by
      rw [wid_le, Nat.div_lt_iff_lt_mul (Nat.two_pow_pos k), ← Nat.pow_add, Nat.sub_add_cancel hkm]
      exact hm
    omega
theorem wid_mod_succ (x k : Nat) : wid (x % 2 ^ (k + 1)) = if x.testBit k then k + 1 else wid (x % 2 ^ k) := by
  have hp : 0 < 2 ^ k := Nat.two_pow_pos k
  have hm : x % 2 ^ (k + 1) = x % 2 ^ k + 2 ^ k * (x / 2 ^ k % 2) := by rw [Nat.pow_succ, Nat.mod_mul]
  have hlt : x % 2 ^ k < 2 ^ k := Nat.mod_lt _ hp
  rw [Nat.testBit_eq_decide_div_mod_eq]
  by_cases h : x / 2 ^ k % 2 = 1
  · rw [decide_eq_true h, if_pos rfl]
    rw [h] at hm
    refine wid_eq (Nat.mod_lt _ (Nat.two_pow_pos _)) fun m hm' => ?_
    rcases Nat.lt_or_ge m (k + 1) with h1 | h1
    · have := Nat.pow_le_pow_right (show 0 < 2 by decide) (show m ≤ k by omega); omega
    · exact h1
  · rw [decide_eq_false h]
    rw [show x / 2 ^ k % 2 = 0 from by omega, Nat.mul_zero, Nat.add_zero] at hm
    rw [hm]; rfl
set_option maxRecDepth 100000 in
theorem refwidth_any (x : Nat) (w : World) (hx : x < 4294967296) :
    Calls Tryz.prog 107 #[.int .u32 x] w fun e w' => e = .returned (.int .i64 (wid x)) ∧ w' = w := by
  have HX := Lib.hid (Nat.mod_eq_of_lt (show x < 2 ^ 32 from hx))
  go_enter Tryz.func107, Tryz.ntmps107
  go_wp2_with fail
  go_loopw [3, 4] (fun v i w' => ∃ k : Nat, k ≤ 32 ∧ i = .int .i64 k ∧ v = .int .i64 (wid (x % 2 ^ k)) ∧ w' = w) (fun _ i _ => 32 - (intOf i).toNat)
  case atStart => exact ⟨0, Nat.zero_le _, rfl, by rw [Nat.pow_zero, Nat.mod_one]; rfl, rfl⟩
  case round =>
    obtain ⟨k, hk, rfl, rfl, hw⟩ := hrel
    obtain rfl := hw.symm
    obtain ⟨y, hy⟩ : ∃ y, y = wid (x % 2 ^ k) := ⟨_, rfl⟩
    rw [← hy]
    by_cases hlt : k < 32
    · have hki : (k : Int) < 32 := by omega
      have HB := Lib.hid (refbit_any x k w hx (by omega))
      have hs := wid_mod_succ x k
      rw [← hy] at hs
      clear hy
      cases hb : x.testBit k with
      | true =>
        rw [hb] at HB hs
        have HS := Lib.hid hs
        clear hs hb
        go_wp2_with fail
        refine HB.out.mono ?_
        rintro e w2 ⟨rfl, hw2⟩
        obtain rfl := hw2.symm
        go_wp2_with fail
        go_roundw
        case rel => exact ⟨k + 1, by omega, by go_num, by rw [HS.out]; go_num, by first | rfl | trivial⟩
        case measure => simp [intOf]; omega
      | false =>
        rw [hb] at HB hs
        have HS := Lib.hid hs
        clear hs hb
        go_wp2_with fail
        refine HB.out.mono ?_
        rintro e w2 ⟨rfl, hw2⟩
        obtain rfl := hw2.symm
        go_wp2_with fail
        go_roundw
        case rel => exact ⟨k + 1, by omega, by go_num, by rw [HS.out]; rfl, by first | rfl | trivial⟩
        case measure => simp [intOf]; omega
    · have hki : ¬ (k : Int) < 32 := by omega
      obtain rfl : k = 32 := by omega
      rw [HX.out] at hy
      have HY := Lib.hid hy
      clear hy
      go_wp2_with fail
      go_ret
      exact ⟨by rw [← HY.out]; rfl, by first | rfl | trivial⟩
theorem tab_get (y : Nat) (h : y < Lib.len8tab.size) : Lib.len8tab[y].toNat = wid y := by
  have all : ∀ i : Fin 256, Lib.len8tab[i.val]!.toNat = wid i.val := by decide +kernel
  have hs : Lib.len8tab.size = 256 := by decide +kernel
  rw [← all ⟨y, by omega⟩, getElem!_pos Lib.len8tab y h]
theorem wid_le8 (y : Nat) (h : y < 256) : wid y ≤ 8 := wid_le.2 h
set_option maxHeartbeats 4000000 in
set_option maxRecDepth 100000 in
theorem len32_int (x : Int) (w : World) (h0 : 0 ≤ x) (h1 : x ≤ 4294967295) :
    Calls Tryz.prog 97 #[.int .u32 x] w fun e w' => e = .returned (.int .i64 (wid x.toNat)) ∧ w' = w := by
  have hz : (Lib.len8tab.size : Int) = 256 := by decide +kernel
  go_enter Tryz.func97, Tryz.ntmps97
  go_wp2
  all_goals (go_ret; refine ⟨congrArg Ending.returned (congrArg (Value.int IntKind.i64) ?_), rfl⟩; rw [tab_get]; clear hz; obtain ⟨x, rfl⟩ := Int.eq_ofNat_of_zero_le h0; rw [Int.toNat_natCast])
  · have e : ((x : Int) / 65536 / 256).toNat = x / 65536 / 256 := by omega
    have s1 := wid_div x 16 (by omega)
    simp only [Nat.reducePow] at s1
    have s2 := wid_div (x / 65536) 8 (by omega)
    simp only [Nat.reducePow] at s2
    have l := wid_le8 (x / 65536 / 256) (by omega)
    rw [e, s1, s2]; generalize wid (x / 65536 / 256) = q at *
    unfold wrap64; omega
  · have e : ((x : Int) / 65536).toNat = x / 65536 := by omega
    have s1 := wid_div x 16 (by omega)
    simp only [Nat.reducePow] at s1
    have l := wid_le8 (x / 65536) (by omega)
    rw [e, s1]; generalize wid (x / 65536) = q at *
    unfold wrap64; omega
  · have e : ((x : Int) / 256).toNat = x / 256 := by omega
    have s1 := wid_div x 8 (by omega)
    simp only [Nat.reducePow] at s1
    have l := wid_le8 (x / 256) (by omega)
    rw [e, s1]; generalize wid (x / 256) = q at *
    unfold wrap64; omega
  · have l := wid_le8 x (by omega)
    have e : (x : Int).toNat = x := by omega
    try rw [e]
    generalize wid x = q at *
    unfold wrap64; omega
theorem width_any (x : Nat) (w : World) (hx : x < 4294967296) :
    Calls Tryz.prog 58 #[.int .u32 x] w fun e w' => e = .returned (.int .i64 (wid x)) ∧ w' = w := by
  have HL := Lib.hid (len32_int (x : Int) w (by omega) (by omega))
  go_enter Tryz.func58, Tryz.ntmps58
  go_wp2_with fail
  refine HL.out.mono ?_
  rintro e w2 ⟨rfl, hw2⟩
  obtain rfl := hw2.symm
  go_wp2_with fail
  go_ret
  exact ⟨by rfl, rfl⟩
end Go.Proofs.YtomcdhljjmnahaaGreat
