/-
  Walked: the reference's bits of a number, and the bytes of bits.
-/
import Derived.Test.YtdhejhgpjeenaaaPutPlain
import Derived.Test.YtdhejhgpjeenaaaRefBits
import Derived.OwnWalk
import Derived.Laws.OwnMore
namespace Go.Proofs.Ytdhejhgpjeenaaa
open Go.RowKit
set_option linter.unusedVariables false
def lenOf : Value → Nat
  | .slice _ n _ => n
  | _ => 0
theorem own_blk {a : Option Addr} {n c i : Nat} (h : (Value.slice a n c).ownBlock = some i) : ∃ g, a = some g ∧ g.block = i := by
  cases a with
  | none => cases h
  | some y =>
    have e : some y.block = some i := h
    exact ⟨y, rfl, Option.some.inj e⟩
theorem own_form' {w : World} {B e size n : Nat} {a : Option Addr} {m c : Nat} {xs : List Value} (h : w.ownsRow B e size (.slice a m c) n xs) : a = none → c = 0 := by
  obtain ⟨_, _, hh, _, _, h3, _⟩ := own_form h
  cases hh
  exact h3
theorem bool_one (l : List Bool) : ∀ u ∈ l.map Value.bool, u.oneCell' = true := by intro u hu; obtain ⟨y, _, rfl⟩ := List.mem_map.1 hu; rfl
set_option maxRecDepth 100000 in
theorem number_no1 (x n : Int) (high : Bool) (w : World) (hn : n < 0 ∨ 32 < n) :
    Calls Try.prog 70 #[.int .u32 x, .int .i64 n, .bool high] w fun e w' => e = .returned (.tuple #[.slice none 0 0, .bool false]) ∧ w' = w := by
  rcases hn with hn | hn
  · go_enter Try.func70, Try.ntmps70
    go_wp2_with fail
    go_ret2
    exact ⟨rfl, rfl⟩
  · have h0 : ¬ n < 0 := by omega
    go_enter Try.func70, Try.ntmps70
    go_wp2_with fail
    go_ret2
    exact ⟨rfl, rfl⟩
set_option maxRecDepth 100000 in
theorem number_no2 (x n : Nat) (high : Bool) (w : World) (hn : n ≤ 32) (hx : x < 4294967296) (hxn : 2 ^ n ≤ x) :
    Calls Try.prog 70 #[.int .u32 x, .int .i64 n, .bool high] w fun e w' => e = .returned (.tuple #[.slice none 0 0, .bool false]) ∧ w' = w := by
  have h0 : ¬ (n : Int) < 0 := by omega
  have h1 : ¬ (32 : Int) < (n : Int) := by omega
  have HX := Lib.hid hxn
  clear hxn
  go_enter Try.func70, Try.ntmps70
  go_wp2_with fail
  go_loopw [8] (fun i w' => ∃ k : Nat, n ≤ k ∧ k ≤ 32 ∧ i = .int .i64 k ∧ (∀ j, n ≤ j → j < k → x.testBit j = false) ∧ w' = w) (fun i _ => 32 - (intOf i).toNat)
  case atStart => exact ⟨n, Nat.le_refl _, hn, rfl, fun j h1 h2 => (by omega), rfl⟩
  case round =>
    obtain ⟨k, hk1, hk, rfl, hall, hw⟩ := hrel
    obtain rfl := hw.symm
    have HA := Lib.hid hall
    clear hall
    by_cases hlt : k < 32
    · have hki : (k : Int) < 32 := by omega
      have HB := Lib.hid (refbit_any x k w hx (by omega))
      obtain ⟨β, hβ⟩ : ∃ β, β = x.testBit k := ⟨_, rfl⟩
      rw [← hβ] at HB
      cases β with
      | false =>
        have HV := Lib.hid hβ
        clear hβ
        go_wp2_with fail
        refine HB.out.mono ?_
        rintro e w2 ⟨rfl, hw2⟩
        obtain rfl := hw2.symm
        go_wp2_with fail
        go_roundw
        case rel => exact ⟨k + 1, by omega, by omega, by go_num, fun j h1 h2 => (by by_cases e : j = k; · rw [e]; exact HV.out.symm
                                                                                    exact HA.out j h1 (by omega)), by first | rfl | trivial⟩
        case measure => simp [intOf]; omega
      | true =>
        clear hβ
        go_wp2_with fail
        refine HB.out.mono ?_
        rintro e w2 ⟨rfl, hw2⟩
        obtain rfl := hw2.symm
        go_wp2_with fail
        go_ret2
        exact ⟨rfl, rfl⟩
    · exact absurd (high_none x n hx (fun j h1 h2 => HA.out j h1 (by omega))) (by have := HX.out; omega)
set_option maxHeartbeats 2000000 in
set_option maxRecDepth 100000 in
theorem number_yes (x n : Nat) (high : Bool) (w : World) (hn : n ≤ 32) (hx : x < 4294967296) (hxn : x < 2 ^ n) :
    Calls Try.prog 70 #[.int .u32 x, .int .i64 n, .bool high] w fun e w' => ∃ a c, e = .returned (.tuple #[.slice a n c, .bool true]) ∧ w'.ownsRow w.heap.size 4 1 (.slice a n c) n ((bitsNum high x n).map Value.bool) ∧ Pure w w' := by
  have h0 : ¬ (n : Int) < 0 := by omega
  have h1 : ¬ (32 : Int) < (n : Int) := by omega
  have HX := Lib.hid hxn
  clear hxn
  go_enter Try.func70, Try.ntmps70
  go_wp2_with fail
  go_loopw [8] (fun i w' => ∃ k : Nat, n ≤ k ∧ k ≤ 32 ∧ i = .int .i64 k ∧ w' = w) (fun i _ => 32 - (intOf i).toNat)
  case atStart => exact ⟨n, Nat.le_refl _, hn, rfl, rfl⟩
  case round =>
    obtain ⟨k, hk1, hk, rfl, hw⟩ := hrel
    obtain rfl := hw.symm
    by_cases hlt : k < 32
    · have hki : (k : Int) < 32 := by omega
      have HB := Lib.hid (refbit_any x k w hx (by omega))
      rw [show x.testBit k = false from Nat.testBit_lt_two_pow (Nat.lt_of_lt_of_le HX.out (Nat.pow_le_pow_right (by decide) hk1))] at HB
      go_wp2_with fail
      refine HB.out.mono ?_
      rintro e w2 ⟨rfl, hw2⟩
      obtain rfl := hw2.symm
      go_wp2_with fail
      go_roundw
      case rel => exact ⟨k + 1, by omega, by omega, by go_num, by first | rfl | trivial⟩
      case measure => simp [intOf]; omega
    · have hki : ¬ (k : Int) < 32 := by omega
      go_wp2_with fail
      go_loopw [9, 10] (fun v i w' => ∃ (k : Nat) (a : Option Addr) (c : Nat), k ≤ n ∧ i = .int .i64 k ∧ v = .slice a k c ∧ w'.ownsRow w.heap.size 4 1 v k (((bitsNum high x n).take k).map Value.bool) ∧ Pure w w') (fun _ i _ => n - (intOf i).toNat)
      case atStart => exact ⟨0, none, 0, Nat.zero_le _, rfl, rfl, World.ownsRow_nil _ _ _ _, Ext.refl _ _⟩
      case round =>
        obtain ⟨j, a, c, hj, rfl, rfl, hown, hE⟩ := hrel
        by_cases hjn : j < n
        · have hji : (j : Int) < (n : Int) := by omega
          have HS := Lib.hid (bitsNum_take high x n j hjn)
          cases high with
          | true =>
            obtain ⟨t, ht⟩ : ∃ t : Nat, t = n - 1 - j := ⟨_, rfl⟩
            have hz : (n : Int) - 1 - (j : Int) = (t : Int) := by omega
            have hz' : IntKind.i64.wrap (t : Int) = (t : Int) := IntWalk.i64_in _ (by omega)
            have hS := HS.out
            rw [show turn true j n = t from ht ▸ rfl] at hS
            have HS2 := Lib.hid hS
            have HB := Lib.hid (fun w => refbit_any x t w hx (by omega))
            clear HS hS ht
            go_wp2_with fail
            refine (HB.out _).mono ?_
            rintro e w2 ⟨rfl, hw2⟩
            obtain rfl := hw2.symm
            go_wp2_with (at_builtin; refine wpList_append_fresh rfl (.tmp 31) (.tmp 38) 79 rfl w.heap.size 4 (.bool false) 1 1 Try.underlying79 infoBool rfl (by decide) _ j (((bitsNum true x n).take j).map Value.bool) rfl (hown.alloc _) (some ⟨wr.heap.size, 0, none⟩) 1 1 [.bool (x.testBit t)] rfl (fun e => by cases e) rfl (row_at _ rfl rfl) (fun u hu => by simp at hu; subst hu; rfl) (j + 1) rfl (((bitsNum true x n).take (j + 1)).map Value.bool) (by rw [HS2.out]; simp) (by omega) (by unfold maxLen; omega) (by have := hE.size; simp; omega) ?_)
            intro a2 c2 w3 hO3 hg3 hfr3
            have hE3 : Pure w w3 := Ext.own (hE.alloc _) (hown.alloc _) hg3
            clear hE hown hg3 hfr3 HB HS2
            go_wp2_with fail
            go_roundw
            case rel => exact ⟨j + 1, a2, c2, by omega, by go_num, rfl, by rw [List.map_take]; exact hO3, hE3⟩
            case measure => simp [intOf]; omega
          | false =>
            have hS := HS.out
            rw [show turn false j n = j from rfl] at hS
            have HS2 := Lib.hid hS
            have HB := Lib.hid (fun w => refbit_any x j w hx (by omega))
            clear HS hS
            go_wp2_with fail
            refine (HB.out _).mono ?_
            rintro e w2 ⟨rfl, hw2⟩
            obtain rfl := hw2.symm
            go_wp2_with (at_builtin; refine wpList_append_fresh rfl (.tmp 40) (.tmp 44) 79 rfl w.heap.size 4 (.bool false) 1 1 Try.underlying79 infoBool rfl (by decide) _ j (((bitsNum false x n).take j).map Value.bool) rfl (hown.alloc _) (some ⟨wr.heap.size, 0, none⟩) 1 1 [.bool (x.testBit j)] rfl (fun e => by cases e) rfl (row_at _ rfl rfl) (fun u hu => by simp at hu; subst hu; rfl) (j + 1) rfl (((bitsNum false x n).take (j + 1)).map Value.bool) (by rw [HS2.out]; simp) (by omega) (by unfold maxLen; omega) (by have := hE.size; simp; omega) ?_)
            intro a2 c2 w3 hO3 hg3 hfr3
            have hE3 : Pure w w3 := Ext.own (hE.alloc _) (hown.alloc _) hg3
            clear hE hown hg3 hfr3 HB HS2
            go_wp2_with fail
            go_roundw
            case rel => exact ⟨j + 1, a2, c2, by omega, by go_num, rfl, by rw [List.map_take]; exact hO3, hE3⟩
            case measure => simp [intOf]; omega
        · have hji : ¬ (j : Int) < (n : Int) := by omega
          obtain rfl : j = n := by omega
          rw [List.take_of_length_le (by rw [bitsNum_length]; exact Nat.le_refl _)] at hown
          go_wp2_with fail
          go_ret2
          exact ⟨a, c, rfl, hown, hE⟩
set_option maxHeartbeats 4000000 in
set_option maxRecDepth 100000 in
theorem refbytes_any (high : Bool) (ad : Option Addr) (cap : Nat) (l : List Bool) (w : World) (hr : RowOf w ad (l.map Value.bool)) (hl : l.length ≤ 1000000000) :
    Calls Try.prog 50 #[.slice ad l.length cap, .bool high] w fun e w' => ∃ a c, e = .returned (.slice a (pack high l).length c) ∧ w'.ownsRow w.heap.size 5 1 (.slice a (pack high l).length c) (pack high l).length ((pack high l).map byV) ∧ Pure w w' := by
  obtain ⟨i, hi, hz, hsz, hby⟩ := info_parts infoByte
  obtain ⟨N, hN⟩ : ∃ N, N = (l.length + 7) / 8 := ⟨_, rfl⟩
  have hNi : ((l.length : Int) + 7) / 8 = (N : Int) := by omega
  have hpl : ∀ k, k ≤ l.length → (pack high (fillB l k)).length = N := fun k hk => by rw [pack_length, fillB_len _ _ hk, hN]
  have HP := Lib.hid hpl
  have hN' : l.length ≤ 8 * N ∧ N ≤ 200000000 := by omega
  have HN := Lib.hid hN
  clear hN hpl
  go_enter Try.func50, Try.ntmps50
  go_wp2_with (refine wpList_make_full w rfl (.tmp 13) (.tmp 13) 25 rfl w.heap.size 5 i (.int .u8 0) 1 Try.underlying25 hi hz hsz .i64 .i64 (((l.length : Int) + 7) / 8) (((l.length : Int) + 7) / 8) N rfl rfl hNi hNi (by rw [hby]; omega) (by unfold maxLen; omega) (Nat.le_refl _) ?_)
  intro w1 hown1 hg1
  have hE1' : Pure w w1 := (Ext.refl _ w).grown hg1 (fun k hk hlt => by cases hk)
  have hown2 : w1.ownsRow w.heap.size 5 1 (.slice (some ⟨w.heap.size, 0, none⟩) N N) N ((pack high (fillB l 0)).map byV) := by
    have e : (madeCells #[Value.int IntKind.u8 0] N).toList = (pack high (fillB l 0)).map byV := by
      rw [fillB_zero, pack_falses, ← HN.out, toList_madeCells_one]; simp [byV]
    rw [← e]; exact hown1
  clear hown1 hg1
  have hE1 : Pure w w1 := hE1'
  go_wp2_with fail
  go_loopw [6, 7, 8, 9] (fun i _ _ _ w' => ∃ k : Nat, k ≤ l.length ∧ i = .int .i64 k ∧ w'.ownsRow w.heap.size 5 1 (.slice (some ⟨w.heap.size, 0, none⟩) N N) N ((pack high (fillB l k)).map byV) ∧ Pure w w') (fun i _ _ _ _ => l.length - (intOf i).toNat)
  case atStart => exact ⟨0, Nat.zero_le _, rfl, hown2, hE1⟩
  case round =>
    obtain ⟨k, hk, rfl, hown, hE⟩ := hrel
    clear hown2 hE1 hE1'
    obtain ⟨wo, rfl⟩ : ∃ wo : World, wo = wr := ⟨_, rfl⟩
    by_cases hlt : k < l.length
    · have hki : (k : Int) < (l.length : Int) := by omega
      go_wp2_with fail
      go_loopw [7, 8] (fun v j w' => ∃ j' : Nat, j' ≤ k % 8 ∧ j = .int .i64 j' ∧ v = .int .u8 ((2 ^ j' : Nat) : Int) ∧ w' = wo) (fun _ j _ => 8 - (intOf j).toNat)
      case atStart => exact ⟨0, Nat.zero_le _, rfl, rfl, rfl⟩
      case round =>
        obtain ⟨j, hj, rfl, rfl, hw⟩ := hrel
        obtain rfl := hw.symm
        obtain ⟨y, hy⟩ : ∃ y, y = 2 ^ j := ⟨_, rfl⟩
        have hp : 2 ^ j ≤ 2 ^ (k % 8) := Nat.pow_le_pow_right (by decide) hj
        have hp8 : 2 ^ (k % 8) ≤ 2 ^ 7 := Nat.pow_le_pow_right (by decide) (by omega)
        have hy128 : y ≤ 128 := by rw [hy]; exact Nat.le_trans hp hp8
        rw [← hy]
        by_cases hj8 : j < k % 8
        · have hji : (j : Int) < (k : Int) % 8 := by omega
          have hp2 : 2 ^ j ≤ 2 ^ 6 := Nat.pow_le_pow_right (by decide) (by omega)
          have hy64 : y ≤ 64 := by rw [hy]; exact hp2
          have HY := Lib.hid hy
          clear hy hp hp8 hp2
          go_wp2_with fail
          go_roundw
          case rel => exact ⟨j + 1, by omega, by go_num, by rw [Nat.pow_succ, ← HY.out]; go_num, by first | rfl | trivial⟩
          case measure => simp [intOf]; omega
        · have hji : ¬ (j : Int) < (k : Int) % 8 := by omega
          obtain rfl : j = k % 8 := by omega
          clear hp hp8
          cases high with
          | false =>
            have hw2 : y = wt false (k % 8) := by rw [hy]; rfl
            clear hy
            have hq : k / 8 < N := by omega
            have hplk := HP.out k (Nat.le_of_lt hlt)
            obtain ⟨ab, ao, rfl, h0⟩ := hr k (.bool l[k]) (by simp [hlt])
            have h0' := hE.cell_some h0 id
            have hk0 : (0 : Int) ≤ (k : Int) := by omega
            clear h0
            cases hv : l[k] with
            | false =>
              rw [hv] at h0'
              have HF := Lib.hid (fillB_false l k hlt hv)
              clear hv
              go_wp2_with fail
              go_roundw
              case rel => exact ⟨k + 1, by omega, by go_num, by rw [HF.out]; exact hown, hE⟩
              case measure => simp [intOf]; omega
            | true =>
              rw [hv] at h0'
              obtain ⟨hs1, hs2⟩ := pack_fill_step false l k hlt (by omega) hv
              have hrow := own_row hown (k / 8) (byV ((pack false (fillB l k))[k / 8]'(by omega))) (by simp [hplk, hq])
              obtain ⟨_, _, hh, hrow⟩ := hrow
              cases hh
              rw [Nat.zero_add] at hrow
              obtain ⟨g2, hg2, _, _, hfree, hO2⟩ := own_set hown (k / 8) hq (byV (UInt8.ofNat (((pack false (fillB l k))[k / 8]'(by omega)).toNat + wt false (k % 8))))
              cases hg2
              rw [← List.map_set, ← hs1] at hO2
              unfold byV at hrow
              have hnew : byV (UInt8.ofNat (((pack false (fillB l k))[k / 8]'(by omega)).toNat + wt false (k % 8))) = .int .u8 ((((pack false (fillB l k))[k / 8]'(by omega)).toNat : Int) + (wt false (k % 8) : Int)) := by
                unfold byV; rw [ofNat_toNat _ hs2]; push_cast; rfl
              rw [hnew] at hO2
              rw [← hw2] at hs2 hO2
              have hk8 : (k : Int) / 8 = ((k / 8 : Nat) : Int) := by omega
              have hqi : ((k / 8 : Nat) : Int) < (N : Int) := by omega
              have hqj : (0 : Int) ≤ ((k / 8 : Nat) : Int) := by omega
              obtain ⟨old, hold⟩ : ∃ old, old = ((pack false (fillB l k))[k / 8]'(by omega)).toNat := ⟨_, rfl⟩
              rw [← hold] at hs2 hO2 hrow
              clear hs1 hnew hv hw2 hold hplk
              generalize k / 8 = q at *
              have hsum : (old : Int) + (y : Int) ≤ 255 := by omega
              go_wp2_with fail
              go_roundw
              case rel => exact ⟨k + 1, by omega, by go_num, hO2, hE.setCell (p := ⟨w.heap.size, q, none⟩) (fun hlt => absurd hlt (Nat.lt_irrefl _)) _⟩
              case measure => simp [intOf]; omega
          | true =>
            clear hy hy128
            go_wp2_with fail
            go_loopw [7, 9] (fun v j w' => ∃ j' : Nat, j' ≤ k % 8 ∧ j = .int .i64 j' ∧ v = .int .u8 ((128 / 2 ^ j' : Nat) : Int) ∧ w' = wo) (fun _ j _ => 8 - (intOf j).toNat)
            case atStart => exact ⟨0, Nat.zero_le _, rfl, rfl, rfl⟩
            case round =>
              obtain ⟨j, hj, rfl, rfl, hw⟩ := hrel
              obtain rfl := hw.symm
              obtain ⟨y, hy⟩ : ∃ y, y = 128 / 2 ^ j := ⟨_, rfl⟩
              have hy128 : y ≤ 128 := by rw [hy]; exact Nat.div_le_self _ _
              rw [← hy]
              by_cases hj8 : j < k % 8
              · have hji : (j : Int) < (k : Int) % 8 := by omega
                have HY := Lib.hid hy
                clear hy
                go_wp2_with fail
                go_roundw
                case rel => exact ⟨j + 1, by omega, by go_num, by rw [Nat.pow_succ, ← Nat.div_div_eq_div_mul, ← HY.out]; go_num, by first | rfl | trivial⟩
                case measure => simp [intOf]; omega
              · have hji : ¬ (j : Int) < (k : Int) % 8 := by omega
                obtain rfl : j = k % 8 := by omega
                have hw2 : y = wt true (k % 8) := by
                  rw [hy]
                  have h : k % 8 = 0 ∨ k % 8 = 1 ∨ k % 8 = 2 ∨ k % 8 = 3 ∨ k % 8 = 4 ∨ k % 8 = 5 ∨ k % 8 = 6 ∨ k % 8 = 7 := by omega
                  rcases h with h | h | h | h | h | h | h | h <;> rw [h] <;> rfl
                clear hy
                have hq : k / 8 < N := by omega
                have hplk := HP.out k (Nat.le_of_lt hlt)
                obtain ⟨ab, ao, rfl, h0⟩ := hr k (.bool l[k]) (by simp [hlt])
                have h0' := hE.cell_some h0 id
                have hk0 : (0 : Int) ≤ (k : Int) := by omega
                clear h0
                cases hv : l[k] with
                | false =>
                  rw [hv] at h0'
                  have HF := Lib.hid (fillB_false l k hlt hv)
                  clear hv
                  go_wp2_with fail
                  go_roundw
                  case rel => exact ⟨k + 1, by omega, by go_num, by rw [HF.out]; exact hown, hE⟩
                  case measure => simp [intOf]; omega
                | true =>
                  rw [hv] at h0'
                  obtain ⟨hs1, hs2⟩ := pack_fill_step true l k hlt (by omega) hv
                  have hrow := own_row hown (k / 8) (byV ((pack true (fillB l k))[k / 8]'(by omega))) (by simp [hplk, hq])
                  obtain ⟨_, _, hh, hrow⟩ := hrow
                  cases hh
                  rw [Nat.zero_add] at hrow
                  obtain ⟨g2, hg2, _, _, hfree, hO2⟩ := own_set hown (k / 8) hq (byV (UInt8.ofNat (((pack true (fillB l k))[k / 8]'(by omega)).toNat + wt true (k % 8))))
                  cases hg2
                  rw [← List.map_set, ← hs1] at hO2
                  unfold byV at hrow
                  have hnew : byV (UInt8.ofNat (((pack true (fillB l k))[k / 8]'(by omega)).toNat + wt true (k % 8))) = .int .u8 ((((pack true (fillB l k))[k / 8]'(by omega)).toNat : Int) + (wt true (k % 8) : Int)) := by
                    unfold byV; rw [ofNat_toNat _ hs2]; push_cast; rfl
                  rw [hnew] at hO2
                  rw [← hw2] at hs2 hO2
                  have hk8 : (k : Int) / 8 = ((k / 8 : Nat) : Int) := by omega
                  have hqi : ((k / 8 : Nat) : Int) < (N : Int) := by omega
                  have hqj : (0 : Int) ≤ ((k / 8 : Nat) : Int) := by omega
                  obtain ⟨old, hold⟩ : ∃ old, old = ((pack true (fillB l k))[k / 8]'(by omega)).toNat := ⟨_, rfl⟩
                  rw [← hold] at hs2 hO2 hrow
                  clear hs1 hnew hv hw2 hold hplk
                  generalize k / 8 = q at *
                  have hsum : (old : Int) + (y : Int) ≤ 255 := by omega
                  go_wp2_with fail
                  go_roundw
                  case rel => exact ⟨k + 1, by omega, by go_num, hO2, hE.setCell (p := ⟨w.heap.size, q, none⟩) (fun hlt => absurd hlt (Nat.lt_irrefl _)) _⟩
                  case measure => simp [intOf]; omega
    · have hki : ¬ (k : Int) < (l.length : Int) := by omega
      obtain rfl : k = l.length := by omega
      have hpn := HP.out l.length (Nat.le_refl _)
      rw [fillB_all] at hpn hown
      have HPN := Lib.hid hpn
      clear hpn
      go_wp2_with fail
      go_ret
      exact ⟨some ⟨w.heap.size, 0, none⟩, N, by rw [HPN.out]; rfl, by rw [HPN.out]; exact hown, hE⟩
end Go.Proofs.Ytdhejhgpjeenaaa
