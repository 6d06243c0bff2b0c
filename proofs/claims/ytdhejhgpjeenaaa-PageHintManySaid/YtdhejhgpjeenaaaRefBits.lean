/-
  Walked: the reference's bits of bytes.
-/
import Derived.Test.YtdhejhgpjeenaaaNums
import Derived.Test.YtdhejhgpjeenaaaOwn
import Derived.Test.YtdhejhgpjeenaaaRead
import Derived.Test.YtdhejhgpjeenaaaRefBit
namespace Go.Proofs.Ytdhejhgpjeenaaa
open Go.RowKit
set_option linter.unusedVariables false
theorem infoBool : (Try.prog.info? 4).map (fun i => (i.zero, i.size, i.bytes)) = some (some (.bool false), 1, 1) := by kernel_rfl
def upto (high : Bool) (l : List UInt8) (n : Nat) : List Bool := (List.range n).map (bitOf high l)
theorem upto_succ (high : Bool) (l : List UInt8) (n : Nat) : upto high l (n + 1) = upto high l n ++ [bitOf high l n] := by simp [upto, List.range_succ]
theorem upto_len (high : Bool) (l : List UInt8) (n : Nat) : (upto high l n).length = n := by simp [upto]
theorem bitOf_at (high : Bool) (l : List UInt8) (k j : Nat) (hk : k < l.length) (hj : j < 8) : bitOf high l (8 * k + j) = l[k].toNat.testBit (if high then 7 - j else j) := by
  unfold bitOf pl
  rw [show (8 * k + j) / 8 = k from by omega, show (8 * k + j) % 8 = j from by omega]
  simp [hk]
/-- a row of its own of bits -/
structure BitRow (w w' : World) (a : Option Addr) (c : Nat) (bs : List Bool) : Prop where
  own : w'.ownsRow w.heap.size 4 1 (.slice a bs.length c) bs.length (bs.map Value.bool)
  pure : Pure w w'
set_option maxHeartbeats 4000000 in
set_option maxRecDepth 100000 in
theorem refbits_any (high : Bool) (ad : Option Addr) (cap : Nat) (l : List UInt8) (w : World) (hb : Bytes w ad l) (hl : l.length ≤ 10000000) :
    Calls Try.prog 42 #[.slice ad l.length cap, .bool high] w fun e w' => ∃ a c, e = .returned (.slice a (bitsOf high l).length c) ∧ BitRow w w' a c (bitsOf high l) := by
  go_enter Try.func42, Try.ntmps42
  go_wp2_with fail
  go_loopw [5, 6, 7] (fun v i _ w' => ∃ (k : Nat) (a : Option Addr) (c : Nat), k ≤ l.length ∧ i = .int .i64 k ∧ v = .slice a (8 * k) c ∧ w'.ownsRow w.heap.size 4 1 v (8 * k) ((upto high l (8 * k)).map Value.bool) ∧ Pure w w') (fun _ i _ _ => l.length - (intOf i).toNat)
  case atStart => exact ⟨0, none, 0, Nat.zero_le _, rfl, rfl, World.ownsRow_nil _ _ _ _, Ext.refl _ _⟩
  case round =>
    obtain ⟨k, a0, c0, hk, rfl, rfl, hown0, hE0⟩ := hrel
    by_cases hlt : k < l.length
    · have hki : (k : Int) < (l.length : Int) := by omega
      have hk0 : (0 : Int) ≤ (k : Int) := by omega
      go_wp2_with fail
      go_loopw [5, 7] (fun v j w' => ∃ (j' : Nat) (a : Option Addr) (c : Nat), j' ≤ 8 ∧ j = .int .i64 j' ∧ v = .slice a (8 * k + j') c ∧ w'.ownsRow w.heap.size 4 1 v (8 * k + j') ((upto high l (8 * k + j')).map Value.bool) ∧ Pure w w') (fun _ j _ => 8 - (intOf j).toNat)
      case atStart => exact ⟨0, a0, c0, Nat.zero_le _, rfl, rfl, hown0, hE0⟩
      case round =>
        obtain ⟨j, a, c, hj, rfl, rfl, hown, hE⟩ := hrel
        clear hown0 hE0
        by_cases hj8 : j < 8
        · have hji : (j : Int) < 8 := by omega
          obtain ⟨bb, bo, rfl, h0⟩ := (hb.pure hE).at k hlt
          obtain ⟨y, hy⟩ : ∃ y, y = l[k].toNat := ⟨_, rfl⟩
          have hyl : y < 256 := by rw [hy]; exact UInt8.toNat_lt _
          have hsucc := upto_succ high l (8 * k + j)
          rw [bitOf_at high l k j hlt hj8, ← hy] at hsucc
          rw [← hy] at h0
          clear hy
          cases high with
          | true =>
            simp only [if_true] at hsucc
            obtain ⟨j', hj'⟩ : ∃ j' : Nat, j' = 7 - j := ⟨_, rfl⟩
            rw [← hj'] at hsucc
            have hz : (7 : Int) - (j : Int) = (j' : Int) := by omega
            have hz' : IntKind.i64.wrap (j' : Int) = (j' : Int) := IntWalk.i64_in _ (by omega)
            have HB := Lib.hid (fun w => refbit_any y j' w (by omega) (by omega))
            have HS := Lib.hid hsucc
            clear hsucc hj'
            go_wp2_with fail
            refine (HB.out _).mono ?_
            rintro e w2 ⟨rfl, hw2⟩
            obtain rfl := hw2.symm
            go_wp2_with (at_builtin; refine wpList_append_fresh rfl (.tmp 19) (.tmp 28) 79 rfl w.heap.size 4 (.bool false) 1 1 Try.underlying79 infoBool rfl (by decide) _ (8 * k + j) ((upto true l (8 * k + j)).map Value.bool) rfl (hown.alloc _) (some ⟨wr.heap.size, 0, none⟩) 1 1 [.bool (y.testBit j')] rfl (fun e => by cases e) rfl (row_at _ rfl rfl) (fun u hu => by simp at hu; subst hu; rfl) (8 * k + j + 1) rfl ((upto true l (8 * k + j + 1)).map Value.bool) (by rw [HS.out]; simp) (by omega) (by unfold maxLen; omega) (by have := hE.size; simp; omega) ?_)
            intro a2 c2 w3 hO3 hg3 hfr3
            have hE3 : Pure w w3 := Ext.own (hE.alloc _) (hown.alloc _) hg3
            clear hE hown hg3 hfr3 HB HS
            go_wp2_with fail
            go_roundw
            case rel => exact ⟨j + 1, a2, c2, by omega, by go_num, rfl, hO3, hE3⟩
            case measure => simp [intOf]; omega
          | false =>
            simp only [Bool.false_eq_true, if_false] at hsucc
            have HB := Lib.hid (fun w => refbit_any y j w (by omega) (by omega))
            have HS := Lib.hid hsucc
            clear hsucc
            go_wp2_with fail
            refine (HB.out _).mono ?_
            rintro e w2 ⟨rfl, hw2⟩
            obtain rfl := hw2.symm
            go_wp2_with (at_builtin; refine wpList_append_fresh rfl (.tmp 30) (.tmp 38) 79 rfl w.heap.size 4 (.bool false) 1 1 Try.underlying79 infoBool rfl (by decide) _ (8 * k + j) ((upto false l (8 * k + j)).map Value.bool) rfl (hown.alloc _) (some ⟨wr.heap.size, 0, none⟩) 1 1 [.bool (y.testBit j)] rfl (fun e => by cases e) rfl (row_at _ rfl rfl) (fun u hu => by simp at hu; subst hu; rfl) (8 * k + j + 1) rfl ((upto false l (8 * k + j + 1)).map Value.bool) (by rw [HS.out]; simp) (by omega) (by unfold maxLen; omega) (by have := hE.size; simp; omega) ?_)
            intro a2 c2 w3 hO3 hg3 hfr3
            have hE3 : Pure w w3 := Ext.own (hE.alloc _) (hown.alloc _) hg3
            clear hE hown hg3 hfr3 HB HS
            go_wp2_with fail
            go_roundw
            case rel => exact ⟨j + 1, a2, c2, by omega, by go_num, rfl, hO3, hE3⟩
            case measure => simp [intOf]; omega
        · have hj8' : j = 8 := by omega
          subst hj8'
          go_wp2_with fail
          go_roundw
          case rel => exact ⟨k + 1, a, c, by omega, by go_num, rfl, hown, hE⟩
          case measure => simp [intOf]; omega
    · have hki : ¬ (k : Int) < (l.length : Int) := by omega
      have hkk := Lib.hid (show 8 * k = (bitsOf high l).length by rw [bitsOf_length]; omega)
      have hup := Lib.hid (show upto high l (8 * k) = bitsOf high l by unfold bitsOf upto; rw [show k = l.length from by omega])
      go_wp2_with fail
      go_ret
      refine ⟨a0, c0, by rw [← hkk.out]; rfl, ?_, hE0⟩
      rw [← hkk.out, ← hup.out]; exact hown0
end Go.Proofs.Ytdhejhgpjeenaaa
