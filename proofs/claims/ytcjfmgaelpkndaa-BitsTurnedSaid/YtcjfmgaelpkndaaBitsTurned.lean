/-
  Proved: BitsTurned: for all bits the law returns true, and writes nothing that was there. Conditions: none.
-/
import Derived.Test.YtcjfmgaelpkndaaWorks
import Derived.Test.YtcjfmgaelpkndaaNums
import Derived.Test.YtcjfmgaelpkndaaRefBit
import Derived.Test.YtcjfmgaelpkndaaOpen
namespace Go.Proofs.Ytcjfmgaelpkndaa.bitsTurned
open Go.ChangeShapes Go.WideShapes Go.ChangeAt Go.RowKit
set_option linter.unusedVariables false

theorem pair (bs : List Bool) (k j : Nat) (hk : k < (pack true bs).length) (hk' : k < (pack false bs).length) (hj : j < 8) :
    (pack false bs)[k].toNat.testBit (7 - j) = (pack true bs)[k].toNat.testBit j := by
  rw [pack_get, pack_get]
  have h1 := byte8_bit true (fun i => bs.getD (8 * k + i) false) (7 - j) (by omega)
  have h2 := byte8_bit false (fun i => bs.getD (8 * k + i) false) (7 - j) (by omega)
  simp only [pl, if_true, Bool.false_eq_true, if_false] at h1 h2
  rw [show 7 - (7 - j) = j from by omega] at h1
  unfold byteAt
  rw [h1, h2]
theorem bitsNum_one (high : Bool) (x : Bool) : bitsNum high x.toNat 1 = [x] := by cases high <;> cases x <;> rfl
theorem put_bit (b : Nat) (high : Bool) (bs : List Bool) (a : Option Addr) (c : Nat) (x : Bool) (v : Int) (hv : v = (x.toNat : Int)) (w : World) (h : WrIs w b high bs a c) (hlen : bs.length ≤ 50000) :
    Calls Try.prog 8 #[.pointer (some ⟨b, 0, none⟩), .int .u32 v, .int .i64 1] w fun e w' => e = .returned (.int .i64 0) ∧ ∃ a' c', WrIs w' b high (bs ++ [x]) a' c' ∧ Ext (WrS b a) w w' ∧ (∀ g, a' = some g → a = some g ∨ w.heap.size ≤ g.block) := by
  subst hv
  have := put_yes b high bs a c x.toNat 1 w h hlen (by omega) (by cases x <;> decide) (by cases x <;> decide)
  rw [bitsNum_one] at this
  exact this

/-- the two writers -/
structure Two (w0 w : World) (b1 b2 : Nat) (bs : List Bool) (a1 : Option Addr) (c1 : Nat) (a2 : Option Addr) (c2 : Nat) : Prop where
  one : WrIs w b1 true bs a1 c1
  two : WrIs w b2 false bs a2 c2
  pure : Pure w0 w
  n1 : w0.heap.size ≤ b1
  n2 : w0.heap.size ≤ b2
  m1 : ∀ g, a1 = some g → w0.heap.size ≤ g.block ∧ g.block ≠ b2
  m2 : ∀ g, a2 = some g → w0.heap.size ≤ g.block ∧ g.block ≠ b1
  ne : b1 ≠ b2
  apart : ∀ g g', a1 = some g → a2 = some g' → g.block ≠ g'.block

set_option maxHeartbeats 4000000 in
set_option maxRecDepth 100000 in
theorem walk (ad : Option Addr) (cap : Nat) (l : List Bool) (w : World) (hl : (l.length : Int) ≤ 9223372036854775807) (hr : RowOf w ad (l.map Value.bool)) :
    Calls Try.prog 4 #[.slice ad l.length cap] w fun e w' => e = .returned (.bool true) ∧ Below w.heap.size w w' := by
  go_enter Try.func4, Try.ntmps4
  go_wp2_with fail
  refine (new_any true w).mono ?_
  rintro e w1 ⟨rfl, hA1, hE1⟩
  go_wp2_with fail
  refine (new_any false w1).mono ?_
  rintro e w2 ⟨rfl, hB2, hE2⟩
  obtain ⟨b1, hb1⟩ : ∃ b, b = w.heap.size := ⟨_, rfl⟩
  obtain ⟨b2, hb2⟩ : ∃ b, b = w1.heap.size := ⟨_, rfl⟩
  rw [← hb1] at hA1 ⊢
  rw [← hb2] at hB2 ⊢
  have hT0 : Two w w2 b1 b2 [] none 0 none 0 := ⟨hA1.pure hE2, hB2, hE1.pure hE2, (by omega), (by have := hE1.size; omega), (fun g hg => by cases hg), (fun g hg => by cases hg), (by have := hA1.blk.lt; omega), (fun g g' hg => by cases hg)⟩
  clear hA1 hB2 hE1 hE2 hb1 hb2
  go_wp2_with fail
  go_loopw [5, 6] (fun i _ wr => ∃ (k : Nat) (a1 : Option Addr) (c1 : Nat) (a2 : Option Addr) (c2 : Nat), k ≤ l.length ∧ k ≤ 300 ∧ i = .int .i64 k ∧ Two w wr b1 b2 (l.take k) a1 c1 a2 c2) (fun i _ _ => 300 - (intOf i).toNat)
  case atStart => exact ⟨0, none, 0, none, 0, Nat.zero_le _, Nat.zero_le _, rfl, hT0⟩
  case round =>
    obtain ⟨k, a1, c1, a2, c2, hk, hk60, rfl, hT⟩ := hrel
    clear hT0
    have htl : (l.take k).length ≤ 300 := by rw [List.length_take]; omega
    by_cases hlt : k < l.length
    · by_cases hlt60 : k < 300
      · obtain ⟨ab, ao, rfl, h0⟩ := hr k (.bool l[k]) (by simp [hlt])
        have h0' := hT.pure.cell_some h0 id
        have hk0 : (0 : Int) ≤ (k : Int) := by omega
        have hki : (k : Int) < (l.length : Int) := by omega
        have hsucc : l.take (k + 1) = l.take k ++ [l[k]] := by rw [List.take_add_one, List.getElem?_eq_getElem hlt]; rfl
        have HS := Lib.hid hsucc
        clear hsucc
        cases hv : l[k] with
        | false =>
          rw [hv] at HS h0'
          clear hv h0
          go_wp2_with fail
          refine (put_bit b1 true (l.take k) a1 c1 false _ (by rfl) wr hT.one (by omega)).mono ?_
          rintro e w3 ⟨rfl, a3, c3, hA3, hE3, hf3⟩
          have hB3 := hT.two.ext hE3 (not_wrs (fun e => hT.ne e.symm) (fun g hg e => (hT.m1 g hg).2 e.symm)) (fun g hg => not_wrs (hT.m2 g hg).2 (fun g' hg' e => hT.apart g' g hg' hg e.symm))
          go_wp2_with fail
          refine (put_bit b2 false (l.take k) a2 c2 false _ (by rfl) w3 hB3 (by omega)).mono ?_
          rintro e w4 ⟨rfl, a4, c4, hB4, hE4, hf4⟩
          go_wp2_with fail
          go_roundw
          case rel =>
            refine ⟨k + 1, a3, c3, a4, c4, by omega, by omega, by go_num, ?_⟩
            rw [HS.out]
            have hn1 := hT.n1
            have hn2 := hT.n2
            have hPz := hT.pure.size
            have hP3 := ext_new hT.pure hE3 hT.n1 (fun g hg => (hT.m1 g hg).1)
            have hP4 := ext_new hP3 hE4 hT.n2 (fun g hg => (hT.m2 g hg).1)
            have hlb2 := hT.two.blk.lt
            have hlb1 := hT.one.blk.lt
            have s3 := hE3.size
            have q3 : ∀ g, a3 = some g → w.heap.size ≤ g.block ∧ g.block ≠ b2 := fun g hg => by
              rcases hf3 g hg with e | e
              · exact hT.m1 g e
              · have e' : wr.heap.size ≤ g.block := e
                exact ⟨by omega, by omega⟩
            have q4 : ∀ g, a4 = some g → w.heap.size ≤ g.block ∧ g.block ≠ b1 := fun g hg => by
              rcases hf4 g hg with e | e
              · exact hT.m2 g e
              · have e' : w3.heap.size ≤ g.block := e
                exact ⟨by omega, by omega⟩
            have q : ∀ g g', a3 = some g → a4 = some g' → g.block ≠ g'.block := fun g g' hg hg' => by
              have l3 := hA3.lt g hg
              rcases hf4 g' hg' with e' | e'
              · rcases hf3 g hg with e | e
                · exact hT.apart g g' e e'
                · have z : wr.heap.size ≤ g.block := e
                  have := hT.two.lt g' e'
                  omega
              · have z : w3.heap.size ≤ g'.block := e'
                omega
            exact ⟨hA3.ext hE4 (not_wrs hT.ne (fun g hg e => (hT.m2 g hg).2 e.symm)) (fun g hg => not_wrs (q3 g hg).2 (fun g' hg' e => by
              have l3 := hA3.lt g hg
              rcases hf3 g hg with z | z
              · exact hT.apart g g' z hg' e
              · have z' : wr.heap.size ≤ g.block := z
                have := hT.two.lt g' hg'
                omega)), hB4, hP4, hn1, hn2, q3, q4, hT.ne, q⟩
          case measure => simp [intOf]; omega
        | true =>
          rw [hv] at HS h0'
          clear hv h0
          go_wp2_with fail
          refine (put_bit b1 true (l.take k) a1 c1 true _ (by rfl) wr hT.one (by omega)).mono ?_
          rintro e w3 ⟨rfl, a3, c3, hA3, hE3, hf3⟩
          have hB3 := hT.two.ext hE3 (not_wrs (fun e => hT.ne e.symm) (fun g hg e => (hT.m1 g hg).2 e.symm)) (fun g hg => not_wrs (hT.m2 g hg).2 (fun g' hg' e => hT.apart g' g hg' hg e.symm))
          go_wp2_with fail
          refine (put_bit b2 false (l.take k) a2 c2 true _ (by rfl) w3 hB3 (by omega)).mono ?_
          rintro e w4 ⟨rfl, a4, c4, hB4, hE4, hf4⟩
          go_wp2_with fail
          go_roundw
          case rel =>
            refine ⟨k + 1, a3, c3, a4, c4, by omega, by omega, by go_num, ?_⟩
            rw [HS.out]
            have hn1 := hT.n1
            have hn2 := hT.n2
            have hPz := hT.pure.size
            have hP3 := ext_new hT.pure hE3 hT.n1 (fun g hg => (hT.m1 g hg).1)
            have hP4 := ext_new hP3 hE4 hT.n2 (fun g hg => (hT.m2 g hg).1)
            have hlb2 := hT.two.blk.lt
            have hlb1 := hT.one.blk.lt
            have s3 := hE3.size
            have q3 : ∀ g, a3 = some g → w.heap.size ≤ g.block ∧ g.block ≠ b2 := fun g hg => by
              rcases hf3 g hg with e | e
              · exact hT.m1 g e
              · have e' : wr.heap.size ≤ g.block := e
                exact ⟨by omega, by omega⟩
            have q4 : ∀ g, a4 = some g → w.heap.size ≤ g.block ∧ g.block ≠ b1 := fun g hg => by
              rcases hf4 g hg with e | e
              · exact hT.m2 g e
              · have e' : w3.heap.size ≤ g.block := e
                exact ⟨by omega, by omega⟩
            have q : ∀ g g', a3 = some g → a4 = some g' → g.block ≠ g'.block := fun g g' hg hg' => by
              have l3 := hA3.lt g hg
              rcases hf4 g' hg' with e' | e'
              · rcases hf3 g hg with e | e
                · exact hT.apart g g' e e'
                · have z : wr.heap.size ≤ g.block := e
                  have := hT.two.lt g' e'
                  omega
              · have z : w3.heap.size ≤ g'.block := e'
                omega
            exact ⟨hA3.ext hE4 (not_wrs hT.ne (fun g hg e => (hT.m2 g hg).2 e.symm)) (fun g hg => not_wrs (q3 g hg).2 (fun g' hg' e => by
              have l3 := hA3.lt g hg
              rcases hf3 g hg with z | z
              · exact hT.apart g g' z hg' e
              · have z' : wr.heap.size ≤ g.block := z
                have := hT.two.lt g' hg'
                omega)), hB4, hP4, hn1, hn2, q3, q4, hT.ne, q⟩
          case measure => simp [intOf]; omega
      · have hfin : ¬ ((k : Int) < 300) := by omega
        clear hlt60
        have hp1 : (pack true (l.take k)).length ≤ 1000 := by rw [pack_length]; omega
        have hp2 := Lib.hid (show (pack false (l.take k)).length = (pack true (l.take k)).length from by rw [pack_length, pack_length])
        go_wp2_with fail
        refine (bytes_any b1 true _ a1 c1 wr hT.one (by omega)).mono ?_
        rintro e w2 ⟨ra, rc, rfl, hN⟩
        have hB := hT.two.pure hN.ext
        go_wp2_with fail
        refine (bytes_any b2 false _ a2 c2 w2 hB (by omega)).mono ?_
        rintro e w3 ⟨ra2, rc2, rfl, hN2⟩
        have hP : Pure w w3 := (hT.pure.pure hN.ext).pure hN2.ext
        have hb1 := hN.bytes.pure hN2.ext
        have hb2 := hN2.bytes
        rw [hp2.out]
        clear hN hN2 hB hT
        go_wp2_with fail
        go_loopw [9, 10] (fun i _ w' => ∃ (m : Nat), m ≤ (pack true (l.take k)).length ∧ i = .int .i64 m ∧ Pure w3 w') (fun i _ _ => (pack true (l.take k)).length - (intOf i).toNat)
        case atStart => exact ⟨0, Nat.zero_le _, rfl, Ext.refl _ _⟩
        case round =>
          obtain ⟨m, hm, rfl, hw⟩ := hrel
          by_cases hlt : m < (pack true (l.take k)).length
          · have hm0 : (0 : Int) ≤ (m : Int) := by omega
            have hmi : (m : Int) < ((pack true (l.take k)).length : Int) := by omega
            go_wp2_with fail
            go_loopw [10] (fun i w' => ∃ (j : Nat), j ≤ 8 ∧ i = .int .i64 j ∧ Pure w3 w') (fun i _ => 8 - (intOf i).toNat)
            case atStart => exact ⟨0, Nat.zero_le _, rfl, hw⟩
            case round =>
              obtain ⟨j, hj, rfl, hw'⟩ := hrel
              clear hw
              by_cases hj8 : j < 8
              · have hji : (j : Int) < 8 := by omega
                obtain ⟨pb1, po1, hra, q1⟩ := (hb1.pure hw').at m hlt
                obtain ⟨pb2, po2, hra2, q2⟩ := (hb2.pure hw').at m (by rw [hp2.out]; exact hlt)
                subst hra hra2
                obtain ⟨j', hj'⟩ : ∃ j' : Nat, j' = 7 - j := ⟨_, rfl⟩
                have hz : (7 : Int) - (j : Int) = (j' : Int) := by omega
                have hz' : IntKind.i64.wrap (j' : Int) = (j' : Int) := IntWalk.i64_in _ (by omega)
                have hpr := pair (l.take k) m j hlt (by rw [hp2.out]; exact hlt) hj8
                rw [← hj'] at hpr
                clear hj'
                obtain ⟨y1, hy1⟩ : ∃ y, y = (pack true (l.take k))[m].toNat := ⟨_, rfl⟩
                obtain ⟨y2, hy2⟩ : ∃ y, y = ((pack false (l.take k))[m]'(by rw [hp2.out]; exact hlt)).toNat := ⟨_, rfl⟩
                have hl1 : y1 < 256 := by rw [hy1]; exact UInt8.toNat_lt _
                have hl2 : y2 < 256 := by rw [hy2]; exact UInt8.toNat_lt _
                rw [← hy1] at q1 hpr
                rw [← hy2] at q2 hpr
                clear hy1 hy2
                have HA := Lib.hid (fun w => refbit_any y1 j w (by omega) (by omega))
                have hB := (fun w => refbit_any y2 j' w (by omega) (by omega))
                rw [hpr] at hB
                have HB := Lib.hid hB
                clear hB hpr
                have hpl : (pack false (l.take k)).length = (pack true (l.take k)).length := hp2.out
                go_wp2_with fail
                go_quiet ((go_at_call 14; first | (with_reducible exact Calls.quiet_of_same (HA.out _)) | (with_reducible exact Calls.quiet_of_same (HB.out _)) | (trace_state; fail)))
                go_wp2_with fail
                go_roundw
                case rel => exact ⟨j + 1, by omega, by go_num, hw'.drewN _⟩
                case measure => simp [intOf]; omega
              · have hji : ¬ (j : Int) < 8 := by omega
                go_wp2_with fail
                go_roundw
                case rel => exact ⟨m + 1, by omega, by go_num, hw'⟩
                case measure => simp [intOf]; omega
          · have hmi : ¬ (m : Int) < ((pack true (l.take k)).length : Int) := by omega
            go_wp2_with fail
            refine (works_any _).mono ?_
            rintro e w6 ⟨rfl, hE6⟩
            go_wp2_with fail
            go_ret
            exact ⟨rfl, ((hP.pure hw).pure hE6).below⟩
    · have hfin : ¬ ((k : Int) < (l.length : Int)) := by omega
      clear hlt
      have hp1 : (pack true (l.take k)).length ≤ 1000 := by rw [pack_length]; omega
      have hp2 := Lib.hid (show (pack false (l.take k)).length = (pack true (l.take k)).length from by rw [pack_length, pack_length])
      go_wp2_with fail
      refine (bytes_any b1 true _ a1 c1 wr hT.one (by omega)).mono ?_
      rintro e w2 ⟨ra, rc, rfl, hN⟩
      have hB := hT.two.pure hN.ext
      go_wp2_with fail
      refine (bytes_any b2 false _ a2 c2 w2 hB (by omega)).mono ?_
      rintro e w3 ⟨ra2, rc2, rfl, hN2⟩
      have hP : Pure w w3 := (hT.pure.pure hN.ext).pure hN2.ext
      have hb1 := hN.bytes.pure hN2.ext
      have hb2 := hN2.bytes
      rw [hp2.out]
      clear hN hN2 hB hT
      go_wp2_with fail
      go_loopw [9, 10] (fun i _ w' => ∃ (m : Nat), m ≤ (pack true (l.take k)).length ∧ i = .int .i64 m ∧ Pure w3 w') (fun i _ _ => (pack true (l.take k)).length - (intOf i).toNat)
      case atStart => exact ⟨0, Nat.zero_le _, rfl, Ext.refl _ _⟩
      case round =>
        obtain ⟨m, hm, rfl, hw⟩ := hrel
        by_cases hlt : m < (pack true (l.take k)).length
        · have hm0 : (0 : Int) ≤ (m : Int) := by omega
          have hmi : (m : Int) < ((pack true (l.take k)).length : Int) := by omega
          go_wp2_with fail
          go_loopw [10] (fun i w' => ∃ (j : Nat), j ≤ 8 ∧ i = .int .i64 j ∧ Pure w3 w') (fun i _ => 8 - (intOf i).toNat)
          case atStart => exact ⟨0, Nat.zero_le _, rfl, hw⟩
          case round =>
            obtain ⟨j, hj, rfl, hw'⟩ := hrel
            clear hw
            by_cases hj8 : j < 8
            · have hji : (j : Int) < 8 := by omega
              obtain ⟨pb1, po1, hra, q1⟩ := (hb1.pure hw').at m hlt
              obtain ⟨pb2, po2, hra2, q2⟩ := (hb2.pure hw').at m (by rw [hp2.out]; exact hlt)
              subst hra hra2
              obtain ⟨j', hj'⟩ : ∃ j' : Nat, j' = 7 - j := ⟨_, rfl⟩
              have hz : (7 : Int) - (j : Int) = (j' : Int) := by omega
              have hz' : IntKind.i64.wrap (j' : Int) = (j' : Int) := IntWalk.i64_in _ (by omega)
              have hpr := pair (l.take k) m j hlt (by rw [hp2.out]; exact hlt) hj8
              rw [← hj'] at hpr
              clear hj'
              obtain ⟨y1, hy1⟩ : ∃ y, y = (pack true (l.take k))[m].toNat := ⟨_, rfl⟩
              obtain ⟨y2, hy2⟩ : ∃ y, y = ((pack false (l.take k))[m]'(by rw [hp2.out]; exact hlt)).toNat := ⟨_, rfl⟩
              have hl1 : y1 < 256 := by rw [hy1]; exact UInt8.toNat_lt _
              have hl2 : y2 < 256 := by rw [hy2]; exact UInt8.toNat_lt _
              rw [← hy1] at q1 hpr
              rw [← hy2] at q2 hpr
              clear hy1 hy2
              have HA := Lib.hid (fun w => refbit_any y1 j w (by omega) (by omega))
              have hB := (fun w => refbit_any y2 j' w (by omega) (by omega))
              rw [hpr] at hB
              have HB := Lib.hid hB
              clear hB hpr
              have hpl : (pack false (l.take k)).length = (pack true (l.take k)).length := hp2.out
              go_wp2_with fail
              go_quiet ((go_at_call 14; first | (with_reducible exact Calls.quiet_of_same (HA.out _)) | (with_reducible exact Calls.quiet_of_same (HB.out _)) | (trace_state; fail)))
              go_wp2_with fail
              go_roundw
              case rel => exact ⟨j + 1, by omega, by go_num, hw'.drewN _⟩
              case measure => simp [intOf]; omega
            · have hji : ¬ (j : Int) < 8 := by omega
              go_wp2_with fail
              go_roundw
              case rel => exact ⟨m + 1, by omega, by go_num, hw'⟩
              case measure => simp [intOf]; omega
        · have hmi : ¬ (m : Int) < ((pack true (l.take k)).length : Int) := by omega
          go_wp2_with fail
          refine (works_any _).mono ?_
          rintro e w6 ⟨rfl, hE6⟩
          go_wp2_with fail
          go_ret
          exact ⟨rfl, ((hP.pure hw).pure hE6).below⟩

theorem open_bools {H : Type} {enc : TypeId × Value → H} {W : World} {v : Value} {d : DataW H} {p : List MemPlace} {base : Nat}
    (hv : Value.okWide Try.prog W .any base 39 v) (h : DataW.Trod enc Try.prog W 0 (fun _ => true) true 39 v d p) :
    ∃ (a : Option Addr) (cap : Nat) (l : List Bool), v = .slice a l.length cap ∧ (l.length : Int) ≤ 9223372036854775807 ∧ RowOf W a (l.map Value.bool) := by
  obtain ⟨a0, len, cap, rfl⟩ := okWide_slice Try.underlying39 hv
  obtain ⟨fuel, hf⟩ := h
  obtain ⟨a, c, rows, hcs, hl, hm, _, hq, hrow⟩ := open_rows (size := 1) (Q := fun cs (q : Bool) => cs = [.bool q]) Try.underlying39 (by kernel_rfl) (by decide) (fun n cs y hy hlen => by
    obtain ⟨b, e, _⟩ := DataW.trod_bool Try.underlying4 hy
    exact ⟨b, e⟩) hf
  simp [Value.cells] at hcs
  obtain ⟨rfl, rfl, rfl⟩ := hcs
  have hmap : rows.flatMap (·.1) = (rows.map (·.2)).map Value.bool := by
    rw [List.map_map]
    clear hl hrow hf hv
    induction rows with
    | nil => rfl
    | cons r rows ih => rw [List.flatMap_cons, List.map_cons, ih (fun r hr => hq r (by simp [hr])), (hq r (by simp)).2]; rfl
  exact ⟨a0, cap, rows.map (·.2), by simp, by simp; unfold maxLen at hm; omega, hmap ▸ hrow⟩

theorem lifted (os : Os) (started : os.Started) (H : Type) (enc : TypeId × Value → H) :
    ReturnsInHanded {} Try.checked os 4 .any (Rows.bitsTurnedSpec.pre6 enc Try.prog Try.f4 Rows.bitsTurnedRow.domain false) (Rows.bitsTurnedSpec.post enc Try.prog Try.f4 false true false false) := by
  refine returnsInHanded_of_change (C := Try.checked) own started (by kernel_rfl) Try.func4
    (ChangeSpec.witness6 (enc := enc) (C := Try.checked) false ⟨#[], #[.slice none 0 0], []⟩ 8 (by kernel_rfl) (by kernel_rfl) (by kernel_rfl) (by kernel_rfl)) ?_
  intro W base args ds gs before hval0 hW hcnd _
  have hval : ∀ (j : Nat) t v, Try.f4.params[j]? = some t → args[j]? = some v → Value.okWide Try.prog W .any base t v := hval0
  have hW' := hW
  obtain ⟨p, q, hA0, hV, rfl, hfz, hnd⟩ := hW
  have hA : DataW.TrodAll enc Try.prog W 0 (fun _ => true) true Try.f4.params.toList args.toList ds p := hA0
  rw [Try.params4] at hA hval
  obtain ⟨v0, vs0, d0, ds0, p0, q0, hargs, rfl, rfl, h0, r0⟩ := trodAll_cons hA
  obtain ⟨rfl, rfl, rfl⟩ := trodAll_nil r0
  obtain rfl : args = #[v0] := by cases args; simp_all
  obtain ⟨rfl, rfl⟩ := trodVars_none hV
  have k0 := h0
  have lt0 : ∀ x ∈ p0, x.block < W.heap.size := by obtain ⟨m, hm⟩ := k0; exact DataW.trod_lt m _ _ _ hm
  obtain ⟨a, cap, l, rfl, hl, hrow⟩ := open_bools (hval 0 39 v0 rfl rfl) h0
  clear hA0 hval0
  refine (walk a cap l W hl hrow).mono fun e W' ⟨he, bel⟩ => ?_
  subst he
  exact ⟨_, rfl, _, _, _, [], _, [], hW', trodAll_mk1 (shut_bool Try.underlying4 _), (trodAll_cons_mk (Below.trod laidOut (by kernel_rfl) (of_decide_eq_true (by kernel_rfl)) k0 bel lt0) trodAll_mk0), rfl, bel.frame _, fun h => by cases h⟩

theorem proved : Rows.BitsTurnedSaid :=
  OpenClaim.holds_of_wide 4 Try.f4 rfl rfl rfl rfl rfl rfl rfl ⟨rfl, rfl, rfl, rfl, rfl⟩ rfl rfl rfl rfl rfl (by kernel_rfl) Try.func4 (by kernel_rfl)
    (of_decide_eq_true (by kernel_rfl)) (by unfold Func.isWrapper; first | (rw [if_pos (by decide +kernel)]; kernel_rfl) | (rw [if_neg (by decide +kernel)]; exact ⟨rfl, rfl⟩))
    (fun os started H enc _ => lifted os started H enc)
#print axioms proved
end Go.Proofs.Ytcjfmgaelpkndaa.bitsTurned
