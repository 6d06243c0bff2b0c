/-
  The walks: (*halves).take and (*halves).value.
-/
import Derived.Test.YtclnicnieapojaaProg
import Derived.Test.YtclnicnieapojaaBase
import Derived.Test.YtclnicnieapojaaPlain
namespace Go.Proofs.Ytclnicnieapojaa
set_option linter.unusedVariables false
open Go.RowKit

/-- bytes from an address on -/
def byV (x : UInt8) : Value := .int .u8 (x.toNat : Int)
def Bytes (w : World) (ad : Option Addr) (l : List UInt8) : Prop := ∀ i, i < l.length → ∃ b o, ad = some ⟨b, o, none⟩ ∧ w.cell? ⟨b, o + i, none⟩ = some (byV (l.getD i 0))

theorem bytes_add {w : World} {ad : Option Addr} {l : List UInt8} {n : Nat} (h : Bytes w ad l) (hn : n ≤ l.length) : Bytes w (ad.map fun x => { block := x.block, off := x.off + n }) (l.drop n) := by
  intro i hi
  simp at hi
  obtain ⟨b, o, rfl, hc⟩ := h (n + i) (by omega)
  refine ⟨b, o + n, rfl, ?_⟩
  rw [show o + n + i = o + (n + i) from by omega, hc]
  simp [List.getD_eq_getElem?_getD]

def lenOf : Value → Nat | .slice _ n _ => n | _ => 0

set_option maxHeartbeats 1000000 in
set_option maxRecDepth 100000 in
theorem take_any (hb : Nat) (rest : List Value) (T : TypeId) (p : Int × Int) (hp : InR p) (ad : Option Addr) (cap : Nat) (l : List UInt8) (w : World)
    (hl : l.length ≤ cap) (hcap : (cap : Int) ≤ 9223372036854775807) (hB : BlockIs w hb (.int .u32 ((p.1 + 65520) % 65521) :: .int .u32 p.2 :: rest) T) (hc : Bytes w ad l) :
    Calls Try.prog 16 #[.pointer (some ⟨hb, 0, none⟩), .slice ad l.length cap] w fun e w' => e = .returned (.tuple #[]) ∧
      BlockIs w' hb (.int .u32 (((runFrom p l).1 + 65520) % 65521) :: .int .u32 (runFrom p l).2 :: rest) T ∧ Ext (fun i => i = hb) w w' := by
  have h0 : w.cell? ⟨hb, 0, none⟩ = some (.int .u32 ((p.1 + 65520) % 65521)) := hB.cell 0
  have h1 : w.cell? ⟨hb, 0 + 1, none⟩ = some (.int .u32 p.2) := hB.cell 1
  have f0 : w.frozen? ⟨hb, 0, none⟩ = false := hB.free 0
  have f1 : w.frozen? ⟨hb, 0 + 1, none⟩ = false := hB.free 1
  have hp' := hp
  unfold InR at hp
  go_enter Try.func16, Try.ntmps16
  go_wp2_with fail
  go_quiet (fail)
  go_wp2_with fail
  go_loop [1, 4, 5] (fun s x y => ∃ (j r c : Nat) (ad' : Option Addr) (q : Int × Int), j + r = l.length ∧ r ≤ c ∧ c ≤ cap ∧ s = .slice ad' r c ∧ Bytes w ad' (l.drop j) ∧ InB q ∧ (q.1 % 65521, q.2) = runFrom p (l.take j) ∧ x = .int .u32 q.1 ∧ y = .int .u32 q.2) (fun s _ _ => lenOf s)
  case atStart => exact ⟨0, l.length, cap, ad, ((p.1 + 65520) % 65521 + 1, p.2), by omega, hl, Nat.le_refl _, rfl, hc, by unfold InB; simp; omega, by simp [runFrom]; ext <;> simp; omega, rfl, rfl⟩
  case round =>
    obtain ⟨j, r, c, ad', q, hjr, hrc, hcc, rfl, hcj, hqB, hq, rfl, rfl⟩ := hrel
    have hqB' := hqB
    unfold InB at hqB'
    by_cases hlt : 0 < r
    · have hcut := fun n => run0_cut _ _ hq hqB ((l.drop j).take n)
      have hnext : ∀ n, runFrom (runFrom p (l.take j)) ((l.drop j).take n) = runFrom p (l.take (j + n)) := fun n => by rw [← runFrom_append, List.take_add]
      simp only [hnext] at hcut
      have HC := Lib.hid hcut
      have HQ := Lib.hid hq
      clear hcut hnext hq
      rcases Nat.lt_or_ge 5552 r with hr | hr
      · go_wp2_with fail
        go_loop [4, 5, 28] (fun x y i => ∃ t : Nat, t ≤ 5552 ∧ i = .int .i64 t ∧ x = .int .u32 (run0 q ((l.drop j).take t)).1 ∧ y = .int .u32 (run0 q ((l.drop j).take t)).2) (fun _ _ i => 5552 - (intOf i).toNat)
        case atStart => exact ⟨0, by omega, rfl, rfl, rfl⟩
        case round =>
          obtain ⟨t, ht, rfl, rfl, rfl⟩ := hrel
          have hb0 := run0_bd q hqB ((l.drop j).take t) (by simp; omega)
          by_cases htn : t < 5552
          · have hb1 := run0_bd q hqB ((l.drop j).take (t + 1)) (by simp; omega)
            obtain ⟨b, o, rfl, hcell⟩ := hcj t (by simp; omega)
            have hs : run0 q ((l.drop j).take (t + 1)) = st0 (run0 q ((l.drop j).take t)) ((l.drop j).getD t 0) := by
              rw [List.take_add_one, List.getElem?_eq_getElem (by simp; omega), Option.toList, run0_snoc]; simp [List.getD_eq_getElem?_getD, List.getElem?_eq_getElem (show j + t < l.length by omega)]
            have g1 := congrArg Prod.fst hs
            have g2 := congrArg Prod.snd hs
            simp only [st0] at g1 g2
            have hx : (0 : Int) ≤ (((l.drop j).getD t 0).toNat : Int) ∧ (((l.drop j).getD t 0).toNat : Int) ≤ 255 := ⟨by omega, by have := ((l.drop j).getD t 0).toNat_lt; omega⟩
            rw [hs] at hb1
            simp only [st0] at hb1
            clear hs
            unfold byV at hcell
            generalize ((l.drop j).getD t 0).toNat = x at *
            have G1 := Lib.hid g1
            have G2 := Lib.hid g2
            clear g1 g2
            generalize (run0 q ((l.drop j).take t)).1 = A at *
            generalize (run0 q ((l.drop j).take t)).2 = B at *
            go_wp2_with fail
            go_round
            case rel => exact ⟨t + 1, by omega, by go_num, by rw [G1.out], by rw [G2.out]⟩
            case measure => simp [intOf]; omega
          · obtain rfl : t = 5552 := by omega
            have hc1 := HC.out 5552
            have hX1 := congrArg Prod.fst hc1
            have hX2 := congrArg Prod.snd hc1
            simp only at hX1 hX2
            have G1 := Lib.hid hX1
            have G2 := Lib.hid hX2
            clear hX1 hX2 hc1
            generalize (run0 q ((l.drop j).take 5552)).1 = A at *
            generalize (run0 q ((l.drop j).take 5552)).2 = B at *
            go_wp2_with fail
            go_round
            case rel =>
              refine ⟨j + 5552, r - 5552, c - 5552, _, (A % 65521, B % 65521), by omega, by omega, by omega, rfl, ?_, by unfold InB; simp; omega, ?_, rfl, rfl⟩
              · rw [← List.drop_drop]; exact bytes_add hcj (by simp; omega)
              · exact Prod.ext (by rw [← G1.out]; simp) G2.out
            case measure => simp [lenOf]; omega

      · go_wp2_with fail
        go_loop [4, 5, 28] (fun x y i => ∃ t : Nat, t ≤ r ∧ i = .int .i64 t ∧ x = .int .u32 (run0 q ((l.drop j).take t)).1 ∧ y = .int .u32 (run0 q ((l.drop j).take t)).2) (fun _ _ i => r - (intOf i).toNat)
        case atStart => exact ⟨0, by omega, rfl, rfl, rfl⟩
        case round =>
          obtain ⟨t, ht, rfl, rfl, rfl⟩ := hrel
          have hb0 := run0_bd q hqB ((l.drop j).take t) (by simp; omega)
          by_cases htn : t < r
          · have hb1 := run0_bd q hqB ((l.drop j).take (t + 1)) (by simp; omega)
            obtain ⟨b, o, rfl, hcell⟩ := hcj t (by simp; omega)
            have hs : run0 q ((l.drop j).take (t + 1)) = st0 (run0 q ((l.drop j).take t)) ((l.drop j).getD t 0) := by
              rw [List.take_add_one, List.getElem?_eq_getElem (by simp; omega), Option.toList, run0_snoc]; simp [List.getD_eq_getElem?_getD, List.getElem?_eq_getElem (show j + t < l.length by omega)]
            have g1 := congrArg Prod.fst hs
            have g2 := congrArg Prod.snd hs
            simp only [st0] at g1 g2
            have hx : (0 : Int) ≤ (((l.drop j).getD t 0).toNat : Int) ∧ (((l.drop j).getD t 0).toNat : Int) ≤ 255 := ⟨by omega, by have := ((l.drop j).getD t 0).toNat_lt; omega⟩
            rw [hs] at hb1
            simp only [st0] at hb1
            clear hs
            unfold byV at hcell
            generalize ((l.drop j).getD t 0).toNat = x at *
            have G1 := Lib.hid g1
            have G2 := Lib.hid g2
            clear g1 g2
            generalize (run0 q ((l.drop j).take t)).1 = A at *
            generalize (run0 q ((l.drop j).take t)).2 = B at *
            go_wp2_with fail
            go_round
            case rel => exact ⟨t + 1, by omega, by go_num, by rw [G1.out], by rw [G2.out]⟩
            case measure => simp [intOf]; omega
          · obtain rfl : r = t := by omega
            have hc1 := HC.out r
            have hX1 := congrArg Prod.fst hc1
            have hX2 := congrArg Prod.snd hc1
            simp only at hX1 hX2
            have G1 := Lib.hid hX1
            have G2 := Lib.hid hX2
            clear hX1 hX2 hc1
            generalize (run0 q ((l.drop j).take r)).1 = A at *
            generalize (run0 q ((l.drop j).take r)).2 = B at *
            go_wp2_with fail
            go_round
            case rel =>
              refine ⟨j + r, 0, c - r, _, (A % 65521, B % 65521), by omega, by omega, by omega, rfl, ?_, by unfold InB; simp; omega, ?_, rfl, rfl⟩
              · intro i hi; simp at hi; omega
              · exact Prod.ext (by rw [← G1.out]; simp) G2.out
            case measure => simp [lenOf]; omega

    · have hd : decide (0 < r) = false := by simp; omega
      go_wp2_with fail
      go_end0
      rw [List.take_of_length_le (by omega)] at hq
      have h1 := congrArg Prod.fst hq
      have h2 := congrArg Prod.snd hq
      simp only at h1 h2
      refine ⟨rfl, ?_, (((Ext.refl (fun i => i = hb) w).drewN nq).setCell (fun _ => rfl) _).setCell (fun _ => rfl) _⟩
      have hb' := ((hB.drewN nq).set 0 (.int .u32 ((q.1 + 65521 - 1) % 65521))).set 1 (.int .u32 q.2)
      simp only [List.set] at hb'
      rw [← h1, ← h2, show (q.1 % 65521 + 65520) % 65521 = (q.1 + 65521 - 1) % 65521 from by omega]
      exact hb'

theorem u32_or_shift (k : Nat) (a b : Int) (ha : 0 ≤ a) (hb : 0 ≤ b) (hbk : b < 2 ^ k) (hab : a * 2 ^ k < 4294967296) (hb2 : b < 4294967296) : bits .or .u32 (a * 2 ^ k) b = a * 2 ^ k + b := by
  obtain ⟨x, rfl⟩ := Int.eq_ofNat_of_zero_le ha
  obtain ⟨y, rfl⟩ := Int.eq_ofNat_of_zero_le hb
  rw [u32_or _ _ (by exact Int.mul_nonneg ha (by exact Int.pow_nonneg (by decide))) hab hb hb2]
  have e : ((x : Int) * 2 ^ k).toNat = 2 ^ k * x := by
    rw [show ((x : Int) * 2 ^ k) = ((2 ^ k * x : Nat) : Int) from by push_cast; exact Int.mul_comm _ _]; rfl
  have hy : y < 2 ^ k := by exact_mod_cast hbk
  rw [e, Int.toNat_natCast, ← Nat.two_pow_add_eq_or_of_lt hy x]
  push_cast
  rw [Int.mul_comm]
theorem u32_or16 (a b : Int) (ha : 0 ≤ a) (ha2 : a < 65536) (hb : 0 ≤ b) (hbk : b < 65536) : bits .or .u32 (a * 65536) b = a * 65536 + b :=
  u32_or_shift 16 a b ha hb hbk (by simp; omega) (by omega)

theorem value_any (hb : Nat) (rest : List Value) (T : TypeId) (p : Int × Int) (hp : InR p) (w : World)
    (hB : BlockIs w hb (.int .u32 ((p.1 + 65520) % 65521) :: .int .u32 p.2 :: rest) T) :
    Calls Try.prog 17 #[.pointer (some ⟨hb, 0, none⟩)] w fun e w' => e = .returned (.int .u32 (sumOf p)) ∧ ∃ n, w' = w.drewN n := by
  have h0 : w.cell? ⟨hb, 0, none⟩ = some (.int .u32 ((p.1 + 65520) % 65521)) := hB.cell 0
  have h1 : w.cell? ⟨hb, 0 + 1, none⟩ = some (.int .u32 p.2) := hB.cell 1
  unfold InR at hp
  go_enter Try.func17, Try.ntmps17
  go_wp2_with fail
  go_quiet (fail)
  go_wp2_with fail
  go_ret
  refine ⟨?_, _, rfl⟩
  have e : bits .or .u32 (p.2 * 65536) ((p.1 + 65520 + 1) % 65521) = sumOf p := by
    rw [u32_or16 _ _ (by omega) (by omega) (by omega) (by omega)]; unfold sumOf; omega
  rw [← e]; rfl
end Go.Proofs.Ytclnicnieapojaa
