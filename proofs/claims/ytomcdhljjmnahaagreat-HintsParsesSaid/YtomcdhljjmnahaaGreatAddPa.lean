import Derived.Test.YtomcdhljjmnahaaGreatHPlPa
import Derived.Test.YtomcdhljjmnahaaGreatLibPAPa
import Derived.Test.YtomcdhljjmnahaaGreatSqPa
set_option linter.unusedVariables false
set_option linter.unusedSimpArgs false
set_option maxRecDepth 100000
namespace Go.Proofs.YtomcdhljjmnahaaGreat
open Go.RowKit
def zV (x : Int) : Value := .int .i64 x
theorem zV_at {w : World} {ad : Option Addr} {ls : List Int} (h : RowOf w ad (ls.map zV)) (i : Nat) (hi : i < ls.length) : ∃ b o, ad = some ⟨b, o, none⟩ ∧ w.cell? ⟨b, o + i, none⟩ = some (.int .i64 ls[i]) :=
 h i _ (by simp [hi, zV])
def TwoI (x y : Int) (w : World) (e : Ending) (w' : World) : Prop := e = .returned (.tuple #[.int .i64 x, .int .i64 y]) ∧ Pure w w'
theorem sumL_take_succ {l : List Int} {k : Nat} (hk : k < l.length) : sumL (l.take (k + 1)) = sumL (l.take k) + l[k] := by
 rw [List.take_succ_eq_append_getElem hk, sumL_append, sumL, sumL]; omega
theorem allPos_take_succ {l : List Int} {k : Nat} (hk : k < l.length) : allPos (l.take (k + 1)) = (allPos (l.take k) && decide (0 ≤ l[k])) := by
 rw [List.take_succ_eq_append_getElem hk, allPos_append, allPos_cons]; simp [allPos]
theorem allPos_at {l : List Int} {k : Nat} (hk : k < l.length) (h : l[k] < 0) : allPos l = false := by
 rw [← Bool.not_eq_true]
 intro h'
 unfold allPos at h'
 rw [List.all_eq_true] at h'
 have := of_decide_eq_true (h' _ (List.getElem_mem hk))
 omega
def SumAt (l : List Int) (k : Nat) (n : Int) (over : Bool) : Prop := allPos (l.take k) = true ∧ 0 ≤ n ∧ n ≤ 2147483647 ∧ (over = false → n = sumL (l.take k)) ∧ (over = true → 2147483647 < sumL (l.take k))
set_option maxHeartbeats 1000000 in
theorem add_any (l : List Int) (a : Option Addr) (c : Nat) (w : World) (hr : RowOf w a (l.map zV)) (hl : l.length ≤ 1000000000) :
 Calls Tryz.prog 78 #[.slice a l.length c] w (TwoI (addL l).1 (addL l).2 w) := by
 obtain ⟨F, hF⟩ : ∃ F, F = addL l := ⟨_, rfl⟩
 rw [← hF]
 obtain ⟨ln, hln⟩ : ∃ z, z = l.length := ⟨_, rfl⟩
 rw [← hln] at hl ⊢
 have HF := qh hF
 have HN := qh hln
 clear hF hln
 go_enter Tryz.func78, Tryz.ntmps78
 go_wp2_with fail
 go_loopw [4, 5, 10] (fun n o i W => ∃ (k : Nat) (nn : Int) (ov : Bool), k ≤ ln ∧ i = .int .i64 k ∧ n = .int .i64 nn ∧ o = .bool ov ∧ Hid (SumAt l k nn ov) ∧ Pure w W) (fun _ _ i _ => ln - (intOf i).toNat)
 case atStart => exact ⟨0, 0, false, Nat.zero_le _, rfl, rfl, rfl, qh ⟨by rw [List.take_zero]; rfl, by decide, by decide, fun _ => by rw [List.take_zero]; rfl, fun h => by cases h⟩, Ext.refl _ _⟩
 case round =>
  obtain ⟨k, nn, ov, hk, rfl, rfl, rfl, HS, hE⟩ := hrel
  have hn0 := HS.out.2.1
  have hn1 := HS.out.2.2.1
  by_cases hlt : k < ln
  ·have hki : (k : Int) < (ln : Int) := by omega
   have hkl : k < l.length := by rw [← HN.out]; exact hlt
   obtain ⟨b, o, rfl, c0⟩ := zV_at (hr.ext hE (fun _ _ => id)) k hkl
   obtain ⟨x, hx⟩ : ∃ z, z = l[k] := ⟨_, rfl⟩
   rw [← hx] at c0
   by_cases hneg : x < 0
   ·have HFr : Hid (F = (0, 2)) := qh (by rw [HF.out]; unfold addL; rw [if_neg (by rw [allPos_at hkl (by omega)]; decide)])
    clear hx hkl
    go_wp2_with fail
    go_ret2
    exact ⟨by rw [HFr.out]; rfl, hE⟩
   ·have hAp : allPos (l.take (k + 1)) = true := by rw [allPos_take_succ hkl, HS.out.1, ← hx]; simp; omega
    have hSm : sumL (l.take (k + 1)) = sumL (l.take k) + x := by rw [sumL_take_succ hkl, hx]
    cases ov with
    | true =>
      have HS2 : Hid (SumAt l (k + 1) nn true) := qh ⟨hAp, hn0, hn1, (fun h => by cases h), fun _ => by have := HS.out.2.2.2.2 rfl; omega⟩
      clear hx hkl hAp hSm
      go_wp2_with fail
      go_roundw
      case rel => exact ⟨k + 1, nn, true, by omega, by go_num, rfl, rfl, HS2, hE⟩
      case measure => simp [intOf]; omega
    | false =>
      have hns := HS.out.2.2.2.1 rfl
      have hw : wrap64 (2147483647 - nn) = 2147483647 - nn := by unfold wrap64; omega
      by_cases hov : 2147483647 - nn < x
      ·have HS2 : Hid (SumAt l (k + 1) nn true) := qh ⟨hAp, hn0, hn1, (fun h => by cases h), fun _ => by omega⟩
       clear hx hkl hAp hSm hns
       go_wp2_with fail
       go_roundw
       case rel => exact ⟨k + 1, nn, true, by omega, by go_num, rfl, rfl, HS2, hE⟩
       case measure => simp [intOf]; omega
      ·have HS2 : Hid (SumAt l (k + 1) (nn + x) false) := qh ⟨hAp, by omega, by omega, (fun _ => by omega), fun h => by cases h⟩
       have hw2 : wrap64 (nn + x) = nn + x := by unfold wrap64; omega
       clear hx hkl hAp hSm hns
       go_wp2_with fail
       go_roundw
       case rel => exact ⟨k + 1, nn + x, false, by omega, by go_num, rfl, rfl, HS2, hE⟩
       case measure => simp [intOf]; omega
  ·have hki : ¬ (k : Int) < (ln : Int) := by omega
   have hS := HS.out
   unfold SumAt at hS
   rw [List.take_of_length_le (by rw [← HN.out]; omega)] at hS
   cases ov with
   | true =>
     have HFr : Hid (F = (0, 5)) := qh (by rw [HF.out]; unfold addL; rw [if_pos hS.1, if_neg (by have := hS.2.2.2.2 rfl; omega)])
     clear hS HS
     go_wp2_with fail
     go_ret2
     exact ⟨by rw [HFr.out]; rfl, hE⟩
   | false =>
     have HFr : Hid (F = (nn, 0)) := qh (by rw [HF.out]; unfold addL; rw [if_pos hS.1, if_pos (by have := hS.2.2.2.1 rfl; omega), hS.2.2.2.1 rfl])
     clear hS HS
     go_wp2_with fail
     go_ret2
     exact ⟨by rw [HFr.out]; rfl, hE⟩
set_option maxHeartbeats 1000000 in
theorem refadd_any (l : List Int) (a : Option Addr) (c : Nat) (w : World) (hr : RowOf w a (l.map zV)) (hl : l.length ≤ 1000000000) :
 Calls Tryz.prog 114 #[.slice a l.length c] w (TwoI (addL l).1 (addL l).2 w) := by
 obtain ⟨F, hF⟩ : ∃ F, F = addL l := ⟨_, rfl⟩
 rw [← hF]
 obtain ⟨ln, hln⟩ : ∃ z, z = l.length := ⟨_, rfl⟩
 rw [← hln] at hl ⊢
 have HF := qh hF
 have HN := qh hln
 clear hF hln
 go_enter Tryz.func114, Tryz.ntmps114
 go_wp2_with fail
 go_loopw [4] (fun i W => ∃ (k : Nat), k ≤ ln ∧ i = .int .i64 k ∧ Hid (allPos (l.take k) = true) ∧ Pure w W) (fun i _ => ln - (intOf i).toNat)
 case atStart => exact ⟨0, Nat.zero_le _, rfl, qh (by rw [List.take_zero]; rfl), Ext.refl _ _⟩
 case round =>
  obtain ⟨k, hk, rfl, HS, hE⟩ := hrel
  by_cases hlt : k < ln
  ·have hki : (k : Int) < (ln : Int) := by omega
   have hkl : k < l.length := by rw [← HN.out]; exact hlt
   obtain ⟨b, o, rfl, c0⟩ := zV_at (hr.ext hE (fun _ _ => id)) k hkl
   obtain ⟨x, hx⟩ : ∃ z, z = l[k] := ⟨_, rfl⟩
   rw [← hx] at c0
   by_cases hneg : x < 0
   ·have HFr : Hid (F = (0, 2)) := qh (by rw [HF.out]; unfold addL; rw [if_neg (by rw [allPos_at hkl (by omega)]; decide)])
    clear hx hkl
    go_wp2_with fail
    go_ret2
    exact ⟨by rw [HFr.out]; rfl, hE⟩
   ·have HAp : Hid (allPos (l.take (k + 1)) = true) := qh (by rw [allPos_take_succ hkl, HS.out, ← hx]; simp; omega)
    clear hx hkl
    go_wp2_with fail
    go_roundw
    case rel => exact ⟨k + 1, by omega, by go_num, HAp, hE⟩
    case measure => simp [intOf]; omega
  ·have hki : ¬ (k : Int) < (ln : Int) := by omega
   have HA : Hid (allPos l = true) := qh (by have := HS.out; rwa [List.take_of_length_le (by rw [← HN.out]; omega)] at this)
   clear HS
   go_wp2_with fail
   go_loopw [5, 6] (fun n i W => ∃ (j : Nat) (nn : Int), j ≤ ln ∧ i = .int .i64 j ∧ n = .int .i64 nn ∧ Hid (nn = sumL (l.take j)) ∧ (0 ≤ nn ∧ nn ≤ 2147483647) ∧ Pure w W) (fun _ i _ => ln - (intOf i).toNat)
   case atStart => exact ⟨0, 0, Nat.zero_le _, rfl, rfl, qh (by rw [List.take_zero]; rfl), by decide, hE⟩
   case round =>
    obtain ⟨j, nn, hj, rfl, rfl, HSm, ⟨hn0, hn1⟩, hE⟩ := hrel
    by_cases hlt : j < ln
    ·have hji : (j : Int) < (ln : Int) := by omega
     have hjl : j < l.length := by rw [← HN.out]; exact hlt
     obtain ⟨b, o, rfl, c0⟩ := zV_at (hr.ext hE (fun _ _ => id)) j hjl
     obtain ⟨x, hx⟩ : ∃ z, z = l[j] := ⟨_, rfl⟩
     rw [← hx] at c0
     have hx0 : 0 ≤ x := by
      have h := HA.out
      unfold allPos at h
      rw [List.all_eq_true] at h
      have := of_decide_eq_true (h _ (List.getElem_mem hjl))
      omega
     have hSm : sumL (l.take (j + 1)) = nn + x := by rw [sumL_take_succ hjl, hx, HSm.out]
     have hw : wrap64 (2147483647 - nn) = 2147483647 - nn := by unfold wrap64; omega
     by_cases hov : 2147483647 - nn < x
     ·have HFr : Hid (F = (0, 5)) := qh (by
       rw [HF.out]; unfold addL; rw [if_pos HA.out, if_neg ?_]
       have h1 : allPos (l.drop (j + 1)) = true := by
        have h := HA.out
        rw [← List.take_append_drop (j + 1) l, allPos_append, Bool.and_eq_true] at h
        exact h.2
       have h2 := sumL_pos h1
       have h3 : sumL l = sumL (l.take (j + 1)) + sumL (l.drop (j + 1)) := by rw [← sumL_append, List.take_append_drop]
       omega)
      clear hx hjl hSm
      go_wp2_with fail
      go_ret2
      exact ⟨by rw [HFr.out]; rfl, hE⟩
     ·have hw2 : wrap64 (nn + x) = nn + x := by unfold wrap64; omega
      have HSm2 : Hid (nn + x = sumL (l.take (j + 1))) := qh hSm.symm
      clear hx hjl hSm
      go_wp2_with fail
      go_roundw
      case rel => exact ⟨j + 1, nn + x, by omega, by go_num, rfl, HSm2, ⟨by omega, by omega⟩, hE⟩
      case measure => simp [intOf]; omega
    ·have hji : ¬ (j : Int) < (ln : Int) := by omega
     have HFr : Hid (F = (nn, 0)) := qh (by
      have h := HSm.out
      rw [List.take_of_length_le (by rw [← HN.out]; omega)] at h
      rw [HF.out]; unfold addL; rw [if_pos HA.out, if_pos (by omega), h])
     clear HSm
     go_wp2_with fail
     go_ret2
     exact ⟨by rw [HFr.out]; rfl, hE⟩
