/-
  Walked: within, and whether a row has an odd number.
-/
import Derived.Test.YtdhejhgpjeenaaaRefNum
import Derived.Test.YtdhejhgpjeenaaaHints
namespace Go.Proofs.Ytdhejhgpjeenaaa
open Go.RowKit
set_option linter.unusedVariables false

def inB (n a b : Int) : Bool := decide (a ≤ n) && decide (n ≤ b)
theorem inB_true {n a b : Int} : inB n a b = true ↔ a ≤ n ∧ n ≤ b := by simp [inB]
theorem inB_false {n a b : Int} : inB n a b = false ↔ n < a ∨ b < n := by
  rw [← Bool.not_eq_true, inB_true]; omega
def iV (x : Int) : Value := .int .i64 x
theorem within_any (n a b : Int) (w : World) : Calls Try.prog 35 #[.int .i64 n, .int .i64 a, .int .i64 b] w fun e w' => e = .returned (.bool (inB n a b)) ∧ w' = w := by
  cases h : inB n a b with
  | true =>
    obtain ⟨h1, h2⟩ := inB_true.1 h
    clear h
    go_enter Try.func35, Try.ntmps35
    go_wp2_with fail
    go_ret
    exact ⟨rfl, rfl⟩
  | false =>
    rcases inB_false.1 h with h1 | h1
    · clear h
      have h2 : ¬ a ≤ n := by omega
      go_enter Try.func35, Try.ntmps35
      go_wp2_with fail
      go_ret
      exact ⟨rfl, rfl⟩
    · clear h
      by_cases h2 : a ≤ n
      all_goals
        have h3 : ¬ n ≤ b := by omega
        go_enter Try.func35, Try.ntmps35
        go_wp2_with fail
        go_ret
        exact ⟨rfl, rfl⟩
/-- a shared number that may not be -/
def odd (x : Int) : Bool := !inB x 0 4095
theorem odd_any (x : Int) (w : World) : Calls Try.prog 37 #[.int .i64 x] w fun e w' => e = .returned (.bool (odd x)) ∧ w' = w := by
  have HO : Hid (odd x = !inB x 0 4095) := Lib.hid rfl
  have HW := Lib.hid (within_any x 0 4095 w)
  generalize inB x 0 4095 = β at *
  go_enter Try.func37, Try.ntmps37
  go_wp2_with fail
  refine HW.out.mono ?_
  rintro e w2 ⟨rfl, hw2⟩
  obtain rfl := hw2.symm
  go_wp2_with fail
  go_ret
  exact ⟨by rw [HO.out]; rfl, rfl⟩
def IdxRes (ls : List Int) (w : World) (e : Ending) (w' : World) : Prop := ∃ r : Int, e = .returned (.int .i64 r) ∧ decide (0 ≤ r) = ls.any odd ∧ w' = w
theorem iV_at {w : World} {ad : Option Addr} {ls : List Int} (h : RowOf w ad (ls.map iV)) (i : Nat) (hi : i < ls.length) : ∃ b o, ad = some ⟨b, o, none⟩ ∧ w.cell? ⟨b, o + i, none⟩ = some (.int .i64 ls[i]) :=
  h i _ (by simp [hi, iV])
theorem any_take_succ {α : Type} (p : α → Bool) (ls : List α) (k : Nat) (hk : k < ls.length) : (ls.take (k + 1)).any p = ((ls.take k).any p || p ls[k]) := by
  rw [List.take_add_one, List.getElem?_eq_getElem hk, List.any_append]; simp
theorem any_of_at {α : Type} (p : α → Bool) (ls : List α) (k : Nat) (hk : k < ls.length) (h : p ls[k] = true) : ls.any p = true := List.any_eq_true.2 ⟨_, List.getElem_mem _, h⟩
set_option maxRecDepth 100000 in
theorem index_any (ad : Option Addr) (cap : Nat) (ls : List Int) (w : World) (hr : RowOf w ad (ls.map iV)) (hl : ls.length ≤ 1000000000) :
    Calls Try.prog 57 #[.slice ad ls.length cap, .func (.func 37) #[] #[]] w (IdxRes ls w) := by
  go_enter Try.func57, Try.ntmps57
  go_wp2_with fail
  go_loopw [8, 5] (fun i _ w' => ∃ k : Nat, k ≤ ls.length ∧ i = .int .i64 k ∧ (ls.take k).any odd = false ∧ w' = w) (fun i _ _ => ls.length - (intOf i).toNat)
  case atStart => exact ⟨0, Nat.zero_le _, rfl, rfl, rfl⟩
  case round =>
    obtain ⟨k, hk, rfl, hno, hw⟩ := hrel
    obtain rfl := hw.symm
    have HNo := Lib.hid hno
    clear hno
    by_cases hlt : k < ls.length
    · have hki : (k : Int) < (ls.length : Int) := by omega
      have hk0 : (0 : Int) ≤ (k : Int) := by omega
      obtain ⟨b, o, rfl, h0⟩ := iV_at hr k hlt
      have HB := Lib.hid (odd_any ls[k] w)
      have HT := Lib.hid (any_take_succ odd ls k hlt)
      have HA := Lib.hid (any_of_at odd ls k hlt)
      cases hb : odd ls[k] with
      | true =>
        rw [hb] at HB HA
        generalize ls[k] = x at *
        clear hb
        go_wp2_with fail
        refine HB.out.mono ?_
        rintro e w2 ⟨rfl, hw2⟩
        obtain rfl := hw2.symm
        go_wp2_with fail
        go_ret
        exact ⟨k, rfl, by rw [HA.out trivial]; simp, rfl⟩
      | false =>
        rw [hb, HNo.out] at HT
        have HB' := Lib.hid (hb ▸ HB.out)
        clear HB
        generalize ls[k] = x at *
        clear hb HA
        go_wp2_with fail
        refine HB'.out.mono ?_
        rintro e w2 ⟨rfl, hw2⟩
        obtain rfl := hw2.symm
        go_wp2_with fail
        go_roundw
        case rel => exact ⟨k + 1, by omega, by go_num, HT.out, by first | rfl | trivial⟩
        case measure => simp [intOf]; omega
    · have hki : ¬ (k : Int) < (ls.length : Int) := by omega
      rw [List.take_of_length_le (by omega)] at HNo
      go_wp2_with fail
      go_ret
      exact ⟨-1, rfl, by rw [HNo.out]; rfl, rfl⟩
theorem contains_any (ad : Option Addr) (cap : Nat) (ls : List Int) (w : World) (hr : RowOf w ad (ls.map iV)) (hl : ls.length ≤ 1000000000) :
    Calls Try.prog 36 #[.slice ad ls.length cap, .func (.func 37) #[] #[]] w fun e w' => e = .returned (.bool (ls.any odd)) ∧ w' = w := by
  have HI := Lib.hid (index_any ad cap ls w hr hl)
  go_enter Try.func36, Try.ntmps36
  go_wp2_with fail
  refine HI.out.mono ?_
  rintro e w2 ⟨r, rfl, hd, hw2⟩
  obtain rfl := hw2.symm
  have HD := Lib.hid hd
  clear hd
  go_wp2_with fail
  go_ret
  exact ⟨by rw [← HD.out]; rfl, rfl⟩
end Go.Proofs.Ytdhejhgpjeenaaa
