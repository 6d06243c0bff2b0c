/-
  Walked: the greatest of a row.
-/
import Derived.Test.YtdhejhgpjeenaaaWithin
import Derived.Test.YtdhejhgpjeenaaaHNat
namespace Go.Proofs.Ytdhejhgpjeenaaa
open Go.RowKit C26
set_option linter.unusedVariables false
theorem fold_take_int (f : Int → Int → Int) (x : Int) (xs : List Int) (k : Nat) (hk : k < xs.length) : (xs.take (k + 1)).foldl f x = f ((xs.take k).foldl f x) xs[k] := by
  rw [List.take_add_one, List.getElem?_eq_getElem hk, List.foldl_append]; rfl
set_option maxRecDepth 100000 in
theorem max_int (ad : Option Addr) (cap : Nat) (x : Int) (xs : List Int) (w : World) (hr : RowOf w ad ((x :: xs).map iV)) (hl : xs.length ≤ 1000000000) :
    Calls Try.prog 25 #[.slice ad (x :: xs).length cap] w fun e w' => e = .returned (.int .i64 (xs.foldl max x)) ∧ w' = w := by
  obtain ⟨b, o, rfl, h0⟩ := iV_at hr 0 (by simp)
  obtain ⟨n, hn⟩ : ∃ n, n = (x :: xs).length := ⟨_, rfl⟩
  have hn1 : n = xs.length + 1 := by rw [hn, List.length_cons]
  rw [← hn]
  simp only [List.getElem_cons_zero, Nat.add_zero] at h0
  have HN := Lib.hid hn1
  have hn2 : 0 < n := by omega
  have hn3 : n ≤ 1000000001 := by omega
  have hn4 : ¬ (n : Int) < 1 := by omega
  have HN2 := Lib.hid hn
  clear hn hn1
  go_enter Try.func25, Try.ntmps25
  go_wp2_with fail
  go_loop [3, 4] (fun m i => ∃ k : Nat, k + 1 ≤ n ∧ i = .int .i64 ((k + 1 : Nat) : Int) ∧ m = .int .i64 ((xs.take k).foldl max x)) (fun _ i => n - (intOf i).toNat)
  case atStart => exact ⟨0, by omega, rfl, rfl⟩
  case round =>
    obtain ⟨k, hk, rfl, rfl⟩ := hrel
    obtain ⟨k1, hk1⟩ : ∃ k1, k1 = k + 1 := ⟨_, rfl⟩
    rw [← hk1] at hk ⊢
    have HK1 := Lib.hid hk1
    obtain ⟨m, hm⟩ : ∃ m, m = (xs.take k).foldl max x := ⟨_, rfl⟩
    rw [← hm]
    by_cases hlt : k1 < n
    · have hki : (k1 : Int) < (n : Int) := by omega
      have hk0 : (0 : Int) ≤ (k1 : Int) := by omega
      have hkx : k < xs.length := by have := HN.out; omega
      have hs := fold_take_int max x xs k hkx
      rw [← hm] at hs
      obtain ⟨_, _, hh, h1⟩ := iV_at hr k1 (by rw [← HN2.out]; exact hlt)
      cases hh
      have hg : (x :: xs)[k1]'(by rw [← HN2.out]; exact hlt) = xs[k] := by subst hk1; rfl
      rw [hg] at h1
      generalize xs[k] = y at *
      have HS := Lib.hid hs
      clear hs hm hk1
      go_wp2_with fail
      go_round
      case rel => exact ⟨k1, by omega, by go_num, by rw [show k1 = k + 1 from HK1.out, HS.out]; try (congr 1; first | omega | (split <;> omega))⟩
      case measure => simp [intOf]; omega
    · have hki : ¬ (k1 : Int) < (n : Int) := by omega
      have ht : xs.take k = xs := List.take_of_length_le (by have := HN.out; omega)
      rw [ht] at hm
      have HM := Lib.hid hm
      clear hm ht hk1
      go_wp2_with fail
      go_ret
      exact ⟨by rw [← HM.out]; rfl, rfl⟩
theorem mx_cons (x : Nat) (xs : List Nat) : mx (x :: xs) = xs.foldl max x := by unfold mx; rw [List.foldl_cons, Nat.max_eq_right (Nat.zero_le _)]
theorem maxN_any (ad : Option Addr) (cap : Nat) (ls : List Nat) (w : World) (hr : RowOf w ad (ls.map intV)) (hne : ls ≠ []) (hl : ls.length ≤ 1000000000) :
    Calls Try.prog 25 #[.slice ad ls.length cap] w fun e w' => e = .returned (.int .i64 (mx ls : Nat)) ∧ w' = w := by
  cases ls with
  | nil => exact absurd rfl hne
  | cons x xs =>
    have h := max_int ad cap (x : Int) (xs.map (fun y : Nat => (y : Int))) w (by rw [← List.map_cons (f := fun y : Nat => (y : Int)), List.map_map]; exact hr) (by rw [List.length_map]; simp at hl; omega)
    rw [foldl_max_cast, ← mx_cons] at h
    simpa using h
end Go.Proofs.Ytdhejhgpjeenaaa
