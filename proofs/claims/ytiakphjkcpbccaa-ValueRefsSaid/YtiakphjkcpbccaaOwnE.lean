/-
  May a value be, by itself? (both)
-/
import Derived.Test.YtiakphjkcpbccaaIdx
namespace Go.Proofs.Ytiakphjkcpbccaa
open Go.RowKit
set_option linter.unusedVariables false

/-- which error a value has by itself -/
def ownE (k n : Int) (s : ByteArray) (l : List V) : Int :=
  if k = 0 then (if n = 0 ∧ s.toList = [] ∧ l.length = 0 then 0 else 2)
  else if k = 1 then (if (n = 0 ∨ n = 1) ∧ s.toList = [] ∧ l.length = 0 then 0 else 2)
  else if k = 2 ∨ k = 3 then numE k n s l.length
  else if k = 4 then (if n = 0 ∧ l.length = 0 then 0 else 2)
  else if k = 5 then (if textB s = true then (if n = 0 ∧ l.length = 0 then 0 else 2) else 17)
  else if k = 6 then (if n = 0 ∧ s.toList = [] then 0 else 2)
  else if k = 7 then dictOwn n s l
  else if k = 8 then (if (1 ≤ n ∧ n ≤ 4096) ∧ s.toList = [] ∧ l.length = 0 then 0 else 2)
  else 2
set_option maxHeartbeats 1000000 in
set_option maxRecDepth 100000 in
theorem plain_any (k n : Int) (s : ByteArray) (a : Option Addr) (len c : Nat) (w : World) :
    Calls Try.prog 54 #[.agg #[.int .i64 k, .int .i64 n, .string s, .slice a len c]] w (BoolTo (decide (n = 0 ∧ s.toList = [] ∧ len = 0)) w) := by
  obtain ⟨B, hB⟩ : ∃ B, B = decide (n = 0 ∧ s.toList = [] ∧ len = 0) := ⟨_, rfl⟩
  rw [← hB]
  by_cases h1 : n = 0
  · by_cases h2 : s.toList = []
    · by_cases h3 : len = 0
      · have HB : Hid (B = true) := Lib.hid (by rw [hB]; exact decide_eq_true ⟨h1, h2, h3⟩)
        have h3' : ((len : Int) == 0) = true := by simp [h3]
        subst h1
        clear hB h3
        go_enter Try.func54, Try.ntmps54
        go_wp2_with fail
        go_ret
        exact ⟨by rw [HB.out]; rfl, ext_alloc _ _⟩
      · have HB : Hid (B = false) := Lib.hid (by rw [hB]; exact decide_eq_false (fun h => h3 h.2.2))
        have h3' : ((len : Int) == 0) = false := by simp [h3]
        subst h1
        clear hB h3
        go_enter Try.func54, Try.ntmps54
        go_wp2_with fail
        go_ret
        exact ⟨by rw [HB.out]; rfl, ext_alloc _ _⟩
    · have HB : Hid (B = false) := Lib.hid (by rw [hB]; exact decide_eq_false (fun h => h2 h.2.1))
      subst h1
      clear hB
      go_enter Try.func54, Try.ntmps54
      go_wp2_with fail
      go_ret
      exact ⟨by rw [HB.out]; rfl, ext_alloc _ _⟩
  · have HB : Hid (B = false) := Lib.hid (by rw [hB]; exact decide_eq_false (fun h => h1 h.1))
    have h1' : (n == 0) = false := by simpa using h1
    clear hB h1
    go_enter Try.func54, Try.ntmps54
    go_wp2_with fail
    go_ret
    exact ⟨by rw [HB.out]; rfl, ext_alloc _ _⟩
end Go.Proofs.Ytiakphjkcpbccaa
