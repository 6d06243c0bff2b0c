/-
  Walked: the program's own, of dictionaries and of what has no kind.
-/
import Derived.Test.YtiakphjkcpbccaaOwnP2
namespace Go.Proofs.Ytiakphjkcpbccaa
open Go.RowKit
set_option linter.unusedVariables false

set_option maxHeartbeats 1000000 in
set_option maxRecDepth 100000 in
theorem own7 {d : Nat} {l : List V} {a : Option Addr} {rows : List (List Value)} (n : Int) (s : ByteArray) (c : Nat) (w : World) (hK : Kids w d l a rows) (hl : l.length ≤ 1000000) :
    Calls Try.prog 39 #[.agg #[.int .i64 7, .int .i64 n, .string s, .slice a l.length c]] w (IntTo (ownE 7 n s l) w) := by
  obtain ⟨E, hE⟩ : ∃ E, E = ownE 7 n s l := ⟨_, rfl⟩
  rw [← hE]
  rw [ownE_7] at hE
  unfold dictOwn at hE
  have HD : Hid (∀ W, Pure w W → Calls Try.prog 57 #[.agg #[.int .i64 7, .int .i64 n, .string s, .slice a l.length c]] W (IntTo (dictE l) W)) :=
    Lib.hid (fun W hW => dict_any 7 n s c W (hK.pure hW) hl)
  clear hK hl
  obtain ⟨D, hD⟩ : ∃ D, D = dictE l := ⟨_, rfl⟩
  rw [← hD] at hE HD
  obtain ⟨len, hlen⟩ : ∃ len, len = l.length := ⟨_, rfl⟩
  rw [← hlen] at HD ⊢
  clear hlen hD
  by_cases h1 : n = 0
  · subst h1
    by_cases h2 : s.toList = []
    · have HEE : Hid (E = D) := Lib.hid (by rw [hE]; exact if_pos ⟨rfl, h2⟩)
      clear hE
      go_enter Try.func39, Try.ntmps39
      go_wp2_with fail
      refine (HD.out _ (ext_alloc _ _)).mono ?_
      rintro e w2 ⟨rfl, hP2⟩
      go_wp2_with fail
      go_ret
      exact ⟨by rw [HEE.out]; rfl, (ext_alloc _ _).pure hP2⟩
    · have HEE : Hid (E = 2) := Lib.hid (by rw [hE]; exact if_neg (fun h => h2 h.2))
      have h2' : s.toList.isEmpty = false := by simpa using h2
      clear hE
      go_enter Try.func39, Try.ntmps39
      go_wp2_with fail
      all_goals
        go_ret
        exact ⟨by rw [HEE.out]; rfl, ext_alloc _ _⟩
  · have HEE : Hid (E = 2) := Lib.hid (by rw [hE]; exact if_neg (fun h => h1 h.1))
    have h1' : (n == 0) = false := by simpa using h1
    clear hE
    go_enter Try.func39, Try.ntmps39
    go_wp2_with fail
    go_ret
    exact ⟨by rw [HEE.out]; rfl, ext_alloc _ _⟩

set_option maxHeartbeats 1000000 in
set_option maxRecDepth 100000 in
theorem own_other {k : Int} (hk : ¬ (0 ≤ k ∧ k ≤ 8)) (n : Int) (s : ByteArray) (l : List V) (a : Option Addr) (c : Nat) (w : World) :
    Calls Try.prog 39 #[.agg #[.int .i64 k, .int .i64 n, .string s, .slice a l.length c]] w (IntTo (ownE k n s l) w) := by
  rw [ownE_other hk]
  obtain ⟨len, hlen⟩ : ∃ len, len = l.length := ⟨_, rfl⟩
  rw [← hlen]
  clear hlen
  have h0 : (k == 0) = false := by simp; omega
  have h1 : (k == 1) = false := by simp; omega
  have h2 : (k == 2) = false := by simp; omega
  have h3 : (k == 3) = false := by simp; omega
  have h4 : (k == 4) = false := by simp; omega
  have h5 : (k == 5) = false := by simp; omega
  have h6 : (k == 6) = false := by simp; omega
  have h7 : (k == 7) = false := by simp; omega
  have h8 : (k == 8) = false := by simp; omega
  clear hk
  go_enter Try.func39, Try.ntmps39
  go_wp2_with fail
  go_ret
  exact ⟨rfl, ext_alloc _ _⟩
end Go.Proofs.Ytiakphjkcpbccaa
