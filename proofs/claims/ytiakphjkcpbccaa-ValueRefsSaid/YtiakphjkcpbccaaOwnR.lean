/-
  Walked: own (refown), of values that hold no number, no name and no dictionary.
-/
import Derived.Test.YtiakphjkcpbccaaOwnP
namespace Go.Proofs.Ytiakphjkcpbccaa
open Go.RowKit
set_option linter.unusedVariables false


set_option maxHeartbeats 1000000 in
set_option maxRecDepth 100000 in
theorem refown1 (n : Int) (s : ByteArray) (l : List V) (a : Option Addr) (c : Nat) (w : World) :
    Calls Try.prog 58 #[.agg #[.int .i64 1, .int .i64 n, .string s, .slice a l.length c]] w (IntTo (ownE 1 n s l) w) := by
  obtain ⟨E, hE⟩ : ∃ E, E = ownE 1 n s l := ⟨_, rfl⟩
  rw [← hE]
  rw [ownE_1] at hE
  obtain ⟨len, hlen⟩ : ∃ len, len = l.length := ⟨_, rfl⟩
  try rw [← hlen] at hE
  rw [← hlen]
  clear hlen
  rcases (show n = 0 ∨ n = 1 ∨ (¬ n = 0 ∧ ¬ n = 1) by omega) with rfl | rfl | ⟨h0, h1⟩
  · by_cases hs : s.toList = []
    · by_cases hz : len = 0
      · have hz' : ((len : Int) == 0) = true := by simp [hz]
        have HEE : Hid (E = 0) := Lib.hid (by rw [hE]; exact if_pos ⟨Or.inl rfl, hs, hz⟩)
        clear hE
        go_enter Try.func58, Try.ntmps58
        go_wp2_with fail
        all_goals
          go_ret
          exact ⟨by rw [HEE.out]; rfl, ext_alloc _ _⟩
      · have hz' : ((len : Int) == 0) = false := by simp [hz]
        have HEE : Hid (E = 2) := Lib.hid (by rw [hE]; exact if_neg (fun h => hz h.2.2))
        clear hE
        go_enter Try.func58, Try.ntmps58
        go_wp2_with fail
        all_goals
          go_ret
          exact ⟨by rw [HEE.out]; rfl, ext_alloc _ _⟩
    ·
      have HEE : Hid (E = 2) := Lib.hid (by rw [hE]; exact if_neg (fun h => hs h.2.1))
      clear hE
      go_enter Try.func58, Try.ntmps58
      go_wp2_with fail
      all_goals
        go_ret
        exact ⟨by rw [HEE.out]; rfl, ext_alloc _ _⟩
  · by_cases hs : s.toList = []
    · by_cases hz : len = 0
      · have hz' : ((len : Int) == 0) = true := by simp [hz]
        have HEE : Hid (E = 0) := Lib.hid (by rw [hE]; exact if_pos ⟨Or.inr rfl, hs, hz⟩)
        clear hE
        go_enter Try.func58, Try.ntmps58
        go_wp2_with fail
        all_goals
          go_ret
          exact ⟨by rw [HEE.out]; rfl, ext_alloc _ _⟩
      · have hz' : ((len : Int) == 0) = false := by simp [hz]
        have HEE : Hid (E = 2) := Lib.hid (by rw [hE]; exact if_neg (fun h => hz h.2.2))
        clear hE
        go_enter Try.func58, Try.ntmps58
        go_wp2_with fail
        all_goals
          go_ret
          exact ⟨by rw [HEE.out]; rfl, ext_alloc _ _⟩
    ·
      have HEE : Hid (E = 2) := Lib.hid (by rw [hE]; exact if_neg (fun h => hs h.2.1))
      clear hE
      go_enter Try.func58, Try.ntmps58
      go_wp2_with fail
      all_goals
        go_ret
        exact ⟨by rw [HEE.out]; rfl, ext_alloc _ _⟩
  · have h0' : (n == 0) = false := by simpa using h0
    have h1' : (n == 1) = false := by simpa using h1
    have HEE : Hid (E = 2) := Lib.hid (by rw [hE]; exact if_neg (fun h => by rcases h.1 with e | e; exact h0 e; exact h1 e))
    clear hE
    go_enter Try.func58, Try.ntmps58
    go_wp2_with fail
    all_goals
      go_ret
      exact ⟨by rw [HEE.out]; rfl, ext_alloc _ _⟩
set_option maxHeartbeats 1000000 in
set_option maxRecDepth 100000 in
theorem refown4 (n : Int) (s : ByteArray) (l : List V) (a : Option Addr) (c : Nat) (w : World) :
    Calls Try.prog 58 #[.agg #[.int .i64 4, .int .i64 n, .string s, .slice a l.length c]] w (IntTo (ownE 4 n s l) w) := by
  obtain ⟨E, hE⟩ : ∃ E, E = ownE 4 n s l := ⟨_, rfl⟩
  rw [← hE]
  rw [ownE_4] at hE
  obtain ⟨len, hlen⟩ : ∃ len, len = l.length := ⟨_, rfl⟩
  try rw [← hlen] at hE
  rw [← hlen]
  clear hlen
  by_cases hn : n = 0
  · by_cases hz : len = 0
    · have hz' : ((len : Int) == 0) = true := by simp [hz]
      have HEE : Hid (E = 0) := Lib.hid (by rw [hE]; exact if_pos ⟨hn, hz⟩)
      clear hE; subst hn
      go_enter Try.func58, Try.ntmps58
      go_wp2_with fail
      all_goals
        go_ret
        exact ⟨by rw [HEE.out]; rfl, ext_alloc _ _⟩
    · have hz' : ((len : Int) == 0) = false := by simp [hz]
      have HEE : Hid (E = 2) := Lib.hid (by rw [hE]; exact if_neg (fun h => hz h.2))
      clear hE; subst hn
      go_enter Try.func58, Try.ntmps58
      go_wp2_with fail
      all_goals
        go_ret
        exact ⟨by rw [HEE.out]; rfl, ext_alloc _ _⟩
  · have hn' : (n == 0) = false := by simpa using hn
    have HEE : Hid (E = 2) := Lib.hid (by rw [hE]; exact if_neg (fun h => hn h.1))
    clear hE
    go_enter Try.func58, Try.ntmps58
    go_wp2_with fail
    all_goals
      go_ret
      exact ⟨by rw [HEE.out]; rfl, ext_alloc _ _⟩
set_option maxHeartbeats 1000000 in
set_option maxRecDepth 100000 in
theorem refown6 (n : Int) (s : ByteArray) (l : List V) (a : Option Addr) (c : Nat) (w : World) :
    Calls Try.prog 58 #[.agg #[.int .i64 6, .int .i64 n, .string s, .slice a l.length c]] w (IntTo (ownE 6 n s l) w) := by
  obtain ⟨E, hE⟩ : ∃ E, E = ownE 6 n s l := ⟨_, rfl⟩
  rw [← hE]
  rw [ownE_6] at hE
  obtain ⟨len, hlen⟩ : ∃ len, len = l.length := ⟨_, rfl⟩
  try rw [← hlen] at hE
  rw [← hlen]
  clear hlen
  by_cases hn : n = 0
  · by_cases hs : s.toList = []
    · have hs' : s.toList.isEmpty = true := by rw [hs]; rfl
      have HEE : Hid (E = 0) := Lib.hid (by rw [hE]; exact if_pos ⟨hn, hs⟩)
      clear hE; subst hn
      go_enter Try.func58, Try.ntmps58
      go_wp2_with fail
      all_goals
        go_ret
        exact ⟨by rw [HEE.out]; rfl, ext_alloc _ _⟩
    · have hs' : s.toList.isEmpty = false := by simpa using hs
      have HEE : Hid (E = 2) := Lib.hid (by rw [hE]; exact if_neg (fun h => hs h.2))
      clear hE; subst hn
      go_enter Try.func58, Try.ntmps58
      go_wp2_with fail
      all_goals
        go_ret
        exact ⟨by rw [HEE.out]; rfl, ext_alloc _ _⟩
  · have hn' : (n == 0) = false := by simpa using hn
    have HEE : Hid (E = 2) := Lib.hid (by rw [hE]; exact if_neg (fun h => hn h.1))
    clear hE
    go_enter Try.func58, Try.ntmps58
    go_wp2_with fail
    all_goals
      go_ret
      exact ⟨by rw [HEE.out]; rfl, ext_alloc _ _⟩
set_option maxHeartbeats 1000000 in
set_option maxRecDepth 100000 in
theorem refown8 (n : Int) (s : ByteArray) (l : List V) (a : Option Addr) (c : Nat) (w : World) :
    Calls Try.prog 58 #[.agg #[.int .i64 8, .int .i64 n, .string s, .slice a l.length c]] w (IntTo (ownE 8 n s l) w) := by
  obtain ⟨E, hE⟩ : ∃ E, E = ownE 8 n s l := ⟨_, rfl⟩
  rw [← hE]
  rw [ownE_8] at hE
  obtain ⟨len, hlen⟩ : ∃ len, len = l.length := ⟨_, rfl⟩
  try rw [← hlen] at hE
  rw [← hlen]
  clear hlen
  by_cases h1 : 1 ≤ n
  · by_cases h2 : n ≤ 4096
    · by_cases hs : s.toList = []
      · by_cases hz : len = 0
        · have hz' : ((len : Int) == 0) = true := by simp [hz]
          have HEE : Hid (E = 0) := Lib.hid (by rw [hE]; exact if_pos ⟨⟨h1, h2⟩, hs, hz⟩)
          clear hE
          go_enter Try.func58, Try.ntmps58
          go_wp2_with fail
          all_goals
            go_ret
            exact ⟨by rw [HEE.out]; rfl, ext_alloc _ _⟩
        · have hz' : ((len : Int) == 0) = false := by simp [hz]
          have HEE : Hid (E = 2) := Lib.hid (by rw [hE]; exact if_neg (fun h => hz h.2.2))
          clear hE
          go_enter Try.func58, Try.ntmps58
          go_wp2_with fail
          all_goals
            go_ret
            exact ⟨by rw [HEE.out]; rfl, ext_alloc _ _⟩
      ·
        have HEE : Hid (E = 2) := Lib.hid (by rw [hE]; exact if_neg (fun h => hs h.2.1))
        clear hE
        go_enter Try.func58, Try.ntmps58
        go_wp2_with fail
        all_goals
          go_ret
          exact ⟨by rw [HEE.out]; rfl, ext_alloc _ _⟩
    ·
      have HEE : Hid (E = 2) := Lib.hid (by rw [hE]; exact if_neg (fun h => h2 h.1.2))
      clear hE
      go_enter Try.func58, Try.ntmps58
      go_wp2_with fail
      all_goals
        go_ret
        exact ⟨by rw [HEE.out]; rfl, ext_alloc _ _⟩
  ·
    have HEE : Hid (E = 2) := Lib.hid (by rw [hE]; exact if_neg (fun h => h1 h.1.1))
    clear hE
    go_enter Try.func58, Try.ntmps58
    go_wp2_with fail
    all_goals
      go_ret
      exact ⟨by rw [HEE.out]; rfl, ext_alloc _ _⟩
end Go.Proofs.Ytiakphjkcpbccaa
