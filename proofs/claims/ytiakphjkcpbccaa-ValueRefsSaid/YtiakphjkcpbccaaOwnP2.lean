/-
  Walked: the program's own, of values without anything, of numbers and names.
-/
import Derived.Test.YtiakphjkcpbccaaOwnP
namespace Go.Proofs.Ytiakphjkcpbccaa
open Go.RowKit
set_option linter.unusedVariables false

theorem ownE_0 (n : Int) (s : ByteArray) (l : List V) : ownE 0 n s l = if n = 0 ∧ s.toList = [] ∧ l.length = 0 then 0 else 2 := by unfold ownE; rw [if_pos rfl]
theorem ownE_2 (n : Int) (s : ByteArray) (l : List V) : ownE 2 n s l = numE 2 n s l.length := by unfold ownE; rw [if_neg (by decide), if_neg (by decide), if_pos (Or.inl rfl)]
theorem ownE_3 (n : Int) (s : ByteArray) (l : List V) : ownE 3 n s l = numE 3 n s l.length := by unfold ownE; rw [if_neg (by decide), if_neg (by decide), if_pos (Or.inr rfl)]
theorem ownE_5 (n : Int) (s : ByteArray) (l : List V) : ownE 5 n s l = if textB s = true then (if n = 0 ∧ l.length = 0 then 0 else 2) else 17 := by unfold ownE; rw [if_neg (by decide), if_neg (by decide), if_neg (by decide), if_neg (by decide), if_pos rfl]
theorem ownE_7 (n : Int) (s : ByteArray) (l : List V) : ownE 7 n s l = dictOwn n s l := by unfold ownE; rw [if_neg (by decide), if_neg (by decide), if_neg (by decide), if_neg (by decide), if_neg (by decide), if_neg (by decide), if_pos rfl]
theorem ownE_other {k : Int} (h : ¬ (0 ≤ k ∧ k ≤ 8)) (n : Int) (s : ByteArray) (l : List V) : ownE k n s l = 2 := by unfold ownE; rw [if_neg (by omega), if_neg (by omega), if_neg (by omega), if_neg (by omega), if_neg (by omega), if_neg (by omega), if_neg (by omega), if_neg (by omega)]

set_option maxHeartbeats 1000000 in
set_option maxRecDepth 100000 in
theorem own0 (n : Int) (s : ByteArray) (l : List V) (a : Option Addr) (c : Nat) (w : World) :
    Calls Try.prog 39 #[.agg #[.int .i64 0, .int .i64 n, .string s, .slice a l.length c]] w (IntTo (ownE 0 n s l) w) := by
  obtain ⟨E, hE⟩ : ∃ E, E = ownE 0 n s l := ⟨_, rfl⟩
  rw [← hE]
  rw [ownE_0] at hE
  obtain ⟨len, hlen⟩ : ∃ len, len = l.length := ⟨_, rfl⟩
  try rw [← hlen] at hE
  rw [← hlen]
  clear hlen
  have HP := Lib.hid (fun W => plain_any 0 n s a len c W)
  obtain ⟨B, hB⟩ : ∃ B, B = decide (n = 0 ∧ s.toList = [] ∧ len = 0) := ⟨_, rfl⟩
  rw [← hB] at HP
  have HE : Hid (E = if B = true then 0 else 2) := Lib.hid (by rw [hE, hB]; simp)
  clear hE hB
  cases B with
  | false =>
    go_enter Try.func39, Try.ntmps39
    go_wp2_with fail
    refine (HP.out _).mono ?_
    rintro e w2 ⟨rfl, hP2⟩
    go_wp2_with fail
    go_ret
    exact ⟨by rw [HE.out]; rfl, (ext_alloc _ _).pure hP2⟩
  | true =>
    go_enter Try.func39, Try.ntmps39
    go_wp2_with fail
    refine (HP.out _).mono ?_
    rintro e w2 ⟨rfl, hP2⟩
    go_wp2_with fail
    go_ret
    exact ⟨by rw [HE.out]; rfl, (ext_alloc _ _).pure hP2⟩
set_option maxHeartbeats 1000000 in
set_option maxRecDepth 100000 in
theorem own2 (n : Int) (s : ByteArray) (l : List V) (a : Option Addr) (c : Nat) (w : World) :
    Calls Try.prog 39 #[.agg #[.int .i64 2, .int .i64 n, .string s, .slice a l.length c]] w (IntTo (ownE 2 n s l) w) := by
  obtain ⟨E, hE⟩ : ∃ E, E = ownE 2 n s l := ⟨_, rfl⟩
  rw [← hE]
  rw [ownE_2] at hE
  obtain ⟨len, hlen⟩ : ∃ len, len = l.length := ⟨_, rfl⟩
  try rw [← hlen] at hE
  rw [← hlen]
  clear hlen
  have HP := Lib.hid (fun W => numcheck_any 2 n s a len c W)
  rw [← hE] at HP
  clear hE
  go_enter Try.func39, Try.ntmps39
  go_wp2_with fail
  all_goals
    refine (HP.out _).mono ?_
    rintro e w2 ⟨rfl, hP2⟩
    go_wp2_with fail
    go_ret
    exact ⟨rfl, (ext_alloc _ _).pure hP2⟩
set_option maxHeartbeats 1000000 in
set_option maxRecDepth 100000 in
theorem own3 (n : Int) (s : ByteArray) (l : List V) (a : Option Addr) (c : Nat) (w : World) :
    Calls Try.prog 39 #[.agg #[.int .i64 3, .int .i64 n, .string s, .slice a l.length c]] w (IntTo (ownE 3 n s l) w) := by
  obtain ⟨E, hE⟩ : ∃ E, E = ownE 3 n s l := ⟨_, rfl⟩
  rw [← hE]
  rw [ownE_3] at hE
  obtain ⟨len, hlen⟩ : ∃ len, len = l.length := ⟨_, rfl⟩
  try rw [← hlen] at hE
  rw [← hlen]
  clear hlen
  have HP := Lib.hid (fun W => numcheck_any 3 n s a len c W)
  rw [← hE] at HP
  clear hE
  go_enter Try.func39, Try.ntmps39
  go_wp2_with fail
  all_goals
    refine (HP.out _).mono ?_
    rintro e w2 ⟨rfl, hP2⟩
    go_wp2_with fail
    go_ret
    exact ⟨rfl, (ext_alloc _ _).pure hP2⟩
set_option maxHeartbeats 1000000 in
set_option maxRecDepth 100000 in
theorem own5 (n : Int) (s : ByteArray) (l : List V) (a : Option Addr) (c : Nat) (w : World) (hs : s.size ≤ maxLen) :
    Calls Try.prog 39 #[.agg #[.int .i64 5, .int .i64 n, .string s, .slice a l.length c]] w (IntTo (ownE 5 n s l) w) := by
  obtain ⟨E, hE⟩ : ∃ E, E = ownE 5 n s l := ⟨_, rfl⟩
  rw [← hE]
  rw [ownE_5] at hE
  obtain ⟨len, hlen⟩ : ∃ len, len = l.length := ⟨_, rfl⟩
  try rw [← hlen] at hE
  rw [← hlen]
  clear hlen
  unfold maxLen at hs
  have HI := Lib.hid (fun W => idx_any s W)
  have hti := idx_text s
  obtain ⟨y, hy⟩ : ∃ y, y = Lib.indexByte s.data.toList 0 := ⟨_, rfl⟩
  rw [← hy] at HI hti
  by_cases h127 : 127 < s.size
  · have HEE : Hid (E = 17) := Lib.hid (by rw [hE, if_neg]; simp [textB]; omega)
    have h1 : (127 : Int) < (s.size : Int) := by omega
    clear hE hti h127
    go_enter Try.func39, Try.ntmps39
    go_wp2_with fail
    go_ret
    exact ⟨by rw [HEE.out]; rfl, ext_alloc _ _⟩
  · have h1 : ¬ (127 : Int) < (s.size : Int) := by omega
    by_cases h0 : 0 ≤ y
    · have HEE : Hid (E = 17) := Lib.hid (by
        rw [hE, if_neg]
        rw [decide_eq_true h0] at hti
        rw [textB, ← hti]; simp)
      clear hE hti h127
      go_enter Try.func39, Try.ntmps39
      go_wp2_with fail
      refine (HI.out _).mono ?_
      rintro e w2 ⟨rfl, hw2⟩
      obtain rfl := hw2
      go_wp2_with fail
      go_ret
      exact ⟨by rw [HEE.out]; rfl, ext_alloc _ _⟩
    · have htx : textB s = true := by
        rw [decide_eq_false h0] at hti
        rw [textB, ← hti, decide_eq_true (show s.size ≤ 127 by omega)]; rfl
      rw [if_pos htx] at hE
      clear htx hti h127
      by_cases hn : n = 0
      · subst hn
        by_cases hz : len = 0
        · have HEE : Hid (E = 0) := Lib.hid (by rw [hE, if_pos ⟨rfl, hz⟩])
          have hz' : ((len : Int) == 0) = true := by simp [hz]
          clear hE
          go_enter Try.func39, Try.ntmps39
          go_wp2_with fail
          refine (HI.out _).mono ?_
          rintro e w2 ⟨rfl, hw2⟩
          obtain rfl := hw2
          go_wp2_with fail
          go_ret
          exact ⟨by rw [HEE.out]; rfl, ext_alloc _ _⟩
        · have HEE : Hid (E = 2) := Lib.hid (by rw [hE, if_neg (fun h => hz h.2)])
          have hz' : ((len : Int) == 0) = false := by simp [hz]
          clear hE
          go_enter Try.func39, Try.ntmps39
          go_wp2_with fail
          refine (HI.out _).mono ?_
          rintro e w2 ⟨rfl, hw2⟩
          obtain rfl := hw2
          go_wp2_with fail
          go_ret
          exact ⟨by rw [HEE.out]; rfl, ext_alloc _ _⟩
      · have HEE : Hid (E = 2) := Lib.hid (by rw [hE, if_neg (fun h => hn h.1)])
        have hn' : (n == 0) = false := by simpa using hn
        clear hE
        go_enter Try.func39, Try.ntmps39
        go_wp2_with fail
        refine (HI.out _).mono ?_
        rintro e w2 ⟨rfl, hw2⟩
        obtain rfl := hw2
        go_wp2_with fail
        go_ret
        exact ⟨by rw [HEE.out]; rfl, ext_alloc _ _⟩
end Go.Proofs.Ytiakphjkcpbccaa
