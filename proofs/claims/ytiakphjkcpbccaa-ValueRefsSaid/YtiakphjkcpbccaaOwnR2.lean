/-
  Walked: the reference's own, of numbers, names, dictionaries and of what has no kind.
-/
import Derived.Test.YtiakphjkcpbccaaOwnR
import Derived.Test.YtiakphjkcpbccaaOwnA
namespace Go.Proofs.Ytiakphjkcpbccaa
open Go.RowKit
set_option linter.unusedVariables false

set_option maxHeartbeats 1000000 in
set_option maxRecDepth 100000 in
theorem refown2 (n : Int) (s : ByteArray) (l : List V) (a : Option Addr) (c : Nat) (w : World) :
    Calls Try.prog 58 #[.agg #[.int .i64 2, .int .i64 n, .string s, .slice a l.length c]] w (IntTo (ownE 2 n s l) w) := by
  rw [ownE_2]
  obtain ⟨len, hlen⟩ : ∃ len, len = l.length := ⟨_, rfl⟩
  rw [← hlen]
  clear hlen
  have HP := Lib.hid (fun W => refnum_any 2 n s a len c W)
  obtain ⟨E, hE⟩ : ∃ E, E = numE 2 n s len := ⟨_, rfl⟩
  rw [← hE] at HP ⊢
  clear hE
  go_enter Try.func58, Try.ntmps58
  go_wp2_with fail
  all_goals
    refine (HP.out _).mono ?_
    rintro e w2 ⟨rfl, hP2⟩
    go_wp2_with fail
    go_ret
    exact ⟨rfl, (ext_alloc _ _).pure hP2⟩

set_option maxHeartbeats 1000000 in
set_option maxRecDepth 100000 in
theorem refown3 (n : Int) (s : ByteArray) (l : List V) (a : Option Addr) (c : Nat) (w : World) :
    Calls Try.prog 58 #[.agg #[.int .i64 3, .int .i64 n, .string s, .slice a l.length c]] w (IntTo (ownE 3 n s l) w) := by
  rw [ownE_3]
  obtain ⟨len, hlen⟩ : ∃ len, len = l.length := ⟨_, rfl⟩
  rw [← hlen]
  clear hlen
  have HP := Lib.hid (fun W => refnum_any 3 n s a len c W)
  obtain ⟨E, hE⟩ : ∃ E, E = numE 3 n s len := ⟨_, rfl⟩
  rw [← hE] at HP ⊢
  clear hE
  go_enter Try.func58, Try.ntmps58
  go_wp2_with fail
  all_goals
    refine (HP.out _).mono ?_
    rintro e w2 ⟨rfl, hP2⟩
    go_wp2_with fail
    go_ret
    exact ⟨rfl, (ext_alloc _ _).pure hP2⟩

set_option maxHeartbeats 1000000 in
set_option maxRecDepth 100000 in
theorem refown7 {d : Nat} {l : List V} {a : Option Addr} {rows : List (List Value)} (n : Int) (s : ByteArray) (c : Nat) (w : World) (hK : Kids w d l a rows) (hl : l.length ≤ 1000000) :
    Calls Try.prog 58 #[.agg #[.int .i64 7, .int .i64 n, .string s, .slice a l.length c]] w (IntTo (ownE 7 n s l) w) := by
  rw [ownE_7]
  have HD : Hid (∀ W, Pure w W → Calls Try.prog 67 #[.agg #[.int .i64 7, .int .i64 n, .string s, .slice a l.length c]] W (IntTo (dictOwn n s l) W)) :=
    Lib.hid (fun W hW => refdict_any 7 n s c W (hK.pure hW) hl)
  clear hK hl
  obtain ⟨D, hD⟩ : ∃ D, D = dictOwn n s l := ⟨_, rfl⟩
  rw [← hD] at HD ⊢
  obtain ⟨len, hlen⟩ : ∃ len, len = l.length := ⟨_, rfl⟩
  rw [← hlen] at HD ⊢
  clear hlen hD
  go_enter Try.func58, Try.ntmps58
  go_wp2_with fail
  all_goals
    refine (HD.out _ (ext_alloc _ _)).mono ?_
    rintro e w2 ⟨rfl, hP2⟩
    go_wp2_with fail
    go_ret
    exact ⟨rfl, (ext_alloc _ _).pure hP2⟩

set_option maxHeartbeats 1000000 in
set_option maxRecDepth 100000 in
theorem refown_other {k : Int} (hk : ¬ (0 ≤ k ∧ k ≤ 8)) (n : Int) (s : ByteArray) (l : List V) (a : Option Addr) (c : Nat) (w : World) :
    Calls Try.prog 58 #[.agg #[.int .i64 k, .int .i64 n, .string s, .slice a l.length c]] w (IntTo (ownE k n s l) w) := by
  rw [ownE_other hk]
  obtain ⟨len, hlen⟩ : ∃ len, len = l.length := ⟨_, rfl⟩
  rw [← hlen]
  clear hlen
  have h0 : (k == 0) = false := by simp; omega
  have h1 : (k == 1) = false := by simp; omega
  have h2 : (k == 2) = false := by simp; omega
  have h3 : (k == 3) = false := by simp; omega
  have h4 : (k == 4) = false := by simp; omega
  have h5 : (k == 5) = false := by simp; omega
  have h6 : (k == 6) = false := by simp; omega
  have h7 : (k == 7) = false := by simp; omega
  have h8 : (k == 8) = false := by simp; omega
  clear hk
  go_enter Try.func58, Try.ntmps58
  go_wp2_with fail
  all_goals
    go_ret
    exact ⟨rfl, ext_alloc _ _⟩

set_option maxHeartbeats 1000000 in
set_option maxRecDepth 100000 in
theorem refown0 (n : Int) (s : ByteArray) (l : List V) (a : Option Addr) (c : Nat) (w : World) :
    Calls Try.prog 58 #[.agg #[.int .i64 0, .int .i64 n, .string s, .slice a l.length c]] w (IntTo (ownE 0 n s l) w) := by
  obtain ⟨E, hE⟩ : ∃ E, E = ownE 0 n s l := ⟨_, rfl⟩
  rw [← hE]
  rw [ownE_0] at hE
  obtain ⟨len, hlen⟩ : ∃ len, len = l.length := ⟨_, rfl⟩
  rw [← hlen] at hE ⊢
  clear hlen
  by_cases hn : n = 0
  · subst hn
    by_cases hs : s.toList = []
    · by_cases hz : len = 0
      · have hz' : ((len : Int) == 0) = true := by simp [hz]
        have HEE : Hid (E = 0) := Lib.hid (by rw [hE]; exact if_pos ⟨rfl, hs, hz⟩)
        clear hE
        go_enter Try.func58, Try.ntmps58
        go_wp2_with fail
        all_goals
          go_ret
          exact ⟨by rw [HEE.out]; rfl, ext_alloc _ _⟩
      · have hz' : ((len : Int) == 0) = false := by simp [hz]
        have HEE : Hid (E = 2) := Lib.hid (by rw [hE]; exact if_neg (fun h => hz h.2.2))
        clear hE
        go_enter Try.func58, Try.ntmps58
        go_wp2_with fail
        all_goals
          go_ret
          exact ⟨by rw [HEE.out]; rfl, ext_alloc _ _⟩
    · have HEE : Hid (E = 2) := Lib.hid (by rw [hE]; exact if_neg (fun h => hs h.2.1))
      clear hE
      go_enter Try.func58, Try.ntmps58
      go_wp2_with fail
      all_goals
        go_ret
        exact ⟨by rw [HEE.out]; rfl, ext_alloc _ _⟩
  · have hn' : (n == 0) = false := by simpa using hn
    have HEE : Hid (E = 2) := Lib.hid (by rw [hE]; exact if_neg (fun h => hn h.1))
    clear hE
    go_enter Try.func58, Try.ntmps58
    go_wp2_with fail
    all_goals
      go_ret
      exact ⟨by rw [HEE.out]; rfl, ext_alloc _ _⟩

end Go.Proofs.Ytiakphjkcpbccaa
