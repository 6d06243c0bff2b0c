/-
  Walked: the reference's own, of texts; and of every value.
-/
import Derived.Test.YtiakphjkcpbccaaOwnR2
namespace Go.Proofs.Ytiakphjkcpbccaa
open Go.RowKit
set_option linter.unusedVariables false

set_option maxHeartbeats 1000000 in
set_option maxRecDepth 100000 in
theorem refown5 (n : Int) (s : ByteArray) (l : List V) (a : Option Addr) (c : Nat) (w : World) (hs : s.size ≤ maxLen) :
    Calls Try.prog 58 #[.agg #[.int .i64 5, .int .i64 n, .string s, .slice a l.length c]] w (IntTo (ownE 5 n s l) w) := by
  obtain ⟨E, hE⟩ : ∃ E, E = ownE 5 n s l := ⟨_, rfl⟩
  rw [← hE]
  rw [ownE_5] at hE
  obtain ⟨len, hlen⟩ : ∃ len, len = l.length := ⟨_, rfl⟩
  rw [← hlen] at hE ⊢
  clear hlen
  have HT := Lib.hid (fun W => text_any s W hs)
  clear hs
  obtain ⟨B, hB⟩ : ∃ B, B = textB s := ⟨_, rfl⟩
  rw [← hB] at HT hE
  clear hB
  cases B with
  | false =>
    have HEE : Hid (E = 17) := Lib.hid (by rw [hE]; exact if_neg (by decide))
    clear hE
    go_enter Try.func58, Try.ntmps58
    go_wp2_with fail
    all_goals
      refine (HT.out _).mono ?_
      rintro e w2 ⟨rfl, hw2⟩
      obtain rfl := hw2
      go_wp2_with fail
      all_goals
        go_ret
        exact ⟨by rw [HEE.out]; rfl, ext_alloc _ _⟩
  | true =>
    rw [if_pos rfl] at hE
    by_cases hn : n = 0
    · subst hn
      by_cases hz : len = 0
      · have hz' : ((len : Int) == 0) = true := by simp [hz]
        have HEE : Hid (E = 0) := Lib.hid (by rw [hE]; exact if_pos ⟨rfl, hz⟩)
        clear hE
        go_enter Try.func58, Try.ntmps58
        go_wp2_with fail
        all_goals
          refine (HT.out _).mono ?_
          rintro e w2 ⟨rfl, hw2⟩
          obtain rfl := hw2
          go_wp2_with fail
          all_goals
            go_ret
            exact ⟨by rw [HEE.out]; rfl, ext_alloc _ _⟩
      · have hz' : ((len : Int) == 0) = false := by simp [hz]
        have HEE : Hid (E = 2) := Lib.hid (by rw [hE]; exact if_neg (fun h => hz h.2))
        clear hE
        go_enter Try.func58, Try.ntmps58
        go_wp2_with fail
        all_goals
          refine (HT.out _).mono ?_
          rintro e w2 ⟨rfl, hw2⟩
          obtain rfl := hw2
          go_wp2_with fail
          all_goals
            go_ret
            exact ⟨by rw [HEE.out]; rfl, ext_alloc _ _⟩
    · have hn' : (n == 0) = false := by simpa using hn
      have HEE : Hid (E = 2) := Lib.hid (by rw [hE]; exact if_neg (fun h => hn h.1))
      clear hE
      go_enter Try.func58, Try.ntmps58
      go_wp2_with fail
      all_goals
        refine (HT.out _).mono ?_
        rintro e w2 ⟨rfl, hw2⟩
        obtain rfl := hw2
        go_wp2_with fail
        all_goals
          go_ret
          exact ⟨by rw [HEE.out]; rfl, ext_alloc _ _⟩

theorem refown_any {d : Nat} {l : List V} {a : Option Addr} {rows : List (List Value)} (k n : Int) (s : ByteArray) (c : Nat) (w : World) (hK : Kids w d l a rows) (hl : l.length ≤ 1000000) (hs : s.size ≤ maxLen) :
    Calls Try.prog 58 #[.agg #[.int .i64 k, .int .i64 n, .string s, .slice a l.length c]] w (IntTo (ownE k n s l) w) := by
  by_cases hk : 0 ≤ k ∧ k ≤ 8
  · have h9 : k = 0 ∨ k = 1 ∨ k = 2 ∨ k = 3 ∨ k = 4 ∨ k = 5 ∨ k = 6 ∨ k = 7 ∨ k = 8 := by omega
    clear hk
    rcases h9 with rfl | rfl | rfl | rfl | rfl | rfl | rfl | rfl | rfl
    · exact refown0 n s l a c w
    · exact refown1 n s l a c w
    · exact refown2 n s l a c w
    · exact refown3 n s l a c w
    · exact refown4 n s l a c w
    · exact refown5 n s l a c w hs
    · exact refown6 n s l a c w
    · exact refown7 n s c w hK hl
    · exact refown8 n s l a c w
  · exact refown_other hk n s l a c w

theorem refown_lies {d : Nat} {v : V} {cs : List Value} (w : World) (hL : Lies w (d + 1) v cs) (hl : v.l.length ≤ 1000000) :
    Calls Try.prog 58 #[.agg cs.toArray] w (IntTo (ownE v.kind v.n v.s v.l) w) := by
  obtain ⟨a, c, rows, rfl, _, _, _, hK, hs⟩ := hL.kids
  exact refown_any _ _ _ c w hK hl hs
end Go.Proofs.Ytiakphjkcpbccaa
