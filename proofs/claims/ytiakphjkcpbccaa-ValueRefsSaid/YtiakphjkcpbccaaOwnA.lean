/-
  Walked: the program's own, of every value.
-/
import Derived.Test.YtiakphjkcpbccaaOwnD
namespace Go.Proofs.Ytiakphjkcpbccaa
open Go.RowKit
set_option linter.unusedVariables false

theorem own_any {d : Nat} {l : List V} {a : Option Addr} {rows : List (List Value)} (k n : Int) (s : ByteArray) (c : Nat) (w : World) (hK : Kids w d l a rows) (hl : l.length ≤ 1000000) (hs : s.size ≤ maxLen) :
    Calls Try.prog 39 #[.agg #[.int .i64 k, .int .i64 n, .string s, .slice a l.length c]] w (IntTo (ownE k n s l) w) := by
  by_cases hk : 0 ≤ k ∧ k ≤ 8
  · have h9 : k = 0 ∨ k = 1 ∨ k = 2 ∨ k = 3 ∨ k = 4 ∨ k = 5 ∨ k = 6 ∨ k = 7 ∨ k = 8 := by omega
    clear hk
    rcases h9 with rfl | rfl | rfl | rfl | rfl | rfl | rfl | rfl | rfl
    · exact own0 n s l a c w
    · exact own1 n s l a c w
    · exact own2 n s l a c w
    · exact own3 n s l a c w
    · exact own4 n s l a c w
    · exact own5 n s l a c w hs
    · exact own6 n s l a c w
    · exact own7 n s c w hK hl
    · exact own8 n s l a c w
  · exact own_other hk n s l a c w

theorem own_lies {d : Nat} {v : V} {cs : List Value} (w : World) (hL : Lies w (d + 1) v cs) (hl : v.l.length ≤ 1000000) :
    Calls Try.prog 39 #[.agg cs.toArray] w (IntTo (ownE v.kind v.n v.s v.l) w) := by
  obtain ⟨a, c, rows, rfl, _, _, _, hK, hs⟩ := hL.kids
  exact own_any _ _ _ c w hK hl hs
end Go.Proofs.Ytiakphjkcpbccaa
