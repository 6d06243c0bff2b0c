/-
  How two values stand (plain); walked: cmp.Compare, cmp.Or, strings.Compare.
-/
import Derived.Test.YtiakphjkcpbccaaCheck
namespace Go.Proofs.Ytiakphjkcpbccaa
open Go.RowKit
set_option linter.unusedVariables false

def cmpI (x y : Int) : Int := if x < y then -1 else if y < x then 1 else 0
def cmpS (a b : ByteArray) : Int := Lib.compareBytes a.data.toList b.data.toList
def orI (x y : Int) : Int := if x = 0 then y else x
mutual
/-- how two values stand -/
def V.cmp : V → V → Int
  | .mk k n s l, .mk k' n' s' l' => orI (orI (cmpI k k') (orI (cmpI n n') (cmpS s s'))) (cmpL l l')
def cmpL : List V → List V → Int
  | [], [] => 0
  | [], _ :: _ => -1
  | _ :: _, [] => 1
  | a :: l, b :: m => orI (a.cmp b) (cmpL l m)
end
def V.head (v u : V) : Int := orI (cmpI v.kind u.kind) (orI (cmpI v.n u.n) (cmpS v.s u.s))
theorem cmp_eq (v u : V) : v.cmp u = orI (v.head u) (cmpL v.l u.l) := by cases v; cases u; rw [V.cmp]; rfl
theorem orI_zero (y : Int) : orI 0 y = y := rfl
theorem orI_ne {x : Int} (y : Int) (h : x ≠ 0) : orI x y = x := if_neg h
def UnTo (v : Value) (w : World) (e : Ending) (w' : World) : Prop := e = .returned v ∧ w' = w
set_option maxRecDepth 100000 in
theorem nan_any (x : Int) (w : World) : Calls Try.prog 63 #[.int .i64 x] w (UnTo (.bool false) w) := by
  go_enter Try.func63, Try.ntmps63
  go_wp2_with fail
  go_ret
  exact ⟨rfl, rfl⟩
set_option maxRecDepth 100000 in
theorem cmpint_any (x y : Int) (w : World) : Calls Try.prog 51 #[.int .i64 x, .int .i64 y] w (UnTo (.int .i64 (cmpI x y)) w) := by
  have HN := Lib.hid (fun x w => nan_any x w)
  obtain ⟨B, hB⟩ : ∃ B, B = cmpI x y := ⟨_, rfl⟩
  rw [← hB]
  unfold cmpI at hB
  by_cases h1 : x < y
  · have HB : Hid (B = -1) := Lib.hid (by rw [hB, if_pos h1])
    clear hB
    go_enter Try.func51, Try.ntmps51
    go_wp2_with fail
    refine (HN.out x w).mono ?_
    rintro e w1 ⟨rfl, rfl⟩
    go_wp2_with fail
    refine (HN.out y w1).mono ?_
    rintro e w2 ⟨rfl, rfl⟩
    go_wp2_with fail
    go_ret
    exact ⟨by rw [HB.out]; rfl, rfl⟩
  · by_cases h2 : y < x
    · have HB : Hid (B = 1) := Lib.hid (by rw [hB, if_neg h1, if_pos h2])
      clear hB
      go_enter Try.func51, Try.ntmps51
      go_wp2_with fail
      refine (HN.out x w).mono ?_
      rintro e w1 ⟨rfl, rfl⟩
      go_wp2_with fail
      refine (HN.out y w1).mono ?_
      rintro e w2 ⟨rfl, rfl⟩
      go_wp2_with fail
      go_ret
      exact ⟨by rw [HB.out]; rfl, rfl⟩
    · have HB : Hid (B = 0) := Lib.hid (by rw [hB, if_neg h1, if_neg h2])
      clear hB
      go_enter Try.func51, Try.ntmps51
      go_wp2_with fail
      refine (HN.out x w).mono ?_
      rintro e w1 ⟨rfl, rfl⟩
      go_wp2_with fail
      refine (HN.out y w1).mono ?_
      rintro e w2 ⟨rfl, rfl⟩
      go_wp2_with fail
      go_ret
      exact ⟨by rw [HB.out]; rfl, rfl⟩
theorem find69 : Extern.find Try.f69 = some Extern.BytealgCompare.compare := rfl
theorem run69 (s t : ByteArray) (w : World) : (callFunc 69 #[.string s, .string t]).run Try.prog w = .ok (.value (.int .i64 (cmpS s t))) w := by
  rw [run_callFunc_extern Try.func69 (by decide +kernel) rfl (by kernel_rfl) find69, Lib.run_compareString]
  rfl
set_option maxRecDepth 100000 in
theorem cmpstr_any (s t : ByteArray) (w : World) : Calls Try.prog 52 #[.string s, .string t] w (UnTo (.int .i64 (cmpS s t)) w) := by
  have h69 := run69 s t
  generalize cmpS s t = y at *
  go_enter Try.func52, Try.ntmps52
  go_wp2_with fail
  go_in
  go_wp2_with fail
  go_ret
  exact ⟨rfl, rfl⟩
set_option maxHeartbeats 1000000 in
set_option maxRecDepth 100000 in
theorem or_any (x y z : Int) (b : Nat) (w : World) (hb : BlockIs w b [.int .i64 x, .int .i64 y, .int .i64 z] 3) : Calls Try.prog 50 #[.slice (some ⟨b, 0, none⟩) 3 3] w (UnTo (.int .i64 (orI x (orI y z))) w) := by
  obtain ⟨B, hB⟩ : ∃ B, B = orI x (orI y z) := ⟨_, rfl⟩
  rw [← hB]
  have c0 : w.cell? ⟨b, 0, none⟩ = some (.int .i64 x) := hb.cell 0
  have c1 : w.cell? ⟨b, 1, none⟩ = some (.int .i64 y) := hb.cell 1
  have c2 : w.cell? ⟨b, 2, none⟩ = some (.int .i64 z) := hb.cell 2
  have HB := Lib.hid hB
  clear hB hb
  go_enter Try.func50, Try.ntmps50
  go_wp2_with fail
  go_loopw [5, 8] (fun _ i W => W = w ∧ (i = .int .i64 0 ∨ (i = .int .i64 1 ∧ x = 0) ∨ (i = .int .i64 2 ∧ x = 0 ∧ y = 0) ∨ (i = .int .i64 3 ∧ x = 0 ∧ y = 0 ∧ z = 0))) (fun _ i _ => 3 - (intOf i).toNat)
  case atStart => exact ⟨rfl, Or.inl rfl⟩
  case round =>
    obtain ⟨rfl, rfl | ⟨rfl, rfl⟩ | ⟨rfl, rfl, rfl⟩ | ⟨rfl, rfl, rfl, rfl⟩⟩ := hrel
    · by_cases h : x = 0
      · subst h
        go_wp2_with fail
        go_roundw
        case rel => simp
        case measure => simp [intOf]
      · have HB1 : Hid (B = x) := Lib.hid (by rw [HB.out, orI_ne _ h])
        go_wp2_with fail
        go_ret
        exact ⟨by rw [HB1.out]; rfl, rfl⟩
    · by_cases h : y = 0
      · subst h
        go_wp2_with fail
        go_roundw
        case rel => simp
        case measure => simp [intOf]
      · have HB1 : Hid (B = y) := Lib.hid (by rw [HB.out, orI_zero, orI_ne _ h])
        go_wp2_with fail
        go_ret
        exact ⟨by rw [HB1.out]; rfl, rfl⟩
    · by_cases h : z = 0
      · subst h
        go_wp2_with fail
        go_roundw
        case rel => simp
        case measure => simp [intOf]
      · have HB1 : Hid (B = z) := Lib.hid (by rw [HB.out, orI_zero, orI_zero])
        go_wp2_with fail
        go_ret
        exact ⟨by rw [HB1.out]; rfl, rfl⟩
    · go_wp2_with fail
      go_ret
      exact ⟨by rw [HB.out]; rfl, rfl⟩
end Go.Proofs.Ytiakphjkcpbccaa
