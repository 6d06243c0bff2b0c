/-
  Walked: the program's length; how a value's length is told.
-/
import Derived.Test.YtnibjjpohhknkaaRefTurn
import Derived.Test.YtnibjjpohhknkaaNumChk
import Derived.Test.YtnibjjpohhknkaaGet
namespace Go.Proofs.Ytnibjjpohhknkaa
open Go.RowKit
set_option linter.unusedVariables false
set_option linter.unusedSimpArgs false

/-- a number's length, if it is one -/
def V.len (v : V) : Option Int := if (v.kind = 2 ∨ v.kind = 3) ∧ numE v.kind v.n v.s v.l.length = 0 then some (if v.kind = 2 then v.n * 1000000 else v.n) else none
theorem numE_in {k n : Int} {s : ByteArray} {len : Nat} (h : numE k n s len = 0) : (k = 2 ∧ -2147483647 ≤ n ∧ n ≤ 2147483647) ∨ (k = 3 ∧ -2147483647000000 ≤ n ∧ n ≤ 2147483647000000) := by
  unfold numE at h
  split at h
  · next h' => exact h'.2.2
  · cases h
theorem len_in {v : V} {x : Int} (h : v.len = some x) : -2147483647000000 ≤ x ∧ x ≤ 2147483647000000 := by
  unfold V.len at h
  split at h
  · next h' =>
    have h1 := numE_in h'.2
    cases h
    split
    · next h2 => rcases h1 with ⟨_, h3⟩ | ⟨h4, _⟩ <;> omega
    · next h2 => rcases h1 with ⟨h4, _⟩ | ⟨_, h3⟩ <;> omega
  · cases h
def LenTo (o : Option Int) (w : World) (e : Ending) (w' : World) : Prop := (match o with | some x => e = .returned (.tuple #[.int .i64 x, .bool true]) | none => e = .returned (.tuple #[.int .i64 0, .bool false])) ∧ Pure w w'
set_option maxHeartbeats 1000000 in
set_option maxRecDepth 100000 in
theorem length_any (k n : Int) (s : ByteArray) (a : Option Addr) (m c : Nat) (w : World) (l : List V) (hl : m = l.length) : Calls Try.prog 31 #[.agg #[.int .i64 k, .int .i64 n, .string s, .slice a m c]] w (LenTo (V.len (.mk k n s l)) w) := by
  have hv : V.len (.mk k n s l) = if (k = 2 ∨ k = 3) ∧ numE k n s m = 0 then some (if k = 2 then n * 1000000 else n) else none := by rw [hl]; rfl
  obtain ⟨O, hO⟩ : ∃ O, O = V.len (.mk k n s l) := ⟨_, rfl⟩
  rw [← hO] at hv ⊢
  have HO := Lib.hid hv
  clear hO hv hl
  obtain ⟨w1, hw1⟩ : ∃ z, z = w.alloc (.cells #[.int .i64 k, .int .i64 n, .string s, .slice a m c] 24) := ⟨_, rfl⟩
  have hB : BlockIs w1 w.heap.size [.int .i64 k, .int .i64 n, .string s, .slice a m c] 24 := hw1 ▸ BlockIs.new w _ _
  have hP : Pure w w1 := hw1 ▸ ext_alloc w _
  have HW := Lib.hid hw1.symm
  have HN := Lib.hid (numcheck_any k n s a m c w1)
  have hin := @numE_in k n s m
  obtain ⟨E, hE⟩ : ∃ E, E = numE k n s m := ⟨_, rfl⟩
  rw [← hE] at HN HO hin
  have HIn := Lib.hid hin
  clear hw1 hE hin
  by_cases h2 : k = 2
  · subst h2
    go_enter Try.func31, Try.ntmps31
    go_wp2_with fail
    rw [HW.out]
    refine HN.out.mono ?_
    rintro e w2 ⟨rfl, hP2⟩
    have hP := hP.pure hP2
    have hB := hB.ext hP2 id
    have c0 : w2.cell? ⟨w.heap.size, 0, none⟩ = some (.int .i64 2) := hB.cell 0
    have c1 : w2.cell? ⟨w.heap.size, 1, none⟩ = some (.int .i64 n) := hB.cell 1
    by_cases he : E = 0
    · subst he
      have hb := HIn.out rfl
      have h1 : -2147483647 ≤ n ∧ n ≤ 2147483647 := by omega
      have hr : IntKind.i64.wrap (n * 1000000) = n * 1000000 := by rw [IntKind.wrap_i64]; omega
      have HO2 : Hid (O = some (n * 1000000)) := Lib.hid (by rw [HO.out]; simp)
      clear hb
      go_wp2_with fail
      go_ret2
      exact ⟨by rw [HO2.out]; rfl, hP⟩
    · have hne : (E != 0) = true := by simpa using he
      have HO2 : Hid (O = none) := Lib.hid (by rw [HO.out, if_neg (fun h => he h.2)])
      clear he
      go_wp2_with fail
      go_ret2
      exact ⟨by rw [HO2.out]; rfl, hP⟩
  · by_cases h3 : k = 3
    · subst h3
      go_enter Try.func31, Try.ntmps31
      go_wp2_with fail
      rw [HW.out]
      refine HN.out.mono ?_
      rintro e w2 ⟨rfl, hP2⟩
      have hP := hP.pure hP2
      have hB := hB.ext hP2 id
      have c0 : w2.cell? ⟨w.heap.size, 0, none⟩ = some (.int .i64 3) := hB.cell 0
      have c1 : w2.cell? ⟨w.heap.size, 1, none⟩ = some (.int .i64 n) := hB.cell 1
      by_cases he : E = 0
      · subst he
        have HO2 : Hid (O = some n) := Lib.hid (by rw [HO.out]; simp)
        go_wp2_with fail
        go_ret2
        exact ⟨by rw [HO2.out]; rfl, hP⟩
      · have hne : (E != 0) = true := by simpa using he
        have HO2 : Hid (O = none) := Lib.hid (by rw [HO.out, if_neg (fun h => he h.2)])
        clear he
        go_wp2_with fail
        go_ret2
        exact ⟨by rw [HO2.out]; rfl, hP⟩
    · have e2 : (k != 2) = true := by simpa using h2
      have e3 : (k != 3) = true := by simpa using h3
      have HO2 : Hid (O = none) := Lib.hid (by rw [HO.out, if_neg (fun h => by rcases h.1 with h | h <;> contradiction)])
      clear h2 h3
      go_enter Try.func31, Try.ntmps31
      go_wp2_with fail
      go_ret2
      exact ⟨by rw [HO2.out]; rfl, ext_alloc w _⟩
end Go.Proofs.Ytnibjjpohhknkaa
