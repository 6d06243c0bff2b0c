/-
  Walked: strings.IndexByte, the reference's Text.
-/
import Derived.Test.YtiakphjkcpbccaaDictRef
import Derived.Lib.Bytealg
import Derived.Lib.IndexLaws
import Derived.Laws.Externs
namespace Go.Proofs.Ytiakphjkcpbccaa
open Go.RowKit
set_option linter.unusedVariables false

theorem find70 : Extern.find Try.f70 = some Extern.BytealgIndexByte.indexByte := rfl
theorem run70 (s : ByteArray) (w : World) : (callFunc 70 #[.string s, .int .u8 0]).run Try.prog w = .ok (.value (.int .i64 (Lib.indexByte s.data.toList 0))) w := by
  rw [run_callFunc_extern Try.func70 (by decide +kernel) rfl (by kernel_rfl) find70, Lib.run_indexByteString]
  rfl
set_option maxRecDepth 100000 in
theorem idx_any (s : ByteArray) (w : World) : Calls Try.prog 56 #[.string s, .int .u8 0] w fun e w' => e = .returned (.int .i64 (Lib.indexByte s.data.toList 0)) ∧ w' = w := by
  have h70 := run70 s
  generalize Lib.indexByte s.data.toList 0 = y at *
  go_enter Try.func56, Try.ntmps56
  go_wp2_with fail
  go_in
  go_wp2_with fail
  go_ret
  exact ⟨rfl, rfl⟩
/-- may a text be a name's? -/
def textB (s : ByteArray) : Bool := decide (s.size ≤ 127) && !(s.data.toList.contains 0)
theorem idx_text (s : ByteArray) : decide (0 ≤ Lib.indexByte s.data.toList 0) = s.data.toList.contains 0 := by
  by_cases h : (0 : UInt8) ∈ s.data.toList
  · have h1 : s.data.toList.contains 0 = true := by simpa using h
    rw [h1]
    refine decide_eq_true ?_
    have h2 := Lib.indexByte_ge s.data.toList 0
    by_cases e : Lib.indexByte s.data.toList 0 = -1
    · obtain ⟨k, hk, hk2⟩ := List.mem_iff_getElem.1 h
      exact absurd (by rw [List.getElem?_eq_getElem hk, hk2]) (Lib.indexByte_none e k)
    · omega
  · have h1 : s.data.toList.contains 0 = false := by simpa using h
    rw [h1]
    refine decide_eq_false ?_
    intro h2
    obtain ⟨o, ho⟩ : ∃ o : Nat, Lib.indexByte s.data.toList 0 = (o : Int) := ⟨_, (Int.toNat_of_nonneg h2).symm⟩
    have := (Lib.indexByte_some ho).1
    exact h (List.mem_of_getElem? this)
set_option maxRecDepth 100000 in
theorem text_any (s : ByteArray) (w : World) (hs : s.size ≤ maxLen) : Calls Try.prog 27 #[.string s] w fun e w' => e = .returned (.bool (textB s)) ∧ w' = w := by
  unfold maxLen at hs
  obtain ⟨B, hB⟩ : ∃ B, B = textB s := ⟨_, rfl⟩
  rw [← hB]
  have HB := Lib.hid hB
  clear hB
  go_enter Try.func27, Try.ntmps27
  go_wp2_with fail
  go_loop [3] (fun i => ∃ k : Nat, k ≤ s.size ∧ i = .int .i64 k ∧ Hid (∀ x ∈ s.data.toList.take k, x ≠ 0)) (fun i => s.size - (intOf i).toNat)
  case atStart => exact ⟨0, Nat.zero_le _, rfl, Lib.hid (by simp)⟩
  case round =>
    obtain ⟨k, hk, rfl, HA⟩ := hrel
    by_cases hlt : k < s.size
    · have hts : s.data.toList.take (k + 1) = s.data.toList.take k ++ [s[k]] := by
        rw [List.take_succ_eq_append_getElem (by simpa using hlt)]; rfl
      have HTs := Lib.hid hts
      clear hts
      have hmem : s[k] ∈ s.data.toList := by
        have : s[k] ∈ s.data.toList.take (k + 1) := by rw [HTs.out]; simp
        exact List.mem_of_mem_take this
      obtain ⟨x, hx⟩ : ∃ x, x = s[k] := ⟨_, rfl⟩
      have HX := Lib.hid hx
      have HM := Lib.hid hmem
      clear hmem hx
      go_wp2_with fail
      · have hz := ‹((s[k].toNat : Int) == 0) = true›
        have hz' : s[k] = 0 := by
          have : s[k].toNat = 0 := by simpa using hz
          exact UInt8.toNat_inj.1 (by simpa using this)
        have HBB : Hid (B = false) := Lib.hid (by
          rw [HB.out, textB]
          have : s.data.toList.contains 0 = true := by rw [← hz']; simpa using HM.out
          rw [this]; simp)
        go_ret
        exact ⟨by rw [HBB.out]; rfl, rfl⟩
      · have hz := ‹((s[k].toNat : Int) == 0) = false›
        have hz' : s[k] ≠ 0 := fun e => by rw [e] at hz; simp at hz
        go_round
        case rel => exact ⟨k + 1, by omega, by go_num, Lib.hid (fun y hy => by
          rw [HTs.out, List.mem_append] at hy
          rcases hy with hy | hy
          · exact HA.out y hy
          · rw [List.mem_singleton] at hy; rw [hy]; exact hz')⟩
        case measure => simp [intOf]; omega
    · have HBB : Hid (B = decide (s.size ≤ 127)) := Lib.hid (by
        rw [HB.out, textB]
        have : s.data.toList.contains 0 = false := by
          rw [← Bool.not_eq_true]
          intro h
          have h1 : (0 : UInt8) ∈ s.data.toList := by simpa using h
          exact HA.out 0 (by rw [List.take_of_length_le (by simp; omega)]; exact h1) rfl
        rw [this]; simp)
      by_cases h127 : s.size ≤ 127
      · have h1 : (s.size : Int) ≤ 127 := by omega
        go_wp2_with fail
        go_ret
        exact ⟨by rw [HBB.out, decide_eq_true h127]; rfl, rfl⟩
      · have h1 : ¬ (s.size : Int) ≤ 127 := by omega
        have h2 : decide ((s.size : Int) ≤ 127) = false := decide_eq_false h1
        go_wp2_with fail
        go_ret
        exact ⟨by rw [HBB.out, decide_eq_false h127]; rfl, rfl⟩
end Go.Proofs.Ytiakphjkcpbccaa
