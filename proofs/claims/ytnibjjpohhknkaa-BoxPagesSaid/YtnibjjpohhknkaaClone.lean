/-
  Walked: slices.Clone of values.
-/
import Derived.Test.YtnibjjpohhknkaaValCmp
import Derived.Test.YtnibjjpohhknkaaSlx
namespace Go.Proofs.Ytnibjjpohhknkaa
open Go.RowKit
set_option linter.unusedVariables false
set_option linter.unusedSimpArgs false

theorem info24 : (Try.prog.info? 24).map (fun i => (i.zero, i.size, i.bytes)) = some (some (.agg #[.int .i64 0, .int .i64 0, .string ⟨#[]⟩, .slice none 0 0]), 4, 56) := by kernel_rfl
/-- a row of the call's own: so many values, these cells -/
def OwnTo (B n : Nat) (xs : List Value) (T : Nat → Prop) (w : World) (e : Ending) (w' : World) : Prop :=
  ∃ (a : Option Addr) (c : Nat), e = .returned (.slice a n c) ∧ w'.ownsRow B 24 4 (.slice a n c) n xs ∧ Ext T w w'
set_option maxHeartbeats 1000000 in
set_option maxRecDepth 100000 in
theorem clone_any (a : Option Addr) (n c : Nat) (cs : List Value) (w : World) (hl : cs.length = n * 4) (hr : RowOf w a cs) (hnil : a = none → n = 0 ∧ c = 0) (hn : n ≤ 100000) (h1 : ∀ u ∈ cs, u.oneCell' = true) :
    Calls Try.prog 53 #[.slice a n c] w (OwnTo w.heap.size n cs (fun _ => False) w) := by
  have he := eql_nil Try.underlying22
  cases a with
  | none =>
    obtain ⟨rfl, rfl⟩ := hnil rfl
    obtain rfl : cs = [] := by simpa using hl
    go_enter Try.func53, Try.ntmps53
    go_wp2_with fail
    go_ret
    exact ⟨none, 0, rfl, ⟨rfl, Or.inl ⟨rfl, rfl⟩⟩, Ext.refl _ _⟩
  | some ad =>
    have HR := Lib.hid hr
    have HL := Lib.hid hl
    have H1 := Lib.hid h1
    clear hr hl h1 hnil
    go_enter Try.func53, Try.ntmps53
    go_wp2_with (at_builtin; refine wpList_append_any rfl (.tmp 5) (.tmp 6) 22 rfl w.heap.size 24 (.agg #[.int .i64 0, .int .i64 0, .string ⟨#[]⟩, .slice none 0 0]) 4 56 Try.underlying22 info24 rfl (by decide) (.slice (some ⟨w.heap.size, 0, none⟩) 0 0) 0 [] rfl (own_new (cs := []) rfl (Nat.zero_le _) _ (Nat.le_refl _)) (some ad) n c cs rfl (fun e => by cases e) HL.out (HR.out.ext (ext_alloc w _) (fun _ _ => id)) H1.out n (Nat.zero_add n) cs rfl (by omega) (by unfold maxLen; omega) (ext_alloc w _).size ?_)
    intro a' c' w' hO hg
    have hE : Ext (fun _ => False) w w' := (ext_alloc w (.cells #[] 24)).trans (ext_of_grown hg) (fun i hi e => by cases e; exact absurd hi (Nat.lt_irrefl _))
    have HO := Lib.hid hO
    clear hO hg
    go_wp2_with fail
    go_ret
    exact ⟨a', c', rfl, HO.out, hE⟩
end Go.Proofs.Ytnibjjpohhknkaa
