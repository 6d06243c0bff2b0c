/-
  The walk: works() returns true, and writes nothing that was there.
-/
import Derived.Test.YtcjfmgaelpkndaaGet
namespace Go.Proofs.Ytcjfmgaelpkndaa
open Go.RowKit
set_option linter.unusedVariables false

theorem WrIs.ext {S : Nat → Prop} {w w' : World} {b : Nat} {high : Bool} {bs : List Bool} {a : Option Addr} {c : Nat} (h : WrIs w b high bs a c) (e : Ext S w w') (hb : ¬ S b) (ha : ∀ g, a = some g → ¬ S g.block) : WrIs w' b high bs a c :=
  ⟨h.blk.ext e hb, own_ext h.own e (fun g hg => by cases a with | none => cases hg | some y => cases hg; exact ha y rfl), h.apart⟩
theorem WrIs.pure {w w' : World} {b : Nat} {high : Bool} {bs : List Bool} {a : Option Addr} {c : Nat} (h : WrIs w b high bs a c) (e : Pure w w') : WrIs w' b high bs a c := h.ext e id (fun _ _ => id)
theorem WrIs.lt {w : World} {b : Nat} {high : Bool} {bs : List Bool} {a : Option Addr} {c : Nat} (h : WrIs w b high bs a c) : ∀ g, a = some g → g.block < w.heap.size := by
  intro g hg
  obtain ⟨_, _, hh, _, _, _, h4⟩ := own_form h.own
  cases hh
  exact (h4 g hg).2.1
theorem not_wrs {b i : Nat} {a : Option Addr} (h1 : i ≠ b) (h2 : ∀ g, a = some g → i ≠ g.block) : ¬ WrS b a i := fun e => by
  rcases e with e | ⟨g, hg, e⟩
  · exact h1 e
  · exact h2 g hg e
set_option maxRecDepth 100000 in
theorem width5_any (w : World) : Calls Try.prog 29 #[.int .u32 5] w fun e w' => e = .returned (.int .i64 3) ∧ w' = w := by
  go_enter Try.func29, Try.ntmps29
  go_wp2
  go_ret
  exact ⟨ret_int (by kernel_rfl), rfl⟩
theorem ext_new {b : Nat} {a : Option Addr} {w0 w w' : World} (h0 : Pure w0 w) (h : Ext (WrS b a) w w') (hb : w0.heap.size ≤ b) (ha : ∀ g, a = some g → w0.heap.size ≤ g.block) : Pure w0 w' :=
  h0.trans h (fun i hi e => by
    rcases e with e | ⟨g, hg, e⟩
    · omega
    · have := ha g hg; omega)

theorem works_any (w : World) : Calls Try.prog 13 #[] w fun e w' => e = .returned (.bool true) ∧ Pure w w' := by
  go_enter Try.func13, Try.ntmps13
  go_wp2_with fail
  refine (new_any true w).mono ?_
  rintro e w1 ⟨rfl, hA1, hE1⟩
  go_wp2_with fail
  refine (new_any false w1).mono ?_
  rintro e w2 ⟨rfl, hB2, hE2⟩
  have hA2 := hA1.pure hE2
  have hbl := hA1.blk.lt
  have hE := hE1.pure hE2
  clear hE1 hE2 hA1
  go_wp2_with fail
  refine (put_yes _ true [] _ _ 5 3 w2 hA2 (by decide) (by decide) (by decide) (by decide)).mono ?_
  rintro e w3 ⟨rfl, a3, c3, hA3, hE3, hf3⟩
  have hB3 := hB2.ext hE3 (not_wrs (by omega) (fun g hg => by cases hg)) (fun g hg => by cases hg)
  have hEE := ext_new hE hE3 (Nat.le_refl _) (fun g hg => by cases hg)
  have ha3 : ∀ g, a3 = some g → w2.heap.size ≤ g.block := fun g hg => by rcases hf3 g hg with e | e; cases e; exact e
  have hbl2 := hB2.blk.lt
  clear hE hE3 hf3 hA2
  go_wp2_with fail
  refine (put_yes _ false [] _ _ 5 3 w3 hB3 (by decide) (by decide) (by decide) (by decide)).mono ?_
  rintro e w4 ⟨rfl, a4, c4, hB4, hE4, hf4⟩
  have hA4 := hA3.ext hE4 (not_wrs (by omega) (fun g hg => by cases hg)) (fun g hg => not_wrs (by have := ha3 g hg; omega) (fun g' hg' => by cases hg'))
  have hE := ext_new hEE hE4 (by omega) (fun g hg => by cases hg)
  clear hEE hE4 hA3 hB3
  go_wp2_with fail
  refine (read_any (some ⟨w4.heap.size, 0, none⟩) 1 [160] true _ (bytes_at _ rfl rfl) (fun h => by cases h) (by decide) (by decide)).mono ?_
  rintro e w5 ⟨rb, ra, rc, rfl, hR5, hE5, hrb1, hrb2, hra⟩
  have hE6 := hE.pure ((ext_alloc w4 _).pure hE5)
  have hA5 := hA4.pure ((ext_alloc w4 _).pure hE5)
  have hB5 := hB4.pure ((ext_alloc w4 _).pure hE5)
  have hsz : w4.heap.size < w5.heap.size := by have := hE5.size; simp at this; omega
  have hal := hA4.lt
  have hbl4 := hB4.lt
  have hbb := hB4.blk.lt
  have hab := hA4.blk.lt
  simp at hrb1
  clear hE hE5 hA4 hB4
  go_wp2_with fail
  refine (get_yes rb true [160] 0 ra rc 3 w5 hR5 (by decide) (by decide) (by decide)).mono ?_
  rintro e w6 ⟨rfl, hR6, hE7⟩
  have hA6 := hA5.ext hE7 (fun e => by have e' : w.heap.size = rb := e; omega) (fun g hg e => by have e' : g.block = rb := e; have := hal g hg; omega)
  have hB6 := hB5.ext hE7 (fun e => by have e' : w1.heap.size = rb := e; omega) (fun g hg e => by have e' : g.block = rb := e; have := hbl4 g hg; omega)
  have hE8 : Pure w w6 := hE6.trans hE7 (fun i hi e => by have e' : i = rb := e; omega)
  clear hE6 hE7 hA5 hB5 hR5
  rw [show num true (List.take 3 (List.drop 0 (bitsOf true [160]))) = 5 from by decide]
  go_wp2_with fail
  refine (bytes_any _ true _ a3 c3 w6 hA6 (by decide)).mono ?_
  rintro e w7 ⟨a7, c7, rfl, hN7⟩
  have s7 : ((strB [160]).toList == [160]) = true := by kernel_rfl
  have s8 : ((strB [5]).toList == [5]) = true := by kernel_rfl
  have cv7 := conv_str w7 a7 c7 1 _ (by decide) hN7.nil hN7.bytes
  rw [show (pack true ([] ++ bitsNum true 5 3)) = [160] from by decide] at *
  rw [show ([160] : List UInt8).length = 1 from rfl]
  go_wp2_with fail
  refine (bytes_any _ false _ a4 c4 w7 (hB6.pure hN7.ext) (by decide)).mono ?_
  rintro e w8 ⟨a8, c8, rfl, hN8⟩
  clear cv7
  have cv8 := conv_str w8 a8 c8 1 _ (by decide) hN8.nil hN8.bytes
  rw [show (pack false ([] ++ bitsNum false 5 3)) = [5] from by decide] at *
  rw [show ([5] : List UInt8).length = 1 from rfl]
  go_wp2_with fail
  refine (left_any rb true [160] 3 ra rc w8 ((hR6.ext hN7.ext id (fun _ _ => id)).ext hN8.ext id (fun _ _ => id)) (by decide) (by decide)).mono ?_
  rintro e w9 ⟨rfl, m, rfl⟩
  go_wp2_with fail
  refine (width5_any _).mono ?_
  rintro e w10 ⟨rfl, hw⟩
  obtain rfl := hw.symm
  go_wp2_with fail
  go_ret
  exact ⟨rfl, ((hE8.pure hN7.ext).pure hN8.ext).drewN m⟩
end Go.Proofs.Ytcjfmgaelpkndaa
