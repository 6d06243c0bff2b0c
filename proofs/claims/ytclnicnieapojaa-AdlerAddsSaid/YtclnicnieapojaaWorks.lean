/-
  The walk: works() returns true, and writes nothing that was there.
-/
import Derived.Test.YtclnicnieapojaaSums
import Derived.Lib.SlBytesConst
namespace Go.Proofs.Ytclnicnieapojaa
set_option linter.unusedVariables false
open Go.RowKit

def wiki : List UInt8 := [87, 105, 107, 105]
def pedia : List UInt8 := [112, 101, 100, 105, 97]
theorem sum_wiki : sumOf (run (wiki ++ pedia)) = 300286872 := by decide

theorem cell_new (w : World) (C : Array Value) (e : TypeId) (m : Nat × Nat) (i : Nat) : (w.alloc (.cells C e m)).cell? ⟨w.heap.size, i, none⟩ = C[i]? := by
  unfold World.cell?; rw [show (w.alloc (.cells C e m)).heap[w.heap.size]? = some (.cells C e m) from heap_alloc_new w _]; simp
theorem cell_at {w : World} {C : Array Value} {e : TypeId} {m : Nat × Nat} {b i : Nat} {v : Value} (hb : w.heap.size = b) (h : C[i]? = some v) : (w.alloc (.cells C e m)).cell? ⟨b, i, none⟩ = some v := by
  subst hb; rw [cell_new]; exact h
theorem bytes_at {w : World} {e : TypeId} {m : Nat × Nat} {C : Array Value} {b : Nat} (l : List UInt8) (hb : w.heap.size = b) (hC : C = (l.map byV).toArray) : Bytes (w.alloc (.cells C e m)) (some ⟨b, 0, none⟩) l := by
  subst hb hC
  intro i hi
  refine ⟨_, _, rfl, ?_⟩
  rw [cell_new]; simp [hi]
/-- a row of bytes that was just laid -/
theorem bytes_new (w : World) (e : TypeId) (m : Nat × Nat) (l : List UInt8) : Bytes (w.alloc (.cells (l.map byV).toArray e m)) (some ⟨w.heap.size, 0, none⟩) l := by
  intro i hi
  refine ⟨_, _, rfl, ?_⟩
  rw [cell_new]; simp [hi]
theorem Bytes.ext {S : Nat → Prop} {w w' : World} {ad : Option Addr} {l : List UInt8} (h : Bytes w ad l) (e : Ext S w w') (hn : ∀ a, ad = some a → ¬ S a.block) : Bytes w' ad l := by
  intro i hi
  obtain ⟨b, o, h1, h2⟩ := h i hi
  exact ⟨b, o, h1, e.cell_some h2 (by simpa using hn _ h1)⟩
theorem ext_alloc (w : World) (o : Obj) : Pure w (w.alloc o) := (Ext.refl _ w).alloc o

theorem conv_const (w : World) (b : Nat) (hb : w.heap.size = b) (C : Array Value) (n c : Nat) :
    (convert 22 22 (.slice (some ⟨b, 0, none⟩) n c)).run Try.prog (w.alloc (.cells C 5)) = .ok (.slice (some ⟨b, 0, none⟩) n c) (w.alloc (.cells C 5 (C.size, C.size + 1))) := by
  subst hb; exact Lib.run_convert_bytes_const (P := Try.prog) w 22 5 C n c Try.underlying22 Try.underlying5

theorem works_any (w : World) : Calls Try.prog 9 #[] w fun e w' => e = .returned (.bool true) ∧ Pure w w' := by
  have kc := conv_const
  go_enter Try.func9, Try.ntmps9
  go_wp2_with fail
  refine (add_any w.heap.size [] _ _ [(some ⟨w.heap.size + 1, 0, none⟩, 4, wiki), (some ⟨w.heap.size + 1 + 1, 0, none⟩, 5, pedia)] _ ?_ (by simp) ?_ (by simp [bytesOf, wiki, pedia])).mono ?_
  · exact (((BlockIs.new w _ _).alloc _).alloc _).alloc _
  · intro w' hE i hi
    match i, hi with
    | 0, _ =>
      refine ⟨_, _, _, rfl, hE.cell_some (p := ⟨w.heap.size + 1 + 1 + 1, 0 + 0, none⟩) (cell_at (by simp) rfl) (by intro h; simp at h <;> omega), rfl, by simp [wiki], by simp, ?_⟩
      exact (((bytes_at wiki (by simp) rfl).ext (ext_alloc _ _) (fun _ _ => id)).ext (ext_alloc _ _) (fun _ _ => id)).ext hE (fun a ha => by cases ha; intro h; simp at h <;> omega)
    | 1, _ =>
      refine ⟨_, _, _, rfl, hE.cell_some (p := ⟨w.heap.size + 1 + 1 + 1, 0 + 1, none⟩) (cell_at (by simp) rfl) (by intro h; simp at h <;> omega), rfl, by simp [pedia], by simp, ?_⟩
      exact ((bytes_at pedia (by simp) rfl).ext (ext_alloc _ _) (fun _ _ => id)).ext hE (fun a ha => by cases ha; intro h; simp at h <;> omega)
  rintro e w1 ⟨rfl, hB, hE⟩
  have hP : Pure w w1 := ((((ext_alloc w _).alloc _).alloc _).alloc _).trans hE (fun i hi e => by omega)
  clear hE
  go_wp2_with fail
  refine (sum_any (some ⟨w1.heap.size, 0, none⟩) 9 (wiki ++ pedia) _ (by decide) (by decide) (bytes_new w1 _ _ _)).mono ?_
  rintro e w2 ⟨rfl, hE⟩
  have hB2 : Sum32Is w2 w.heap.size (wiki ++ pedia) := (BlockIs.alloc hB _).ext hE id
  have hP2 := (hP.alloc _).pure hE
  clear hP hE hB
  rw [sum_wiki]
  go_wp2_with fail
  refine (sum_any none 0 [] _ (by decide) (by decide) (fun i hi => by simp at hi)).mono ?_
  rintro e w3 ⟨rfl, hE⟩
  have hB3 := BlockIs.ext hB2 hE id
  have hP3 := hP2.pure hE
  clear hE hB2 hP2
  rw [show sumOf (run []) = 1 from by decide]
  go_wp2_with fail
  refine (value32_any _ _ _ hB3).mono ?_
  rintro e w4 ⟨rfl, n, rfl⟩
  rw [sum_wiki]
  go_wp2_with fail
  refine (len32_any _ _ _ (BlockIs.drewN hB3 n)).mono ?_
  rintro e w5 ⟨rfl, rfl⟩
  rw [show ((wiki ++ pedia).length : Int) = 9 from by decide]
  go_wp2_with fail
  go_ret
  exact ⟨rfl, hP3.drewN n⟩
end Go.Proofs.Ytclnicnieapojaa
