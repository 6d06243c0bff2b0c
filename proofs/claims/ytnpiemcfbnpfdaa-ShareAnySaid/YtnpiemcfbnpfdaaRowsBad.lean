/-
  Walked: share.Rows and share.Split of a Doc that may not be written.
-/
import Derived.Test.YtnpiemcfbnpfdaaShareOf
namespace Go.Proofs.Ytnpiemcfbnpfdaa
open Go.RowKit Go.Maps
set_option linter.unusedVariables false
set_option linter.unusedSimpArgs false

theorem sizeDc : (Try.prog.info? 38).map (·.size) = some 2 := by kernel_rfl
set_option maxRecDepth 100000 in
theorem rows_bad (d : Nat) (l : List Ob) (oa : Option Addr) (oc : Nat) (rws : List (List Value)) (root E : Int) (w : World) (hD : DocOk w d l oa rws root) (hds : ∀ u ∈ l, u.data.size ≤ maxLen) (hE : docE l root = E) (h0 : E ≠ 0) :
    Calls Try.prog 15 #[.agg #[.slice oa l.length oc, .int .i64 root]] w (fun e w' => e = .returned (.tuple #[.slice none 0 0, .int .i64 E]) ∧ Pure w w') := by
  have HDo := Lib.hid (fun W (hP : Pure w W) => (hE ▸ doc_any d l oa oc rws root W (hD.pure hP) hds : Calls Try.prog 12 #[.agg #[.slice oa l.length oc, .int .i64 root]] W (IntTo E W)))
  obtain ⟨n, hn⟩ : ∃ z, z = l.length := ⟨_, rfl⟩
  rw [← hn] at HDo ⊢
  obtain ⟨w1, hw1⟩ : ∃ z, z = w.alloc (.cells #[.slice oa n oc, .int .i64 root] 38) := ⟨_, rfl⟩
  have HP1 : Hid (Pure w w1) := Lib.hid (by rw [hw1]; exact ext_alloc w _)
  have HW1 := Lib.hid hw1.symm
  have hb : (E != 0) = true := by simpa using h0
  clear hw1 hn hD hds hE
  go_enter Try.func15, Try.ntmps15
  go_wp2_with fail
  rw [HW1.out]
  refine (HDo.out w1 HP1.out).mono ?_
  rintro e w2 ⟨rfl, hP2⟩
  go_wp2_with fail
  go_ret2
  exact ⟨rfl, HP1.out.pure hP2⟩
set_option maxHeartbeats 2000000 in
set_option maxRecDepth 100000 in
theorem split_bad (d : Nat) (l : List Ob) (oa : Option Addr) (oc : Nat) (rws : List (List Value)) (root E : Int) (w : World) (hD : DocOk w d l oa rws root) (hds : ∀ u ∈ l, u.data.size ≤ maxLen) (hE : docE l root = E) (h0 : E ≠ 0) :
    Calls Try.prog 13 #[.agg #[.slice oa l.length oc, .int .i64 root]] w (fun e w' => e = .returned (.tuple #[.agg #[.slice none 0 0, .slice none 0 0, .slice none 0 0, .slice none 0 0, .slice none 0 0], .int .i64 E]) ∧ Pure w w') := by
  have HDo := Lib.hid (fun W (hP : Pure w W) => rows_bad d l oa oc rws root E W (hD.pure hP) hds hE h0)
  obtain ⟨n, hn⟩ : ∃ z, z = l.length := ⟨_, rfl⟩
  rw [← hn] at HDo ⊢
  obtain ⟨w1, hw1⟩ : ∃ z, z = (w.alloc (.cells #[.slice oa n oc, .int .i64 root] 38)).alloc (.cells #[.slice none 0 0, .slice none 0 0, .slice none 0 0, .slice none 0 0, .slice none 0 0] 26) := ⟨_, rfl⟩
  have HP1 : Hid (Pure w w1) := Lib.hid (by rw [hw1]; exact (ext_alloc w _).pure (ext_alloc _ _))
  have HB1 : Hid (BlockIs w1 (w.heap.size + 1) [.slice none 0 0, .slice none 0 0, .slice none 0 0, .slice none 0 0, .slice none 0 0] 26) := Lib.hid (by
    have := BlockIs.new (w.alloc (.cells #[.slice oa n oc, .int .i64 root] 38)) [.slice none 0 0, .slice none 0 0, .slice none 0 0, .slice none 0 0, .slice none 0 0] 26
    rw [World.size_alloc] at this
    rw [hw1]; exact this)
  have HW1 := Lib.hid hw1.symm
  obtain ⟨R, hR⟩ : ∃ z, z = w.heap.size := ⟨_, rfl⟩
  rw [← hR] at HB1
  have HR := Lib.hid hR.symm
  have hb : (E != 0) = true := by simpa using h0
  clear hw1 hn hD hds hE hR
  go_enter Try.func13, Try.ntmps13
  go_wp2_with fail
  rw [HW1.out, HR.out]
  refine (HDo.out w1 HP1.out).mono ?_
  rintro e w2 ⟨rfl, hP2⟩
  have HB2 := Lib.hid (HB1.out.ext hP2 id)
  have HP2 := Lib.hid (HP1.out.pure hP2)
  have HTh : Hid (w2.there (R + 1) 0 (#[Value.slice none 0 0, .slice none 0 0, .slice none 0 0, .slice none 0 0, .slice none 0 0] : Array Value).size) := Lib.hid (HB2.out.there 5 rfl)
  have HSi : Hid ((Try.prog.info? 26).map (·.size) = some (#[Value.slice none 0 0, .slice none 0 0, .slice none 0 0, .slice none 0 0, .slice none 0 0] : Array Value).size) := Lib.hid sizeSP
  have HOn : Hid (((#[Value.slice none 0 0, .slice none 0 0, .slice none 0 0, .slice none 0 0, .slice none 0 0] : Array Value).all fun u => u.oneCell') = true) := Lib.hid (all_oneCell_toArray (by intro u hu; simp only [List.mem_cons, List.not_mem_nil, or_false] at hu; rcases hu with rfl | rfl | rfl | rfl | rfl <;> rfl))
  clear hP2
  go_wp2_with (with_reducible refine at_store 26 (.tmp 2) (.tmp 15) ?_; refine wpList_store_mid rfl 26 (.tmp 2) (.tmp 15) rfl (R + 1) 0 #[.slice none 0 0, .slice none 0 0, .slice none 0 0, .slice none 0 0, .slice none 0 0] rfl rfl HTh.out HSi.out HOn.out ?_)
  have hB := HB2.out.setAll [.slice none 0 0, .slice none 0 0, .slice none 0 0, .slice none 0 0, .slice none 0 0] rfl
  refine bodyPost_ret (results_row2 rfl _ _ (R + 1) _ [.slice none 0 0, .slice none 0 0, .slice none 0 0, .slice none 0 0, .slice none 0 0] _ rfl hB Try.underlying26 rfl sizeSP) rfl ?_
  exact ⟨rfl, Ext.setCells _ 0 _ HP2.out (b := R + 1) (fun h => by have := HR.out; omega)⟩
theorem split_none (w : World) : Calls Try.prog 13 #[.agg #[.slice none 0 0, .int .i64 0]] w (fun e w' => e = .returned (.tuple #[.agg #[.slice none 0 0, .slice none 0 0, .slice none 0 0, .slice none 0 0, .slice none 0 0], .int .i64 23]) ∧ Pure w w') :=
  split_bad 3 [] none 0 [] 0 23 w ⟨⟨rfl, fun r hr => (by cases hr), fun i u hu => (by simp at hu), fun i o r ho => (by cases ho)⟩, by decide, fun u hu => (by cases hu), fun u hu => (by cases hu), by decide⟩ (fun u hu => by cases hu) (by decide +kernel) (by decide)
theorem rows_none (w : World) : Calls Try.prog 15 #[.agg #[.slice none 0 0, .int .i64 0]] w (fun e w' => e = .returned (.tuple #[.slice none 0 0, .int .i64 23]) ∧ Pure w w') :=
  rows_bad 3 [] none 0 [] 0 23 w ⟨⟨rfl, fun r hr => (by cases hr), fun i u hu => (by simp at hu), fun i o r ho => (by cases ho)⟩, by decide, fun u hu => (by cases hu), fun u hu => (by cases hu), by decide⟩ (fun u hu => by cases hu) (by decide +kernel) (by decide)
end Go.Proofs.Ytnpiemcfbnpfdaa
