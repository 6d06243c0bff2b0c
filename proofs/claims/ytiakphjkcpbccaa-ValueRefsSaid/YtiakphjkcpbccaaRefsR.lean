/-
  Walked: the reference's Refs; the law's numbers.
  What came in: a value, whose numbers are Go's; a slice of numbers.
-/
import Derived.Test.YtiakphjkcpbccaaMoreR
import Derived.Test.YtiakphjkcpbccaaRefsPl
import Derived.Test.YtiakphjkcpbccaaOpen
namespace Go.Proofs.Ytiakphjkcpbccaa
open Go.RowKit
set_option linter.unusedVariables false

set_option maxRecDepth 100000 in
theorem refrefs_any (d : Nat) (v : V) (cs : List Value) (w : World) (h : Lies w d v cs) (hsz : v.size ≤ 100000) :
    Calls Try.prog 30 #[.agg cs.toArray] w (NumsTo (v.more []) w) := by
  have h4 := h.len
  obtain ⟨w1, hw1⟩ : ∃ z, z = w.alloc (.cells cs.toArray 24) := ⟨_, rfl⟩
  have hP1 : Pure w w1 := hw1 ▸ ext_alloc w _
  have hB1 : BlockIs w1 w.heap.size cs 24 := hw1 ▸ BlockIs.new w _ _
  have HC : Hid (Calls Try.prog 49 #[.slice none 0 0, .agg cs.toArray] w1 (NumsTo (v.more []) w1)) := Lib.hid (more_any d v cs [] none 0 w1 (h.pure hP1) (row_nil _ _) (Nat.le_refl _) (Nat.zero_le _) (fun _ => rfl) (by simpa using hsz))
  have hR : (w.alloc (.cells cs.toArray 24)).rangeAt w.heap.size 0 cs := by rw [← hw1]; exact hB1.range
  have HW1 := Lib.hid hw1
  have HP1 := Lib.hid hP1
  clear hw1 hP1 hB1 h
  go_enter Try.func30, Try.ntmps30
  go_wp2_with (refine wpList_load_mid rfl 24 (.tmp 1) rfl w.heap.size 0 rfl cs _ hR Try.underlying24 rfl (by rw [h4]; kernel_rfl) ?_)
  rw [← HW1.out]
  refine HC.out.mono ?_
  rintro e w2 ⟨a, c, rfl, h1, h2, h3, hR2, hP2⟩
  obtain ⟨n, hn⟩ : ∃ z, z = (v.more []).length := ⟨_, rfl⟩
  rw [← hn] at h1 ⊢
  have HN := Lib.hid hn
  have HR2 := Lib.hid hR2
  clear hn hR2
  go_wp2_with fail
  go_ret
  exact ⟨a, c, by rw [HN.out]; rfl, by rw [← HN.out]; exact h1, h2, h3, HR2.out, HP1.out.pure hP2⟩
set_option maxHeartbeats 1000000 in
theorem numbers_any (S : List Int) (a : Option Addr) (c : Nat) (a' : Option Addr) (c' : Nat) (w : World) (hR : RowOf w a (intsV S)) (hR' : RowOf w a' (intsV S)) (hl : S.length ≤ 1000000) :
    Calls Try.prog 28 #[.slice a S.length c, .slice a' S.length c'] w (BoolTo true w) := by
  obtain ⟨n, hn⟩ : ∃ n, n = S.length := ⟨_, rfl⟩
  rw [← hn]
  rw [← hn] at hl
  have HN := Lib.hid hn
  have HR := Lib.hid hR
  have HR' := Lib.hid hR'
  clear hn hR hR'
  go_enter Try.func28, Try.ntmps28
  go_wp2_with fail
  go_loopw [5] (fun i W => ∃ k : Nat, k ≤ n ∧ i = .int .i64 k ∧ Pure w W) (fun i _ => n - (intOf i).toNat)
  case atStart => exact ⟨0, Nat.zero_le _, rfl, Ext.refl _ _⟩
  case round =>
    obtain ⟨k, hk, rfl, hE⟩ := hrel
    by_cases hlt : k < n
    · have hki : (k : Int) < (n : Int) := by omega
      have hkS : k < S.length := by rw [← HN.out]; exact hlt
      obtain ⟨b, o, rfl, hc⟩ := HR.out k _ (intsV_get hkS)
      obtain ⟨b', o', rfl, hc'⟩ := HR'.out k _ (intsV_get hkS)
      obtain ⟨y, hy⟩ : ∃ y, y = S[k] := ⟨_, rfl⟩
      rw [← hy] at hc hc'
      have c1 := hE.cell_some hc id
      have c2 := hE.cell_some hc' id
      clear hy hc hc'
      go_wp2_with fail
      go_quiet (fail)
      go_wp2_with fail
      go_roundw
      case rel => exact ⟨k + 1, by omega, by go_num, (hE.drewN _)⟩
      case measure => simp [intOf]; omega
    · have hki : ¬ (k : Int) < (n : Int) := by omega
      go_wp2_with fail
      go_ret
      exact ⟨rfl, hE⟩
end Go.Proofs.Ytiakphjkcpbccaa
namespace Go.Proofs.Ytiakphjkcpbccaa
open Go.RowKit
set_option linter.unusedVariables false

theorem numsL_of {l : List V} {p : Int → Prop} (h : ∀ u ∈ l, ∀ x ∈ u.nums, p x) : ∀ x ∈ numsL l, p x := by
  induction l with
  | nil => intro x hx; rw [numsL] at hx; cases hx
  | cons u l ih =>
    intro x hx
    rw [numsL, List.mem_append] at hx
    rcases hx with hx | hx
    · exact h u (by simp) x hx
    · exact ih (fun u hu => h u (by simp [hu])) x hx
theorem nums_rows {k m : Int} {s : ByteArray} {rows : List (List Value × V)} (hm : (Lit.int .i64 m).wf = true) (h : ∀ q ∈ rows, ∀ x ∈ q.2.nums, (Lit.int .i64 x).wf = true) : ∀ x ∈ (V.mk k m s (rows.map (·.2))).nums, (Lit.int .i64 x).wf = true := by
  intro x hx
  rw [V.nums] at hx
  rcases List.mem_cons.1 hx with rfl | hx
  · exact hm
  · refine numsL_of (p := fun x => (Lit.int .i64 x).wf = true) (fun u hu => ?_) x hx
    obtain ⟨q, hq, rfl⟩ := List.mem_map.1 hu
    exact h q hq
section
open Go.ChangeShapes Go.WideShapes Go.ChangeAt
set_option maxRecDepth 100000 in
theorem open_lies_wf {H : Type} {enc : TypeId × Value → H} {W : World} {held : Bool} : ∀ (F : Nat) (cs : List Value) (y : DataW H × List MemPlace), DataW.trod enc Try.prog W 0 (fun _ => true) held F 24 cs = some y → cs.length = 4 → ∃ v, Lies W F v cs ∧ ∀ x ∈ v.nums, (Lit.int .i64 x).wf = true := by
  intro F
  induction F using Nat.strongRecOn with
  | ind F ih =>
    intro cs y hy hlen
    have s4 : Try.prog.cellsOf 24 = 4 := by kernel_rfl
    have s0 : Try.prog.cellsOf 3 = 1 := by kernel_rfl
    have s1 : Try.prog.cellsOf 9 = 1 := by kernel_rfl
    have s2 : Try.prog.cellsOf 22 = 1 := by kernel_rfl
    match cs, hlen with
    | [c0, c1, c2, c3], _ =>
      obtain ⟨xs, n, hF, hx, _, hl4, hfs⟩ := DataW.trod_struct Try.underlying24 hy
      have h0 : DataW.trod enc Try.prog W 0 (fun _ => true) held n 3 (([c0, c1, c2, c3].drop 0).take (Try.prog.cellsOf 3)) = xs[0]? := hfs 0 _ rfl
      have h1 : DataW.trod enc Try.prog W 0 (fun _ => true) held n 3 (([c0, c1, c2, c3].drop 1).take (Try.prog.cellsOf 3)) = xs[1]? := hfs 1 _ rfl
      have h2 : DataW.trod enc Try.prog W 0 (fun _ => true) held n 9 (([c0, c1, c2, c3].drop 2).take (Try.prog.cellsOf 9)) = xs[2]? := hfs 2 _ rfl
      have h3 : DataW.trod enc Try.prog W 0 (fun _ => true) held n 22 (([c0, c1, c2, c3].drop 3).take (Try.prog.cellsOf 22)) = xs[3]? := hfs 3 _ rfl
      rw [s0] at h0 h1
      rw [s1] at h2
      rw [s2] at h3
      simp only [List.drop, List.take] at h0 h1 h2 h3
      match xs, hl4 with
      | [y0, y1, y2, y3], _ =>
        simp only [List.getElem?_cons_zero, List.getElem?_cons_succ] at h0 h1 h2 h3
        obtain ⟨k, e0, _, _⟩ := DataW.trod_int Try.underlying3 h0
        obtain ⟨m, e1, _, wm⟩ := DataW.trod_int Try.underlying3 h1
        obtain ⟨s, e2, _, hs⟩ := DataW.trod_string Try.underlying9 h2
        cases e0
        cases e1
        cases e2
        obtain ⟨a, c, rows, hcs, hl, hm, hn, hq, hrow⟩ := open_rows2 (size := 4) (Q := fun cs (u : V) => Lies W n u cs ∧ ∀ x ∈ u.nums, (Lit.int .i64 x).wf = true) Try.underlying22 s4 (by decide) (fun n' cs y hn' hy hlen => by
          obtain ⟨u, hu, hw⟩ := ih n' (by omega) cs y hy hlen
          exact ⟨u, hu.mono (by omega), hw⟩) h3
        cases hcs
        subst hF
        refine ⟨.mk k m s (rows.map (·.2)), ?_, nums_rows wm (fun q hq' => (hq q hq').2.2)⟩
        refine ⟨a, c, rows.map (·.1), by simp [V.kind, V.n, V.s, V.l], by simp [V.l], ?_, ?_, by simpa [V.l] using hl, hm, hn, ?_, hs⟩
        · intro r hr
          obtain ⟨q, hq', rfl⟩ := List.mem_map.1 hr
          exact (hq q hq').1
        · rw [List.flatMap_map]; exact hrow
        · intro i u r hu hr
          simp only [V.l, List.getElem?_map, Option.map_eq_some_iff] at hu hr
          obtain ⟨q, h1, rfl⟩ := hu
          obtain ⟨q', h2, rfl⟩ := hr
          rw [h1] at h2
          cases h2
          exact (hq q (List.mem_of_getElem? h1)).2.1
theorem open_val_wf {H : Type} {enc : TypeId × Value → H} {W : World} {v : Value} {d : DataW H} {p : List MemPlace} {base : Nat}
    (hv : Value.okWide Try.prog W .any base 24 v) (h : DataW.Trod enc Try.prog W 0 (fun _ => true) true 24 v d p) :
    ∃ (F : Nat) (u : V) (cs : List Value), v = .agg cs.toArray ∧ Lies W F u cs ∧ ∀ x ∈ u.nums, (Lit.int .i64 x).wf = true := by
  obtain ⟨cs, rfl, hcs⟩ := okWide_struct Try.underlying24 hv
  have s4 : Try.prog.cellsOf 24 = 4 := by kernel_rfl
  rw [s4] at hcs
  obtain ⟨fuel, hf⟩ := h
  obtain ⟨u, hu, hw⟩ := open_lies_wf fuel _ _ hf (by simpa [Value.cells] using hcs)
  exact ⟨fuel, u, cs.toList, by simp, by simpa [Value.cells] using hu, hw⟩
/-- a slice of numbers that came in -/
theorem open_nums {H : Type} {enc : TypeId × Value → H} {W : World} {v : Value} {d : DataW H} {p : List MemPlace} {base : Nat}
    (hv : Value.okWide Try.prog W .any base 41 v) (h : DataW.Trod enc Try.prog W 0 (fun _ => true) true 41 v d p) :
    ∃ (a : Option Addr) (c : Nat) (l : List Int), v = .slice a l.length c ∧ RowOf W a (intsV l) ∧ l.length ≤ maxLen := by
  obtain ⟨a0, n, c, rfl⟩ := okWide_slice Try.underlying41 hv
  obtain ⟨fuel, hf⟩ := h
  have s1 : Try.prog.cellsOf 3 = 1 := by kernel_rfl
  obtain ⟨a, c', rows, hcs, hl, hm, _, hq, hrow⟩ := open_rows (size := 1) (Q := fun cs (q : Int) => cs = [.int .i64 q]) Try.underlying41 s1 (by decide) (fun n cs y hy hlen => by
    match cs, hlen with
    | [c0], _ =>
      obtain ⟨k, e0, _, _⟩ := DataW.trod_int Try.underlying3 hy
      exact ⟨k, e0⟩) hf
  simp only [Value.cells] at hcs
  cases hcs
  refine ⟨a0, c, rows.map (·.2), by rw [List.length_map], ?_, by rw [List.length_map]; omega⟩
  have e : rows.flatMap (·.1) = intsV (rows.map (·.2)) := by
    clear hrow hl hf hv
    induction rows with
    | nil => rfl
    | cons r rows ih =>
      rw [List.flatMap_cons, (hq r (by simp)).2, ih (fun q h => hq q (by simp [h]))]
      rfl
  rw [e] at hrow
  exact hrow
end
end Go.Proofs.Ytiakphjkcpbccaa
