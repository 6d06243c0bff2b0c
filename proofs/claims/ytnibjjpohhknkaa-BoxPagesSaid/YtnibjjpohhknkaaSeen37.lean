/-
  The law's seen; a Seen that came in.
-/
import Derived.Test.YtnibjjpohhknkaaRefPoint
import Derived.Test.YtnibjjpohhknkaaRects
namespace Go.Proofs.Ytnibjjpohhknkaa
open Go.RowKit
set_option linter.unusedVariables false
set_option linter.unusedSimpArgs false

section
open Go.ChangeShapes Go.WideShapes Go.ChangeAt
set_option maxRecDepth 100000 in
theorem open_seen {Hh : Type} {enc : TypeId × Value → Hh} {W : World} {v : Value} {d : DataW Hh} {p : List MemPlace} {base : Nat}
    (hv : Value.okWide Try.prog W .any base 54 v) (h : DataW.Trod enc Try.prog W 0 (fun _ => true) true 54 v d p) :
    ∃ (r : Bx) (q w h : Int), v = .agg #[.int .i64 r.x, .int .i64 r.y, .int .i64 r.w, .int .i64 r.h, .int .i64 q, .int .i64 w, .int .i64 h] := by
  obtain ⟨cs, rfl, hcs⟩ := okWide_struct Try.underlying54 hv
  have s7 : Try.prog.cellsOf 54 = 7 := by kernel_rfl
  rw [s7] at hcs
  obtain ⟨fuel, hf⟩ := h
  have s0 : Try.prog.cellsOf 3 = 1 := by kernel_rfl
  have s4 : Try.prog.cellsOf 32 = 4 := by kernel_rfl
  obtain ⟨l, rfl⟩ : ∃ l : List Value, cs = l.toArray := ⟨cs.toList, by simp⟩
  have hlen : l.length = 7 := by simpa [Value.cells] using hcs
  match l, hlen with
  | [c0, c1, c2, c3, c4, c5, c6], _ =>
    have hy : DataW.trod enc Try.prog W 0 (fun _ => true) true fuel 54 [c0, c1, c2, c3, c4, c5, c6] = some (d, p) := by simpa [Value.cells] using hf
    obtain ⟨xs, n, hF, hx, _, hl4, hfs⟩ := DataW.trod_struct Try.underlying54 hy
    have hb : DataW.trod enc Try.prog W 0 (fun _ => true) true n 32 (([c0, c1, c2, c3, c4, c5, c6].drop 0).take (Try.prog.cellsOf 32)) = xs[0]? := hfs 0 _ rfl
    have h1 : DataW.trod enc Try.prog W 0 (fun _ => true) true n 3 (([c0, c1, c2, c3, c4, c5, c6].drop 4).take (Try.prog.cellsOf 3)) = xs[1]? := hfs 1 _ rfl
    have h2 : DataW.trod enc Try.prog W 0 (fun _ => true) true n 3 (([c0, c1, c2, c3, c4, c5, c6].drop 5).take (Try.prog.cellsOf 3)) = xs[2]? := hfs 2 _ rfl
    have h3 : DataW.trod enc Try.prog W 0 (fun _ => true) true n 3 (([c0, c1, c2, c3, c4, c5, c6].drop 6).take (Try.prog.cellsOf 3)) = xs[3]? := hfs 3 _ rfl
    rw [s0] at h1 h2 h3
    rw [s4] at hb
    simp only [List.drop, List.take] at hb h1 h2 h3
    match xs, hl4 with
    | [y0, y1, y2, y3], _ =>
      simp only [List.getElem?_cons_zero, List.getElem?_cons_succ] at hb h1 h2 h3
      obtain ⟨r, hr⟩ := rect_cells hb
      obtain ⟨b, e1, _, _⟩ := DataW.trod_int Try.underlying3 h1
      obtain ⟨c, e2, _, _⟩ := DataW.trod_int Try.underlying3 h2
      obtain ⟨e, e3, _, _⟩ := DataW.trod_int Try.underlying3 h3
      cases hr
      cases e1
      cases e2
      cases e3
      exact ⟨r, b, c, e, rfl⟩
end
set_option maxHeartbeats 2000000 in
set_option maxRecDepth 100000 in
theorem seen_any (r : Bx) (q W H : Int) (w : World) : Calls Try.prog 23 #[.agg #[.int .i64 r.x, .int .i64 r.y, .int .i64 r.w, .int .i64 r.h, .int .i64 q, .int .i64 W, .int .i64 H]] w (fun e w' => e = .returned (.agg #[.int .i64 r.x, .int .i64 r.y, .int .i64 r.w, .int .i64 r.h, .int .i64 q, .int .i64 W, .int .i64 H]) ∧ Pure w w') := by
  obtain ⟨tb, htb⟩ : ∃ z, z = w.heap.size := ⟨_, rfl⟩
  obtain ⟨w1, hw1⟩ : ∃ z, z = w.alloc (.cells #[.int .i64 r.x, .int .i64 r.y, .int .i64 r.w, .int .i64 r.h, .int .i64 q, .int .i64 W, .int .i64 H] 54) := ⟨_, rfl⟩
  have hs1 : w1.heap.size = tb + 1 := by rw [hw1, World.size_alloc, htb]
  have hB1 : BlockIs w1 tb [.int .i64 r.x, .int .i64 r.y, .int .i64 r.w, .int .i64 r.h, .int .i64 q, .int .i64 W, .int .i64 H] 54 := by rw [htb, hw1]; exact BlockIs.new w _ _
  obtain ⟨w2, hw2⟩ : ∃ z, z = w1.alloc (.cells #[.int .i64 0, .int .i64 0, .int .i64 0, .int .i64 0, .int .i64 0, .int .i64 0, .int .i64 0] 50) := ⟨_, rfl⟩
  have hsz : tb + 2 ≤ w2.drew.heap.size := by show tb + 2 ≤ w2.heap.size; rw [hw2, World.size_alloc, hs1]; omega
  have hB2 : BlockIs w2 (tb + 1) [.int .i64 0, .int .i64 0, .int .i64 0, .int .i64 0, .int .i64 0, .int .i64 0, .int .i64 0] 50 := by rw [← hs1, hw2]; exact BlockIs.new w1 _ _
  have hB1 : BlockIs w2 tb [.int .i64 r.x, .int .i64 r.y, .int .i64 r.w, .int .i64 r.h, .int .i64 q, .int .i64 W, .int .i64 H] 54 := hw2 ▸ hB1.alloc _
  have hPw : Pure w w2 := (show Pure w w1 from hw1 ▸ ext_alloc w _).pure (hw2 ▸ ext_alloc w1 _)
  have HW : Hid ((w.alloc (.cells #[.int .i64 r.x, .int .i64 r.y, .int .i64 r.w, .int .i64 r.h, .int .i64 q, .int .i64 W, .int .i64 H] 54)).alloc (.cells #[.int .i64 0, .int .i64 0, .int .i64 0, .int .i64 0, .int .i64 0, .int .i64 0, .int .i64 0] 50) = w2) := Lib.hid (by rw [hw2, hw1])
  have HTb := Lib.hid htb
  clear hw1 hw2 hs1 htb
  go_enter Try.func23, Try.ntmps23
  go_wp2_with fail
  rw [HW.out, ← HTb.out]
  have hB1 := hB1.drew
  have hB2 := hB2.drew
  have hPw := hPw.drew
  refine region_start (fun k => w2.drew.heap.size ≤ k ∨ k = tb + 1) (by kernel_rfl) ?_
  try simp only [Act.put, List.setIfInBounds_toArray, List.set_cons_zero, List.set_cons_succ]
  refine region_take 0 3 (v := ?vsn0) rfl rfl (by kernel_rfl) (by kernel_rfl) (by kernel_rfl) (fun _ _ _ h => h) (by rfl) (fun w' hS => ?hsn0) ?rsn0
  case hsn0 => go_simp; with_reducible rfl
  try simp only [Act.put, List.setIfInBounds_toArray, List.set_cons_zero, List.set_cons_succ]
  refine region_take 1 4 (v := ?vsn1) rfl rfl (by kernel_rfl) (by kernel_rfl) (by kernel_rfl) (fun _ _ _ h => h) (by rfl) (fun w' hS => ?hsn1) ?rsn1
  case hsn1 => (have e0 := hS.cell_some (hB1.cell 0) (fun e => by rcases e with e | e <;> (first | (have e1 : w2.drew.heap.size ≤ tb := e; omega) | (have e1 : tb = tb + 1 := e; omega))); have e1 := hS.cell_some (hB1.cell 1) (fun e => by rcases e with e | e <;> (first | (have e1 : w2.drew.heap.size ≤ tb := e; omega) | (have e1 : tb = tb + 1 := e; omega))); have e2 := hS.cell_some (hB1.cell 2) (fun e => by rcases e with e | e <;> (first | (have e1 : w2.drew.heap.size ≤ tb := e; omega) | (have e1 : tb = tb + 1 := e; omega))); have e3 := hS.cell_some (hB1.cell 3) (fun e => by rcases e with e | e <;> (first | (have e1 : w2.drew.heap.size ≤ tb := e; omega) | (have e1 : tb = tb + 1 := e; omega))); go_simp; with_reducible rfl)
  try simp only [Act.put, List.setIfInBounds_toArray, List.set_cons_zero, List.set_cons_succ]
  refine region_take 3 6 (v := ?vsn3) rfl rfl (by kernel_rfl) (by kernel_rfl) (by kernel_rfl) (fun _ _ _ h => h) (by rfl) (fun w' hS => ?hsn3) ?rsn3
  case hsn3 => go_simp; with_reducible rfl
  try simp only [Act.put, List.setIfInBounds_toArray, List.set_cons_zero, List.set_cons_succ]
  refine region_take 4 7 (v := ?vsn4) rfl rfl (by kernel_rfl) (by kernel_rfl) (by kernel_rfl) (fun _ _ _ h => h) (by rfl) (fun w' hS => ?hsn4) ?rsn4
  case hsn4 => (have e4 := hS.cell_some (hB1.cell 4) (fun e => by rcases e with e | e <;> (first | (have e1 : w2.drew.heap.size ≤ tb := e; omega) | (have e1 : tb = tb + 1 := e; omega))); go_simp; with_reducible rfl)
  try simp only [Act.put, List.setIfInBounds_toArray, List.set_cons_zero, List.set_cons_succ]
  refine region_take 5 8 (v := ?vsn5) rfl rfl (by kernel_rfl) (by kernel_rfl) (by kernel_rfl) (fun _ _ _ h => h) (by rfl) (fun w' hS => ?hsn5) ?rsn5
  case hsn5 => go_simp; with_reducible rfl
  try simp only [Act.put, List.setIfInBounds_toArray, List.set_cons_zero, List.set_cons_succ]
  refine region_take 6 9 (v := ?vsn6) rfl rfl (by kernel_rfl) (by kernel_rfl) (by kernel_rfl) (fun _ _ _ h => h) (by rfl) (fun w' hS => ?hsn6) ?rsn6
  case hsn6 => (have e5 := hS.cell_some (hB1.cell 5) (fun e => by rcases e with e | e <;> (first | (have e1 : w2.drew.heap.size ≤ tb := e; omega) | (have e1 : tb = tb + 1 := e; omega))); go_simp; with_reducible rfl)
  try simp only [Act.put, List.setIfInBounds_toArray, List.set_cons_zero, List.set_cons_succ]
  refine region_take 7 10 (v := ?vsn7) rfl rfl (by kernel_rfl) (by kernel_rfl) (by kernel_rfl) (fun _ _ _ h => h) (by rfl) (fun w' hS => ?hsn7) ?rsn7
  case hsn7 => go_simp; with_reducible rfl
  try simp only [Act.put, List.setIfInBounds_toArray, List.set_cons_zero, List.set_cons_succ]
  refine region_take 8 11 (v := ?vsn8) rfl rfl (by kernel_rfl) (by kernel_rfl) (by kernel_rfl) (fun _ _ _ h => h) (by rfl) (fun w' hS => ?hsn8) ?rsn8
  case hsn8 => (have e6 := hS.cell_some (hB1.cell 6) (fun e => by rcases e with e | e <;> (first | (have e1 : w2.drew.heap.size ≤ tb := e; omega) | (have e1 : tb = tb + 1 := e; omega))); go_simp; with_reducible rfl)
  try simp only [Act.put, List.setIfInBounds_toArray, List.set_cons_zero, List.set_cons_succ]
  refine wpAnyH_ready (rs := [2]) (by kernel_rfl) (by simp) (AllReadyH.cons rfl (fun K hK => ?_) AllReadyH.nil)
  go_simp
  refine (to_any r _).mono ?_
  rintro e wa ⟨rfl, hP⟩
  have hB1 := hB1.ext hP id
  have hB2 := hB2.ext hP id
  have hPw := hPw.pure hP
  refine hK.out _ _ (hP.mono (fun _ _ e => e.elim)) (fun hHeld => ?_)
  clear hK K hHeld
  refine region_now (hP.mono (fun _ _ e => e.elim)) ?_
  try simp only [Act.put, List.setIfInBounds_toArray, List.set_cons_zero, List.set_cons_succ]
  refine region_take 9 12 (v := ?vsn9) rfl rfl (by kernel_rfl) (by kernel_rfl) (by kernel_rfl) (fun _ _ _ h => h) (by rfl) (fun w' hS => ?hsn9) ?rsn9
  case hsn9 => go_simp; with_reducible rfl
  try simp only [Act.put, List.setIfInBounds_toArray, List.set_cons_zero, List.set_cons_succ]
  refine wpAnyH_ready (rs := [10]) (by kernel_rfl) (by simp) (AllReadyH.cons rfl (fun K hK => ?_) AllReadyH.nil)
  refine step_of_list ?_
  have hTh := Lib.hid (hB2.there 7 rfl)
  obtain ⟨wE, hwE⟩ : ∃ z, z = wa.setCells (tb + 1) 0 [.int .i64 r.x, .int .i64 r.y, .int .i64 r.w, .int .i64 r.h, .int .i64 q, .int .i64 W, .int .i64 H] := ⟨_, rfl⟩
  have hX : Ext (fun k => w2.drew.heap.size ≤ k ∨ k = tb + 1) wa wE := hwE ▸ Ext.setCells _ 0 _ (Ext.refl _ _) (fun _ => Or.inr rfl)
  have hPw : Pure w wE := hwE ▸ Ext.setCells _ 0 _ hPw (b := tb + 1) (fun h => by have h2 := HTb.out; have h3 : tb + 1 < w.heap.size := h; omega)
  have hB2 : BlockIs wE (tb + 1) [.int .i64 r.x, .int .i64 r.y, .int .i64 r.w, .int .i64 r.h, .int .i64 q, .int .i64 W, .int .i64 H] 50 := hwE ▸ set7 hB2 rfl _ _ _ _ _ _ _
  refine wpList_store_mid rfl 50 (.tmp 2) (.tmp 12) rfl (tb + 1) 0 #[.int .i64 r.x, .int .i64 r.y, .int .i64 r.w, .int .i64 r.h, .int .i64 q, .int .i64 W, .int .i64 H] rfl rfl hTh.out (by exact size50) (one7 _ _ _ _ _ _ _) ?_
  have HwE : Hid (wa.setCells (tb + 1) 0 (#[.int .i64 r.x, .int .i64 r.y, .int .i64 r.w, .int .i64 r.h, .int .i64 q, .int .i64 W, .int .i64 H] : Array Value).toList = wE) := Lib.hid (by rw [hwE])
  rw [HwE.out]
  clear hwE
  refine hK.out _ _ (hX) (fun hHeld => ?_)
  clear hK K hHeld
  refine region_now (hX) ?_
  try simp only [Act.put, List.setIfInBounds_toArray, List.set_cons_zero, List.set_cons_succ]
  refine wpAnyH_done (by kernel_rfl) ?_ _
  go_simp
  try simp only [Act.put, List.setIfInBounds_toArray, List.set_cons_zero, List.set_cons_succ]
  go_wp2_with fail
  refine bodyPost_ret (results_row1 rfl _ _ (tb + 1) _ [.int .i64 r.x, .int .i64 r.y, .int .i64 r.w, .int .i64 r.h, .int .i64 q, .int .i64 W, .int .i64 H] _ rfl hB2 Try.underlying50 rfl size50) rfl ?_
  exact ⟨rfl, hPw⟩
end Go.Proofs.Ytnibjjpohhknkaa
