/-
  Laws about rectangles: a rectangle that came in; loads of rectangles; whether two are one.
-/
import Derived.Test.YtnibjjpohhknkaaBlk
import Derived.Test.YtnibjjpohhknkaaPoint
import Derived.Test.YtnibjjpohhknkaaOpen
namespace Go.Proofs.Ytnibjjpohhknkaa
open Go.RowKit
set_option linter.unusedVariables false
set_option linter.unusedSimpArgs false

section
open Go.ChangeShapes Go.WideShapes Go.ChangeAt
set_option maxRecDepth 100000 in
theorem rect_cells {H : Type} {enc : TypeId × Value → H} {W : World} {held : Bool} {fuel : Nat} {c0 c1 c2 c3 : Value} {y : DataW H × List MemPlace} (hy : DataW.trod enc Try.prog W 0 (fun _ => true) held fuel 32 [c0, c1, c2, c3] = some y) : ∃ r : Bx, [c0, c1, c2, c3] = [.int .i64 r.x, .int .i64 r.y, .int .i64 r.w, .int .i64 r.h] := by
  have s0 : Try.prog.cellsOf 3 = 1 := by kernel_rfl
  obtain ⟨xs, n, hF, hx, _, hl4, hfs⟩ := DataW.trod_struct Try.underlying32 hy
  have h0 : DataW.trod enc Try.prog W 0 (fun _ => true) held n 3 (([c0, c1, c2, c3].drop 0).take (Try.prog.cellsOf 3)) = xs[0]? := hfs 0 _ rfl
  have h1 : DataW.trod enc Try.prog W 0 (fun _ => true) held n 3 (([c0, c1, c2, c3].drop 1).take (Try.prog.cellsOf 3)) = xs[1]? := hfs 1 _ rfl
  have h2 : DataW.trod enc Try.prog W 0 (fun _ => true) held n 3 (([c0, c1, c2, c3].drop 2).take (Try.prog.cellsOf 3)) = xs[2]? := hfs 2 _ rfl
  have h3 : DataW.trod enc Try.prog W 0 (fun _ => true) held n 3 (([c0, c1, c2, c3].drop 3).take (Try.prog.cellsOf 3)) = xs[3]? := hfs 3 _ rfl
  rw [s0] at h0 h1 h2 h3
  simp only [List.drop, List.take] at h0 h1 h2 h3
  match xs, hl4 with
  | [y0, y1, y2, y3], _ =>
    simp only [List.getElem?_cons_zero, List.getElem?_cons_succ] at h0 h1 h2 h3
    obtain ⟨a, e0, _, _⟩ := DataW.trod_int Try.underlying3 h0
    obtain ⟨b, e1, _, _⟩ := DataW.trod_int Try.underlying3 h1
    obtain ⟨c, e2, _, _⟩ := DataW.trod_int Try.underlying3 h2
    obtain ⟨e, e3, _, _⟩ := DataW.trod_int Try.underlying3 h3
    cases e0
    cases e1
    cases e2
    cases e3
    exact ⟨⟨a, b, c, e⟩, rfl⟩
set_option maxRecDepth 100000 in
theorem open_rect {H : Type} {enc : TypeId × Value → H} {W : World} {v : Value} {d : DataW H} {p : List MemPlace} {base : Nat}
    (hv : Value.okWide Try.prog W .any base 32 v) (h : DataW.Trod enc Try.prog W 0 (fun _ => true) true 32 v d p) :
    ∃ r : Bx, v = .agg #[.int .i64 r.x, .int .i64 r.y, .int .i64 r.w, .int .i64 r.h] := by
  obtain ⟨cs, rfl, hcs⟩ := okWide_struct Try.underlying32 hv
  have s4 : Try.prog.cellsOf 32 = 4 := by kernel_rfl
  rw [s4] at hcs
  obtain ⟨fuel, hf⟩ := h
  have s0 : Try.prog.cellsOf 3 = 1 := by kernel_rfl
  obtain ⟨l, rfl⟩ : ∃ l : List Value, cs = l.toArray := ⟨cs.toList, by simp⟩
  have hlen : l.length = 4 := by simpa [Value.cells] using hcs
  match l, hlen with
  | [c0, c1, c2, c3], _ =>
    have hy : DataW.trod enc Try.prog W 0 (fun _ => true) true fuel 32 [c0, c1, c2, c3] = some (d, p) := by simpa [Value.cells] using hf
    obtain ⟨xs, n, hF, hx, _, hl4, hfs⟩ := DataW.trod_struct Try.underlying32 hy
    have h0 : DataW.trod enc Try.prog W 0 (fun _ => true) true n 3 (([c0, c1, c2, c3].drop 0).take (Try.prog.cellsOf 3)) = xs[0]? := hfs 0 _ rfl
    have h1 : DataW.trod enc Try.prog W 0 (fun _ => true) true n 3 (([c0, c1, c2, c3].drop 1).take (Try.prog.cellsOf 3)) = xs[1]? := hfs 1 _ rfl
    have h2 : DataW.trod enc Try.prog W 0 (fun _ => true) true n 3 (([c0, c1, c2, c3].drop 2).take (Try.prog.cellsOf 3)) = xs[2]? := hfs 2 _ rfl
    have h3 : DataW.trod enc Try.prog W 0 (fun _ => true) true n 3 (([c0, c1, c2, c3].drop 3).take (Try.prog.cellsOf 3)) = xs[3]? := hfs 3 _ rfl
    rw [s0] at h0 h1 h2 h3
    simp only [List.drop, List.take] at h0 h1 h2 h3
    match xs, hl4 with
    | [y0, y1, y2, y3], _ =>
      simp only [List.getElem?_cons_zero, List.getElem?_cons_succ] at h0 h1 h2 h3
      obtain ⟨a, e0, _, _⟩ := DataW.trod_int Try.underlying3 h0
      obtain ⟨b, e1, _, _⟩ := DataW.trod_int Try.underlying3 h1
      obtain ⟨c, e2, _, _⟩ := DataW.trod_int Try.underlying3 h2
      obtain ⟨e, e3, _, _⟩ := DataW.trod_int Try.underlying3 h3
      cases e0
      cases e1
      cases e2
      cases e3
      exact ⟨⟨a, b, c, e⟩, rfl⟩
end
theorem exec_load28 {oi : Oper} {ev : Operand → Value} {w : World} {x : Operand} {b : Nat} {cs : List Value} {T : TypeId} (ho : oi.op = .load 28 x) (hx : ev x = .pointer (some ⟨b, 0, none⟩)) (hB : BlockIs w b cs T) (hl : cs.length = 4) :
    (execOp ev oi).run Try.prog w = .ok (.value (.agg cs.toArray)) w := by
  unfold execOp
  simp only [ho, hx, Instr.loadAt, Instr.sureAddr, Sem.run_bind, Sem.run_pure, Result.andThen_ok, run_loadVar_mid w b 0 28 cs _ hB.range Try.underlying28 rfl (by rw [hl]; exact size28)]
theorem exec_load32 {oi : Oper} {ev : Operand → Value} {w : World} {x : Operand} {b : Nat} {cs : List Value} {T : TypeId} (ho : oi.op = .load 32 x) (hx : ev x = .pointer (some ⟨b, 0, none⟩)) (hB : BlockIs w b cs T) (hl : cs.length = 4) :
    (execOp ev oi).run Try.prog w = .ok (.value (.agg cs.toArray)) w := by
  unfold execOp
  simp only [ho, hx, Instr.loadAt, Instr.sureAddr, Sem.run_bind, Sem.run_pure, Result.andThen_ok, run_loadVar_mid w b 0 32 cs _ hB.range Try.underlying32 rfl (by rw [hl]; exact size32)]
theorem run_alloc28 {ev : Operand → Value} {o : Oper} (ho : o.op = .alloc 28) (w : World) : (execOp ev o).run Try.prog w = .ok (.value (.pointer (some ⟨w.heap.size, 0, none⟩))) (w.alloc (.cells ([.int .i64 0, .int .i64 0, .int .i64 0, .int .i64 0] : List Value).toArray 28)) := by
  unfold execOp
  rw [ho]
  go_simp
theorem neq28 (a b : Bx) (w : World) (h : a = b) : (binOp .neq 28 (.agg #[.int .i64 a.x, .int .i64 a.y, .int .i64 a.w, .int .i64 a.h]) (.agg #[.int .i64 b.x, .int .i64 b.y, .int .i64 b.w, .int .i64 b.h])).run Try.prog w = .ok (.bool false) w := by
  subst h
  rw [run_neq_struct]
  go_simp
theorem eql28 (a b : Bx) (w : World) (h : a = b) : (binOp .eql 28 (.agg #[.int .i64 a.x, .int .i64 a.y, .int .i64 a.w, .int .i64 a.h]) (.agg #[.int .i64 b.x, .int .i64 b.y, .int .i64 b.w, .int .i64 b.h])).run Try.prog w = .ok (.bool true) w := by
  subst h
  rw [run_eql_struct]
  go_simp
theorem neq32 (a b : Bx) (w : World) (h : a = b) : (binOp .neq 32 (.agg #[.int .i64 a.x, .int .i64 a.y, .int .i64 a.w, .int .i64 a.h]) (.agg #[.int .i64 b.x, .int .i64 b.y, .int .i64 b.w, .int .i64 b.h])).run Try.prog w = .ok (.bool false) w := by
  subst h
  rw [run_neq_struct]
  go_simp
theorem eql32 (a b : Bx) (w : World) (h : a = b) : (binOp .eql 32 (.agg #[.int .i64 a.x, .int .i64 a.y, .int .i64 a.w, .int .i64 a.h]) (.agg #[.int .i64 b.x, .int .i64 b.y, .int .i64 b.w, .int .i64 b.h])).run Try.prog w = .ok (.bool true) w := by
  subst h
  rw [run_eql_struct]
  go_simp
theorem both_pos {a b : Bx} (h : (a.both b).w ≠ 0) : 0 ≤ (a.both b).w ∧ 0 ≤ (a.both b).h := by
  unfold Bx.both at h ⊢
  split
  · split
    · exact ⟨Int.le_refl _, Int.le_refl _⟩
    · omega
  · exact ⟨Int.le_refl _, Int.le_refl _⟩
end Go.Proofs.Ytnibjjpohhknkaa
