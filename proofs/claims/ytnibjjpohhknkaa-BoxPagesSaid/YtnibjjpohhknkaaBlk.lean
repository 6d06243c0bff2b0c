/-
  New blocks by abstract laws: a slice literal, a variable; the load of a value known whole.
-/
import Derived.Test.YtnibjjpohhknkaaPage
import Derived.Test.YtnibjjpohhknkaaMakes
import Derived.Test.YtnibjjpohhknkaaRegList
import Derived.Great.Walk
import Derived.Deep.Cut
namespace Go.Proofs.Ytnibjjpohhknkaa
open Go.RowKit
set_option linter.unusedVariables false
set_option linter.unusedSimpArgs false

theorem wpList_slice_new {P : Program} {ops : Array Oper} {rest : List Oper} {o : Oper} {a : Act} {w : World} {Q : Exit → Act → World → Prop} (hg : o.guard = none) (t e : TypeId) (len : Nat) (parts : Array (Nat × Operand)) (ho : o.op = .buildSlice t len parts)
    (hu : P.underlying t = some (.slice e)) (cells : List Value) (hf : P.builtSlice e len (parts.map fun (i, x) => (i, a.eval x)).toList = some cells.toArray)
    (h : ∀ (b : Nat) (w' : World), BlockIs w' b cells e → Pure w w' → wpList P ops Q rest (a.put o.dst (.slice (some ⟨b, 0, none⟩) len len)) w') : wpList P ops Q (o :: rest) a w :=
  Go.Great.wpList_buildSliceTo hg t e len parts ho w.heap.size rfl o.dst rfl hu cells.toArray hf (h _ _ (BlockIs.new w _ _) (ext_alloc w _))
theorem wpList_alloc_new {P : Program} {ops : Array Oper} {rest : List Oper} {o : Oper} {a : Act} {w : World} {Q : Exit → Act → World → Prop} (hg : o.guard = none) (e : TypeId) (cells : List Value)
    (hrun : (execOp a.eval o).run P w = .ok (.value (.pointer (some ⟨w.heap.size, 0, none⟩))) (w.alloc (.cells cells.toArray e)))
    (h : ∀ (b : Nat) (w' : World), BlockIs w' b cells e → Pure w w' → w.heap.size ≤ b → wpList P ops Q rest (a.put o.dst (.pointer (some ⟨b, 0, none⟩))) w') : wpList P ops Q (o :: rest) a w :=
  Go.Great.wpList_allocTo hg o.dst rfl _ _ hrun (h _ _ (BlockIs.new w _ _) (ext_alloc w _) (Nat.le_refl _))
theorem exec_load {oi : Oper} {ev : Operand → Value} {w : World} {x : Operand} {b : Nat} {cs : List Value} {T : TypeId} (ho : oi.op = .load 24 x) (hx : ev x = .pointer (some ⟨b, 0, none⟩)) (hB : BlockIs w b cs T) (hl : cs.length = 4) :
    (execOp ev oi).run Try.prog w = .ok (.value (.agg cs.toArray)) w := by
  unfold execOp
  simp only [ho, hx, Instr.loadAt, Instr.sureAddr, Sem.run_bind, Sem.run_pure, Result.andThen_ok, run_loadVar_mid w b 0 24 cs _ hB.range Try.underlying24 rfl (by rw [hl]; exact size24)]
def mediaV : V := .mk 6 0 ⟨#[]⟩ [intV 0, intV 0, intV 20, intV 10]
def pgV : V := .mk 7 0 ⟨#[]⟩ [nameV kMedia, mediaV]
def gvV : V := .mk 7 0 ⟨#[]⟩ [nameV kRot, intV (-270)]
def pgO : List Ob := [⟨pgV, false, ⟨#[]⟩⟩]
theorem pg_dict : dictL [nameV kMedia, mediaV] emptyD = pgV := by kernel_rfl
theorem gv_dict : dictL [nameV kRot, intV (-270)] emptyD = gvV := by kernel_rfl
theorem pg_page : pageP pgO gvV = (⟨⟨0, 0, 20000000, 10000000⟩, 1, 10000000, 20000000⟩, 0) := by kernel_rfl
theorem pg_point : pointB ⟨0, 0, 20000000, 10000000⟩ 1 20000000 0 = (0, 0) := by kernel_rfl
theorem pg_back : backB ⟨0, 0, 20000000, 10000000⟩ 1 1000000 2000000 = (18000000, 1000000) := by kernel_rfl
theorem pg_turn : Bx.turn ⟨0, 0, 2, 1⟩ 1 = ⟨0, -2, 1, 2⟩ := by kernel_rfl
theorem pg_both : Bx.both ⟨0, 0, 2, 2⟩ ⟨1, 1, 9, 9⟩ = ⟨1, 1, 1, 1⟩ := by kernel_rfl
/-- the page of works lies there -/
def PgAt (W : World) (b : Nat) : Prop := ∃ (oa : Option Addr) (oc : Nat) (rows : List (List Value)) (gcs : List Value), BlockIs W b (Value.slice oa 1 oc :: gcs) 47 ∧ OKids W 4 pgO oa rows ∧ Lies W 4 gvV gcs
theorem okids_one {W : World} {d b : Nat} {v : V} {cs : List Value} {T : TypeId} (hL : Lies W d v cs) (hB : BlockIs W b (cs ++ [.bool false, .string ⟨#[]⟩]) T) : OKids W d [⟨v, false, ⟨#[]⟩⟩] (some ⟨b, 0, none⟩) [cs ++ [.bool false, .string ⟨#[]⟩]] := by
  have h4 := hL.len
  refine ⟨rfl, ?_, ?_, ?_⟩
  · intro r hr
    simp at hr
    rw [hr, List.length_append, h4]; rfl
  · intro i u hu
    simp only [List.flatMap_cons, List.flatMap_nil, List.append_nil, id] at hu
    exact ⟨b, 0, rfl, by rw [Nat.zero_add, hB.cell i]; exact hu⟩
  · intro i o r ho hr
    cases i with
    | zero => cases ho; cases hr; exact ⟨cs, rfl, hL⟩
    | succ i => simp at ho
mutual
/-- none in it has just one value in it -/
def V.wide : V → Bool
  | .mk _ _ _ l => l.length != 1 && wideL l
def wideL : List V → Bool
  | [] => true
  | v :: l => v.wide && wideL l
end
theorem wide_mem : ∀ {l : List V} {v : V}, wideL l = true → v ∈ l → v.wide = true
  | u :: l, v, h, hv => by
    rw [wideL, Bool.and_eq_true] at h
    rcases List.mem_cons.1 hv with rfl | hv
    · exact h.1
    · exact wide_mem h.2 hv
/-- a block of a few cells is written: a value's rows have more -/
theorem Lies.keep {W W' : World} {b : Nat} {bs : List Value} {T : TypeId} (hB : BlockIs W b bs T) (h7 : bs.length ≤ 7) (hE : Ext (fun k => k = b) W W') : ∀ (d : Nat) (v : V) (cs : List Value), Lies W d v cs → v.wide = true → Lies W' d v cs
  | 0, _, _, h, _ => h.elim
  | d + 1, v, cs, h, hw => by
    obtain ⟨a, c, rows, h1, h2, h3, h4, h5, h6, h8, h9, h10⟩ := h
    have hw' : (v.l.length != 1) = true ∧ wideL v.l = true := by
      cases v; rw [V.wide, Bool.and_eq_true] at hw; exact hw
    refine ⟨a, c, rows, h1, h2, h3, ?_, h5, h6, h8, fun i u r hu hr => Lies.keep hB h7 hE d u r (h9 i u r hu hr) (wide_mem hw'.2 (List.mem_of_getElem? hu)), h10⟩
    by_cases h0 : v.l.length = 0
    · have : rows = [] := List.eq_nil_of_length_eq_zero (by omega)
      subst this
      intro i u hu
      simp at hu
    · have h22 : 2 ≤ rows.length := by have := hw'.1; simp at this; omega
      have hfl : (rows.flatMap id).length = rows.length * 4 := flat_len id rows (fun r hr => h3 r hr)
      refine h4.ext hE (fun x hx e => ?_)
      have e' : x.block = b := e
      obtain ⟨b', o, hb', hc⟩ := h4 7 _ (List.getElem?_eq_getElem (by omega))
      rw [hx] at hb'
      cases hb'
      simp only at e'
      subst e'
      rw [hB.cell, List.getElem?_eq_none (by omega)] at hc
      cases hc
theorem blocks_ne {W : World} {b b' : Nat} {cs cs' : List Value} {T T' : TypeId} (h : BlockIs W b cs T) (h' : BlockIs W b' cs' T') (hl : cs.length ≠ cs'.length) : b ≠ b' := by
  intro e
  subst e
  unfold BlockIs at h h'
  rw [h] at h'
  have := Option.some.inj h'
  injection this with h1
  exact hl (by have := congrArg Array.size h1; simpa using this)
theorem pg_at {W : World} {bP bO : Nat} {a1 a2 : Option Addr} {c1 c2 : Nat} (hBP : BlockIs W bP [.slice none 0 0, .int .i64 0, .int .i64 0, .string ⟨#[]⟩, .slice none 0 0] 47) (hBO : BlockIs W bO [.int .i64 7, .int .i64 0, .string ⟨#[]⟩, .slice a1 2 c1, .bool false, .string ⟨#[]⟩] 69)
    (hL1 : Lies W 4 pgV [.int .i64 7, .int .i64 0, .string ⟨#[]⟩, .slice a1 2 c1]) (hL2 : Lies W 4 gvV [.int .i64 7, .int .i64 0, .string ⟨#[]⟩, .slice a2 2 c2]) :
    PgAt (W.setCells bP 0 [.slice (some ⟨bO, 0, none⟩) 1 1, .int .i64 7, .int .i64 0, .string ⟨#[]⟩, .slice a2 2 c2]) bP := by
  have hX : Ext (fun k => k = bP) W (W.setCells bP 0 [.slice (some ⟨bO, 0, none⟩) 1 1, .int .i64 7, .int .i64 0, .string ⟨#[]⟩, .slice a2 2 c2]) := Ext.setCells _ 0 W (Ext.refl _ _) (fun _ => rfl)
  have hne : bO ≠ bP := blocks_ne hBO hBP (by simp)
  exact ⟨some ⟨bO, 0, none⟩, 1, _, _, hBP.setAll _ rfl, okids_one (Lies.keep hBP (by simp) hX 4 pgV _ hL1 (by kernel_rfl)) (hBO.ext hX hne), Lies.keep hBP (by simp) hX 4 gvV _ hL2 (by kernel_rfl)⟩
theorem run_alloc47 {ev : Operand → Value} {o : Oper} (ho : o.op = .alloc 47) (w : World) : (execOp ev o).run Try.prog w = .ok (.value (.pointer (some ⟨w.heap.size, 0, none⟩))) (w.alloc (.cells ([.slice none 0 0, .int .i64 0, .int .i64 0, .string ⟨#[]⟩, .slice none 0 0] : List Value).toArray 47)) := by
  unfold execOp
  rw [ho]
  go_simp
end Go.Proofs.Ytnibjjpohhknkaa
