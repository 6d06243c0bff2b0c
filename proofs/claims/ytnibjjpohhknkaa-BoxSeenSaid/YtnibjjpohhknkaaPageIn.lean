/-
  A page that came in; what a page's name leads to has few parts; the box of a page lies near; whole loads of Seens.
-/
import Derived.Test.YtnibjjpohhknkaaPageR
import Derived.Test.YtnibjjpohhknkaaFewD
import Derived.Test.YtnibjjpohhknkaaRects
namespace Go.Proofs.Ytnibjjpohhknkaa
open Go.RowKit
set_option linter.unusedVariables false
set_option linter.unusedSimpArgs false

theorem OKids.mono {W : World} {d d' : Nat} {l : List Ob} {a : Option Addr} {rows : List (List Value)} (h : OKids W d l a rows) (hd : d ≤ d') : OKids W d' l a rows :=
  ⟨h.len, h.six, h.row, fun i o r ho hr => by
    obtain ⟨cs, h1, h2⟩ := h.lies i o r ho hr
    exact ⟨cs, h1, h2.mono hd⟩⟩
theorem fewL_kid {M : Int} : ∀ {l : List V} {x : Int} {u : V}, 0 ≤ fewL l x → x ≤ M → u ∈ l → ∃ y, y ≤ M ∧ 0 ≤ u.few y
  | [], _, _, _, _, hu => by cases hu
  | v :: l, x, u, h, hx, hu => by
    rw [fewL] at h
    by_cases h0 : 0 ≤ x
    · rw [if_pos h0] at h
      have hy : 0 ≤ v.few x := by
        by_cases hn : v.few x < 0
        · rw [fewL_neg hn] at h; exact h
        · omega
      rcases List.mem_cons.1 hu with rfl | hu
      · exact ⟨x, hx, hy⟩
      · exact fewL_kid h (by have := V.few_low v x h0; omega) hu
    · rw [if_neg h0] at h; omega
theorem few_kid {v u : V} (h : 0 ≤ v.few 300) (hu : u ∈ v.l) : u.l.length ≤ 300 := by
  rw [few_eq] at h
  obtain ⟨y, h1, h2⟩ := fewL_kid (M := 300) h (by decide) hu
  have := few_len h2
  omega
theorem get_len {v : V} (h : 0 ≤ v.few 300) (key : ByteArray) : (v.get key).1.l.length ≤ 300 := by
  unfold V.get
  split
  · next i hi =>
    cases hg : v.l[i + 1]? with
    | none => exact Nat.zero_le _
    | some u => exact few_kid h (List.mem_of_getElem? hg)
  · exact Nat.zero_le _
theorem namedP_len {objs : List Ob} {gv : V} (hO : ∀ u ∈ objs, 0 ≤ u.v.few 300) (hg : 0 ≤ gv.few 300) (key : ByteArray) : (namedP objs gv key).1.l.length ≤ 300 := by
  have h1 : ∀ g : V × Bool, g.1.l.length ≤ 300 → (follow objs g).1.l.length ≤ 300 := by
    intro g hg
    unfold follow
    split
    · cases hu : objs[(g.1.n - 1).toNat]? with
      | none => exact Nat.zero_le _
      | some u => have := few_len (hO u (List.mem_of_getElem? hu)); show u.v.l.length ≤ 300; omega
    · exact hg
  unfold namedP
  apply h1
  split
  · cases hu : objs[0]? with
    | none => exact get_len (v := nullV) (by decide) key
    | some u => exact get_len (hO u (List.mem_of_getElem? hu)) key
  · exact get_len hg key
theorem fewO_all {objs : List Ob} {m : Nat} (h : fewO objs m = true) : ∀ u ∈ objs, 0 ≤ u.v.few 300 := by
  unfold fewO at h
  rw [Bool.and_eq_true, List.all_eq_true] at h
  intro u hu
  have h1 := h.2 u hu
  unfold Ob.few at h1
  rw [Bool.and_eq_true, Bool.and_eq_true] at h1
  exact of_decide_eq_true h1.1.1
/-- a box of a page lies near -/
def Bx.near (r : Bx) : Prop := (-2147483647000000 ≤ r.x ∧ r.x + r.w ≤ 2147483647000000) ∧ (-2147483647000000 ≤ r.y ∧ r.y + r.h ≤ 2147483647000000) ∧ 0 ≤ r.w ∧ 0 ≤ r.h
theorem Bx.near.may {r : Bx} (h : r.near) : r.may = true := by
  unfold Bx.near at h
  rw [Bx.may_iff]
  unfold most
  omega
theorem box_near {v : V} (h : v.box.2 = 0) : v.box.1.near := by
  unfold V.box at h ⊢
  split
  · next hk =>
    rw [if_pos hk] at h
    cases hl : lensL v.l with
    | none => rw [hl] at h; cases h
    | some L =>
      rw [hl] at h
      obtain ⟨_, hb⟩ := lensL_in hl
      match L, hb, h with
      | [a, b, c, d], hb, _ =>
        have h1 := hb a (by simp)
        have h2 := hb b (by simp)
        have h3 := hb c (by simp)
        have h4 := hb d (by simp)
        show Bx.near (Bx.span a b c d)
        unfold Bx.near Bx.span
        simp only []
        omega
      | [], _, h => cases h
      | [_], _, h => cases h
      | [_, _], _, h => cases h
      | [_, _, _], _, h => cases h
      | _ :: _ :: _ :: _ :: _ :: _, _, h => cases h
  · next hk => rw [if_neg hk] at h; cases h
theorem both_near {a b : Bx} (ha : a.near) (hb : b.near) (hw : 0 < (a.both b).w) : (a.both b).near := by
  unfold Bx.both at hw ⊢
  rw [if_pos ⟨ha.may, hb.may⟩] at hw ⊢
  split
  · next h => rw [if_pos h] at hw; cases hw
  · next h =>
    unfold Bx.near at ha hb ⊢
    simp only [Bx.over] at h ⊢
    omega
theorem pageP_err {l : List Ob} {g : V} (h : (pageP l g).2 ≠ 0) : (pageP l g).1 = .zero := by
  by_cases hl : l.length = 0
  · unfold pageP; rw [if_pos hl]
  · rw [pageP_eq l g hl] at h ⊢
    unfold pageQ tailR at *
    split
    · split
      · split
        · split
          · split
            · split
              · simp_all
              · rfl
            · simp_all
          · rfl
        · split
          · split
            · simp_all
            · rfl
          · simp_all
      · rfl
    · rfl
theorem tailR_ok {T : V × Bool} {r : Bx} (h : (tailR T r).2 = 0) : ∃ q : Int, (0 ≤ q ∧ q < 4) ∧ (tailR T r).1 = mkSn r q := by
  unfold tailR at h ⊢
  split
  · split
    · exact ⟨_, by have := q4_lt (wrap64 (T.1.n.tdiv 90)); omega, rfl⟩
    · next h1 h2 => rw [if_pos h1, if_neg h2] at h; cases h
  · exact ⟨0, by decide, rfl⟩
theorem pageP_ok {l : List Ob} {g : V} (h : (pageP l g).2 = 0) : ∃ (r : Bx) (q : Int), r.near ∧ (0 ≤ q ∧ q < 4) ∧ (pageP l g).1 = mkSn r q := by
  by_cases hl : l.length = 0
  · unfold pageP at h; rw [if_pos hl] at h; cases h
  · rw [pageP_eq l g hl] at h ⊢
    generalize namedP l g kMedia = M at *
    generalize namedP l g kCrop = C at *
    generalize namedP l g kRot = T at *
    unfold pageQ at *
    by_cases h1 : M.2 = true
    · rw [if_pos h1] at h ⊢
      by_cases h2 : M.1.box.2 = 0
      · rw [if_pos h2] at h ⊢
        by_cases h3 : C.2 = true
        · rw [if_pos h3] at h ⊢
          by_cases h4 : C.1.box.2 = 0
          · rw [if_pos h4] at h ⊢
            obtain ⟨q, hq, he⟩ := tailR_ok h
            refine ⟨_, q, ?_, hq, he⟩
            split
            · next hw => exact both_near (box_near h2) (box_near h4) hw
            · exact box_near h2
          · rw [if_neg h4] at h; cases h
        · rw [if_neg h3] at h ⊢
          obtain ⟨q, hq, he⟩ := tailR_ok h
          exact ⟨_, q, box_near h2, hq, he⟩
      · rw [if_neg h2] at h; cases h
    · rw [if_neg h1] at h; cases h
theorem mkSn_turn {r : Bx} (hr : r.may = true) {q : Int} (hq : 0 ≤ q ∧ q < 4) : (mkSn r q).w = (r.turn q).w ∧ (mkSn r q).h = (r.turn q).h ∧ (mkSn r q).box = r ∧ (mkSn r q).q = q := by
  unfold mkSn
  by_cases h : q % 2 = 1
  · rw [if_pos h]
    have := turn_odd hr h
    exact ⟨this.1.symm, this.2.symm, rfl, rfl⟩
  · rw [if_neg h]
    have := turn_even hr (n := q) (by omega)
    exact ⟨this.1.symm, this.2.symm, rfl, rfl⟩
theorem exec_load50 {oi : Oper} {ev : Operand → Value} {w : World} {x : Operand} {b : Nat} {cs : List Value} {T : TypeId} (ho : oi.op = .load 50 x) (hx : ev x = .pointer (some ⟨b, 0, none⟩)) (hB : BlockIs w b cs T) (hl : cs.length = 7) :
    (execOp ev oi).run Try.prog w = .ok (.value (.agg cs.toArray)) w := by
  unfold execOp
  simp only [ho, hx, Instr.loadAt, Instr.sureAddr, Sem.run_bind, Sem.run_pure, Result.andThen_ok, run_loadVar_mid w b 0 50 cs _ hB.range Try.underlying50 rfl (by rw [hl]; exact size50)]
theorem exec_load54 {oi : Oper} {ev : Operand → Value} {w : World} {x : Operand} {b : Nat} {cs : List Value} {T : TypeId} (ho : oi.op = .load 54 x) (hx : ev x = .pointer (some ⟨b, 0, none⟩)) (hB : BlockIs w b cs T) (hl : cs.length = 7) :
    (execOp ev oi).run Try.prog w = .ok (.value (.agg cs.toArray)) w := by
  unfold execOp
  simp only [ho, hx, Instr.loadAt, Instr.sureAddr, Sem.run_bind, Sem.run_pure, Result.andThen_ok, run_loadVar_mid w b 0 54 cs _ hB.range Try.underlying54 rfl (by rw [hl]; exact size54)]
theorem eql50 (a b c d e f g : Int) (w : World) : (binOp .eql 50 (.agg #[.int .i64 a, .int .i64 b, .int .i64 c, .int .i64 d, .int .i64 e, .int .i64 f, .int .i64 g]) (.agg #[.int .i64 a, .int .i64 b, .int .i64 c, .int .i64 d, .int .i64 e, .int .i64 f, .int .i64 g])).run Try.prog w = .ok (.bool true) w := by
  rw [run_eql_struct]
  go_simp
section
open Go.ChangeShapes Go.WideShapes Go.ChangeAt
set_option maxRecDepth 100000 in
theorem open_page {H : Type} {enc : TypeId × Value → H} {W : World} {v : Value} {d : DataW H} {p : List MemPlace} {base : Nat}
    (hv : Value.okWide Try.prog W .any base 47 v) (h : DataW.Trod enc Try.prog W 0 (fun _ => true) true 47 v d p) :
    ∃ (F : Nat) (objs : List Ob) (oa : Option Addr) (oc : Nat) (rows : List (List Value)) (gv : V) (gcs : List Value), v = .agg (Value.slice oa objs.length oc :: gcs).toArray ∧ OKids W F objs oa rows ∧ Lies W F gv gcs ∧ objs.length ≤ oc ∧ oc ≤ maxLen := by
  obtain ⟨cs, rfl, hcs⟩ := okWide_struct Try.underlying47 hv
  have s5 : Try.prog.cellsOf 47 = 5 := by kernel_rfl
  rw [s5] at hcs
  obtain ⟨fuel, hf⟩ := h
  have s1 : Try.prog.cellsOf 45 = 1 := by kernel_rfl
  have s4 : Try.prog.cellsOf 24 = 4 := by kernel_rfl
  obtain ⟨l, rfl⟩ : ∃ l : List Value, cs = l.toArray := ⟨cs.toList, by simp⟩
  have hlen : l.length = 5 := by simpa [Value.cells] using hcs
  match l, hlen with
  | [c0, c1, c2, c3, c4], _ =>
    have hy : DataW.trod enc Try.prog W 0 (fun _ => true) true fuel 47 [c0, c1, c2, c3, c4] = some (d, p) := by simpa [Value.cells] using hf
    obtain ⟨xs, n, hF, hx, _, hl4, hfs⟩ := DataW.trod_struct Try.underlying47 hy
    have h0 : DataW.trod enc Try.prog W 0 (fun _ => true) true n 45 (([c0, c1, c2, c3, c4].drop 0).take (Try.prog.cellsOf 45)) = xs[0]? := hfs 0 _ rfl
    have h1 : DataW.trod enc Try.prog W 0 (fun _ => true) true n 24 (([c0, c1, c2, c3, c4].drop 1).take (Try.prog.cellsOf 24)) = xs[1]? := hfs 1 _ rfl
    rw [s1] at h0
    rw [s4] at h1
    simp only [List.drop, List.take] at h0 h1
    match xs, hl4 with
    | [y0, y1], _ =>
      simp only [List.getElem?_cons_zero, List.getElem?_cons_succ] at h0 h1
      obtain ⟨objs, oa, oc, rows, e0, hK, h2, h3, _⟩ := open_objs h0
      obtain ⟨gv, hg⟩ := open_lies n _ _ h1 rfl
      cases e0
      exact ⟨n, objs, oa, oc, rows, gv, [c1, c2, c3, c4], rfl, hK, hg, h2, h3⟩
end
end Go.Proofs.Ytnibjjpohhknkaa
