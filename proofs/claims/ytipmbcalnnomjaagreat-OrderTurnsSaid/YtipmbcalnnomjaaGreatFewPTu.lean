import Derived.Test.YtipmbcalnnomjaaGreatDocOkTu
import Derived.Test.YtipmbcalnnomjaaGreatRef24Tu
import Derived.Test.YtipmbcalnnomjaaGreatSplitDTu
import Derived.Test.YtipmbcalnnomjaaGreatSqTu
set_option linter.unusedVariables false
set_option linter.unusedSimpArgs false
set_option maxRecDepth 100000
namespace Go.Proofs.YtipmbcalnnomjaaGreat
open Go.RowKit
theorem few_docok {W : World} {F : Nat} {l : List Ob} {oa : Option Addr} {rows : List (List Value)} {root : Int} (h : OKids W F l oa rows) (hw : ∀ u ∈ l, u.data.size ≤ maxLen ∧ u.v.wf) (hr : (Lit.int .i64 root).wf = true) (hf : fewO l 80 = true) :
 DocOk W F l oa rows root := by
 refine ⟨h.mono (Nat.le_succ _), by have := (fewO_in hf).1; omega, fun u hu => ?_, fun u hu => (hw u hu).2, hr⟩
 unfold fewO at hf
 rw [Bool.and_eq_true, List.all_eq_true] at hf
 have h1 := hf.2 u hu
 unfold Ob.few at h1
 rw [Bool.and_eq_true, Bool.and_eq_true] at h1
 have h2 := of_decide_eq_true h1.1.1
 rw [V.few_size _ _ (by omega)] at h2
 split at h2 <;> omega
section
open Go.ChangeShapes Go.WideShapes Go.ChangeAt
theorem open_ints_wf {H : Type} {enc : TypeId × Value → H} {W : World} {held : Bool} {F : Nat} {cs : List Value} {y : DataW H × List MemPlace} (hy : DataW.trod enc Tryz.prog W 0 (fun _ => true) held F 25 cs = some y) :
 ∃ (a : Option Addr) (c : Nat) (l : List Int), cs = [.slice a l.length c] ∧ RowOf W a (intsV l) ∧ l.length ≤ c ∧ c ≤ maxLen ∧ (a = none → c = 0) ∧ ∀ x ∈ l, (Lit.int .i64 x).wf = true := by
 have s1 : Tryz.prog.cellsOf 3 = 1 := by kernel_rfl
 obtain ⟨a, c, rows, hcs, hl, hm, hn, hq, hrow⟩ := open_rows2 (size := 1) (Q := fun cs (q : Int) => cs = [.int .i64 q] ∧ (Lit.int .i64 q).wf = true) Tryz.underlying25 s1 (by decide) (fun n' cs y hn' hy hlen => by
  match cs, hlen with
  | [c0], _ =>
    obtain ⟨k, e0, _, hw⟩ := DataW.trod_int Tryz.underlying3 hy
    exact ⟨k, e0, hw⟩) hy
 refine ⟨a, c, rows.map (·.2), by rw [hcs, List.length_map], ?_, by simpa using hl, hm, hn, fun x hx => ?_⟩
 ·have e : rows.flatMap (·.1) = intsV (rows.map (·.2)) := by
   clear hrow hl hm hn hcs hy
   induction rows with
   | nil => rfl
   | cons r rows ih =>
     rw [List.flatMap_cons, (hq r (by simp)).2.1, ih (fun q h => hq q (by simp [h]))]
     rfl
  rw [e] at hrow
  exact hrow
 ·obtain ⟨r, hr, rfl⟩ := List.mem_map.1 hx
  exact (hq r hr).2.2
end
end Go.Proofs.YtipmbcalnnomjaaGreat
namespace Go.Proofs.YtipmbcalnnomjaaGreat
open Go.ChangeShapes Go.WideShapes Go.ChangeAt Go.RowKit
theorem rows_flatV {W : World} {ad : Option Addr} {rows : List (List Value × CRow)} (hq : ∀ r ∈ rows, r.1 = [r.2.v]) (h : RowOf W ad (rows.flatMap (·.1))) : RowOf W ad ((rows.map (·.2)).map CRow.v) := by
 have e : rows.flatMap (·.1) = (rows.map (·.2)).map CRow.v := by
  clear h
  induction rows with
  | nil => rfl
  | cons r rows ih =>
    rw [List.flatMap_cons, hq r (by simp), ih (fun q h => hq q (by simp [h]))]
    rfl
 rw [e] at h
 exact h
def FewP (p : PartsP) : Prop := p.own.length ≤ 10 ∧ p.tree.length ≤ 40 ∧ p.first.length ≤ 40 ∧ p.shared.length ≤ 40 ∧ p.others.length ≤ 40 ∧ ∀ r ∈ p.own, r.length ≤ 20
def YesTo (q : Prop) (w : World) (e : Ending) (w' : World) : Prop := ∃ b : Bool, e = .returned (.bool b) ∧ (b = true → q) ∧ Pure w w'
set_option maxHeartbeats 4000000 in
theorem fewp_any {p : PartsP} {a0 a1 a2 a3 a4 : Option Addr} {n0 n1 n2 n3 n4 c0 c1 c2 c3 c4 : Nat} {w : World} (H : PAt p (.slice a0 n0 c0) (.slice a1 n1 c1) (.slice a2 n2 c2) (.slice a3 n3 c3) (.slice a4 n4 c4) w)
 (hm : n0 ≤ maxLen ∧ n1 ≤ maxLen ∧ n2 ≤ maxLen ∧ n3 ≤ maxLen ∧ n4 ≤ maxLen) (hmr : ∀ r ∈ p.own, r.length ≤ maxLen) :
 Calls Tryz.prog 6 #[.agg #[.slice a0 n0 c0, .slice a1 n1 c1, .slice a2 n2 c2, .slice a3 n3 c3, .slice a4 n4 c4]] w (YesTo (FewP p) w) := by
 obtain ⟨⟨e0, q0⟩, ⟨e1, q1⟩, ⟨rs, e2, el, qr, qq⟩, ⟨e3, q3⟩, ⟨e4, q4⟩⟩ := H.opened
 have hlo : p.own.length = n2 := by rw [← el, lsR_len, e2]
 have HF : Hid (n2 ≤ 10 → n0 ≤ 40 → n1 ≤ 40 → n3 ≤ 40 → n4 ≤ 40 → (∀ r ∈ rs, r.l.length ≤ 20) → FewP p) := qh (fun h2 h0 h1 h3 h4 hr => ⟨by rw [hlo]; exact h2, by rw [← e0]; exact h0, by rw [← e1]; exact h1, by rw [← e3]; exact h3, by rw [← e4]; exact h4, fun r hr' => by
  rw [← el] at hr'
  obtain ⟨q, hq, rfl⟩ := List.mem_map.1 hr'
  exact hr q hq⟩)
 have HQl : Hid (∀ q ∈ rs, q.l.length ≤ maxLen) := qh (fun q hq => hmr _ (by rw [← el]; exact List.mem_map.2 ⟨q, hq, rfl⟩))
 have HNr := qh e2
 obtain ⟨w1, hw1⟩ : ∃ z, z = w.alloc (.cells #[.slice a0 n0 c0, .slice a1 n1 c1, .slice a2 n2 c2, .slice a3 n3 c3, .slice a4 n4 c4] 28) := ⟨_, rfl⟩
 have HB : Hid (BlockIs w1 w.heap.size [.slice a0 n0 c0, .slice a1 n1 c1, .slice a2 n2 c2, .slice a3 n3 c3, .slice a4 n4 c4] 28) := qh (by rw [hw1]; exact BlockIs.new w _ _)
 have HP : Hid (Pure w w1) := qh (by rw [hw1]; exact ext_alloc w _)
 have HR := qh (qr.pure HP.out)
 have HW := qh hw1.symm
 obtain ⟨tb, htb⟩ : ∃ z, z = w.heap.size := ⟨_, rfl⟩
 rw [← htb] at HB
 have HTb := qh htb.symm
 have x0 : w1.cell? ⟨tb, 0, none⟩ = some (.slice a0 n0 c0) := HB.out.cell 0
 have x1 : w1.cell? ⟨tb, 1, none⟩ = some (.slice a1 n1 c1) := HB.out.cell 1
 have x2 : w1.cell? ⟨tb, 2, none⟩ = some (.slice a2 n2 c2) := HB.out.cell 2
 have x3 : w1.cell? ⟨tb, 3, none⟩ = some (.slice a3 n3 c3) := HB.out.cell 3
 have x4 : w1.cell? ⟨tb, 4, none⟩ = some (.slice a4 n4 c4) := HB.out.cell 4
 obtain ⟨hm0, hm1, hm2, hm3, hm4⟩ := hm
 unfold maxLen at hm0 hm1 hm2 hm3 hm4
 have b0 : (n0 : Int) ≤ 9223372036854775807 := by omega
 have b1 : (n1 : Int) ≤ 9223372036854775807 := by omega
 have b2 : (n2 : Int) ≤ 9223372036854775807 := by omega
 have b3 : (n3 : Int) ≤ 9223372036854775807 := by omega
 have b4 : (n4 : Int) ≤ 9223372036854775807 := by omega
 clear hm0 hm1 hm2 hm3 hm4 hmr H e0 q0 e1 q1 e2 el qr qq e3 q3 e4 q4 hlo hw1 htb
 by_cases g2 : n2 ≤ 10
 rotate_left
 ·have g2' : (10 : Int) < (n2 : Int) := by omega
  go_enter Tryz.func6, Tryz.ntmps6
  go_upto_region 1 with (fail)
  rw [HW.out, HTb.out]
  go_wp2_with fail
  go_ret
  exact ⟨false, rfl, (fun e => by cases e), HP.out⟩
 have g2' : ¬ (10 : Int) < (n2 : Int) := by omega
 by_cases g0 : n0 ≤ 40
 rotate_left
 ·have g0' : (40 : Int) < (n0 : Int) := by omega
  go_enter Tryz.func6, Tryz.ntmps6
  go_upto_region 1 with (fail)
  rw [HW.out, HTb.out]
  go_wp2_with fail
  go_ret
  exact ⟨false, rfl, (fun e => by cases e), HP.out⟩
 have g0' : ¬ (40 : Int) < (n0 : Int) := by omega
 by_cases g1 : n1 ≤ 40
 rotate_left
 ·have g1' : (40 : Int) < (n1 : Int) := by omega
  go_enter Tryz.func6, Tryz.ntmps6
  go_upto_region 1 with (fail)
  rw [HW.out, HTb.out]
  go_wp2_with fail
  go_ret
  exact ⟨false, rfl, (fun e => by cases e), HP.out⟩
 have g1' : ¬ (40 : Int) < (n1 : Int) := by omega
 by_cases g3 : n3 ≤ 40
 rotate_left
 ·have g3' : (40 : Int) < (n3 : Int) := by omega
  go_enter Tryz.func6, Tryz.ntmps6
  go_upto_region 1 with (fail)
  rw [HW.out, HTb.out]
  go_wp2_with fail
  go_ret
  exact ⟨false, rfl, (fun e => by cases e), HP.out⟩
 have g3' : ¬ (40 : Int) < (n3 : Int) := by omega
 by_cases g4 : n4 ≤ 40
 rotate_left
 ·have g4' : (40 : Int) < (n4 : Int) := by omega
  go_enter Tryz.func6, Tryz.ntmps6
  go_upto_region 1 with (fail)
  rw [HW.out, HTb.out]
  go_wp2_with fail
  go_ret
  exact ⟨false, rfl, (fun e => by cases e), HP.out⟩
 have g4' : ¬ (40 : Int) < (n4 : Int) := by omega
 have HF := qh (HF.out g2 g0 g1 g3 g4)
 clear g2 g0 g1 g3 g4
 go_enter Tryz.func6, Tryz.ntmps6
 go_upto_region 1 with (fail)
 rw [HW.out, HTb.out]
 go_wp2_with fail
 go_loopw [3] (fun i W => ∃ k : Nat, k ≤ n2 ∧ i = .int .i64 k ∧ Hid (∀ q ∈ rs.take k, q.l.length ≤ 20) ∧ W = w1) (fun i _ => n2 - (intOf i).toNat)
 case atStart => exact ⟨0, Nat.zero_le _, rfl, qh (fun q hq => by simp at hq), rfl⟩
 case round =>
  obtain ⟨k, hk, rfl, HL, rfl⟩ := hrel
  by_cases hlt : k < n2
  ·have hki : (k : Int) < (n2 : Int) := by omega
   have hk0 : (0 : Int) ≤ (k : Int) := by omega
   have hkr : k < rs.length := by rw [← HNr.out]; exact hlt
   obtain ⟨b, o, rfl, hc⟩ := HR.out.get hkr
   have HT := qh (List.take_succ_eq_append_getElem hkr)
   obtain ⟨m, hm⟩ : ∃ z, z = rs[k].l.length := ⟨_, rfl⟩
   have hmm : (m : Int) ≤ 9223372036854775807 := by have := HQl.out rs[k] (List.getElem_mem hkr); unfold maxLen at this; omega
   rw [← hm] at hc
   have HMm := qh hm
   generalize rs[k].a = qa at *
   generalize rs[k].c = qc at *
   clear hm
   by_cases hmb : m ≤ 20
   ·have hm' : ¬ (20 : Int) < (m : Int) := by omega
    have HL2 : Hid (∀ q ∈ rs.take (k + 1), q.l.length ≤ 20) := qh (by
     rw [HT.out]
     intro q hq
     rcases List.mem_append.1 hq with hq | hq
     ·exact HL.out q hq
     ·rw [List.mem_singleton.1 hq, ← HMm.out]; exact hmb)
    clear hmb HMm HT hkr
    go_wp2_with fail
    go_roundw
    case rel => exact ⟨k + 1, by omega, by go_num, HL2, trivial⟩
    case measure => simp [intOf]; omega
   ·have hm' : (20 : Int) < (m : Int) := by omega
    clear hmb HMm HT hkr
    go_wp2_with fail
    go_ret
    exact ⟨false, rfl, (fun e => by cases e), HP.out⟩
  ·have hki : ¬ (k : Int) < (n2 : Int) := by omega
   have HL2 : Hid (∀ q ∈ rs, q.l.length ≤ 20) := qh (by
    have h := HL.out
    rwa [List.take_of_length_le (by rw [← HNr.out]; omega)] at h)
   clear HL
   go_wp2_with fail
   go_ret
   exact ⟨true, rfl, (fun _ => HF.out HL2.out), HP.out⟩
theorem open_rws_cells {H : Type} {enc : TypeId × Value → H} {W : World} {held : Bool} {F : Nat} {cs : List Value} {y : DataW H × List MemPlace} (hy : DataW.trod enc Tryz.prog W 0 (fun _ => true) held F 26 cs = some y) :
 ∃ (a : Option Addr) (c : Nat) (rs : List CRow), cs = [.slice a rs.length c] ∧ Rws W a rs ∧ rs.length ≤ c ∧ c ≤ maxLen ∧ (a = none → c = 0) ∧ (∀ q ∈ rs, q.ok W) ∧ ∀ q ∈ rs, q.c ≤ maxLen := by
 have s1 : Tryz.prog.cellsOf 25 = 1 := by kernel_rfl
 obtain ⟨a', c', rows, hcs, hl, hm, hn, hq, hrow⟩ := open_rows2 (size := 1) (Q := fun cs (q : CRow) => cs = [q.v] ∧ q.ok W ∧ (∀ x ∈ q.l, (Lit.int .i64 x).wf = true) ∧ q.c ≤ maxLen) Tryz.underlying26 s1 (by decide) (fun n' cs y hn' hy hlen => by
  obtain ⟨qa, qc, l, hcs, h1, h2, h3, h4, h5⟩ := open_ints_wf hy
  exact ⟨⟨qa, qc, l⟩, hcs, ⟨h1, h4, h2⟩, h5, h3⟩) hy
 have hall : ∀ q ∈ rows.map (·.2), q.ok W ∧ (∀ x ∈ q.l, (Lit.int .i64 x).wf = true) ∧ q.c ≤ maxLen := fun q hqm => by
  obtain ⟨r, hr, rfl⟩ := List.mem_map.1 hqm
  exact (hq r hr).2.2
 refine ⟨a', c', rows.map (·.2), by rw [List.length_map]; exact hcs, ⟨rows_flatV (fun r hr => (hq r hr).2.1) hrow, fun q hqm => (hall q hqm).1.1⟩, by simpa using hl, hm, hn, fun q hqm => (hall q hqm).1, fun q hqm => (hall q hqm).2.2⟩
theorem open_parts {H : Type} {enc : TypeId × Value → H} {W : World} {v : Value} {d : DataW H} {p : List MemPlace} {base : Nat}
 (hv : Value.okWide Tryz.prog W .any base 28 v) (h : DataW.Trod enc Tryz.prog W 0 (fun _ => true) true 28 v d p) :
 ∃ (P : PartsP) (a0 a1 a2 a3 a4 : Option Addr) (n0 n1 n2 n3 n4 c0 c1 c2 c3 c4 : Nat), v = .agg #[.slice a0 n0 c0, .slice a1 n1 c1, .slice a2 n2 c2, .slice a3 n3 c3, .slice a4 n4 c4] ∧
   PAt P (.slice a0 n0 c0) (.slice a1 n1 c1) (.slice a2 n2 c2) (.slice a3 n3 c3) (.slice a4 n4 c4) W ∧ (n0 ≤ maxLen ∧ n1 ≤ maxLen ∧ n2 ≤ maxLen ∧ n3 ≤ maxLen ∧ n4 ≤ maxLen) ∧ ∀ r ∈ P.own, r.length ≤ maxLen := by
 obtain ⟨cs, rfl, hcs⟩ := okWide_struct Tryz.underlying28 hv
 have s5 : Tryz.prog.cellsOf 28 = 5 := by kernel_rfl
 have s1 : Tryz.prog.cellsOf 25 = 1 := by kernel_rfl
 have s2 : Tryz.prog.cellsOf 26 = 1 := by kernel_rfl
 rw [s5] at hcs
 obtain ⟨l, rfl⟩ : ∃ l : List Value, cs = l.toArray := ⟨cs.toList, by simp⟩
 simp only [List.size_toArray] at hcs
 match l, hcs with
 | [z0, z1, z2, z3, z4], _ =>
   obtain ⟨fuel, hf⟩ := h
   obtain ⟨xs, n, _, hx, _, hlen, hfs⟩ := DataW.trod_struct Tryz.underlying28 hf
   have h0 := hfs 0 _ rfl
   have h1 := hfs 1 _ rfl
   have h2 := hfs 2 _ rfl
   have h3 := hfs 3 _ rfl
   have h4 := hfs 4 _ rfl
   simp only [Value.cells, s1, s2, List.drop, List.take] at h0 h1 h2 h3 h4
   match xs, hlen with
   | [y0, y1, y2, y3, y4], _ =>
     simp only [List.getElem?_cons_zero, List.getElem?_cons_succ] at h0 h1 h2 h3 h4
     obtain ⟨a0, c0, l0, e0, p0, p1, p2, p3, p4⟩ := open_ints_wf h0
     obtain ⟨a1, c1, l1, e1, q0, q1, q2, q3, q4⟩ := open_ints_wf h1
     obtain ⟨a3, c3, l3, e3, s0', s1', s2', s3', s4'⟩ := open_ints_wf h3
     obtain ⟨a4, c4, l4, e4, t0, t1, t2, t3, t4⟩ := open_ints_wf h4
     obtain ⟨a2, c2, rs, e2, r0, r1, r2, r3, r4, r5⟩ := open_rws_cells h2
     cases e0
     cases e1
     cases e2
     cases e3
     cases e4
     refine ⟨⟨l0, l1, lsR rs, l3, l4⟩, a0, a1, a2, a3, a4, l0.length, l1.length, rs.length, l3.length, l4.length, c0, c1, c2, c3, c4, rfl, ⟨⟨a0, c0, l0⟩, ⟨a1, c1, l1⟩, ⟨a3, c3, l3⟩, ⟨a4, c4, l4⟩, a2, c2, rs, ⟨rfl, rfl, rfl, rfl, rfl, ⟨p0, p3, p1⟩, ⟨q0, q3, q1⟩, r0, ⟨r3, r1⟩, r4, ⟨s0', s3', s1'⟩, ⟨t0, t3, t1⟩⟩, rfl, rfl, rfl, rfl, rfl⟩, ?_, fun r hr => ?_⟩
     ·exact ⟨Nat.le_trans p1 p2, Nat.le_trans q1 q2, Nat.le_trans r1 r2, Nat.le_trans s1' s2', Nat.le_trans t1 t2⟩
     ·obtain ⟨q, hq, rfl⟩ := List.mem_map.1 hr
      exact Nat.le_trans (r4 q hq).2.2 (r5 q hq)
