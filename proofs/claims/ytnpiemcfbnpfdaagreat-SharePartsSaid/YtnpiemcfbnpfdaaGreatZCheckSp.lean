import Derived.Test.YtnpiemcfbnpfdaaGreatObjsESp
import Derived.Test.YtnpiemcfbnpfdaaGreatCmpSp
import Derived.Test.YtnpiemcfbnpfdaaGreatGetSp
import Derived.Test.YtnpiemcfbnpfdaaGreatSqSp
set_option linter.unusedVariables false
set_option linter.unusedSimpArgs false
set_option maxRecDepth 100000
namespace Go.Proofs.YtnpiemcfbnpfdaaGreat
open Go.RowKit
theorem optI_some (f : Option Nat) : f.isSome = decide (0 ≤ optI f) := by
 cases f with
 | none => rfl
 | some i => exact (decide_eq_true (Int.natCast_nonneg i)).symm
set_option maxHeartbeats 4000000 in
theorem rfcheck_any (d : Nat) (o : Ob) (cs : List Value) (w : World) (h : Lies w (d + 1) o.v cs) (hsz : o.v.size ≤ 100000) (hds : o.data.size ≤ maxLen) :
 Calls Tryz.prog 36 #[.agg (cs ++ [Value.bool o.st, Value.string o.data]).toArray] w (IntTo (obE o) w) := by
 have hl : o.v.l.length ≤ 1000000 := by have := V.len_size o.v; omega
 have HC := qh (fun W (hP : Pure w W) => refcheck_any (d + 1) o.v cs W (h.pure hP) hsz);have HH := qh (fun key W (hP : Pure w W) => reffind_any d o.v cs key W (h.pure hP) hl);rw [obE_eq, ← k_length, ← k_filter, ← k_parms];have H1 := qh (HH.out ⟨#[76, 101, 110, 103, 116, 104]⟩);have H2 := qh (HH.out ⟨#[70, 105, 108, 116, 101, 114]⟩);have H3 := qh (HH.out ⟨#[68, 101, 99, 111, 100, 101, 80, 97, 114, 109, 115]⟩);clear HH;rw [optI_some, optI_some, optI_some];generalize optI (o.v.find ⟨#[76, 101, 110, 103, 116, 104]⟩) = A at *;generalize optI (o.v.find ⟨#[70, 105, 108, 116, 101, 114]⟩) = B at *;generalize optI (o.v.find ⟨#[68, 101, 99, 111, 100, 101, 80, 97, 114, 109, 115]⟩) = C at *;obtain ⟨a, c, rows, hcs, _⟩ := h.kids;rw [hcs] at HC H1 H2 H3 ⊢;generalize o.v.checkE = E at *;clear hcs h hl hsz;generalize o.v.l.length = m at *;generalize o.v.kind = vk at *;generalize o.v.n = vn at *;generalize o.v.s = vs at *;generalize o.st = st at *;generalize o.data = dt at *;obtain ⟨F, hF⟩ : ∃ z, z = obF E st dt.size vk (decide (0 ≤ A)) (decide (0 ≤ B)) (decide (0 ≤ C)) := ⟨_, rfl⟩;rw [← hF];have HF := qh hF;unfold maxLen at hds;simp only [List.cons_append, List.nil_append] at HC H1 H2 H3 ⊢;clear hF
 go_enter Tryz.func36, Tryz.ntmps36
 go_wp2_with fail
 refine (HC.out _ (ext_alloc w _)).mono ?_;rintro e w2 ⟨rfl, hP⟩;have hB := BlockIs.new w [.int .i64 vk, .int .i64 vn, .string vs, .slice a m c, .bool st, .string dt] 50;have hB := hB.ext hP id;have hlt : w.heap.size < w2.heap.size := hB.lt;have HP := qh ((ext_alloc w _).pure hP);have HB := qh hB;have c0 : w2.cell? ⟨w.heap.size, 0, none⟩ = some (.int .i64 vk) := hB.cell 0;have c1 : w2.cell? ⟨w.heap.size, 1, none⟩ = some (.int .i64 vn) := hB.cell 1;have c2 : w2.cell? ⟨w.heap.size, 2, none⟩ = some (.string vs) := hB.cell 2;have c3 : w2.cell? ⟨w.heap.size, 3, none⟩ = some (.slice a m c) := hB.cell 3;have c4 : w2.cell? ⟨w.heap.size, 4, none⟩ = some (.bool st) := hB.cell 4;have c5 : w2.cell? ⟨w.heap.size, 5, none⟩ = some (.string dt) := hB.cell 5;clear hP hB HC
 by_cases hE : E = 0
 ·subst hE
  cases st with
  | false =>
    by_cases hz : dt.size = 0
    ·have hd1 : dt.toList = [] := empty_size.2 hz
     have HFr : Hid (F = 0) := qh (by rw [HF.out]; unfold obF; simp [hz]);have hbi : ¬ (16777216 : Int) < (dt.size : Int) := by omega
     have hz1 : (dt.size : Int) = 0 := by omega
     clear hz
     go_wp2_with fail
     go_ret;exact ⟨by rw [HFr.out]; rfl, HP.out⟩
    ·have hd1 : ¬ dt.toList = [] := fun e => hz (empty_size.1 e)
     have hd2 : (!dt.toList.isEmpty) = true := by simpa using hd1
     have hd3 : dt.toList.isEmpty = false := by simpa using hd1
     have HFr : Hid (F = 2) := qh (by rw [HF.out]; unfold obF; simp [hz]);clear hz
     go_wp2_with fail
     go_ret;exact ⟨by rw [HFr.out]; rfl, HP.out⟩
  | true =>
    by_cases h7 : vk = 7
    ·subst h7
     go_wp2_with fail
     refine (H1.out w2 HP.out).mono ?_;rintro e w3 ⟨rfl, hP⟩;have hB := HB.out.ext hP id;have hlt : w.heap.size < w3.heap.size := hB.lt;have HP2 := qh (HP.out.pure hP);have HB2 := qh hB;clear HP HB c0 c1 c2 c3 c4 c5;have HP := HP2;have HB := HB2;have c0 : w3.cell? ⟨w.heap.size, 0, none⟩ = some (.int .i64 7) := hB.cell 0;have c1 : w3.cell? ⟨w.heap.size, 1, none⟩ = some (.int .i64 vn) := hB.cell 1;have c2 : w3.cell? ⟨w.heap.size, 2, none⟩ = some (.string vs) := hB.cell 2;have c3 : w3.cell? ⟨w.heap.size, 3, none⟩ = some (.slice a m c) := hB.cell 3;have c4 : w3.cell? ⟨w.heap.size, 4, none⟩ = some (.bool true) := hB.cell 4;have c5 : w3.cell? ⟨w.heap.size, 5, none⟩ = some (.string dt) := hB.cell 5;clear hP hB HP2 HB2 H1
     by_cases hA : 0 ≤ A
     ·have HFr : Hid (F = 2) := qh (by rw [HF.out]; unfold obF; simp [hA])
      have hAb : decide (0 ≤ A) = true := decide_eq_true hA
      go_wp2_with fail
      go_ret;exact ⟨by rw [HFr.out]; rfl, HP.out⟩
     ·have hAb : decide (0 ≤ A) = false := decide_eq_false hA
      go_wp2_with fail
      refine (H2.out w3 HP.out).mono ?_;rintro e w4 ⟨rfl, hP⟩;have hB := HB.out.ext hP id;have hlt : w.heap.size < w4.heap.size := hB.lt;have HP2 := qh (HP.out.pure hP);have HB2 := qh hB;clear HP HB c0 c1 c2 c3 c4 c5;have HP := HP2;have HB := HB2;have c0 : w4.cell? ⟨w.heap.size, 0, none⟩ = some (.int .i64 7) := hB.cell 0;have c1 : w4.cell? ⟨w.heap.size, 1, none⟩ = some (.int .i64 vn) := hB.cell 1;have c2 : w4.cell? ⟨w.heap.size, 2, none⟩ = some (.string vs) := hB.cell 2;have c3 : w4.cell? ⟨w.heap.size, 3, none⟩ = some (.slice a m c) := hB.cell 3;have c4 : w4.cell? ⟨w.heap.size, 4, none⟩ = some (.bool true) := hB.cell 4;have c5 : w4.cell? ⟨w.heap.size, 5, none⟩ = some (.string dt) := hB.cell 5;clear hP hB HP2 HB2 H2
      by_cases hB2 : 0 ≤ B
      ·have HFr : Hid (F = 2) := qh (by rw [HF.out]; unfold obF; simp [hB2])
       have hBb : decide (0 ≤ B) = true := decide_eq_true hB2
       go_wp2_with fail
       go_ret;exact ⟨by rw [HFr.out]; rfl, HP.out⟩
      ·have hBb : decide (0 ≤ B) = false := decide_eq_false hB2
       go_wp2_with fail
       refine (H3.out w4 HP.out).mono ?_;rintro e w5 ⟨rfl, hP⟩;have hB := HB.out.ext hP id;have hlt : w.heap.size < w5.heap.size := hB.lt;have HP2 := qh (HP.out.pure hP);have HB2 := qh hB;clear HP HB c0 c1 c2 c3 c4 c5;have HP := HP2;have HB := HB2;have c0 : w5.cell? ⟨w.heap.size, 0, none⟩ = some (.int .i64 7) := hB.cell 0;have c1 : w5.cell? ⟨w.heap.size, 1, none⟩ = some (.int .i64 vn) := hB.cell 1;have c2 : w5.cell? ⟨w.heap.size, 2, none⟩ = some (.string vs) := hB.cell 2;have c3 : w5.cell? ⟨w.heap.size, 3, none⟩ = some (.slice a m c) := hB.cell 3;have c4 : w5.cell? ⟨w.heap.size, 4, none⟩ = some (.bool true) := hB.cell 4;have c5 : w5.cell? ⟨w.heap.size, 5, none⟩ = some (.string dt) := hB.cell 5;clear hP hB HP2 HB2 H3
       by_cases hC : 0 ≤ C
       ·have HFr : Hid (F = 2) := qh (by rw [HF.out]; unfold obF; simp [hC])
        have hCb : decide (0 ≤ C) = true := decide_eq_true hC
        go_wp2_with fail
        go_ret;exact ⟨by rw [HFr.out]; rfl, HP.out⟩
       ·have hCb : decide (0 ≤ C) = false := decide_eq_false hC
        have HFr : Hid (F = if 16777216 < dt.size then 3 else 0) := qh (by rw [HF.out]; unfold obF; rw [hAb, hBb, hCb]; simp)
        by_cases hbig : 16777216 < dt.size
        ·have hbi : (16777216 : Int) < (dt.size : Int) := by omega
         have HFq : Hid (F = 3) := qh (by rw [HFr.out, if_pos hbig]);clear hbig
         go_wp2_with fail
         go_ret;exact ⟨by rw [HFq.out]; rfl, HP.out⟩
        ·have hbi : ¬ (16777216 : Int) < (dt.size : Int) := by omega
         have HFq : Hid (F = 0) := qh (by rw [HFr.out, if_neg hbig]);clear hbig
         go_wp2_with fail
         go_ret;exact ⟨by rw [HFq.out]; rfl, HP.out⟩
    ·have h7b : (vk != 7) = true := by simpa using h7
     have HFr : Hid (F = 2) := qh (by rw [HF.out]; unfold obF; simp [h7])
     go_wp2_with fail
     go_ret;exact ⟨by rw [HFr.out]; rfl, HP.out⟩
 ·have HFr : Hid (F = E) := qh (by rw [HF.out]; exact if_pos hE)
  have hE2 : (E != 0) = true := by simpa using hE
  go_wp2_with fail
  go_ret;exact ⟨by rw [HFr.out]; rfl, HP.out⟩
