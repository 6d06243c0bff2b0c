/-
  CheckNumbers: whether a Doc whose objects may be, and whose references all lead to objects, may be written does not hang on how its objects are numbered. No condition.
-/
import Derived.Test.YtkkmppalifjgnaaWorks23
import Derived.Test.YtkkmppalifjgnaaZCheck
import Derived.Test.YtkkmppalifjgnaaOpenS
import Derived.Test.YtkkmppalifjgnaaOpenB
import Derived.Test.YtkkmppalifjgnaaNumRow
import Derived.OwnWalk
import Derived.Deep.OwnRows
namespace Go.Proofs.Ytkkmppalifjgnaa.checkNumbers
open Go.ChangeShapes Go.WideShapes Go.ChangeAt Go.RowKit Go.Proofs.Ytkkmppalifjgnaa
set_option linter.unusedVariables false
set_option linter.unusedSimpArgs false

theorem size_doc : (Try.prog.info? 24).map (·.size) = some 2 := by kernel_rfl
theorem exec_load2 {oi : Oper} {ev : Operand → Value} {w : World} {x : Operand} {b : Nat} {cs : List Value} {T : TypeId} (ho : oi.op = .load 24 x) (hx : ev x = .pointer (some ⟨b, 0, none⟩)) (hB : BlockIs w b cs T) (hl : (Try.prog.info? 24).map (·.size) = some cs.length) :
    (execOp ev oi).run Try.prog w = .ok (.value (.agg cs.toArray)) w := by
  unfold execOp
  simp only [ho, hx, Instr.loadAt, Instr.sureAddr, Sem.run_bind, Sem.run_pure, Result.andThen_ok, run_loadVar_mid w b 0 24 cs _ hB.range Try.underlying24 rfl hl]
theorem exec_load6 {oi : Oper} {ev : Operand → Value} {w : World} {x : Operand} {b : Nat} {cs : List Value} {T : TypeId} (ho : oi.op = .load 43 x) (hx : ev x = .pointer (some ⟨b, 0, none⟩)) (hB : BlockIs w b cs T) (hl : (Try.prog.info? 43).map (·.size) = some cs.length) :
    (execOp ev oi).run Try.prog w = .ok (.value (.agg cs.toArray)) w := by
  unfold execOp
  simp only [ho, hx, Instr.loadAt, Instr.sureAddr, Sem.run_bind, Sem.run_pure, Result.andThen_ok, run_loadVar_mid w b 0 43 cs _ hB.range Try.underlying43 rfl hl]
theorem one_doc (a : Option Addr) (m c : Nat) (r : Int) : ((#[Value.slice a m c, .int .i64 r] : Array Value).all fun u => u.oneCell') = true := all_oneCell_toArray (by intro u hu; simp only [List.mem_cons, List.not_mem_nil, or_false] at hu; rcases hu with rfl | rfl <;> rfl)
theorem one_ob {a b c d : Value} {st : Bool} {dt : ByteArray} (h : ((#[a, b, c, d] : Array Value).all fun u => u.oneCell') = true) : ((#[a, b, c, d, .bool st, .string dt] : Array Value).all fun u => u.oneCell') = true := by
  refine all_oneCell_toArray (cs := [a, b, c, d, .bool st, .string dt]) fun u hu => ?_
  have h2 := Array.all_eq_true_iff_forall_mem.1 h
  simp only [List.mem_cons, List.not_mem_nil, or_false] at hu
  rcases hu with rfl | rfl | rfl | rfl | rfl | rfl
  · exact h2 _ (by simp)
  · exact h2 _ (by simp)
  · exact h2 _ (by simp)
  · exact h2 _ (by simp)
  · rfl
  · rfl
/-- of the objects each may be, and leads to objects -/
def Good (n : Nat) (l : List Ob) : Prop := ∀ o ∈ l, obE o = 0 ∧ ∀ x ∈ o.v.more [], 1 ≤ x ∧ x ≤ (n : Int)
theorem Good.snoc {n : Nat} {l : List Ob} {k : Nat} {u : Ob} (h : Good n (l.take k)) (hu : l[k]? = some u) (h0 : obE u = 0) (h1 : ∀ x ∈ u.v.more [], 1 ≤ x ∧ x ≤ (n : Int)) : Good n (l.take (k + 1)) := by
  obtain ⟨hk, rfl⟩ := List.getElem?_eq_some_iff.1 hu
  rw [List.take_succ_eq_append_getElem hk]
  intro o ho
  rcases List.mem_append.1 ho with ho | ho
  · exact h o ho
  · rw [List.mem_singleton] at ho
    subst ho
    exact ⟨h0, h1⟩
theorem in_snoc {n : Nat} {M : List Int} {j : Nat} {y : Int} (hj : j < M.length) (hy : M[j] = y) (h : ∀ x ∈ M.take j, 1 ≤ x ∧ x ≤ (n : Int)) (h1 : 1 ≤ y ∧ y ≤ (n : Int)) : ∀ x ∈ M.take (j + 1), 1 ≤ x ∧ x ≤ (n : Int) := by
  rw [List.take_succ_eq_append_getElem hj, hy]
  intro x hx
  rcases List.mem_append.1 hx with hx | hx
  · exact h x hx
  · rw [List.mem_singleton] at hx
    subst hx
    exact h1
theorem rep_ints (n : Nat) (T : TypeId) (w : World) : w.alloc (.cells (madeCells #[.int .i64 0] n) T) = w.alloc (.cells (intsV (List.replicate n 0)).toArray T) := by
  refine congrArg (fun c => w.alloc (.cells c T)) ?_
  apply Array.ext'
  apply List.ext_getElem?
  intro j
  by_cases hj : j < n
  · simp [madeCells, intsV, hj, Nat.mod_one]
  · rw [List.getElem?_eq_none (by simp [madeCells]; omega), List.getElem?_eq_none (by simp [intsV]; omega)]
set_option maxHeartbeats 8000000 in
set_option maxRecDepth 100000 in
theorem walk (F0 : Nat) (objs : List Ob) (oa : Option Addr) (oc : Nat) (rows : List (List Value)) (root : Int) (ua : Option Addr) (uc : Nat) (us : List Int) (w : World)
    (hOK : OKids w F0 objs oa rows) (hoc : objs.length ≤ oc) (hcm : oc ≤ maxLen) (hwf : ∀ u ∈ objs, u.data.size ≤ maxLen ∧ u.v.wf) (hr : (Lit.int .i64 root).wf = true)
    (hu : RowOf w ua (us.map fun x => Value.int .u8 x)) (hul : us.length ≤ maxLen) (hub : ∀ x ∈ us, 0 ≤ x ∧ x ≤ 255) :
    Calls Try.prog 5 #[.agg #[.slice oa objs.length oc, .int .i64 root], .slice ua us.length uc] w fun e w' => e = .returned (.bool true) ∧ Below w.heap.size w w' := by
  have HFw := Lib.hid (fun W (hP : Pure w W) => fewo_any F0 objs oa oc rows 80 W (hOK.pure hP) hoc hcm)
  have HDoc := Lib.hid (fun (hf : fewO objs 80 = true) => few_docok hOK hwf hr hf)
  have HDs := Lib.hid (fun u hu => (hwf u hu).1)
  have HLen := Lib.hid (fun (hf : fewO objs 80 = true) => (fewO_in hf).1)
  obtain ⟨n, hn⟩ : ∃ z, z = objs.length := ⟨_, rfl⟩
  obtain ⟨un, hun⟩ : ∃ z, z = us.length := ⟨_, rfl⟩
  obtain ⟨fw, hfw⟩ : ∃ z, z = fewO objs 80 := ⟨_, rfl⟩
  rw [← hn, ← hfw] at HFw
  rw [← hn, ← hfw] at HLen
  rw [← hfw] at HDoc
  rw [← hn, ← hun]
  have HN := Lib.hid hn
  have HUn := Lib.hid hun
  have HU := Lib.hid hu
  have HUb := Lib.hid hub
  have HR := Lib.hid hr
  have hun0 : un ≤ maxLen := by rw [hun]; exact hul
  have hnm : n ≤ maxLen := by omega
  unfold maxLen at hun0 hnm
  clear hOK hwf hn hfw hoc hcm hr hu hul hub hun
  obtain ⟨wo, hwo⟩ : ∃ z, z = w.alloc (.cells #[.slice oa n oc, .int .i64 root] 24) := ⟨_, rfl⟩
  obtain ⟨tb, htb⟩ : ∃ z, z = w.heap.size := ⟨_, rfl⟩
  have HPwo : Hid (Pure w wo) := Lib.hid (by rw [hwo]; exact ext_alloc w _)
  have HBd : Hid (BlockIs wo tb [.slice oa n oc, .int .i64 root] 24) := Lib.hid (by rw [hwo, htb]; exact BlockIs.new w [.slice oa n oc, .int .i64 root] 24)
  have HWo : Hid (w.alloc (.cells #[.slice oa n oc, .int .i64 root] 24) = wo) := Lib.hid hwo.symm
  have HTb := Lib.hid htb
  have SZ24 : Hid ((Try.prog.info? 24).map (·.size) = some [Value.slice oa n oc, .int .i64 root].length) := Lib.hid size_doc
  have d0 : wo.cell? ⟨tb, 0, none⟩ = some (.slice oa n oc) := HBd.out.cell 0
  have d1 : wo.cell? ⟨tb, 1, none⟩ = some (.int .i64 root) := HBd.out.cell 1
  clear hwo htb
  go_enter Try.func5, Try.ntmps5
  go_upto_region 1 with (fail)
  rw [HWo.out, ← HTb.out]
  go_upto_region 2 with (fail)
  go_cut [38] (fun x W => x = .bool (!(fw && decide (un ≤ 100) && decide (1 ≤ root) && decide (root ≤ n))) ∧ Hid (Pure wo W))
  case first =>
    cases fw with
    | false =>
      go_wp2_with fail
      refine (HFw.out wo HPwo.out).mono ?_
      rintro e wf ⟨rfl, hPf⟩
      have HPf := Lib.hid hPf
      clear hPf
      go_wp2_with fail
      go_meet
      exact ⟨rfl, HPf⟩
    | true =>
      go_wp2_with fail
      refine (HFw.out wo HPwo.out).mono ?_
      rintro e wf ⟨rfl, hPf⟩
      have HPf := Lib.hid hPf
      have e1 : wf.cell? ⟨tb, 1, none⟩ = some (.int .i64 root) := (HBd.out.ext hPf id).cell 1
      clear hPf d0 d1
      by_cases hA : un ≤ 100
      · have hAi : ¬ (100 : Int) < (un : Int) := by omega
        by_cases hB : 1 ≤ root
        · have hBi : ¬ root < 1 := by omega
          by_cases hC : root ≤ n
          · have hCi : ¬ (n : Int) < root := by omega
            have HV : Hid ((!(true && decide (un ≤ 100) && decide (1 ≤ root) && decide (root ≤ (n : Int)))) = false) := Lib.hid (by simp [hA, hB, hC])
            clear hA hB hC
            go_wp2_with fail
            go_meet
            exact ⟨by rw [HV.out] <;> first | rfl | (simp; omega), HPf⟩
          · have hCi : (n : Int) < root := by omega
            have HV : Hid ((!(true && decide (un ≤ 100) && decide (1 ≤ root) && decide (root ≤ (n : Int)))) = true) := Lib.hid (by simp [hC])
            clear hA hB hC
            go_wp2_with fail
            go_meet
            exact ⟨by rw [HV.out] <;> first | rfl | (simp; omega), HPf⟩
        · have hBi : root < 1 := by omega
          have HV : Hid ((!(true && decide (un ≤ 100) && decide (1 ≤ root) && decide (root ≤ (n : Int)))) = true) := Lib.hid (by simp [hB])
          clear hA hB
          go_wp2_with fail
          go_meet
          exact ⟨by rw [HV.out] <;> first | rfl | (simp; omega), HPf⟩
      · have hAi : (100 : Int) < (un : Int) := by omega
        have HV : Hid ((!(true && decide (un ≤ 100) && decide (1 ≤ root) && decide (root ≤ (n : Int)))) = true) := Lib.hid (by simp [hA])
        clear hA
        go_wp2_with fail
        go_meet
        exact ⟨by rw [HV.out] <;> first | rfl | (simp; omega), HPf⟩
  case rest =>
    obtain ⟨rfl, HPc⟩ := hcut
    obtain ⟨wa, rfl⟩ : ∃ z : World, z = wc := ⟨_, rfl⟩
    clear d0 d1
    by_cases hgo : fw = true ∧ un ≤ 100 ∧ 1 ≤ root ∧ root ≤ n
    · obtain ⟨rfl, hA, hB, hC⟩ := hgo
      have HV : Hid ((!(true && decide (un ≤ 100) && decide (1 ≤ root) && decide (root ≤ (n : Int)))) = false) := Lib.hid (by simp [hA, hB, hC])
      rw [HV.out]
      have HD := Lib.hid (HDoc.out rfl)
      have hn80 : n ≤ 80 := HLen.out rfl
      have HRi := Lib.hid (And.intro hB hC)
      have hn1 : 1 ≤ n := by omega
      clear HV hnm hun0 HFw HDoc HLen hB hC
      obtain ⟨i, hi, hz, hsize, hby⟩ := info_parts infoI
      have HI := Lib.hid hi
      have HZ := Lib.hid hz
      have HSi := Lib.hid hsize
      have HBy : Hid (i.bytes * n ≤ 281474976710656) := Lib.hid (by rw [hby]; omega)
      have HMx : Hid (n ≤ 9223372036854775807) := Lib.hid (by omega)
      clear hi hz hsize hby
      obtain ⟨W1, hW1⟩ : ∃ z, z = wa.alloc (.cells (intsV (List.replicate n 0)).toArray 3) := ⟨_, rfl⟩
      obtain ⟨tk, htk⟩ : ∃ z, z = wa.heap.size := ⟨_, rfl⟩
      have HW1 : Hid (wa.alloc (.cells (madeCells #[.int .i64 0] n) 3) = W1) := Lib.hid (by rw [hW1]; exact rep_ints n _ wa)
      have HTk := Lib.hid htk
      have HB1 : Hid (BlockIs W1 tk (intsV (List.replicate n 0)) 3) := Lib.hid (by rw [hW1, htk]; exact BlockIs.new wa _ _)
      have HPa : Hid (Pure wo wa) := HPc
      have HP1 : Hid (Pure wo W1) := Lib.hid (HPa.out.pure (hW1 ▸ ext_alloc wa _))
      have HLtk : Hid (wo.heap.size ≤ tk) := Lib.hid (by rw [htk]; exact HPa.out.size)
      clear hW1 htk HPc
      go_wp2_with (refine wpList_make_row _ rfl (.tmp 40) (.tmp 40) 25 rfl 3 i (.int .i64 0) Try.underlying25 HI.out HZ.out HSi.out rfl .i64 .i64 n rfl rfl HBy.out HMx.out ?_; rw [HW1.out, ← HTk.out])
      go_loopw [7] (fun x wr => ∃ (k : Nat) (L : List Int), k ≤ n ∧ x = .int .i64 k ∧ Hid (L.length = n ∧ ∀ j, j < k → L[j]? = some ((j : Int) + 1)) ∧ Hid (BlockIs wr tk (intsV L) 3) ∧ Hid (Good n (objs.take k)) ∧ Hid (Pure wo wr)) (fun x _ => n - (intOf x).toNat)
      case atStart => exact ⟨0, List.replicate n 0, Nat.zero_le _, rfl, Lib.hid ⟨by simp, fun j hj => by omega⟩, HB1, Lib.hid (fun o ho => by simp at ho), HP1⟩
      case round =>
        obtain ⟨k, L, hk, rfl, HL, HB, HG, HE⟩ := hrel
        by_cases hlt : k < n
        · have hki : (k : Int) < (n : Int) := by omega
          have hk0 : (0 : Int) ≤ (k : Int) := by omega
          obtain ⟨y, hy⟩ : ∃ y, L[k]? = some y := ⟨_, List.getElem?_eq_getElem (by rw [HL.out.1]; exact hlt)⟩
          have c0 : wr.cell? ⟨tk, k, none⟩ = some (.int .i64 y) := by rw [HB.out.cell, intsV, List.getElem?_map, hy]; rfl
          have z0 : wr.frozen? ⟨tk, k, none⟩ = false := HB.out.free k
          clear hy
          obtain ⟨W2, hW2⟩ : ∃ z, z = wr.setCell ⟨tk, k, none⟩ (.int .i64 ((k : Int) + 1)) := ⟨_, rfl⟩
          have HW2 := Lib.hid hW2
          have HB2 : Hid (BlockIs W2 tk (intsV (L.set k ((k : Int) + 1))) 3) := Lib.hid (by rw [hW2, ← intsV_set]; exact HB.out.set k _)
          have HL2 : Hid ((L.set k ((k : Int) + 1)).length = n ∧ ∀ j, j < k + 1 → (L.set k ((k : Int) + 1))[j]? = some ((j : Int) + 1)) := Lib.hid ⟨by rw [List.length_set]; exact HL.out.1, fun j hj => by
            by_cases e : k = j
            · subst e; rw [List.getElem?_set_self (by rw [HL.out.1]; exact hlt)]
            · rw [List.getElem?_set_ne e]; exact HL.out.2 j (by omega)⟩
          have HE2 : Hid (Pure wo W2) := Lib.hid (by rw [hW2]; exact HE.out.setCell (p := ⟨tk, k, none⟩) (fun h => by have := HLtk.out; have h2 : tk < wo.heap.size := h; omega) _)
          obtain ⟨u, hu⟩ : ∃ u, objs[k]? = some u := ⟨_, List.getElem?_eq_getElem (by rw [← HN.out]; exact hlt)⟩
          have hum := List.mem_of_getElem? hu
          obtain ⟨b, o, cs, hoa, hr4, hl4, hL, hr0⟩ := HD.out.ok.at k u hu
          subst hoa
          have hC : Hid (∀ W, Pure w W → Calls Try.prog 12 #[.agg (cs ++ [Value.bool u.st, Value.string u.data]).toArray] W (IntTo (obE u) W)) := Lib.hid (fun W (hP : Pure w W) => rfcheck_any F0 u cs W (hL.pure hP) (HD.out.size u hum) (HDs.out u hum))
          have HRf := Lib.hid (fun W (hP : Pure w W) => refrefs_any (F0 + 1) u.v cs W (hL.pure hP) (HD.out.size u hum))
          have hPr := HPwo.out.pure HE2.out
          have hr : W2.rangeAt b (o + k * 6) (cs ++ [Value.bool u.st, Value.string u.data]) := fun j v hv => hPr.cell_some (hr0 j v hv) id
          have HPr := Lib.hid hPr
          have HR4 := Lib.hid hr4
          have hsz6 : (Try.prog.info? 43).map (·.size) = some (cs ++ [Value.bool u.st, Value.string u.data]).length := by rw [List.length_append, hl4]; exact info6
          obtain ⟨xa, xc, urows, hcs, _⟩ := hL.kids
          rw [hcs] at hC HRf hr hsz6 HR4
          have HSz := Lib.hid hsz6
          have hmz : (u.v.more []).length ≤ 100000 := Nat.le_trans (more_len u.v) (HD.out.size u hum)
          have HMz := Lib.hid hmz
          have HSn : Hid (obE u = 0 → (∀ x ∈ u.v.more [], 1 ≤ x ∧ x ≤ (n : Int)) → Good n (objs.take (k + 1))) := Lib.hid (fun h0 h1 => HG.out.snoc hu h0 h1)
          have e0 : W2.cell? ⟨tb, 0, none⟩ = some (.slice (some ⟨b, o, none⟩) n oc) := (HBd.out.ext HE2.out id).cell 0
          have HC := hC
          clear hC hcs hL hl4 hr0 hu hum hPr hsz6 hmz hr4 hW2 HB HL HG HE
          generalize u.v.l.length = um at *
          generalize u.v.kind = uk at *
          generalize u.v.n = uq at *
          generalize u.v.s = usx at *
          generalize u.st = st at *
          generalize u.data = dt at *
          obtain ⟨E0, hE⟩ : ∃ z, z = obE u := ⟨_, rfl⟩
          obtain ⟨M, hM⟩ : ∃ z, z = u.v.more [] := ⟨_, rfl⟩
          rw [← hE] at HSn HC
          rw [← hM] at HSn HRf HMz
          clear hE hM
          simp only [List.cons_append, List.nil_append] at HC HRf hr HSz
          go_upto_region 9 with (fail)
          rw [← HW2.out]
          go_wp2_with (with_reducible refine at_load 43 (.tmp 55) ?_; refine wpList_load_mid rfl 43 (.tmp 55) rfl b (o + k * 6) rfl [.int .i64 uk, .int .i64 uq, .string usx, .slice xa um xc, .bool st, .string dt] _ hr Try.underlying43 rfl HSz.out ?_)
          refine (HC.out _ HPr.out).mono ?_
          rintro e w3 ⟨rfl, hP3⟩
          have HE3 := Lib.hid (HE2.out.pure hP3)
          have HPr3 := Lib.hid (HPr.out.pure hP3)
          have HB3 := Lib.hid (HB2.out.ext hP3 id)
          have f0 : w3.cell? ⟨tb, 0, none⟩ = some (.slice (some ⟨b, o, none⟩) n oc) := (HBd.out.ext HE3.out id).cell 0
          clear hP3 HC hr HPr e0 HE2 HB2 c0 z0 HW2
          by_cases hE0 : E0 = 0
          · subst hE0
            have hr3 : w3.rangeAt b (o + k * 6) [.int .i64 uk, .int .i64 uq, .string usx, .slice xa um xc] := fun j v hv => HPr3.out.cell_some (HR4.out j v hv) id
            have HS24 : Hid ((Try.prog.info? 41).map (·.size) = some [Value.int .i64 uk, .int .i64 uq, .string usx, .slice xa um xc].length) := Lib.hid size24
            go_wp2_with (with_reducible refine at_load 41 (.tmp 64) ?_; refine wpList_load_mid rfl 41 (.tmp 64) rfl b (o + k * 6) rfl [.int .i64 uk, .int .i64 uq, .string usx, .slice xa um xc] _ hr3 Try.underlying41 rfl HS24.out ?_)
            refine (HRf.out w3 HPr3.out).mono ?_
            rintro e w4 ⟨ra, rc, rfl, _, _, _, hRow, hP4⟩
            have HE4 := Lib.hid (HE3.out.pure hP4)
            have HB4 := Lib.hid (HB3.out.ext hP4 id)
            have HRow := Lib.hid hRow
            obtain ⟨mn, hmn⟩ : ∃ z, z = M.length := ⟨_, rfl⟩
            have HMn := Lib.hid hmn
            have hmz : mn ≤ 100000 := by rw [hmn]; exact HMz.out
            rw [← hmn]
            clear hRow hP4 hmn f0 HRf hr3 HE3 HB3 HPr3
            go_wp2_with fail
            go_loopw [9] (fun x wj => ∃ j : Nat, j ≤ mn ∧ x = .int .i64 j ∧ Hid (∀ x ∈ M.take j, 1 ≤ x ∧ x ≤ (n : Int)) ∧ Hid (Pure w4 wj)) (fun x _ => mn - (intOf x).toNat)
            case atStart => exact ⟨0, Nat.zero_le _, rfl, Lib.hid (fun x hx => by simp at hx), Lib.hid (Ext.refl _ _)⟩
            case round =>
              obtain ⟨j, hj, rfl, HNj, HEj⟩ := hrel
              obtain ⟨wj, rfl⟩ : ∃ z : World, z = wr := ⟨_, rfl⟩
              have HEq := Lib.hid (HE4.out.pure HEj.out)
              by_cases hjl : j < mn
              · have hji : (j : Int) < (mn : Int) := by omega
                have hj0 : (0 : Int) ≤ (j : Int) := by omega
                have hjM : j < M.length := by rw [← HMn.out]; exact hjl
                obtain ⟨yb, yo, hra, hc⟩ := (HRow.out.ext HEj.out (fun _ _ => id)) j _ (intsV_get hjM)
                obtain ⟨q, hq⟩ : ∃ z, z = M[j] := ⟨_, rfl⟩
                rw [← hq] at hc
                have HTk2 : Hid ((1 ≤ q ∧ q ≤ (n : Int)) → ∀ x ∈ M.take (j + 1), 1 ≤ x ∧ x ≤ (n : Int)) := Lib.hid (in_snoc hjM hq.symm HNj.out)
                subst hra
                clear hq hjM
                by_cases hq1 : q < 1
                · have hqb : decide (q < 1) = true := decide_eq_true hq1
                  go_wp2_with fail
                  refine (works_any _).mono ?_
                  rintro e wz ⟨rfl, hPz⟩
                  go_wp2_with fail
                  go_ret
                  exact ⟨rfl, ((HPwo.out.pure HEq.out).pure hPz).below⟩
                · have hqb : decide (q < 1) = false := decide_eq_false hq1
                  by_cases hq2 : (n : Int) < q
                  · have hqc : decide ((n : Int) < q) = true := decide_eq_true hq2
                    go_wp2_with fail
                    refine (works_any _).mono ?_
                    rintro e wz ⟨rfl, hPz⟩
                    go_wp2_with fail
                    go_ret
                    exact ⟨rfl, ((HPwo.out.pure HEq.out).pure hPz).below⟩
                  · have hqc : decide ((n : Int) < q) = false := decide_eq_false hq2
                    go_wp2_with fail
                    go_roundw
                    case rel => exact ⟨j + 1, by omega, by go_num, Lib.hid (HTk2.out (by omega)), HEj⟩
                    case measure => simp [intOf]; omega
              · have hji : ¬ (j : Int) < (mn : Int) := by omega
                have HAll : Hid (∀ x ∈ M, 1 ≤ x ∧ x ≤ (n : Int)) := Lib.hid (by have h := HNj.out; rwa [List.take_of_length_le (by rw [← HMn.out]; omega)] at h)
                go_wp2_with fail
                go_roundw
                case rel => exact ⟨k + 1, _, by omega, by go_num, HL2, Lib.hid (HB4.out.ext HEj.out id), Lib.hid (HSn.out (by first | rfl | trivial) HAll.out), HEq⟩
                case measure => simp [intOf]; omega
          · have hE1 : (E0 != 0) = true := by simpa using hE0
            go_wp2_with fail
            refine (works_any _).mono ?_
            rintro e wz ⟨rfl, hPz⟩
            go_wp2_with fail
            go_ret
            exact ⟨rfl, ((HPr3.out).pure hPz).below⟩
        · have hki : ¬ (k : Int) < (n : Int) := by omega
          have HGood : Hid (Good n objs) := Lib.hid (by have h := HG.out; rwa [List.take_of_length_le (by rw [← HN.out]; omega)] at h)
          have HLu : Hid (L = upTo n) := Lib.hid (filled HL.out.1 (fun j hj => HL.out.2 j (by omega)))
          have HBu : Hid (BlockIs wr tk (intsV (upTo n)) 3) := Lib.hid (by have h := HB.out; rwa [HLu.out] at h)
          obtain ⟨W5, rfl⟩ : ∃ z : World, z = wr := ⟨_, rfl⟩
          clear HL HB HG HLu HB1 HP1 HW1 HI HZ HSi HBy HMx
          go_wp2_with fail
          go_loopw [10] (fun x wr => ∃ (k : Nat) (L : List Int), k ≤ un + 1 ∧ x = .int .i64 k ∧ Hid (L.length = n ∧ OneTo L) ∧ Hid (BlockIs wr tk (intsV L) 3) ∧ Hid (Pure wo wr)) (fun x _ => un + 1 - (intOf x).toNat)
          case atStart => exact ⟨0, upTo n, Nat.zero_le _, rfl, Lib.hid ⟨upTo_len n, upTo_one n⟩, HBu, HE⟩
          case round =>
            obtain ⟨k, L, hk2, rfl, HL, HB, HE2⟩ := hrel
            by_cases hlt2 : k + 1 < un
            · have hki2 : (k : Int) + 1 < (un : Int) := by omega
              have hki3 : (k : Int) < (un : Int) := by omega
              have hk0 : (0 : Int) ≤ (k : Int) := by omega
              have hk1 : (0 : Int) ≤ (k : Int) + 1 := by omega
              have hku : k < us.length := by rw [← HUn.out]; omega
              have hku1 : k + 1 < us.length := by rw [← HUn.out]; omega
              obtain ⟨xb, xo, hua, hx1⟩ := (HU.out.ext (HPwo.out.pure HE2.out) (fun _ _ => id)) k (.int .u8 us[k]) (by rw [List.getElem?_map, List.getElem?_eq_getElem hku]; rfl)
              obtain ⟨xb2, xo2, hua2, hx2⟩ := (HU.out.ext (HPwo.out.pure HE2.out) (fun _ _ => id)) (k + 1) (.int .u8 us[k + 1]) (by rw [List.getElem?_map, List.getElem?_eq_getElem hku1]; rfl)
              rw [hua] at hua2
              cases hua2
              have hb1 := HUb.out _ (List.getElem_mem hku)
              have hb2 := HUb.out _ (List.getElem_mem hku1)
              obtain ⟨p, hp⟩ : ∃ p : Nat, us[k] = (p : Int) := ⟨us[k].toNat, by omega⟩
              obtain ⟨q, hq⟩ : ∃ q : Nat, us[k + 1] = (q : Int) := ⟨us[k + 1].toNat, by omega⟩
              rw [hp] at hx1 hb1
              rw [hq] at hx2 hb2
              subst hua
              have hpn : p % n < n := Nat.mod_lt _ (by omega)
              have hqn : q % n < n := Nat.mod_lt _ (by omega)
              obtain ⟨i, hi⟩ : ∃ z, z = p % n := ⟨_, rfl⟩
              obtain ⟨j, hj⟩ : ∃ z, z = q % n := ⟨_, rfl⟩
              have ep : ((p : Int).tmod (n : Int)) = (i : Int) := by rw [hi, Int.tmod_eq_emod_of_nonneg (by omega)]; rfl
              have eq : ((q : Int).tmod (n : Int)) = (j : Int) := by rw [hj, Int.tmod_eq_emod_of_nonneg (by omega)]; rfl
              rw [← hi] at hpn
              rw [← hj] at hqn
              clear hi hj hp hq
              have hnz : ((n : Int) == 0) = false := by simp; omega
              go_wp2_with fail
              go_quiet (fail)
              have hin : (i : Int) < (n : Int) := by omega
              have hjn : (j : Int) < (n : Int) := by omega
              have hi0 : (0 : Int) ≤ (i : Int) := by omega
              have hj0 : (0 : Int) ≤ (j : Int) := by omega
              have hil : i < L.length := by rw [HL.out.1]; exact hpn
              have hjl : j < L.length := by rw [HL.out.1]; exact hqn
              have HLb0 : Hid (((L.set i L[j]).set j L[i]).length = n ∧ OneTo ((L.set i L[j]).set j L[i])) := Lib.hid ⟨by rw [List.length_set, List.length_set]; exact HL.out.1, HL.out.2.swap hil hjl⟩
              obtain ⟨xi, hxi⟩ : ∃ z, z = L[i] := ⟨_, rfl⟩
              obtain ⟨xj, hxj⟩ : ∃ z, z = L[j] := ⟨_, rfl⟩
              have HLb : Hid (((L.set i xj).set j xi).length = n ∧ OneTo ((L.set i xj).set j xi)) := Lib.hid (by rw [hxi, hxj]; exact HLb0.out)
              have HBk := Lib.hid ((HB.out.drewN nq).drew)
              have ci : ((wr.drewN nq).drew).cell? ⟨tk, i, none⟩ = some (.int .i64 xi) := by rw [HBk.out.cell, hxi]; exact intsV_get hil
              have cj : ((wr.drewN nq).drew).cell? ⟨tk, j, none⟩ = some (.int .i64 xj) := by rw [HBk.out.cell, hxj]; exact intsV_get hjl
              have zi : ((wr.drewN nq).drew).frozen? ⟨tk, i, none⟩ = false := HBk.out.free i
              obtain ⟨Wd, hWd⟩ : ∃ z, z = (wr.drewN nq).drew := ⟨_, rfl⟩
              rw [← hWd] at ci cj zi HBk
              obtain ⟨Wa, hWa⟩ : ∃ z, z = Wd.setCell ⟨tk, i, none⟩ (.int .i64 xj) := ⟨_, rfl⟩
              have HBa : Hid (BlockIs Wa tk (intsV (L.set i xj)) 3) := Lib.hid (by rw [hWa, ← intsV_set]; exact HBk.out.set i _)
              obtain ⟨yj, hyj⟩ : ∃ y, (L.set i xj)[j]? = some y := ⟨_, List.getElem?_eq_getElem (by rw [List.length_set]; exact hjl)⟩
              have cja : Wa.cell? ⟨tk, j, none⟩ = some (.int .i64 yj) := by rw [HBa.out.cell, intsV, List.getElem?_map, hyj]; rfl
              have zja : Wa.frozen? ⟨tk, j, none⟩ = false := HBa.out.free j
              obtain ⟨Wb, hWb⟩ : ∃ z, z = Wa.setCell ⟨tk, j, none⟩ (.int .i64 xi) := ⟨_, rfl⟩
              have HBb : Hid (BlockIs Wb tk (intsV ((L.set i xj).set j xi)) 3) := Lib.hid (by rw [hWb, ← intsV_set]; exact HBa.out.set j _)
              have HXa : Hid (Ext (fun b => b = tk) Wd Wa) := Lib.hid (by rw [hWa]; exact Ext.setCell (S := fun b => b = tk) (Ext.refl _ Wd) (p := ⟨tk, i, none⟩) (fun _ => rfl) _)
              have HXb : Hid (Ext (fun b => b = tk) Wa Wb) := Lib.hid (by rw [hWb]; exact Ext.setCell (S := fun b => b = tk) (Ext.refl _ Wa) (p := ⟨tk, j, none⟩) (fun _ => rfl) _)
              have HEb : Hid (Pure wo Wb) := Lib.hid ((show Pure wo Wd by rw [hWd]; exact (HE2.out.drewN nq).drew).trans (HXa.out.trans HXb.out (fun _ _ e => e)) (fun b hb e => by have := HLtk.out; omega))
              have HWd : Hid ((wr.drewN nq).drew = Wd) := Lib.hid hWd.symm
              have HWa : Hid (Wd.setCell ⟨tk, i, none⟩ (.int .i64 xj) = Wa) := Lib.hid hWa.symm
              have HWb : Hid (Wa.setCell ⟨tk, j, none⟩ (.int .i64 xi) = Wb) := Lib.hid hWb.symm
              clear hWa hWb hWd hyj hxi hxj hil hjl HLb0 hx1 hx2 ep eq
              go_wp2_with fail
              refine region_start (fun b => b = tk) (by kernel_rfl) ?_
              try simp only [Act.put, List.setIfInBounds_toArray, List.set_cons_zero, List.set_cons_succ]
              rw [HWd.out]
              refine region_take 0 109 (v := ?vsw0) rfl rfl (by kernel_rfl) (by kernel_rfl) (by kernel_rfl) (fun _ _ _ h => h) (by rfl) (fun w' hS => ?hsw0) ?rsw0
              case hsw0 => go_simp; with_reducible rfl
              try simp only [Act.put, List.setIfInBounds_toArray, List.set_cons_zero, List.set_cons_succ]
              refine region_take 1 110 (v := ?vsw1) rfl rfl (by kernel_rfl) (by kernel_rfl) (by kernel_rfl) (fun _ _ _ h => h) (by rfl) (fun w' hS => ?hsw1) ?rsw1
              case hsw1 => go_simp; with_reducible rfl
              try simp only [Act.put, List.setIfInBounds_toArray, List.set_cons_zero, List.set_cons_succ]
              refine region_take 2 111 (v := ?vsw2) rfl rfl (by kernel_rfl) (by kernel_rfl) (by kernel_rfl) (fun _ _ _ h => h) (by rfl) (fun w' hS => ?hsw2) ?rsw2
              case hsw2 => go_simp; with_reducible rfl
              try simp only [Act.put, List.setIfInBounds_toArray, List.set_cons_zero, List.set_cons_succ]
              refine region_take 3 112 (v := ?vsw3) rfl rfl (by kernel_rfl) (by kernel_rfl) (by kernel_rfl) (fun _ _ _ h => h) (by rfl) (fun w' hS => ?hsw3) ?rsw3
              case hsw3 => go_simp; with_reducible rfl
              try simp only [Act.put, List.setIfInBounds_toArray, List.set_cons_zero, List.set_cons_succ]
              refine region_take 4 113 (v := ?vsw4) rfl rfl (by kernel_rfl) (by kernel_rfl) (by kernel_rfl) (fun _ _ _ h => h) (by rfl) (fun w' hS => ?hsw4) ?rsw4
              case hsw4 => go_simp; with_reducible rfl
              try simp only [Act.put, List.setIfInBounds_toArray, List.set_cons_zero, List.set_cons_succ]
              refine region_take 5 114 (v := ?vsw5) rfl rfl (by kernel_rfl) (by kernel_rfl) (by kernel_rfl) (fun _ _ _ h => h) (by rfl) (fun w' hS => ?hsw5) ?rsw5
              case hsw5 => go_simp; with_reducible rfl
              try simp only [Act.put, List.setIfInBounds_toArray, List.set_cons_zero, List.set_cons_succ]
              refine region_take 6 115 (v := ?vsw6) rfl rfl (by kernel_rfl) (by kernel_rfl) (by kernel_rfl) (fun _ _ _ h => h) (by rfl) (fun w' hS => ?hsw6) ?rsw6
              case hsw6 => go_simp; with_reducible rfl
              try simp only [Act.put, List.setIfInBounds_toArray, List.set_cons_zero, List.set_cons_succ]
              refine region_take 8 117 (v := ?vsw8) rfl rfl (by kernel_rfl) (by kernel_rfl) (by kernel_rfl) (fun _ _ _ h => h) (by rfl) (fun w' hS => ?hsw8) ?rsw8
              case hsw8 => go_simp; with_reducible rfl
              try simp only [Act.put, List.setIfInBounds_toArray, List.set_cons_zero, List.set_cons_succ]
              refine region_take 9 118 (v := ?vsw9) rfl rfl (by kernel_rfl) (by kernel_rfl) (by kernel_rfl) (fun _ _ _ h => h) (by rfl) (fun w' hS => ?hsw9) ?rsw9
              case hsw9 => go_simp; with_reducible rfl
              try simp only [Act.put, List.setIfInBounds_toArray, List.set_cons_zero, List.set_cons_succ]
              refine region_take 10 119 (v := ?vsw10) rfl rfl (by kernel_rfl) (by kernel_rfl) (by kernel_rfl) (fun _ _ _ h => h) (by rfl) (fun w' hS => ?hsw10) ?rsw10
              case hsw10 => go_simp; with_reducible rfl
              try simp only [Act.put, List.setIfInBounds_toArray, List.set_cons_zero, List.set_cons_succ]
              refine wpAnyH_ready (rs := [7, 11]) (by kernel_rfl) (by simp) (AllReadyH.cons rfl (fun K hK => ?_) (AllReadyH.cons rfl (fun K hK => ?_) (AllReadyH.nil)))
              go_simp
              refine hK.out _ _ (Ext.refl _ _) (fun hHeld => ?_)
              clear hK K hHeld
              refine region_now (Ext.refl _ _) ?_
              try simp only [Act.put, List.setIfInBounds_toArray, List.set_cons_zero, List.set_cons_succ]
              refine wpAnyH_ready (rs := [11]) (by kernel_rfl) (by simp) (AllReadyH.cons rfl (fun K hK => ?_) AllReadyH.nil)
              go_simp
              refine hK.out _ _ (Ext.refl _ _) (fun hHeld => ?_)
              clear hK K hHeld
              refine region_now (Ext.refl _ _) ?_
              try simp only [Act.put, List.setIfInBounds_toArray, List.set_cons_zero, List.set_cons_succ]
              refine region_take 12 121 (v := ?vswq012) rfl rfl (by kernel_rfl) (by kernel_rfl) (by kernel_rfl) (fun _ _ _ h => h) (by rfl) (fun w' hS => ?hswq012) ?rswq012
              case hswq012 => go_simp; with_reducible rfl
              try simp only [Act.put, List.setIfInBounds_toArray, List.set_cons_zero, List.set_cons_succ]
              refine wpAnyH_ready (rs := [13]) (by kernel_rfl) (by simp) (AllReadyH.cons rfl (fun K hK => ?_) AllReadyH.nil)
              go_simp
              rw [HWa.out]
              refine hK.out _ _ (HXa.out) (fun hHeld => ?_)
              clear hK K hHeld
              refine region_now (HXa.out) ?_
              try simp only [Act.put, List.setIfInBounds_toArray, List.set_cons_zero, List.set_cons_succ]
              refine region_take 14 122 (v := ?vswq014) rfl rfl (by kernel_rfl) (by kernel_rfl) (by kernel_rfl) (fun _ _ _ h => h) (by rfl) (fun w' hS => ?hswq014) ?rswq014
              case hswq014 => go_simp; with_reducible rfl
              try simp only [Act.put, List.setIfInBounds_toArray, List.set_cons_zero, List.set_cons_succ]
              refine wpAnyH_ready (rs := [15]) (by kernel_rfl) (by simp) (AllReadyH.cons rfl (fun K hK => ?_) AllReadyH.nil)
              go_simp
              rw [HWb.out]
              refine hK.out _ _ (HXb.out) (fun hHeld => ?_)
              clear hK K hHeld
              refine region_now (HXb.out) ?_
              try simp only [Act.put, List.setIfInBounds_toArray, List.set_cons_zero, List.set_cons_succ]
              refine wpAnyH_done (by kernel_rfl) ?_ _
              rotate_left
              go_simp
              refine hK.out _ _ (Ext.refl _ _) (fun hHeld => ?_)
              clear hK K hHeld
              refine region_now (Ext.refl _ _) ?_
              try simp only [Act.put, List.setIfInBounds_toArray, List.set_cons_zero, List.set_cons_succ]
              refine wpAnyH_ready (rs := [7]) (by kernel_rfl) (by simp) (AllReadyH.cons rfl (fun K hK => ?_) AllReadyH.nil)
              go_simp
              refine hK.out _ _ (Ext.refl _ _) (fun hHeld => ?_)
              clear hK K hHeld
              refine region_now (Ext.refl _ _) ?_
              try simp only [Act.put, List.setIfInBounds_toArray, List.set_cons_zero, List.set_cons_succ]
              refine region_take 12 121 (v := ?vswq112) rfl rfl (by kernel_rfl) (by kernel_rfl) (by kernel_rfl) (fun _ _ _ h => h) (by rfl) (fun w' hS => ?hswq112) ?rswq112
              case hswq112 => go_simp; with_reducible rfl
              try simp only [Act.put, List.setIfInBounds_toArray, List.set_cons_zero, List.set_cons_succ]
              refine wpAnyH_ready (rs := [13]) (by kernel_rfl) (by simp) (AllReadyH.cons rfl (fun K hK => ?_) AllReadyH.nil)
              go_simp
              rw [HWa.out]
              refine hK.out _ _ (HXa.out) (fun hHeld => ?_)
              clear hK K hHeld
              refine region_now (HXa.out) ?_
              try simp only [Act.put, List.setIfInBounds_toArray, List.set_cons_zero, List.set_cons_succ]
              refine region_take 14 122 (v := ?vswq114) rfl rfl (by kernel_rfl) (by kernel_rfl) (by kernel_rfl) (fun _ _ _ h => h) (by rfl) (fun w' hS => ?hswq114) ?rswq114
              case hswq114 => go_simp; with_reducible rfl
              try simp only [Act.put, List.setIfInBounds_toArray, List.set_cons_zero, List.set_cons_succ]
              refine wpAnyH_ready (rs := [15]) (by kernel_rfl) (by simp) (AllReadyH.cons rfl (fun K hK => ?_) AllReadyH.nil)
              go_simp
              rw [HWb.out]
              refine hK.out _ _ (HXb.out) (fun hHeld => ?_)
              clear hK K hHeld
              refine region_now (HXb.out) ?_
              try simp only [Act.put, List.setIfInBounds_toArray, List.set_cons_zero, List.set_cons_succ]
              refine wpAnyH_done (by kernel_rfl) ?_ _
              rotate_left
              all_goals
                go_simp
                try simp only [Act.put, List.setIfInBounds_toArray, List.set_cons_zero, List.set_cons_succ]
                go_wp2_with fail
                go_roundw
                case rel => exact ⟨k + 2, _, by omega, by go_num, HLb, HBb, HEb⟩
                case measure => simp [intOf]; omega
            · have hki2 : ¬ (k : Int) + 1 < (un : Int) := by omega
              go_upto_region 22 with (fail)
              obtain ⟨W6, rfl⟩ : ∃ z : World, z = wr := ⟨_, rfl⟩
              have HOne : Hid (OneTo L) := Lib.hid HL.out.2
              have HLl : Hid (L.length = n) := Lib.hid HL.out.1
              have HP6 : Hid (Pure wo W6) := HE2
              have HD6 := Lib.hid (HD.out.pure (HPwo.out.pure HP6.out))
              have HRow6 : Hid (RowOf W6 (some ⟨tk, 0, none⟩) (intsV L)) := Lib.hid (fun i u hu => ⟨tk, 0, rfl, by rw [HB.out.cell, Nat.zero_add]; exact hu⟩)
              have HBd6 := Lib.hid (HBd.out.ext HP6.out id)
              have htk6 : tk < W6.heap.size := HB.out.lt
              have HBk6 := HB
              clear HL HE2 HB hki2 hlt2 hk2 HBu HE HU HUb HUn
              obtain ⟨p0, hp0⟩ : ∃ p : Nat, root = (p : Int) + 1 := ⟨(root - 1).toNat, by have := HRi.out.1; omega⟩
              have hp0n : p0 < n := by have := HRi.out.2; omega
              have hp0i : (p0 : Int) < (n : Int) := by omega
              have hp00 : (0 : Int) ≤ (p0 : Int) := by omega
              obtain ⟨rq, hrq⟩ : ∃ z, z = toG L root := ⟨_, rfl⟩
              have HRt : Hid (rq = toG L root) := Lib.hid hrq
              have HRw : Hid ((Lit.int .i64 rq).wf = true) := Lib.hid (by rw [hrq]; exact toG_wf HOne.out (by rw [HLl.out]; omega) (by rw [HLl.out]; exact HRi.out))
              have cr : ∀ W : World, Ext (fun b => W6.heap.size ≤ b) W6 W → W.cell? ⟨tk, p0, none⟩ = some (.int .i64 rq) := fun W hW => by
                rw [(HBk6.out.ext hW (by omega)).cell, hrq, hp0, toG_in (by rw [HLl.out]; exact hp0n)]
                exact intsV_get _
              have HCr := Lib.hid cr
              subst hp0
              clear cr hrq
              have hp1 : (p0 : Int) + 1 - 1 = (p0 : Int) := by omega
              have hwp0 : IntKind.i64.wrap (p0 : Int) = (p0 : Int) := by rw [IntKind.wrap_i64]; omega
              obtain ⟨oi, hoi, hoz, hosize, hoby⟩ := info_parts infoO
              have HOI := Lib.hid hoi
              have HOZ := Lib.hid hoz
              have HOS := Lib.hid hosize
              have HOB : Hid (oi.bytes * n ≤ 281474976710656) := Lib.hid (by rw [hoby]; omega)
              have HOM : Hid (n ≤ maxLen) := Lib.hid (by unfold maxLen; omega)
              clear hoi hoz hosize hoby
              go_cut [13] (fun x W => ∃ sb ob : Nat, x = .pointer (some ⟨ob, 0, none⟩) ∧ Hid (BlockIs W sb ((List.replicate n zeroRow).flatMap id) 43) ∧ Hid (BlockIs W ob [.slice (some ⟨sb, 0, none⟩) n n, .int .i64 rq] 24) ∧ Hid (sb ≠ ob ∧ W6.heap.size ≤ sb ∧ W6.heap.size ≤ ob) ∧ Hid (Pure W6 W))
              case first =>
                have hBd := HBd6.out.drew
                have h6d : W6.drew.heap.size = W6.heap.size := rfl
                have hX0 : Ext (fun b => W6.heap.size ≤ b) W6 W6.drew := (Ext.refl _ W6).drew
                refine region_start (fun b => W6.heap.size ≤ b) (by kernel_rfl) ?_
                try simp only [Act.put, List.setIfInBounds_toArray, List.set_cons_zero, List.set_cons_succ]
                refine region_take 0 123 (v := ?vmk0) rfl rfl (by kernel_rfl) (by kernel_rfl) (by kernel_rfl) (fun _ _ _ h => h) (by rfl) (fun w' hS => ?hmk0) ?rmk0
                case hmk0 => go_simp; with_reducible rfl
                try simp only [Act.put, List.setIfInBounds_toArray, List.set_cons_zero, List.set_cons_succ]
                refine region_take 2 125 (v := ?vmk2) rfl rfl (by kernel_rfl) (by kernel_rfl) (by kernel_rfl) (fun _ _ _ h => h) (by rfl) (fun w' hS => ?hmk2) ?rmk2
                case hmk2 => go_simp; with_reducible rfl
                try simp only [Act.put, List.setIfInBounds_toArray, List.set_cons_zero, List.set_cons_succ]
                refine region_take 3 126 (v := ?vmk3) rfl rfl (by kernel_rfl) (by kernel_rfl) (by kernel_rfl) (fun _ _ _ h => h) (by rfl) (fun w' hS => ?hmk3) ?rmk3
                case hmk3 => go_simp; with_reducible rfl
                try simp only [Act.put, List.setIfInBounds_toArray, List.set_cons_zero, List.set_cons_succ]
                refine region_take 4 127 (v := ?vmk4) rfl rfl (by kernel_rfl) (by kernel_rfl) (by kernel_rfl) (fun _ _ _ h => h) (by rfl) (fun w' hS => ?hmk4) ?rmk4
                case hmk4 => (have e : w'.cell? ⟨tb, 1, none⟩ = some (.int .i64 ((p0 : Int) + 1)) := (hBd.ext hS (by have := hBd.lt; omega)).cell 1; go_simp; with_reducible rfl)
                try simp only [Act.put, List.setIfInBounds_toArray, List.set_cons_zero, List.set_cons_succ]
                refine region_take 5 128 (v := ?vmk5) rfl rfl (by kernel_rfl) (by kernel_rfl) (by kernel_rfl) (fun _ _ _ h => h) (by rfl) (fun w' hS => ?hmk5) ?rmk5
                case hmk5 => go_simp; with_reducible rfl
                try simp only [Act.put, List.setIfInBounds_toArray, List.set_cons_zero, List.set_cons_succ]
                refine region_take 6 129 (v := ?vmk6) rfl rfl (by kernel_rfl) (by kernel_rfl) (by kernel_rfl) (fun _ _ _ h => h) (by rfl) (fun w' hS => ?hmk6) ?rmk6
                case hmk6 => go_simp; with_reducible rfl
                try simp only [Act.put, List.setIfInBounds_toArray, List.set_cons_zero, List.set_cons_succ]
                refine region_take 7 130 (v := ?vmk7) rfl rfl (by kernel_rfl) (by kernel_rfl) (by kernel_rfl) (fun _ _ _ h => h) (by rfl) (fun w' hS => ?hmk7) ?rmk7
                case hmk7 => (have e : w'.cell? ⟨tk, p0, none⟩ = some (.int .i64 rq) := HCr.out w' (hX0.trans hS (fun _ _ e => e)); go_simp; with_reducible rfl)
                try simp only [Act.put, List.setIfInBounds_toArray, List.set_cons_zero, List.set_cons_succ]
                refine wpAnyH_ready (rs := [1, 9]) (by kernel_rfl) (by simp) (AllReadyH.cons rfl (fun K hK => ?_) (AllReadyH.cons rfl (fun K hK => ?_) (AllReadyH.nil)))
                refine step_of_list ?_
                refine wpList_make_full _ rfl (.tmp 123) (.tmp 123) 22 rfl 0 43 oi (.agg #[.int .i64 0, .int .i64 0, .string ⟨#[]⟩, .slice none 0 0, .bool false, .string ⟨#[]⟩]) 6 Try.underlying22 HOI.out HOZ.out HOS.out .i64 .i64 (n : Int) (n : Int) n rfl rfl rfl rfl HOB.out HOM.out (Nat.zero_le _) ?_
                intro W7 hO7 hg7
                have hX7 : Ext (fun b => W6.heap.size ≤ b) W6.drew W7 := (ext_of_grown hg7).mono (fun _ _ e => nomatch e)
                have hP7 : Pure W6 W7 := ((Ext.refl _ W6).drew).pure ((ext_of_grown hg7).mono (fun _ _ e => nomatch e))
                have hBs7 := own_block hO7
                rw [made_zero] at hBs7
                obtain ⟨sb, hsb⟩ : ∃ z, z = W6.heap.size := ⟨_, rfl⟩
                have hBs7 := (show BlockIs W7 sb _ _ by rw [hsb]; exact hBs7)
                rw [show W6.drew.heap.size = sb from hsb.symm]
                have hsl : W6.heap.size ≤ sb := by omega
                clear hsb
                refine hK.out _ _ (hX7) (fun hHeld => ?_)
                clear hK K hHeld
                refine region_now (hX7) ?_
                try simp only [Act.put, List.setIfInBounds_toArray, List.set_cons_zero, List.set_cons_succ]
                refine region_take 8 131 (v := ?vmkq08) rfl rfl (by kernel_rfl) (by kernel_rfl) (by kernel_rfl) (fun _ _ _ h => h) (by rfl) (fun w' hS => ?hmkq08) ?rmkq08
                case hmkq08 => go_simp; with_reducible rfl
                try simp only [Act.put, List.setIfInBounds_toArray, List.set_cons_zero, List.set_cons_succ]
                refine wpAnyH_ready (rs := [9]) (by kernel_rfl) (by simp) (AllReadyH.cons rfl (fun K hK => ?_) AllReadyH.nil)
                go_simp
                obtain ⟨W8, hW8⟩ : ∃ z, z = W7.alloc (.cells #[.slice none 0 0, .int .i64 0] 24) := ⟨_, rfl⟩
                have HW8 : Hid (W7.alloc (.cells #[.slice none 0 0, .int .i64 0] 24) = W8) := Lib.hid hW8.symm
                obtain ⟨ob, hob⟩ : ∃ z, z = W7.heap.size := ⟨_, rfl⟩
                have hBo8 : BlockIs W8 ob [.slice none 0 0, .int .i64 0] 24 := by rw [hW8, hob]; exact BlockIs.new W7 [.slice none 0 0, .int .i64 0] 24
                have hP8 : Pure W6 W8 := by rw [hW8]; exact hP7.pure (ext_alloc W7 _)
                have hX8 : Ext (fun b => W6.heap.size ≤ b) W7 W8 := by rw [hW8]; exact (ext_alloc W7 _).mono (fun _ _ e => e.elim)
                have hBs8 : BlockIs W8 sb ((List.replicate n zeroRow).flatMap id) 43 := by rw [hW8]; exact hBs7.alloc _
                have hne : sb ≠ ob := by have := hBs7.lt; omega
                have hol : W6.heap.size ≤ ob := by have := hP7.size; omega
                rw [HW8.out, ← hob]
                clear hW8 hob
                refine hK.out _ _ (hX8) (fun hHeld => ?_)
                clear hK K hHeld
                refine region_now (hX8) ?_
                try simp only [Act.put, List.setIfInBounds_toArray, List.set_cons_zero, List.set_cons_succ]
                refine wpAnyH_ready (rs := [10]) (by kernel_rfl) (by simp) (AllReadyH.cons rfl (fun K hK => ?_) AllReadyH.nil)
                have hTh : W8.there ob 0 (#[Value.slice (some ⟨sb, 0, none⟩) n n, .int .i64 rq] : Array Value).size := hBo8.there 2 rfl
                have hSi : (Try.prog.info? 24).map (·.size) = some (#[Value.slice (some ⟨sb, 0, none⟩) n n, .int .i64 rq] : Array Value).size := size_doc
                have hOn := one_doc (some ⟨sb, 0, none⟩) n n rq
                obtain ⟨W9, hW9⟩ : ∃ z, z = W8.setCells ob 0 [.slice (some ⟨sb, 0, none⟩) n n, .int .i64 rq] := ⟨_, rfl⟩
                have HW9 : Hid (W8.setCells ob 0 (#[.slice (some ⟨sb, 0, none⟩) n n, .int .i64 rq] : Array Value).toList = W9) := Lib.hid (by rw [hW9])
                have hX9 : Ext (fun b => W6.heap.size ≤ b) W8 W9 := by rw [hW9]; exact Ext.setCells (S := fun b => W6.heap.size ≤ b) _ 0 _ (Ext.refl _ _) (b := ob) (fun _ => hol)
                have HBo9 : Hid (BlockIs W9 ob [.slice (some ⟨sb, 0, none⟩) n n, .int .i64 rq] 24) := Lib.hid (by rw [hW9]; exact hBo8.setAll _ rfl)
                have HBs9 : Hid (BlockIs W9 sb ((List.replicate n zeroRow).flatMap id) 43) := Lib.hid (by rw [hW9]; exact hBs8.ext (Ext.setCells (S := fun b => b = ob) _ 0 _ (Ext.refl _ _) (b := ob) (fun _ => rfl)) hne)
                have HP9 : Hid (Pure W6 W9) := Lib.hid (by rw [hW9]; exact Ext.setCells _ 0 _ hP8 (b := ob) (fun h => by omega))
                have HNe : Hid (sb ≠ ob ∧ W6.heap.size ≤ sb ∧ W6.heap.size ≤ ob) := Lib.hid ⟨hne, hsl, hol⟩
                clear hW9
                refine step_of_list ?_
                refine wpList_store_mid rfl 24 (.tmp 13) (.tmp 131) rfl ob 0 #[.slice (some ⟨sb, 0, none⟩) n n, .int .i64 rq] rfl rfl hTh hSi hOn ?_
                rw [HW9.out]
                refine hK.out _ _ (hX9) (fun hHeld => ?_)
                clear hK K hHeld
                refine region_now (hX9) ?_
                try simp only [Act.put, List.setIfInBounds_toArray, List.set_cons_zero, List.set_cons_succ]
                refine wpAnyH_done (by kernel_rfl) ?_ _
                rotate_left
                go_simp
                obtain ⟨W7, hW7⟩ : ∃ z, z = (W6.alloc (.cells #[.slice none 0 0, .int .i64 0] 24)).drew := ⟨_, rfl⟩
                have HW7 : Hid ((W6.alloc (.cells #[.slice none 0 0, .int .i64 0] 24)).drew = W7) := Lib.hid hW7.symm
                obtain ⟨ob, hob⟩ : ∃ z, z = W6.heap.size := ⟨_, rfl⟩
                have hBo7 : BlockIs W7 ob [.slice none 0 0, .int .i64 0] 24 := by rw [hW7, hob]; exact (BlockIs.new W6 [.slice none 0 0, .int .i64 0] 24).drew
                have hP7 : Pure W6 W7 := by rw [hW7]; exact (ext_alloc W6 _).drew
                have hX7 : Ext (fun b => W6.heap.size ≤ b) W6.drew W7 := ⟨hP7.os, hP7.tape, hP7.output, hP7.size, fun i hi _ => hP7.block i hi id⟩
                have hol : W6.heap.size ≤ ob := by omega
                rw [HW7.out, ← hob]
                clear hW7 hob
                refine hK.out _ _ (hX7) (fun hHeld => ?_)
                clear hK K hHeld
                refine region_now (hX7) ?_
                try simp only [Act.put, List.setIfInBounds_toArray, List.set_cons_zero, List.set_cons_succ]
                refine wpAnyH_ready (rs := [1]) (by kernel_rfl) (by simp) (AllReadyH.cons rfl (fun K hK => ?_) AllReadyH.nil)
                refine step_of_list ?_
                refine wpList_make_full _ rfl (.tmp 123) (.tmp 123) 22 rfl 0 43 oi (.agg #[.int .i64 0, .int .i64 0, .string ⟨#[]⟩, .slice none 0 0, .bool false, .string ⟨#[]⟩]) 6 Try.underlying22 HOI.out HOZ.out HOS.out .i64 .i64 (n : Int) (n : Int) n rfl rfl rfl rfl HOB.out HOM.out (Nat.zero_le _) ?_
                intro W8 hO8 hg8
                have hX8 : Ext (fun b => W6.heap.size ≤ b) W7 W8 := (ext_of_grown hg8).mono (fun _ _ e => nomatch e)
                have hP8 : Pure W6 W8 := hP7.pure ((ext_of_grown hg8).mono (fun _ _ e => nomatch e))
                have hBs8 := own_block hO8
                rw [made_zero] at hBs8
                obtain ⟨sb, hsb⟩ : ∃ z, z = W7.heap.size := ⟨_, rfl⟩
                rw [← hsb] at hBs8 ⊢
                have hBo8 := hBo7.ext (ext_of_grown hg8) (fun e => nomatch e)
                have hne : sb ≠ ob := by have := hBo7.lt; omega
                have hsl : W6.heap.size ≤ sb := by have := hP7.size; omega
                clear hsb
                refine hK.out _ _ (hX8) (fun hHeld => ?_)
                clear hK K hHeld
                refine region_now (hX8) ?_
                try simp only [Act.put, List.setIfInBounds_toArray, List.set_cons_zero, List.set_cons_succ]
                refine region_take 8 131 (v := ?vmkq18) rfl rfl (by kernel_rfl) (by kernel_rfl) (by kernel_rfl) (fun _ _ _ h => h) (by rfl) (fun w' hS => ?hmkq18) ?rmkq18
                case hmkq18 => go_simp; with_reducible rfl
                try simp only [Act.put, List.setIfInBounds_toArray, List.set_cons_zero, List.set_cons_succ]
                refine wpAnyH_ready (rs := [10]) (by kernel_rfl) (by simp) (AllReadyH.cons rfl (fun K hK => ?_) AllReadyH.nil)
                have hTh : W8.there ob 0 (#[Value.slice (some ⟨sb, 0, none⟩) n n, .int .i64 rq] : Array Value).size := hBo8.there 2 rfl
                have hSi : (Try.prog.info? 24).map (·.size) = some (#[Value.slice (some ⟨sb, 0, none⟩) n n, .int .i64 rq] : Array Value).size := size_doc
                have hOn := one_doc (some ⟨sb, 0, none⟩) n n rq
                obtain ⟨W9, hW9⟩ : ∃ z, z = W8.setCells ob 0 [.slice (some ⟨sb, 0, none⟩) n n, .int .i64 rq] := ⟨_, rfl⟩
                have HW9 : Hid (W8.setCells ob 0 (#[.slice (some ⟨sb, 0, none⟩) n n, .int .i64 rq] : Array Value).toList = W9) := Lib.hid (by rw [hW9])
                have hX9 : Ext (fun b => W6.heap.size ≤ b) W8 W9 := by rw [hW9]; exact Ext.setCells (S := fun b => W6.heap.size ≤ b) _ 0 _ (Ext.refl _ _) (b := ob) (fun _ => hol)
                have HBo9 : Hid (BlockIs W9 ob [.slice (some ⟨sb, 0, none⟩) n n, .int .i64 rq] 24) := Lib.hid (by rw [hW9]; exact hBo8.setAll _ rfl)
                have HBs9 : Hid (BlockIs W9 sb ((List.replicate n zeroRow).flatMap id) 43) := Lib.hid (by rw [hW9]; exact hBs8.ext (Ext.setCells (S := fun b => b = ob) _ 0 _ (Ext.refl _ _) (b := ob) (fun _ => rfl)) hne)
                have HP9 : Hid (Pure W6 W9) := Lib.hid (by rw [hW9]; exact Ext.setCells _ 0 _ hP8 (b := ob) (fun h => by omega))
                have HNe : Hid (sb ≠ ob ∧ W6.heap.size ≤ sb ∧ W6.heap.size ≤ ob) := Lib.hid ⟨hne, hsl, hol⟩
                clear hW9
                refine step_of_list ?_
                refine wpList_store_mid rfl 24 (.tmp 13) (.tmp 131) rfl ob 0 #[.slice (some ⟨sb, 0, none⟩) n n, .int .i64 rq] rfl rfl hTh hSi hOn ?_
                rw [HW9.out]
                refine hK.out _ _ (hX9) (fun hHeld => ?_)
                clear hK K hHeld
                refine region_now (hX9) ?_
                try simp only [Act.put, List.setIfInBounds_toArray, List.set_cons_zero, List.set_cons_succ]
                refine wpAnyH_done (by kernel_rfl) ?_ _
                rotate_left
                all_goals
                  go_simp
                  try simp only [Act.put, List.setIfInBounds_toArray, List.set_cons_zero, List.set_cons_succ]
                  go_wp2_with fail
                  go_meet
                  exact ⟨_, _, rfl, HBs9, HBo9, HNe, HP9⟩
              case rest =>
                obtain ⟨sb, ob, rfl, HBs, HBo, HNe, HP⟩ := hcut
                obtain ⟨W9, rfl⟩ : ∃ z : World, z = wc := ⟨_, rfl⟩
                clear HOI HOZ HOS HOB HOM HCr
                go_wp2_with fail
                go_loopw [14] (fun x wr => ∃ (k : Nat) (rws : List (List Value)), k ≤ n ∧ x = .int .i64 k ∧ Hid (ObsIn (fun b => b ≠ sb) wr (F0 + 1) (placeP L objs k) rws) ∧ Hid (BlockIs wr sb (rws.flatMap id) 43) ∧ Hid (BlockIs wr ob [.slice (some ⟨sb, 0, none⟩) n n, .int .i64 rq] 24) ∧ Hid (Pure W6 wr)) (fun x _ => n - (intOf x).toNat)
                case atStart => exact ⟨0, List.replicate n zeroRow, Nat.zero_le _, rfl, Lib.hid (by unfold placeP; rw [HLl.out]; exact ObsIn.zero _ _ F0 n), HBs, HBo, HP⟩
                case round =>
                  obtain ⟨k, rws, hk3, rfl, HOb, HBr, HBo2, HE⟩ := hrel
                  by_cases hlt3 : k < n
                  · have hki3 : (k : Int) < (n : Int) := by omega
                    have hk0 : (0 : Int) ≤ (k : Int) := by omega
                    obtain ⟨u, hu⟩ : ∃ u, objs[k]? = some u := ⟨_, List.getElem?_eq_getElem (by rw [← HN.out]; exact hlt3)⟩
                    have hum := List.mem_of_getElem? hu
                    obtain ⟨b, o, cs, hoa, hr4, hl4, hL, hr0⟩ := HD6.out.ok.at k u hu
                    subst hoa
                    have hr : wr.rangeAt b (o + k * 6) (cs ++ [Value.bool u.st, Value.string u.data]) := fun j v hv => HE.out.cell_some (hr0 j v hv) id
                    have hsz6 : (Try.prog.info? 43).map (·.size) = some (cs ++ [Value.bool u.st, Value.string u.data]).length := by rw [List.length_append, hl4]; exact info6
                    have HMp := Lib.hid (fun W (hP : Pure W6 W) => map_any W6 L (some ⟨tk, 0, none⟩) n HRow6.out (by rw [HLl.out]; omega) (F0 + 1) u.v cs W hL hP (HD6.out.size u hum))
                    obtain ⟨p, hp⟩ : ∃ p : Nat, L[k]'(by rw [HLl.out]; exact hlt3) = (p : Int) + 1 := ⟨(L[k]'(by rw [HLl.out]; exact hlt3) - 1).toNat, by have := HOne.out.at (k := k) (by rw [HLl.out]; exact hlt3); omega⟩
                    have hpn : p < n := by have := HOne.out.at (k := k) (by rw [HLl.out]; exact hlt3); rw [hp, HLl.out] at this; omega
                    have HPl : Hid (placeP L objs (k + 1) = (placeP L objs k).set p (turnOb L u)) := Lib.hid (by
                      have e1 : L.getD k 0 = (p : Int) + 1 := by rw [getD_lt (by rw [HLl.out]; exact hlt3), hp]
                      have e2 : objs.getD k noOb = u := by rw [List.getD_eq_getElem?_getD, hu]; rfl
                      show (placeP L objs k).set (L.getD k 0 - 1).toNat (turnOb L (objs.getD k noOb)) = _
                      rw [e1, e2, show ((p : Int) + 1 - 1).toNat = p by omega])
                    have HCk : Hid (∀ W : World, Ext (fun b => W6.heap.size ≤ b) W6 W → W.cell? ⟨tk, k, none⟩ = some (.int .i64 ((p : Int) + 1))) := Lib.hid (fun W hW => by
                      rw [(HBk6.out.ext hW (by omega)).cell, ← hp]
                      exact intsV_get _)
                    have hpi : (p : Int) < (n : Int) := by omega
                    have hp0 : (0 : Int) ≤ (p : Int) := by omega
                    have hpm : (p : Int) + 1 - 1 = (p : Int) := by omega
                    have hwp : IntKind.i64.wrap (p : Int) = (p : Int) := by rw [IntKind.wrap_i64]; omega
                    obtain ⟨xa, xc, urows, hcs, _⟩ := hL.kids
                    rw [hcs] at HMp hr hsz6
                    rw [HLl.out] at HMp
                    obtain ⟨tv, htv⟩ : ∃ z, z = u.v.turn L := ⟨_, rfl⟩
                    rw [← htv] at HMp
                    have HTv : Hid (turnOb L u = ⟨tv, u.st, u.data⟩) := Lib.hid (by rw [htv]; rfl)
                    have HSz := Lib.hid hsz6
                    have e0 : wr.cell? ⟨tb, 0, none⟩ = some (.slice (some ⟨b, o, none⟩) n oc) := (HBd6.out.ext HE.out id).cell 0
                    clear hcs hL hl4 hr0 hr4 hu hum hsz6 hp htv
                    generalize u.v.l.length = um at *
                    generalize u.v.kind = uk at *
                    generalize u.v.n = uq at *
                    generalize u.v.s = usx at *
                    generalize u.st = st at *
                    generalize u.data = dt at *
                    simp only [List.cons_append, List.nil_append] at hr HSz
                    go_upto_region 27 with (with_reducible refine at_load 43 (.tmp 140) ?_; refine wpList_load_mid rfl 43 (.tmp 140) rfl b (o + k * 6) rfl [.int .i64 uk, .int .i64 uq, .string usx, .slice xa um xc, .bool st, .string dt] _ hr Try.underlying43 rfl HSz.out ?_)
                    obtain ⟨Wx, hWx⟩ : ∃ z, z = wr.alloc (.cells #[.int .i64 uk, .int .i64 uq, .string usx, .slice xa um xc, .bool st, .string dt] 43) := ⟨_, rfl⟩
                    obtain ⟨bk, hbk⟩ : ∃ z, z = wr.heap.size := ⟨_, rfl⟩
                    have hBx : BlockIs Wx bk [.int .i64 uk, .int .i64 uq, .string usx, .slice xa um xc, .bool st, .string dt] 43 := by rw [hWx, hbk]; exact BlockIs.new wr [.int .i64 uk, .int .i64 uq, .string usx, .slice xa um xc, .bool st, .string dt] 43
                    have hPx : Pure wr Wx := hWx ▸ ext_alloc wr _
                    have hxs : Wx.heap.size = bk + 1 := by rw [hWx, World.size_alloc, hbk]
                    rw [← hWx, ← hbk]
                    have HBx := Lib.hid hBx
                    have HPx := Lib.hid hPx
                    have HXs := Lib.hid hxs
                    have HBk := Lib.hid hbk
                    clear hWx hPx hxs hbk hr e0
                    have x0 : Wx.cell? ⟨bk, 0, none⟩ = some (.int .i64 uk) := hBx.cell 0
                    have x1 : Wx.cell? ⟨bk, 1, none⟩ = some (.int .i64 uq) := hBx.cell 1
                    have x2 : Wx.cell? ⟨bk, 2, none⟩ = some (.string usx) := hBx.cell 2
                    have x3 : Wx.cell? ⟨bk, 3, none⟩ = some (.slice xa um xc) := hBx.cell 3
                    clear hBx
                    go_wp2_with fail
                    refine (HMp.out Wx (HE.out.pure HPx.out)).mono ?_
                    rintro e Wm ⟨cs4, rfl, hL4, hPm⟩
                    obtain ⟨k4, n4, s4, a4, m4, c4, hcs4⟩ := hL4.lies.form
                    subst hcs4
                    have hBm := HBx.out.ext hPm id
                    have HTh : Hid (Wm.there bk 0 (#[.int .i64 k4, .int .i64 n4, .string s4, .slice a4 m4 c4] : Array Value).size) := Lib.hid (fun j hj => hBm.there 6 rfl j (by have : j < 4 := hj; omega))
                    have HSi : Hid ((Try.prog.info? 41).map (·.size) = some (#[.int .i64 k4, .int .i64 n4, .string s4, .slice a4 m4 c4] : Array Value).size) := Lib.hid size24
                    have HOn : Hid (((#[.int .i64 k4, .int .i64 n4, .string s4, .slice a4 m4 c4] : Array Value).all fun u => u.oneCell') = true) := Lib.hid hL4.lies.one
                    obtain ⟨Wy, hWy⟩ : ∃ z, z = Wm.setCells bk 0 [.int .i64 k4, .int .i64 n4, .string s4, .slice a4 m4 c4] := ⟨_, rfl⟩
                    have HWy : Hid (Wm.setCells bk 0 (#[.int .i64 k4, .int .i64 n4, .string s4, .slice a4 m4 c4] : Array Value).toList = Wy) := Lib.hid (by rw [hWy])
                    have hBy : BlockIs Wy bk [.int .i64 k4, .int .i64 n4, .string s4, .slice a4 m4 c4, .bool st, .string dt] 43 := by rw [hWy]; exact BlockIs.setMid (post := [.bool st, .string dt]) [.int .i64 k4, .int .i64 n4, .string s4, .slice a4 m4 c4] [] [.int .i64 uk, .int .i64 uq, .string usx, .slice xa um xc] Wm hBm rfl
                    have hXm : Ext (fun b => b = bk) Wm Wy := by rw [hWy]; exact Ext.setCells (S := fun b => b = bk) _ 0 _ (Ext.refl _ _) (fun _ => rfl)
                    have hPy : Pure wr Wy := (HPx.out.pure hPm).trans hXm (fun b hb e => by have := HBk.out; omega)
                    have hsb : sb < wr.heap.size := HBr.out.lt
                    have hsz := HE.out.size
                    have hbk2 := HBk.out
                    have hxs2 := HXs.out
                    have hne := HNe.out
                    have hL5 : LiesIn (fun b => b ≠ sb) Wy (F0 + 1) tv [.int .i64 k4, .int .i64 n4, .string s4, .slice a4 m4 c4] := (hL4.ext hXm (fun b hb e => by omega)).mono (fun b _ hb e => by omega)
                    have HL5 := Lib.hid hL5
                    have HOb5 := Lib.hid (HOb.out.ext hPy (fun _ _ => id))
                    have HBr5 := Lib.hid (HBr.out.ext hPy id)
                    have HBo5 := Lib.hid (HBo2.out.ext hPy id)
                    have HE5 := Lib.hid (HE.out.pure hPy)
                    have HBy := Lib.hid hBy
                    have hn1b : ¬ ob = sb := by omega
                    have hn3b : ¬ bk = sb := by omega
                    clear hL4 hL5 hBm hBy hWy hXm hPy hPm hsz hbk2 hxs2 hsb hne HOb HBr HBo2 HE HMp x0 x1 x2 x3
                    go_wp2_with (with_reducible refine at_store 41 (.tmp 146) (.tmp 145) ?_; refine wpList_store_mid rfl 41 (.tmp 146) (.tmp 145) rfl bk 0 #[.int .i64 k4, .int .i64 n4, .string s4, .slice a4 m4 c4] rfl rfl HTh.out HSi.out HOn.out ?_; rw [HWy.out])
                    obtain ⟨Wv, hWv⟩ : ∃ z, z = Wy.drew := ⟨_, rfl⟩
                    have HWv : Hid (Wy.drew = Wv) := Lib.hid hWv.symm
                    have hBo := (show BlockIs Wv ob _ _ by rw [hWv]; exact HBo5.out.drew)
                    have hBx := (show BlockIs Wv bk _ _ by rw [hWv]; exact HBy.out.drew)
                    have hXv : Ext (fun b => W6.heap.size ≤ b) W6 Wv := by rw [hWv]; exact (HE5.out.drew).mono (fun _ _ e => e.elim)
                    have HBrv : Hid (BlockIs Wv sb (rws.flatMap id) 43) := Lib.hid (by rw [hWv]; exact HBr5.out.drew)
                    have hsix := HOb5.out.six
                    have hprl : p < rws.length := by rw [HOb5.out.len, placeP_len, HLl.out]; exact hpn
                    have hTh2 : Wv.there sb (p * 6) (#[.int .i64 k4, .int .i64 n4, .string s4, .slice a4 m4 c4, .bool st, .string dt] : Array Value).size := objs_there HBrv.out hsix hprl
                    have hSi2 : (Try.prog.info? 43).map (·.size) = some (#[.int .i64 k4, .int .i64 n4, .string s4, .slice a4 m4 c4, .bool st, .string dt] : Array Value).size := info6
                    have hOn2 : ((#[.int .i64 k4, .int .i64 n4, .string s4, .slice a4 m4 c4, .bool st, .string dt] : Array Value).all fun u => u.oneCell') = true := one_ob HOn.out
                    obtain ⟨Wz, hWz⟩ : ∃ z, z = Wv.setCells sb (p * 6) [.int .i64 k4, .int .i64 n4, .string s4, .slice a4 m4 c4, .bool st, .string dt] := ⟨_, rfl⟩
                    have HWz : Hid (Wv.setCells sb (p * 6) (#[.int .i64 k4, .int .i64 n4, .string s4, .slice a4 m4 c4, .bool st, .string dt] : Array Value).toList = Wz) := Lib.hid (by rw [hWz])
                    have hXz : Ext (fun b => b = sb) Wv Wz := by rw [hWz]; exact Ext.setCells (S := fun b => b = sb) _ _ _ (Ext.refl _ _) (fun _ => rfl)
                    have HBrz : Hid (BlockIs Wz sb ((rws.set p [.int .i64 k4, .int .i64 n4, .string s4, .slice a4 m4 c4, .bool st, .string dt]).flatMap id) 43) := Lib.hid (by rw [hWz]; exact objs_store HBrv.out hsix hprl rfl)
                    have hXyz : Ext (fun b => b = sb) Wy Wz := (show Ext (fun b => b = sb) Wy Wv by rw [hWv]; exact (Ext.refl _ _).drew).trans hXz (fun _ _ e => e)
                    have HObz : Hid (ObsIn (fun b => b ≠ sb) Wz (F0 + 1) (placeP L objs (k + 1)) (rws.set p [.int .i64 k4, .int .i64 n4, .string s4, .slice a4 m4 c4, .bool st, .string dt])) := Lib.hid (by
                      rw [HPl.out, HTv.out]
                      exact (HOb5.out.set p (o := ⟨tv, st, dt⟩) HL5.out).ext hXyz (fun b hb e => hb e))
                    have HBoz := Lib.hid (hBo.ext hXz hn1b)
                    have HEz : Hid (Pure W6 Wz) := Lib.hid (HE5.out.trans hXyz (fun b hb e => by have := HNe.out; omega))
                    have SZ6 : Hid ((Try.prog.info? 43).map (·.size) = some [.int .i64 k4, .int .i64 n4, .string s4, .slice a4 m4 c4, Value.bool st, .string dt].length) := Lib.hid info6
                    have htks : ¬ tk = sb := by have := HNe.out; omega
                    have hXs : ∀ W : World, Ext (fun b => b = sb) Wv W → Ext (fun b => W6.heap.size ≤ b) W6 W := fun W h => hXv.trans h (fun b _ e => by have := HNe.out; omega)
                    have HXs2 := Lib.hid hXs
                    clear hWv hWz hsix hprl hXyz hXs hXv HBr5 HBo5 HE5 HL5 HOb5 HBy
                    refine region_start (fun b => b = sb) (by kernel_rfl) ?_
                    try simp only [Act.put, List.setIfInBounds_toArray, List.set_cons_zero, List.set_cons_succ]
                    rw [HWv.out]
                    refine region_take 0 147 (v := ?vst0) rfl rfl (by kernel_rfl) (by kernel_rfl) (by kernel_rfl) (fun _ _ _ h => h) (by rfl) (fun w' hS => ?hst0) ?rst0
                    case hst0 => go_simp; with_reducible rfl
                    try simp only [Act.put, List.setIfInBounds_toArray, List.set_cons_zero, List.set_cons_succ]
                    refine region_take 1 148 (v := ?vst1) rfl rfl (by kernel_rfl) (by kernel_rfl) (by kernel_rfl) (fun _ _ _ h => h) (by rfl) (fun w' hS => ?hst1) ?rst1
                    case hst1 => (have e : w'.cell? ⟨ob, 0, none⟩ = some (.slice (some ⟨sb, 0, none⟩) n n) := (hBo.ext hS hn1b).cell 0; go_simp; with_reducible rfl)
                    try simp only [Act.put, List.setIfInBounds_toArray, List.set_cons_zero, List.set_cons_succ]
                    refine region_take 2 149 (v := ?vst2) rfl rfl (by kernel_rfl) (by kernel_rfl) (by kernel_rfl) (fun _ _ _ h => h) (by rfl) (fun w' hS => ?hst2) ?rst2
                    case hst2 => go_simp; with_reducible rfl
                    try simp only [Act.put, List.setIfInBounds_toArray, List.set_cons_zero, List.set_cons_succ]
                    refine region_take 3 150 (v := ?vst3) rfl rfl (by kernel_rfl) (by kernel_rfl) (by kernel_rfl) (fun _ _ _ h => h) (by rfl) (fun w' hS => ?hst3) ?rst3
                    case hst3 => go_simp; with_reducible rfl
                    try simp only [Act.put, List.setIfInBounds_toArray, List.set_cons_zero, List.set_cons_succ]
                    refine region_take 4 151 (v := ?vst4) rfl rfl (by kernel_rfl) (by kernel_rfl) (by kernel_rfl) (fun _ _ _ h => h) (by rfl) (fun w' hS => ?hst4) ?rst4
                    case hst4 => go_simp; with_reducible rfl
                    try simp only [Act.put, List.setIfInBounds_toArray, List.set_cons_zero, List.set_cons_succ]
                    refine region_take 5 152 (v := ?vst5) rfl rfl (by kernel_rfl) (by kernel_rfl) (by kernel_rfl) (fun _ _ _ h => h) (by rfl) (fun w' hS => ?hst5) ?rst5
                    case hst5 => (have e : w'.cell? ⟨tk, k, none⟩ = some (.int .i64 ((p : Int) + 1)) := HCk.out w' (HXs2.out w' hS); go_simp; with_reducible rfl)
                    try simp only [Act.put, List.setIfInBounds_toArray, List.set_cons_zero, List.set_cons_succ]
                    refine region_take 6 153 (v := ?vst6) rfl rfl (by kernel_rfl) (by kernel_rfl) (by kernel_rfl) (fun _ _ _ h => h) (by rfl) (fun w' hS => ?hst6) ?rst6
                    case hst6 => go_simp; with_reducible rfl
                    try simp only [Act.put, List.setIfInBounds_toArray, List.set_cons_zero, List.set_cons_succ]
                    refine region_take 7 154 (v := ?vst7) rfl rfl (by kernel_rfl) (by kernel_rfl) (by kernel_rfl) (fun _ _ _ h => h) (by rfl) (fun w' hS => ?hst7) ?rst7
                    case hst7 => (refine exec_load6 (x := .tmp 15) ?_ ?_ (hBx.ext hS hn3b) SZ6.out <;> rfl)
                    try simp only [Act.put, List.setIfInBounds_toArray, List.set_cons_zero, List.set_cons_succ]
                    refine region_take 8 155 (v := ?vst8) rfl rfl (by kernel_rfl) (by kernel_rfl) (by kernel_rfl) (fun _ _ _ h => h) (by rfl) (fun w' hS => ?hst8) ?rst8
                    case hst8 => go_simp; with_reducible rfl
                    try simp only [Act.put, List.setIfInBounds_toArray, List.set_cons_zero, List.set_cons_succ]
                    refine wpAnyH_ready (rs := [9]) (by kernel_rfl) (by simp) (AllReadyH.cons rfl (fun K hK => ?_) AllReadyH.nil)
                    refine step_of_list ?_
                    refine wpList_store_mid rfl 43 (.tmp 155) (.tmp 154) rfl sb (p * 6) #[.int .i64 k4, .int .i64 n4, .string s4, .slice a4 m4 c4, .bool st, .string dt] rfl rfl hTh2 hSi2 hOn2 ?_
                    rw [HWz.out]
                    refine hK.out _ _ (hXz) (fun hHeld => ?_)
                    clear hK K hHeld
                    refine region_now (hXz) ?_
                    try simp only [Act.put, List.setIfInBounds_toArray, List.set_cons_zero, List.set_cons_succ]
                    refine wpAnyH_done (by kernel_rfl) ?_ _
                    go_simp
                    try simp only [Act.put, List.setIfInBounds_toArray, List.set_cons_zero, List.set_cons_succ]
                    go_wp2_with fail
                    go_roundw
                    case rel => exact ⟨k + 1, _, by omega, by go_num, HObz, HBrz, HBoz, HEz⟩
                    case measure => simp [intOf]; omega
                  · have hki3 : ¬ (k : Int) < (n : Int) := by omega
                    obtain rfl : k = n := by omega
                    have hol : objs.length = L.length := by rw [HLl.out]; exact HN.out.symm
                    have hfin : ∀ o ∈ objs, o.v.fine L.length := fun o ho => first_fine _ _ (obE_first (HGood.out o ho).1) (fun x hx => by rw [HLl.out]; exact (HGood.out o ho).2 x ((mem_more0 x _).2 hx))
                    have hlast : placeP L objs L.length = placeP L objs k := by rw [HLl.out]
                    have hDe : docE (placeP L objs k) rq = docE objs ((p0 : Int) + 1) := by
                      rw [HRt.out, ← hlast]
                      exact doc_turn HOne.out (by rw [HLl.out]; omega) hol (fun o ho => (HGood.out o ho).1) (fun o ho x hx => by rw [HLl.out]; exact (HGood.out o ho).2 x hx) ((p0 : Int) + 1)
                    have hmem : ∀ o ∈ placeP L objs k, ∃ u ∈ objs, o = turnOb L u := fun o ho => place_mem HOne.out hol (by rw [hlast]; exact ho)
                    have hD2 : DocOk wr F0 (placeP L objs k) (some ⟨sb, 0, none⟩) rws rq := ⟨HOb.out.ok HBr.out, by rw [placeP_len, HLl.out]; omega, fun o ho => by
                      obtain ⟨u, hu, rfl⟩ := hmem o ho
                      exact Nat.le_trans (V.turn_size L u.v) (HD6.out.size u hu), fun o ho => by
                      obtain ⟨u, hu, rfl⟩ := hmem o ho
                      exact wf_turn L HOne.out (by rw [HLl.out]; omega) u.v (hfin u hu) (HD6.out.wf u hu), HRw.out⟩
                    have HDoA := Lib.hid (fun W (hP : Pure wr W) => doc_any F0 objs oa oc rows ((p0 : Int) + 1) W ((HD6.out.pure HE.out).pure hP) HDs.out)
                    have HDoB := Lib.hid (fun W (hP : Pure wr W) => doc_any F0 (placeP L objs k) (some ⟨sb, 0, none⟩) k rws rq W (hD2.pure hP) (fun o ho => by
                      obtain ⟨u, hu, rfl⟩ := hmem o ho
                      exact HDs.out u hu))
                    rw [hDe] at HDoB
                    rw [show (placeP L objs k).length = k by rw [placeP_len, HLl.out]] at HDoB
                    rw [← HN.out] at HDoA
                    generalize docE objs ((p0 : Int) + 1) = D at *
                    have HEw := Lib.hid ((HPwo.out.pure HP6.out).pure HE.out)
                    have SZ13 : Hid ((Try.prog.info? 24).map (·.size) = some [Value.slice (some ⟨sb, 0, none⟩) k k, .int .i64 rq].length) := Lib.hid size_doc
                    have hPw0 := HEw.out.drew
                    have hPr0 := (Ext.refl (fun _ => False) wr).drew
                    have hBd := (HBd6.out.ext HE.out id).drew
                    have hBo := HBo2.out.drew
                    have hPr : Pure wr wr.drew := hPr0
                    have hPw : Pure w wr.drew := hPw0
                    clear hol hfin hlast hDe hmem hD2 hPw0 hPr0
                    go_wp2_with fail
                    refine region_start (fun _ => False) (by kernel_rfl) ?_
                    try simp only [Act.put, List.setIfInBounds_toArray, List.set_cons_zero, List.set_cons_succ]
                    refine region_take 0 156 (v := ?vzz0) rfl rfl (by kernel_rfl) (by kernel_rfl) (by kernel_rfl) (fun _ _ _ h => h) (by rfl) (fun w' hS => ?hzz0) ?rzz0
                    case hzz0 => (refine exec_load2 (x := .tmp 2) ?_ ?_ (hBd.ext hS id) SZ24.out <;> rfl)
                    try simp only [Act.put, List.setIfInBounds_toArray, List.set_cons_zero, List.set_cons_succ]
                    refine region_take 3 159 (v := ?vzz3) rfl rfl (by kernel_rfl) (by kernel_rfl) (by kernel_rfl) (fun _ _ _ h => h) (by rfl) (fun w' hS => ?hzz3) ?rzz3
                    case hzz3 => (refine exec_load2 (x := .tmp 13) ?_ ?_ (hBo.ext hS id) SZ13.out <;> rfl)
                    try simp only [Act.put, List.setIfInBounds_toArray, List.set_cons_zero, List.set_cons_succ]
                    refine wpAnyH_ready (rs := [1]) (by kernel_rfl) (by simp) (AllReadyH.cons rfl (fun K hK => ?_) AllReadyH.nil)
                    go_simp
                    refine (HDoA.out _ hPr).mono ?_
                    rintro e wv ⟨rfl, hP⟩
                    have hBd := hBd.ext hP id
                    have hBo := hBo.ext hP id
                    have hPw := hPw.pure hP
                    have hPr := hPr.pure hP
                    refine hK.out _ _ (hP) (fun hHeld => ?_)
                    clear hK K hHeld
                    refine region_now (hP) ?_
                    try simp only [Act.put, List.setIfInBounds_toArray, List.set_cons_zero, List.set_cons_succ]
                    refine region_take 2 158 (v := ?vzz2) rfl rfl (by kernel_rfl) (by kernel_rfl) (by kernel_rfl) (fun _ _ _ h => h) (by rfl) (fun w' hS => ?hzz2) ?rzz2
                    case hzz2 => go_simp; with_reducible rfl
                    try simp only [Act.put, List.setIfInBounds_toArray, List.set_cons_zero, List.set_cons_succ]
                    refine wpAnyH_ready (rs := [4]) (by kernel_rfl) (by simp) (AllReadyH.cons rfl (fun K hK => ?_) AllReadyH.nil)
                    go_simp
                    refine (HDoB.out _ hPr).mono ?_
                    rintro e wv ⟨rfl, hP⟩
                    have hBd := hBd.ext hP id
                    have hBo := hBo.ext hP id
                    have hPw := hPw.pure hP
                    have hPr := hPr.pure hP
                    refine hK.out _ _ (hP) (fun hHeld => ?_)
                    clear hK K hHeld
                    refine region_now (hP) ?_
                    try simp only [Act.put, List.setIfInBounds_toArray, List.set_cons_zero, List.set_cons_succ]
                    refine region_take 5 161 (v := ?vzz5) rfl rfl (by kernel_rfl) (by kernel_rfl) (by kernel_rfl) (fun _ _ _ h => h) (by rfl) (fun w' hS => ?hzz5) ?rzz5
                    case hzz5 => go_simp; with_reducible rfl
                    try simp only [Act.put, List.setIfInBounds_toArray, List.set_cons_zero, List.set_cons_succ]
                    refine region_take 6 162 (v := ?vzz6) rfl rfl (by kernel_rfl) (by kernel_rfl) (by kernel_rfl) (fun _ _ _ h => h) (by rfl) (fun w' hS => ?hzz6) ?rzz6
                    case hzz6 => go_simp; with_reducible rfl
                    try simp only [Act.put, List.setIfInBounds_toArray, List.set_cons_zero, List.set_cons_succ]
                    refine region_take 7 163 (v := ?vzz7) rfl rfl (by kernel_rfl) (by kernel_rfl) (by kernel_rfl) (fun _ _ _ h => h) (by rfl) (fun w' hS => ?hzz7) ?rzz7
                    case hzz7 => go_simp; with_reducible rfl
                    try simp only [Act.put, List.setIfInBounds_toArray, List.set_cons_zero, List.set_cons_succ]
                    refine wpAnyH_ready (rs := [8]) (by kernel_rfl) (by simp) (AllReadyH.cons rfl (fun K hK => ?_) AllReadyH.nil)
                    go_simp
                    refine (works_any _).mono ?_
                    rintro e wv ⟨rfl, hP⟩
                    have hBd := hBd.ext hP id
                    have hBo := hBo.ext hP id
                    have hPw := hPw.pure hP
                    refine hK.out _ _ (hP) (fun hHeld => ?_)
                    clear hK K hHeld
                    refine region_now (hP) ?_
                    try simp only [Act.put, List.setIfInBounds_toArray, List.set_cons_zero, List.set_cons_succ]
                    refine region_take 9 165 (v := ?vzz9) rfl rfl (by kernel_rfl) (by kernel_rfl) (by kernel_rfl) (fun _ _ _ h => h) (by rfl) (fun w' hS => ?hzz9) ?rzz9
                    case hzz9 => go_simp; with_reducible rfl
                    try simp only [Act.put, List.setIfInBounds_toArray, List.set_cons_zero, List.set_cons_succ]
                    refine region_take 10 4 (v := ?vzz10) rfl rfl (by kernel_rfl) (by kernel_rfl) (by kernel_rfl) (fun _ _ _ h => h) (by rfl) (fun w' hS => ?hzz10) ?rzz10
                    case hzz10 => go_simp; with_reducible rfl
                    try simp only [Act.put, List.setIfInBounds_toArray, List.set_cons_zero, List.set_cons_succ]
                    refine wpAnyH_done (by kernel_rfl) ?_ _
                    go_simp
                    try simp only [Act.put, List.setIfInBounds_toArray, List.set_cons_zero, List.set_cons_succ]
                    go_wp2_with fail
                    go_ret
                    exact ⟨rfl, hPw.below⟩
    · have HV : Hid ((!(fw && decide (un ≤ 100) && decide (1 ≤ root) && decide (root ≤ (n : Int)))) = true) := Lib.hid (by
        cases fw with
        | false => rfl
        | true => simp only [Bool.true_and]; simp only [true_and] at hgo; simp; omega)
      rw [HV.out]
      go_wp2_with fail
      refine (works_any _).mono ?_
      rintro e wz ⟨rfl, hPz⟩
      go_wp2_with fail
      go_ret
      exact ⟨rfl, ((HPwo.out.pure HPc.out).pure hPz).below⟩

set_option maxRecDepth 100000 in
theorem lifted (os : Os) (started : os.Started) (H : Type) (enc : TypeId × Value → H) :
    ReturnsInHanded {} Try.checked os 5 .any (Rows.checkNumbersSpec.pre6 enc Try.prog Try.f5 Rows.checkNumbersRow.domain false) (Rows.checkNumbersSpec.post enc Try.prog Try.f5 false true false false) := by
  refine returnsInHanded_of_change (C := Try.checked) own started (by kernel_rfl) Try.func5
    (ChangeSpec.witness6 (enc := enc) (C := Try.checked) false ⟨#[], #[.agg #[.slice none 0 0, .int .i64 0], .slice none 0 0], []⟩ 8 (by kernel_rfl) (by kernel_rfl) (by kernel_rfl) (by kernel_rfl)) ?_
  intro W base args ds gs before hval0 hW hcnd _
  have hval : ∀ (j : Nat) t v, Try.f5.params[j]? = some t → args[j]? = some v → Value.okWide Try.prog W .any base t v := hval0
  have hW' := hW
  obtain ⟨p, q, hA0, hV, rfl, hfz, hnd⟩ := hW
  have hA : DataW.TrodAll enc Try.prog W 0 (fun _ => true) true Try.f5.params.toList args.toList ds p := hA0
  rw [Try.params5] at hA hval
  obtain ⟨v0, vs0, d0, ds0, p0, q0, hargs, rfl, rfl, h0, r0⟩ := trodAll_cons hA
  obtain ⟨v1, vs1, d1, ds1, p1, q1, rfl, rfl, rfl, h1, r1⟩ := trodAll_cons r0
  obtain ⟨rfl, rfl, rfl⟩ := trodAll_nil r1
  obtain rfl : args = #[v0, v1] := by cases args; simp_all
  obtain ⟨rfl, rfl⟩ := trodVars_none hV
  have k0 := h0
  have lt0 : ∀ x ∈ p0, x.block < W.heap.size := by obtain ⟨m, hm⟩ := k0; exact DataW.trod_lt m _ _ _ hm
  have k1 := h1
  have lt1 : ∀ x ∈ p1, x.block < W.heap.size := by obtain ⟨m, hm⟩ := k1; exact DataW.trod_lt m _ _ _ hm
  obtain ⟨F0, objs, oa, oc, rows, root, rfl, hOK0, hoc0, hcm0, hwf0, _, hr0⟩ := open_doc (hval 0 24 v0 rfl rfl) h0
  obtain ⟨ua, uc, us, rfl, hu0, hul0, hub0⟩ := open_u8s (hval 1 37 v1 rfl rfl) h1
  clear hA0 hval0
  refine (walk F0 objs oa oc rows root ua uc us W hOK0 hoc0 hcm0 hwf0 hr0 hu0 hul0 hub0).mono fun e W' ⟨he, bel⟩ => ?_
  subst he
  exact ⟨_, rfl, _, _, _, [], _, [], hW', trodAll_mk1 (shut_bool Try.underlying4 _), (trodAll_cons_mk (Below.trod laidOut (by kernel_rfl) (of_decide_eq_true (by kernel_rfl)) k0 bel lt0) (trodAll_cons_mk (Below.trod laidOut (by kernel_rfl) (of_decide_eq_true (by kernel_rfl)) k1 bel lt1) trodAll_mk0)), rfl, bel.frame _, fun h => by cases h⟩

theorem proved : Rows.CheckNumbersSaid :=
  OpenClaim.holds_of_wide 5 Try.f5 rfl rfl rfl rfl rfl rfl rfl ⟨rfl, rfl, rfl, rfl, rfl⟩ rfl rfl rfl rfl rfl (by kernel_rfl) Try.func5 (by kernel_rfl)
    (of_decide_eq_true (by kernel_rfl)) (by unfold Func.isWrapper; first | (rw [if_pos (by decide +kernel)]; kernel_rfl) | (rw [if_neg (by decide +kernel)]; exact ⟨rfl, rfl⟩))
    (fun os started H enc _ => lifted os started H enc)
#print axioms proved
end Go.Proofs.Ytkkmppalifjgnaa.checkNumbers
