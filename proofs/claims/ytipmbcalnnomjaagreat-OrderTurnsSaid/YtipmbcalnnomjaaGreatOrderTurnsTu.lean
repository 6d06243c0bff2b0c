/-
  OrderTurns: any Doc, by the new numbers of any parts, is as the document says. No condition.
-/
import Derived.Test.YtipmbcalnnomjaaGreatWorks25Tu
import Derived.Test.YtipmbcalnnomjaaGreatDSameTu
import Derived.Test.YtipmbcalnnomjaaGreatFewPTu
import Derived.OwnWalk
import Derived.Deep.OwnRows
import Derived.Deep.CutRange
import Derived.Test.YtipmbcalnnomjaaGreatSqTu
set_option linter.unusedVariables false
set_option linter.unusedSimpArgs false
set_option maxRecDepth 100000
namespace Go.Proofs.YtipmbcalnnomjaaGreat.orderTurns
open Go.ChangeShapes Go.WideShapes Go.ChangeAt Go.RowKit Go.Proofs.YtipmbcalnnomjaaGreat
theorem exec_loadR {oi : Oper} {ev : Operand → Value} {w : World} {x : Operand} {b : Nat} {cs : List Value} {T : TypeId} (ho : oi.op = .load 28 x) (hx : ev x = .pointer (some ⟨b, 0, none⟩)) (hB : BlockIs w b cs T) (hl : (Tryz.prog.info? 28).map (·.size) = some cs.length) :
 (execOp ev oi).run Tryz.prog w = .ok (.value (.agg cs.toArray)) w := by
 unfold execOp
 simp only [ho, hx, Instr.loadAt, Instr.sureAddr, Sem.run_bind, Sem.run_pure, Result.andThen_ok, run_loadVar_mid w b 0 28 cs _ hB.range Tryz.underlying28 rfl hl]
theorem sizeP5 : (Tryz.prog.info? 28).map (·.size) = some 5 := by kernel_rfl
theorem flat_le {rows : List (List Int)} {m : Nat} (h : ∀ r ∈ rows, r.length ≤ m) : rows.flatten.length ≤ rows.length * m := by
 induction rows with
 | nil => simp
 | cons r rows ih =>
   rw [List.flatten_cons, List.length_append, List.length_cons, Nat.add_mul]
   have h1 := h r (by simp)
   have h2 := ih (fun q hq => h q (by simp [hq]))
   omega
theorem few_sz {p : PartsP} (h : FewP p) : (p.main.length ≤ 1000000 ∧ p.tree.length ≤ 1000000 ∧ p.first.length ≤ 1000000 ∧ p.own.length ≤ 1000000) ∧ ((orderP p).nums.length ≤ 1000000 ∧ (orderP p).main.length ≤ 1000000 ∧ (orderP p).head.length ≤ 1000000 ∧ (orderP p).first.length ≤ 1000000) := by
 obtain ⟨h1, h2, h3, h4, h5, h6⟩ := h
 have h7 := flat_le h6
 have h8 : p.own.length * 20 ≤ 10 * 20 := Nat.mul_le_mul_right _ h1
 have h9 : p.main.length ≤ 1000000 := by unfold PartsP.main; simp only [List.length_append]; omega
 refine ⟨⟨h9, by omega, by omega, by omega⟩, ?_, h9, ?_, ?_⟩
 ·show (toP _ _).length ≤ _
  rw [toP_len]
  exact Nat.le_trans (mostP_le _) (by decide)
 ·show p.tree.length ≤ _
  omega
 ·show p.first.length ≤ _
  omega
theorem turned_sz {l : List Ob} (tu : List Int) (hz : ∀ x, (obAt l x).v.size ≤ 100000) (main head first : List Int) : ∀ u ∈ turnedP (fun x => turnOb tu (obAt l x)) main head first, u.v.size ≤ 100000 := by
 have hT : ∀ x, (turnOb tu (obAt l x)).v.size ≤ 100000 := fun x => Nat.le_trans (V.turn_size _ _) (hz x)
 have h0 : noOb.v.size ≤ 100000 := by
  have h1 : noOb.v.size = 1 := by unfold noOb nullV; rw [V.size, sizeL]
  omega
 intro u hu
 unfold turnedP at hu
 simp only [List.mem_append, List.mem_map, List.mem_singleton] at hu
 rcases hu with (((⟨x, _, rfl⟩ | rfl) | ⟨x, _, rfl⟩) | rfl) | ⟨x, _, rfl⟩
 ·exact hT x
 ·exact h0
 ·exact hT x
 ·exact h0
 ·exact hT x
set_option maxHeartbeats 8000000 in
theorem walk (F0 : Nat) (objs : List Ob) (oa : Option Addr) (oc : Nat) (rows : List (List Value)) (root : Int) {P : PartsP} {a0 a1 a2 a3 a4 : Option Addr} {n0 n1 n2 n3 n4 c0 c1 c2 c3 c4 : Nat} (w : World)
 (hOK : OKids w F0 objs oa rows) (hoc : objs.length ≤ oc) (hcm : oc ≤ maxLen) (hwf : ∀ u ∈ objs, u.data.size ≤ maxLen ∧ u.v.wf) (hr : (Lit.int .i64 root).wf = true)
 (H : PAt P (.slice a0 n0 c0) (.slice a1 n1 c1) (.slice a2 n2 c2) (.slice a3 n3 c3) (.slice a4 n4 c4) w) (hm : n0 ≤ maxLen ∧ n1 ≤ maxLen ∧ n2 ≤ maxLen ∧ n3 ≤ maxLen ∧ n4 ≤ maxLen) (hmr : ∀ r ∈ P.own, r.length ≤ maxLen) :
 Calls Tryz.prog 3 #[.agg #[.slice oa objs.length oc, .int .i64 root], .agg #[.slice a0 n0 c0, .slice a1 n1 c1, .slice a2 n2 c2, .slice a3 n3 c3, .slice a4 n4 c4]] w fun e w' => e = .returned (.bool true) ∧ Below w.heap.size w w' := by
 have HFw := qh (fun W (hP : Pure w W) => fewo_any F0 objs oa oc rows 40 W (hOK.pure hP) hoc hcm)
 have h80 : fewO objs 40 = true → fewO objs 80 = true := fun hf => by
  unfold fewO at hf ⊢
  rw [Bool.and_eq_true, decide_eq_true_eq] at hf ⊢
  exact ⟨by omega, hf.2⟩
 have HDok := qh (fun (hf : fewO objs 40 = true) => few_docok hOK hwf hr (h80 hf))
 have HFp := qh (fun W (hP : Pure w W) => fewp_any (H.pure hP) hm hmr)
 have HH := qh H
 obtain ⟨n, hn⟩ : ∃ z, z = objs.length := ⟨_, rfl⟩
 obtain ⟨fw, hfw⟩ : ∃ z, z = fewO objs 40 := ⟨_, rfl⟩
 rw [← hn, ← hfw] at HFw
 rw [← hfw] at HDok
 rw [← hn]
 have HN := qh hn
 clear hOK hwf hn hfw hoc hcm hr h80 H hm hmr
 obtain ⟨wo, hwo⟩ : ∃ z, z = (w.alloc (.cells #[.slice oa n oc, .int .i64 root] 24)).alloc (.cells #[.slice a0 n0 c0, .slice a1 n1 c1, .slice a2 n2 c2, .slice a3 n3 c3, .slice a4 n4 c4] 28) := ⟨_, rfl⟩
 obtain ⟨tb, htb⟩ : ∃ z, z = w.heap.size := ⟨_, rfl⟩
 have HPwo : Hid (Pure w wo) := qh (by rw [hwo]; exact (ext_alloc w _).pure (ext_alloc _ _))
 have HBd : Hid (BlockIs wo tb [.slice oa n oc, .int .i64 root] 24) := qh (by rw [hwo, htb]; exact (BlockIs.new w _ _).alloc _)
 have HBp : Hid (BlockIs wo (tb + 1) [.slice a0 n0 c0, .slice a1 n1 c1, .slice a2 n2 c2, .slice a3 n3 c3, .slice a4 n4 c4] 28) := qh (by rw [hwo, htb]; exact blk_alloc w _ _ _)
 have HWo : Hid ((w.alloc (.cells #[.slice oa n oc, .int .i64 root] 24)).alloc (.cells #[.slice a0 n0 c0, .slice a1 n1 c1, .slice a2 n2 c2, .slice a3 n3 c3, .slice a4 n4 c4] 28) = wo) := qh hwo.symm
 have HTb := qh htb
 have d0 : wo.cell? ⟨tb, 0, none⟩ = some (.slice oa n oc) := HBd.out.cell 0
 have hdl := HBd.out.lt
 clear hwo htb
 cases fw with
 | false =>
   clear HDok
   go_enter Tryz.func3, Tryz.ntmps3
   go_upto_region 1 with (fail)
   rw [HWo.out, ← HTb.out]
   go_wp2_with fail
   refine (HFw.out wo HPwo.out).mono ?_
   rintro e wf ⟨rfl, hPf⟩
   have HPf := qh (HPwo.out.pure hPf)
   clear hPf
   go_wp2_with fail
   refine (works_any _).mono ?_
   rintro e wz ⟨rfl, hPz⟩
   go_wp2_with fail
   go_ret
   exact ⟨rfl, (HPf.out.pure hPz).below⟩
 | true =>
   have HD := qh (HDok.out rfl)
   clear HDok
   go_enter Tryz.func3, Tryz.ntmps3
   go_upto_region 1 with (fail)
   rw [HWo.out, ← HTb.out]
   go_wp2_with fail
   refine (HFw.out wo HPwo.out).mono ?_
   rintro e w2 ⟨rfl, hPf⟩
   have HP2 := qh (HPwo.out.pure hPf)
   have HB2 := qh (HBd.out.ext hPf id)
   have hBp2 := HBp.out.ext hPf id
   have HBp2 := qh hBp2
   have x0 : w2.cell? ⟨tb + 1, 0, none⟩ = some (.slice a0 n0 c0) := hBp2.cell 0
   have x1 : w2.cell? ⟨tb + 1, 1, none⟩ = some (.slice a1 n1 c1) := hBp2.cell 1
   have x2 : w2.cell? ⟨tb + 1, 2, none⟩ = some (.slice a2 n2 c2) := hBp2.cell 2
   have x3 : w2.cell? ⟨tb + 1, 3, none⟩ = some (.slice a3 n3 c3) := hBp2.cell 3
   have x4 : w2.cell? ⟨tb + 1, 4, none⟩ = some (.slice a4 n4 c4) := hBp2.cell 4
   have hxl := hBp2.lt
   clear hPf hBp2 d0 hdl
   go_wp2_with fail
   refine (HFp.out w2 HP2.out).mono ?_
   rintro e w3 ⟨yes, rfl, hq, hP3⟩
   have HP3 := qh (HP2.out.pure hP3)
   have HB3 := qh (HB2.out.ext hP3 id)
   have HBp3 := qh (HBp2.out.ext hP3 id)
   clear x0 x1 x2 x3 x4 hxl hP3 HBp HBd HB2 HBp2
   cases yes with
   | false =>
     clear hq
     go_wp2_with fail
     refine (works_any _).mono ?_
     rintro e wz ⟨rfl, hPz⟩
     go_wp2_with fail
     go_ret
     exact ⟨rfl, (HP3.out.pure hPz).below⟩
   | true =>
     have hz := few_sz (hq rfl)
     clear hq
     have hsz := turned_sz (orderP P).nums (fun x => HD.out.at_size x) (orderP P).main (orderP P).head (orderP P).first
     have hLl : (turnedP (fun x => turnOb (orderP P).nums (obAt objs x)) (orderP P).main (orderP P).head (orderP P).first).length ≤ 10000000 := by rw [turnedP_len]; omega
     have hO1 : ∀ W, Pure w W → Calls Tryz.prog 9 #[.agg #[.slice a0 n0 c0, .slice a1 n1 c1, .slice a2 n2 c2, .slice a3 n3 c3, .slice a4 n4 c4]] W (OrdTo (orderP P) W) := fun W hP => orderof_any (HH.out.pure hP) hz.1
     have hO2 : ∀ W, Pure w W → Calls Tryz.prog 11 #[.agg #[.slice a0 n0 c0, .slice a1 n1 c1, .slice a2 n2 c2, .slice a3 n3 c3, .slice a4 n4 c4]] W (OrdTo (orderP P) W) := fun W hP => rorderof_any (HH.out.pure hP) hz.1
     obtain ⟨L, hL⟩ : ∃ z, z = turnedP (fun x => turnOb (orderP P).nums (obAt objs x)) (orderP P).main (orderP P).head (orderP P).first := ⟨_, rfl⟩
     obtain ⟨r2, hr2⟩ : ∃ z, z = (orderP P).main.length + 2 := ⟨_, rfl⟩
     have hT1 : ∀ W, Pure w W → ∀ (a0 a1 a2 a3 : Option Addr) (z0 z1 z2 z3 c0 c1 c2 c3 : Nat) (x y : Int), OAt (orderP P) (.slice a0 z0 c0) (.slice a1 z1 c1) (.slice a2 z2 c2) (.slice a3 z3 c3) W →
      Calls Tryz.prog 8 #[.agg #[.slice oa n oc, .int .i64 root], .agg #[.slice a0 z0 c0, .slice a1 z1 c1, .slice a2 z2 c2, .slice a3 z3 c3, .int .i64 x, .int .i64 y]] W (TurnTo L F0 (r2 : Int) W) := fun W hP a0 a1 a2 a3 z0 z1 z2 z3 c0 c1 c2 c3 x y H => by
      have hD' := HD.out.pure hP
      have := turn_any F0 objs oa oc root rows W hD'.ok (by have := hD'.len; omega) hD'.size H (x := x) (y := y) hz.2
      rw [← HN.out] at this
      rw [hL, hr2]
      exact this
     have hT2 : ∀ W, Pure w W → ∀ (a0 a1 a2 a3 : Option Addr) (z0 z1 z2 z3 c0 c1 c2 c3 : Nat) (x y : Int), OAt (orderP P) (.slice a0 z0 c0) (.slice a1 z1 c1) (.slice a2 z2 c2) (.slice a3 z3 c3) W →
      Calls Tryz.prog 10 #[.agg #[.slice oa n oc, .int .i64 root], .agg #[.slice a0 z0 c0, .slice a1 z1 c1, .slice a2 z2 c2, .slice a3 z3 c3, .int .i64 x, .int .i64 y]] W (DocTo L F0 (r2 : Int) W) := fun W hP a0 a1 a2 a3 z0 z1 z2 z3 c0 c1 c2 c3 x y H => by
      have hD' := HD.out.pure hP
      have := rturn_any F0 objs oa oc root rows W hD' H (x := x) (y := y) hz.2
      rw [← HN.out] at this
      rw [hL, hr2]
      exact this
     rw [← hL] at hsz hLl
     have HSz := qh hsz
     have HLl := qh hLl
     have HO1 : Hid (∀ W, Pure w3 W → Calls Tryz.prog 9 #[.agg #[.slice a0 n0 c0, .slice a1 n1 c1, .slice a2 n2 c2, .slice a3 n3 c3, .slice a4 n4 c4]] W (OrdTo (orderP P) W)) := qh (fun W hP => hO1 W (HP3.out.pure hP))
     have HO2' : Hid (∀ W, Pure w3 W → Calls Tryz.prog 11 #[.agg #[.slice a0 n0 c0, .slice a1 n1 c1, .slice a2 n2 c2, .slice a3 n3 c3, .slice a4 n4 c4]] W (OrdTo (orderP P) W)) := qh (fun W hP => hO2 W (HP3.out.pure hP))
     have HT1 := qh (fun W (hP : Pure w3 W) => hT1 W (HP3.out.pure hP))
     have HT2' := qh (fun W (hP : Pure w3 W) => hT2 W (HP3.out.pure hP))
     unfold OrdTo at HO1 HO2'
     unfold TurnTo at HT1
     unfold DocTo at HT2'
     clear hz hsz hLl hO1 hO2 hL hr2 hT1 hT2 HH HD
     go_upto_region 3 with (fail)
     go_cut [5] from 17 to 30 (fun v W => ∃ (vb g N : Nat) (rws : List (List Value)), v = .pointer (some ⟨vb, 0, none⟩) ∧ Hid (BlockIs W vb [.slice (some ⟨g, 0, none⟩) N N, .int .i64 (r2 : Int)] 24) ∧ Hid (N = L.length) ∧ Hid (OKids W (F0 + 1) L (some ⟨g, 0, none⟩) rws) ∧ Hid (Pure w3 W))
     case first =>
      rename_i J0 K0 hJ0 hK0
      obtain ⟨wd, hwd⟩ : ∃ z, z = w3.drew := ⟨_, rfl⟩
      have hPd : Pure w3 wd := by rw [hwd]; exact (Ext.refl _ w3).drew
      have HBdd := qh (HB3.out.ext hPd id)
      have HBpd := qh (HBp3.out.ext hPd id)
      have HLt : Hid (¬ wd.heap.size ≤ tb ∧ ¬ wd.heap.size ≤ tb + 1) := qh ⟨Nat.not_le.2 HBdd.out.lt, Nat.not_le.2 HBpd.out.lt⟩
      have hPw : Pure wd wd := Ext.refl _ _
      refine region_start (fun b => wd.heap.size ≤ b) (by kernel_rfl) ?_
      try simp only [Act.put, sA, sZ, sS]
      rw [← hwd]
      clear hwd
      refine region_take 0 17 (v := ?vot30) rfl rfl (by kernel_rfl) (by kernel_rfl) (by kernel_rfl) (fun _ _ _ h => h) (by rfl) (fun w' hS => ?hot30) ?rot30
      case hot30 => (refine exec_loadDc (x := .tmp 2) ?_ ?_ (HBdd.out.ext hS HLt.out.1) sizeDo <;> rfl)
      try simp only [Act.put, sA, sZ, sS]
      refine region_take 1 18 (v := ?vot31) rfl rfl (by kernel_rfl) (by kernel_rfl) (by kernel_rfl) (fun _ _ _ h => h) (by rfl) (fun w' hS => ?hot31) ?rot31
      case hot31 => go_simp; with_reducible rfl
      try simp only [Act.put, sA, sZ, sS]
      refine region_take 2 19 (v := ?vot32) rfl rfl (by kernel_rfl) (by kernel_rfl) (by kernel_rfl) (fun _ _ _ h => h) (by rfl) (fun w' hS => ?hot32) ?rot32
      case hot32 => (have e : w'.cell? ⟨tb + 1, 0, none⟩ = some (.slice a0 n0 c0) := (HBpd.out.ext hS HLt.out.2).cell 0; go_simp; with_reducible rfl)
      try simp only [Act.put, sA, sZ, sS]
      refine region_take 3 20 (v := ?vot33) rfl rfl (by kernel_rfl) (by kernel_rfl) (by kernel_rfl) (fun _ _ _ h => h) (by rfl) (fun w' hS => ?hot33) ?rot33
      case hot33 => go_simp; with_reducible rfl
      try simp only [Act.put, sA, sZ, sS]
      refine region_take 4 21 (v := ?vot34) rfl rfl (by kernel_rfl) (by kernel_rfl) (by kernel_rfl) (fun _ _ _ h => h) (by rfl) (fun w' hS => ?hot34) ?rot34
      case hot34 => (have e : w'.cell? ⟨tb + 1, 1, none⟩ = some (.slice a1 n1 c1) := (HBpd.out.ext hS HLt.out.2).cell 1; go_simp; with_reducible rfl)
      try simp only [Act.put, sA, sZ, sS]
      refine region_take 5 22 (v := ?vot35) rfl rfl (by kernel_rfl) (by kernel_rfl) (by kernel_rfl) (fun _ _ _ h => h) (by rfl) (fun w' hS => ?hot35) ?rot35
      case hot35 => go_simp; with_reducible rfl
      try simp only [Act.put, sA, sZ, sS]
      refine region_take 6 23 (v := ?vot36) rfl rfl (by kernel_rfl) (by kernel_rfl) (by kernel_rfl) (fun _ _ _ h => h) (by rfl) (fun w' hS => ?hot36) ?rot36
      case hot36 => (have e : w'.cell? ⟨tb + 1, 2, none⟩ = some (.slice a2 n2 c2) := (HBpd.out.ext hS HLt.out.2).cell 2; go_simp; with_reducible rfl)
      try simp only [Act.put, sA, sZ, sS]
      refine region_take 7 24 (v := ?vot37) rfl rfl (by kernel_rfl) (by kernel_rfl) (by kernel_rfl) (fun _ _ _ h => h) (by rfl) (fun w' hS => ?hot37) ?rot37
      case hot37 => go_simp; with_reducible rfl
      try simp only [Act.put, sA, sZ, sS]
      refine region_take 8 25 (v := ?vot38) rfl rfl (by kernel_rfl) (by kernel_rfl) (by kernel_rfl) (fun _ _ _ h => h) (by rfl) (fun w' hS => ?hot38) ?rot38
      case hot38 => (have e : w'.cell? ⟨tb + 1, 3, none⟩ = some (.slice a3 n3 c3) := (HBpd.out.ext hS HLt.out.2).cell 3; go_simp; with_reducible rfl)
      try simp only [Act.put, sA, sZ, sS]
      refine region_take 9 26 (v := ?vot39) rfl rfl (by kernel_rfl) (by kernel_rfl) (by kernel_rfl) (fun _ _ _ h => h) (by rfl) (fun w' hS => ?hot39) ?rot39
      case hot39 => go_simp; with_reducible rfl
      try simp only [Act.put, sA, sZ, sS]
      refine region_take 10 27 (v := ?vot310) rfl rfl (by kernel_rfl) (by kernel_rfl) (by kernel_rfl) (fun _ _ _ h => h) (by rfl) (fun w' hS => ?hot310) ?rot310
      case hot310 => (have e : w'.cell? ⟨tb + 1, 4, none⟩ = some (.slice a4 n4 c4) := (HBpd.out.ext hS HLt.out.2).cell 4; go_simp; with_reducible rfl)
      try simp only [Act.put, sA, sZ, sS]
      refine region_take 11 28 (v := ?vot311) rfl rfl (by kernel_rfl) (by kernel_rfl) (by kernel_rfl) (fun _ _ _ h => h) (by rfl) (fun w' hS => ?hot311) ?rot311
      case hot311 => go_simp; with_reducible rfl
      try simp only [Act.put, sA, sZ, sS]
      refine wpAnyH_ready (rs := [12, 14]) (by kernel_rfl) (by simp) (AllReadyH.cons rfl (fun K hK => ?_) (AllReadyH.cons rfl (fun K hK => ?_) (AllReadyH.nil)))
      go_simp
      refine (HO1.out wd (hPd.pure hPw)).mono ?_
      rintro e V1 ⟨b0, b1, b2, b3, q0, q1, q2, q3, d0, d1, d2, d3, rfl, hO, hP⟩
      have hO := hO.now
      have hPw := hPw.pure hP
      refine hK.out _ _ (hP.mono (fun _ _ e => e.elim)) (fun hHeld => ?_)
      clear hK K hHeld
      refine region_now (hP.mono (fun _ _ e => e.elim)) ?_
      try simp only [Act.put, sA, sZ, sS]
      refine wpAnyH_ready (rs := [13, 14]) (by kernel_rfl) (by simp) (AllReadyH.cons rfl (fun K hK => ?_) (AllReadyH.cons rfl (fun K hK => ?_) (AllReadyH.nil)))
      go_simp
      refine (HT1.out V1 (hPd.pure hPw) b0 b1 b2 b3 q0 q1 q2 q3 d0 d1 d2 d3 _ _ hO).mono ?_
      rintro e V2 ⟨g, N, rws, rfl, hN, _, hBg, hXx, hP⟩
      have HNq := qh hN
      have hKd := hXx.ok hBg
      clear hBg hXx hN
      have hPw := hPw.pure hP
      refine hK.out _ _ (hP.mono (fun _ _ e => e.elim)) (fun hHeld => ?_)
      clear hK K hHeld
      refine region_now (hP.mono (fun _ _ e => e.elim)) ?_
      try simp only [Act.put, sA, sZ, sS]
      refine wpAnyH_ready (rs := [14]) (by kernel_rfl) (by simp) (AllReadyH.cons rfl (fun K hK => ?_) AllReadyH.nil)
      go_simp
      obtain ⟨V3, hwn⟩ : ∃ z, z = V2.alloc (.cells #[.slice none 0 0, .int .i64 0] 24) := ⟨_, rfl⟩
      have hP : Pure V2 V3 := by rw [hwn]; exact ext_alloc _ _
      have hBv : BlockIs V3 V2.heap.size [.slice none 0 0, .int .i64 0] 24 := by rw [hwn]; exact BlockIs.new _ _ _
      rw [← hwn]
      obtain ⟨vb, hvb⟩ : ∃ z, z = V2.heap.size := ⟨_, rfl⟩
      rw [← hvb] at hBv ⊢
      have hvd : wd.heap.size ≤ vb := by rw [hvb]; exact hPw.size
      have hKd := hKd.pure hP
      have hPw := hPw.pure hP
      clear hwn hvb
      refine hK.out _ _ (hP.mono (fun _ _ e => e.elim)) (fun hHeld => ?_)
      clear hK K hHeld
      refine region_now (hP.mono (fun _ _ e => e.elim)) ?_
      try simp only [Act.put, sA, sZ, sS]
      refine wpAnyH_ready (rs := [15]) (by kernel_rfl) (by simp) (AllReadyH.cons rfl (fun K hK => ?_) AllReadyH.nil)
      have hTh : V3.there vb 0 (#[.slice (some ⟨g, 0, none⟩) N N, .int .i64 (r2 : Int)] : Array Value).size := hBv.there 2 rfl
      have hSi : (Tryz.prog.info? 24).map (·.size) = some (#[.slice (some ⟨g, 0, none⟩) N N, .int .i64 (r2 : Int)] : Array Value).size := sizeDo
      have hOn : (#[.slice (some ⟨g, 0, none⟩) N N, .int .i64 (r2 : Int)] : Array Value).all (fun u => u.oneCell') = true := one_do _ _ _ _
      obtain ⟨V4, hV4⟩ : ∃ z, z = V3.setCells vb 0 [.slice (some ⟨g, 0, none⟩) N N, .int .i64 (r2 : Int)] := ⟨_, rfl⟩
      have hXv : Ext (fun b => b = vb) V3 V4 := by rw [hV4]; exact Ext.setCells (S := fun b => b = vb) _ 0 _ (Ext.refl _ _) (fun _ => rfl)
      have hX : Ext (fun b => wd.heap.size ≤ b) V3 V4 := hXv.mono (fun b _ e => by have e2 : b = vb := e; omega)
      have HBf0 : Hid (BlockIs V4 vb [.slice (some ⟨g, 0, none⟩) N N, .int .i64 (r2 : Int)] 24) := qh (by rw [hV4]; exact hBv.setAll _ rfl)
      have HK0 := qh (hKd.small hBv (by decide) hXv)
      have HN0 := HNq
      have HPf0 : Hid (Pure w3 V4) := qh (hPd.pure (hPw.trans hX (fun i hi e => by omega)))
      have HV4 : Hid (V3.setCells vb 0 (#[.slice (some ⟨g, 0, none⟩) N N, .int .i64 (r2 : Int)] : Array Value).toList = V4) := qh (by rw [hV4])
      clear hV4
      refine step_of_list ?_
      refine wpList_store_mid rfl 24 (.tmp 5) (.tmp 30) rfl vb 0 #[.slice (some ⟨g, 0, none⟩) N N, .int .i64 (r2 : Int)] rfl rfl hTh hSi hOn ?_
      rw [HV4.out]
      refine hK.out _ _ (hX) (fun hHeld => ?_)
      clear hK K hHeld
      refine region_now (hX) ?_
      try simp only [Act.put, sA, sZ, sS]
      refine wpAnyH_done (by kernel_rfl) ?_ _
      rotate_left
      go_simp
      obtain ⟨V2, hwn⟩ : ∃ z, z = V1.alloc (.cells #[.slice none 0 0, .int .i64 0] 24) := ⟨_, rfl⟩
      have hP : Pure V1 V2 := by rw [hwn]; exact ext_alloc _ _
      have hBv : BlockIs V2 V1.heap.size [.slice none 0 0, .int .i64 0] 24 := by rw [hwn]; exact BlockIs.new _ _ _
      rw [← hwn]
      obtain ⟨vb, hvb⟩ : ∃ z, z = V1.heap.size := ⟨_, rfl⟩
      rw [← hvb] at hBv ⊢
      have hvd : wd.heap.size ≤ vb := by rw [hvb]; exact hPw.size
      have hO := hO.pure hP
      have hPw := hPw.pure hP
      clear hwn hvb
      refine hK.out _ _ (hP.mono (fun _ _ e => e.elim)) (fun hHeld => ?_)
      clear hK K hHeld
      refine region_now (hP.mono (fun _ _ e => e.elim)) ?_
      try simp only [Act.put, sA, sZ, sS]
      refine wpAnyH_ready (rs := [13]) (by kernel_rfl) (by simp) (AllReadyH.cons rfl (fun K hK => ?_) AllReadyH.nil)
      go_simp
      refine (HT1.out V2 (hPd.pure hPw) b0 b1 b2 b3 q0 q1 q2 q3 d0 d1 d2 d3 _ _ hO).mono ?_
      rintro e V3 ⟨g, N, rws, rfl, hN, _, hBg, hXx, hP⟩
      have HNq := qh hN
      have hKd := hXx.ok hBg
      clear hBg hXx hN
      have hBv := hBv.ext hP id
      have hPw := hPw.pure hP
      refine hK.out _ _ (hP.mono (fun _ _ e => e.elim)) (fun hHeld => ?_)
      clear hK K hHeld
      refine region_now (hP.mono (fun _ _ e => e.elim)) ?_
      try simp only [Act.put, sA, sZ, sS]
      refine wpAnyH_ready (rs := [15]) (by kernel_rfl) (by simp) (AllReadyH.cons rfl (fun K hK => ?_) AllReadyH.nil)
      have hTh : V3.there vb 0 (#[.slice (some ⟨g, 0, none⟩) N N, .int .i64 (r2 : Int)] : Array Value).size := hBv.there 2 rfl
      have hSi : (Tryz.prog.info? 24).map (·.size) = some (#[.slice (some ⟨g, 0, none⟩) N N, .int .i64 (r2 : Int)] : Array Value).size := sizeDo
      have hOn : (#[.slice (some ⟨g, 0, none⟩) N N, .int .i64 (r2 : Int)] : Array Value).all (fun u => u.oneCell') = true := one_do _ _ _ _
      obtain ⟨V4, hV4⟩ : ∃ z, z = V3.setCells vb 0 [.slice (some ⟨g, 0, none⟩) N N, .int .i64 (r2 : Int)] := ⟨_, rfl⟩
      have hXv : Ext (fun b => b = vb) V3 V4 := by rw [hV4]; exact Ext.setCells (S := fun b => b = vb) _ 0 _ (Ext.refl _ _) (fun _ => rfl)
      have hX : Ext (fun b => wd.heap.size ≤ b) V3 V4 := hXv.mono (fun b _ e => by have e2 : b = vb := e; omega)
      have HBf0 : Hid (BlockIs V4 vb [.slice (some ⟨g, 0, none⟩) N N, .int .i64 (r2 : Int)] 24) := qh (by rw [hV4]; exact hBv.setAll _ rfl)
      have HK0 := qh (hKd.small hBv (by decide) hXv)
      have HN0 := HNq
      have HPf0 : Hid (Pure w3 V4) := qh (hPd.pure (hPw.trans hX (fun i hi e => by omega)))
      have HV4 : Hid (V3.setCells vb 0 (#[.slice (some ⟨g, 0, none⟩) N N, .int .i64 (r2 : Int)] : Array Value).toList = V4) := qh (by rw [hV4])
      clear hV4
      refine step_of_list ?_
      refine wpList_store_mid rfl 24 (.tmp 5) (.tmp 30) rfl vb 0 #[.slice (some ⟨g, 0, none⟩) N N, .int .i64 (r2 : Int)] rfl rfl hTh hSi hOn ?_
      rw [HV4.out]
      refine hK.out _ _ (hX) (fun hHeld => ?_)
      clear hK K hHeld
      refine region_now (hX) ?_
      try simp only [Act.put, sA, sZ, sS]
      refine wpAnyH_done (by kernel_rfl) ?_ _
      rotate_left
      go_simp
      obtain ⟨V1, hwn⟩ : ∃ z, z = wd.alloc (.cells #[.slice none 0 0, .int .i64 0] 24) := ⟨_, rfl⟩
      have hP : Pure wd V1 := by rw [hwn]; exact ext_alloc _ _
      have hBv : BlockIs V1 wd.heap.size [.slice none 0 0, .int .i64 0] 24 := by rw [hwn]; exact BlockIs.new _ _ _
      rw [← hwn]
      obtain ⟨vb, hvb⟩ : ∃ z, z = wd.heap.size := ⟨_, rfl⟩
      rw [← hvb] at hBv ⊢
      have hvd : wd.heap.size ≤ vb := by rw [hvb]; exact hPw.size
      have hPw := hPw.pure hP
      clear hwn hvb
      refine hK.out _ _ (hP.mono (fun _ _ e => e.elim)) (fun hHeld => ?_)
      clear hK K hHeld
      refine region_now (hP.mono (fun _ _ e => e.elim)) ?_
      try simp only [Act.put, sA, sZ, sS]
      refine wpAnyH_ready (rs := [12]) (by kernel_rfl) (by simp) (AllReadyH.cons rfl (fun K hK => ?_) AllReadyH.nil)
      go_simp
      refine (HO1.out V1 (hPd.pure hPw)).mono ?_
      rintro e V2 ⟨b0, b1, b2, b3, q0, q1, q2, q3, d0, d1, d2, d3, rfl, hO, hP⟩
      have hO := hO.now
      have hBv := hBv.ext hP id
      have hPw := hPw.pure hP
      refine hK.out _ _ (hP.mono (fun _ _ e => e.elim)) (fun hHeld => ?_)
      clear hK K hHeld
      refine region_now (hP.mono (fun _ _ e => e.elim)) ?_
      try simp only [Act.put, sA, sZ, sS]
      refine wpAnyH_ready (rs := [13]) (by kernel_rfl) (by simp) (AllReadyH.cons rfl (fun K hK => ?_) AllReadyH.nil)
      go_simp
      refine (HT1.out V2 (hPd.pure hPw) b0 b1 b2 b3 q0 q1 q2 q3 d0 d1 d2 d3 _ _ hO).mono ?_
      rintro e V3 ⟨g, N, rws, rfl, hN, _, hBg, hXx, hP⟩
      have HNq := qh hN
      have hKd := hXx.ok hBg
      clear hBg hXx hN
      have hBv := hBv.ext hP id
      have hPw := hPw.pure hP
      refine hK.out _ _ (hP.mono (fun _ _ e => e.elim)) (fun hHeld => ?_)
      clear hK K hHeld
      refine region_now (hP.mono (fun _ _ e => e.elim)) ?_
      try simp only [Act.put, sA, sZ, sS]
      refine wpAnyH_ready (rs := [15]) (by kernel_rfl) (by simp) (AllReadyH.cons rfl (fun K hK => ?_) AllReadyH.nil)
      have hTh : V3.there vb 0 (#[.slice (some ⟨g, 0, none⟩) N N, .int .i64 (r2 : Int)] : Array Value).size := hBv.there 2 rfl
      have hSi : (Tryz.prog.info? 24).map (·.size) = some (#[.slice (some ⟨g, 0, none⟩) N N, .int .i64 (r2 : Int)] : Array Value).size := sizeDo
      have hOn : (#[.slice (some ⟨g, 0, none⟩) N N, .int .i64 (r2 : Int)] : Array Value).all (fun u => u.oneCell') = true := one_do _ _ _ _
      obtain ⟨V4, hV4⟩ : ∃ z, z = V3.setCells vb 0 [.slice (some ⟨g, 0, none⟩) N N, .int .i64 (r2 : Int)] := ⟨_, rfl⟩
      have hXv : Ext (fun b => b = vb) V3 V4 := by rw [hV4]; exact Ext.setCells (S := fun b => b = vb) _ 0 _ (Ext.refl _ _) (fun _ => rfl)
      have hX : Ext (fun b => wd.heap.size ≤ b) V3 V4 := hXv.mono (fun b _ e => by have e2 : b = vb := e; omega)
      have HBf0 : Hid (BlockIs V4 vb [.slice (some ⟨g, 0, none⟩) N N, .int .i64 (r2 : Int)] 24) := qh (by rw [hV4]; exact hBv.setAll _ rfl)
      have HK0 := qh (hKd.small hBv (by decide) hXv)
      have HN0 := HNq
      have HPf0 : Hid (Pure w3 V4) := qh (hPd.pure (hPw.trans hX (fun i hi e => by omega)))
      have HV4 : Hid (V3.setCells vb 0 (#[.slice (some ⟨g, 0, none⟩) N N, .int .i64 (r2 : Int)] : Array Value).toList = V4) := qh (by rw [hV4])
      clear hV4
      refine step_of_list ?_
      refine wpList_store_mid rfl 24 (.tmp 5) (.tmp 30) rfl vb 0 #[.slice (some ⟨g, 0, none⟩) N N, .int .i64 (r2 : Int)] rfl rfl hTh hSi hOn ?_
      rw [HV4.out]
      refine hK.out _ _ (hX) (fun hHeld => ?_)
      clear hK K hHeld
      refine region_now (hX) ?_
      try simp only [Act.put, sA, sZ, sS]
      refine wpAnyH_done (by kernel_rfl) ?_ _
      rotate_left
      all_goals
       go_simp
       try simp only [Act.put, sA, sZ, sS]
       refine hK0 _ _ ?_
       go_meet
       exact ⟨_, _, _, _, rfl, HBf0, HN0, HK0, HPf0⟩
     obtain ⟨vb1, g1, N1, rws1, rfl, HA1, HN1, HK1, HP34⟩ := hcut
     obtain ⟨w4, rfl⟩ : ∃ z : World, z = wc := ⟨_, rfl⟩
     have HB4 := qh (HB3.out.ext HP34.out id)
     have HBp4 := qh (HBp3.out.ext HP34.out id)
     have HO2 := qh (fun W (hP : Pure w4 W) => HO2'.out W (HP34.out.pure hP))
     have HT2 := qh (fun W (hP : Pure w4 W) => HT2'.out W (HP34.out.pure hP))
     clear HO1 HT1 HO2' HT2' HB3 HBp3
     go_upto_region 4 with (fail)
     go_cut [6] from 31 to 34 (fun v W => ∃ (vb : Nat) (g : Option Addr) (N gc : Nat) (rws : List (List Value)), v = .pointer (some ⟨vb, 0, none⟩) ∧ Hid (BlockIs W vb [.slice g N gc, .int .i64 (r2 : Int)] 24) ∧ Hid (N = L.length) ∧ Hid (OKids W (F0 + 1) L g rws) ∧ Hid (Pure w4 W))
     case first =>
      rename_i J0 K0 hJ0 hK0
      obtain ⟨wd, hwd⟩ : ∃ z, z = w4.drew := ⟨_, rfl⟩
      have hPd : Pure w4 wd := by rw [hwd]; exact (Ext.refl _ w4).drew
      have HBdd := qh (HB4.out.ext hPd id)
      have HBpd := qh (HBp4.out.ext hPd id)
      have HLt : Hid (¬ wd.heap.size ≤ tb ∧ ¬ wd.heap.size ≤ tb + 1) := qh ⟨Nat.not_le.2 HBdd.out.lt, Nat.not_le.2 HBpd.out.lt⟩
      have hPw : Pure wd wd := Ext.refl _ _
      refine region_start (fun b => wd.heap.size ≤ b) (by kernel_rfl) ?_
      try simp only [Act.put, sA, sZ, sS]
      rw [← hwd]
      clear hwd
      refine region_take 0 31 (v := ?vot40) rfl rfl (by kernel_rfl) (by kernel_rfl) (by kernel_rfl) (fun _ _ _ h => h) (by rfl) (fun w' hS => ?hot40) ?rot40
      case hot40 => (refine exec_loadDc (x := .tmp 2) ?_ ?_ (HBdd.out.ext hS HLt.out.1) sizeDo <;> rfl)
      try simp only [Act.put, sA, sZ, sS]
      refine region_take 1 32 (v := ?vot41) rfl rfl (by kernel_rfl) (by kernel_rfl) (by kernel_rfl) (fun _ _ _ h => h) (by rfl) (fun w' hS => ?hot41) ?rot41
      case hot41 => (refine exec_loadR (x := .tmp 3) ?_ ?_ (HBpd.out.ext hS HLt.out.2) sizeP5 <;> rfl)
      try simp only [Act.put, sA, sZ, sS]
      refine wpAnyH_ready (rs := [2, 4]) (by kernel_rfl) (by simp) (AllReadyH.cons rfl (fun K hK => ?_) (AllReadyH.cons rfl (fun K hK => ?_) (AllReadyH.nil)))
      go_simp
      refine (HO2.out wd (hPd.pure hPw)).mono ?_
      rintro e V1 ⟨b0, b1, b2, b3, q0, q1, q2, q3, d0, d1, d2, d3, rfl, hO, hP⟩
      have hO := hO.now
      have hPw := hPw.pure hP
      refine hK.out _ _ (hP.mono (fun _ _ e => e.elim)) (fun hHeld => ?_)
      clear hK K hHeld
      refine region_now (hP.mono (fun _ _ e => e.elim)) ?_
      try simp only [Act.put, sA, sZ, sS]
      refine wpAnyH_ready (rs := [3, 4]) (by kernel_rfl) (by simp) (AllReadyH.cons rfl (fun K hK => ?_) (AllReadyH.cons rfl (fun K hK => ?_) (AllReadyH.nil)))
      go_simp
      refine (HT2.out V1 (hPd.pure hPw) b0 b1 b2 b3 q0 q1 q2 q3 d0 d1 d2 d3 _ _ hO).mono ?_
      rintro e V2 ⟨g, N, gc, rws, rfl, hN, hKd, hP⟩
      have HNq := qh hN
      clear hN
      have hPw := hPw.pure hP
      refine hK.out _ _ (hP.mono (fun _ _ e => e.elim)) (fun hHeld => ?_)
      clear hK K hHeld
      refine region_now (hP.mono (fun _ _ e => e.elim)) ?_
      try simp only [Act.put, sA, sZ, sS]
      refine wpAnyH_ready (rs := [4]) (by kernel_rfl) (by simp) (AllReadyH.cons rfl (fun K hK => ?_) AllReadyH.nil)
      go_simp
      obtain ⟨V3, hwn⟩ : ∃ z, z = V2.alloc (.cells #[.slice none 0 0, .int .i64 0] 24) := ⟨_, rfl⟩
      have hP : Pure V2 V3 := by rw [hwn]; exact ext_alloc _ _
      have hBv : BlockIs V3 V2.heap.size [.slice none 0 0, .int .i64 0] 24 := by rw [hwn]; exact BlockIs.new _ _ _
      rw [← hwn]
      obtain ⟨vb, hvb⟩ : ∃ z, z = V2.heap.size := ⟨_, rfl⟩
      rw [← hvb] at hBv ⊢
      have hvd : wd.heap.size ≤ vb := by rw [hvb]; exact hPw.size
      have hKd := hKd.pure hP
      have hPw := hPw.pure hP
      clear hwn hvb
      refine hK.out _ _ (hP.mono (fun _ _ e => e.elim)) (fun hHeld => ?_)
      clear hK K hHeld
      refine region_now (hP.mono (fun _ _ e => e.elim)) ?_
      try simp only [Act.put, sA, sZ, sS]
      refine wpAnyH_ready (rs := [5]) (by kernel_rfl) (by simp) (AllReadyH.cons rfl (fun K hK => ?_) AllReadyH.nil)
      have hTh : V3.there vb 0 (#[.slice g N gc, .int .i64 (r2 : Int)] : Array Value).size := hBv.there 2 rfl
      have hSi : (Tryz.prog.info? 24).map (·.size) = some (#[.slice g N gc, .int .i64 (r2 : Int)] : Array Value).size := sizeDo
      have hOn : (#[.slice g N gc, .int .i64 (r2 : Int)] : Array Value).all (fun u => u.oneCell') = true := one_do _ _ _ _
      obtain ⟨V4, hV4⟩ : ∃ z, z = V3.setCells vb 0 [.slice g N gc, .int .i64 (r2 : Int)] := ⟨_, rfl⟩
      have hXv : Ext (fun b => b = vb) V3 V4 := by rw [hV4]; exact Ext.setCells (S := fun b => b = vb) _ 0 _ (Ext.refl _ _) (fun _ => rfl)
      have hX : Ext (fun b => wd.heap.size ≤ b) V3 V4 := hXv.mono (fun b _ e => by have e2 : b = vb := e; omega)
      have HBf0 : Hid (BlockIs V4 vb [.slice g N gc, .int .i64 (r2 : Int)] 24) := qh (by rw [hV4]; exact hBv.setAll _ rfl)
      have HK0 := qh (hKd.small hBv (by decide) hXv)
      have HN0 := HNq
      have HPf0 : Hid (Pure w4 V4) := qh (hPd.pure (hPw.trans hX (fun i hi e => by omega)))
      have HV4 : Hid (V3.setCells vb 0 (#[.slice g N gc, .int .i64 (r2 : Int)] : Array Value).toList = V4) := qh (by rw [hV4])
      clear hV4
      refine step_of_list ?_
      refine wpList_store_mid rfl 24 (.tmp 6) (.tmp 34) rfl vb 0 #[.slice g N gc, .int .i64 (r2 : Int)] rfl rfl hTh hSi hOn ?_
      rw [HV4.out]
      refine hK.out _ _ (hX) (fun hHeld => ?_)
      clear hK K hHeld
      refine region_now (hX) ?_
      try simp only [Act.put, sA, sZ, sS]
      refine wpAnyH_done (by kernel_rfl) ?_ _
      rotate_left
      go_simp
      obtain ⟨V2, hwn⟩ : ∃ z, z = V1.alloc (.cells #[.slice none 0 0, .int .i64 0] 24) := ⟨_, rfl⟩
      have hP : Pure V1 V2 := by rw [hwn]; exact ext_alloc _ _
      have hBv : BlockIs V2 V1.heap.size [.slice none 0 0, .int .i64 0] 24 := by rw [hwn]; exact BlockIs.new _ _ _
      rw [← hwn]
      obtain ⟨vb, hvb⟩ : ∃ z, z = V1.heap.size := ⟨_, rfl⟩
      rw [← hvb] at hBv ⊢
      have hvd : wd.heap.size ≤ vb := by rw [hvb]; exact hPw.size
      have hO := hO.pure hP
      have hPw := hPw.pure hP
      clear hwn hvb
      refine hK.out _ _ (hP.mono (fun _ _ e => e.elim)) (fun hHeld => ?_)
      clear hK K hHeld
      refine region_now (hP.mono (fun _ _ e => e.elim)) ?_
      try simp only [Act.put, sA, sZ, sS]
      refine wpAnyH_ready (rs := [3]) (by kernel_rfl) (by simp) (AllReadyH.cons rfl (fun K hK => ?_) AllReadyH.nil)
      go_simp
      refine (HT2.out V2 (hPd.pure hPw) b0 b1 b2 b3 q0 q1 q2 q3 d0 d1 d2 d3 _ _ hO).mono ?_
      rintro e V3 ⟨g, N, gc, rws, rfl, hN, hKd, hP⟩
      have HNq := qh hN
      clear hN
      have hBv := hBv.ext hP id
      have hPw := hPw.pure hP
      refine hK.out _ _ (hP.mono (fun _ _ e => e.elim)) (fun hHeld => ?_)
      clear hK K hHeld
      refine region_now (hP.mono (fun _ _ e => e.elim)) ?_
      try simp only [Act.put, sA, sZ, sS]
      refine wpAnyH_ready (rs := [5]) (by kernel_rfl) (by simp) (AllReadyH.cons rfl (fun K hK => ?_) AllReadyH.nil)
      have hTh : V3.there vb 0 (#[.slice g N gc, .int .i64 (r2 : Int)] : Array Value).size := hBv.there 2 rfl
      have hSi : (Tryz.prog.info? 24).map (·.size) = some (#[.slice g N gc, .int .i64 (r2 : Int)] : Array Value).size := sizeDo
      have hOn : (#[.slice g N gc, .int .i64 (r2 : Int)] : Array Value).all (fun u => u.oneCell') = true := one_do _ _ _ _
      obtain ⟨V4, hV4⟩ : ∃ z, z = V3.setCells vb 0 [.slice g N gc, .int .i64 (r2 : Int)] := ⟨_, rfl⟩
      have hXv : Ext (fun b => b = vb) V3 V4 := by rw [hV4]; exact Ext.setCells (S := fun b => b = vb) _ 0 _ (Ext.refl _ _) (fun _ => rfl)
      have hX : Ext (fun b => wd.heap.size ≤ b) V3 V4 := hXv.mono (fun b _ e => by have e2 : b = vb := e; omega)
      have HBf0 : Hid (BlockIs V4 vb [.slice g N gc, .int .i64 (r2 : Int)] 24) := qh (by rw [hV4]; exact hBv.setAll _ rfl)
      have HK0 := qh (hKd.small hBv (by decide) hXv)
      have HN0 := HNq
      have HPf0 : Hid (Pure w4 V4) := qh (hPd.pure (hPw.trans hX (fun i hi e => by omega)))
      have HV4 : Hid (V3.setCells vb 0 (#[.slice g N gc, .int .i64 (r2 : Int)] : Array Value).toList = V4) := qh (by rw [hV4])
      clear hV4
      refine step_of_list ?_
      refine wpList_store_mid rfl 24 (.tmp 6) (.tmp 34) rfl vb 0 #[.slice g N gc, .int .i64 (r2 : Int)] rfl rfl hTh hSi hOn ?_
      rw [HV4.out]
      refine hK.out _ _ (hX) (fun hHeld => ?_)
      clear hK K hHeld
      refine region_now (hX) ?_
      try simp only [Act.put, sA, sZ, sS]
      refine wpAnyH_done (by kernel_rfl) ?_ _
      rotate_left
      go_simp
      obtain ⟨V1, hwn⟩ : ∃ z, z = wd.alloc (.cells #[.slice none 0 0, .int .i64 0] 24) := ⟨_, rfl⟩
      have hP : Pure wd V1 := by rw [hwn]; exact ext_alloc _ _
      have hBv : BlockIs V1 wd.heap.size [.slice none 0 0, .int .i64 0] 24 := by rw [hwn]; exact BlockIs.new _ _ _
      rw [← hwn]
      obtain ⟨vb, hvb⟩ : ∃ z, z = wd.heap.size := ⟨_, rfl⟩
      rw [← hvb] at hBv ⊢
      have hvd : wd.heap.size ≤ vb := by rw [hvb]; exact hPw.size
      have hPw := hPw.pure hP
      clear hwn hvb
      refine hK.out _ _ (hP.mono (fun _ _ e => e.elim)) (fun hHeld => ?_)
      clear hK K hHeld
      refine region_now (hP.mono (fun _ _ e => e.elim)) ?_
      try simp only [Act.put, sA, sZ, sS]
      refine wpAnyH_ready (rs := [2]) (by kernel_rfl) (by simp) (AllReadyH.cons rfl (fun K hK => ?_) AllReadyH.nil)
      go_simp
      refine (HO2.out V1 (hPd.pure hPw)).mono ?_
      rintro e V2 ⟨b0, b1, b2, b3, q0, q1, q2, q3, d0, d1, d2, d3, rfl, hO, hP⟩
      have hO := hO.now
      have hBv := hBv.ext hP id
      have hPw := hPw.pure hP
      refine hK.out _ _ (hP.mono (fun _ _ e => e.elim)) (fun hHeld => ?_)
      clear hK K hHeld
      refine region_now (hP.mono (fun _ _ e => e.elim)) ?_
      try simp only [Act.put, sA, sZ, sS]
      refine wpAnyH_ready (rs := [3]) (by kernel_rfl) (by simp) (AllReadyH.cons rfl (fun K hK => ?_) AllReadyH.nil)
      go_simp
      refine (HT2.out V2 (hPd.pure hPw) b0 b1 b2 b3 q0 q1 q2 q3 d0 d1 d2 d3 _ _ hO).mono ?_
      rintro e V3 ⟨g, N, gc, rws, rfl, hN, hKd, hP⟩
      have HNq := qh hN
      clear hN
      have hBv := hBv.ext hP id
      have hPw := hPw.pure hP
      refine hK.out _ _ (hP.mono (fun _ _ e => e.elim)) (fun hHeld => ?_)
      clear hK K hHeld
      refine region_now (hP.mono (fun _ _ e => e.elim)) ?_
      try simp only [Act.put, sA, sZ, sS]
      refine wpAnyH_ready (rs := [5]) (by kernel_rfl) (by simp) (AllReadyH.cons rfl (fun K hK => ?_) AllReadyH.nil)
      have hTh : V3.there vb 0 (#[.slice g N gc, .int .i64 (r2 : Int)] : Array Value).size := hBv.there 2 rfl
      have hSi : (Tryz.prog.info? 24).map (·.size) = some (#[.slice g N gc, .int .i64 (r2 : Int)] : Array Value).size := sizeDo
      have hOn : (#[.slice g N gc, .int .i64 (r2 : Int)] : Array Value).all (fun u => u.oneCell') = true := one_do _ _ _ _
      obtain ⟨V4, hV4⟩ : ∃ z, z = V3.setCells vb 0 [.slice g N gc, .int .i64 (r2 : Int)] := ⟨_, rfl⟩
      have hXv : Ext (fun b => b = vb) V3 V4 := by rw [hV4]; exact Ext.setCells (S := fun b => b = vb) _ 0 _ (Ext.refl _ _) (fun _ => rfl)
      have hX : Ext (fun b => wd.heap.size ≤ b) V3 V4 := hXv.mono (fun b _ e => by have e2 : b = vb := e; omega)
      have HBf0 : Hid (BlockIs V4 vb [.slice g N gc, .int .i64 (r2 : Int)] 24) := qh (by rw [hV4]; exact hBv.setAll _ rfl)
      have HK0 := qh (hKd.small hBv (by decide) hXv)
      have HN0 := HNq
      have HPf0 : Hid (Pure w4 V4) := qh (hPd.pure (hPw.trans hX (fun i hi e => by omega)))
      have HV4 : Hid (V3.setCells vb 0 (#[.slice g N gc, .int .i64 (r2 : Int)] : Array Value).toList = V4) := qh (by rw [hV4])
      clear hV4
      refine step_of_list ?_
      refine wpList_store_mid rfl 24 (.tmp 6) (.tmp 34) rfl vb 0 #[.slice g N gc, .int .i64 (r2 : Int)] rfl rfl hTh hSi hOn ?_
      rw [HV4.out]
      refine hK.out _ _ (hX) (fun hHeld => ?_)
      clear hK K hHeld
      refine region_now (hX) ?_
      try simp only [Act.put, sA, sZ, sS]
      refine wpAnyH_done (by kernel_rfl) ?_ _
      rotate_left
      all_goals
       go_simp
       try simp only [Act.put, sA, sZ, sS]
       refine hK0 _ _ ?_
       go_meet
       exact ⟨_, _, _, _, _, rfl, HBf0, HN0, HK0, HPf0⟩
     obtain ⟨vb2, g2, N2, gc2, rws2, rfl, HA2, HN2, HK2, HP45⟩ := hcut
     obtain ⟨w5, rfl⟩ : ∃ z : World, z = wc := ⟨_, rfl⟩
     have hNN : N2 = N1 := by rw [HN2.out, HN1.out]
     subst hNN
     have hS := docsame_yes L _ _ (some ⟨g1, 0, none⟩) g2 N2 gc2 rws1 rws2 w5 (HK1.out.pure HP45.out) HK2.out HLl.out HSz.out
     rw [← HN2.out] at hS
     have HS := qh hS
     have hA1 := HA1.out.ext HP45.out id
     have x0 : w5.cell? ⟨vb1, 0, none⟩ = some (.slice (some ⟨g1, 0, none⟩) N2 N2) := hA1.cell 0
     have y0 : w5.cell? ⟨vb2, 0, none⟩ = some (.slice g2 N2 gc2) := HA2.out.cell 0
     have HA1 := qh hA1
     have HP5 := qh ((HP3.out.pure HP34.out).pure HP45.out)
     clear hS hA1 HB4 HBp4 HO2 HT2
     go_wp2_with fail
     refine HS.out.mono ?_
     rintro e w6 ⟨rfl, hP6⟩
     have x1 : w6.cell? ⟨vb1, 1, none⟩ = some (.int .i64 (r2 : Int)) := (HA1.out.ext hP6 id).cell 1
     have y1 : w6.cell? ⟨vb2, 1, none⟩ = some (.int .i64 (r2 : Int)) := (HA2.out.ext hP6 id).cell 1
     have HP6 := qh (HP5.out.pure hP6)
     clear x0 y0 hP6
     go_wp2_with fail
     refine (works_any w6).mono ?_
     rintro e w7 ⟨rfl, hP7⟩
     go_wp2_with fail
     go_ret
     exact ⟨rfl, (HP6.out.pure hP7).below⟩
theorem lifted (os : Os) (started : os.Started) (H : Type) (enc : TypeId × Value → H) :
 ReturnsInHanded {} Tryz.checked os 3 .any (Rows.orderTurnsSpec.pre6 enc Tryz.prog Tryz.f3 Rows.orderTurnsRow.domain false) (Rows.orderTurnsSpec.post enc Tryz.prog Tryz.f3 false true false false) := by
 refine returnsInHanded_of_change (C := Tryz.checked) own started (by kernel_rfl) Tryz.func3
  (ChangeSpec.witness6 (enc := enc) (C := Tryz.checked) false ⟨#[], #[.agg #[.slice none 0 0, .int .i64 0], .agg #[.slice none 0 0, .slice none 0 0, .slice none 0 0, .slice none 0 0, .slice none 0 0]], []⟩ 8 (by kernel_rfl) (by kernel_rfl) (by kernel_rfl) (by kernel_rfl)) ?_
 intro W base args ds gs before hval0 hW hcnd _
 have hval : ∀ (j : Nat) t v, Tryz.f3.params[j]? = some t → args[j]? = some v → Value.okWide Tryz.prog W .any base t v := hval0
 have hW' := hW
 obtain ⟨p, q, hA0, hV, rfl, hfz, hnd⟩ := hW
 have hA : DataW.TrodAll enc Tryz.prog W 0 (fun _ => true) true Tryz.f3.params.toList args.toList ds p := hA0
 rw [Tryz.params3] at hA hval
 obtain ⟨v0, vs0, d0, ds0, p0, q0, hargs, rfl, rfl, h0, r0⟩ := trodAll_cons hA
 obtain ⟨v1, vs1, d1, ds1, p1, q1, rfl, rfl, rfl, h1, r1⟩ := trodAll_cons r0
 obtain ⟨rfl, rfl, rfl⟩ := trodAll_nil r1
 obtain rfl : args = #[v0, v1] := by cases args; simp_all
 obtain ⟨rfl, rfl⟩ := trodVars_none hV
 have k0 := h0
 have lt0 : ∀ x ∈ p0, x.block < W.heap.size := by obtain ⟨m, hm⟩ := k0; exact DataW.trod_lt m _ _ _ hm
 have k1 := h1
 have lt1 : ∀ x ∈ p1, x.block < W.heap.size := by obtain ⟨m, hm⟩ := k1; exact DataW.trod_lt m _ _ _ hm
 obtain ⟨F0, objs, oa, oc, rows, root, rfl, hOK0, hoc0, hcm0, hwf0, _, hr0⟩ := open_doc (hval 0 24 v0 rfl rfl) h0
 obtain ⟨P, a0, a1, a2, a3, a4, n0, n1, n2, n3, n4, c0, c1, c2, c3, c4, rfl, hPA, hm, hmr⟩ := open_parts (hval 1 28 v1 rfl rfl) h1
 clear hA0 hval0
 refine (walk F0 objs oa oc rows root W hOK0 hoc0 hcm0 hwf0 hr0 hPA hm hmr).mono fun e W' ⟨he, bel⟩ => ?_
 subst he
 exact ⟨_, rfl, _, _, _, [], _, [], hW', trodAll_mk1 (shut_bool Tryz.underlying4 _), (trodAll_cons_mk (Below.trod laidOut (by kernel_rfl) (of_decide_eq_true (by kernel_rfl)) k0 bel lt0) (trodAll_cons_mk (Below.trod laidOut (by kernel_rfl) (of_decide_eq_true (by kernel_rfl)) k1 bel lt1) trodAll_mk0)), rfl, bel.frame _, fun h => by cases h⟩
theorem proved : Rows.OrderTurnsSaid :=
 OpenClaim.holds_of_wide 3 Tryz.f3 rfl rfl rfl rfl rfl rfl rfl ⟨rfl, rfl, rfl, rfl, rfl⟩ rfl rfl rfl rfl rfl (by kernel_rfl) Tryz.func3 (by kernel_rfl)
  (of_decide_eq_true (by kernel_rfl)) (by unfold Func.isWrapper; first | (rw [if_pos (by decide +kernel)]; kernel_rfl) | (rw [if_neg (by decide +kernel)]; exact ⟨rfl, rfl⟩))
  (fun os started H enc _ => lifted os started H enc)
#print axioms proved
