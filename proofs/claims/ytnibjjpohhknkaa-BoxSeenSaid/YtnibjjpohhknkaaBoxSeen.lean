/-
  BoxSeen: the points of a page's box come to those from 0, 0 up to its width and height, and go back where they came from. No condition.
-/
import Derived.Test.YtnibjjpohhknkaaPageIn
import Derived.Test.YtnibjjpohhknkaaPoint
import Derived.Test.YtnibjjpohhknkaaWorks37
namespace Go.Proofs.Ytnibjjpohhknkaa.boxSeen
open Go.ChangeShapes Go.WideShapes Go.ChangeAt Go.RowKit Go.Proofs.Ytnibjjpohhknkaa
set_option linter.unusedVariables false
set_option linter.unusedSimpArgs false


theorem u32_wf {n : Int} (h : (Lit.int .u32 n).wf = true) : 0 ≤ n ∧ n < 4294967296 := by
  simp only [Lit.wf, Bool.and_eq_true, decide_eq_true_eq] at h
  have h1 : IntKind.u32.min = 0 := by kernel_rfl
  have h2 : IntKind.u32.max = 4294967295 := by kernel_rfl
  omega
set_option maxHeartbeats 4000000 in
set_option maxRecDepth 100000 in
theorem walk (F0 : Nat) (objs : List Ob) (oa : Option Addr) (oc : Nat) (rows : List (List Value)) (gv : V) (gcs : List Value) (x y : Int) (hx : 0 ≤ x ∧ x < 4294967296) (hy : 0 ≤ y ∧ y < 4294967296) (w : World) (hOK0 : OKids w F0 objs oa rows) (hG0 : Lies w F0 gv gcs) (hoc : objs.length ≤ oc) (hcm : oc ≤ maxLen) : Calls Try.prog 8 #[.agg (Value.slice oa objs.length oc :: gcs).toArray, .int .u32 x, .int .u32 y] w fun e w' => e = .returned (.bool true) ∧ Below w.heap.size w w' := by
  have HOk : Hid ((pageP objs gv).2 = 0 → _) := Lib.hid (fun h => pageP_ok (l := objs) (g := gv) h)
  have HEr : Hid ((pageP objs gv).2 ≠ 0 → (pageP objs gv).1 = .zero) := Lib.hid (fun h => pageP_err (l := objs) (g := gv) h)
  have hOK := hOK0.mono (show F0 ≤ F0 + 1 by omega)
  have hG := hG0.mono (show F0 ≤ F0 + 1 by omega)
  have HC := Lib.hid hG.len
  have HL5 : Hid ((Value.slice oa objs.length oc :: gcs).length = 5) := Lib.hid (by rw [List.length_cons, HC.out])
  have HFo := Lib.hid (fun W (hP : Pure w W) => fewo_any (F0 + 1) objs oa oc rows 20 W (hOK.pure hP) hoc hcm)
  have HFg := Lib.hid (fun W (hP : Pure w W) => few_any (F0 + 1) gv gcs 300 W (hG.pure hP) (by decide) (by decide))
  have HPr := Lib.hid (fun W (hP : Pure w W) (h1 : fewO objs 20 = true) (h2 : 0 ≤ gv.few 300) => page_any F0 objs oa oc rows gv gcs w W hP hOK hG (by have := (fewO_in h1).1; omega) (fun u hu => by have := (fewO_in h1).2 u hu; omega) (by have := few_len h2; omega) (fun k => by have := namedP_len (fewO_all h1) h2 k; omega))

  obtain ⟨fo, hfo⟩ : ∃ z, z = fewO objs 20 := ⟨_, rfl⟩
  obtain ⟨fg, hfg⟩ : ∃ z, z = gv.few 300 := ⟨_, rfl⟩
  obtain ⟨FP, hFP⟩ : ∃ z, z = pageP objs gv := ⟨_, rfl⟩
  rw [← hfo] at HFo HPr
  rw [← hfg] at HFg HPr
  rw [← hFP] at HPr HOk HEr
  obtain ⟨on, hon⟩ : ∃ z, z = objs.length := ⟨_, rfl⟩
  rw [← hon] at HL5 HFo HPr ⊢
  obtain ⟨S, e1⟩ := FP
  obtain ⟨tb, htb⟩ : ∃ z, z = w.heap.size := ⟨_, rfl⟩
  obtain ⟨w1, hw1⟩ : ∃ z, z = w.alloc (.cells (Value.slice oa on oc :: gcs).toArray 47) := ⟨_, rfl⟩
  have hB1 : BlockIs w1 tb (Value.slice oa on oc :: gcs) 47 := by rw [htb, hw1]; exact BlockIs.new w _ _
  have hPw : Pure w w1 := hw1 ▸ ext_alloc w _
  have HW : Hid (w.alloc (.cells (Value.slice oa on oc :: gcs).toArray 47) = w1) := Lib.hid hw1.symm
  have HTb := Lib.hid htb
  have t0 : (w.alloc (.cells (Value.slice oa on oc :: gcs).toArray 47)).cell? ⟨w.heap.size, 0, none⟩ = some (.slice oa on oc) := by rw [HW.out, ← htb]; exact hB1.cell 0
  clear hw1 htb hOK0 hG0 hOK hG hfo hfg hFP hoc hcm hon
  go_enter Try.func8, Try.ntmps8
  go_wp2_with fail
  rw [HW.out, ← HTb.out]
  clear t0
  refine (HFo.out w1 hPw).mono ?_
  rintro e w2 ⟨rfl, hP⟩
  have hB1 := hB1.ext hP id
  have hPw := hPw.pure hP
  clear hP HFo
  cases fo with
  | false =>
    clear HPr HFg
    go_wp2_with fail
    refine (works_any _).mono ?_
    rintro e wz ⟨rfl, hPz⟩
    go_wp2_with fail
    go_ret
    exact ⟨rfl, (hPw.pure hPz).below⟩
  | true =>
    replace HPr := Lib.hid (fun W hP => HPr.out W hP rfl)

    have hRg : w2.rangeAt tb 1 gcs := fun i x hx => (hB1.cell (1 + i)).trans (by rw [Nat.add_comm, List.getElem?_cons_succ]; exact hx)
    go_wp2_with (with_reducible refine at_load 24 (.tmp 20) ?_; refine wpList_load_g rfl (.tmp 20) rfl tb 1 rfl gcs hRg HC.out ?_)
    clear hRg
    refine (HFg.out w2 hPw).mono ?_
    rintro e w3 ⟨rfl, hP⟩
    have hB1 := hB1.ext hP id
    have hPw := hPw.pure hP
    clear hP HFg
    by_cases hneg : fg < 0
    · go_wp2_with fail
      refine (works_any _).mono ?_
      rintro e wz ⟨rfl, hPz⟩
      go_wp2_with fail
      go_ret
      exact ⟨rfl, (hPw.pure hPz).below⟩
    · have hpos : 0 ≤ fg := by omega
      replace HPr := Lib.hid (fun W hP => HPr.out W hP hpos)

      clear hpos
      have hR := hB1.range
      go_wp2_with (with_reducible refine at_load 47 (.tmp 3) ?_; refine wpList_load_mid rfl 47 (.tmp 3) rfl tb 0 rfl (Value.slice oa on oc :: gcs) _ hR Try.underlying47 rfl (sz47 HL5.out) ?_)
      clear hR hneg
      refine (HPr.out w3 hPw).mono ?_
      rintro e w4 ⟨rfl, hP⟩
      have hB1 := hB1.ext hP id
      have hPw := hPw.pure hP
      clear hP HPr
      obtain ⟨w5, hwn⟩ : ∃ z, z = w4.alloc (.cells #[.int .i64 S.box.x, .int .i64 S.box.y, .int .i64 S.box.w, .int .i64 S.box.h, .int .i64 S.q, .int .i64 S.w, .int .i64 S.h] 50) := ⟨_, rfl⟩
      have hBR : BlockIs w5 w4.heap.size [.int .i64 S.box.x, .int .i64 S.box.y, .int .i64 S.box.w, .int .i64 S.box.h, .int .i64 S.q, .int .i64 S.w, .int .i64 S.h] 50 := hwn ▸ BlockIs.new w4 _ _
      have hPx : Pure w4 w5 := hwn ▸ ext_alloc w4 _
      have HWw5 : Hid (w4.alloc (.cells #[.int .i64 S.box.x, .int .i64 S.box.y, .int .i64 S.box.w, .int .i64 S.box.h, .int .i64 S.q, .int .i64 S.w, .int .i64 S.h] 50) = w5) := Lib.hid hwn.symm
      have hB1 := hB1.ext hPx id
      have hPw := hPw.pure hPx
      clear hwn hPx hB1
      by_cases he : e1 = 0
      · subst he
        obtain ⟨r, q, hn, hq, hS⟩ := HOk.out rfl
        have hS' : S = mkSn r q := hS
        clear HOk HEr hS
        have hrm := hn.may
        obtain ⟨t1, t2, t3, t4⟩ := mkSn_turn hrm hq
        obtain ⟨SW, hSW⟩ : ∃ z, z = (r.turn q).w := ⟨_, rfl⟩
        obtain ⟨SH, hSH⟩ : ∃ z, z = (r.turn q).h := ⟨_, rfl⟩
        rw [← hS'] at t1 t2 t3 t4
        rw [← hSW] at t1
        rw [← hSH] at t2
        rw [t1, t2, t3, t4] at hBR HWw5 ⊢
        clear t1 t2 t3 t4 hS'
        unfold Bx.near at hn
        obtain ⟨⟨n1, n2⟩, ⟨n3, n4⟩, n5, n6⟩ := hn
        have wa : 0 < r.w + 1 ∧ r.w + 1 ≤ 4294967294000001 := by omega
        have wb : 0 < r.h + 1 ∧ r.h + 1 ≤ 4294967294000001 := by omega
        have la : 0 ≤ x.tmod (r.w + 1) ∧ x.tmod (r.w + 1) < r.w + 1 := ⟨Int.tmod_nonneg _ hx.1, Int.tmod_lt_of_pos _ wa.1⟩
        have lb : 0 ≤ y.tmod (r.h + 1) ∧ y.tmod (r.h + 1) < r.h + 1 := ⟨Int.tmod_nonneg _ hy.1, Int.tmod_lt_of_pos _ wb.1⟩
        obtain ⟨A, hA⟩ : ∃ z, z = r.x + x.tmod (r.w + 1) := ⟨_, rfl⟩
        obtain ⟨B, hB⟩ : ∃ z, z = r.y + y.tmod (r.h + 1) := ⟨_, rfl⟩
        have hAr : r.x ≤ A ∧ A ≤ r.x + r.w := by omega
        have hBr : r.y ≤ B ∧ B ≤ r.y + r.h := by omega
        have hfit : fitsB r A B = true := by
          simp only [fitsB, Bool.and_eq_true, near_iff]
          refine ⟨⟨hrm, ?_⟩, ?_⟩ <;> unfold most <;> omega
        have hin := point_in (q := q) hfit hAr hBr
        rw [← hSW, ← hSH] at hin
        have hbk : (pointB r q A B).1 ≤ most → (pointB r q A B).2 ≤ most → backB r q (pointB r q A B).1 (pointB r q A B).2 = (A, B) := fun h1 h2 => back_point hfit (by
          simp only [fitsB, Bool.and_eq_true, near_iff]
          unfold most at *
          refine ⟨⟨hrm, ?_⟩, ?_⟩ <;> omega)
        have HPt := Lib.hid (fun W => point_any r q SW SH A B W)
        have HBk := Lib.hid (fun W (c d : Int) => back_any r q SW SH c d W)
        have HIn := Lib.hid hin
        have HBb := Lib.hid hbk
        have wx : IntKind.i64.wrap x = x := by rw [IntKind.wrap_i64]; omega
        have wy : IntKind.i64.wrap y = y := by rw [IntKind.wrap_i64]; omega
        have wx' : wrap64 x = x := by unfold wrap64; omega
        have wy' : wrap64 y = y := by unfold wrap64; omega
        have a1 : IntKind.i64.wrap (r.w + 1) = r.w + 1 := by rw [IntKind.wrap_i64]; omega
        have b1 : IntKind.i64.wrap (r.h + 1) = r.h + 1 := by rw [IntKind.wrap_i64]; omega
        have a1' : wrap64 (r.w + 1) = r.w + 1 := by unfold wrap64; omega
        have b1' : wrap64 (r.h + 1) = r.h + 1 := by unfold wrap64; omega
        have a2 : ¬ r.w + 1 = 0 := by omega
        have b2 : ¬ r.h + 1 = 0 := by omega
        have a3 : IntKind.i64.wrap (r.x + x.tmod (r.w + 1)) = A := by rw [IntKind.wrap_i64, hA]; omega
        have b3 : IntKind.i64.wrap (r.y + y.tmod (r.h + 1)) = B := by rw [IntKind.wrap_i64, hB]; omega
        have a3' : wrap64 (r.x + x.tmod (r.w + 1)) = A := by rw [hA]; unfold wrap64; omega
        have b3' : wrap64 (r.y + y.tmod (r.h + 1)) = B := by rw [hB]; unfold wrap64; omega
        clear hSW hSH hA hB hAr hBr hfit hin hbk la lb wa wb n1 n2 n3 n4 n5 n6 hrm hq hx hy
        obtain ⟨bS, hbS⟩ : ∃ z, z = w4.heap.size := ⟨_, rfl⟩
        rw [← hbS] at hBR
        have HbS := Lib.hid hbS
        clear hbS
        go_wp2_with fail
        rw [HWw5.out, ← HbS.out]
        have hBR := hBR.drew
        have hPw := hPw.drew
        refine region_start (fun _ => False) (by kernel_rfl) ?_
        try simp only [Act.put, List.setIfInBounds_toArray, List.set_cons_zero, List.set_cons_succ]
        refine region_take 0 39 (v := ?vbs0) rfl rfl (by kernel_rfl) (by kernel_rfl) (by kernel_rfl) (fun _ _ _ h => h) (by rfl) (fun w' hS => ?hbs0) ?rbs0
        case hbs0 => go_simp; with_reducible rfl
        try simp only [Act.put, List.setIfInBounds_toArray, List.set_cons_zero, List.set_cons_succ]
        refine region_take 1 40 (v := ?vbs1) rfl rfl (by kernel_rfl) (by kernel_rfl) (by kernel_rfl) (fun _ _ _ h => h) (by rfl) (fun w' hS => ?hbs1) ?rbs1
        case hbs1 => go_simp; with_reducible rfl
        try simp only [Act.put, List.setIfInBounds_toArray, List.set_cons_zero, List.set_cons_succ]
        refine region_take 2 41 (v := ?vbs2) rfl rfl (by kernel_rfl) (by kernel_rfl) (by kernel_rfl) (fun _ _ _ h => h) (by rfl) (fun w' hS => ?hbs2) ?rbs2
        case hbs2 => (have e := hBR.cell 0; have e := hS.cell_some e id; go_simp; with_reducible rfl)
        try simp only [Act.put, List.setIfInBounds_toArray, List.set_cons_zero, List.set_cons_succ]
        refine region_take 3 42 (v := ?vbs3) rfl rfl (by kernel_rfl) (by kernel_rfl) (by kernel_rfl) (fun _ _ _ h => h) (by rfl) (fun w' hS => ?hbs3) ?rbs3
        case hbs3 => go_simp; with_reducible rfl
        try simp only [Act.put, List.setIfInBounds_toArray, List.set_cons_zero, List.set_cons_succ]
        refine region_take 4 43 (v := ?vbs4) rfl rfl (by kernel_rfl) (by kernel_rfl) (by kernel_rfl) (fun _ _ _ h => h) (by rfl) (fun w' hS => ?hbs4) ?rbs4
        case hbs4 => go_simp; with_reducible rfl
        try simp only [Act.put, List.setIfInBounds_toArray, List.set_cons_zero, List.set_cons_succ]
        refine region_take 5 44 (v := ?vbs5) rfl rfl (by kernel_rfl) (by kernel_rfl) (by kernel_rfl) (fun _ _ _ h => h) (by rfl) (fun w' hS => ?hbs5) ?rbs5
        case hbs5 => go_simp; with_reducible rfl
        try simp only [Act.put, List.setIfInBounds_toArray, List.set_cons_zero, List.set_cons_succ]
        refine region_take 6 45 (v := ?vbs6) rfl rfl (by kernel_rfl) (by kernel_rfl) (by kernel_rfl) (fun _ _ _ h => h) (by rfl) (fun w' hS => ?hbs6) ?rbs6
        case hbs6 => go_simp; with_reducible rfl
        try simp only [Act.put, List.setIfInBounds_toArray, List.set_cons_zero, List.set_cons_succ]
        refine region_take 7 46 (v := ?vbs7) rfl rfl (by kernel_rfl) (by kernel_rfl) (by kernel_rfl) (fun _ _ _ h => h) (by rfl) (fun w' hS => ?hbs7) ?rbs7
        case hbs7 => (have e := hBR.cell 2; have e := hS.cell_some e id; go_simp; with_reducible rfl)
        try simp only [Act.put, List.setIfInBounds_toArray, List.set_cons_zero, List.set_cons_succ]
        refine region_take 8 47 (v := ?vbs8) rfl rfl (by kernel_rfl) (by kernel_rfl) (by kernel_rfl) (fun _ _ _ h => h) (by rfl) (fun w' hS => ?hbs8) ?rbs8
        case hbs8 => (have := a1; have := a1'; go_simp; with_reducible rfl)
        try simp only [Act.put, List.setIfInBounds_toArray, List.set_cons_zero, List.set_cons_succ]
        refine region_take 9 48 (v := ?vbs9) rfl rfl (by kernel_rfl) (by kernel_rfl) (by kernel_rfl) (fun _ _ _ h => h) (by rfl) (fun w' hS => ?hbs9) ?rbs9
        case hbs9 => (have := a2; go_simp; with_reducible rfl)
        try simp only [Act.put, List.setIfInBounds_toArray, List.set_cons_zero, List.set_cons_succ]
        refine region_take 10 49 (v := ?vbs10) rfl rfl (by kernel_rfl) (by kernel_rfl) (by kernel_rfl) (fun _ _ _ h => h) (by rfl) (fun w' hS => ?hbs10) ?rbs10
        case hbs10 => (have := a3; have := a3'; go_simp; with_reducible rfl)
        try simp only [Act.put, List.setIfInBounds_toArray, List.set_cons_zero, List.set_cons_succ]
        refine region_take 11 50 (v := ?vbs11) rfl rfl (by kernel_rfl) (by kernel_rfl) (by kernel_rfl) (fun _ _ _ h => h) (by rfl) (fun w' hS => ?hbs11) ?rbs11
        case hbs11 => go_simp; with_reducible rfl
        try simp only [Act.put, List.setIfInBounds_toArray, List.set_cons_zero, List.set_cons_succ]
        refine region_take 12 51 (v := ?vbs12) rfl rfl (by kernel_rfl) (by kernel_rfl) (by kernel_rfl) (fun _ _ _ h => h) (by rfl) (fun w' hS => ?hbs12) ?rbs12
        case hbs12 => go_simp; with_reducible rfl
        try simp only [Act.put, List.setIfInBounds_toArray, List.set_cons_zero, List.set_cons_succ]
        refine region_take 13 52 (v := ?vbs13) rfl rfl (by kernel_rfl) (by kernel_rfl) (by kernel_rfl) (fun _ _ _ h => h) (by rfl) (fun w' hS => ?hbs13) ?rbs13
        case hbs13 => (have e := hBR.cell 1; have e := hS.cell_some e id; go_simp; with_reducible rfl)
        try simp only [Act.put, List.setIfInBounds_toArray, List.set_cons_zero, List.set_cons_succ]
        refine region_take 14 53 (v := ?vbs14) rfl rfl (by kernel_rfl) (by kernel_rfl) (by kernel_rfl) (fun _ _ _ h => h) (by rfl) (fun w' hS => ?hbs14) ?rbs14
        case hbs14 => go_simp; with_reducible rfl
        try simp only [Act.put, List.setIfInBounds_toArray, List.set_cons_zero, List.set_cons_succ]
        refine region_take 15 54 (v := ?vbs15) rfl rfl (by kernel_rfl) (by kernel_rfl) (by kernel_rfl) (fun _ _ _ h => h) (by rfl) (fun w' hS => ?hbs15) ?rbs15
        case hbs15 => go_simp; with_reducible rfl
        try simp only [Act.put, List.setIfInBounds_toArray, List.set_cons_zero, List.set_cons_succ]
        refine region_take 16 55 (v := ?vbs16) rfl rfl (by kernel_rfl) (by kernel_rfl) (by kernel_rfl) (fun _ _ _ h => h) (by rfl) (fun w' hS => ?hbs16) ?rbs16
        case hbs16 => go_simp; with_reducible rfl
        try simp only [Act.put, List.setIfInBounds_toArray, List.set_cons_zero, List.set_cons_succ]
        refine region_take 17 56 (v := ?vbs17) rfl rfl (by kernel_rfl) (by kernel_rfl) (by kernel_rfl) (fun _ _ _ h => h) (by rfl) (fun w' hS => ?hbs17) ?rbs17
        case hbs17 => go_simp; with_reducible rfl
        try simp only [Act.put, List.setIfInBounds_toArray, List.set_cons_zero, List.set_cons_succ]
        refine region_take 18 57 (v := ?vbs18) rfl rfl (by kernel_rfl) (by kernel_rfl) (by kernel_rfl) (fun _ _ _ h => h) (by rfl) (fun w' hS => ?hbs18) ?rbs18
        case hbs18 => (have e := hBR.cell 3; have e := hS.cell_some e id; go_simp; with_reducible rfl)
        try simp only [Act.put, List.setIfInBounds_toArray, List.set_cons_zero, List.set_cons_succ]
        refine region_take 19 58 (v := ?vbs19) rfl rfl (by kernel_rfl) (by kernel_rfl) (by kernel_rfl) (fun _ _ _ h => h) (by rfl) (fun w' hS => ?hbs19) ?rbs19
        case hbs19 => (have := b1; have := b1'; go_simp; with_reducible rfl)
        try simp only [Act.put, List.setIfInBounds_toArray, List.set_cons_zero, List.set_cons_succ]
        refine region_take 20 59 (v := ?vbs20) rfl rfl (by kernel_rfl) (by kernel_rfl) (by kernel_rfl) (fun _ _ _ h => h) (by rfl) (fun w' hS => ?hbs20) ?rbs20
        case hbs20 => (have := b2; go_simp; with_reducible rfl)
        try simp only [Act.put, List.setIfInBounds_toArray, List.set_cons_zero, List.set_cons_succ]
        refine region_take 21 60 (v := ?vbs21) rfl rfl (by kernel_rfl) (by kernel_rfl) (by kernel_rfl) (fun _ _ _ h => h) (by rfl) (fun w' hS => ?hbs21) ?rbs21
        case hbs21 => (have := b3; have := b3'; go_simp; with_reducible rfl)
        try simp only [Act.put, List.setIfInBounds_toArray, List.set_cons_zero, List.set_cons_succ]
        refine region_take 22 9 (v := ?vbs22) rfl rfl (by kernel_rfl) (by kernel_rfl) (by kernel_rfl) (fun _ _ _ h => h) (by rfl) (fun w' hS => ?hbs22) ?rbs22
        case hbs22 => go_simp; with_reducible rfl
        try simp only [Act.put, List.setIfInBounds_toArray, List.set_cons_zero, List.set_cons_succ]
        refine region_take 23 10 (v := ?vbs23) rfl rfl (by kernel_rfl) (by kernel_rfl) (by kernel_rfl) (fun _ _ _ h => h) (by rfl) (fun w' hS => ?hbs23) ?rbs23
        case hbs23 => go_simp; with_reducible rfl
        try simp only [Act.put, List.setIfInBounds_toArray, List.set_cons_zero, List.set_cons_succ]
        refine wpAnyH_done (by kernel_rfl) ?_ _
        go_simp
        try simp only [Act.put, List.setIfInBounds_toArray, List.set_cons_zero, List.set_cons_succ]
        clear wx wy wx' wy' a1 b1 a1' b1' a2 b2 a3 b3 a3' b3'
        have hRS := hBR.range
        go_wp2_with (with_reducible refine at_load 50 (.tmp 7) ?_; refine wpList_load_mid rfl 50 (.tmp 7) rfl bS 0 rfl [.int .i64 r.x, .int .i64 r.y, .int .i64 r.w, .int .i64 r.h, .int .i64 q, .int .i64 SW, .int .i64 SH] _ hRS Try.underlying50 rfl (sz50 _ _ _ _ _ _ _) ?_)
        clear hRS
        refine (HPt.out _).mono ?_
        rintro e w6 ⟨rfl, hP⟩
        have hBR := hBR.ext hP id
        have hPw := hPw.pure hP
        clear hP HPt
        have hI := HIn.out
        obtain ⟨c, hc⟩ : ∃ z, z = (pointB r q A B).1 := ⟨_, rfl⟩
        obtain ⟨d, hd⟩ : ∃ z, z = (pointB r q A B).2 := ⟨_, rfl⟩
        rw [← hc, ← hd] at hI HBb ⊢
        clear hc hd HIn
        have i1 : ¬ c < 0 := by omega
        have i2 : ¬ SW < c := by omega
        have i3 : ¬ d < 0 := by omega
        have i4 : ¬ SH < d := by omega
        have c5 : w6.cell? ⟨bS, 5, none⟩ = some (.int .i64 SW) := hBR.cell 5
        have c6 : w6.cell? ⟨bS, 6, none⟩ = some (.int .i64 SH) := hBR.cell 6
        clear hI
        by_cases m1 : (2251799813685248 : Int) < c
        · go_wp2_with fail
          refine (works_any _).mono ?_
          rintro e wz ⟨rfl, hPz⟩
          go_wp2_with fail
          go_ret
          exact ⟨rfl, (hPw.pure hPz).below⟩
        · by_cases m2 : (2251799813685248 : Int) < d
          · go_wp2_with fail
            refine (works_any _).mono ?_
            rintro e wz ⟨rfl, hPz⟩
            go_wp2_with fail
            go_ret
            exact ⟨rfl, (hPw.pure hPz).below⟩
          · have hRS := hBR.range
            have hb := HBb.out (by unfold most; omega) (by unfold most; omega)
            have HBc := HBk.out
            have HBc := Lib.hid (fun W => HBc W c d)
            rw [hb] at HBc
            clear hb HBb HBk
            go_wp2_with (with_reducible refine at_load 50 (.tmp 7) ?_; refine wpList_load_mid rfl 50 (.tmp 7) rfl bS 0 rfl [.int .i64 r.x, .int .i64 r.y, .int .i64 r.w, .int .i64 r.h, .int .i64 q, .int .i64 SW, .int .i64 SH] _ hRS Try.underlying50 rfl (sz50 _ _ _ _ _ _ _) ?_)
            clear hRS c5 c6
            refine (HBc.out _).mono ?_
            rintro e w7 ⟨rfl, hP⟩
            have hPw := hPw.pure hP
            clear hP HBc
            go_wp2_with fail
            refine (works_any _).mono ?_
            rintro e wz ⟨rfl, hPz⟩
            go_wp2_with fail
            go_ret
            exact ⟨rfl, (hPw.pure hPz).below⟩
      · have hz := HEr.out he
        have hne : (e1 != 0) = true := by simpa using he
        obtain rfl : S = .zero := hz
        have hR : (w4.alloc (.cells #[.int .i64 Sn.zero.box.x, .int .i64 Sn.zero.box.y, .int .i64 Sn.zero.box.w, .int .i64 Sn.zero.box.h, .int .i64 Sn.zero.q, .int .i64 Sn.zero.w, .int .i64 Sn.zero.h] 50)).rangeAt w4.heap.size 0 [.int .i64 0, .int .i64 0, .int .i64 0, .int .i64 0, .int .i64 0, .int .i64 0, .int .i64 0] := by rw [HWw5.out]; exact hBR.range
        have hq := eql50 0 0 0 0 0 0 0
        clear he HOk HEr hBR
        go_wp2_with (with_reducible refine at_load 50 (.tmp 7) ?_; refine wpList_load_mid rfl 50 (.tmp 7) rfl w4.heap.size 0 rfl [.int .i64 0, .int .i64 0, .int .i64 0, .int .i64 0, .int .i64 0, .int .i64 0, .int .i64 0] _ hR Try.underlying50 rfl (sz50 _ _ _ _ _ _ _) ?_)
        rw [HWw5.out]
        refine (works_any _).mono ?_
        rintro e wz ⟨rfl, hPz⟩
        go_wp2_with fail
        go_ret
        exact ⟨rfl, (hPw.pure hPz).below⟩

set_option maxRecDepth 100000 in
theorem lifted (os : Os) (started : os.Started) (H : Type) (enc : TypeId × Value → H) :
    ReturnsInHanded {} Try.checked os 8 .any (Rows.boxSeenSpec.pre6 enc Try.prog Try.f8 Rows.boxSeenRow.domain false) (Rows.boxSeenSpec.post enc Try.prog Try.f8 false true false false) := by
  refine returnsInHanded_of_change (C := Try.checked) own started (by kernel_rfl) Try.func8
    (ChangeSpec.witness6 (enc := enc) (C := Try.checked) false ⟨#[], #[.agg #[.slice none 0 0, .int .i64 0, .int .i64 0, .string ⟨#[]⟩, .slice none 0 0], .int .u32 0, .int .u32 0], []⟩ 8 (by kernel_rfl) (by kernel_rfl) (by kernel_rfl) (by kernel_rfl)) ?_
  intro W base args ds gs before hval0 hW hcnd _
  have hval : ∀ (j : Nat) t v, Try.f8.params[j]? = some t → args[j]? = some v → Value.okWide Try.prog W .any base t v := hval0
  have hW' := hW
  obtain ⟨p, q, hA0, hV, rfl, hfz, hnd⟩ := hW
  have hA : DataW.TrodAll enc Try.prog W 0 (fun _ => true) true Try.f8.params.toList args.toList ds p := hA0
  rw [Try.params8] at hA hval
  obtain ⟨v0, vs0, d0, ds0, p0, q0, hargs, rfl, rfl, h0, r0⟩ := trodAll_cons hA
  obtain ⟨v1, vs1, d1, ds1, p1, q1, rfl, rfl, rfl, h1, r1⟩ := trodAll_cons r0
  obtain ⟨v2, vs2, d2, ds2, p2, q2, rfl, rfl, rfl, h2, r2⟩ := trodAll_cons r1
  obtain ⟨rfl, rfl, rfl⟩ := trodAll_nil r2
  obtain rfl : args = #[v0, v1, v2] := by cases args; simp_all
  obtain ⟨rfl, rfl⟩ := trodVars_none hV
  have k0 := h0
  have lt0 : ∀ x ∈ p0, x.block < W.heap.size := by obtain ⟨m, hm⟩ := k0; exact DataW.trod_lt m _ _ _ hm
  have k1 := h1
  have lt1 : ∀ x ∈ p1, x.block < W.heap.size := by obtain ⟨m, hm⟩ := k1; exact DataW.trod_lt m _ _ _ hm
  have k2 := h2
  have lt2 : ∀ x ∈ p2, x.block < W.heap.size := by obtain ⟨m, hm⟩ := k2; exact DataW.trod_lt m _ _ _ hm
  obtain ⟨F0, objs, oa, oc, rows, gv, gcs, rfl, hOK0, hG0, hoc, hcm⟩ := open_page (hval 0 47 v0 rfl rfl) h0
  obtain ⟨x1, rfl, rfl, wx1⟩ := open_int Try.underlying63 (hval 1 63 v1 rfl rfl) h1
  obtain ⟨x2, rfl, rfl, wx2⟩ := open_int Try.underlying63 (hval 2 63 v2 rfl rfl) h2
  clear hA0 hval0
  refine (walk F0 objs oa oc rows gv gcs x1 x2 (u32_wf wx1.2) (u32_wf wx2.2) W hOK0 hG0 hoc hcm).mono fun e W' ⟨he, bel⟩ => ?_
  subst he
  exact ⟨_, rfl, _, _, _, [], _, [], hW', trodAll_mk1 (shut_bool Try.underlying4 _), (trodAll_cons_mk (Below.trod laidOut (by kernel_rfl) (of_decide_eq_true (by kernel_rfl)) k0 bel lt0) (trodAll_cons_mk (Below.trod laidOut (by kernel_rfl) (of_decide_eq_true (by kernel_rfl)) k1 bel lt1) (trodAll_cons_mk (Below.trod laidOut (by kernel_rfl) (of_decide_eq_true (by kernel_rfl)) k2 bel lt2) trodAll_mk0))), rfl, bel.frame _, fun h => by cases h⟩

theorem proved : Rows.BoxSeenSaid :=
  OpenClaim.holds_of_wide 8 Try.f8 rfl rfl rfl rfl rfl rfl rfl ⟨rfl, rfl, rfl, rfl, rfl⟩ rfl rfl rfl rfl rfl (by kernel_rfl) Try.func8 (by kernel_rfl)
    (of_decide_eq_true (by kernel_rfl)) (by unfold Func.isWrapper; first | (rw [if_pos (by decide +kernel)]; kernel_rfl) | (rw [if_neg (by decide +kernel)]; exact ⟨rfl, rfl⟩))
    (fun os started H enc _ => lifted os started H enc)
#print axioms proved
end Go.Proofs.Ytnibjjpohhknkaa.boxSeen
