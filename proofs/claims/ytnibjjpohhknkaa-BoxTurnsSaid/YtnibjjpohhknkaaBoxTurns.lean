/-
  BoxTurns: a rectangle that is turned, by however many quarters, is as the document says; four quarters are none, and a turn back undoes a turn. No condition.
-/
import Derived.Test.YtnibjjpohhknkaaRects
import Derived.Test.YtnibjjpohhknkaaWorks37
namespace Go.Proofs.Ytnibjjpohhknkaa.boxTurns
open Go.ChangeShapes Go.WideShapes Go.ChangeAt Go.RowKit Go.Proofs.Ytnibjjpohhknkaa
set_option linter.unusedVariables false
set_option linter.unusedSimpArgs false


theorem tmod2 (n : Int) : n.tmod 2 = 0 ↔ n % 2 = 0 := by
  constructor
  · intro h; exact Int.emod_eq_zero_of_dvd (Int.dvd_of_tmod_eq_zero h)
  · intro h; exact Int.tmod_eq_zero_of_dvd (Int.dvd_of_emod_eq_zero h)
set_option maxHeartbeats 8000000 in
set_option maxRecDepth 100000 in
theorem walk (r : Bx) (n : Int) (w : World) : Calls Try.prog 5 #[.agg #[.int .i64 r.x, .int .i64 r.y, .int .i64 r.w, .int .i64 r.h], .int .i64 n] w fun e w' => e = .returned (.bool true) ∧ Below w.heap.size w w' := by
  obtain ⟨T, hT⟩ : ∃ T, T = r.turn n := ⟨_, rfl⟩
  have HTn : Hid (∀ W, Calls Try.prog 18 #[.agg #[.int .i64 r.x, .int .i64 r.y, .int .i64 r.w, .int .i64 r.h], .int .i64 n] W (RectTo T W)) := Lib.hid (fun W => hT ▸ turn_any r n W)
  have HRt : Hid (∀ W, Calls Try.prog 19 #[.agg #[.int .i64 r.x, .int .i64 r.y, .int .i64 r.w, .int .i64 r.h], .int .i64 n] W (RectTo T W)) := Lib.hid (fun W => hT ▸ refturn_any r n W)
  have HNone : Hid (r.may = false → T = .zero) := Lib.hid (fun h => by rw [hT]; exact turn_none h n)
  have HFo : Hid (r.may = true → ∀ W, Calls Try.prog 18 #[.agg #[.int .i64 r.x, .int .i64 r.y, .int .i64 r.w, .int .i64 r.h], .int .i64 4] W (RectTo r W)) := Lib.hid (fun hm W => by have := turn_any r 4 W; rw [turn_four hm] at this; exact this)
  have HBk0 : Hid (r.may = true → T.may = true → ∀ W, Calls Try.prog 18 #[.agg #[.int .i64 T.x, .int .i64 T.y, .int .i64 T.w, .int .i64 T.h], .int .i64 (-n)] W (RectTo r W)) := Lib.hid (fun hm hm2 W => by have := turn_any T (-n) W; rw [hT, turn_back hm (hT ▸ hm2)] at this; rw [hT]; exact this)
  have HEv : Hid (r.may = true → n.tmod 2 = 0 → T.w = r.w ∧ T.h = r.h) := Lib.hid (fun hm h => by rw [hT]; exact turn_even hm ((tmod2 n).1 h))
  have HOd : Hid (r.may = true → ¬ n.tmod 2 = 0 → T.w = r.h ∧ T.h = r.w) := Lib.hid (fun hm h => by rw [hT]; exact turn_odd hm (by rw [tmod2] at h; omega))
  clear hT
  have HM := Lib.hid (fun W => refmay_any r W)
  obtain ⟨tb, htb⟩ : ∃ z, z = w.heap.size := ⟨_, rfl⟩
  obtain ⟨w1, hw1⟩ : ∃ z, z = w.alloc (.cells #[.int .i64 r.x, .int .i64 r.y, .int .i64 r.w, .int .i64 r.h] 32) := ⟨_, rfl⟩
  have hB1 : BlockIs w1 tb [.int .i64 r.x, .int .i64 r.y, .int .i64 r.w, .int .i64 r.h] 32 := by rw [htb, hw1]; exact BlockIs.new w _ _
  have hPw : Pure w w1 := hw1 ▸ ext_alloc w _
  have HW := Lib.hid hw1.symm
  have HTb := Lib.hid htb
  have hR1 := hB1.range
  clear hw1 htb
  go_enter Try.func5, Try.ntmps5
  go_wp2_with fail
  rw [HW.out, ← HTb.out]
  go_wp2_with (with_reducible refine at_load 32 (.tmp 2) ?_; refine wpList_load_mid rfl 32 (.tmp 2) rfl tb 0 rfl [.int .i64 r.x, .int .i64 r.y, .int .i64 r.w, .int .i64 r.h] _ hR1 Try.underlying32 rfl (by exact size32) ?_)
  refine (to_any r _).mono ?_
  rintro e w2 ⟨rfl, hP⟩
  have hB1 := hB1.ext hP id
  have hPw := hPw.pure hP
  clear hP hR1
  go_wp2_with fail
  refine (HTn.out _).mono ?_
  rintro e w3 ⟨rfl, hP⟩
  have hB1 := hB1.ext hP id
  have hPw := hPw.pure hP
  clear hP
  obtain ⟨w4, hw4⟩ : ∃ z, z = w3.alloc (.cells #[.int .i64 T.x, .int .i64 T.y, .int .i64 T.w, .int .i64 T.h] 28) := ⟨_, rfl⟩
  obtain ⟨bR, hbR⟩ : ∃ z, z = w3.heap.size := ⟨_, rfl⟩
  have hBR : BlockIs w4 bR [.int .i64 T.x, .int .i64 T.y, .int .i64 T.w, .int .i64 T.h] 28 := by rw [hbR, hw4]; exact BlockIs.new w3 _ _
  have hP : Pure w3 w4 := hw4 ▸ ext_alloc w3 _
  have hB1 := hB1.ext hP id
  have hPw := hPw.pure hP
  have HW4 := Lib.hid hw4.symm
  have HbR := Lib.hid hbR.symm
  clear hP hw4 hbR
  go_wp2_with fail
  rw [HW4.out, HbR.out]
  have hB1 := hB1.drew
  have hBR := hBR.drew
  have hPw := hPw.drew
  refine region_start (fun _ => False) (by kernel_rfl) ?_
  try simp only [Act.put, List.setIfInBounds_toArray, List.set_cons_zero, List.set_cons_succ]
  refine region_take 0 10 (v := ?vta0) rfl rfl (by kernel_rfl) (by kernel_rfl) (by kernel_rfl) (fun _ _ _ h => h) (by rfl) (fun w' hS => ?hta0) ?rta0
  case hta0 => (refine exec_load28 (x := .tmp 5) ?_ ?_ (hBR.ext hS id) rfl <;> rfl)
  try simp only [Act.put, List.setIfInBounds_toArray, List.set_cons_zero, List.set_cons_succ]
  refine region_take 2 12 (v := ?vta2) rfl rfl (by kernel_rfl) (by kernel_rfl) (by kernel_rfl) (fun _ _ _ h => h) (by rfl) (fun w' hS => ?hta2) ?rta2
  case hta2 => (refine exec_load32 (x := .tmp 2) ?_ ?_ (hB1.ext hS id) rfl <;> rfl)
  try simp only [Act.put, List.setIfInBounds_toArray, List.set_cons_zero, List.set_cons_succ]
  refine region_take 3 13 (v := ?vta3) rfl rfl (by kernel_rfl) (by kernel_rfl) (by kernel_rfl) (fun _ _ _ h => h) (by rfl) (fun w' hS => ?hta3) ?rta3
  case hta3 => go_simp; with_reducible rfl
  try simp only [Act.put, List.setIfInBounds_toArray, List.set_cons_zero, List.set_cons_succ]
  refine wpAnyH_ready (rs := [1]) (by kernel_rfl) (by simp) (AllReadyH.cons rfl (fun K hK => ?_) AllReadyH.nil)
  go_simp
  refine (of_any T _).mono ?_
  rintro e wa ⟨rfl, hP⟩
  have hB1 := hB1.ext hP id
  have hBR := hBR.ext hP id
  have hPw := hPw.pure hP
  refine hK.out _ _ (hP) (fun hHeld => ?_)
  clear hK K hHeld
  refine region_now (hP) ?_
  try simp only [Act.put, List.setIfInBounds_toArray, List.set_cons_zero, List.set_cons_succ]
  refine wpAnyH_ready (rs := [4]) (by kernel_rfl) (by simp) (AllReadyH.cons rfl (fun K hK => ?_) AllReadyH.nil)
  go_simp
  refine (HRt.out _).mono ?_
  rintro e wb ⟨rfl, hP⟩
  have hB1 := hB1.ext hP id
  have hBR := hBR.ext hP id
  have hPw := hPw.pure hP
  refine hK.out _ _ (hP) (fun hHeld => ?_)
  clear hK K hHeld
  refine region_now (hP) ?_
  try simp only [Act.put, List.setIfInBounds_toArray, List.set_cons_zero, List.set_cons_succ]
  refine region_take 5 15 (v := ?vta5) rfl rfl (by kernel_rfl) (by kernel_rfl) (by kernel_rfl) (fun _ _ _ h => h) (by rfl) (fun w' hS => ?hta5) ?rta5
  case hta5 => (have n := neq32 T T w' rfl; go_simp; with_reducible rfl)
  try simp only [Act.put, List.setIfInBounds_toArray, List.set_cons_zero, List.set_cons_succ]
  refine wpAnyH_done (by kernel_rfl) ?_ _
  go_simp
  try simp only [Act.put, List.setIfInBounds_toArray, List.set_cons_zero, List.set_cons_succ]
  have c0 : wb.cell? ⟨tb, 0, none⟩ = some (.int .i64 r.x) := hB1.cell 0
  have c1 : wb.cell? ⟨tb, 1, none⟩ = some (.int .i64 r.y) := hB1.cell 1
  have c2 : wb.cell? ⟨tb, 2, none⟩ = some (.int .i64 r.w) := hB1.cell 2
  have c3 : wb.cell? ⟨tb, 3, none⟩ = some (.int .i64 r.h) := hB1.cell 3
  go_wp2_with fail
  refine (HM.out _).mono ?_
  rintro e wc ⟨rfl, hP⟩
  have hB1 := hB1.ext hP id
  have hBR := hBR.ext hP id
  have hPw := hPw.pure hP
  clear hP c0 c1 c2 c3
  by_cases hm : r.may = true
  · have HFour := Lib.hid (HFo.out hm)
    have HBk := Lib.hid (HBk0.out hm)
    have HEv := Lib.hid (HEv.out hm)
    have HOd := Lib.hid (HOd.out hm)
    rw [hm]
    clear HFo HBk0 hm
    go_wp2_with fail
    have hB1 := hB1.drew
    have hBR := hBR.drew
    have hPw := hPw.drew
    by_cases h2 : n.tmod 2 = 0
    · obtain ⟨he1, he2⟩ := HEv.out h2
      refine region_start (fun _ => False) (by kernel_rfl) ?_
      try simp only [Act.put, List.setIfInBounds_toArray, List.set_cons_zero, List.set_cons_succ]
      refine region_take 0 25 (v := ?vte0) rfl rfl (by kernel_rfl) (by kernel_rfl) (by kernel_rfl) (fun _ _ _ h => h) (by rfl) (fun w' hS => ?hte0) ?rte0
      case hte0 => (refine exec_load32 (x := .tmp 2) ?_ ?_ (hB1.ext hS id) rfl <;> rfl)
      try simp only [Act.put, List.setIfInBounds_toArray, List.set_cons_zero, List.set_cons_succ]
      refine region_take 4 29 (v := ?vte4) rfl rfl (by kernel_rfl) (by kernel_rfl) (by kernel_rfl) (fun _ _ _ h => h) (by rfl) (fun w' hS => ?hte4) ?rte4
      case hte4 => (refine exec_load32 (x := .tmp 2) ?_ ?_ (hB1.ext hS id) rfl <;> rfl)
      try simp only [Act.put, List.setIfInBounds_toArray, List.set_cons_zero, List.set_cons_succ]
      refine wpAnyH_ready (rs := [1]) (by kernel_rfl) (by simp) (AllReadyH.cons rfl (fun K hK => ?_) AllReadyH.nil)
      go_simp
      refine (to_any r _).mono ?_
      rintro e wa ⟨rfl, hP⟩
      have hB1 := hB1.ext hP id
      have hBR := hBR.ext hP id
      have hPw := hPw.pure hP
      refine hK.out _ _ (hP) (fun hHeld => ?_)
      clear hK K hHeld
      refine region_now (hP) ?_
      try simp only [Act.put, List.setIfInBounds_toArray, List.set_cons_zero, List.set_cons_succ]
      refine wpAnyH_ready (rs := [2]) (by kernel_rfl) (by simp) (AllReadyH.cons rfl (fun K hK => ?_) AllReadyH.nil)
      go_simp
      refine (HFour.out _).mono ?_
      rintro e wb ⟨rfl, hP⟩
      have hB1 := hB1.ext hP id
      have hBR := hBR.ext hP id
      have hPw := hPw.pure hP
      refine hK.out _ _ (hP) (fun hHeld => ?_)
      clear hK K hHeld
      refine region_now (hP) ?_
      try simp only [Act.put, List.setIfInBounds_toArray, List.set_cons_zero, List.set_cons_succ]
      refine wpAnyH_ready (rs := [3]) (by kernel_rfl) (by simp) (AllReadyH.cons rfl (fun K hK => ?_) AllReadyH.nil)
      go_simp
      refine (of_any r _).mono ?_
      rintro e wd ⟨rfl, hP⟩
      have hB1 := hB1.ext hP id
      have hBR := hBR.ext hP id
      have hPw := hPw.pure hP
      refine hK.out _ _ (hP) (fun hHeld => ?_)
      clear hK K hHeld
      refine region_now (hP) ?_
      try simp only [Act.put, List.setIfInBounds_toArray, List.set_cons_zero, List.set_cons_succ]
      refine region_take 5 30 (v := ?vte5) rfl rfl (by kernel_rfl) (by kernel_rfl) (by kernel_rfl) (fun _ _ _ h => h) (by rfl) (fun w' hS => ?hte5) ?rte5
      case hte5 => (have n := neq32 r r w' rfl; go_simp; with_reducible rfl)
      try simp only [Act.put, List.setIfInBounds_toArray, List.set_cons_zero, List.set_cons_succ]
      refine region_take 6 31 (v := ?vte6) rfl rfl (by kernel_rfl) (by kernel_rfl) (by kernel_rfl) (fun _ _ _ h => h) (by rfl) (fun w' hS => ?hte6) ?rte6
      case hte6 => go_simp; with_reducible rfl
      try simp only [Act.put, List.setIfInBounds_toArray, List.set_cons_zero, List.set_cons_succ]
      refine region_take 7 32 (v := ?vte7) rfl rfl (by kernel_rfl) (by kernel_rfl) (by kernel_rfl) (fun _ _ _ h => h) (by rfl) (fun w' hS => ?hte7) ?rte7
      case hte7 => go_simp; with_reducible rfl
      try simp only [Act.put, List.setIfInBounds_toArray, List.set_cons_zero, List.set_cons_succ]
      refine region_take 8 33 (v := ?vte8) rfl rfl (by kernel_rfl) (by kernel_rfl) (by kernel_rfl) (fun _ _ _ h => h) (by rfl) (fun w' hS => ?hte8) ?rte8
      case hte8 => go_simp; with_reducible rfl
      try simp only [Act.put, List.setIfInBounds_toArray, List.set_cons_zero, List.set_cons_succ]
      refine region_take 9 34 (v := ?vte9) rfl rfl (by kernel_rfl) (by kernel_rfl) (by kernel_rfl) (fun _ _ _ h => h) (by rfl) (fun w' hS => ?hte9) ?rte9
      case hte9 => (have e := h2; go_simp; with_reducible rfl)
      try simp only [Act.put, List.setIfInBounds_toArray, List.set_cons_zero, List.set_cons_succ]
      refine region_take 10 35 (v := ?vte10) rfl rfl (by kernel_rfl) (by kernel_rfl) (by kernel_rfl) (fun _ _ _ h => h) (by rfl) (fun w' hS => ?hte10) ?rte10
      case hte10 => go_simp; with_reducible rfl
      try simp only [Act.put, List.setIfInBounds_toArray, List.set_cons_zero, List.set_cons_succ]
      refine region_take 11 36 (v := ?vte11) rfl rfl (by kernel_rfl) (by kernel_rfl) (by kernel_rfl) (fun _ _ _ h => h) (by rfl) (fun w' hS => ?hte11) ?rte11
      case hte11 => go_simp; with_reducible rfl
      try simp only [Act.put, List.setIfInBounds_toArray, List.set_cons_zero, List.set_cons_succ]
      refine region_take 12 37 (v := ?vte12) rfl rfl (by kernel_rfl) (by kernel_rfl) (by kernel_rfl) (fun _ _ _ h => h) (by rfl) (fun w' hS => ?hte12) ?rte12
      case hte12 => (have e := hBR.cell 2; have e := hS.cell_some e id; go_simp; with_reducible rfl)
      try simp only [Act.put, List.setIfInBounds_toArray, List.set_cons_zero, List.set_cons_succ]
      refine region_take 13 38 (v := ?vte13) rfl rfl (by kernel_rfl) (by kernel_rfl) (by kernel_rfl) (fun _ _ _ h => h) (by rfl) (fun w' hS => ?hte13) ?rte13
      case hte13 => go_simp; with_reducible rfl
      try simp only [Act.put, List.setIfInBounds_toArray, List.set_cons_zero, List.set_cons_succ]
      refine region_take 14 39 (v := ?vte14) rfl rfl (by kernel_rfl) (by kernel_rfl) (by kernel_rfl) (fun _ _ _ h => h) (by rfl) (fun w' hS => ?hte14) ?rte14
      case hte14 => (have e := hB1.cell 2; have e := hS.cell_some e id; go_simp; with_reducible rfl)
      try simp only [Act.put, List.setIfInBounds_toArray, List.set_cons_zero, List.set_cons_succ]
      refine region_take 15 40 (v := ?vte15) rfl rfl (by kernel_rfl) (by kernel_rfl) (by kernel_rfl) (fun _ _ _ h => h) (by rfl) (fun w' hS => ?hte15) ?rte15
      case hte15 => (have e := he1; go_simp; with_reducible rfl)
      try simp only [Act.put, List.setIfInBounds_toArray, List.set_cons_zero, List.set_cons_succ]
      refine region_take 16 41 (v := ?vte16) rfl rfl (by kernel_rfl) (by kernel_rfl) (by kernel_rfl) (fun _ _ _ h => h) (by rfl) (fun w' hS => ?hte16) ?rte16
      case hte16 => go_simp; with_reducible rfl
      try simp only [Act.put, List.setIfInBounds_toArray, List.set_cons_zero, List.set_cons_succ]
      refine region_take 17 42 (v := ?vte17) rfl rfl (by kernel_rfl) (by kernel_rfl) (by kernel_rfl) (fun _ _ _ h => h) (by rfl) (fun w' hS => ?hte17) ?rte17
      case hte17 => go_simp; with_reducible rfl
      try simp only [Act.put, List.setIfInBounds_toArray, List.set_cons_zero, List.set_cons_succ]
      refine region_take 18 43 (v := ?vte18) rfl rfl (by kernel_rfl) (by kernel_rfl) (by kernel_rfl) (fun _ _ _ h => h) (by rfl) (fun w' hS => ?hte18) ?rte18
      case hte18 => (have e := hBR.cell 3; have e := hS.cell_some e id; go_simp; with_reducible rfl)
      try simp only [Act.put, List.setIfInBounds_toArray, List.set_cons_zero, List.set_cons_succ]
      refine region_take 19 44 (v := ?vte19) rfl rfl (by kernel_rfl) (by kernel_rfl) (by kernel_rfl) (fun _ _ _ h => h) (by rfl) (fun w' hS => ?hte19) ?rte19
      case hte19 => go_simp; with_reducible rfl
      try simp only [Act.put, List.setIfInBounds_toArray, List.set_cons_zero, List.set_cons_succ]
      refine region_take 20 45 (v := ?vte20) rfl rfl (by kernel_rfl) (by kernel_rfl) (by kernel_rfl) (fun _ _ _ h => h) (by rfl) (fun w' hS => ?hte20) ?rte20
      case hte20 => (have e := hB1.cell 3; have e := hS.cell_some e id; go_simp; with_reducible rfl)
      try simp only [Act.put, List.setIfInBounds_toArray, List.set_cons_zero, List.set_cons_succ]
      refine region_take 21 46 (v := ?vte21) rfl rfl (by kernel_rfl) (by kernel_rfl) (by kernel_rfl) (fun _ _ _ h => h) (by rfl) (fun w' hS => ?hte21) ?rte21
      case hte21 => (have e := he2; go_simp; with_reducible rfl)
      try simp only [Act.put, List.setIfInBounds_toArray, List.set_cons_zero, List.set_cons_succ]
      refine region_take 22 47 (v := ?vte22) rfl rfl (by kernel_rfl) (by kernel_rfl) (by kernel_rfl) (fun _ _ _ h => h) (by rfl) (fun w' hS => ?hte22) ?rte22
      case hte22 => go_simp; with_reducible rfl
      try simp only [Act.put, List.setIfInBounds_toArray, List.set_cons_zero, List.set_cons_succ]
      refine region_take 23 48 (v := ?vte23) rfl rfl (by kernel_rfl) (by kernel_rfl) (by kernel_rfl) (fun _ _ _ h => h) (by rfl) (fun w' hS => ?hte23) ?rte23
      case hte23 => go_simp; with_reducible rfl
      try simp only [Act.put, List.setIfInBounds_toArray, List.set_cons_zero, List.set_cons_succ]
      refine region_take 24 49 (v := ?vte24) rfl rfl (by kernel_rfl) (by kernel_rfl) (by kernel_rfl) (fun _ _ _ h => h) (by rfl) (fun w' hS => ?hte24) ?rte24
      case hte24 => go_simp; with_reducible rfl
      try simp only [Act.put, List.setIfInBounds_toArray, List.set_cons_zero, List.set_cons_succ]
      refine region_take 25 50 (v := ?vte25) rfl rfl (by kernel_rfl) (by kernel_rfl) (by kernel_rfl) (fun _ _ _ h => h) (by rfl) (fun w' hS => ?hte25) ?rte25
      case hte25 => go_simp; with_reducible rfl
      try simp only [Act.put, List.setIfInBounds_toArray, List.set_cons_zero, List.set_cons_succ]
      refine region_take 26 51 (v := ?vte26) rfl rfl (by kernel_rfl) (by kernel_rfl) (by kernel_rfl) (fun _ _ _ h => h) (by rfl) (fun w' hS => ?hte26) ?rte26
      case hte26 => go_simp; with_reducible rfl
      try simp only [Act.put, List.setIfInBounds_toArray, List.set_cons_zero, List.set_cons_succ]
      refine region_take 27 52 (v := ?vte27) rfl rfl (by kernel_rfl) (by kernel_rfl) (by kernel_rfl) (fun _ _ _ h => h) (by rfl) (fun w' hS => ?hte27) ?rte27
      case hte27 => go_simp; with_reducible rfl
      try simp only [Act.put, List.setIfInBounds_toArray, List.set_cons_zero, List.set_cons_succ]
      refine region_take 28 53 (v := ?vte28) rfl rfl (by kernel_rfl) (by kernel_rfl) (by kernel_rfl) (fun _ _ _ h => h) (by rfl) (fun w' hS => ?hte28) ?rte28
      case hte28 => (have e := h2; go_simp; with_reducible rfl)
      try simp only [Act.put, List.setIfInBounds_toArray, List.set_cons_zero, List.set_cons_succ]
      refine region_take 29 54 (v := ?vte29) rfl rfl (by kernel_rfl) (by kernel_rfl) (by kernel_rfl) (fun _ _ _ h => h) (by rfl) (fun w' hS => ?hte29) ?rte29
      case hte29 => go_simp; with_reducible rfl
      try simp only [Act.put, List.setIfInBounds_toArray, List.set_cons_zero, List.set_cons_succ]
      refine region_skip 30 55 rfl rfl (by kernel_rfl) (by kernel_rfl) (by kernel_rfl) (fun _ _ _ h => h) (by rfl) ?_
      try simp only [Act.put, List.setIfInBounds_toArray, List.set_cons_zero, List.set_cons_succ]
      refine region_skip 31 56 rfl rfl (by kernel_rfl) (by kernel_rfl) (by kernel_rfl) (fun _ _ _ h => h) (by rfl) ?_
      try simp only [Act.put, List.setIfInBounds_toArray, List.set_cons_zero, List.set_cons_succ]
      refine region_skip 32 57 rfl rfl (by kernel_rfl) (by kernel_rfl) (by kernel_rfl) (fun _ _ _ h => h) (by rfl) ?_
      try simp only [Act.put, List.setIfInBounds_toArray, List.set_cons_zero, List.set_cons_succ]
      refine region_skip 33 58 rfl rfl (by kernel_rfl) (by kernel_rfl) (by kernel_rfl) (fun _ _ _ h => h) (by rfl) ?_
      try simp only [Act.put, List.setIfInBounds_toArray, List.set_cons_zero, List.set_cons_succ]
      refine region_skip 34 59 rfl rfl (by kernel_rfl) (by kernel_rfl) (by kernel_rfl) (fun _ _ _ h => h) (by rfl) ?_
      try simp only [Act.put, List.setIfInBounds_toArray, List.set_cons_zero, List.set_cons_succ]
      refine region_skip 35 60 rfl rfl (by kernel_rfl) (by kernel_rfl) (by kernel_rfl) (fun _ _ _ h => h) (by rfl) ?_
      try simp only [Act.put, List.setIfInBounds_toArray, List.set_cons_zero, List.set_cons_succ]
      refine region_skip 36 61 rfl rfl (by kernel_rfl) (by kernel_rfl) (by kernel_rfl) (fun _ _ _ h => h) (by rfl) ?_
      try simp only [Act.put, List.setIfInBounds_toArray, List.set_cons_zero, List.set_cons_succ]
      refine region_skip 37 62 rfl rfl (by kernel_rfl) (by kernel_rfl) (by kernel_rfl) (fun _ _ _ h => h) (by rfl) ?_
      try simp only [Act.put, List.setIfInBounds_toArray, List.set_cons_zero, List.set_cons_succ]
      refine region_skip 38 63 rfl rfl (by kernel_rfl) (by kernel_rfl) (by kernel_rfl) (fun _ _ _ h => h) (by rfl) ?_
      try simp only [Act.put, List.setIfInBounds_toArray, List.set_cons_zero, List.set_cons_succ]
      refine region_skip 39 64 rfl rfl (by kernel_rfl) (by kernel_rfl) (by kernel_rfl) (fun _ _ _ h => h) (by rfl) ?_
      try simp only [Act.put, List.setIfInBounds_toArray, List.set_cons_zero, List.set_cons_succ]
      refine region_skip 40 65 rfl rfl (by kernel_rfl) (by kernel_rfl) (by kernel_rfl) (fun _ _ _ h => h) (by rfl) ?_
      try simp only [Act.put, List.setIfInBounds_toArray, List.set_cons_zero, List.set_cons_succ]
      refine region_skip 41 66 rfl rfl (by kernel_rfl) (by kernel_rfl) (by kernel_rfl) (fun _ _ _ h => h) (by rfl) ?_
      try simp only [Act.put, List.setIfInBounds_toArray, List.set_cons_zero, List.set_cons_succ]
      refine region_take 42 67 (v := ?vte42) rfl rfl (by kernel_rfl) (by kernel_rfl) (by kernel_rfl) (fun _ _ _ h => h) (by rfl) (fun w' hS => ?hte42) ?rte42
      case hte42 => go_simp; with_reducible rfl
      try simp only [Act.put, List.setIfInBounds_toArray, List.set_cons_zero, List.set_cons_succ]
      refine region_take 43 68 (v := ?vte43) rfl rfl (by kernel_rfl) (by kernel_rfl) (by kernel_rfl) (fun _ _ _ h => h) (by rfl) (fun w' hS => ?hte43) ?rte43
      case hte43 => go_simp; with_reducible rfl
      try simp only [Act.put, List.setIfInBounds_toArray, List.set_cons_zero, List.set_cons_succ]
      refine wpAnyH_done (by kernel_rfl) ?_ _
      go_simp
      try simp only [Act.put, List.setIfInBounds_toArray, List.set_cons_zero, List.set_cons_succ]
      clear he1 he2 h2
      have c0 : wd.cell? ⟨bR, 0, none⟩ = some (.int .i64 T.x) := hBR.cell 0
      have c1 : wd.cell? ⟨bR, 1, none⟩ = some (.int .i64 T.y) := hBR.cell 1
      have c2 : wd.cell? ⟨bR, 2, none⟩ = some (.int .i64 T.w) := hBR.cell 2
      have c3 : wd.cell? ⟨bR, 3, none⟩ = some (.int .i64 T.h) := hBR.cell 3
      go_wp2_with fail
      refine (of_any T _).mono ?_
      rintro e we ⟨rfl, hP⟩
      have hB1 := hB1.ext hP id
      have hBR := hBR.ext hP id
      have hPw := hPw.pure hP
      clear hP c0 c1 c2 c3
      go_wp2_with fail
      refine (refmay_any T _).mono ?_
      rintro e wf ⟨rfl, hP⟩
      have hB1 := hB1.ext hP id
      have hBR := hBR.ext hP id
      have hPw := hPw.pure hP
      clear hP
      by_cases hm2 : T.may = true
      · rw [hm2]
        by_cases hn1 : n < -1000000
        · go_wp2_with fail
          refine (works_any _).mono ?_
          rintro e wz ⟨rfl, hPz⟩
          go_wp2_with fail
          go_ret
          exact ⟨rfl, (hPw.pure hPz).below⟩
        · by_cases hn2 : 1000000 < n
          · go_wp2_with fail
            refine (works_any _).mono ?_
            rintro e wz ⟨rfl, hPz⟩
            go_wp2_with fail
            go_ret
            exact ⟨rfl, (hPw.pure hPz).below⟩
          · have HBack := Lib.hid (HBk.out hm2)
            have hneg : IntKind.i64.wrap (-n) = -n := by rw [IntKind.wrap_i64]; omega
            go_wp2_with fail
            have hB1 := hB1.drew
            have hBR := hBR.drew
            have hPw := hPw.drew
            refine region_start (fun _ => False) (by kernel_rfl) ?_
            try simp only [Act.put, List.setIfInBounds_toArray, List.set_cons_zero, List.set_cons_succ]
            refine region_take 0 82 (v := ?vtx0) rfl rfl (by kernel_rfl) (by kernel_rfl) (by kernel_rfl) (fun _ _ _ h => h) (by rfl) (fun w' hS => ?htx0) ?rtx0
            case htx0 => (refine exec_load28 (x := .tmp 5) ?_ ?_ (hBR.ext hS id) rfl <;> rfl)
            try simp only [Act.put, List.setIfInBounds_toArray, List.set_cons_zero, List.set_cons_succ]
            refine region_take 1 83 (v := ?vtx1) rfl rfl (by kernel_rfl) (by kernel_rfl) (by kernel_rfl) (fun _ _ _ h => h) (by rfl) (fun w' hS => ?htx1) ?rtx1
            case htx1 => go_simp; with_reducible rfl
            try simp only [Act.put, List.setIfInBounds_toArray, List.set_cons_zero, List.set_cons_succ]
            refine region_take 2 84 (v := ?vtx2) rfl rfl (by kernel_rfl) (by kernel_rfl) (by kernel_rfl) (fun _ _ _ h => h) (by rfl) (fun w' hS => ?htx2) ?rtx2
            case htx2 => (have e := hneg; go_simp; with_reducible rfl)
            try simp only [Act.put, List.setIfInBounds_toArray, List.set_cons_zero, List.set_cons_succ]
            refine region_take 5 87 (v := ?vtx5) rfl rfl (by kernel_rfl) (by kernel_rfl) (by kernel_rfl) (fun _ _ _ h => h) (by rfl) (fun w' hS => ?htx5) ?rtx5
            case htx5 => (refine exec_load32 (x := .tmp 2) ?_ ?_ (hB1.ext hS id) rfl <;> rfl)
            try simp only [Act.put, List.setIfInBounds_toArray, List.set_cons_zero, List.set_cons_succ]
            refine wpAnyH_ready (rs := [3]) (by kernel_rfl) (by simp) (AllReadyH.cons rfl (fun K hK => ?_) AllReadyH.nil)
            go_simp
            refine (HBack.out _).mono ?_
            rintro e wa ⟨rfl, hP⟩
            have hB1 := hB1.ext hP id
            have hBR := hBR.ext hP id
            have hPw := hPw.pure hP
            refine hK.out _ _ (hP) (fun hHeld => ?_)
            clear hK K hHeld
            refine region_now (hP) ?_
            try simp only [Act.put, List.setIfInBounds_toArray, List.set_cons_zero, List.set_cons_succ]
            refine wpAnyH_ready (rs := [4]) (by kernel_rfl) (by simp) (AllReadyH.cons rfl (fun K hK => ?_) AllReadyH.nil)
            go_simp
            refine (of_any r _).mono ?_
            rintro e wb ⟨rfl, hP⟩
            have hB1 := hB1.ext hP id
            have hBR := hBR.ext hP id
            have hPw := hPw.pure hP
            refine hK.out _ _ (hP) (fun hHeld => ?_)
            clear hK K hHeld
            refine region_now (hP) ?_
            try simp only [Act.put, List.setIfInBounds_toArray, List.set_cons_zero, List.set_cons_succ]
            refine region_take 6 88 (v := ?vtx6) rfl rfl (by kernel_rfl) (by kernel_rfl) (by kernel_rfl) (fun _ _ _ h => h) (by rfl) (fun w' hS => ?htx6) ?rtx6
            case htx6 => (have n := eql32 r r w' rfl; go_simp; with_reducible rfl)
            try simp only [Act.put, List.setIfInBounds_toArray, List.set_cons_zero, List.set_cons_succ]
            refine region_take 7 89 (v := ?vtx7) rfl rfl (by kernel_rfl) (by kernel_rfl) (by kernel_rfl) (fun _ _ _ h => h) (by rfl) (fun w' hS => ?htx7) ?rtx7
            case htx7 => go_simp; with_reducible rfl
            try simp only [Act.put, List.setIfInBounds_toArray, List.set_cons_zero, List.set_cons_succ]
            refine wpAnyH_ready (rs := [8]) (by kernel_rfl) (by simp) (AllReadyH.cons rfl (fun K hK => ?_) AllReadyH.nil)
            go_simp
            refine (works_any _).mono ?_
            rintro e wd ⟨rfl, hP⟩
            have hB1 := hB1.ext hP id
            have hBR := hBR.ext hP id
            have hPw := hPw.pure hP
            refine hK.out _ _ (hP) (fun hHeld => ?_)
            clear hK K hHeld
            refine region_now (hP) ?_
            try simp only [Act.put, List.setIfInBounds_toArray, List.set_cons_zero, List.set_cons_succ]
            refine region_take 9 91 (v := ?vtx9) rfl rfl (by kernel_rfl) (by kernel_rfl) (by kernel_rfl) (fun _ _ _ h => h) (by rfl) (fun w' hS => ?htx9) ?rtx9
            case htx9 => go_simp; with_reducible rfl
            try simp only [Act.put, List.setIfInBounds_toArray, List.set_cons_zero, List.set_cons_succ]
            refine region_take 10 4 (v := ?vtx10) rfl rfl (by kernel_rfl) (by kernel_rfl) (by kernel_rfl) (fun _ _ _ h => h) (by rfl) (fun w' hS => ?htx10) ?rtx10
            case htx10 => go_simp; with_reducible rfl
            try simp only [Act.put, List.setIfInBounds_toArray, List.set_cons_zero, List.set_cons_succ]
            refine wpAnyH_done (by kernel_rfl) ?_ _
            go_simp
            try simp only [Act.put, List.setIfInBounds_toArray, List.set_cons_zero, List.set_cons_succ]
            go_wp2_with fail
            go_ret
            exact ⟨rfl, hPw.below⟩
      · have hm3 : T.may = false := by simpa using hm2
        rw [hm3]
        go_wp2_with fail
        refine (works_any _).mono ?_
        rintro e wz ⟨rfl, hPz⟩
        go_wp2_with fail
        go_ret
        exact ⟨rfl, (hPw.pure hPz).below⟩
    · obtain ⟨he1, he2⟩ := HOd.out h2
      refine region_start (fun _ => False) (by kernel_rfl) ?_
      try simp only [Act.put, List.setIfInBounds_toArray, List.set_cons_zero, List.set_cons_succ]
      refine region_take 0 25 (v := ?vto0) rfl rfl (by kernel_rfl) (by kernel_rfl) (by kernel_rfl) (fun _ _ _ h => h) (by rfl) (fun w' hS => ?hto0) ?rto0
      case hto0 => (refine exec_load32 (x := .tmp 2) ?_ ?_ (hB1.ext hS id) rfl <;> rfl)
      try simp only [Act.put, List.setIfInBounds_toArray, List.set_cons_zero, List.set_cons_succ]
      refine region_take 4 29 (v := ?vto4) rfl rfl (by kernel_rfl) (by kernel_rfl) (by kernel_rfl) (fun _ _ _ h => h) (by rfl) (fun w' hS => ?hto4) ?rto4
      case hto4 => (refine exec_load32 (x := .tmp 2) ?_ ?_ (hB1.ext hS id) rfl <;> rfl)
      try simp only [Act.put, List.setIfInBounds_toArray, List.set_cons_zero, List.set_cons_succ]
      refine wpAnyH_ready (rs := [1]) (by kernel_rfl) (by simp) (AllReadyH.cons rfl (fun K hK => ?_) AllReadyH.nil)
      go_simp
      refine (to_any r _).mono ?_
      rintro e wa ⟨rfl, hP⟩
      have hB1 := hB1.ext hP id
      have hBR := hBR.ext hP id
      have hPw := hPw.pure hP
      refine hK.out _ _ (hP) (fun hHeld => ?_)
      clear hK K hHeld
      refine region_now (hP) ?_
      try simp only [Act.put, List.setIfInBounds_toArray, List.set_cons_zero, List.set_cons_succ]
      refine wpAnyH_ready (rs := [2]) (by kernel_rfl) (by simp) (AllReadyH.cons rfl (fun K hK => ?_) AllReadyH.nil)
      go_simp
      refine (HFour.out _).mono ?_
      rintro e wb ⟨rfl, hP⟩
      have hB1 := hB1.ext hP id
      have hBR := hBR.ext hP id
      have hPw := hPw.pure hP
      refine hK.out _ _ (hP) (fun hHeld => ?_)
      clear hK K hHeld
      refine region_now (hP) ?_
      try simp only [Act.put, List.setIfInBounds_toArray, List.set_cons_zero, List.set_cons_succ]
      refine wpAnyH_ready (rs := [3]) (by kernel_rfl) (by simp) (AllReadyH.cons rfl (fun K hK => ?_) AllReadyH.nil)
      go_simp
      refine (of_any r _).mono ?_
      rintro e wd ⟨rfl, hP⟩
      have hB1 := hB1.ext hP id
      have hBR := hBR.ext hP id
      have hPw := hPw.pure hP
      refine hK.out _ _ (hP) (fun hHeld => ?_)
      clear hK K hHeld
      refine region_now (hP) ?_
      try simp only [Act.put, List.setIfInBounds_toArray, List.set_cons_zero, List.set_cons_succ]
      refine region_take 5 30 (v := ?vto5) rfl rfl (by kernel_rfl) (by kernel_rfl) (by kernel_rfl) (fun _ _ _ h => h) (by rfl) (fun w' hS => ?hto5) ?rto5
      case hto5 => (have n := neq32 r r w' rfl; go_simp; with_reducible rfl)
      try simp only [Act.put, List.setIfInBounds_toArray, List.set_cons_zero, List.set_cons_succ]
      refine region_take 6 31 (v := ?vto6) rfl rfl (by kernel_rfl) (by kernel_rfl) (by kernel_rfl) (fun _ _ _ h => h) (by rfl) (fun w' hS => ?hto6) ?rto6
      case hto6 => go_simp; with_reducible rfl
      try simp only [Act.put, List.setIfInBounds_toArray, List.set_cons_zero, List.set_cons_succ]
      refine region_take 7 32 (v := ?vto7) rfl rfl (by kernel_rfl) (by kernel_rfl) (by kernel_rfl) (fun _ _ _ h => h) (by rfl) (fun w' hS => ?hto7) ?rto7
      case hto7 => go_simp; with_reducible rfl
      try simp only [Act.put, List.setIfInBounds_toArray, List.set_cons_zero, List.set_cons_succ]
      refine region_take 8 33 (v := ?vto8) rfl rfl (by kernel_rfl) (by kernel_rfl) (by kernel_rfl) (fun _ _ _ h => h) (by rfl) (fun w' hS => ?hto8) ?rto8
      case hto8 => go_simp; with_reducible rfl
      try simp only [Act.put, List.setIfInBounds_toArray, List.set_cons_zero, List.set_cons_succ]
      refine region_take 9 34 (v := ?vto9) rfl rfl (by kernel_rfl) (by kernel_rfl) (by kernel_rfl) (fun _ _ _ h => h) (by rfl) (fun w' hS => ?hto9) ?rto9
      case hto9 => (have e1 : decide (n.tmod 2 = 0) = false := (by simp [h2]); have e2 : (n.tmod 2 == 0) = false := (by simp [h2]); have e3 : (n.tmod 2 != 0) = true := (by simp [h2]); have e4 : decide (n.tmod 2 ≠ 0) = true := (by simp [h2]); go_simp; with_reducible rfl)
      try simp only [Act.put, List.setIfInBounds_toArray, List.set_cons_zero, List.set_cons_succ]
      refine region_take 10 35 (v := ?vto10) rfl rfl (by kernel_rfl) (by kernel_rfl) (by kernel_rfl) (fun _ _ _ h => h) (by rfl) (fun w' hS => ?hto10) ?rto10
      case hto10 => go_simp; with_reducible rfl
      try simp only [Act.put, List.setIfInBounds_toArray, List.set_cons_zero, List.set_cons_succ]
      refine region_skip 11 36 rfl rfl (by kernel_rfl) (by kernel_rfl) (by kernel_rfl) (fun _ _ _ h => h) (by rfl) ?_
      try simp only [Act.put, List.setIfInBounds_toArray, List.set_cons_zero, List.set_cons_succ]
      refine region_skip 12 37 rfl rfl (by kernel_rfl) (by kernel_rfl) (by kernel_rfl) (fun _ _ _ h => h) (by rfl) ?_
      try simp only [Act.put, List.setIfInBounds_toArray, List.set_cons_zero, List.set_cons_succ]
      refine region_skip 13 38 rfl rfl (by kernel_rfl) (by kernel_rfl) (by kernel_rfl) (fun _ _ _ h => h) (by rfl) ?_
      try simp only [Act.put, List.setIfInBounds_toArray, List.set_cons_zero, List.set_cons_succ]
      refine region_skip 14 39 rfl rfl (by kernel_rfl) (by kernel_rfl) (by kernel_rfl) (fun _ _ _ h => h) (by rfl) ?_
      try simp only [Act.put, List.setIfInBounds_toArray, List.set_cons_zero, List.set_cons_succ]
      refine region_skip 15 40 rfl rfl (by kernel_rfl) (by kernel_rfl) (by kernel_rfl) (fun _ _ _ h => h) (by rfl) ?_
      try simp only [Act.put, List.setIfInBounds_toArray, List.set_cons_zero, List.set_cons_succ]
      refine region_skip 16 41 rfl rfl (by kernel_rfl) (by kernel_rfl) (by kernel_rfl) (fun _ _ _ h => h) (by rfl) ?_
      try simp only [Act.put, List.setIfInBounds_toArray, List.set_cons_zero, List.set_cons_succ]
      refine region_skip 17 42 rfl rfl (by kernel_rfl) (by kernel_rfl) (by kernel_rfl) (fun _ _ _ h => h) (by rfl) ?_
      try simp only [Act.put, List.setIfInBounds_toArray, List.set_cons_zero, List.set_cons_succ]
      refine region_skip 18 43 rfl rfl (by kernel_rfl) (by kernel_rfl) (by kernel_rfl) (fun _ _ _ h => h) (by rfl) ?_
      try simp only [Act.put, List.setIfInBounds_toArray, List.set_cons_zero, List.set_cons_succ]
      refine region_skip 19 44 rfl rfl (by kernel_rfl) (by kernel_rfl) (by kernel_rfl) (fun _ _ _ h => h) (by rfl) ?_
      try simp only [Act.put, List.setIfInBounds_toArray, List.set_cons_zero, List.set_cons_succ]
      refine region_skip 20 45 rfl rfl (by kernel_rfl) (by kernel_rfl) (by kernel_rfl) (fun _ _ _ h => h) (by rfl) ?_
      try simp only [Act.put, List.setIfInBounds_toArray, List.set_cons_zero, List.set_cons_succ]
      refine region_skip 21 46 rfl rfl (by kernel_rfl) (by kernel_rfl) (by kernel_rfl) (fun _ _ _ h => h) (by rfl) ?_
      try simp only [Act.put, List.setIfInBounds_toArray, List.set_cons_zero, List.set_cons_succ]
      refine region_skip 22 47 rfl rfl (by kernel_rfl) (by kernel_rfl) (by kernel_rfl) (fun _ _ _ h => h) (by rfl) ?_
      try simp only [Act.put, List.setIfInBounds_toArray, List.set_cons_zero, List.set_cons_succ]
      refine region_take 23 48 (v := ?vto23) rfl rfl (by kernel_rfl) (by kernel_rfl) (by kernel_rfl) (fun _ _ _ h => h) (by rfl) (fun w' hS => ?hto23) ?rto23
      case hto23 => go_simp; with_reducible rfl
      try simp only [Act.put, List.setIfInBounds_toArray, List.set_cons_zero, List.set_cons_succ]
      refine region_take 24 49 (v := ?vto24) rfl rfl (by kernel_rfl) (by kernel_rfl) (by kernel_rfl) (fun _ _ _ h => h) (by rfl) (fun w' hS => ?hto24) ?rto24
      case hto24 => go_simp; with_reducible rfl
      try simp only [Act.put, List.setIfInBounds_toArray, List.set_cons_zero, List.set_cons_succ]
      refine region_take 25 50 (v := ?vto25) rfl rfl (by kernel_rfl) (by kernel_rfl) (by kernel_rfl) (fun _ _ _ h => h) (by rfl) (fun w' hS => ?hto25) ?rto25
      case hto25 => go_simp; with_reducible rfl
      try simp only [Act.put, List.setIfInBounds_toArray, List.set_cons_zero, List.set_cons_succ]
      refine region_take 26 51 (v := ?vto26) rfl rfl (by kernel_rfl) (by kernel_rfl) (by kernel_rfl) (fun _ _ _ h => h) (by rfl) (fun w' hS => ?hto26) ?rto26
      case hto26 => go_simp; with_reducible rfl
      try simp only [Act.put, List.setIfInBounds_toArray, List.set_cons_zero, List.set_cons_succ]
      refine region_take 27 52 (v := ?vto27) rfl rfl (by kernel_rfl) (by kernel_rfl) (by kernel_rfl) (fun _ _ _ h => h) (by rfl) (fun w' hS => ?hto27) ?rto27
      case hto27 => go_simp; with_reducible rfl
      try simp only [Act.put, List.setIfInBounds_toArray, List.set_cons_zero, List.set_cons_succ]
      refine region_take 28 53 (v := ?vto28) rfl rfl (by kernel_rfl) (by kernel_rfl) (by kernel_rfl) (fun _ _ _ h => h) (by rfl) (fun w' hS => ?hto28) ?rto28
      case hto28 => (have e1 : decide (n.tmod 2 = 0) = false := (by simp [h2]); have e2 : (n.tmod 2 == 0) = false := (by simp [h2]); have e3 : (n.tmod 2 != 0) = true := (by simp [h2]); have e4 : decide (n.tmod 2 ≠ 0) = true := (by simp [h2]); go_simp; with_reducible rfl)
      try simp only [Act.put, List.setIfInBounds_toArray, List.set_cons_zero, List.set_cons_succ]
      refine region_take 29 54 (v := ?vto29) rfl rfl (by kernel_rfl) (by kernel_rfl) (by kernel_rfl) (fun _ _ _ h => h) (by rfl) (fun w' hS => ?hto29) ?rto29
      case hto29 => go_simp; with_reducible rfl
      try simp only [Act.put, List.setIfInBounds_toArray, List.set_cons_zero, List.set_cons_succ]
      refine region_take 30 55 (v := ?vto30) rfl rfl (by kernel_rfl) (by kernel_rfl) (by kernel_rfl) (fun _ _ _ h => h) (by rfl) (fun w' hS => ?hto30) ?rto30
      case hto30 => go_simp; with_reducible rfl
      try simp only [Act.put, List.setIfInBounds_toArray, List.set_cons_zero, List.set_cons_succ]
      refine region_take 31 56 (v := ?vto31) rfl rfl (by kernel_rfl) (by kernel_rfl) (by kernel_rfl) (fun _ _ _ h => h) (by rfl) (fun w' hS => ?hto31) ?rto31
      case hto31 => (have e := hBR.cell 2; have e := hS.cell_some e id; go_simp; with_reducible rfl)
      try simp only [Act.put, List.setIfInBounds_toArray, List.set_cons_zero, List.set_cons_succ]
      refine region_take 32 57 (v := ?vto32) rfl rfl (by kernel_rfl) (by kernel_rfl) (by kernel_rfl) (fun _ _ _ h => h) (by rfl) (fun w' hS => ?hto32) ?rto32
      case hto32 => go_simp; with_reducible rfl
      try simp only [Act.put, List.setIfInBounds_toArray, List.set_cons_zero, List.set_cons_succ]
      refine region_take 33 58 (v := ?vto33) rfl rfl (by kernel_rfl) (by kernel_rfl) (by kernel_rfl) (fun _ _ _ h => h) (by rfl) (fun w' hS => ?hto33) ?rto33
      case hto33 => (have e := hB1.cell 3; have e := hS.cell_some e id; go_simp; with_reducible rfl)
      try simp only [Act.put, List.setIfInBounds_toArray, List.set_cons_zero, List.set_cons_succ]
      refine region_take 34 59 (v := ?vto34) rfl rfl (by kernel_rfl) (by kernel_rfl) (by kernel_rfl) (fun _ _ _ h => h) (by rfl) (fun w' hS => ?hto34) ?rto34
      case hto34 => (have e := he1; go_simp; with_reducible rfl)
      try simp only [Act.put, List.setIfInBounds_toArray, List.set_cons_zero, List.set_cons_succ]
      refine region_take 35 60 (v := ?vto35) rfl rfl (by kernel_rfl) (by kernel_rfl) (by kernel_rfl) (fun _ _ _ h => h) (by rfl) (fun w' hS => ?hto35) ?rto35
      case hto35 => go_simp; with_reducible rfl
      try simp only [Act.put, List.setIfInBounds_toArray, List.set_cons_zero, List.set_cons_succ]
      refine region_take 36 61 (v := ?vto36) rfl rfl (by kernel_rfl) (by kernel_rfl) (by kernel_rfl) (fun _ _ _ h => h) (by rfl) (fun w' hS => ?hto36) ?rto36
      case hto36 => go_simp; with_reducible rfl
      try simp only [Act.put, List.setIfInBounds_toArray, List.set_cons_zero, List.set_cons_succ]
      refine region_take 37 62 (v := ?vto37) rfl rfl (by kernel_rfl) (by kernel_rfl) (by kernel_rfl) (fun _ _ _ h => h) (by rfl) (fun w' hS => ?hto37) ?rto37
      case hto37 => (have e := hBR.cell 3; have e := hS.cell_some e id; go_simp; with_reducible rfl)
      try simp only [Act.put, List.setIfInBounds_toArray, List.set_cons_zero, List.set_cons_succ]
      refine region_take 38 63 (v := ?vto38) rfl rfl (by kernel_rfl) (by kernel_rfl) (by kernel_rfl) (fun _ _ _ h => h) (by rfl) (fun w' hS => ?hto38) ?rto38
      case hto38 => go_simp; with_reducible rfl
      try simp only [Act.put, List.setIfInBounds_toArray, List.set_cons_zero, List.set_cons_succ]
      refine region_take 39 64 (v := ?vto39) rfl rfl (by kernel_rfl) (by kernel_rfl) (by kernel_rfl) (fun _ _ _ h => h) (by rfl) (fun w' hS => ?hto39) ?rto39
      case hto39 => (have e := hB1.cell 2; have e := hS.cell_some e id; go_simp; with_reducible rfl)
      try simp only [Act.put, List.setIfInBounds_toArray, List.set_cons_zero, List.set_cons_succ]
      refine region_take 40 65 (v := ?vto40) rfl rfl (by kernel_rfl) (by kernel_rfl) (by kernel_rfl) (fun _ _ _ h => h) (by rfl) (fun w' hS => ?hto40) ?rto40
      case hto40 => (have e := he2; go_simp; with_reducible rfl)
      try simp only [Act.put, List.setIfInBounds_toArray, List.set_cons_zero, List.set_cons_succ]
      refine region_take 41 66 (v := ?vto41) rfl rfl (by kernel_rfl) (by kernel_rfl) (by kernel_rfl) (fun _ _ _ h => h) (by rfl) (fun w' hS => ?hto41) ?rto41
      case hto41 => go_simp; with_reducible rfl
      try simp only [Act.put, List.setIfInBounds_toArray, List.set_cons_zero, List.set_cons_succ]
      refine region_take 42 67 (v := ?vto42) rfl rfl (by kernel_rfl) (by kernel_rfl) (by kernel_rfl) (fun _ _ _ h => h) (by rfl) (fun w' hS => ?hto42) ?rto42
      case hto42 => go_simp; with_reducible rfl
      try simp only [Act.put, List.setIfInBounds_toArray, List.set_cons_zero, List.set_cons_succ]
      refine region_take 43 68 (v := ?vto43) rfl rfl (by kernel_rfl) (by kernel_rfl) (by kernel_rfl) (fun _ _ _ h => h) (by rfl) (fun w' hS => ?hto43) ?rto43
      case hto43 => go_simp; with_reducible rfl
      try simp only [Act.put, List.setIfInBounds_toArray, List.set_cons_zero, List.set_cons_succ]
      refine wpAnyH_done (by kernel_rfl) ?_ _
      go_simp
      try simp only [Act.put, List.setIfInBounds_toArray, List.set_cons_zero, List.set_cons_succ]
      clear he1 he2 h2
      have c0 : wd.cell? ⟨bR, 0, none⟩ = some (.int .i64 T.x) := hBR.cell 0
      have c1 : wd.cell? ⟨bR, 1, none⟩ = some (.int .i64 T.y) := hBR.cell 1
      have c2 : wd.cell? ⟨bR, 2, none⟩ = some (.int .i64 T.w) := hBR.cell 2
      have c3 : wd.cell? ⟨bR, 3, none⟩ = some (.int .i64 T.h) := hBR.cell 3
      go_wp2_with fail
      refine (of_any T _).mono ?_
      rintro e we ⟨rfl, hP⟩
      have hB1 := hB1.ext hP id
      have hBR := hBR.ext hP id
      have hPw := hPw.pure hP
      clear hP c0 c1 c2 c3
      go_wp2_with fail
      refine (refmay_any T _).mono ?_
      rintro e wf ⟨rfl, hP⟩
      have hB1 := hB1.ext hP id
      have hBR := hBR.ext hP id
      have hPw := hPw.pure hP
      clear hP
      by_cases hm2 : T.may = true
      · rw [hm2]
        by_cases hn1 : n < -1000000
        · go_wp2_with fail
          refine (works_any _).mono ?_
          rintro e wz ⟨rfl, hPz⟩
          go_wp2_with fail
          go_ret
          exact ⟨rfl, (hPw.pure hPz).below⟩
        · by_cases hn2 : 1000000 < n
          · go_wp2_with fail
            refine (works_any _).mono ?_
            rintro e wz ⟨rfl, hPz⟩
            go_wp2_with fail
            go_ret
            exact ⟨rfl, (hPw.pure hPz).below⟩
          · have HBack := Lib.hid (HBk.out hm2)
            have hneg : IntKind.i64.wrap (-n) = -n := by rw [IntKind.wrap_i64]; omega
            go_wp2_with fail
            have hB1 := hB1.drew
            have hBR := hBR.drew
            have hPw := hPw.drew
            refine region_start (fun _ => False) (by kernel_rfl) ?_
            try simp only [Act.put, List.setIfInBounds_toArray, List.set_cons_zero, List.set_cons_succ]
            refine region_take 0 82 (v := ?vty0) rfl rfl (by kernel_rfl) (by kernel_rfl) (by kernel_rfl) (fun _ _ _ h => h) (by rfl) (fun w' hS => ?hty0) ?rty0
            case hty0 => (refine exec_load28 (x := .tmp 5) ?_ ?_ (hBR.ext hS id) rfl <;> rfl)
            try simp only [Act.put, List.setIfInBounds_toArray, List.set_cons_zero, List.set_cons_succ]
            refine region_take 1 83 (v := ?vty1) rfl rfl (by kernel_rfl) (by kernel_rfl) (by kernel_rfl) (fun _ _ _ h => h) (by rfl) (fun w' hS => ?hty1) ?rty1
            case hty1 => go_simp; with_reducible rfl
            try simp only [Act.put, List.setIfInBounds_toArray, List.set_cons_zero, List.set_cons_succ]
            refine region_take 2 84 (v := ?vty2) rfl rfl (by kernel_rfl) (by kernel_rfl) (by kernel_rfl) (fun _ _ _ h => h) (by rfl) (fun w' hS => ?hty2) ?rty2
            case hty2 => (have e := hneg; go_simp; with_reducible rfl)
            try simp only [Act.put, List.setIfInBounds_toArray, List.set_cons_zero, List.set_cons_succ]
            refine region_take 5 87 (v := ?vty5) rfl rfl (by kernel_rfl) (by kernel_rfl) (by kernel_rfl) (fun _ _ _ h => h) (by rfl) (fun w' hS => ?hty5) ?rty5
            case hty5 => (refine exec_load32 (x := .tmp 2) ?_ ?_ (hB1.ext hS id) rfl <;> rfl)
            try simp only [Act.put, List.setIfInBounds_toArray, List.set_cons_zero, List.set_cons_succ]
            refine wpAnyH_ready (rs := [3]) (by kernel_rfl) (by simp) (AllReadyH.cons rfl (fun K hK => ?_) AllReadyH.nil)
            go_simp
            refine (HBack.out _).mono ?_
            rintro e wa ⟨rfl, hP⟩
            have hB1 := hB1.ext hP id
            have hBR := hBR.ext hP id
            have hPw := hPw.pure hP
            refine hK.out _ _ (hP) (fun hHeld => ?_)
            clear hK K hHeld
            refine region_now (hP) ?_
            try simp only [Act.put, List.setIfInBounds_toArray, List.set_cons_zero, List.set_cons_succ]
            refine wpAnyH_ready (rs := [4]) (by kernel_rfl) (by simp) (AllReadyH.cons rfl (fun K hK => ?_) AllReadyH.nil)
            go_simp
            refine (of_any r _).mono ?_
            rintro e wb ⟨rfl, hP⟩
            have hB1 := hB1.ext hP id
            have hBR := hBR.ext hP id
            have hPw := hPw.pure hP
            refine hK.out _ _ (hP) (fun hHeld => ?_)
            clear hK K hHeld
            refine region_now (hP) ?_
            try simp only [Act.put, List.setIfInBounds_toArray, List.set_cons_zero, List.set_cons_succ]
            refine region_take 6 88 (v := ?vty6) rfl rfl (by kernel_rfl) (by kernel_rfl) (by kernel_rfl) (fun _ _ _ h => h) (by rfl) (fun w' hS => ?hty6) ?rty6
            case hty6 => (have n := eql32 r r w' rfl; go_simp; with_reducible rfl)
            try simp only [Act.put, List.setIfInBounds_toArray, List.set_cons_zero, List.set_cons_succ]
            refine region_take 7 89 (v := ?vty7) rfl rfl (by kernel_rfl) (by kernel_rfl) (by kernel_rfl) (fun _ _ _ h => h) (by rfl) (fun w' hS => ?hty7) ?rty7
            case hty7 => go_simp; with_reducible rfl
            try simp only [Act.put, List.setIfInBounds_toArray, List.set_cons_zero, List.set_cons_succ]
            refine wpAnyH_ready (rs := [8]) (by kernel_rfl) (by simp) (AllReadyH.cons rfl (fun K hK => ?_) AllReadyH.nil)
            go_simp
            refine (works_any _).mono ?_
            rintro e wd ⟨rfl, hP⟩
            have hB1 := hB1.ext hP id
            have hBR := hBR.ext hP id
            have hPw := hPw.pure hP
            refine hK.out _ _ (hP) (fun hHeld => ?_)
            clear hK K hHeld
            refine region_now (hP) ?_
            try simp only [Act.put, List.setIfInBounds_toArray, List.set_cons_zero, List.set_cons_succ]
            refine region_take 9 91 (v := ?vty9) rfl rfl (by kernel_rfl) (by kernel_rfl) (by kernel_rfl) (fun _ _ _ h => h) (by rfl) (fun w' hS => ?hty9) ?rty9
            case hty9 => go_simp; with_reducible rfl
            try simp only [Act.put, List.setIfInBounds_toArray, List.set_cons_zero, List.set_cons_succ]
            refine region_take 10 4 (v := ?vty10) rfl rfl (by kernel_rfl) (by kernel_rfl) (by kernel_rfl) (fun _ _ _ h => h) (by rfl) (fun w' hS => ?hty10) ?rty10
            case hty10 => go_simp; with_reducible rfl
            try simp only [Act.put, List.setIfInBounds_toArray, List.set_cons_zero, List.set_cons_succ]
            refine wpAnyH_done (by kernel_rfl) ?_ _
            go_simp
            try simp only [Act.put, List.setIfInBounds_toArray, List.set_cons_zero, List.set_cons_succ]
            go_wp2_with fail
            go_ret
            exact ⟨rfl, hPw.below⟩
      · have hm3 : T.may = false := by simpa using hm2
        rw [hm3]
        go_wp2_with fail
        refine (works_any _).mono ?_
        rintro e wz ⟨rfl, hPz⟩
        go_wp2_with fail
        go_ret
        exact ⟨rfl, (hPw.pure hPz).below⟩
  · have hm' : r.may = false := by simpa using hm
    have hT0 := HNone.out hm'
    rw [hm']
    have c0 : wc.cell? ⟨bR, 0, none⟩ = some (.int .i64 0) := by have := hBR.cell 0; rw [hT0] at this; exact this
    have c1 : wc.cell? ⟨bR, 1, none⟩ = some (.int .i64 0) := by have := hBR.cell 1; rw [hT0] at this; exact this
    have c2 : wc.cell? ⟨bR, 2, none⟩ = some (.int .i64 0) := by have := hBR.cell 2; rw [hT0] at this; exact this
    have c3 : wc.cell? ⟨bR, 3, none⟩ = some (.int .i64 0) := by have := hBR.cell 3; rw [hT0] at this; exact this
    clear hT0 hm hm' hB1 hBR
    go_wp2_with fail
    refine (works_any _).mono ?_
    rintro e wz ⟨rfl, hPz⟩
    go_wp2_with fail
    go_ret
    exact ⟨rfl, (hPw.pure hPz).below⟩

set_option maxRecDepth 100000 in
theorem lifted (os : Os) (started : os.Started) (H : Type) (enc : TypeId × Value → H) :
    ReturnsInHanded {} Try.checked os 5 .any (Rows.boxTurnsSpec.pre6 enc Try.prog Try.f5 Rows.boxTurnsRow.domain false) (Rows.boxTurnsSpec.post enc Try.prog Try.f5 false true false false) := by
  refine returnsInHanded_of_change (C := Try.checked) own started (by kernel_rfl) Try.func5
    (ChangeSpec.witness6 (enc := enc) (C := Try.checked) false ⟨#[], #[.agg #[.int .i64 0, .int .i64 0, .int .i64 0, .int .i64 0], .int .i64 0], []⟩ 8 (by kernel_rfl) (by kernel_rfl) (by kernel_rfl) (by kernel_rfl)) ?_
  intro W base args ds gs before hval0 hW hcnd _
  have hval : ∀ (j : Nat) t v, Try.f5.params[j]? = some t → args[j]? = some v → Value.okWide Try.prog W .any base t v := hval0
  have hW' := hW
  obtain ⟨p, q, hA0, hV, rfl, hfz, hnd⟩ := hW
  have hA : DataW.TrodAll enc Try.prog W 0 (fun _ => true) true Try.f5.params.toList args.toList ds p := hA0
  rw [Try.params5] at hA hval
  obtain ⟨v0, vs0, d0, ds0, p0, q0, hargs, rfl, rfl, h0, r0⟩ := trodAll_cons hA
  obtain ⟨v1, vs1, d1, ds1, p1, q1, rfl, rfl, rfl, h1, r1⟩ := trodAll_cons r0
  obtain ⟨rfl, rfl, rfl⟩ := trodAll_nil r1
  obtain rfl : args = #[v0, v1] := by cases args; simp_all
  obtain ⟨rfl, rfl⟩ := trodVars_none hV
  have k0 := h0
  have lt0 : ∀ x ∈ p0, x.block < W.heap.size := by obtain ⟨m, hm⟩ := k0; exact DataW.trod_lt m _ _ _ hm
  have k1 := h1
  have lt1 : ∀ x ∈ p1, x.block < W.heap.size := by obtain ⟨m, hm⟩ := k1; exact DataW.trod_lt m _ _ _ hm
  obtain ⟨r0', rfl⟩ := open_rect (hval 0 32 v0 rfl rfl) h0
  obtain ⟨x1, rfl, rfl, wx1⟩ := open_int Try.underlying3 (hval 1 3 v1 rfl rfl) h1
  clear hA0 hval0
  refine (walk r0' x1 W).mono fun e W' ⟨he, bel⟩ => ?_
  subst he
  exact ⟨_, rfl, _, _, _, [], _, [], hW', trodAll_mk1 (shut_bool Try.underlying4 _), (trodAll_cons_mk (Below.trod laidOut (by kernel_rfl) (of_decide_eq_true (by kernel_rfl)) k0 bel lt0) (trodAll_cons_mk (Below.trod laidOut (by kernel_rfl) (of_decide_eq_true (by kernel_rfl)) k1 bel lt1) trodAll_mk0)), rfl, bel.frame _, fun h => by cases h⟩

theorem proved : Rows.BoxTurnsSaid :=
  OpenClaim.holds_of_wide 5 Try.f5 rfl rfl rfl rfl rfl rfl rfl ⟨rfl, rfl, rfl, rfl, rfl⟩ rfl rfl rfl rfl rfl (by kernel_rfl) Try.func5 (by kernel_rfl)
    (of_decide_eq_true (by kernel_rfl)) (by unfold Func.isWrapper; first | (rw [if_pos (by decide +kernel)]; kernel_rfl) | (rw [if_neg (by decide +kernel)]; exact ⟨rfl, rfl⟩))
    (fun os started H enc _ => lifted os started H enc)
#print axioms proved
end Go.Proofs.Ytnibjjpohhknkaa.boxTurns
