/-
  BoxBoth: what is in two rectangles is as the document says, in whichever order, and lies in both. No condition.
-/
import Derived.Test.YtnibjjpohhknkaaRects
import Derived.Test.YtnibjjpohhknkaaWorks37
namespace Go.Proofs.Ytnibjjpohhknkaa.boxBoth
open Go.ChangeShapes Go.WideShapes Go.ChangeAt Go.RowKit Go.Proofs.Ytnibjjpohhknkaa
set_option linter.unusedVariables false
set_option linter.unusedSimpArgs false


set_option maxHeartbeats 8000000 in
set_option maxRecDepth 100000 in
theorem walk (a b : Bx) (w : World) : Calls Try.prog 4 #[.agg #[.int .i64 a.x, .int .i64 a.y, .int .i64 a.w, .int .i64 a.h], .agg #[.int .i64 b.x, .int .i64 b.y, .int .i64 b.w, .int .i64 b.h]] w fun e w' => e = .returned (.bool true) ∧ Below w.heap.size w w' := by
  obtain ⟨T, hT⟩ : ∃ T, T = a.both b := ⟨_, rfl⟩
  have HBo : Hid (∀ W, Calls Try.prog 14 #[.agg #[.int .i64 a.x, .int .i64 a.y, .int .i64 a.w, .int .i64 a.h], .agg #[.int .i64 b.x, .int .i64 b.y, .int .i64 b.w, .int .i64 b.h]] W (RectTo T W)) := Lib.hid (fun W => hT ▸ both_any a b W)
  have HBo' : Hid (∀ W, Calls Try.prog 14 #[.agg #[.int .i64 b.x, .int .i64 b.y, .int .i64 b.w, .int .i64 b.h], .agg #[.int .i64 a.x, .int .i64 a.y, .int .i64 a.w, .int .i64 a.h]] W (RectTo T W)) := Lib.hid (fun W => by rw [hT, both_comm]; exact both_any b a W)
  have HRb : Hid (∀ W, Calls Try.prog 16 #[.agg #[.int .i64 a.x, .int .i64 a.y, .int .i64 a.w, .int .i64 a.h], .agg #[.int .i64 b.x, .int .i64 b.y, .int .i64 b.w, .int .i64 b.h]] W (RectTo T W)) := Lib.hid (fun W => hT ▸ refboth_any a b W)
  have HNone : Hid (T.w = 0 → T = .zero) := Lib.hid (by rw [hT]; exact both_none)
  have HIn : Hid (T.w ≠ 0 → a.x ≤ T.x ∧ wrap64 (T.x + T.w) ≤ wrap64 (a.x + a.w) ∧ b.y ≤ T.y ∧ wrap64 (T.y + T.h) ≤ wrap64 (b.y + b.h) ∧ True ∧ True ∧ True ∧ True) := Lib.hid (by
    intro hz
    rw [hT] at hz ⊢
    obtain ⟨g1, g2, g3, g4, g5, g6⟩ := both_in hz
    have h1 := Bx.may_iff.1 g5
    have h2 := Bx.may_iff.1 g6
    unfold most at h1 h2
    have h3 := both_pos hz
    have wr : ∀ n : Int, -9223372036854775808 ≤ n → n ≤ 9223372036854775807 → wrap64 n = n := fun n h1 h2 => by unfold wrap64; omega
    refine ⟨g1, ?_, g3, ?_, trivial, trivial, trivial, trivial⟩
    · rw [wr _ (by omega) (by omega), wr _ (by omega) (by omega)]; exact g2
    · rw [wr _ (by omega) (by omega), wr _ (by omega) (by omega)]; exact g4)
  clear hT
  have HM := Lib.hid (fun W => refmay_any a W)
  obtain ⟨w1, hw1⟩ : ∃ z, z = w.alloc (.cells (rc a).toArray 32) := ⟨_, rfl⟩
  obtain ⟨tb, htb⟩ : ∃ z, z = w.heap.size := ⟨_, rfl⟩
  have hs1 : w1.heap.size = tb + 1 := by rw [hw1, World.size_alloc, htb]
  have hB1 : BlockIs w1 tb (rc a) 32 := by rw [htb, hw1]; exact BlockIs.new w _ _
  obtain ⟨w2, hw2⟩ : ∃ z, z = w1.alloc (.cells (rc b).toArray 32) := ⟨_, rfl⟩
  have hsz : tb + 2 ≤ w2.drew.heap.size := by show tb + 2 ≤ w2.heap.size; rw [hw2, World.size_alloc, hs1]; omega
  have hB2 : BlockIs w2 (tb + 1) (rc b) 32 := by rw [← hs1, hw2]; exact BlockIs.new w1 _ _
  have hB1 : BlockIs w2 tb (rc a) 32 := hw2 ▸ hB1.alloc _
  have hPw : Pure w w2 := (show Pure w w1 from hw1 ▸ ext_alloc w _).pure (hw2 ▸ ext_alloc w1 _)
  have HW : Hid ((w.alloc (.cells #[.int .i64 a.x, .int .i64 a.y, .int .i64 a.w, .int .i64 a.h] 32)).alloc (.cells #[.int .i64 b.x, .int .i64 b.y, .int .i64 b.w, .int .i64 b.h] 32) = w2) := Lib.hid (by rw [hw2, hw1]; rfl)
  have HTb := Lib.hid htb
  clear hw1 hw2 hs1 htb
  go_enter Try.func4, Try.ntmps4
  go_wp2_with fail
  rw [HW.out, ← HTb.out]
  go_cut [5] from 6 (fun x W => ∃ bR, x = .pointer (some ⟨bR, 0, none⟩) ∧ Hid (BlockIs W tb (rc a) 32) ∧ Hid (BlockIs W (tb + 1) (rc b) 32) ∧ Hid (BlockIs W bR (rc T) 28) ∧ Hid (Pure w W))
  case rest =>
    obtain ⟨bR, rfl, HB1, HB2, HBR, HPw⟩ := hcut
    clear hB1 hB2 hPw hsz HW
    have hB1 : BlockIs wc.drew tb [.int .i64 a.x, .int .i64 a.y, .int .i64 a.w, .int .i64 a.h] 32 := HB1.out.drew
    have hB2 : BlockIs wc.drew (tb + 1) [.int .i64 b.x, .int .i64 b.y, .int .i64 b.w, .int .i64 b.h] 32 := HB2.out.drew
    have hBR : BlockIs wc.drew bR [.int .i64 T.x, .int .i64 T.y, .int .i64 T.w, .int .i64 T.h] 28 := HBR.out.drew
    have hPw := HPw.out.drew
    clear HB1 HB2 HBR HPw
    go_wp2_with fail
    refine region_start (fun _ => False) (by kernel_rfl) ?_
    try simp only [Act.put, List.setIfInBounds_toArray, List.set_cons_zero, List.set_cons_succ]
    refine region_take 0 11 (v := ?vbb0) rfl rfl (by kernel_rfl) (by kernel_rfl) (by kernel_rfl) (fun _ _ _ h => h) (by rfl) (fun w' hS => ?hbb0) ?rbb0
    case hbb0 => (refine exec_load28 (x := .tmp 5) ?_ ?_ (hBR.ext hS id) rfl <;> rfl)
    try simp only [Act.put, List.setIfInBounds_toArray, List.set_cons_zero, List.set_cons_succ]
    refine region_take 2 13 (v := ?vbb2) rfl rfl (by kernel_rfl) (by kernel_rfl) (by kernel_rfl) (fun _ _ _ h => h) (by rfl) (fun w' hS => ?hbb2) ?rbb2
    case hbb2 => (refine exec_load32 (x := .tmp 2) ?_ ?_ (hB1.ext hS id) rfl <;> rfl)
    try simp only [Act.put, List.setIfInBounds_toArray, List.set_cons_zero, List.set_cons_succ]
    refine region_take 3 14 (v := ?vbb3) rfl rfl (by kernel_rfl) (by kernel_rfl) (by kernel_rfl) (fun _ _ _ h => h) (by rfl) (fun w' hS => ?hbb3) ?rbb3
    case hbb3 => (refine exec_load32 (x := .tmp 3) ?_ ?_ (hB2.ext hS id) rfl <;> rfl)
    try simp only [Act.put, List.setIfInBounds_toArray, List.set_cons_zero, List.set_cons_succ]
    refine wpAnyH_ready (rs := [1]) (by kernel_rfl) (by simp) (AllReadyH.cons rfl (fun K hK => ?_) AllReadyH.nil)
    go_simp
    refine (of_any T _).mono ?_
    rintro e wa ⟨rfl, hP⟩
    have hB1 := hB1.ext hP id
    have hB2 := hB2.ext hP id
    have hPw := hPw.pure hP
    try have hBR := hBR.ext hP id
    refine hK.out _ _ (hP) (fun hHeld => ?_)
    clear hK K hHeld
    refine region_now (hP) ?_
    try simp only [Act.put, List.setIfInBounds_toArray, List.set_cons_zero, List.set_cons_succ]
    refine wpAnyH_ready (rs := [4]) (by kernel_rfl) (by simp) (AllReadyH.cons rfl (fun K hK => ?_) AllReadyH.nil)
    go_simp
    refine (HRb.out _).mono ?_
    rintro e wb ⟨rfl, hP⟩
    have hB1 := hB1.ext hP id
    have hB2 := hB2.ext hP id
    have hPw := hPw.pure hP
    try have hBR := hBR.ext hP id
    refine hK.out _ _ (hP) (fun hHeld => ?_)
    clear hK K hHeld
    refine region_now (hP) ?_
    try simp only [Act.put, List.setIfInBounds_toArray, List.set_cons_zero, List.set_cons_succ]
    refine region_take 5 16 (v := ?vbb5) rfl rfl (by kernel_rfl) (by kernel_rfl) (by kernel_rfl) (fun _ _ _ h => h) (by rfl) (fun w' hS => ?hbb5) ?rbb5
    case hbb5 => (have n := neq32 T T w' rfl; go_simp; with_reducible rfl)
    try simp only [Act.put, List.setIfInBounds_toArray, List.set_cons_zero, List.set_cons_succ]
    refine region_take 6 17 (v := ?vbb6) rfl rfl (by kernel_rfl) (by kernel_rfl) (by kernel_rfl) (fun _ _ _ h => h) (by rfl) (fun w' hS => ?hbb6) ?rbb6
    case hbb6 => go_simp; with_reducible rfl
    try simp only [Act.put, List.setIfInBounds_toArray, List.set_cons_zero, List.set_cons_succ]
    refine region_take 7 18 (v := ?vbb7) rfl rfl (by kernel_rfl) (by kernel_rfl) (by kernel_rfl) (fun _ _ _ h => h) (by rfl) (fun w' hS => ?hbb7) ?rbb7
    case hbb7 => (refine exec_load32 (x := .tmp 3) ?_ ?_ (hB2.ext hS id) rfl <;> rfl)
    try simp only [Act.put, List.setIfInBounds_toArray, List.set_cons_zero, List.set_cons_succ]
    refine region_take 9 20 (v := ?vbb9) rfl rfl (by kernel_rfl) (by kernel_rfl) (by kernel_rfl) (fun _ _ _ h => h) (by rfl) (fun w' hS => ?hbb9) ?rbb9
    case hbb9 => (refine exec_load32 (x := .tmp 2) ?_ ?_ (hB1.ext hS id) rfl <;> rfl)
    try simp only [Act.put, List.setIfInBounds_toArray, List.set_cons_zero, List.set_cons_succ]
    refine region_take 12 23 (v := ?vbb12) rfl rfl (by kernel_rfl) (by kernel_rfl) (by kernel_rfl) (fun _ _ _ h => h) (by rfl) (fun w' hS => ?hbb12) ?rbb12
    case hbb12 => (refine exec_load28 (x := .tmp 5) ?_ ?_ (hBR.ext hS id) rfl <;> rfl)
    try simp only [Act.put, List.setIfInBounds_toArray, List.set_cons_zero, List.set_cons_succ]
    refine wpAnyH_ready (rs := [8]) (by kernel_rfl) (by simp) (AllReadyH.cons rfl (fun K hK => ?_) AllReadyH.nil)
    go_simp
    refine (to_any b _).mono ?_
    rintro e wd ⟨rfl, hP⟩
    have hB1 := hB1.ext hP id
    have hB2 := hB2.ext hP id
    have hPw := hPw.pure hP
    try have hBR := hBR.ext hP id
    refine hK.out _ _ (hP) (fun hHeld => ?_)
    clear hK K hHeld
    refine region_now (hP) ?_
    try simp only [Act.put, List.setIfInBounds_toArray, List.set_cons_zero, List.set_cons_succ]
    refine wpAnyH_ready (rs := [10]) (by kernel_rfl) (by simp) (AllReadyH.cons rfl (fun K hK => ?_) AllReadyH.nil)
    go_simp
    refine (to_any a _).mono ?_
    rintro e we ⟨rfl, hP⟩
    have hB1 := hB1.ext hP id
    have hB2 := hB2.ext hP id
    have hPw := hPw.pure hP
    try have hBR := hBR.ext hP id
    refine hK.out _ _ (hP) (fun hHeld => ?_)
    clear hK K hHeld
    refine region_now (hP) ?_
    try simp only [Act.put, List.setIfInBounds_toArray, List.set_cons_zero, List.set_cons_succ]
    refine wpAnyH_ready (rs := [11]) (by kernel_rfl) (by simp) (AllReadyH.cons rfl (fun K hK => ?_) AllReadyH.nil)
    go_simp
    refine (HBo'.out _).mono ?_
    rintro e wf ⟨rfl, hP⟩
    have hB1 := hB1.ext hP id
    have hB2 := hB2.ext hP id
    have hPw := hPw.pure hP
    try have hBR := hBR.ext hP id
    refine hK.out _ _ (hP) (fun hHeld => ?_)
    clear hK K hHeld
    refine region_now (hP) ?_
    try simp only [Act.put, List.setIfInBounds_toArray, List.set_cons_zero, List.set_cons_succ]
    refine region_take 13 24 (v := ?vbb13) rfl rfl (by kernel_rfl) (by kernel_rfl) (by kernel_rfl) (fun _ _ _ h => h) (by rfl) (fun w' hS => ?hbb13) ?rbb13
    case hbb13 => (have n := neq28 T T w' rfl; go_simp; with_reducible rfl)
    try simp only [Act.put, List.setIfInBounds_toArray, List.set_cons_zero, List.set_cons_succ]
    refine region_take 14 25 (v := ?vbb14) rfl rfl (by kernel_rfl) (by kernel_rfl) (by kernel_rfl) (fun _ _ _ h => h) (by rfl) (fun w' hS => ?hbb14) ?rbb14
    case hbb14 => go_simp; with_reducible rfl
    try simp only [Act.put, List.setIfInBounds_toArray, List.set_cons_zero, List.set_cons_succ]
    refine wpAnyH_done (by kernel_rfl) ?_ _
    go_simp
    try simp only [Act.put, List.setIfInBounds_toArray, List.set_cons_zero, List.set_cons_succ]
    go_wp2_with fail
    by_cases hm : a.may = true
    · rw [hm] at HM
      by_cases hw : 0 < a.w
      · by_cases hh : 0 < a.h
        · have HSelf : Hid (∀ W, Calls Try.prog 14 #[.agg #[.int .i64 a.x, .int .i64 a.y, .int .i64 a.w, .int .i64 a.h], .agg #[.int .i64 a.x, .int .i64 a.y, .int .i64 a.w, .int .i64 a.h]] W (RectTo a W)) := Lib.hid (fun W => by have := both_any a a W; rw [both_self hm hw hh] at this; exact this)
          have hB1 := hB1.drew
          have hB2 := hB2.drew
          have hBR := hBR.drew
          have hPw := hPw.drew
          refine region_start (fun _ => False) (by kernel_rfl) ?_
          try simp only [Act.put, List.setIfInBounds_toArray, List.set_cons_zero, List.set_cons_succ]
          refine region_take 0 26 (v := ?vbc00) rfl rfl (by kernel_rfl) (by kernel_rfl) (by kernel_rfl) (fun _ _ _ h => h) (by rfl) (fun w' hS => ?hbc00) ?rbc00
          case hbc00 => (refine exec_load32 (x := .tmp 2) ?_ ?_ (hB1.ext hS id) rfl <;> rfl)
          try simp only [Act.put, List.setIfInBounds_toArray, List.set_cons_zero, List.set_cons_succ]
          refine wpAnyH_ready (rs := [1]) (by kernel_rfl) (by simp) (AllReadyH.cons rfl (fun K hK => ?_) AllReadyH.nil)
          go_simp
          refine (HM.out _).mono ?_
          rintro e wa ⟨rfl, hP⟩
          have hB1 := hB1.ext hP id
          have hB2 := hB2.ext hP id
          have hPw := hPw.pure hP
          try have hBR := hBR.ext hP id
          refine hK.out _ _ (hP) (fun hHeld => ?_)
          clear hK K hHeld
          refine region_now (hP) ?_
          try simp only [Act.put, List.setIfInBounds_toArray, List.set_cons_zero, List.set_cons_succ]
          refine region_take 2 28 (v := ?vbc02) rfl rfl (by kernel_rfl) (by kernel_rfl) (by kernel_rfl) (fun _ _ _ h => h) (by rfl) (fun w' hS => ?hbc02) ?rbc02
          case hbc02 => go_simp; with_reducible rfl
          try simp only [Act.put, List.setIfInBounds_toArray, List.set_cons_zero, List.set_cons_succ]
          refine region_take 3 29 (v := ?vbc03) rfl rfl (by kernel_rfl) (by kernel_rfl) (by kernel_rfl) (fun _ _ _ h => h) (by rfl) (fun w' hS => ?hbc03) ?rbc03
          case hbc03 => go_simp; with_reducible rfl
          try simp only [Act.put, List.setIfInBounds_toArray, List.set_cons_zero, List.set_cons_succ]
          refine region_take 4 30 (v := ?vbc04) rfl rfl (by kernel_rfl) (by kernel_rfl) (by kernel_rfl) (fun _ _ _ h => h) (by rfl) (fun w' hS => ?hbc04) ?rbc04
          case hbc04 => (have e := hB1.cell 2; have e := hS.cell_some e id; go_simp; with_reducible rfl)
          try simp only [Act.put, List.setIfInBounds_toArray, List.set_cons_zero, List.set_cons_succ]
          refine region_take 5 31 (v := ?vbc05) rfl rfl (by kernel_rfl) (by kernel_rfl) (by kernel_rfl) (fun _ _ _ h => h) (by rfl) (fun w' hS => ?hbc05) ?rbc05
          case hbc05 => go_simp; with_reducible rfl
          try simp only [Act.put, List.setIfInBounds_toArray, List.set_cons_zero, List.set_cons_succ]
          refine region_take 6 32 (v := ?vbc06) rfl rfl (by kernel_rfl) (by kernel_rfl) (by kernel_rfl) (fun _ _ _ h => h) (by rfl) (fun w' hS => ?hbc06) ?rbc06
          case hbc06 => go_simp; with_reducible rfl
          try simp only [Act.put, List.setIfInBounds_toArray, List.set_cons_zero, List.set_cons_succ]
          refine region_take 7 33 (v := ?vbc07) rfl rfl (by kernel_rfl) (by kernel_rfl) (by kernel_rfl) (fun _ _ _ h => h) (by rfl) (fun w' hS => ?hbc07) ?rbc07
          case hbc07 => go_simp; with_reducible rfl
          try simp only [Act.put, List.setIfInBounds_toArray, List.set_cons_zero, List.set_cons_succ]
          refine region_take 8 34 (v := ?vbc08) rfl rfl (by kernel_rfl) (by kernel_rfl) (by kernel_rfl) (fun _ _ _ h => h) (by rfl) (fun w' hS => ?hbc08) ?rbc08
          case hbc08 => go_simp; with_reducible rfl
          try simp only [Act.put, List.setIfInBounds_toArray, List.set_cons_zero, List.set_cons_succ]
          refine region_take 9 35 (v := ?vbc09) rfl rfl (by kernel_rfl) (by kernel_rfl) (by kernel_rfl) (fun _ _ _ h => h) (by rfl) (fun w' hS => ?hbc09) ?rbc09
          case hbc09 => (have e := hB1.cell 3; have e := hS.cell_some e id; go_simp; with_reducible rfl)
          try simp only [Act.put, List.setIfInBounds_toArray, List.set_cons_zero, List.set_cons_succ]
          refine region_take 10 36 (v := ?vbc010) rfl rfl (by kernel_rfl) (by kernel_rfl) (by kernel_rfl) (fun _ _ _ h => h) (by rfl) (fun w' hS => ?hbc010) ?rbc010
          case hbc010 => go_simp; with_reducible rfl
          try simp only [Act.put, List.setIfInBounds_toArray, List.set_cons_zero, List.set_cons_succ]
          refine region_take 11 37 (v := ?vbc011) rfl rfl (by kernel_rfl) (by kernel_rfl) (by kernel_rfl) (fun _ _ _ h => h) (by rfl) (fun w' hS => ?hbc011) ?rbc011
          case hbc011 => go_simp; with_reducible rfl
          try simp only [Act.put, List.setIfInBounds_toArray, List.set_cons_zero, List.set_cons_succ]
          refine region_take 12 38 (v := ?vbc012) rfl rfl (by kernel_rfl) (by kernel_rfl) (by kernel_rfl) (fun _ _ _ h => h) (by rfl) (fun w' hS => ?hbc012) ?rbc012
          case hbc012 => go_simp; with_reducible rfl
          try simp only [Act.put, List.setIfInBounds_toArray, List.set_cons_zero, List.set_cons_succ]
          refine region_take 13 39 (v := ?vbc013) rfl rfl (by kernel_rfl) (by kernel_rfl) (by kernel_rfl) (fun _ _ _ h => h) (by rfl) (fun w' hS => ?hbc013) ?rbc013
          case hbc013 => (refine exec_load32 (x := .tmp 2) ?_ ?_ (hB1.ext hS id) rfl <;> rfl)
          try simp only [Act.put, List.setIfInBounds_toArray, List.set_cons_zero, List.set_cons_succ]
          refine region_take 15 41 (v := ?vbc015) rfl rfl (by kernel_rfl) (by kernel_rfl) (by kernel_rfl) (fun _ _ _ h => h) (by rfl) (fun w' hS => ?hbc015) ?rbc015
          case hbc015 => (refine exec_load32 (x := .tmp 2) ?_ ?_ (hB1.ext hS id) rfl <;> rfl)
          try simp only [Act.put, List.setIfInBounds_toArray, List.set_cons_zero, List.set_cons_succ]
          refine region_take 19 45 (v := ?vbc019) rfl rfl (by kernel_rfl) (by kernel_rfl) (by kernel_rfl) (fun _ _ _ h => h) (by rfl) (fun w' hS => ?hbc019) ?rbc019
          case hbc019 => (refine exec_load32 (x := .tmp 2) ?_ ?_ (hB1.ext hS id) rfl <;> rfl)
          try simp only [Act.put, List.setIfInBounds_toArray, List.set_cons_zero, List.set_cons_succ]
          refine wpAnyH_ready (rs := [14]) (by kernel_rfl) (by simp) (AllReadyH.cons rfl (fun K hK => ?_) AllReadyH.nil)
          go_simp
          refine (to_any a _).mono ?_
          rintro e wb ⟨rfl, hP⟩
          have hB1 := hB1.ext hP id
          have hB2 := hB2.ext hP id
          have hPw := hPw.pure hP
          try have hBR := hBR.ext hP id
          refine hK.out _ _ (hP) (fun hHeld => ?_)
          clear hK K hHeld
          refine region_now (hP) ?_
          try simp only [Act.put, List.setIfInBounds_toArray, List.set_cons_zero, List.set_cons_succ]
          refine wpAnyH_ready (rs := [16]) (by kernel_rfl) (by simp) (AllReadyH.cons rfl (fun K hK => ?_) AllReadyH.nil)
          go_simp
          refine (to_any a _).mono ?_
          rintro e wd ⟨rfl, hP⟩
          have hB1 := hB1.ext hP id
          have hB2 := hB2.ext hP id
          have hPw := hPw.pure hP
          try have hBR := hBR.ext hP id
          refine hK.out _ _ (hP) (fun hHeld => ?_)
          clear hK K hHeld
          refine region_now (hP) ?_
          try simp only [Act.put, List.setIfInBounds_toArray, List.set_cons_zero, List.set_cons_succ]
          refine wpAnyH_ready (rs := [17]) (by kernel_rfl) (by simp) (AllReadyH.cons rfl (fun K hK => ?_) AllReadyH.nil)
          go_simp
          refine (HSelf.out _).mono ?_
          rintro e we ⟨rfl, hP⟩
          have hB1 := hB1.ext hP id
          have hB2 := hB2.ext hP id
          have hPw := hPw.pure hP
          try have hBR := hBR.ext hP id
          refine hK.out _ _ (hP) (fun hHeld => ?_)
          clear hK K hHeld
          refine region_now (hP) ?_
          try simp only [Act.put, List.setIfInBounds_toArray, List.set_cons_zero, List.set_cons_succ]
          refine wpAnyH_ready (rs := [18]) (by kernel_rfl) (by simp) (AllReadyH.cons rfl (fun K hK => ?_) AllReadyH.nil)
          go_simp
          refine (of_any a _).mono ?_
          rintro e wf ⟨rfl, hP⟩
          have hB1 := hB1.ext hP id
          have hB2 := hB2.ext hP id
          have hPw := hPw.pure hP
          try have hBR := hBR.ext hP id
          refine hK.out _ _ (hP) (fun hHeld => ?_)
          clear hK K hHeld
          refine region_now (hP) ?_
          try simp only [Act.put, List.setIfInBounds_toArray, List.set_cons_zero, List.set_cons_succ]
          refine region_take 20 46 (v := ?vbc020) rfl rfl (by kernel_rfl) (by kernel_rfl) (by kernel_rfl) (fun _ _ _ h => h) (by rfl) (fun w' hS => ?hbc020) ?rbc020
          case hbc020 => (have n := neq32 a a w' rfl; go_simp; with_reducible rfl)
          try simp only [Act.put, List.setIfInBounds_toArray, List.set_cons_zero, List.set_cons_succ]
          refine region_take 21 47 (v := ?vbc021) rfl rfl (by kernel_rfl) (by kernel_rfl) (by kernel_rfl) (fun _ _ _ h => h) (by rfl) (fun w' hS => ?hbc021) ?rbc021
          case hbc021 => go_simp; with_reducible rfl
          try simp only [Act.put, List.setIfInBounds_toArray, List.set_cons_zero, List.set_cons_succ]
          refine wpAnyH_done (by kernel_rfl) ?_ _
          go_simp
          try simp only [Act.put, List.setIfInBounds_toArray, List.set_cons_zero, List.set_cons_succ]
          have hBR' := hBR.cell
          have c0 : wf.cell? ⟨bR, 0, none⟩ = some (.int .i64 T.x) := hBR.cell 0
          have c1 : wf.cell? ⟨bR, 1, none⟩ = some (.int .i64 T.y) := hBR.cell 1
          have c2 : wf.cell? ⟨bR, 2, none⟩ = some (.int .i64 T.w) := hBR.cell 2
          have c3 : wf.cell? ⟨bR, 3, none⟩ = some (.int .i64 T.h) := hBR.cell 3
          have a0 : wf.cell? ⟨tb, 0, none⟩ = some (.int .i64 a.x) := hB1.cell 0
          have a2 : wf.cell? ⟨tb, 2, none⟩ = some (.int .i64 a.w) := hB1.cell 2
          have b1 : wf.cell? ⟨tb + 1, 1, none⟩ = some (.int .i64 b.y) := hB2.cell 1
          have b3 : wf.cell? ⟨tb + 1, 3, none⟩ = some (.int .i64 b.h) := hB2.cell 3
          clear hBR'
          by_cases hz : T.w = 0
          · have hT0 := HNone.out hz
            have hRR := hBR.range
            have hx : T.x = 0 := by rw [hT0]; rfl
            have hy : T.y = 0 := by rw [hT0]; rfl
            have hh0 : T.h = 0 := by rw [hT0]; rfl
            rw [hx] at c0
            rw [hy] at c1
            rw [hz] at c2
            rw [hh0] at c3
            clear hT0 hRR hB1 hB2 hBR hx hy hz hh0 a0 a2 b1 b3
            go_wp2_with fail
            refine (works_any _).mono ?_
            rintro e wz ⟨rfl, hPz⟩
            go_wp2_with fail
            go_ret
            exact ⟨rfl, (hPw.pure hPz).below⟩
          · obtain ⟨g1, g2, g3, g4, g5, g6, g7, g8⟩ := HIn.out hz
            clear hB1 hB2 hBR
            go_wp2_with fail
            refine (works_any _).mono ?_
            rintro e wz ⟨rfl, hPz⟩
            go_wp2_with fail
            go_ret
            exact ⟨rfl, (hPw.pure hPz).below⟩
        · have hh' : ¬ 0 < a.h := hh
          have hB1 := hB1.drew
          have hB2 := hB2.drew
          have hBR := hBR.drew
          have hPw := hPw.drew
          refine region_start (fun _ => False) (by kernel_rfl) ?_
          try simp only [Act.put, List.setIfInBounds_toArray, List.set_cons_zero, List.set_cons_succ]
          refine region_take 0 26 (v := ?vbc80) rfl rfl (by kernel_rfl) (by kernel_rfl) (by kernel_rfl) (fun _ _ _ h => h) (by rfl) (fun w' hS => ?hbc80) ?rbc80
          case hbc80 => (refine exec_load32 (x := .tmp 2) ?_ ?_ (hB1.ext hS id) rfl <;> rfl)
          try simp only [Act.put, List.setIfInBounds_toArray, List.set_cons_zero, List.set_cons_succ]
          refine wpAnyH_ready (rs := [1]) (by kernel_rfl) (by simp) (AllReadyH.cons rfl (fun K hK => ?_) AllReadyH.nil)
          go_simp
          refine (HM.out _).mono ?_
          rintro e wa ⟨rfl, hP⟩
          have hB1 := hB1.ext hP id
          have hB2 := hB2.ext hP id
          have hPw := hPw.pure hP
          try have hBR := hBR.ext hP id
          refine hK.out _ _ (hP) (fun hHeld => ?_)
          clear hK K hHeld
          refine region_now (hP) ?_
          try simp only [Act.put, List.setIfInBounds_toArray, List.set_cons_zero, List.set_cons_succ]
          refine region_take 2 28 (v := ?vbc82) rfl rfl (by kernel_rfl) (by kernel_rfl) (by kernel_rfl) (fun _ _ _ h => h) (by rfl) (fun w' hS => ?hbc82) ?rbc82
          case hbc82 => go_simp; with_reducible rfl
          try simp only [Act.put, List.setIfInBounds_toArray, List.set_cons_zero, List.set_cons_succ]
          refine region_take 3 29 (v := ?vbc83) rfl rfl (by kernel_rfl) (by kernel_rfl) (by kernel_rfl) (fun _ _ _ h => h) (by rfl) (fun w' hS => ?hbc83) ?rbc83
          case hbc83 => go_simp; with_reducible rfl
          try simp only [Act.put, List.setIfInBounds_toArray, List.set_cons_zero, List.set_cons_succ]
          refine region_take 4 30 (v := ?vbc84) rfl rfl (by kernel_rfl) (by kernel_rfl) (by kernel_rfl) (fun _ _ _ h => h) (by rfl) (fun w' hS => ?hbc84) ?rbc84
          case hbc84 => (have e := hB1.cell 2; have e := hS.cell_some e id; go_simp; with_reducible rfl)
          try simp only [Act.put, List.setIfInBounds_toArray, List.set_cons_zero, List.set_cons_succ]
          refine region_take 5 31 (v := ?vbc85) rfl rfl (by kernel_rfl) (by kernel_rfl) (by kernel_rfl) (fun _ _ _ h => h) (by rfl) (fun w' hS => ?hbc85) ?rbc85
          case hbc85 => go_simp; with_reducible rfl
          try simp only [Act.put, List.setIfInBounds_toArray, List.set_cons_zero, List.set_cons_succ]
          refine region_take 6 32 (v := ?vbc86) rfl rfl (by kernel_rfl) (by kernel_rfl) (by kernel_rfl) (fun _ _ _ h => h) (by rfl) (fun w' hS => ?hbc86) ?rbc86
          case hbc86 => go_simp; with_reducible rfl
          try simp only [Act.put, List.setIfInBounds_toArray, List.set_cons_zero, List.set_cons_succ]
          refine region_take 7 33 (v := ?vbc87) rfl rfl (by kernel_rfl) (by kernel_rfl) (by kernel_rfl) (fun _ _ _ h => h) (by rfl) (fun w' hS => ?hbc87) ?rbc87
          case hbc87 => go_simp; with_reducible rfl
          try simp only [Act.put, List.setIfInBounds_toArray, List.set_cons_zero, List.set_cons_succ]
          refine region_take 8 34 (v := ?vbc88) rfl rfl (by kernel_rfl) (by kernel_rfl) (by kernel_rfl) (fun _ _ _ h => h) (by rfl) (fun w' hS => ?hbc88) ?rbc88
          case hbc88 => go_simp; with_reducible rfl
          try simp only [Act.put, List.setIfInBounds_toArray, List.set_cons_zero, List.set_cons_succ]
          refine region_take 9 35 (v := ?vbc89) rfl rfl (by kernel_rfl) (by kernel_rfl) (by kernel_rfl) (fun _ _ _ h => h) (by rfl) (fun w' hS => ?hbc89) ?rbc89
          case hbc89 => (have e := hB1.cell 3; have e := hS.cell_some e id; go_simp; with_reducible rfl)
          try simp only [Act.put, List.setIfInBounds_toArray, List.set_cons_zero, List.set_cons_succ]
          refine region_take 10 36 (v := ?vbc810) rfl rfl (by kernel_rfl) (by kernel_rfl) (by kernel_rfl) (fun _ _ _ h => h) (by rfl) (fun w' hS => ?hbc810) ?rbc810
          case hbc810 => go_simp; with_reducible rfl
          try simp only [Act.put, List.setIfInBounds_toArray, List.set_cons_zero, List.set_cons_succ]
          refine region_take 11 37 (v := ?vbc811) rfl rfl (by kernel_rfl) (by kernel_rfl) (by kernel_rfl) (fun _ _ _ h => h) (by rfl) (fun w' hS => ?hbc811) ?rbc811
          case hbc811 => go_simp; with_reducible rfl
          try simp only [Act.put, List.setIfInBounds_toArray, List.set_cons_zero, List.set_cons_succ]
          refine region_take 12 38 (v := ?vbc812) rfl rfl (by kernel_rfl) (by kernel_rfl) (by kernel_rfl) (fun _ _ _ h => h) (by rfl) (fun w' hS => ?hbc812) ?rbc812
          case hbc812 => go_simp; with_reducible rfl
          try simp only [Act.put, List.setIfInBounds_toArray, List.set_cons_zero, List.set_cons_succ]
          refine region_skip 13 39 rfl rfl (by kernel_rfl) (by kernel_rfl) (by kernel_rfl) (fun _ _ _ h => h) (by rfl) ?_
          try simp only [Act.put, List.setIfInBounds_toArray, List.set_cons_zero, List.set_cons_succ]
          refine region_skip 14 40 rfl rfl (by kernel_rfl) (by kernel_rfl) (by kernel_rfl) (fun _ _ _ h => h) (by rfl) ?_
          try simp only [Act.put, List.setIfInBounds_toArray, List.set_cons_zero, List.set_cons_succ]
          refine region_skip 15 41 rfl rfl (by kernel_rfl) (by kernel_rfl) (by kernel_rfl) (fun _ _ _ h => h) (by rfl) ?_
          try simp only [Act.put, List.setIfInBounds_toArray, List.set_cons_zero, List.set_cons_succ]
          refine region_skip 16 42 rfl rfl (by kernel_rfl) (by kernel_rfl) (by kernel_rfl) (fun _ _ _ h => h) (by rfl) ?_
          try simp only [Act.put, List.setIfInBounds_toArray, List.set_cons_zero, List.set_cons_succ]
          refine region_skip 17 43 rfl rfl (by kernel_rfl) (by kernel_rfl) (by kernel_rfl) (fun _ _ _ h => h) (by rfl) ?_
          try simp only [Act.put, List.setIfInBounds_toArray, List.set_cons_zero, List.set_cons_succ]
          refine region_skip 18 44 rfl rfl (by kernel_rfl) (by kernel_rfl) (by kernel_rfl) (fun _ _ _ h => h) (by rfl) ?_
          try simp only [Act.put, List.setIfInBounds_toArray, List.set_cons_zero, List.set_cons_succ]
          refine region_skip 19 45 rfl rfl (by kernel_rfl) (by kernel_rfl) (by kernel_rfl) (fun _ _ _ h => h) (by rfl) ?_
          try simp only [Act.put, List.setIfInBounds_toArray, List.set_cons_zero, List.set_cons_succ]
          refine region_skip 20 46 rfl rfl (by kernel_rfl) (by kernel_rfl) (by kernel_rfl) (fun _ _ _ h => h) (by rfl) ?_
          try simp only [Act.put, List.setIfInBounds_toArray, List.set_cons_zero, List.set_cons_succ]
          refine region_take 21 47 (v := ?vbc821) rfl rfl (by kernel_rfl) (by kernel_rfl) (by kernel_rfl) (fun _ _ _ h => h) (by rfl) (fun w' hS => ?hbc821) ?rbc821
          case hbc821 => go_simp; with_reducible rfl
          try simp only [Act.put, List.setIfInBounds_toArray, List.set_cons_zero, List.set_cons_succ]
          refine wpAnyH_done (by kernel_rfl) ?_ _
          go_simp
          try simp only [Act.put, List.setIfInBounds_toArray, List.set_cons_zero, List.set_cons_succ]
          have hBR' := hBR.cell
          have c0 : wa.cell? ⟨bR, 0, none⟩ = some (.int .i64 T.x) := hBR.cell 0
          have c1 : wa.cell? ⟨bR, 1, none⟩ = some (.int .i64 T.y) := hBR.cell 1
          have c2 : wa.cell? ⟨bR, 2, none⟩ = some (.int .i64 T.w) := hBR.cell 2
          have c3 : wa.cell? ⟨bR, 3, none⟩ = some (.int .i64 T.h) := hBR.cell 3
          have a0 : wa.cell? ⟨tb, 0, none⟩ = some (.int .i64 a.x) := hB1.cell 0
          have a2 : wa.cell? ⟨tb, 2, none⟩ = some (.int .i64 a.w) := hB1.cell 2
          have b1 : wa.cell? ⟨tb + 1, 1, none⟩ = some (.int .i64 b.y) := hB2.cell 1
          have b3 : wa.cell? ⟨tb + 1, 3, none⟩ = some (.int .i64 b.h) := hB2.cell 3
          clear hBR'
          by_cases hz : T.w = 0
          · have hT0 := HNone.out hz
            have hRR := hBR.range
            have hx : T.x = 0 := by rw [hT0]; rfl
            have hy : T.y = 0 := by rw [hT0]; rfl
            have hh0 : T.h = 0 := by rw [hT0]; rfl
            rw [hx] at c0
            rw [hy] at c1
            rw [hz] at c2
            rw [hh0] at c3
            clear hT0 hRR hB1 hB2 hBR hx hy hz hh0 a0 a2 b1 b3
            go_wp2_with fail
            refine (works_any _).mono ?_
            rintro e wz ⟨rfl, hPz⟩
            go_wp2_with fail
            go_ret
            exact ⟨rfl, (hPw.pure hPz).below⟩
          · obtain ⟨g1, g2, g3, g4, g5, g6, g7, g8⟩ := HIn.out hz
            clear hB1 hB2 hBR
            go_wp2_with fail
            refine (works_any _).mono ?_
            rintro e wz ⟨rfl, hPz⟩
            go_wp2_with fail
            go_ret
            exact ⟨rfl, (hPw.pure hPz).below⟩
      · have hw' : ¬ 0 < a.w := hw
        have hB1 := hB1.drew
        have hB2 := hB2.drew
        have hBR := hBR.drew
        have hPw := hPw.drew
        refine region_start (fun _ => False) (by kernel_rfl) ?_
        try simp only [Act.put, List.setIfInBounds_toArray, List.set_cons_zero, List.set_cons_succ]
        refine region_take 0 26 (v := ?vbc110) rfl rfl (by kernel_rfl) (by kernel_rfl) (by kernel_rfl) (fun _ _ _ h => h) (by rfl) (fun w' hS => ?hbc110) ?rbc110
        case hbc110 => (refine exec_load32 (x := .tmp 2) ?_ ?_ (hB1.ext hS id) rfl <;> rfl)
        try simp only [Act.put, List.setIfInBounds_toArray, List.set_cons_zero, List.set_cons_succ]
        refine wpAnyH_ready (rs := [1]) (by kernel_rfl) (by simp) (AllReadyH.cons rfl (fun K hK => ?_) AllReadyH.nil)
        go_simp
        refine (HM.out _).mono ?_
        rintro e wa ⟨rfl, hP⟩
        have hB1 := hB1.ext hP id
        have hB2 := hB2.ext hP id
        have hPw := hPw.pure hP
        try have hBR := hBR.ext hP id
        refine hK.out _ _ (hP) (fun hHeld => ?_)
        clear hK K hHeld
        refine region_now (hP) ?_
        try simp only [Act.put, List.setIfInBounds_toArray, List.set_cons_zero, List.set_cons_succ]
        refine region_take 2 28 (v := ?vbc112) rfl rfl (by kernel_rfl) (by kernel_rfl) (by kernel_rfl) (fun _ _ _ h => h) (by rfl) (fun w' hS => ?hbc112) ?rbc112
        case hbc112 => go_simp; with_reducible rfl
        try simp only [Act.put, List.setIfInBounds_toArray, List.set_cons_zero, List.set_cons_succ]
        refine region_take 3 29 (v := ?vbc113) rfl rfl (by kernel_rfl) (by kernel_rfl) (by kernel_rfl) (fun _ _ _ h => h) (by rfl) (fun w' hS => ?hbc113) ?rbc113
        case hbc113 => go_simp; with_reducible rfl
        try simp only [Act.put, List.setIfInBounds_toArray, List.set_cons_zero, List.set_cons_succ]
        refine region_take 4 30 (v := ?vbc114) rfl rfl (by kernel_rfl) (by kernel_rfl) (by kernel_rfl) (fun _ _ _ h => h) (by rfl) (fun w' hS => ?hbc114) ?rbc114
        case hbc114 => (have e := hB1.cell 2; have e := hS.cell_some e id; go_simp; with_reducible rfl)
        try simp only [Act.put, List.setIfInBounds_toArray, List.set_cons_zero, List.set_cons_succ]
        refine region_take 5 31 (v := ?vbc115) rfl rfl (by kernel_rfl) (by kernel_rfl) (by kernel_rfl) (fun _ _ _ h => h) (by rfl) (fun w' hS => ?hbc115) ?rbc115
        case hbc115 => go_simp; with_reducible rfl
        try simp only [Act.put, List.setIfInBounds_toArray, List.set_cons_zero, List.set_cons_succ]
        refine region_take 6 32 (v := ?vbc116) rfl rfl (by kernel_rfl) (by kernel_rfl) (by kernel_rfl) (fun _ _ _ h => h) (by rfl) (fun w' hS => ?hbc116) ?rbc116
        case hbc116 => go_simp; with_reducible rfl
        try simp only [Act.put, List.setIfInBounds_toArray, List.set_cons_zero, List.set_cons_succ]
        refine region_take 7 33 (v := ?vbc117) rfl rfl (by kernel_rfl) (by kernel_rfl) (by kernel_rfl) (fun _ _ _ h => h) (by rfl) (fun w' hS => ?hbc117) ?rbc117
        case hbc117 => go_simp; with_reducible rfl
        try simp only [Act.put, List.setIfInBounds_toArray, List.set_cons_zero, List.set_cons_succ]
        refine region_skip 8 34 rfl rfl (by kernel_rfl) (by kernel_rfl) (by kernel_rfl) (fun _ _ _ h => h) (by rfl) ?_
        try simp only [Act.put, List.setIfInBounds_toArray, List.set_cons_zero, List.set_cons_succ]
        refine region_skip 9 35 rfl rfl (by kernel_rfl) (by kernel_rfl) (by kernel_rfl) (fun _ _ _ h => h) (by rfl) ?_
        try simp only [Act.put, List.setIfInBounds_toArray, List.set_cons_zero, List.set_cons_succ]
        refine region_skip 10 36 rfl rfl (by kernel_rfl) (by kernel_rfl) (by kernel_rfl) (fun _ _ _ h => h) (by rfl) ?_
        try simp only [Act.put, List.setIfInBounds_toArray, List.set_cons_zero, List.set_cons_succ]
        refine region_take 11 37 (v := ?vbc1111) rfl rfl (by kernel_rfl) (by kernel_rfl) (by kernel_rfl) (fun _ _ _ h => h) (by rfl) (fun w' hS => ?hbc1111) ?rbc1111
        case hbc1111 => go_simp; with_reducible rfl
        try simp only [Act.put, List.setIfInBounds_toArray, List.set_cons_zero, List.set_cons_succ]
        refine region_take 12 38 (v := ?vbc1112) rfl rfl (by kernel_rfl) (by kernel_rfl) (by kernel_rfl) (fun _ _ _ h => h) (by rfl) (fun w' hS => ?hbc1112) ?rbc1112
        case hbc1112 => go_simp; with_reducible rfl
        try simp only [Act.put, List.setIfInBounds_toArray, List.set_cons_zero, List.set_cons_succ]
        refine region_skip 13 39 rfl rfl (by kernel_rfl) (by kernel_rfl) (by kernel_rfl) (fun _ _ _ h => h) (by rfl) ?_
        try simp only [Act.put, List.setIfInBounds_toArray, List.set_cons_zero, List.set_cons_succ]
        refine region_skip 14 40 rfl rfl (by kernel_rfl) (by kernel_rfl) (by kernel_rfl) (fun _ _ _ h => h) (by rfl) ?_
        try simp only [Act.put, List.setIfInBounds_toArray, List.set_cons_zero, List.set_cons_succ]
        refine region_skip 15 41 rfl rfl (by kernel_rfl) (by kernel_rfl) (by kernel_rfl) (fun _ _ _ h => h) (by rfl) ?_
        try simp only [Act.put, List.setIfInBounds_toArray, List.set_cons_zero, List.set_cons_succ]
        refine region_skip 16 42 rfl rfl (by kernel_rfl) (by kernel_rfl) (by kernel_rfl) (fun _ _ _ h => h) (by rfl) ?_
        try simp only [Act.put, List.setIfInBounds_toArray, List.set_cons_zero, List.set_cons_succ]
        refine region_skip 17 43 rfl rfl (by kernel_rfl) (by kernel_rfl) (by kernel_rfl) (fun _ _ _ h => h) (by rfl) ?_
        try simp only [Act.put, List.setIfInBounds_toArray, List.set_cons_zero, List.set_cons_succ]
        refine region_skip 18 44 rfl rfl (by kernel_rfl) (by kernel_rfl) (by kernel_rfl) (fun _ _ _ h => h) (by rfl) ?_
        try simp only [Act.put, List.setIfInBounds_toArray, List.set_cons_zero, List.set_cons_succ]
        refine region_skip 19 45 rfl rfl (by kernel_rfl) (by kernel_rfl) (by kernel_rfl) (fun _ _ _ h => h) (by rfl) ?_
        try simp only [Act.put, List.setIfInBounds_toArray, List.set_cons_zero, List.set_cons_succ]
        refine region_skip 20 46 rfl rfl (by kernel_rfl) (by kernel_rfl) (by kernel_rfl) (fun _ _ _ h => h) (by rfl) ?_
        try simp only [Act.put, List.setIfInBounds_toArray, List.set_cons_zero, List.set_cons_succ]
        refine region_take 21 47 (v := ?vbc1121) rfl rfl (by kernel_rfl) (by kernel_rfl) (by kernel_rfl) (fun _ _ _ h => h) (by rfl) (fun w' hS => ?hbc1121) ?rbc1121
        case hbc1121 => go_simp; with_reducible rfl
        try simp only [Act.put, List.setIfInBounds_toArray, List.set_cons_zero, List.set_cons_succ]
        refine wpAnyH_done (by kernel_rfl) ?_ _
        go_simp
        try simp only [Act.put, List.setIfInBounds_toArray, List.set_cons_zero, List.set_cons_succ]
        have hBR' := hBR.cell
        have c0 : wa.cell? ⟨bR, 0, none⟩ = some (.int .i64 T.x) := hBR.cell 0
        have c1 : wa.cell? ⟨bR, 1, none⟩ = some (.int .i64 T.y) := hBR.cell 1
        have c2 : wa.cell? ⟨bR, 2, none⟩ = some (.int .i64 T.w) := hBR.cell 2
        have c3 : wa.cell? ⟨bR, 3, none⟩ = some (.int .i64 T.h) := hBR.cell 3
        have a0 : wa.cell? ⟨tb, 0, none⟩ = some (.int .i64 a.x) := hB1.cell 0
        have a2 : wa.cell? ⟨tb, 2, none⟩ = some (.int .i64 a.w) := hB1.cell 2
        have b1 : wa.cell? ⟨tb + 1, 1, none⟩ = some (.int .i64 b.y) := hB2.cell 1
        have b3 : wa.cell? ⟨tb + 1, 3, none⟩ = some (.int .i64 b.h) := hB2.cell 3
        clear hBR'
        by_cases hz : T.w = 0
        · have hT0 := HNone.out hz
          have hRR := hBR.range
          have hx : T.x = 0 := by rw [hT0]; rfl
          have hy : T.y = 0 := by rw [hT0]; rfl
          have hh0 : T.h = 0 := by rw [hT0]; rfl
          rw [hx] at c0
          rw [hy] at c1
          rw [hz] at c2
          rw [hh0] at c3
          clear hT0 hRR hB1 hB2 hBR hx hy hz hh0 a0 a2 b1 b3
          go_wp2_with fail
          refine (works_any _).mono ?_
          rintro e wz ⟨rfl, hPz⟩
          go_wp2_with fail
          go_ret
          exact ⟨rfl, (hPw.pure hPz).below⟩
        · obtain ⟨g1, g2, g3, g4, g5, g6, g7, g8⟩ := HIn.out hz
          clear hB1 hB2 hBR
          go_wp2_with fail
          refine (works_any _).mono ?_
          rintro e wz ⟨rfl, hPz⟩
          go_wp2_with fail
          go_ret
          exact ⟨rfl, (hPw.pure hPz).below⟩
    · have hm' : a.may = false := by simpa using hm
      rw [hm'] at HM
      have hB1 := hB1.drew
      have hB2 := hB2.drew
      have hBR := hBR.drew
      have hPw := hPw.drew
      refine region_start (fun _ => False) (by kernel_rfl) ?_
      try simp only [Act.put, List.setIfInBounds_toArray, List.set_cons_zero, List.set_cons_succ]
      refine region_take 0 26 (v := ?vbc140) rfl rfl (by kernel_rfl) (by kernel_rfl) (by kernel_rfl) (fun _ _ _ h => h) (by rfl) (fun w' hS => ?hbc140) ?rbc140
      case hbc140 => (refine exec_load32 (x := .tmp 2) ?_ ?_ (hB1.ext hS id) rfl <;> rfl)
      try simp only [Act.put, List.setIfInBounds_toArray, List.set_cons_zero, List.set_cons_succ]
      refine wpAnyH_ready (rs := [1]) (by kernel_rfl) (by simp) (AllReadyH.cons rfl (fun K hK => ?_) AllReadyH.nil)
      go_simp
      refine (HM.out _).mono ?_
      rintro e wa ⟨rfl, hP⟩
      have hB1 := hB1.ext hP id
      have hB2 := hB2.ext hP id
      have hPw := hPw.pure hP
      try have hBR := hBR.ext hP id
      refine hK.out _ _ (hP) (fun hHeld => ?_)
      clear hK K hHeld
      refine region_now (hP) ?_
      try simp only [Act.put, List.setIfInBounds_toArray, List.set_cons_zero, List.set_cons_succ]
      refine region_take 2 28 (v := ?vbc142) rfl rfl (by kernel_rfl) (by kernel_rfl) (by kernel_rfl) (fun _ _ _ h => h) (by rfl) (fun w' hS => ?hbc142) ?rbc142
      case hbc142 => go_simp; with_reducible rfl
      try simp only [Act.put, List.setIfInBounds_toArray, List.set_cons_zero, List.set_cons_succ]
      refine region_skip 3 29 rfl rfl (by kernel_rfl) (by kernel_rfl) (by kernel_rfl) (fun _ _ _ h => h) (by rfl) ?_
      try simp only [Act.put, List.setIfInBounds_toArray, List.set_cons_zero, List.set_cons_succ]
      refine region_skip 4 30 rfl rfl (by kernel_rfl) (by kernel_rfl) (by kernel_rfl) (fun _ _ _ h => h) (by rfl) ?_
      try simp only [Act.put, List.setIfInBounds_toArray, List.set_cons_zero, List.set_cons_succ]
      refine region_skip 5 31 rfl rfl (by kernel_rfl) (by kernel_rfl) (by kernel_rfl) (fun _ _ _ h => h) (by rfl) ?_
      try simp only [Act.put, List.setIfInBounds_toArray, List.set_cons_zero, List.set_cons_succ]
      refine region_take 6 32 (v := ?vbc146) rfl rfl (by kernel_rfl) (by kernel_rfl) (by kernel_rfl) (fun _ _ _ h => h) (by rfl) (fun w' hS => ?hbc146) ?rbc146
      case hbc146 => go_simp; with_reducible rfl
      try simp only [Act.put, List.setIfInBounds_toArray, List.set_cons_zero, List.set_cons_succ]
      refine region_take 7 33 (v := ?vbc147) rfl rfl (by kernel_rfl) (by kernel_rfl) (by kernel_rfl) (fun _ _ _ h => h) (by rfl) (fun w' hS => ?hbc147) ?rbc147
      case hbc147 => go_simp; with_reducible rfl
      try simp only [Act.put, List.setIfInBounds_toArray, List.set_cons_zero, List.set_cons_succ]
      refine region_skip 8 34 rfl rfl (by kernel_rfl) (by kernel_rfl) (by kernel_rfl) (fun _ _ _ h => h) (by rfl) ?_
      try simp only [Act.put, List.setIfInBounds_toArray, List.set_cons_zero, List.set_cons_succ]
      refine region_skip 9 35 rfl rfl (by kernel_rfl) (by kernel_rfl) (by kernel_rfl) (fun _ _ _ h => h) (by rfl) ?_
      try simp only [Act.put, List.setIfInBounds_toArray, List.set_cons_zero, List.set_cons_succ]
      refine region_skip 10 36 rfl rfl (by kernel_rfl) (by kernel_rfl) (by kernel_rfl) (fun _ _ _ h => h) (by rfl) ?_
      try simp only [Act.put, List.setIfInBounds_toArray, List.set_cons_zero, List.set_cons_succ]
      refine region_take 11 37 (v := ?vbc1411) rfl rfl (by kernel_rfl) (by kernel_rfl) (by kernel_rfl) (fun _ _ _ h => h) (by rfl) (fun w' hS => ?hbc1411) ?rbc1411
      case hbc1411 => go_simp; with_reducible rfl
      try simp only [Act.put, List.setIfInBounds_toArray, List.set_cons_zero, List.set_cons_succ]
      refine region_take 12 38 (v := ?vbc1412) rfl rfl (by kernel_rfl) (by kernel_rfl) (by kernel_rfl) (fun _ _ _ h => h) (by rfl) (fun w' hS => ?hbc1412) ?rbc1412
      case hbc1412 => go_simp; with_reducible rfl
      try simp only [Act.put, List.setIfInBounds_toArray, List.set_cons_zero, List.set_cons_succ]
      refine region_skip 13 39 rfl rfl (by kernel_rfl) (by kernel_rfl) (by kernel_rfl) (fun _ _ _ h => h) (by rfl) ?_
      try simp only [Act.put, List.setIfInBounds_toArray, List.set_cons_zero, List.set_cons_succ]
      refine region_skip 14 40 rfl rfl (by kernel_rfl) (by kernel_rfl) (by kernel_rfl) (fun _ _ _ h => h) (by rfl) ?_
      try simp only [Act.put, List.setIfInBounds_toArray, List.set_cons_zero, List.set_cons_succ]
      refine region_skip 15 41 rfl rfl (by kernel_rfl) (by kernel_rfl) (by kernel_rfl) (fun _ _ _ h => h) (by rfl) ?_
      try simp only [Act.put, List.setIfInBounds_toArray, List.set_cons_zero, List.set_cons_succ]
      refine region_skip 16 42 rfl rfl (by kernel_rfl) (by kernel_rfl) (by kernel_rfl) (fun _ _ _ h => h) (by rfl) ?_
      try simp only [Act.put, List.setIfInBounds_toArray, List.set_cons_zero, List.set_cons_succ]
      refine region_skip 17 43 rfl rfl (by kernel_rfl) (by kernel_rfl) (by kernel_rfl) (fun _ _ _ h => h) (by rfl) ?_
      try simp only [Act.put, List.setIfInBounds_toArray, List.set_cons_zero, List.set_cons_succ]
      refine region_skip 18 44 rfl rfl (by kernel_rfl) (by kernel_rfl) (by kernel_rfl) (fun _ _ _ h => h) (by rfl) ?_
      try simp only [Act.put, List.setIfInBounds_toArray, List.set_cons_zero, List.set_cons_succ]
      refine region_skip 19 45 rfl rfl (by kernel_rfl) (by kernel_rfl) (by kernel_rfl) (fun _ _ _ h => h) (by rfl) ?_
      try simp only [Act.put, List.setIfInBounds_toArray, List.set_cons_zero, List.set_cons_succ]
      refine region_skip 20 46 rfl rfl (by kernel_rfl) (by kernel_rfl) (by kernel_rfl) (fun _ _ _ h => h) (by rfl) ?_
      try simp only [Act.put, List.setIfInBounds_toArray, List.set_cons_zero, List.set_cons_succ]
      refine region_take 21 47 (v := ?vbc1421) rfl rfl (by kernel_rfl) (by kernel_rfl) (by kernel_rfl) (fun _ _ _ h => h) (by rfl) (fun w' hS => ?hbc1421) ?rbc1421
      case hbc1421 => go_simp; with_reducible rfl
      try simp only [Act.put, List.setIfInBounds_toArray, List.set_cons_zero, List.set_cons_succ]
      refine wpAnyH_done (by kernel_rfl) ?_ _
      go_simp
      try simp only [Act.put, List.setIfInBounds_toArray, List.set_cons_zero, List.set_cons_succ]
      have hBR' := hBR.cell
      have c0 : wa.cell? ⟨bR, 0, none⟩ = some (.int .i64 T.x) := hBR.cell 0
      have c1 : wa.cell? ⟨bR, 1, none⟩ = some (.int .i64 T.y) := hBR.cell 1
      have c2 : wa.cell? ⟨bR, 2, none⟩ = some (.int .i64 T.w) := hBR.cell 2
      have c3 : wa.cell? ⟨bR, 3, none⟩ = some (.int .i64 T.h) := hBR.cell 3
      have a0 : wa.cell? ⟨tb, 0, none⟩ = some (.int .i64 a.x) := hB1.cell 0
      have a2 : wa.cell? ⟨tb, 2, none⟩ = some (.int .i64 a.w) := hB1.cell 2
      have b1 : wa.cell? ⟨tb + 1, 1, none⟩ = some (.int .i64 b.y) := hB2.cell 1
      have b3 : wa.cell? ⟨tb + 1, 3, none⟩ = some (.int .i64 b.h) := hB2.cell 3
      clear hBR'
      by_cases hz : T.w = 0
      · have hT0 := HNone.out hz
        have hRR := hBR.range
        have hx : T.x = 0 := by rw [hT0]; rfl
        have hy : T.y = 0 := by rw [hT0]; rfl
        have hh0 : T.h = 0 := by rw [hT0]; rfl
        rw [hx] at c0
        rw [hy] at c1
        rw [hz] at c2
        rw [hh0] at c3
        clear hT0 hRR hB1 hB2 hBR hx hy hz hh0 a0 a2 b1 b3
        go_wp2_with fail
        refine (works_any _).mono ?_
        rintro e wz ⟨rfl, hPz⟩
        go_wp2_with fail
        go_ret
        exact ⟨rfl, (hPw.pure hPz).below⟩
      · obtain ⟨g1, g2, g3, g4, g5, g6, g7, g8⟩ := HIn.out hz
        clear hB1 hB2 hBR
        go_wp2_with fail
        refine (works_any _).mono ?_
        rintro e wz ⟨rfl, hPz⟩
        go_wp2_with fail
        go_ret
        exact ⟨rfl, (hPw.pure hPz).below⟩
  case first =>
    have hB1 := hB1.drew
    have hB2 := hB2.drew
    have hPw := hPw.drew
    have hPr := Ext.refl (fun _ => False) w2.drew
    refine region_start (fun k => w2.drew.heap.size ≤ k) (by kernel_rfl) ?_
    try simp only [Act.put, List.setIfInBounds_toArray, List.set_cons_zero, List.set_cons_succ]
    refine region_take 0 6 (v := ?vba0) rfl rfl (by kernel_rfl) (by kernel_rfl) (by kernel_rfl) (fun _ _ _ h => h) (by rfl) (fun w' hS => ?hba0) ?rba0
    case hba0 => (refine exec_load32 (x := .tmp 2) ?_ ?_ (hB1.ext hS (fun e => by have e' : w2.drew.heap.size ≤ tb := e; omega)) rfl <;> rfl)
    try simp only [Act.put, List.setIfInBounds_toArray, List.set_cons_zero, List.set_cons_succ]
    refine region_take 2 8 (v := ?vba2) rfl rfl (by kernel_rfl) (by kernel_rfl) (by kernel_rfl) (fun _ _ _ h => h) (by rfl) (fun w' hS => ?hba2) ?rba2
    case hba2 => (refine exec_load32 (x := .tmp 3) ?_ ?_ (hB2.ext hS (fun e => by have e' : w2.drew.heap.size ≤ tb + 1 := e; omega)) rfl <;> rfl)
    try simp only [Act.put, List.setIfInBounds_toArray, List.set_cons_zero, List.set_cons_succ]
    refine wpAnyH_ready (rs := [1, 5]) (by kernel_rfl) (by simp) (AllReadyH.cons rfl (fun K hK => ?_) (AllReadyH.cons rfl (fun K hK => ?_) (AllReadyH.nil)))
    go_simp
    refine (to_any a _).mono ?_
    rintro e wa ⟨rfl, hP⟩
    have hB1 := hB1.ext hP id
    have hB2 := hB2.ext hP id
    have hPw := hPw.pure hP
    try have hBR := hBR.ext hP id
    have hPr := hPr.pure hP
    refine hK.out _ _ (hP.mono (fun _ _ e => e.elim)) (fun hHeld => ?_)
    clear hK K hHeld
    refine region_now (hP.mono (fun _ _ e => e.elim)) ?_
    try simp only [Act.put, List.setIfInBounds_toArray, List.set_cons_zero, List.set_cons_succ]
    refine wpAnyH_ready (rs := [3, 5]) (by kernel_rfl) (by simp) (AllReadyH.cons rfl (fun K hK => ?_) (AllReadyH.cons rfl (fun K hK => ?_) (AllReadyH.nil)))
    go_simp
    refine (to_any b _).mono ?_
    rintro e wb ⟨rfl, hP⟩
    have hB1 := hB1.ext hP id
    have hB2 := hB2.ext hP id
    have hPw := hPw.pure hP
    try have hBR := hBR.ext hP id
    have hPr := hPr.pure hP
    refine hK.out _ _ (hP.mono (fun _ _ e => e.elim)) (fun hHeld => ?_)
    clear hK K hHeld
    refine region_now (hP.mono (fun _ _ e => e.elim)) ?_
    try simp only [Act.put, List.setIfInBounds_toArray, List.set_cons_zero, List.set_cons_succ]
    refine wpAnyH_ready (rs := [4, 5]) (by kernel_rfl) (by simp) (AllReadyH.cons rfl (fun K hK => ?_) (AllReadyH.cons rfl (fun K hK => ?_) (AllReadyH.nil)))
    go_simp
    refine (HBo.out _).mono ?_
    rintro e wc ⟨rfl, hP⟩
    have hB1 := hB1.ext hP id
    have hB2 := hB2.ext hP id
    have hPw := hPw.pure hP
    try have hBR := hBR.ext hP id
    have hPr := hPr.pure hP
    refine hK.out _ _ (hP.mono (fun _ _ e => e.elim)) (fun hHeld => ?_)
    clear hK K hHeld
    refine region_now (hP.mono (fun _ _ e => e.elim)) ?_
    try simp only [Act.put, List.setIfInBounds_toArray, List.set_cons_zero, List.set_cons_succ]
    refine wpAnyH_ready (rs := [5]) (by kernel_rfl) (by simp) (AllReadyH.cons rfl (fun K hK => ?_) AllReadyH.nil)
    refine step_of_list ?_
    refine wpList_alloc_new rfl 28 [.int .i64 0, .int .i64 0, .int .i64 0, .int .i64 0] (run_alloc28 rfl _) ?_
    intro bR wd hBR hP hbR
    have hbR2 := Lib.hid (Nat.le_trans hPr.size hbR)
    clear hbR
    have hB1 := hB1.ext hP id
    have hB2 := hB2.ext hP id
    have hPw := hPw.pure hP
    have hPr := hPr.pure hP
    refine hK.out _ _ (hP.mono (fun _ _ e => e.elim)) (fun hHeld => ?_)
    clear hK K hHeld
    refine region_now (hP.mono (fun _ _ e => e.elim)) ?_
    try simp only [Act.put, List.setIfInBounds_toArray, List.set_cons_zero, List.set_cons_succ]
    refine wpAnyH_ready (rs := [6]) (by kernel_rfl) (by simp) (AllReadyH.cons rfl (fun K hK => ?_) AllReadyH.nil)
    refine step_of_list ?_
    obtain ⟨wE, hwE⟩ : ∃ z, z = wd.setCells bR 0 [.int .i64 T.x, .int .i64 T.y, .int .i64 T.w, .int .i64 T.h] := ⟨_, rfl⟩
    have hX : Ext (fun k => w2.drew.heap.size ≤ k) wd wE := hwE ▸ Ext.setCells _ 0 _ (Ext.refl _ _) (fun _ => hbR2.out)
    have hPw : Pure w wE := hwE ▸ Ext.setCells _ 0 _ hPw (b := bR) (fun h => by have h1 := hbR2.out; have h2 := HTb.out; have h3 : bR < w.heap.size := h; omega)
    have hTh := Lib.hid (hBR.there 4 rfl)
    have hBR : BlockIs wE bR [.int .i64 T.x, .int .i64 T.y, .int .i64 T.w, .int .i64 T.h] 28 := hwE ▸ setRect hBR rfl _ _ _ _
    have hB1 := hB1.ext hX (fun e => by have e' : w2.drew.heap.size ≤ tb := e; omega)
    have hB2 := hB2.ext hX (fun e => by have e' : w2.drew.heap.size ≤ tb + 1 := e; omega)
    refine wpList_store_mid rfl 28 (.tmp 5) (.tmp 10) rfl bR 0 #[.int .i64 T.x, .int .i64 T.y, .int .i64 T.w, .int .i64 T.h] rfl rfl hTh.out (by exact size28) (one4 _ _ _ _) ?_
    have HwE : Hid (wd.setCells bR 0 (#[.int .i64 T.x, .int .i64 T.y, .int .i64 T.w, .int .i64 T.h] : Array Value).toList = wE) := Lib.hid (by rw [hwE])
    rw [HwE.out]
    clear hwE
    refine hK.out _ _ (hX) (fun hHeld => ?_)
    clear hK K hHeld
    refine region_now (hX) ?_
    try simp only [Act.put, List.setIfInBounds_toArray, List.set_cons_zero, List.set_cons_succ]
    refine wpAnyH_done (by kernel_rfl) ?_ _
    rotate_left
    refine step_of_list ?_
    refine wpList_alloc_new rfl 28 [.int .i64 0, .int .i64 0, .int .i64 0, .int .i64 0] (run_alloc28 rfl _) ?_
    intro bR wd hBR hP hbR
    have hbR2 := Lib.hid (Nat.le_trans hPr.size hbR)
    clear hbR
    have hB1 := hB1.ext hP id
    have hB2 := hB2.ext hP id
    have hPw := hPw.pure hP
    have hPr := hPr.pure hP
    refine hK.out _ _ (hP.mono (fun _ _ e => e.elim)) (fun hHeld => ?_)
    clear hK K hHeld
    refine region_now (hP.mono (fun _ _ e => e.elim)) ?_
    try simp only [Act.put, List.setIfInBounds_toArray, List.set_cons_zero, List.set_cons_succ]
    refine wpAnyH_ready (rs := [4]) (by kernel_rfl) (by simp) (AllReadyH.cons rfl (fun K hK => ?_) AllReadyH.nil)
    go_simp
    refine (HBo.out _).mono ?_
    rintro e wc ⟨rfl, hP⟩
    have hB1 := hB1.ext hP id
    have hB2 := hB2.ext hP id
    have hPw := hPw.pure hP
    try have hBR := hBR.ext hP id
    have hPr := hPr.pure hP
    refine hK.out _ _ (hP.mono (fun _ _ e => e.elim)) (fun hHeld => ?_)
    clear hK K hHeld
    refine region_now (hP.mono (fun _ _ e => e.elim)) ?_
    try simp only [Act.put, List.setIfInBounds_toArray, List.set_cons_zero, List.set_cons_succ]
    refine wpAnyH_ready (rs := [6]) (by kernel_rfl) (by simp) (AllReadyH.cons rfl (fun K hK => ?_) AllReadyH.nil)
    refine step_of_list ?_
    obtain ⟨wE, hwE⟩ : ∃ z, z = wc.setCells bR 0 [.int .i64 T.x, .int .i64 T.y, .int .i64 T.w, .int .i64 T.h] := ⟨_, rfl⟩
    have hX : Ext (fun k => w2.drew.heap.size ≤ k) wc wE := hwE ▸ Ext.setCells _ 0 _ (Ext.refl _ _) (fun _ => hbR2.out)
    have hPw : Pure w wE := hwE ▸ Ext.setCells _ 0 _ hPw (b := bR) (fun h => by have h1 := hbR2.out; have h2 := HTb.out; have h3 : bR < w.heap.size := h; omega)
    have hTh := Lib.hid (hBR.there 4 rfl)
    have hBR : BlockIs wE bR [.int .i64 T.x, .int .i64 T.y, .int .i64 T.w, .int .i64 T.h] 28 := hwE ▸ setRect hBR rfl _ _ _ _
    have hB1 := hB1.ext hX (fun e => by have e' : w2.drew.heap.size ≤ tb := e; omega)
    have hB2 := hB2.ext hX (fun e => by have e' : w2.drew.heap.size ≤ tb + 1 := e; omega)
    refine wpList_store_mid rfl 28 (.tmp 5) (.tmp 10) rfl bR 0 #[.int .i64 T.x, .int .i64 T.y, .int .i64 T.w, .int .i64 T.h] rfl rfl hTh.out (by exact size28) (one4 _ _ _ _) ?_
    have HwE : Hid (wc.setCells bR 0 (#[.int .i64 T.x, .int .i64 T.y, .int .i64 T.w, .int .i64 T.h] : Array Value).toList = wE) := Lib.hid (by rw [hwE])
    rw [HwE.out]
    clear hwE
    refine hK.out _ _ (hX) (fun hHeld => ?_)
    clear hK K hHeld
    refine region_now (hX) ?_
    try simp only [Act.put, List.setIfInBounds_toArray, List.set_cons_zero, List.set_cons_succ]
    refine wpAnyH_done (by kernel_rfl) ?_ _
    rotate_left
    refine step_of_list ?_
    refine wpList_alloc_new rfl 28 [.int .i64 0, .int .i64 0, .int .i64 0, .int .i64 0] (run_alloc28 rfl _) ?_
    intro bR wd hBR hP hbR
    have hbR2 := Lib.hid (Nat.le_trans hPr.size hbR)
    clear hbR
    have hB1 := hB1.ext hP id
    have hB2 := hB2.ext hP id
    have hPw := hPw.pure hP
    have hPr := hPr.pure hP
    refine hK.out _ _ (hP.mono (fun _ _ e => e.elim)) (fun hHeld => ?_)
    clear hK K hHeld
    refine region_now (hP.mono (fun _ _ e => e.elim)) ?_
    try simp only [Act.put, List.setIfInBounds_toArray, List.set_cons_zero, List.set_cons_succ]
    refine wpAnyH_ready (rs := [3]) (by kernel_rfl) (by simp) (AllReadyH.cons rfl (fun K hK => ?_) AllReadyH.nil)
    go_simp
    refine (to_any b _).mono ?_
    rintro e wb ⟨rfl, hP⟩
    have hB1 := hB1.ext hP id
    have hB2 := hB2.ext hP id
    have hPw := hPw.pure hP
    try have hBR := hBR.ext hP id
    have hPr := hPr.pure hP
    refine hK.out _ _ (hP.mono (fun _ _ e => e.elim)) (fun hHeld => ?_)
    clear hK K hHeld
    refine region_now (hP.mono (fun _ _ e => e.elim)) ?_
    try simp only [Act.put, List.setIfInBounds_toArray, List.set_cons_zero, List.set_cons_succ]
    refine wpAnyH_ready (rs := [4]) (by kernel_rfl) (by simp) (AllReadyH.cons rfl (fun K hK => ?_) AllReadyH.nil)
    go_simp
    refine (HBo.out _).mono ?_
    rintro e wc ⟨rfl, hP⟩
    have hB1 := hB1.ext hP id
    have hB2 := hB2.ext hP id
    have hPw := hPw.pure hP
    try have hBR := hBR.ext hP id
    have hPr := hPr.pure hP
    refine hK.out _ _ (hP.mono (fun _ _ e => e.elim)) (fun hHeld => ?_)
    clear hK K hHeld
    refine region_now (hP.mono (fun _ _ e => e.elim)) ?_
    try simp only [Act.put, List.setIfInBounds_toArray, List.set_cons_zero, List.set_cons_succ]
    refine wpAnyH_ready (rs := [6]) (by kernel_rfl) (by simp) (AllReadyH.cons rfl (fun K hK => ?_) AllReadyH.nil)
    refine step_of_list ?_
    obtain ⟨wE, hwE⟩ : ∃ z, z = wc.setCells bR 0 [.int .i64 T.x, .int .i64 T.y, .int .i64 T.w, .int .i64 T.h] := ⟨_, rfl⟩
    have hX : Ext (fun k => w2.drew.heap.size ≤ k) wc wE := hwE ▸ Ext.setCells _ 0 _ (Ext.refl _ _) (fun _ => hbR2.out)
    have hPw : Pure w wE := hwE ▸ Ext.setCells _ 0 _ hPw (b := bR) (fun h => by have h1 := hbR2.out; have h2 := HTb.out; have h3 : bR < w.heap.size := h; omega)
    have hTh := Lib.hid (hBR.there 4 rfl)
    have hBR : BlockIs wE bR [.int .i64 T.x, .int .i64 T.y, .int .i64 T.w, .int .i64 T.h] 28 := hwE ▸ setRect hBR rfl _ _ _ _
    have hB1 := hB1.ext hX (fun e => by have e' : w2.drew.heap.size ≤ tb := e; omega)
    have hB2 := hB2.ext hX (fun e => by have e' : w2.drew.heap.size ≤ tb + 1 := e; omega)
    refine wpList_store_mid rfl 28 (.tmp 5) (.tmp 10) rfl bR 0 #[.int .i64 T.x, .int .i64 T.y, .int .i64 T.w, .int .i64 T.h] rfl rfl hTh.out (by exact size28) (one4 _ _ _ _) ?_
    have HwE : Hid (wc.setCells bR 0 (#[.int .i64 T.x, .int .i64 T.y, .int .i64 T.w, .int .i64 T.h] : Array Value).toList = wE) := Lib.hid (by rw [hwE])
    rw [HwE.out]
    clear hwE
    refine hK.out _ _ (hX) (fun hHeld => ?_)
    clear hK K hHeld
    refine region_now (hX) ?_
    try simp only [Act.put, List.setIfInBounds_toArray, List.set_cons_zero, List.set_cons_succ]
    refine wpAnyH_done (by kernel_rfl) ?_ _
    rotate_left
    refine step_of_list ?_
    refine wpList_alloc_new rfl 28 [.int .i64 0, .int .i64 0, .int .i64 0, .int .i64 0] (run_alloc28 rfl _) ?_
    intro bR wd hBR hP hbR
    have hbR2 := Lib.hid (Nat.le_trans hPr.size hbR)
    clear hbR
    have hB1 := hB1.ext hP id
    have hB2 := hB2.ext hP id
    have hPw := hPw.pure hP
    have hPr := hPr.pure hP
    refine hK.out _ _ (hP.mono (fun _ _ e => e.elim)) (fun hHeld => ?_)
    clear hK K hHeld
    refine region_now (hP.mono (fun _ _ e => e.elim)) ?_
    try simp only [Act.put, List.setIfInBounds_toArray, List.set_cons_zero, List.set_cons_succ]
    refine wpAnyH_ready (rs := [1]) (by kernel_rfl) (by simp) (AllReadyH.cons rfl (fun K hK => ?_) AllReadyH.nil)
    go_simp
    refine (to_any a _).mono ?_
    rintro e wa ⟨rfl, hP⟩
    have hB1 := hB1.ext hP id
    have hB2 := hB2.ext hP id
    have hPw := hPw.pure hP
    try have hBR := hBR.ext hP id
    have hPr := hPr.pure hP
    refine hK.out _ _ (hP.mono (fun _ _ e => e.elim)) (fun hHeld => ?_)
    clear hK K hHeld
    refine region_now (hP.mono (fun _ _ e => e.elim)) ?_
    try simp only [Act.put, List.setIfInBounds_toArray, List.set_cons_zero, List.set_cons_succ]
    refine wpAnyH_ready (rs := [3]) (by kernel_rfl) (by simp) (AllReadyH.cons rfl (fun K hK => ?_) AllReadyH.nil)
    go_simp
    refine (to_any b _).mono ?_
    rintro e wb ⟨rfl, hP⟩
    have hB1 := hB1.ext hP id
    have hB2 := hB2.ext hP id
    have hPw := hPw.pure hP
    try have hBR := hBR.ext hP id
    have hPr := hPr.pure hP
    refine hK.out _ _ (hP.mono (fun _ _ e => e.elim)) (fun hHeld => ?_)
    clear hK K hHeld
    refine region_now (hP.mono (fun _ _ e => e.elim)) ?_
    try simp only [Act.put, List.setIfInBounds_toArray, List.set_cons_zero, List.set_cons_succ]
    refine wpAnyH_ready (rs := [4]) (by kernel_rfl) (by simp) (AllReadyH.cons rfl (fun K hK => ?_) AllReadyH.nil)
    go_simp
    refine (HBo.out _).mono ?_
    rintro e wc ⟨rfl, hP⟩
    have hB1 := hB1.ext hP id
    have hB2 := hB2.ext hP id
    have hPw := hPw.pure hP
    try have hBR := hBR.ext hP id
    have hPr := hPr.pure hP
    refine hK.out _ _ (hP.mono (fun _ _ e => e.elim)) (fun hHeld => ?_)
    clear hK K hHeld
    refine region_now (hP.mono (fun _ _ e => e.elim)) ?_
    try simp only [Act.put, List.setIfInBounds_toArray, List.set_cons_zero, List.set_cons_succ]
    refine wpAnyH_ready (rs := [6]) (by kernel_rfl) (by simp) (AllReadyH.cons rfl (fun K hK => ?_) AllReadyH.nil)
    refine step_of_list ?_
    obtain ⟨wE, hwE⟩ : ∃ z, z = wc.setCells bR 0 [.int .i64 T.x, .int .i64 T.y, .int .i64 T.w, .int .i64 T.h] := ⟨_, rfl⟩
    have hX : Ext (fun k => w2.drew.heap.size ≤ k) wc wE := hwE ▸ Ext.setCells _ 0 _ (Ext.refl _ _) (fun _ => hbR2.out)
    have hPw : Pure w wE := hwE ▸ Ext.setCells _ 0 _ hPw (b := bR) (fun h => by have h1 := hbR2.out; have h2 := HTb.out; have h3 : bR < w.heap.size := h; omega)
    have hTh := Lib.hid (hBR.there 4 rfl)
    have hBR : BlockIs wE bR [.int .i64 T.x, .int .i64 T.y, .int .i64 T.w, .int .i64 T.h] 28 := hwE ▸ setRect hBR rfl _ _ _ _
    have hB1 := hB1.ext hX (fun e => by have e' : w2.drew.heap.size ≤ tb := e; omega)
    have hB2 := hB2.ext hX (fun e => by have e' : w2.drew.heap.size ≤ tb + 1 := e; omega)
    refine wpList_store_mid rfl 28 (.tmp 5) (.tmp 10) rfl bR 0 #[.int .i64 T.x, .int .i64 T.y, .int .i64 T.w, .int .i64 T.h] rfl rfl hTh.out (by exact size28) (one4 _ _ _ _) ?_
    have HwE : Hid (wc.setCells bR 0 (#[.int .i64 T.x, .int .i64 T.y, .int .i64 T.w, .int .i64 T.h] : Array Value).toList = wE) := Lib.hid (by rw [hwE])
    rw [HwE.out]
    clear hwE
    refine hK.out _ _ (hX) (fun hHeld => ?_)
    clear hK K hHeld
    refine region_now (hX) ?_
    try simp only [Act.put, List.setIfInBounds_toArray, List.set_cons_zero, List.set_cons_succ]
    refine wpAnyH_done (by kernel_rfl) ?_ _
    rotate_left
    all_goals
      go_simp
      try simp only [Act.put, List.setIfInBounds_toArray, List.set_cons_zero, List.set_cons_succ]
      go_wp2_with fail
      go_meet
      case rel => exact ⟨bR, rfl, Lib.hid hB1, Lib.hid hB2, Lib.hid hBR, Lib.hid hPw⟩

set_option maxRecDepth 100000 in
theorem lifted (os : Os) (started : os.Started) (H : Type) (enc : TypeId × Value → H) :
    ReturnsInHanded {} Try.checked os 4 .any (Rows.boxBothSpec.pre6 enc Try.prog Try.f4 Rows.boxBothRow.domain false) (Rows.boxBothSpec.post enc Try.prog Try.f4 false true false false) := by
  refine returnsInHanded_of_change (C := Try.checked) own started (by kernel_rfl) Try.func4
    (ChangeSpec.witness6 (enc := enc) (C := Try.checked) false ⟨#[], #[.agg #[.int .i64 0, .int .i64 0, .int .i64 0, .int .i64 0], .agg #[.int .i64 0, .int .i64 0, .int .i64 0, .int .i64 0]], []⟩ 8 (by kernel_rfl) (by kernel_rfl) (by kernel_rfl) (by kernel_rfl)) ?_
  intro W base args ds gs before hval0 hW hcnd _
  have hval : ∀ (j : Nat) t v, Try.f4.params[j]? = some t → args[j]? = some v → Value.okWide Try.prog W .any base t v := hval0
  have hW' := hW
  obtain ⟨p, q, hA0, hV, rfl, hfz, hnd⟩ := hW
  have hA : DataW.TrodAll enc Try.prog W 0 (fun _ => true) true Try.f4.params.toList args.toList ds p := hA0
  rw [Try.params4] at hA hval
  obtain ⟨v0, vs0, d0, ds0, p0, q0, hargs, rfl, rfl, h0, r0⟩ := trodAll_cons hA
  obtain ⟨v1, vs1, d1, ds1, p1, q1, rfl, rfl, rfl, h1, r1⟩ := trodAll_cons r0
  obtain ⟨rfl, rfl, rfl⟩ := trodAll_nil r1
  obtain rfl : args = #[v0, v1] := by cases args; simp_all
  obtain ⟨rfl, rfl⟩ := trodVars_none hV
  have k0 := h0
  have lt0 : ∀ x ∈ p0, x.block < W.heap.size := by obtain ⟨m, hm⟩ := k0; exact DataW.trod_lt m _ _ _ hm
  have k1 := h1
  have lt1 : ∀ x ∈ p1, x.block < W.heap.size := by obtain ⟨m, hm⟩ := k1; exact DataW.trod_lt m _ _ _ hm
  obtain ⟨r0', rfl⟩ := open_rect (hval 0 32 v0 rfl rfl) h0
  obtain ⟨r1', rfl⟩ := open_rect (hval 1 32 v1 rfl rfl) h1
  clear hA0 hval0
  refine (walk r0' r1' W).mono fun e W' ⟨he, bel⟩ => ?_
  subst he
  exact ⟨_, rfl, _, _, _, [], _, [], hW', trodAll_mk1 (shut_bool Try.underlying4 _), (trodAll_cons_mk (Below.trod laidOut (by kernel_rfl) (of_decide_eq_true (by kernel_rfl)) k0 bel lt0) (trodAll_cons_mk (Below.trod laidOut (by kernel_rfl) (of_decide_eq_true (by kernel_rfl)) k1 bel lt1) trodAll_mk0)), rfl, bel.frame _, fun h => by cases h⟩

theorem proved : Rows.BoxBothSaid :=
  OpenClaim.holds_of_wide 4 Try.f4 rfl rfl rfl rfl rfl rfl rfl ⟨rfl, rfl, rfl, rfl, rfl⟩ rfl rfl rfl rfl rfl (by kernel_rfl) Try.func4 (by kernel_rfl)
    (of_decide_eq_true (by kernel_rfl)) (by unfold Func.isWrapper; first | (rw [if_pos (by decide +kernel)]; kernel_rfl) | (rw [if_neg (by decide +kernel)]; exact ⟨rfl, rfl⟩))
    (fun os started H enc _ => lifted os started H enc)
#print axioms proved
end Go.Proofs.Ytnibjjpohhknkaa.boxBoth
