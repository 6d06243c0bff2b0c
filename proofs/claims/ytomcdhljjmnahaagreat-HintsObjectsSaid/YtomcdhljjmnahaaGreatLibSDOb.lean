/-
  Walked: the reference's Text and Encode.
  Walked: are two rows of numbers alike? (the reference's Same of chapter 21)
  Walked: the reference's Same and Encode, and the laws' own helpers of and to.
  Plain: what the reference's Decode comes to, end by end.
-/
import Derived.Test.YtomcdhljjmnahaaGreatLibSBOb
import Derived.Test.YtomcdhljjmnahaaGreatLibSCOb
import Derived.Test.YtomcdhljjmnahaaGreatLibBBOb
import Derived.Test.YtomcdhljjmnahaaGreatLibBAOb
import Derived.Test.YtomcdhljjmnahaaGreatLibSAOb
namespace Go.Proofs.YtomcdhljjmnahaaGreat.S27
set_option linter.unusedVariables false
set_option linter.unusedSimpArgs false
open Go.RowKit C27
theorem drewN_two (w : World) (q n : Nat) : (w.drewN q).drewN n = w.drewN (q + n) := by unfold World.drewN; simp [Nat.add_assoc]
theorem fold_least (ls : List Nat) : ls.foldl min (ls.headD 0) = least ls := by
  cases ls with
  | nil => rfl
  | cons x xs => simp [least]
theorem fold_most (ls : List Nat) : ls.foldl max (ls.headD 0) = most ls := by
  cases ls with
  | nil => rfl
  | cons x xs => simp [most]
set_option maxHeartbeats 8000000 in
set_option maxRecDepth 100000 in
theorem text_any (o a f : Nat) (la : Option Addr) (c : Nat) (ls : List Nat) (sa : Option Addr) (sc : Nat) (signed : List Bool) (groups : Nat) (w : World) (hr : RowOf w la (ls.map intV)) (hok : okT o a f (ls.map (fun x : Nat => (x : Int))) = true) (hg : groups ≤ 32) (hs : RowOf w sa (signed.map Value.bool)) (hsl : (signed.length : Int) ≤ 9223372036854775807) :
    Calls Tryz.prog 76 #[tblV o a f la ls.length c, .slice sa signed.length sc, .int .i64 groups] w fun e w' => ∃ ra rc, e = .returned (.slice ra (pack true (tabB o a f ls groups signed)).length rc) ∧ w'.ownsRow w.heap.size 5 1 (.slice ra (pack true (tabB o a f ls groups signed)).length rc) (pack true (tabB o a f ls groups signed)).length ((pack true (tabB o a f ls groups signed)).map byV) ∧ Pure w w' := by
  obtain ⟨b1, b2, b3, b4, b5⟩ := okT_nat hok
  have hleast : least ls < 4294967296 := by
    cases ls with
    | nil => decide
    | cons x xs => exact Nat.lt_of_le_of_lt (least_le (y := x) (by simp)) (by have := b5 x (by simp); omega)
  have hwidth : width ls ≤ 32 := width_le (fun y hy => by have := b5 y hy; omega)
  have hmost : most ls < 4294967296 := most_lt (by decide) (fun y hy => by have := b5 y hy; omega)
  have B5 := Lib.hid b5
  clear b5 hok
  unfold tblV
  obtain ⟨w1, hw1⟩ : ∃ w1, w1 = w.alloc (.cells #[.int .i64 o, .int .i64 a, .int .i64 f, .slice la ls.length c] 73) := ⟨_, rfl⟩
  have hB1 : BlockIs w1 w.heap.size [.int .i64 o, .int .i64 a, .int .i64 f, .slice la ls.length c] 73 := hw1 ▸ BlockIs.new w _ _
  have hP1 : Pure w w1 := hw1 ▸ ext_alloc w _
  have c3 : w1.cell? ⟨w.heap.size, 0 + 3, none⟩ = some (.slice la ls.length c) := hB1.cell 3
  have HW1 := Lib.hid hw1
  clear hw1
  by_cases hne : ls = []
  · have hn0 : ¬ (0 : Int) < (ls.length : Int) := by rw [hne]; decide
    have SA0 : Hid (Value.int IntKind.i64 0 = .int .i64 ((ls.take 0).foldl min (ls.headD 0) : Nat)) := Lib.hid (by rw [hne]; rfl)
    have SB0 : Hid (Value.int IntKind.i64 0 = .int .i64 ((ls.take 0).foldl max (ls.headD 0) : Nat)) := Lib.hid (by rw [hne]; rfl)
    have hB2 := hB1
    clear hne
    go_enter Tryz.func76, Tryz.ntmps76
    go_wp2_with fail
    rw [← HW1.out]
    go_wp2_with fail
    have hlenB : BlockIs w1 w.heap.size [.int .i64 o, .int .i64 a, .int .i64 f, .slice la ls.length c] 73 := hB2
    go_loopw [7, 8, 9] (fun l m i W => ∃ (k q : Nat), k ≤ ls.length ∧ i = .int .i64 k ∧ l = .int .i64 ((ls.take k).foldl min (ls.headD 0) : Nat) ∧ m = .int .i64 ((ls.take k).foldl max (ls.headD 0) : Nat) ∧ W = w1.drewN q) (fun _ _ i _ => ls.length - (intOf i).toNat)
    case atStart => exact ⟨0, 0, Nat.zero_le _, rfl, SA0.out, SB0.out, rfl⟩
    case round =>
      obtain ⟨k, q, hk, rfl, rfl, rfl, hwq⟩ := hrel
      have hBr : BlockIs wr w.heap.size [.int .i64 o, .int .i64 a, .int .i64 f, .slice la ls.length c] 73 := hwq ▸ hB1.drewN q
      have hPr : Pure w wr := hwq ▸ hP1.drewN q
      have hd3 : wr.cell? ⟨w.heap.size, 0 + 3, none⟩ = some (.slice la ls.length c) := hBr.cell 3
      obtain ⟨lo, hlo⟩ : ∃ l, l = (ls.take k).foldl min (ls.headD 0) := ⟨_, rfl⟩
      obtain ⟨hi, hhi⟩ : ∃ l, l = (ls.take k).foldl max (ls.headD 0) := ⟨_, rfl⟩
      rw [← hlo, ← hhi]
      clear hlenB
      by_cases hlt : k < ls.length
      ·
        exact absurd hlt (by omega)
      · have hki : ¬ (k : Int) < (ls.length : Int) := by omega
        have hkl : k = ls.length := by omega
        rw [hkl, List.take_length] at hlo hhi
        have hlo' : lo = least ls := hlo.trans (fold_least ls)
        have hhi' : hi = most ls := hhi.trans (fold_most ls)
        clear hlo hhi hkl hwq hB1 hP1 hB2 hlt
        have hLM : lo ≤ hi := by
          rw [hlo', hhi']
          cases ls with
          | nil => exact Nat.le_refl _
          | cons x xs => exact Nat.le_trans (least_le (y := x) (by simp)) (le_most (by simp))
        obtain ⟨dv, hdv⟩ : ∃ d, d = hi - lo := ⟨_, rfl⟩
        have hdi : (hi : Int) - (lo : Int) = (dv : Int) := by omega
        have hhl : hi < 4294967296 := by rw [hhi']; exact hmost
        have hll : lo < 4294967296 := by rw [hlo']; exact hleast
        have hdl : dv < 4294967296 := by omega
        have hud : IntKind.u32.wrap (dv : Int) = (dv : Int) := IntWalk.u32_in _ (by omega)
        obtain ⟨wv, hwv⟩ : ∃ l, l = width ls := ⟨_, rfl⟩
        have hwd : wid dv = wv := by rw [hwv, hdv, hlo', hhi']; rfl
        have hwl : wv ≤ 32 := by rw [hwv]; exact hwidth
        have HWi := Lib.hid (fun w => hwd ▸ refwidth_any dv w hdl)
        have HLo := Lib.hid hlo'
        have HWv := Lib.hid hwv
        clear hwv hwd hdv hlo' hhi'
        go_wp2_with fail
        refine (HWi.out _).mono ?_
        rintro e w3 ⟨rfl, hw3⟩
        obtain rfl := hw3.symm
        clear HWi hdi hud hd3
        have hTS := TS.start hBr.drew hPr.drew
        have hno : ¬ (w.heap.size < w.heap.size) := Nat.lt_irrefl _
        have cl0 := fun w' (hS : Ext (fun i => w.heap.size < i) wr.drew w') => (hS.cell_some (hBr.drew.cell 0) hno : w'.cell? ⟨w.heap.size, 0, none⟩ = some (.int .i64 o))
        have cl1 := fun w' (hS : Ext (fun i => w.heap.size < i) wr.drew w') => (hS.cell_some (hBr.drew.cell 1) hno : w'.cell? ⟨w.heap.size, 0 + 1, none⟩ = some (.int .i64 a))
        have cl2 := fun w' (hS : Ext (fun i => w.heap.size < i) wr.drew w') => (hS.cell_some (hBr.drew.cell 2) hno : w'.cell? ⟨w.heap.size, 0 + 2, none⟩ = some (.int .i64 f))
        have cl3 := fun w' (hS : Ext (fun i => w.heap.size < i) wr.drew w') => (hS.cell_some (hBr.drew.cell 3) hno : w'.cell? ⟨w.heap.size, 0 + 3, none⟩ = some (.slice la ls.length c))
        have HPut1 := Lib.hid (tsput hTS o 32 (by simp) (by omega) (by omega) (by omega))
        rw [List.nil_append, List.length_nil] at HPut1
        have hl1 := Lib.hid (bitsNum_length true o 32)
        have hm1 : (bitsNum true o 32).length ≤ 32 := Nat.le_of_eq hl1.out
        generalize hp1 : bitsNum true o 32 = p1 at *
        clear hBr hPr
        go_wp2_with fail
        refine region_start (fun i => w.heap.size < i) (by kernel_rfl) ?_
        try simp only [Act.put, List.setIfInBounds_toArray, List.set_cons_zero, List.set_cons_succ]
        refine region_take 0 56 (v := ?vz0) rfl rfl (by kernel_rfl) (by kernel_rfl) (by kernel_rfl) (fun _ _ _ h => h) (by rfl) (fun w' hS => ?hz0) ?rz0
        case hz0 => go_simp; with_reducible rfl
        try simp only [Act.put, List.setIfInBounds_toArray, List.set_cons_zero, List.set_cons_succ]
        refine region_take 1 57 (v := ?vz1) rfl rfl (by kernel_rfl) (by kernel_rfl) (by kernel_rfl) (fun _ _ _ h => h) (by rfl) (fun w' hS => ?hz1) ?rz1
        case hz1 => go_simp; with_reducible rfl
        try simp only [Act.put, List.setIfInBounds_toArray, List.set_cons_zero, List.set_cons_succ]
        refine region_take 3 59 (v := ?vz3) rfl rfl (by kernel_rfl) (by kernel_rfl) (by kernel_rfl) (fun _ _ _ h => h) (by rfl) (fun w' hS => ?hz3) ?rz3
        case hz3 => go_simp; with_reducible rfl
        try simp only [Act.put, List.setIfInBounds_toArray, List.set_cons_zero, List.set_cons_succ]
        refine region_take 4 60 (v := ?vz4) rfl rfl (by kernel_rfl) (by kernel_rfl) (by kernel_rfl) (fun _ _ _ h => h) (by rfl) (fun w' hS => ?hz4) ?rz4
        case hz4 => go_simp; with_reducible rfl
        try simp only [Act.put, List.setIfInBounds_toArray, List.set_cons_zero, List.set_cons_succ]
        refine region_take 6 62 (v := ?vz6) rfl rfl (by kernel_rfl) (by kernel_rfl) (by kernel_rfl) (fun _ _ _ h => h) (by rfl) (fun w' hS => ?hz6) ?rz6
        case hz6 => go_simp; with_reducible rfl
        try simp only [Act.put, List.setIfInBounds_toArray, List.set_cons_zero, List.set_cons_succ]
        refine region_take 7 63 (v := ?vz7) rfl rfl (by kernel_rfl) (by kernel_rfl) (by kernel_rfl) (fun _ _ _ h => h) (by rfl) (fun w' hS => ?hz7) ?rz7
        case hz7 => go_simp; with_reducible rfl
        try simp only [Act.put, List.setIfInBounds_toArray, List.set_cons_zero, List.set_cons_succ]
        refine region_take 9 65 (v := ?vz9) rfl rfl (by kernel_rfl) (by kernel_rfl) (by kernel_rfl) (fun _ _ _ h => h) (by rfl) (fun w' hS => ?hz9) ?rz9
        case hz9 => go_simp; with_reducible rfl
        try simp only [Act.put, List.setIfInBounds_toArray, List.set_cons_zero, List.set_cons_succ]
        refine region_take 10 66 (v := ?vz10) rfl rfl (by kernel_rfl) (by kernel_rfl) (by kernel_rfl) (fun _ _ _ h => h) (by rfl) (fun w' hS => ?hz10) ?rz10
        case hz10 => go_simp; with_reducible rfl
        try simp only [Act.put, List.setIfInBounds_toArray, List.set_cons_zero, List.set_cons_succ]
        refine region_take 11 67 (v := ?vz11) rfl rfl (by kernel_rfl) (by kernel_rfl) (by kernel_rfl) (fun _ _ _ h => h) (by rfl) (fun w' hS => ?hz11) ?rz11
        case hz11 => go_simp; with_reducible rfl
        try simp only [Act.put, List.setIfInBounds_toArray, List.set_cons_zero, List.set_cons_succ]
        refine wpAnyH_ready (rs := [2]) (by kernel_rfl) (by simp) (AllReadyH.cons rfl (fun K hK => ?_) AllReadyH.nil)
        go_simp
        refine HPut1.out.mono ?_
        rintro e w2 ⟨a2, c2, rfl, hT2, hE2⟩
        refine hK.out _ _ (hE2) (fun hHeld => ?_)
        clear hK K hHeld
        refine region_now (hE2) ?_
        try simp only [Act.put, List.setIfInBounds_toArray, List.set_cons_zero, List.set_cons_succ]
        clear cl0 cl1 cl2 cl3
        have HPut2 := Lib.hid (tsput hT2 a 32 (by omega) (by omega) (by omega) (by omega))
        have hl2 := Lib.hid (show (p1 ++ bitsNum true a 32).length = 64 by rw [List.length_append, hl1.out, bitsNum_length])
        have hm2 : (p1 ++ bitsNum true a 32).length ≤ 64 := Nat.le_of_eq hl2.out
        generalize hp2 : p1 ++ bitsNum true a 32 = p2 at *
        refine wpAnyH_ready (rs := [5]) (by kernel_rfl) (by simp) (AllReadyH.cons rfl (fun K hK => ?_) AllReadyH.nil)
        go_simp
        refine HPut2.out.mono ?_
        rintro e w3 ⟨a3, c3, rfl, hT3, hE3⟩
        refine hK.out _ _ (hE3) (fun hHeld => ?_)
        clear hK K hHeld
        refine region_now (hE3) ?_
        try simp only [Act.put, List.setIfInBounds_toArray, List.set_cons_zero, List.set_cons_succ]
        have HPut3 := Lib.hid (tsput hT3 f 32 (by omega) (by omega) (by omega) (by omega))
        have hl3 := Lib.hid (show (p2 ++ bitsNum true f 32).length = 96 by rw [List.length_append, hl2.out, bitsNum_length])
        have hm3 : (p2 ++ bitsNum true f 32).length ≤ 96 := Nat.le_of_eq hl3.out
        generalize hp3 : p2 ++ bitsNum true f 32 = p3 at *
        refine wpAnyH_ready (rs := [8]) (by kernel_rfl) (by simp) (AllReadyH.cons rfl (fun K hK => ?_) AllReadyH.nil)
        go_simp
        refine HPut3.out.mono ?_
        rintro e w4 ⟨a4, c4, rfl, hT4, hE4⟩
        refine hK.out _ _ (hE4) (fun hHeld => ?_)
        clear hK K hHeld
        refine region_now (hE4) ?_
        try simp only [Act.put, List.setIfInBounds_toArray, List.set_cons_zero, List.set_cons_succ]
        have HPut4 := Lib.hid (tsput hT4 ls.length 32 (by omega) (by omega) (by omega) (by omega))
        have hl4 := Lib.hid (show (p3 ++ bitsNum true ls.length 32).length = 128 by rw [List.length_append, hl3.out, bitsNum_length])
        have hm4 : (p3 ++ bitsNum true ls.length 32).length ≤ 128 := Nat.le_of_eq hl4.out
        generalize hp4 : p3 ++ bitsNum true ls.length 32 = p4 at *
        refine wpAnyH_ready (rs := [12]) (by kernel_rfl) (by simp) (AllReadyH.cons rfl (fun K hK => ?_) AllReadyH.nil)
        go_simp
        refine HPut4.out.mono ?_
        rintro e w5 ⟨a5, c5, rfl, hT5, hE5⟩
        refine hK.out _ _ (hE5) (fun hHeld => ?_)
        clear hK K hHeld
        refine region_now (hE5) ?_
        try simp only [Act.put, List.setIfInBounds_toArray, List.set_cons_zero, List.set_cons_succ]
        refine region_take 13 11 (v := ?vz13) rfl rfl (by kernel_rfl) (by kernel_rfl) (by kernel_rfl) (fun _ _ _ h => h) (by rfl) (fun w' hS => ?hz13) ?rz13
        case hz13 => go_simp; with_reducible rfl
        try simp only [Act.put, List.setIfInBounds_toArray, List.set_cons_zero, List.set_cons_succ]
        refine wpAnyH_done (by kernel_rfl) ?_ _
        have HP4 : Hid (p4 = bN o 32 ++ bN a 32 ++ bN f 32 ++ bN ls.length 32) := Lib.hid (by rw [← hp4, ← hp3, ← hp2, ← hp1]; rfl)
        clear hp1 hp2 hp3 hp4 hl1 hl2 hl3 hTS hT2 hT3 hT4 hE2 hE3 hE4 hE5 HPut1 HPut2 HPut3 HPut4
        have HPut := Lib.hid (tsput hT5 groups 16 (by omega) (by omega) (by omega) (by omega))
        have hl5 := Lib.hid (show (p4 ++ bitsNum true groups 16).length = 144 by rw [List.length_append, hl4.out, bitsNum_length])
        have hm5 : (p4 ++ bitsNum true groups 16).length ≤ 144 := Nat.le_of_eq hl5.out
        generalize hp5 : p4 ++ bitsNum true groups 16 = p5 at *
        go_wp2_with fail
        refine HPut.out.mono ?_
        rintro e w6 ⟨a6, c6, rfl, hT6, _⟩
        clear HPut hT5
        have HPut := Lib.hid (tsput hT6 lo 32 (by omega) (by omega) (by omega) (by omega))
        have hl6 := Lib.hid (show (p5 ++ bitsNum true lo 32).length = 176 by rw [List.length_append, hl5.out, bitsNum_length])
        have hm6 : (p5 ++ bitsNum true lo 32).length ≤ 176 := Nat.le_of_eq hl6.out
        generalize hp6 : p5 ++ bitsNum true lo 32 = p6 at *
        go_wp2_with fail
        refine HPut.out.mono ?_
        rintro e w7 ⟨a7, c7, rfl, hT7, _⟩
        clear HPut hT6
        have HPut := Lib.hid (tsput hT7 wv 16 (by omega) (by omega) (by omega) (by omega))
        have hl7 := Lib.hid (show (p6 ++ bitsNum true wv 16).length = 192 by rw [List.length_append, hl6.out, bitsNum_length])
        have hm7 : (p6 ++ bitsNum true wv 16).length ≤ 192 := Nat.le_of_eq hl7.out
        generalize hp7 : p6 ++ bitsNum true wv 16 = hd at *
        go_wp2_with fail
        refine HPut.out.mono ?_
        rintro e w8 ⟨a8, c8, rfl, hT8, _⟩
        clear HPut hT7
        have HHd : Hid (hd = headB o a f ls.length groups (least ls) (width ls)) := Lib.hid (by rw [← hp7, ← hp6, ← hp5, HP4.out, HLo.out, HWv.out]; rfl)
        clear hp5 hp6 hp7 HP4 hl4 hl5 hl6
        go_wp2_with fail
        go_loopw [11, 12] (fun v i W => ∃ (k : Nat) (oa : Option Addr) (oc : Nat), k ≤ ls.length ∧ i = .int .i64 k ∧ v = .slice oa (hd ++ lensB (ls.take k) lo wv).length oc ∧ TS 73 w W [.int .i64 o, .int .i64 a, .int .i64 f, .slice la ls.length c] (hd ++ lensB (ls.take k) lo wv) oa oc) (fun _ i _ => ls.length - (intOf i).toNat)
        case atStart => exact ⟨0, a8, c8, Nat.zero_le _, rfl, by simp [lensB], by simpa [lensB] using hT8⟩
        case round =>
          obtain ⟨k, oa, oc, hk, rfl, rfl, hT⟩ := hrel
          clear hT8
          have hlk := lensB_len (ls.take k) lo wv
          have hlk2 : (hd ++ lensB (ls.take k) lo wv).length ≤ 200000 := by
            rw [List.length_append, hlk, hl7.out, List.length_take]
            have : min k ls.length * wv ≤ 4096 * 32 := Nat.mul_le_mul (by omega) hwl
            omega
          have d3 : wr.cell? ⟨w.heap.size, 0 + 3, none⟩ = some (.slice la ls.length c) := hT.cell 3
          obtain ⟨pq, hpq⟩ : ∃ p, p = hd ++ lensB (ls.take k) lo wv := ⟨_, rfl⟩
          rw [← hpq] at hlk2 hT ⊢
          have HLK := Lib.hid hlk2
          have HPQ := Lib.hid hpq
          clear hlk hlk2 hpq
          by_cases hlt : k < ls.length
          ·
            exact absurd hlt (by omega)
          · have hki : ¬ (k : Int) < (ls.length : Int) := by omega
            have hkl : k = ls.length := by omega
            rw [hkl, List.take_length] at HPQ
            have HFl0 := tsfull hT (by have := HLK.out; omega)
            have hp1 : align pq = part1 o a f ls groups := by rw [HPQ.out]; unfold part1; rw [HHd.out, HLo.out, HWv.out]
            have hp1l : (part1 o a f ls groups).length ≤ 200008 := by rw [← hp1, align_length]; have := HLK.out; omega
            rw [hp1] at HFl0
            have HFl := Lib.hid HFl0
            have HP2 : Hid (part2 o a f ls groups signed = align (part1 o a f ls groups ++ signB ls.length signed)) := Lib.hid rfl
            have HTb : Hid (tabB o a f ls groups signed = align (part2 o a f ls groups signed ++ List.replicate (128 * manyB ls.length signed) true ++ List.replicate (ls.length * groups) true)) := Lib.hid rfl
            clear HFl0 hp1 hkl hlt
            generalize part1 o a f ls groups = p1 at *
            go_wp2_with fail
            refine HFl.out.mono ?_
            rintro e w9 ⟨a9, c9, rfl, hT9, _⟩
            clear hT HFl HLK d3
            go_wp2_with fail
            go_loopw [11, 13, 14, 15] (fun v m i _ W => ∃ (k : Nat) (oa : Option Addr) (oc : Nat), k ≤ ls.length ∧ i = .int .i64 k ∧ m = .int .i64 (manyB k signed : Nat) ∧ v = .slice oa (p1 ++ signB k signed).length oc ∧ TS 73 w W [.int .i64 o, .int .i64 a, .int .i64 f, .slice la ls.length c] (p1 ++ signB k signed) oa oc) (fun _ _ i _ _ => ls.length - (intOf i).toNat)
            case atStart => exact ⟨0, a9, c9, Nat.zero_le _, rfl, rfl, by simp [signB], by simpa [signB] using hT9⟩
            case round =>
              obtain ⟨k, oa, oc, hk, rfl, rfl, rfl, hT⟩ := hrel
              clear hT9
              have d3 : wr.cell? ⟨w.heap.size, 0 + 3, none⟩ = some (.slice la ls.length c) := hT.cell 3
              have hsl2 := signB_len k signed
              have hpl : (p1 ++ signB k signed).length ≤ 300000 := by rw [List.length_append]; omega
              have hml := manyB_le k signed
              obtain ⟨m, hm⟩ : ∃ m, m = manyB k signed := ⟨_, rfl⟩
              obtain ⟨pq, hpq⟩ : ∃ p, p = p1 ++ signB k signed := ⟨_, rfl⟩
              rw [← hm] at hml ⊢
              rw [← hpq] at hpl hT ⊢
              have HM := Lib.hid hm
              have HPQ := Lib.hid hpq
              clear hm hpq hsl2
              by_cases hlt : k < ls.length
              ·
                exact absurd hlt (by omega)
              · have hki : ¬ (k : Int) < (ls.length : Int) := by omega
                have hkl : k = ls.length := by omega
                have HPQ' := HPQ.out
                rw [hkl] at HM HPQ'
                have HFl0 := tsfull hT (by omega)
                have hal : align pq = part2 o a f ls groups signed := by rw [HPQ', ← HP2.out]
                rw [hal] at HFl0
                have hp2l : (part2 o a f ls groups signed).length ≤ 300008 := by rw [HP2.out, ← HPQ', align_length]; omega
                have HFl := Lib.hid HFl0
                rw [← HM.out] at HTb
                clear HFl0 HPQ HPQ' HP2 hkl hlt hal
                generalize part2 o a f ls groups signed = p2 at *
                have hmm : m ≤ 4096 := by omega
                go_wp2_with fail
                refine HFl.out.mono ?_
                rintro e w9 ⟨a9, c9, rfl, hT9, _⟩
                clear hT HFl d3
                have hm128 : 128 * (m : Int) = ((128 * m : Nat) : Int) := by push_cast; rfl
                have hng : (ls.length : Int) * (groups : Int) = ((ls.length * groups : Nat) : Int) := by push_cast; rfl
                have hng2 : ls.length * groups ≤ 4096 * 32 := Nat.mul_le_mul b3 hg
                obtain ⟨M, hM⟩ : ∃ M, M = 128 * m := ⟨_, rfl⟩
                obtain ⟨G, hG⟩ : ∃ M, M = ls.length * groups := ⟨_, rfl⟩
                rw [← hM] at hm128
                rw [← hG] at hng hng2
                rw [← hM, ← hG] at HTb
                have hMl : M ≤ 128 * 4096 := by omega
                clear hM hG
                go_wp2_with fail
                go_loopw [11, 16] (fun v i W => ∃ (k : Nat) (oa : Option Addr) (oc : Nat), k ≤ M ∧ i = .int .i64 k ∧ v = .slice oa (p2 ++ List.replicate k true).length oc ∧ TS 73 w W [.int .i64 o, .int .i64 a, .int .i64 f, .slice la ls.length c] (p2 ++ List.replicate k true) oa oc) (fun _ i _ => M - (intOf i).toNat)
                case atStart => exact ⟨0, a9, c9, Nat.zero_le _, rfl, by simp, by simpa using hT9⟩
                case round =>
                  obtain ⟨k, oa, oc, hk, rfl, rfl, hT⟩ := hrel
                  clear hT9
                  have hpl : (p2 ++ List.replicate k true).length ≤ 1300000 := by rw [List.length_append, List.length_replicate]; omega
                  obtain ⟨pq, hpq⟩ : ∃ p, p = p2 ++ List.replicate k true := ⟨_, rfl⟩
                  rw [← hpq] at hpl hT ⊢
                  have hszW := hT.size
                  have HPQ := Lib.hid hpq
                  clear hpq
                  by_cases hlt : k < M
                  ·
                    exact absurd hlt (by omega)
                  · have hki : ¬ (k : Int) < (M : Int) := by omega
                    have hkl : k = M := by omega
                    rw [hkl] at HPQ
                    rw [← HPQ.out] at HTb
                    clear hkl hlt HPQ
                    have d3 : wr.cell? ⟨w.heap.size, 0 + 3, none⟩ = some (.slice la ls.length c) := hT.cell 3
                    go_wp2_with fail
                    go_loopw [11, 17] (fun v i W => ∃ (k : Nat) (oa : Option Addr) (oc : Nat), k ≤ G ∧ i = .int .i64 k ∧ v = .slice oa (pq ++ List.replicate k true).length oc ∧ TS 73 w W [.int .i64 o, .int .i64 a, .int .i64 f, .slice la ls.length c] (pq ++ List.replicate k true) oa oc) (fun _ i _ => G - (intOf i).toNat)
                    case atStart => exact ⟨0, oa, oc, Nat.zero_le _, rfl, by simp, by simpa using hT⟩
                    case round =>
                      obtain ⟨k, oa, oc, hk, rfl, rfl, hT⟩ := hrel
                      have hpl2 : (pq ++ List.replicate k true).length ≤ 2300000 := by rw [List.length_append, List.length_replicate]; omega
                      obtain ⟨pr, hpr⟩ : ∃ p, p = pq ++ List.replicate k true := ⟨_, rfl⟩
                      rw [← hpr] at hpl2 hT ⊢
                      have hszW := hT.size
                      have HPR := Lib.hid hpr
                      have d3 : wr.cell? ⟨w.heap.size, 0 + 3, none⟩ = some (.slice la ls.length c) := hT.cell 3
                      clear hpr
                      by_cases hlt : k < G
                      · have hki : (k : Int) < (G : Int) := by omega
                        have HSS : Hid (pq ++ List.replicate (k + 1) true = pr ++ [true]) := Lib.hid (by rw [List.replicate_succ', HPR.out, List.append_assoc])
                        go_wp2_with (at_builtin; refine wpList_append_fresh rfl (.tmp 139) (.tmp 140) 142 rfl (w.heap.size + 1) 4 (.bool false) 1 1 Tryz.underlying142 infoBool rfl (by decide) _ pr.length (pr.map Value.bool) rfl (hT.own.alloc _) (some ⟨wr.heap.size, 0, none⟩) 1 1 [.bool true] rfl (fun e => by cases e) rfl (row_at _ rfl rfl) (fun u hu => by simp at hu; subst hu; rfl) (pr.length + 1) rfl (pr.map Value.bool ++ [.bool true]) rfl (by omega) (by unfold maxLen; omega) (by simp; omega) ?_)
                        intro a2 c2 w10 hO hg hfr
                        have hT10 : TS 73 w w10 [.int .i64 o, .int .i64 a, .int .i64 f, .slice la ls.length c] (pr ++ [true]) a2 c2 := TS.appended hT (by rw [List.length_append, List.length_singleton, List.map_append]; exact hO) hg
                        clear hT hO hg hfr d3
                        go_wp2_with fail
                        go_roundw
                        case rel => exact ⟨k + 1, a2, c2, by omega, by go_num, by rw [HSS.out, List.length_append]; try rfl, by rw [HSS.out]; exact hT10⟩
                        case measure => simp [intOf]; omega
                      · have hki : ¬ (k : Int) < (G : Int) := by omega
                        have hkl : k = G := by omega
                        rw [hkl] at HPR
                        rw [← HPR.out] at HTb
                        clear hkl hlt HPR
                        have HFl0 := tsfull hT (by omega)
                        rw [← HTb.out] at HFl0
                        have htl : (tabB o a f ls groups signed).length ≤ 2300008 := by rw [HTb.out, align_length]; omega
                        have HFl := Lib.hid HFl0
                        clear HFl0 HTb
                        generalize hTB : tabB o a f ls groups signed = tb at *
                        have HTB := Lib.hid hTB
                        clear hTB
                        go_wp2_with fail
                        refine HFl.out.mono ?_
                        rintro e w9 ⟨a9, c9, rfl, hT9, _⟩
                        clear hT HFl d3
                        have HBy := Lib.hid (refbytes_any true a9 c9 tb w9 hT9.row (by omega))
                        go_wp2_with fail
                        refine HBy.out.mono ?_
                        rintro e w10 ⟨ra, rc, rfl, hO10, hE10⟩
                        have hsz9 := hT9.size
                        go_wp2_with fail
                        go_ret
                        rw [HTB.out]
                        exact ⟨ra, rc, rfl, own_base hO10 (by omega), hT9.pure.pure hE10⟩
  · have hn0 : (0 : Int) < (ls.length : Int) := by have := List.length_pos_iff.2 hne; omega
    have hn1 : 0 < ls.length := List.length_pos_iff.2 hne
    obtain ⟨lb, lof, rfl, h0⟩ := (hr.ext hP1 (fun _ _ => id)) 0 (intV (ls.headD 0)) (by cases ls with
      | nil => exact absurd rfl hne
      | cons x xs => rfl)
    rw [Nat.add_zero] at h0
    unfold intV at h0
    obtain ⟨x0, hx0⟩ : ∃ x, x = ls.headD 0 := ⟨_, rfl⟩
    rw [← hx0] at h0
    have HX0 := Lib.hid hx0
    clear hne hx0
    go_enter Tryz.func76, Tryz.ntmps76
    go_wp2_with fail
    rw [← HW1.out]
    go_wp2_with fail
    go_quiet (fail)
    have hB2 := hB1.drewN nq
    go_wp2_with fail
    clear h0
    have hlenB : BlockIs (w1.drewN nq) w.heap.size [.int .i64 o, .int .i64 a, .int .i64 f, .slice (some ⟨lb, lof, none⟩) ls.length c] 73 := hB2
    go_loopw [7, 8, 9] (fun l m i W => ∃ (k q : Nat), k ≤ ls.length ∧ i = .int .i64 k ∧ l = .int .i64 ((ls.take k).foldl min (ls.headD 0) : Nat) ∧ m = .int .i64 ((ls.take k).foldl max (ls.headD 0) : Nat) ∧ W = w1.drewN q) (fun _ _ i _ => ls.length - (intOf i).toNat)
    case atStart => exact ⟨0, nq, Nat.zero_le _, rfl, (by rw [← HX0.out]; rfl), (by rw [← HX0.out]; rfl), rfl⟩
    case round =>
      obtain ⟨k, q, hk, rfl, rfl, rfl, hwq⟩ := hrel
      have hBr : BlockIs wr w.heap.size [.int .i64 o, .int .i64 a, .int .i64 f, .slice (some ⟨lb, lof, none⟩) ls.length c] 73 := hwq ▸ hB1.drewN q
      have hPr : Pure w wr := hwq ▸ hP1.drewN q
      have hd3 : wr.cell? ⟨w.heap.size, 0 + 3, none⟩ = some (.slice (some ⟨lb, lof, none⟩) ls.length c) := hBr.cell 3
      obtain ⟨lo, hlo⟩ : ∃ l, l = (ls.take k).foldl min (ls.headD 0) := ⟨_, rfl⟩
      obtain ⟨hi, hhi⟩ : ∃ l, l = (ls.take k).foldl max (ls.headD 0) := ⟨_, rfl⟩
      rw [← hlo, ← hhi]
      clear hlenB
      by_cases hlt : k < ls.length
      ·
        have hki : (k : Int) < (ls.length : Int) := by omega
        have hk0 : (0 : Int) ≤ (k : Int) := by omega
        obtain ⟨_, _, hh, h0⟩ := (hr.ext hPr (fun _ _ => id)) k (intV ls[k]) (by simp [hlt])
        cases hh
        unfold intV at h0
        have hs1 : (ls.take (k + 1)).foldl min (ls.headD 0) = min lo ls[k] := by rw [List.take_add_one, List.getElem?_eq_getElem hlt, List.foldl_append, ← hlo]; rfl
        have hs2 : (ls.take (k + 1)).foldl max (ls.headD 0) = max hi ls[k] := by rw [List.take_add_one, List.getElem?_eq_getElem hlt, List.foldl_append, ← hhi]; rfl
        have HS1 := Lib.hid hs1
        have HS2 := Lib.hid hs2
        have HQ := Lib.hid hwq
        clear hs1 hs2 hlo hhi hwq
        generalize ls[k] = x at *
        go_wp2_with fail
        go_quiet (fail)
        go_wp2_with fail
        go_roundw
        case rel => exact ⟨k + 1, q + nq, by omega, by go_num, by rw [HS1.out]; congr 1; first | omega | (split <;> omega), by rw [HS2.out]; congr 1; first | omega | (split <;> omega), by rw [HQ.out]; exact drewN_two w1 q nq⟩
        case measure => simp [intOf]; omega
      · have hki : ¬ (k : Int) < (ls.length : Int) := by omega
        have hkl : k = ls.length := by omega
        rw [hkl, List.take_length] at hlo hhi
        have hlo' : lo = least ls := hlo.trans (fold_least ls)
        have hhi' : hi = most ls := hhi.trans (fold_most ls)
        clear hlo hhi hkl hwq hB1 hP1 hB2 hlt
        have hLM : lo ≤ hi := by
          rw [hlo', hhi']
          cases ls with
          | nil => exact Nat.le_refl _
          | cons x xs => exact Nat.le_trans (least_le (y := x) (by simp)) (le_most (by simp))
        obtain ⟨dv, hdv⟩ : ∃ d, d = hi - lo := ⟨_, rfl⟩
        have hdi : (hi : Int) - (lo : Int) = (dv : Int) := by omega
        have hhl : hi < 4294967296 := by rw [hhi']; exact hmost
        have hll : lo < 4294967296 := by rw [hlo']; exact hleast
        have hdl : dv < 4294967296 := by omega
        have hud : IntKind.u32.wrap (dv : Int) = (dv : Int) := IntWalk.u32_in _ (by omega)
        obtain ⟨wv, hwv⟩ : ∃ l, l = width ls := ⟨_, rfl⟩
        have hwd : wid dv = wv := by rw [hwv, hdv, hlo', hhi']; rfl
        have hwl : wv ≤ 32 := by rw [hwv]; exact hwidth
        have HWi := Lib.hid (fun w => hwd ▸ refwidth_any dv w hdl)
        have HLo := Lib.hid hlo'
        have HWv := Lib.hid hwv
        clear hwv hwd hdv hlo' hhi'
        go_wp2_with fail
        refine (HWi.out _).mono ?_
        rintro e w3 ⟨rfl, hw3⟩
        obtain rfl := hw3.symm
        clear HWi hdi hud hd3
        have hTS := TS.start hBr.drew hPr.drew
        have hno : ¬ (w.heap.size < w.heap.size) := Nat.lt_irrefl _
        have cl0 := fun w' (hS : Ext (fun i => w.heap.size < i) wr.drew w') => (hS.cell_some (hBr.drew.cell 0) hno : w'.cell? ⟨w.heap.size, 0, none⟩ = some (.int .i64 o))
        have cl1 := fun w' (hS : Ext (fun i => w.heap.size < i) wr.drew w') => (hS.cell_some (hBr.drew.cell 1) hno : w'.cell? ⟨w.heap.size, 0 + 1, none⟩ = some (.int .i64 a))
        have cl2 := fun w' (hS : Ext (fun i => w.heap.size < i) wr.drew w') => (hS.cell_some (hBr.drew.cell 2) hno : w'.cell? ⟨w.heap.size, 0 + 2, none⟩ = some (.int .i64 f))
        have cl3 := fun w' (hS : Ext (fun i => w.heap.size < i) wr.drew w') => (hS.cell_some (hBr.drew.cell 3) hno : w'.cell? ⟨w.heap.size, 0 + 3, none⟩ = some (.slice (some ⟨lb, lof, none⟩) ls.length c))
        have HPut1 := Lib.hid (tsput hTS o 32 (by simp) (by omega) (by omega) (by omega))
        rw [List.nil_append, List.length_nil] at HPut1
        have hl1 := Lib.hid (bitsNum_length true o 32)
        have hm1 : (bitsNum true o 32).length ≤ 32 := Nat.le_of_eq hl1.out
        generalize hp1 : bitsNum true o 32 = p1 at *
        clear hBr hPr
        go_wp2_with fail
        refine region_start (fun i => w.heap.size < i) (by kernel_rfl) ?_
        try simp only [Act.put, List.setIfInBounds_toArray, List.set_cons_zero, List.set_cons_succ]
        refine region_take 0 56 (v := ?vu0) rfl rfl (by kernel_rfl) (by kernel_rfl) (by kernel_rfl) (fun _ _ _ h => h) (by rfl) (fun w' hS => ?hu0) ?ru0
        case hu0 => go_simp; with_reducible rfl
        try simp only [Act.put, List.setIfInBounds_toArray, List.set_cons_zero, List.set_cons_succ]
        refine region_take 1 57 (v := ?vu1) rfl rfl (by kernel_rfl) (by kernel_rfl) (by kernel_rfl) (fun _ _ _ h => h) (by rfl) (fun w' hS => ?hu1) ?ru1
        case hu1 => go_simp; with_reducible rfl
        try simp only [Act.put, List.setIfInBounds_toArray, List.set_cons_zero, List.set_cons_succ]
        refine region_take 3 59 (v := ?vu3) rfl rfl (by kernel_rfl) (by kernel_rfl) (by kernel_rfl) (fun _ _ _ h => h) (by rfl) (fun w' hS => ?hu3) ?ru3
        case hu3 => go_simp; with_reducible rfl
        try simp only [Act.put, List.setIfInBounds_toArray, List.set_cons_zero, List.set_cons_succ]
        refine region_take 4 60 (v := ?vu4) rfl rfl (by kernel_rfl) (by kernel_rfl) (by kernel_rfl) (fun _ _ _ h => h) (by rfl) (fun w' hS => ?hu4) ?ru4
        case hu4 => go_simp; with_reducible rfl
        try simp only [Act.put, List.setIfInBounds_toArray, List.set_cons_zero, List.set_cons_succ]
        refine region_take 6 62 (v := ?vu6) rfl rfl (by kernel_rfl) (by kernel_rfl) (by kernel_rfl) (fun _ _ _ h => h) (by rfl) (fun w' hS => ?hu6) ?ru6
        case hu6 => go_simp; with_reducible rfl
        try simp only [Act.put, List.setIfInBounds_toArray, List.set_cons_zero, List.set_cons_succ]
        refine region_take 7 63 (v := ?vu7) rfl rfl (by kernel_rfl) (by kernel_rfl) (by kernel_rfl) (fun _ _ _ h => h) (by rfl) (fun w' hS => ?hu7) ?ru7
        case hu7 => go_simp; with_reducible rfl
        try simp only [Act.put, List.setIfInBounds_toArray, List.set_cons_zero, List.set_cons_succ]
        refine region_take 9 65 (v := ?vu9) rfl rfl (by kernel_rfl) (by kernel_rfl) (by kernel_rfl) (fun _ _ _ h => h) (by rfl) (fun w' hS => ?hu9) ?ru9
        case hu9 => go_simp; with_reducible rfl
        try simp only [Act.put, List.setIfInBounds_toArray, List.set_cons_zero, List.set_cons_succ]
        refine region_take 10 66 (v := ?vu10) rfl rfl (by kernel_rfl) (by kernel_rfl) (by kernel_rfl) (fun _ _ _ h => h) (by rfl) (fun w' hS => ?hu10) ?ru10
        case hu10 => go_simp; with_reducible rfl
        try simp only [Act.put, List.setIfInBounds_toArray, List.set_cons_zero, List.set_cons_succ]
        refine region_take 11 67 (v := ?vu11) rfl rfl (by kernel_rfl) (by kernel_rfl) (by kernel_rfl) (fun _ _ _ h => h) (by rfl) (fun w' hS => ?hu11) ?ru11
        case hu11 => go_simp; with_reducible rfl
        try simp only [Act.put, List.setIfInBounds_toArray, List.set_cons_zero, List.set_cons_succ]
        refine wpAnyH_ready (rs := [2]) (by kernel_rfl) (by simp) (AllReadyH.cons rfl (fun K hK => ?_) AllReadyH.nil)
        go_simp
        refine HPut1.out.mono ?_
        rintro e w2 ⟨a2, c2, rfl, hT2, hE2⟩
        refine hK.out _ _ (hE2) (fun hHeld => ?_)
        clear hK K hHeld
        refine region_now (hE2) ?_
        try simp only [Act.put, List.setIfInBounds_toArray, List.set_cons_zero, List.set_cons_succ]
        clear cl0 cl1 cl2 cl3
        have HPut2 := Lib.hid (tsput hT2 a 32 (by omega) (by omega) (by omega) (by omega))
        have hl2 := Lib.hid (show (p1 ++ bitsNum true a 32).length = 64 by rw [List.length_append, hl1.out, bitsNum_length])
        have hm2 : (p1 ++ bitsNum true a 32).length ≤ 64 := Nat.le_of_eq hl2.out
        generalize hp2 : p1 ++ bitsNum true a 32 = p2 at *
        refine wpAnyH_ready (rs := [5]) (by kernel_rfl) (by simp) (AllReadyH.cons rfl (fun K hK => ?_) AllReadyH.nil)
        go_simp
        refine HPut2.out.mono ?_
        rintro e w3 ⟨a3, c3, rfl, hT3, hE3⟩
        refine hK.out _ _ (hE3) (fun hHeld => ?_)
        clear hK K hHeld
        refine region_now (hE3) ?_
        try simp only [Act.put, List.setIfInBounds_toArray, List.set_cons_zero, List.set_cons_succ]
        have HPut3 := Lib.hid (tsput hT3 f 32 (by omega) (by omega) (by omega) (by omega))
        have hl3 := Lib.hid (show (p2 ++ bitsNum true f 32).length = 96 by rw [List.length_append, hl2.out, bitsNum_length])
        have hm3 : (p2 ++ bitsNum true f 32).length ≤ 96 := Nat.le_of_eq hl3.out
        generalize hp3 : p2 ++ bitsNum true f 32 = p3 at *
        refine wpAnyH_ready (rs := [8]) (by kernel_rfl) (by simp) (AllReadyH.cons rfl (fun K hK => ?_) AllReadyH.nil)
        go_simp
        refine HPut3.out.mono ?_
        rintro e w4 ⟨a4, c4, rfl, hT4, hE4⟩
        refine hK.out _ _ (hE4) (fun hHeld => ?_)
        clear hK K hHeld
        refine region_now (hE4) ?_
        try simp only [Act.put, List.setIfInBounds_toArray, List.set_cons_zero, List.set_cons_succ]
        have HPut4 := Lib.hid (tsput hT4 ls.length 32 (by omega) (by omega) (by omega) (by omega))
        have hl4 := Lib.hid (show (p3 ++ bitsNum true ls.length 32).length = 128 by rw [List.length_append, hl3.out, bitsNum_length])
        have hm4 : (p3 ++ bitsNum true ls.length 32).length ≤ 128 := Nat.le_of_eq hl4.out
        generalize hp4 : p3 ++ bitsNum true ls.length 32 = p4 at *
        refine wpAnyH_ready (rs := [12]) (by kernel_rfl) (by simp) (AllReadyH.cons rfl (fun K hK => ?_) AllReadyH.nil)
        go_simp
        refine HPut4.out.mono ?_
        rintro e w5 ⟨a5, c5, rfl, hT5, hE5⟩
        refine hK.out _ _ (hE5) (fun hHeld => ?_)
        clear hK K hHeld
        refine region_now (hE5) ?_
        try simp only [Act.put, List.setIfInBounds_toArray, List.set_cons_zero, List.set_cons_succ]
        refine region_take 13 11 (v := ?vu13) rfl rfl (by kernel_rfl) (by kernel_rfl) (by kernel_rfl) (fun _ _ _ h => h) (by rfl) (fun w' hS => ?hu13) ?ru13
        case hu13 => go_simp; with_reducible rfl
        try simp only [Act.put, List.setIfInBounds_toArray, List.set_cons_zero, List.set_cons_succ]
        refine wpAnyH_done (by kernel_rfl) ?_ _
        have HP4 : Hid (p4 = bN o 32 ++ bN a 32 ++ bN f 32 ++ bN ls.length 32) := Lib.hid (by rw [← hp4, ← hp3, ← hp2, ← hp1]; rfl)
        clear hp1 hp2 hp3 hp4 hl1 hl2 hl3 hTS hT2 hT3 hT4 hE2 hE3 hE4 hE5 HPut1 HPut2 HPut3 HPut4
        have HPut := Lib.hid (tsput hT5 groups 16 (by omega) (by omega) (by omega) (by omega))
        have hl5 := Lib.hid (show (p4 ++ bitsNum true groups 16).length = 144 by rw [List.length_append, hl4.out, bitsNum_length])
        have hm5 : (p4 ++ bitsNum true groups 16).length ≤ 144 := Nat.le_of_eq hl5.out
        generalize hp5 : p4 ++ bitsNum true groups 16 = p5 at *
        go_wp2_with fail
        refine HPut.out.mono ?_
        rintro e w6 ⟨a6, c6, rfl, hT6, _⟩
        clear HPut hT5
        have HPut := Lib.hid (tsput hT6 lo 32 (by omega) (by omega) (by omega) (by omega))
        have hl6 := Lib.hid (show (p5 ++ bitsNum true lo 32).length = 176 by rw [List.length_append, hl5.out, bitsNum_length])
        have hm6 : (p5 ++ bitsNum true lo 32).length ≤ 176 := Nat.le_of_eq hl6.out
        generalize hp6 : p5 ++ bitsNum true lo 32 = p6 at *
        go_wp2_with fail
        refine HPut.out.mono ?_
        rintro e w7 ⟨a7, c7, rfl, hT7, _⟩
        clear HPut hT6
        have HPut := Lib.hid (tsput hT7 wv 16 (by omega) (by omega) (by omega) (by omega))
        have hl7 := Lib.hid (show (p6 ++ bitsNum true wv 16).length = 192 by rw [List.length_append, hl6.out, bitsNum_length])
        have hm7 : (p6 ++ bitsNum true wv 16).length ≤ 192 := Nat.le_of_eq hl7.out
        generalize hp7 : p6 ++ bitsNum true wv 16 = hd at *
        go_wp2_with fail
        refine HPut.out.mono ?_
        rintro e w8 ⟨a8, c8, rfl, hT8, _⟩
        clear HPut hT7
        have HHd : Hid (hd = headB o a f ls.length groups (least ls) (width ls)) := Lib.hid (by rw [← hp7, ← hp6, ← hp5, HP4.out, HLo.out, HWv.out]; rfl)
        clear hp5 hp6 hp7 HP4 hl4 hl5 hl6
        go_wp2_with fail
        go_loopw [11, 12] (fun v i W => ∃ (k : Nat) (oa : Option Addr) (oc : Nat), k ≤ ls.length ∧ i = .int .i64 k ∧ v = .slice oa (hd ++ lensB (ls.take k) lo wv).length oc ∧ TS 73 w W [.int .i64 o, .int .i64 a, .int .i64 f, .slice (some ⟨lb, lof, none⟩) ls.length c] (hd ++ lensB (ls.take k) lo wv) oa oc) (fun _ i _ => ls.length - (intOf i).toNat)
        case atStart => exact ⟨0, a8, c8, Nat.zero_le _, rfl, by simp [lensB], by simpa [lensB] using hT8⟩
        case round =>
          obtain ⟨k, oa, oc, hk, rfl, rfl, hT⟩ := hrel
          clear hT8
          have hlk := lensB_len (ls.take k) lo wv
          have hlk2 : (hd ++ lensB (ls.take k) lo wv).length ≤ 200000 := by
            rw [List.length_append, hlk, hl7.out, List.length_take]
            have : min k ls.length * wv ≤ 4096 * 32 := Nat.mul_le_mul (by omega) hwl
            omega
          have d3 : wr.cell? ⟨w.heap.size, 0 + 3, none⟩ = some (.slice (some ⟨lb, lof, none⟩) ls.length c) := hT.cell 3
          obtain ⟨pq, hpq⟩ : ∃ p, p = hd ++ lensB (ls.take k) lo wv := ⟨_, rfl⟩
          rw [← hpq] at hlk2 hT ⊢
          have HLK := Lib.hid hlk2
          have HPQ := Lib.hid hpq
          clear hlk hlk2 hpq
          by_cases hlt : k < ls.length
          ·
            have hki : (k : Int) < (ls.length : Int) := by omega
            have hk0 : (0 : Int) ≤ (k : Int) := by omega
            obtain ⟨_, _, hh, h0⟩ := (hr.ext hT.pure (fun _ _ => id)) k (intV ls[k]) (by simp [hlt])
            cases hh
            unfold intV at h0
            have hge := least_le (List.getElem_mem hlt)
            have hab := above_lt (List.getElem_mem hlt)
            rw [← HLo.out] at hge hab
            rw [← HWv.out] at hab
            obtain ⟨x1, x2⟩ := B5.out ls[k] (List.getElem_mem _)
            have hsc := lensB_snoc (ls.take k) ls[k] lo wv
            rw [show ls.take k ++ [ls[k]] = ls.take (k + 1) from by rw [List.take_add_one, List.getElem?_eq_getElem hlt]; rfl] at hsc
            obtain ⟨d, hd'⟩ : ∃ d, d = ls[k] - lo := ⟨_, rfl⟩
            have hdi : ((ls[k] : Nat) : Int) - (lo : Int) = (d : Int) := by omega
            rw [← hd'] at hab hsc
            have hdl : d < 4294967296 := by omega
            have HPut0 := tsput hT d wv (by have := HLK.out; omega) hwl hdl hab
            have HS : Hid (pq ++ bitsNum true d wv = hd ++ lensB (ls.take (k + 1)) lo wv) := Lib.hid (by rw [HPQ.out, List.append_assoc, hsc]; rfl)
            obtain ⟨pn, hpn⟩ : ∃ p, p = pq ++ bitsNum true d wv := ⟨_, rfl⟩
            rw [← hpn] at HPut0 HS
            have HPut := Lib.hid HPut0
            clear HPut0 hsc hd' hge hab hpn
            generalize ls[k] = x at *
            go_wp2_with fail
            refine HPut.out.mono ?_
            rintro e w9 ⟨a9, c9, rfl, hT9, _⟩
            clear hT h0 HPut d3 HLK
            go_wp2_with fail
            go_roundw
            case rel => exact ⟨k + 1, a9, c9, by omega, by go_num, by rw [← HS.out], by rw [← HS.out]; exact hT9⟩
            case measure => simp [intOf]; omega
          · have hki : ¬ (k : Int) < (ls.length : Int) := by omega
            have hkl : k = ls.length := by omega
            rw [hkl, List.take_length] at HPQ
            have HFl0 := tsfull hT (by have := HLK.out; omega)
            have hp1 : align pq = part1 o a f ls groups := by rw [HPQ.out]; unfold part1; rw [HHd.out, HLo.out, HWv.out]
            have hp1l : (part1 o a f ls groups).length ≤ 200008 := by rw [← hp1, align_length]; have := HLK.out; omega
            rw [hp1] at HFl0
            have HFl := Lib.hid HFl0
            have HP2 : Hid (part2 o a f ls groups signed = align (part1 o a f ls groups ++ signB ls.length signed)) := Lib.hid rfl
            have HTb : Hid (tabB o a f ls groups signed = align (part2 o a f ls groups signed ++ List.replicate (128 * manyB ls.length signed) true ++ List.replicate (ls.length * groups) true)) := Lib.hid rfl
            clear HFl0 hp1 hkl hlt
            generalize part1 o a f ls groups = p1 at *
            go_wp2_with fail
            refine HFl.out.mono ?_
            rintro e w9 ⟨a9, c9, rfl, hT9, _⟩
            clear hT HFl HLK d3
            go_wp2_with fail
            go_loopw [11, 13, 14, 15] (fun v m i _ W => ∃ (k : Nat) (oa : Option Addr) (oc : Nat), k ≤ ls.length ∧ i = .int .i64 k ∧ m = .int .i64 (manyB k signed : Nat) ∧ v = .slice oa (p1 ++ signB k signed).length oc ∧ TS 73 w W [.int .i64 o, .int .i64 a, .int .i64 f, .slice (some ⟨lb, lof, none⟩) ls.length c] (p1 ++ signB k signed) oa oc) (fun _ _ i _ _ => ls.length - (intOf i).toNat)
            case atStart => exact ⟨0, a9, c9, Nat.zero_le _, rfl, rfl, by simp [signB], by simpa [signB] using hT9⟩
            case round =>
              obtain ⟨k, oa, oc, hk, rfl, rfl, rfl, hT⟩ := hrel
              clear hT9
              have d3 : wr.cell? ⟨w.heap.size, 0 + 3, none⟩ = some (.slice (some ⟨lb, lof, none⟩) ls.length c) := hT.cell 3
              have hsl2 := signB_len k signed
              have hpl : (p1 ++ signB k signed).length ≤ 300000 := by rw [List.length_append]; omega
              have hml := manyB_le k signed
              obtain ⟨m, hm⟩ : ∃ m, m = manyB k signed := ⟨_, rfl⟩
              obtain ⟨pq, hpq⟩ : ∃ p, p = p1 ++ signB k signed := ⟨_, rfl⟩
              rw [← hm] at hml ⊢
              rw [← hpq] at hpl hT ⊢
              have HM := Lib.hid hm
              have HPQ := Lib.hid hpq
              clear hm hpq hsl2
              by_cases hlt : k < ls.length
              ·
                have hki : (k : Int) < (ls.length : Int) := by omega
                have hk0 : (0 : Int) ≤ (k : Int) := by omega
                have hms := manyB_succ k signed
                have hss : p1 ++ signB (k + 1) signed = pq ++ [signed.getD k false] := by rw [signB_succ, HPQ.out, List.append_assoc]
                rw [← HM.out] at hms
                have hszW := hT.size
                by_cases hks : k < signed.length
                · have hksi : (k : Int) < (signed.length : Int) := by omega
                  obtain ⟨sb, sof, rfl, h0⟩ := (hs.ext hT.pure (fun _ _ => id)) k (.bool signed[k]) (by simp [hks])
                  have hgd : signed.getD k false = signed[k] := by rw [List.getD_eq_getElem?_getD, List.getElem?_eq_getElem hks]; rfl
                  rw [hgd] at hms hss
                  cases hv : signed[k] with
                  | true =>
                    rw [hv] at h0 hms hss
                    simp only [if_true] at hms
                    have HMS := Lib.hid hms
                    have HSS := Lib.hid hss
                    clear hms hss hv hgd
                    go_wp2_with (at_builtin; refine wpList_append_fresh rfl (.tmp 112) (.tmp 114) 142 rfl (w.heap.size + 1) 4 (.bool false) 1 1 Tryz.underlying142 infoBool rfl (by decide) _ pq.length (pq.map Value.bool) rfl (hT.own.alloc _) (some ⟨wr.heap.size, 0, none⟩) 1 1 [.bool true] rfl (fun e => by cases e) rfl (row_at _ rfl rfl) (fun u hu => by simp at hu; subst hu; rfl) (pq.length + 1) rfl (pq.map Value.bool ++ [.bool true]) rfl (by omega) (by unfold maxLen; omega) (by simp; omega) ?_)
                    intro a2 c2 w10 hO hg hfr
                    have hT10 : TS 73 w w10 [.int .i64 o, .int .i64 a, .int .i64 f, .slice (some ⟨lb, lof, none⟩) ls.length c] (pq ++ [true]) a2 c2 := TS.appended hT (by rw [List.length_append, List.length_singleton, List.map_append]; exact hO) hg
                    clear hT hO hg hfr d3
                    go_wp2_with fail
                    go_roundw
                    case rel => exact ⟨k + 1, a2, c2, by omega, by go_num, by rw [HMS.out]; try go_num, by rw [HSS.out, List.length_append]; try rfl, by rw [HSS.out]; exact hT10⟩
                    case measure => simp [intOf]; omega
                  | false =>
                    rw [hv] at h0 hms hss
                    simp only [Bool.false_eq_true, if_false, Nat.add_zero] at hms
                    have HMS := Lib.hid hms
                    have HSS := Lib.hid hss
                    clear hms hss hv hgd
                    go_wp2_with (at_builtin; refine wpList_append_fresh rfl (.tmp 112) (.tmp 114) 142 rfl (w.heap.size + 1) 4 (.bool false) 1 1 Tryz.underlying142 infoBool rfl (by decide) _ pq.length (pq.map Value.bool) rfl (hT.own.alloc _) (some ⟨wr.heap.size, 0, none⟩) 1 1 [.bool false] rfl (fun e => by cases e) rfl (row_at _ rfl rfl) (fun u hu => by simp at hu; subst hu; rfl) (pq.length + 1) rfl (pq.map Value.bool ++ [.bool false]) rfl (by omega) (by unfold maxLen; omega) (by simp; omega) ?_)
                    intro a2 c2 w10 hO hg hfr
                    have hT10 : TS 73 w w10 [.int .i64 o, .int .i64 a, .int .i64 f, .slice (some ⟨lb, lof, none⟩) ls.length c] (pq ++ [false]) a2 c2 := TS.appended hT (by rw [List.length_append, List.length_singleton, List.map_append]; exact hO) hg
                    clear hT hO hg hfr d3
                    go_wp2_with fail
                    go_roundw
                    case rel => exact ⟨k + 1, a2, c2, by omega, by go_num, by rw [HMS.out]; try go_num, by rw [HSS.out, List.length_append]; try rfl, by rw [HSS.out]; exact hT10⟩
                    case measure => simp [intOf]; omega
                · have hksi : ¬ (k : Int) < (signed.length : Int) := by omega
                  have hgd : signed.getD k false = false := by rw [List.getD_eq_getElem?_getD, List.getElem?_eq_none (by omega)]; rfl
                  rw [hgd] at hms hss
                  simp only [Bool.false_eq_true, if_false, Nat.add_zero] at hms
                  have HMS := Lib.hid hms
                  have HSS := Lib.hid hss
                  clear hms hss hgd
                  go_wp2_with (at_builtin; refine wpList_append_fresh rfl (.tmp 112) (.tmp 114) 142 rfl (w.heap.size + 1) 4 (.bool false) 1 1 Tryz.underlying142 infoBool rfl (by decide) _ pq.length (pq.map Value.bool) rfl (hT.own.alloc _) (some ⟨wr.heap.size, 0, none⟩) 1 1 [.bool false] rfl (fun e => by cases e) rfl (row_at _ rfl rfl) (fun u hu => by simp at hu; subst hu; rfl) (pq.length + 1) rfl (pq.map Value.bool ++ [.bool false]) rfl (by omega) (by unfold maxLen; omega) (by simp; omega) ?_)
                  intro a2 c2 w10 hO hg hfr
                  have hT10 : TS 73 w w10 [.int .i64 o, .int .i64 a, .int .i64 f, .slice (some ⟨lb, lof, none⟩) ls.length c] (pq ++ [false]) a2 c2 := TS.appended hT (by rw [List.length_append, List.length_singleton, List.map_append]; exact hO) hg
                  clear hT hO hg hfr d3
                  go_wp2_with fail
                  go_roundw
                  case rel => exact ⟨k + 1, a2, c2, by omega, by go_num, by rw [HMS.out]; try go_num, by rw [HSS.out, List.length_append]; try rfl, by rw [HSS.out]; exact hT10⟩
                  case measure => simp [intOf]; omega
              · have hki : ¬ (k : Int) < (ls.length : Int) := by omega
                have hkl : k = ls.length := by omega
                have HPQ' := HPQ.out
                rw [hkl] at HM HPQ'
                have HFl0 := tsfull hT (by omega)
                have hal : align pq = part2 o a f ls groups signed := by rw [HPQ', ← HP2.out]
                rw [hal] at HFl0
                have hp2l : (part2 o a f ls groups signed).length ≤ 300008 := by rw [HP2.out, ← HPQ', align_length]; omega
                have HFl := Lib.hid HFl0
                rw [← HM.out] at HTb
                clear HFl0 HPQ HPQ' HP2 hkl hlt hal
                generalize part2 o a f ls groups signed = p2 at *
                have hmm : m ≤ 4096 := by omega
                go_wp2_with fail
                refine HFl.out.mono ?_
                rintro e w9 ⟨a9, c9, rfl, hT9, _⟩
                clear hT HFl d3
                have hm128 : 128 * (m : Int) = ((128 * m : Nat) : Int) := by push_cast; rfl
                have hng : (ls.length : Int) * (groups : Int) = ((ls.length * groups : Nat) : Int) := by push_cast; rfl
                have hng2 : ls.length * groups ≤ 4096 * 32 := Nat.mul_le_mul b3 hg
                obtain ⟨M, hM⟩ : ∃ M, M = 128 * m := ⟨_, rfl⟩
                obtain ⟨G, hG⟩ : ∃ M, M = ls.length * groups := ⟨_, rfl⟩
                rw [← hM] at hm128
                rw [← hG] at hng hng2
                rw [← hM, ← hG] at HTb
                have hMl : M ≤ 128 * 4096 := by omega
                clear hM hG
                go_wp2_with fail
                go_loopw [11, 16] (fun v i W => ∃ (k : Nat) (oa : Option Addr) (oc : Nat), k ≤ M ∧ i = .int .i64 k ∧ v = .slice oa (p2 ++ List.replicate k true).length oc ∧ TS 73 w W [.int .i64 o, .int .i64 a, .int .i64 f, .slice (some ⟨lb, lof, none⟩) ls.length c] (p2 ++ List.replicate k true) oa oc) (fun _ i _ => M - (intOf i).toNat)
                case atStart => exact ⟨0, a9, c9, Nat.zero_le _, rfl, by simp, by simpa using hT9⟩
                case round =>
                  obtain ⟨k, oa, oc, hk, rfl, rfl, hT⟩ := hrel
                  clear hT9
                  have hpl : (p2 ++ List.replicate k true).length ≤ 1300000 := by rw [List.length_append, List.length_replicate]; omega
                  obtain ⟨pq, hpq⟩ : ∃ p, p = p2 ++ List.replicate k true := ⟨_, rfl⟩
                  rw [← hpq] at hpl hT ⊢
                  have hszW := hT.size
                  have HPQ := Lib.hid hpq
                  clear hpq
                  by_cases hlt : k < M
                  ·
                    have hki : (k : Int) < (M : Int) := by omega
                    have HSS : Hid (p2 ++ List.replicate (k + 1) true = pq ++ [true]) := Lib.hid (by rw [List.replicate_succ', HPQ.out, List.append_assoc])
                    go_wp2_with (at_builtin; refine wpList_append_fresh rfl (.tmp 127) (.tmp 128) 142 rfl (w.heap.size + 1) 4 (.bool false) 1 1 Tryz.underlying142 infoBool rfl (by decide) _ pq.length (pq.map Value.bool) rfl (hT.own.alloc _) (some ⟨wr.heap.size, 0, none⟩) 1 1 [.bool true] rfl (fun e => by cases e) rfl (row_at _ rfl rfl) (fun u hu => by simp at hu; subst hu; rfl) (pq.length + 1) rfl (pq.map Value.bool ++ [.bool true]) rfl (by omega) (by unfold maxLen; omega) (by simp; omega) ?_)
                    intro a2 c2 w10 hO hg hfr
                    have hT10 : TS 73 w w10 [.int .i64 o, .int .i64 a, .int .i64 f, .slice (some ⟨lb, lof, none⟩) ls.length c] (pq ++ [true]) a2 c2 := TS.appended hT (by rw [List.length_append, List.length_singleton, List.map_append]; exact hO) hg
                    clear hT hO hg hfr
                    go_wp2_with fail
                    go_roundw
                    case rel => exact ⟨k + 1, a2, c2, by omega, by go_num, by rw [HSS.out, List.length_append]; try rfl, by rw [HSS.out]; exact hT10⟩
                    case measure => simp [intOf]; omega
                  · have hki : ¬ (k : Int) < (M : Int) := by omega
                    have hkl : k = M := by omega
                    rw [hkl] at HPQ
                    rw [← HPQ.out] at HTb
                    clear hkl hlt HPQ
                    have d3 : wr.cell? ⟨w.heap.size, 0 + 3, none⟩ = some (.slice (some ⟨lb, lof, none⟩) ls.length c) := hT.cell 3
                    go_wp2_with fail
                    go_loopw [11, 17] (fun v i W => ∃ (k : Nat) (oa : Option Addr) (oc : Nat), k ≤ G ∧ i = .int .i64 k ∧ v = .slice oa (pq ++ List.replicate k true).length oc ∧ TS 73 w W [.int .i64 o, .int .i64 a, .int .i64 f, .slice (some ⟨lb, lof, none⟩) ls.length c] (pq ++ List.replicate k true) oa oc) (fun _ i _ => G - (intOf i).toNat)
                    case atStart => exact ⟨0, oa, oc, Nat.zero_le _, rfl, by simp, by simpa using hT⟩
                    case round =>
                      obtain ⟨k, oa, oc, hk, rfl, rfl, hT⟩ := hrel
                      have hpl2 : (pq ++ List.replicate k true).length ≤ 2300000 := by rw [List.length_append, List.length_replicate]; omega
                      obtain ⟨pr, hpr⟩ : ∃ p, p = pq ++ List.replicate k true := ⟨_, rfl⟩
                      rw [← hpr] at hpl2 hT ⊢
                      have hszW := hT.size
                      have HPR := Lib.hid hpr
                      have d3 : wr.cell? ⟨w.heap.size, 0 + 3, none⟩ = some (.slice (some ⟨lb, lof, none⟩) ls.length c) := hT.cell 3
                      clear hpr
                      by_cases hlt : k < G
                      · have hki : (k : Int) < (G : Int) := by omega
                        have HSS : Hid (pq ++ List.replicate (k + 1) true = pr ++ [true]) := Lib.hid (by rw [List.replicate_succ', HPR.out, List.append_assoc])
                        go_wp2_with (at_builtin; refine wpList_append_fresh rfl (.tmp 139) (.tmp 140) 142 rfl (w.heap.size + 1) 4 (.bool false) 1 1 Tryz.underlying142 infoBool rfl (by decide) _ pr.length (pr.map Value.bool) rfl (hT.own.alloc _) (some ⟨wr.heap.size, 0, none⟩) 1 1 [.bool true] rfl (fun e => by cases e) rfl (row_at _ rfl rfl) (fun u hu => by simp at hu; subst hu; rfl) (pr.length + 1) rfl (pr.map Value.bool ++ [.bool true]) rfl (by omega) (by unfold maxLen; omega) (by simp; omega) ?_)
                        intro a2 c2 w10 hO hg hfr
                        have hT10 : TS 73 w w10 [.int .i64 o, .int .i64 a, .int .i64 f, .slice (some ⟨lb, lof, none⟩) ls.length c] (pr ++ [true]) a2 c2 := TS.appended hT (by rw [List.length_append, List.length_singleton, List.map_append]; exact hO) hg
                        clear hT hO hg hfr d3
                        go_wp2_with fail
                        go_roundw
                        case rel => exact ⟨k + 1, a2, c2, by omega, by go_num, by rw [HSS.out, List.length_append]; try rfl, by rw [HSS.out]; exact hT10⟩
                        case measure => simp [intOf]; omega
                      · have hki : ¬ (k : Int) < (G : Int) := by omega
                        have hkl : k = G := by omega
                        rw [hkl] at HPR
                        rw [← HPR.out] at HTb
                        clear hkl hlt HPR
                        have HFl0 := tsfull hT (by omega)
                        rw [← HTb.out] at HFl0
                        have htl : (tabB o a f ls groups signed).length ≤ 2300008 := by rw [HTb.out, align_length]; omega
                        have HFl := Lib.hid HFl0
                        clear HFl0 HTb
                        generalize hTB : tabB o a f ls groups signed = tb at *
                        have HTB := Lib.hid hTB
                        clear hTB
                        go_wp2_with fail
                        refine HFl.out.mono ?_
                        rintro e w9 ⟨a9, c9, rfl, hT9, _⟩
                        clear hT HFl d3
                        have HBy := Lib.hid (refbytes_any true a9 c9 tb w9 hT9.row (by omega))
                        go_wp2_with fail
                        refine HBy.out.mono ?_
                        rintro e w10 ⟨ra, rc, rfl, hO10, hE10⟩
                        have hsz9 := hT9.size
                        go_wp2_with fail
                        go_ret
                        rw [HTB.out]
                        exact ⟨ra, rc, rfl, own_base hO10 (by omega), hT9.pure.pure hE10⟩
end Go.Proofs.YtomcdhljjmnahaaGreat.S27
namespace Go.Proofs.YtomcdhljjmnahaaGreat.S27
set_option linter.unusedVariables false
set_option linter.unusedSimpArgs false
open Go.RowKit

def numV (x : Int) : Value := .int .i64 x
def SameRes (b : Bool) (w : World) (e : Ending) (w' : World) : Prop := e = .returned (.bool b) ∧ Pure w w'
theorem numV_at {w : World} {ad : Option Addr} {ls : List Int} (h : RowOf w ad (ls.map numV)) (i : Nat) (hi : i < ls.length) : ∃ b o, ad = some ⟨b, o, none⟩ ∧ w.cell? ⟨b, o + i, none⟩ = some (.int .i64 ls[i]) :=
  h i _ (by simp [hi, numV])
theorem same_no {l m : List Int} {k : Nat} (h : k < l.length) (h' : k < m.length) (hne : l[k] ≠ m[k]) : decide (l = m) = false := by
  apply decide_eq_false
  intro e; subst e; exact hne rfl
theorem same_yes {l m : List Int} {k : Nat} (h : k = l.length) (h' : l.length = m.length) (he : l.take k = m.take k) : decide (l = m) = true := by
  apply decide_eq_true
  subst h
  rw [List.take_length] at he
  rw [he, h', List.take_length]
theorem take_same_succ {l m : List Int} {k : Nat} (h : k < l.length) (h' : k < m.length) (he : l.take k = m.take k) (hx : l[k] = m[k]) : l.take (k + 1) = m.take (k + 1) := by
  rw [List.take_succ_eq_append_getElem h, List.take_succ_eq_append_getElem h', he, hx]
set_option maxRecDepth 100000 in
theorem rowsame_any (a : Option Addr) (c : Nat) (l : List Int) (b : Option Addr) (d : Nat) (m : List Int) (w : World) (hl : RowOf w a (l.map numV)) (hm : RowOf w b (m.map numV)) (hll : l.length ≤ 1000000000) (hml : m.length ≤ 1000000000) :
    Calls Tryz.prog 51 #[.slice a l.length c, .slice b m.length d] w (SameRes (decide (l = m)) w) := by
  by_cases hlen : l.length = m.length
  · have hne : ((l.length : Int) != (m.length : Int)) = false := by simp; omega
    have HLEN := Lib.hid hlen
    have h1 : l.length ≤ m.length := by omega
    have h2 : m.length ≤ l.length := by omega
    obtain ⟨B, hB⟩ : ∃ B, B = decide (l = m) := ⟨_, rfl⟩
    have HB := Lib.hid hB
    rw [← hB]
    clear hlen hB
    go_enter Tryz.func51, Tryz.ntmps51
    go_wp2_with fail
    go_loopw [5] (fun i W => ∃ k : Nat, k ≤ l.length ∧ i = .int .i64 k ∧ Hid (l.take k = m.take k) ∧ Pure w W) (fun i _ => l.length - (intOf i).toNat)
    case atStart => exact ⟨0, Nat.zero_le _, rfl, Lib.hid (by simp), Ext.refl _ _⟩
    case round =>
      obtain ⟨k, hk, rfl, HT, hP⟩ := hrel
      by_cases hlt : k < l.length
      · have hki : (k : Int) < (l.length : Int) := by omega
        have hkm : k < m.length := by omega
        have hkj : (k : Int) < (m.length : Int) := by omega
        obtain ⟨lb, lo, rfl, hc1⟩ := numV_at (hl.ext hP (fun _ _ => id)) k hlt
        obtain ⟨mb, mo, rfl, hc2⟩ := numV_at (hm.ext hP (fun _ _ => id)) k hkm
        obtain ⟨x, hx⟩ : ∃ x, x = l[k] := ⟨_, rfl⟩
        obtain ⟨y, hy⟩ : ∃ y, y = m[k] := ⟨_, rfl⟩
        rw [← hx] at hc1
        rw [← hy] at hc2
        have HX := Lib.hid hx
        have HY := Lib.hid hy
        clear hx hy
        by_cases hxy : x = y
        · have hE : (x != y) = false := by simp [hxy]
          have HS := Lib.hid (take_same_succ hlt hkm HT.out (by rw [← HX.out, ← HY.out, hxy]))
          clear hxy hl hm
          go_wp2_with fail
          go_quiet (fail)
          go_wp2_with fail
          go_roundw
          case rel => exact ⟨k + 1, by omega, by go_num, HS, hP.drewN _⟩
          case measure => simp [intOf]; omega
        · have hE : (x != y) = true := by simp [hxy]
          have HS := Lib.hid (same_no hlt hkm (by rw [← HX.out, ← HY.out]; exact hxy))
          clear hxy hl hm
          go_wp2_with fail
          go_quiet (fail)
          go_wp2_with fail
          go_ret
          exact ⟨by rw [HB.out, HS.out]; rfl, hP.drewN _⟩
      · have hki : ¬ (k : Int) < (l.length : Int) := by omega
        have HS := Lib.hid (same_yes (by omega) HLEN.out HT.out)
        clear hl hm
        go_wp2_with fail
        go_ret
        exact ⟨by rw [HB.out, HS.out]; rfl, hP⟩
  · have hne : ((l.length : Int) != (m.length : Int)) = true := by simp; omega
    have hd : decide (l = m) = false := decide_eq_false (fun e => hlen (by rw [e]))
    rw [hd]
    clear hlen hd
    go_enter Tryz.func51, Tryz.ntmps51
    go_wp2_with fail
    go_ret
    exact ⟨rfl, Ext.refl _ _⟩
end Go.Proofs.YtomcdhljjmnahaaGreat.S27
namespace Go.Proofs.YtomcdhljjmnahaaGreat.S27
set_option linter.unusedVariables false
set_option linter.unusedSimpArgs false
open Go.RowKit C27

/-- what a table comes to -/
def nats (ls : List Int) : List Nat := ls.map Int.toNat
def encB (o a f : Int) (ls : List Int) : List UInt8 := if okT o a f ls then pack true (tabB o.toNat a.toNat f.toNat (nats ls) 0 []) else []
def encE (o a f : Int) (ls : List Int) : Int := if okT o a f ls then 0 else 2
def EncTo (o a f : Int) (ls : List Int) (w : World) (e : Ending) (w' : World) : Prop := ∃ ra rc, e = .returned (.tuple #[.slice ra (encB o a f ls).length rc, .int .i64 (encE o a f ls)]) ∧ NewRow w w' ra rc (encB o a f ls)
theorem new_nil {w w' : World} (h : Pure w w') : NewRow w w' none 0 [] := ⟨row_nil _ _, h, fun _ => rfl, fun g hg => (by cases hg), fun g hg => (by cases hg), Nat.le_refl _, Nat.zero_le _⟩
theorem okT_ints {o a f : Int} {ls : List Int} (h : okT o a f ls = true) : o = (o.toNat : Int) ∧ a = (a.toNat : Int) ∧ f = (f.toNat : Int) ∧ ls = (nats ls).map (fun x : Nat => (x : Int)) := by
  obtain ⟨h1, h2, h3, h4, h5⟩ := okT_true.1 h
  refine ⟨by omega, by omega, by omega, ?_⟩
  unfold nats
  rw [List.map_map]
  refine (List.map_id ls).symm.trans (List.map_congr_left fun x hx => ?_)
  have := List.any_eq_false.1 h5 x hx
  have h6 : inB x 1 2147483647 = true := by simpa [odd] using this
  have := inB_true.1 h6
  simp only [id, Function.comp]; omega
theorem nats_len (ls : List Int) : (nats ls).length = ls.length := by simp [nats]
theorem encode_any (o a f : Int) (la : Option Addr) (c : Nat) (ls : List Int) (w : World) (hr : RowOf w la (ls.map iV)) (hl : (ls.length : Int) ≤ 9223372036854775807) :
    Calls Tryz.prog 21 #[tblV o a f la ls.length c] w (EncTo o a f ls w) := by
  by_cases h : okT o a f ls = true
  · obtain ⟨e1, e2, e3, e4⟩ := okT_ints h
    have hB : encB o a f ls = pack true (tabB o.toNat a.toNat f.toNat (nats ls) 0 []) := if_pos h
    have hE : encE o a f ls = 0 := if_pos h
    have key := encode_yes o.toNat a.toNat f.toNat la c (nats ls) w (by rw [← intV_map, ← e4]; exact hr) (by rw [← e4, ← e1, ← e2, ← e3]; exact h)
    rw [← e1, ← e2, ← e3, nats_len] at key
    refine key.mono fun e w' ⟨ra, rc, he, hN⟩ => ⟨ra, rc, by rw [hB, hE]; exact he, by rw [hB]; exact hN⟩
  · have h' : okT o a f ls = false := by simpa using h
    have hB : encB o a f ls = [] := if_neg h
    have hE : encE o a f ls = 2 := if_neg h
    refine (encode_no o a f la c ls w hr hl h').mono fun e w' ⟨he, hP⟩ => ⟨none, 0, by rw [hB, hE]; exact he, by rw [hB]; exact new_nil hP⟩
set_option maxRecDepth 100000 in
theorem refencode_any (o a f : Int) (la : Option Addr) (c : Nat) (ls : List Int) (w : World) (hr : RowOf w la (ls.map iV)) (hl : (ls.length : Int) ≤ 9223372036854775807) :
    Calls Tryz.prog 28 #[tblV o a f la ls.length c] w (EncTo o a f ls w) := by
  obtain ⟨w1, hw1⟩ : ∃ w1, w1 = w.alloc (.cells #[.int .i64 o, .int .i64 a, .int .i64 f, .slice la ls.length c] 73) := ⟨_, rfl⟩
  have hB1 : BlockIs w1 w.heap.size [.int .i64 o, .int .i64 a, .int .i64 f, .slice la ls.length c] 73 := hw1 ▸ BlockIs.new w _ _
  have hP1 : Pure w w1 := hw1 ▸ ext_alloc w _
  have hr1 := hr.ext hP1 (fun _ _ => id)
  have HC0 := refcheck_any o a f la c ls w1 hr1 hl
  by_cases h : okT o a f ls = true
  · obtain ⟨e1, e2, e3, e4⟩ := okT_ints h
    rw [h] at HC0
    have hB : encB o a f ls = pack true (tabB o.toNat a.toNat f.toNat (nats ls) 0 []) := if_pos h
    have hE : encE o a f ls = 0 := if_pos h
    have HT0 := fun W (hP : Pure w W) => text_any o.toNat a.toNat f.toNat la c (nats ls) none 0 [] 0 W (by rw [← intV_map, ← e4]; exact hr.ext hP (fun _ _ => id)) (by rw [← e4, ← e1, ← e2, ← e3]; exact h) (by decide) (row_nil _ _) (by decide)
    rw [← e1, ← e2, ← e3, nats_len] at HT0
    obtain ⟨P, hP⟩ : ∃ P, P = pack true (tabB o.toNat a.toNat f.toNat (nats ls) 0 []) := ⟨_, rfl⟩
    rw [← hP] at HT0 hB
    have HB := Lib.hid hB
    have HE := Lib.hid hE
    have HC := Lib.hid HC0
    have HT := Lib.hid HT0
    clear hB hE HC0 HT0 e1 e2 e3 e4 h hP
    unfold tblV at HC HT ⊢
    go_enter Tryz.func28, Tryz.ntmps28
    go_wp2_with fail
    rw [← hw1]
    clear hw1
    refine HC.out.mono ?_
    rintro e w2 ⟨rfl, hE2⟩
    have hB2 := hB1.ext hE2 id
    have hP2 := hP1.pure hE2
    have b0 : w2.cell? ⟨w.heap.size, 0, none⟩ = some (.int .i64 o) := hB2.cell 0
    have b1 : w2.cell? ⟨w.heap.size, 0 + 1, none⟩ = some (.int .i64 a) := hB2.cell 1
    have b2 : w2.cell? ⟨w.heap.size, 0 + 2, none⟩ = some (.int .i64 f) := hB2.cell 2
    have b3 : w2.cell? ⟨w.heap.size, 0 + 3, none⟩ = some (.slice la ls.length c) := hB2.cell 3
    go_wp2_with fail
    refine (HT.out w2 hP2).mono ?_
    rintro e w3 ⟨ra, rc, rfl, hO, hP3⟩
    go_wp2_with fail
    go_ret2
    refine ⟨ra, rc, by rw [HB.out, HE.out]; rfl, ?_⟩
    rw [HB.out]
    obtain ⟨_, _, hh, h1, h2, h3, h4⟩ := own_form hO
    cases hh
    exact ⟨bytes_of_own hO, hP2.pure hP3, h3, fun g hg => Nat.le_trans hP2.size (h4 g hg).1, fun g hg => (h4 g hg).2.1, h1, h2⟩
  · have h' : okT o a f ls = false := by simpa using h
    rw [h'] at HC0
    have hB : encB o a f ls = [] := if_neg h
    have hE : encE o a f ls = 2 := if_neg h
    have HB := Lib.hid hB
    have HE := Lib.hid hE
    have HC := Lib.hid HC0
    clear hB hE HC0 h h'
    unfold tblV at HC ⊢
    go_enter Tryz.func28, Tryz.ntmps28
    go_wp2_with fail
    rw [← hw1]
    clear hw1
    refine HC.out.mono ?_
    rintro e w2 ⟨rfl, hE2⟩
    have hP2 := hP1.pure hE2
    go_wp2_with fail
    go_ret2
    refine ⟨none, 0, by rw [HB.out, HE.out]; rfl, ?_⟩
    rw [HB.out]
    exact new_nil hP2
end Go.Proofs.YtomcdhljjmnahaaGreat.S27
namespace Go.Proofs.YtomcdhljjmnahaaGreat.S27
set_option linter.unusedVariables false
set_option linter.unusedSimpArgs false
open Go.RowKit C27

end Go.Proofs.YtomcdhljjmnahaaGreat.S27
