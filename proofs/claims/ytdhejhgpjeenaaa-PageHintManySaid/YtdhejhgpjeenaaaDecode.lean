/-
  Walked: the program's Decode.
-/
import Derived.Test.YtdhejhgpjeenaaaPages
import Derived.Test.YtdhejhgpjeenaaaRefDec
import Derived.StillTailTactics
namespace Go.Proofs.Ytdhejhgpjeenaaa
open Go.RowKit C26
set_option linter.unusedVariables false

set_option maxHeartbeats 8000000 in
set_option maxRecDepth 100000 in
theorem decode_any (bd : Option Addr) (bc : Nat) (bl : List UInt8) (n : Int) (w : World) (hb : Bytes w bd bl) (hnil : bd = none → bc = 0) (hle : bl.length ≤ bc) (hl : bl.length ≤ 5000000) :
    Calls Try.prog 13 #[.slice bd bl.length bc, .int .i64 n] w (DecRes (bitsOf true bl) n w) := by
  have HWi := Lib.hid (within_any n 1 2048 w)
  obtain ⟨B, hB⟩ : ∃ B, B = inB n 1 2048 := ⟨_, rfl⟩
  rw [← hB] at HWi
  cases B with
  | false =>
    have HTo : Hid (DecTo (bitsOf true bl) n (dErr 2)) := Lib.hid (Or.inl ⟨hB.symm, rfl⟩)
    clear hB
    go_enter Try.func13, Try.ntmps13
    go_wp2_with fail
    refine HWi.out.mono ?_
    rintro e w1 ⟨rfl, hw1⟩
    obtain rfl := hw1.symm
    go_wp2_with fail
    refine bodyPost_ret (v := .tuple #[.int .i64 0, .slice none 0 0, .int .i64 0, .int .i64 2]) (by simp [results, Try.results13, go_sem]) rfl (decRes_err HTo.out (Ext.refl _ _))
  | true =>
    have HIn := Lib.hid hB.symm
    obtain ⟨hn1, hn2⟩ := inB_true.1 hB.symm
    obtain ⟨N, rfl⟩ : ∃ N : Nat, n = (N : Int) := ⟨n.toNat, by omega⟩
    have hN1 : 1 ≤ N := by omega
    have hN2 : N ≤ 2048 := by omega
    have HR := Lib.hid (read_any2 bd bc bl true w hb hnil hle (by omega))
    clear hB hb
    go_enter Try.func13, Try.ntmps13
    go_wp2_with fail
    refine HWi.out.mono ?_
    rintro e w1 ⟨rfl, hw1⟩
    obtain rfl := hw1.symm
    clear HWi
    go_wp2_with fail
    refine HR.out.mono ?_
    rintro e w2 ⟨rb, a, c, rfl, hRd, hE2, hrb1, hrb2, hfa, halt⟩
    clear HR
    obtain ⟨rr, hrr⟩ : ∃ rr, rr = w2.heap.size := ⟨_, rfl⟩
    obtain ⟨w3, hw3⟩ : ∃ z, z = w2.alloc (.cells #[.pointer (some ⟨rb, 0, none⟩), .int .i64 0] 73) := ⟨_, rfl⟩
    have hRS : RS w3 rr rb bl (0, 0) a c :=
      ⟨by rw [hw3, hrr]; exact BlockIs.new w2 _ _, hw3 ▸ hRd.ext (ext_alloc w2 _) id (fun _ _ => id), Nat.zero_le _, by omega, fun g hg e => by have := halt g hg; omega⟩
    have hP3 : Pure w w3 := hw3 ▸ hE2.pure (ext_alloc w2 _)
    have hz3 : rr < w3.heap.size := hRS.blk.lt
    have hwr : w.heap.size ≤ rr := by rw [hrr]; exact hE2.size
    have halt3 : ∀ g, a = some g → g.block < w3.heap.size := fun g hg => by have := halt g hg; omega
    have HH := Lib.hid (head_any rr rb bl a c w3 hRS (by omega) halt3)
    have HW3 := Lib.hid hw3
    have HRr := Lib.hid hrr
    clear hRS hw3 hrr hRd hE2 halt
    go_wp2_with fail
    rw [← HRr.out, ← HW3.out]
    refine HH.out.mono ?_
    rintro e w4 ⟨v1, v2, v3, v4, v5, v7, v9, v10, v11, v12, q, er, rfl, hS4, hX4, hD⟩
    have hP4 : Pure w w4 := hP3.trans hX4 (fun i hi e => by rcases e with e | e <;> omega)
    have HD := Lib.hid hD
    obtain ⟨hb, hhb⟩ : ∃ z, z = w4.heap.size := ⟨_, rfl⟩
    have hrb4 : rr < hb ∧ rb < hb := ⟨by rw [hhb]; exact hS4.blk.lt, by rw [hhb]; exact hS4.rd.blk.lt⟩
    have halt4 : ∀ g, a = some g → g.block < hb := fun g hg => by
      have h1 := halt3 g hg
      have h2 := hX4.size
      omega
    obtain ⟨w5z, hw5z⟩ : ∃ z, z = w4.alloc (.cells #[.int .i64 0, .int .i64 0, .int .i64 0, .int .i64 0, .int .i64 0, .int .i64 0, .int .i64 0, .int .i64 0, .int .i64 0, .int .i64 0] 75) := ⟨_, rfl⟩
    have hZ : BlockIs w5z hb [.int .i64 0, .int .i64 0, .int .i64 0, .int .i64 0, .int .i64 0, .int .i64 0, .int .i64 0, .int .i64 0, .int .i64 0, .int .i64 0] 75 := by rw [hw5z, hhb]; exact BlockIs.new w4 _ _
    have hP5z : Pure w4 w5z := hw5z ▸ ext_alloc w4 _
    obtain ⟨w5, hw5⟩ : ∃ z, z = w5z.setCells hb 0 [.int .i64 (v1 : Nat), .int .i64 (v2 : Nat), .int .i64 (v3 : Nat), .int .i64 (v4 : Nat), .int .i64 (v5 : Nat), .int .i64 (v7 : Nat), .int .i64 (v9 : Nat), .int .i64 (v10 : Nat), .int .i64 (v11 : Nat), .int .i64 (v12 : Nat)] := ⟨_, rfl⟩
    have hH5 : BlockIs w5 hb [.int .i64 (v1 : Nat), .int .i64 (v2 : Nat), .int .i64 (v3 : Nat), .int .i64 (v4 : Nat), .int .i64 (v5 : Nat), .int .i64 (v7 : Nat), .int .i64 (v9 : Nat), .int .i64 (v10 : Nat), .int .i64 (v11 : Nat), .int .i64 (v12 : Nat)] 75 := hw5 ▸ hZ.setAll [.int .i64 (v1 : Nat), .int .i64 (v2 : Nat), .int .i64 (v3 : Nat), .int .i64 (v4 : Nat), .int .i64 (v5 : Nat), .int .i64 (v7 : Nat), .int .i64 (v9 : Nat), .int .i64 (v10 : Nat), .int .i64 (v11 : Nat), .int .i64 (v12 : Nat)] rfl
    have hX5 : Ext (fun i => i = hb) w5z w5 := hw5 ▸ Ext.setCells (S := fun i => i = hb) [.int .i64 (v1 : Nat), .int .i64 (v2 : Nat), .int .i64 (v3 : Nat), .int .i64 (v4 : Nat), .int .i64 (v5 : Nat), .int .i64 (v7 : Nat), .int .i64 (v9 : Nat), .int .i64 (v10 : Nat), .int .i64 (v11 : Nat), .int .i64 (v12 : Nat)] 0 w5z (Ext.refl _ _) (fun _ => rfl)
    have hS5 := (hS4.pure hP5z).ext hX5 (fun e => by have e' : rr = hb := e; omega) (fun e => by have e' : rb = hb := e; omega) (fun g hg e => by have := halt4 g hg; have e' : g.block = hb := e; omega)
    have hP5 : Pure w w5 := (hP4.pure hP5z).trans hX5 (fun i hi e => by have e' : i = hb := e; omega)
    have hAll : (#[.int .i64 (v1 : Nat), .int .i64 (v2 : Nat), .int .i64 (v3 : Nat), .int .i64 (v4 : Nat), .int .i64 (v5 : Nat), .int .i64 (v7 : Nat), .int .i64 (v9 : Nat), .int .i64 (v10 : Nat), .int .i64 (v11 : Nat), .int .i64 (v12 : Nat)] : Array Value).all (fun v => v.oneCell') = true := all_oneCell_toArray (cs := [.int .i64 (v1 : Nat), .int .i64 (v2 : Nat), .int .i64 (v3 : Nat), .int .i64 (v4 : Nat), .int .i64 (v5 : Nat), .int .i64 (v7 : Nat), .int .i64 (v9 : Nat), .int .i64 (v10 : Nat), .int .i64 (v11 : Nat), .int .i64 (v12 : Nat)]) (by intro v hv; simp only [List.mem_cons, List.not_mem_nil, or_false] at hv; rcases hv with rfl | rfl | rfl | rfl | rfl | rfl | rfl | rfl | rfl | rfl <;> rfl)
    have hThere := hZ.there 10 rfl
    have HAll := Lib.hid hAll
    have HW5z := Lib.hid hw5z
    have HW5 := Lib.hid hw5
    have HHb := Lib.hid hhb
    have g5 : w5.cell? ⟨rr, 0 + 1, none⟩ = some (.int .i64 er) := hS5.blk.cell 1
    have hsz5 : hb < w5.heap.size := hH5.lt
    clear HH hS4 hX4 hP3 HW3 HRr hZ hw5 hw5z hhb hX5 hAll hD hP4 hP5z
    by_cases he : er = 0
    · subst he
      have hD0 : 288 ≤ (bitsOf true bl).length ∧ HeadOk (bitsOf true bl) ∧ q = 288 ∧ v1 = h0 (bitsOf true bl) ∧ v2 = h1 (bitsOf true bl) ∧ v3 = h2 (bitsOf true bl) ∧ v4 = h3 (bitsOf true bl) ∧ v5 = h4 (bitsOf true bl) ∧ v7 = h6 (bitsOf true bl) ∧ v9 = h8 (bitsOf true bl) ∧ v10 = h9 (bitsOf true bl) ∧ v11 = h10 (bitsOf true bl) ∧ v12 = h11 (bitsOf true bl) := by
        rcases HD.out with ⟨_, h2⟩ | ⟨h1, ⟨_, h3⟩ | ⟨h2, _, h4⟩⟩
        · cases h2
        · cases h3
        · exact ⟨h1, h2, h4⟩
      obtain ⟨d1, d2, rfl, e1, e2, e3, e4, e5, e7, e9, e10, e11, e12⟩ := hD0
      have hPg := pages_any rr rb bl a c N w5 hS5 d2 hN1 hN2 hl (fun g hg => by have := halt4 g hg; omega)
      have eV : (headV (bitsOf true bl)).toArray = #[.int .i64 (v1 : Nat), .int .i64 (v2 : Nat), .int .i64 (v3 : Nat), .int .i64 (v4 : Nat), .int .i64 (v5 : Nat), .int .i64 (v7 : Nat), .int .i64 (v9 : Nat), .int .i64 (v10 : Nat), .int .i64 (v11 : Nat), .int .i64 (v12 : Nat)] := by rw [e1, e2, e3, e4, e5, e7, e9, e10, e11, e12]; rfl
      rw [eV] at hPg
      have HPg := Lib.hid hPg
      have HE2 := Lib.hid e2
      have HDk := Lib.hid (And.intro d1 d2)
      have hR5 := hH5.range
      have hlo : ∀ i, i < w.heap.size → RdS rr rb i → False := fun i hi e => by rcases e with e | e <;> omega
      clear hPg eV e1 e2 e3 e4 e5 e7 e9 e10 e11 e12 d1 d2 HD
      go_wp2_with (first | (refine wpList_store_mid rfl 75 (.tmp 9) (.tmp 19) rfl hb 0 #[.int .i64 (v1 : Nat), .int .i64 (v2 : Nat), .int .i64 (v3 : Nat), .int .i64 (v4 : Nat), .int .i64 (v5 : Nat), .int .i64 (v7 : Nat), .int .i64 (v9 : Nat), .int .i64 (v10 : Nat), .int .i64 (v11 : Nat), .int .i64 (v12 : Nat)] (by rw [HHb.out]; rfl) rfl (by rw [← HW5z.out]; exact hThere) (by kernel_rfl) HAll.out ?_; rw [← HW5z.out, show w5z.setCells hb 0 (#[.int .i64 (v1 : Nat), .int .i64 (v2 : Nat), .int .i64 (v3 : Nat), .int .i64 (v4 : Nat), .int .i64 (v5 : Nat), .int .i64 (v7 : Nat), .int .i64 (v9 : Nat), .int .i64 (v10 : Nat), .int .i64 (v11 : Nat), .int .i64 (v12 : Nat)] : Array Value).toList = w5 from HW5.out.symm]) | (refine wpList_load_mid rfl 75 (.tmp 9) rfl hb 0 (by rw [HHb.out]; rfl) [.int .i64 (v1 : Nat), .int .i64 (v2 : Nat), .int .i64 (v3 : Nat), .int .i64 (v4 : Nat), .int .i64 (v5 : Nat), .int .i64 (v7 : Nat), .int .i64 (v9 : Nat), .int .i64 (v10 : Nat), .int .i64 (v11 : Nat), .int .i64 (v12 : Nat)] _ hR5 Try.underlying75 rfl (by kernel_rfl) ?_))
      rw [← HHb.out]
      refine HPg.out.mono ?_
      rintro e w6 ⟨oa, len, oc, q', er, rfl, hS6, hX6, hR⟩
      have hP6 : Pure w w6 := hP5.trans hX6 (fun i hi e => hlo i hi e)
      have hH6 := hH5.ext hX6 (fun e => by rcases e with e | e <;> omega)
      have g6 : w6.cell? ⟨rr, 0 + 1, none⟩ = some (.int .i64 er) := hS6.blk.cell 1
      have HR := Lib.hid hR
      clear HPg hR hThere g5 hR5 hH5 hS5 hP5 hX6
      by_cases he : er = 0
      · subst he
        have hR0 : Rest1 (bitsOf true bl) N (good (bitsOf true bl) N) ∧ q' = q7 (bitsOf true bl) N ∧ len = N ∧ ∃ ps, Hints w6 oa ps ∧ ps.length = N ∧ ps.map (fun p => (p.o, p.l, p.sh)) = resV (good (bitsOf true bl) N) := by
          rcases HR.out with ⟨h1, _⟩ | ⟨_, h2⟩
          · exact absurd rfl h1
          · exact h2
        obtain ⟨r1, r2, rfl, ps, r3, r4, r5⟩ := hR0
        have HTo : Hid (DecTo (bitsOf true bl) (len : Int) (good (bitsOf true bl) len)) := Lib.hid (Or.inr ⟨HIn.out, Or.inr ⟨HDk.out.1, Or.inr ⟨HDk.out.2, r1⟩⟩⟩)
        have HQ := Lib.hid r2
        have HPs := Lib.hid (And.intro r3 (And.intro r4 r5))
        have c1 : w6.drew.cell? ⟨hb, 1, none⟩ = some (.int .i64 (v2 : Nat)) := hH6.cell 1
        have c2 : w6.drew.cell? ⟨rr, 0, none⟩ = some (.pointer (some ⟨rb, 0, none⟩)) := hS6.blk.cell 0
        have kc1 := fun w' (hS : Ext (fun _ => False) w6.drew w') => hS.cell_some c1 id
        have kc2 := fun w' (hS : Ext (fun _ => False) w6.drew w') => hS.cell_some c2 id
        have hm8 : ((q' : Nat) : Int).tdiv 8 = ((q' / 8 : Nat) : Int) := by rw [Int.tdiv_eq_ediv_of_nonneg (by omega)]; omega
        have hle8 : q' ≤ 80000000 := by have := hS6.le; simp only at this; omega
        have hw8 : IntKind.i64.wrap (((q' : Nat) : Int) / 8) = ((q' : Nat) : Int) / 8 := IntWalk.i64_in _ (by omega)
        clear r1 r2 r3 r4 r5 HR
        go_wp2_with fail
        refine region_start (fun _ => False) (by kernel_rfl) ?_
        try simp only [Act.put, List.setIfInBounds_toArray, List.set_cons_zero, List.set_cons_succ]
        refine region_take 0 38 (v := ?vdz0) rfl rfl (by kernel_rfl) (by kernel_rfl) (by kernel_rfl) (fun _ _ _ h => h) (by rfl) (fun w' hS => ?hdz0) ?rdz0
        case hdz0 => go_simp; with_reducible rfl
        try simp only [Act.put, List.setIfInBounds_toArray, List.set_cons_zero, List.set_cons_succ]
        refine region_take 1 39 (v := ?vdz1) rfl rfl (by kernel_rfl) (by kernel_rfl) (by kernel_rfl) (fun _ _ _ h => h) (by rfl) (fun w' hS => ?hdz1) ?rdz1
        case hdz1 => go_simp; with_reducible rfl
        try simp only [Act.put, List.setIfInBounds_toArray, List.set_cons_zero, List.set_cons_succ]
        refine region_take 2 40 (v := ?vdz2) rfl rfl (by kernel_rfl) (by kernel_rfl) (by kernel_rfl) (fun _ _ _ h => h) (by rfl) (fun w' hS => ?hdz2) ?rdz2
        case hdz2 => go_simp; with_reducible rfl
        try simp only [Act.put, List.setIfInBounds_toArray, List.set_cons_zero, List.set_cons_succ]
        refine region_take 3 41 (v := ?vdz3) rfl rfl (by kernel_rfl) (by kernel_rfl) (by kernel_rfl) (fun _ _ _ h => h) (by rfl) (fun w' hS => ?hdz3) ?rdz3
        case hdz3 => go_simp; with_reducible rfl
        try simp only [Act.put, List.setIfInBounds_toArray, List.set_cons_zero, List.set_cons_succ]
        refine region_take 4 42 (v := ?vdz4) rfl rfl (by kernel_rfl) (by kernel_rfl) (by kernel_rfl) (fun _ _ _ h => h) (by rfl) (fun w' hS => ?hdz4) ?rdz4
        case hdz4 => go_simp; with_reducible rfl
        try simp only [Act.put, List.setIfInBounds_toArray, List.set_cons_zero, List.set_cons_succ]
        refine region_take 5 43 (v := ?vdz5) rfl rfl (by kernel_rfl) (by kernel_rfl) (by kernel_rfl) (fun _ _ _ h => h) (by rfl) (fun w' hS => ?hdz5) ?rdz5
        case hdz5 => go_simp; with_reducible rfl
        try simp only [Act.put, List.setIfInBounds_toArray, List.set_cons_zero, List.set_cons_succ]
        refine region_take 6 44 (v := ?vdz6) rfl rfl (by kernel_rfl) (by kernel_rfl) (by kernel_rfl) (fun _ _ _ h => h) (by rfl) (fun w' hS => ?hdz6) ?rdz6
        case hdz6 => go_simp; with_reducible rfl
        try simp only [Act.put, List.setIfInBounds_toArray, List.set_cons_zero, List.set_cons_succ]
        refine wpAnyH_ready (rs := [7]) (by kernel_rfl) (by simp) (AllReadyH.cons rfl (fun K hK => ?_) AllReadyH.nil)
        go_simp
        refine (at_any rb true bl q' a c _ (hS6.rd.ext ((Ext.refl (fun _ => False) w6).drew) id (fun _ _ => id))).mono ?_
        rintro e w13 ⟨rfl, rfl⟩
        refine hK.out _ _ (Ext.refl _ _) (fun hHeld => ?_)
        clear hK K hHeld
        refine region_now (Ext.refl _ _) ?_
        try simp only [Act.put, List.setIfInBounds_toArray, List.set_cons_zero, List.set_cons_succ]
        refine region_take 8 46 (v := ?vdz8) rfl rfl (by kernel_rfl) (by kernel_rfl) (by kernel_rfl) (fun _ _ _ h => h) (by rfl) (fun w' hS => ?hdz8) ?rdz8
        case hdz8 => go_simp; with_reducible rfl
        try simp only [Act.put, List.setIfInBounds_toArray, List.set_cons_zero, List.set_cons_succ]
        refine region_take 9 4 (v := ?vdz9) rfl rfl (by kernel_rfl) (by kernel_rfl) (by kernel_rfl) (fun _ _ _ h => h) (by rfl) (fun w' hS => ?hdz9) ?rdz9
        case hdz9 => go_simp; with_reducible rfl
        try simp only [Act.put, List.setIfInBounds_toArray, List.set_cons_zero, List.set_cons_succ]
        refine region_take 10 5 (v := ?vdz10) rfl rfl (by kernel_rfl) (by kernel_rfl) (by kernel_rfl) (fun _ _ _ h => h) (by rfl) (fun w' hS => ?hdz10) ?rdz10
        case hdz10 => go_simp; with_reducible rfl
        try simp only [Act.put, List.setIfInBounds_toArray, List.set_cons_zero, List.set_cons_succ]
        refine region_take 11 6 (v := ?vdz11) rfl rfl (by kernel_rfl) (by kernel_rfl) (by kernel_rfl) (fun _ _ _ h => h) (by rfl) (fun w' hS => ?hdz11) ?rdz11
        case hdz11 => go_simp; with_reducible rfl
        try simp only [Act.put, List.setIfInBounds_toArray, List.set_cons_zero, List.set_cons_succ]
        refine region_take 12 7 (v := ?vdz12) rfl rfl (by kernel_rfl) (by kernel_rfl) (by kernel_rfl) (fun _ _ _ h => h) (by rfl) (fun w' hS => ?hdz12) ?rdz12
        case hdz12 => go_simp; with_reducible rfl
        try simp only [Act.put, List.setIfInBounds_toArray, List.set_cons_zero, List.set_cons_succ]
        refine wpAnyH_done (by kernel_rfl) ?_ _
        clear kc1 kc2 c1 c2
        go_wp2_with fail
        refine bodyPost_ret (v := .tuple #[.int .i64 (v2 : Nat), .slice oa len oc, .int .i64 ((q' / 8 : Nat) : Int), .int .i64 0]) (by simp [results, Try.results13, go_sem, hw8]) rfl ?_
        refine ⟨good (bitsOf true bl) len, ps, oa, oc, ?_, HTo.out, HPs.out.2.2, HPs.out.1.pure ((Ext.refl (fun _ => False) w6).drew), by rw [HPs.out.2.1]; omega, hP6.drew⟩
        rw [HPs.out.2.1, HE2.out, HQ.out]; rfl
      · have hne : (er != 0) = true := by simpa using he
        have HTo : Hid (DecTo (bitsOf true bl) (N : Int) (dErr er)) := Lib.hid (Or.inr ⟨HIn.out, Or.inr ⟨HDk.out.1, Or.inr ⟨HDk.out.2, by
          rcases HR.out with ⟨_, h⟩ | ⟨h, _⟩
          · exact h
          · exact absurd h he⟩⟩⟩)
        clear he HR
        go_wp2_with fail
        go_quiet (fail)
        go_wp2_with fail
        refine bodyPost_ret (v := .tuple #[.int .i64 0, .slice none 0 0, .int .i64 0, .int .i64 er]) (by simp [results, Try.results13, go_sem]) rfl (decRes_err HTo.out (hP6.drewN _))
    · have hne : (er == 0) = false := by simpa using he
      have hne2 : (er != 0) = true := by simpa using he
      have HTo : Hid (DecTo (bitsOf true bl) (N : Int) (dErr er)) := Lib.hid (Or.inr ⟨HIn.out, by
        rcases HD.out with ⟨h1, h2⟩ | ⟨h1, ⟨h2, h3⟩ | ⟨h2, h3, _⟩⟩
        · exact Or.inl ⟨h1, by rw [h2]⟩
        · exact Or.inr ⟨h1, Or.inl ⟨h2, by rw [h3]⟩⟩
        · exact absurd h3 he⟩)
      clear he
      go_wp2_with (refine wpList_store_mid rfl 75 (.tmp 9) (.tmp 19) rfl hb 0 #[.int .i64 (v1 : Nat), .int .i64 (v2 : Nat), .int .i64 (v3 : Nat), .int .i64 (v4 : Nat), .int .i64 (v5 : Nat), .int .i64 (v7 : Nat), .int .i64 (v9 : Nat), .int .i64 (v10 : Nat), .int .i64 (v11 : Nat), .int .i64 (v12 : Nat)] (by rw [HHb.out]; rfl) rfl (by rw [← HW5z.out]; exact hThere) (by kernel_rfl) HAll.out ?_; rw [← HW5z.out, show w5z.setCells hb 0 (#[.int .i64 (v1 : Nat), .int .i64 (v2 : Nat), .int .i64 (v3 : Nat), .int .i64 (v4 : Nat), .int .i64 (v5 : Nat), .int .i64 (v7 : Nat), .int .i64 (v9 : Nat), .int .i64 (v10 : Nat), .int .i64 (v11 : Nat), .int .i64 (v12 : Nat)] : Array Value).toList = w5 from HW5.out.symm])
      clear hThere
      go_quiet (fail)
      go_wp2_with fail
      refine bodyPost_ret (v := .tuple #[.int .i64 0, .slice none 0 0, .int .i64 0, .int .i64 er]) (by simp [results, Try.results13, go_sem]) rfl (decRes_err HTo.out (hP5.drewN _))
end Go.Proofs.Ytdhejhgpjeenaaa
