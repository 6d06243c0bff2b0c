/-
  Walked: the program's Decode.
  Walked: the reference's low and fill.
  Walked: the reference's Table.
  Walked: which hints may be: the reference's Check.
  What a table of hints comes to; and walked: the reference's Encode.
  Walked: the page with the most shared numbers (slices.MaxFunc, and how two pages are held side by side).
  A writer of a call's own: what it has, and that all else is as it was; and walked: put (the closure), row of numbers.
  Walked: row, of objects, of lengths, of counts, and of shared numbers.
  Walked: row, of shared numbers.
-/
import Derived.Test.YtomcdhljjmnahaaGreatLibPBOb
import Derived.Test.YtomcdhljjmnahaaGreatLibPCOb
import Derived.StillTailTactics
import Derived.Test.YtomcdhljjmnahaaGreatLibPAOb
import Derived.Test.YtomcdhljjmnahaaGreatLibBBOb
import Derived.Deep.DeepCutAuto
import Derived.Test.YtomcdhljjmnahaaGreatLibBAOb
namespace Go.Proofs.YtomcdhljjmnahaaGreat.P26
set_option linter.unusedVariables false
set_option linter.unusedSimpArgs false
open Go.RowKit C26

set_option maxHeartbeats 8000000 in
set_option maxRecDepth 100000 in
theorem decode_any (bd : Option Addr) (bc : Nat) (bl : List UInt8) (n : Int) (w : World) (hb : Bytes w bd bl) (hnil : bd = none → bc = 0) (hle : bl.length ≤ bc) (hl : bl.length ≤ 5000000) :
    Calls Tryz.prog 45 #[.slice bd bl.length bc, .int .i64 n] w (DecRes (bitsOf true bl) n w) := by
  have HWi := Lib.hid (within_any n 1 2048 w)
  obtain ⟨B, hB⟩ : ∃ B, B = inB n 1 2048 := ⟨_, rfl⟩
  rw [← hB] at HWi
  cases B with
  | false =>
    have HTo : Hid (DecTo (bitsOf true bl) n (dErr 2)) := Lib.hid (Or.inl ⟨hB.symm, rfl⟩)
    clear hB
    go_enter Tryz.func45, Tryz.ntmps45
    go_wp2_with fail
    refine HWi.out.mono ?_
    rintro e w1 ⟨rfl, hw1⟩
    obtain rfl := hw1.symm
    go_wp2_with fail
    refine bodyPost_ret (v := .tuple #[.int .i64 0, .slice none 0 0, .int .i64 0, .int .i64 2]) (by simp [results, Tryz.results45, go_sem]) rfl (decRes_err HTo.out (Ext.refl _ _))
  | true =>
    have HIn := Lib.hid hB.symm
    obtain ⟨hn1, hn2⟩ := inB_true.1 hB.symm
    obtain ⟨N, rfl⟩ : ∃ N : Nat, n = (N : Int) := ⟨n.toNat, by omega⟩
    have hN1 : 1 ≤ N := by omega
    have hN2 : N ≤ 2048 := by omega
    have HR := Lib.hid (read_any2 bd bc bl true w hb hnil hle (by omega))
    clear hB hb
    go_enter Tryz.func45, Tryz.ntmps45
    go_wp2_with fail
    refine HWi.out.mono ?_
    rintro e w1 ⟨rfl, hw1⟩
    obtain rfl := hw1.symm
    clear HWi
    go_wp2_with fail
    refine HR.out.mono ?_
    rintro e w2 ⟨rb, a, c, rfl, hRd, hE2, hrb1, hrb2, hfa, halt⟩
    clear HR
    obtain ⟨rr, hrr⟩ : ∃ rr, rr = w2.heap.size := ⟨_, rfl⟩
    obtain ⟨w3, hw3⟩ : ∃ z, z = w2.alloc (.cells #[.pointer (some ⟨rb, 0, none⟩), .int .i64 0] 132) := ⟨_, rfl⟩
    have hRS : RS w3 rr rb bl (0, 0) a c :=
      ⟨by rw [hw3, hrr]; exact BlockIs.new w2 _ _, hw3 ▸ hRd.ext (ext_alloc w2 _) id (fun _ _ => id), Nat.zero_le _, by omega, fun g hg e => by have := halt g hg; omega⟩
    have hP3 : Pure w w3 := hw3 ▸ hE2.pure (ext_alloc w2 _)
    have hz3 : rr < w3.heap.size := hRS.blk.lt
    have hwr : w.heap.size ≤ rr := by rw [hrr]; exact hE2.size
    have halt3 : ∀ g, a = some g → g.block < w3.heap.size := fun g hg => by have := halt g hg; omega
    have HH := Lib.hid (head_any rr rb bl a c w3 hRS (by omega) halt3)
    have HW3 := Lib.hid hw3
    have HRr := Lib.hid hrr
    clear hRS hw3 hrr hRd hE2 halt
    go_wp2_with fail
    rw [← HRr.out, ← HW3.out]
    refine HH.out.mono ?_
    rintro e w4 ⟨v1, v2, v3, v4, v5, v7, v9, v10, v11, v12, q, er, rfl, hS4, hX4, hD⟩
    have hP4 : Pure w w4 := hP3.trans hX4 (fun i hi e => by rcases e with e | e <;> omega)
    have HD := Lib.hid hD
    obtain ⟨hb, hhb⟩ : ∃ z, z = w4.heap.size := ⟨_, rfl⟩
    have hrb4 : rr < hb ∧ rb < hb := ⟨by rw [hhb]; exact hS4.blk.lt, by rw [hhb]; exact hS4.rd.blk.lt⟩
    have halt4 : ∀ g, a = some g → g.block < hb := fun g hg => by
      have h1 := halt3 g hg
      have h2 := hX4.size
      omega
    obtain ⟨w5z, hw5z⟩ : ∃ z, z = w4.alloc (.cells #[.int .i64 0, .int .i64 0, .int .i64 0, .int .i64 0, .int .i64 0, .int .i64 0, .int .i64 0, .int .i64 0, .int .i64 0, .int .i64 0] 134) := ⟨_, rfl⟩
    have hZ : BlockIs w5z hb [.int .i64 0, .int .i64 0, .int .i64 0, .int .i64 0, .int .i64 0, .int .i64 0, .int .i64 0, .int .i64 0, .int .i64 0, .int .i64 0] 134 := by rw [hw5z, hhb]; exact BlockIs.new w4 _ _
    have hP5z : Pure w4 w5z := hw5z ▸ ext_alloc w4 _
    obtain ⟨w5, hw5⟩ : ∃ z, z = w5z.setCells hb 0 [.int .i64 (v1 : Nat), .int .i64 (v2 : Nat), .int .i64 (v3 : Nat), .int .i64 (v4 : Nat), .int .i64 (v5 : Nat), .int .i64 (v7 : Nat), .int .i64 (v9 : Nat), .int .i64 (v10 : Nat), .int .i64 (v11 : Nat), .int .i64 (v12 : Nat)] := ⟨_, rfl⟩
    have hH5 : BlockIs w5 hb [.int .i64 (v1 : Nat), .int .i64 (v2 : Nat), .int .i64 (v3 : Nat), .int .i64 (v4 : Nat), .int .i64 (v5 : Nat), .int .i64 (v7 : Nat), .int .i64 (v9 : Nat), .int .i64 (v10 : Nat), .int .i64 (v11 : Nat), .int .i64 (v12 : Nat)] 134 := hw5 ▸ hZ.setAll [.int .i64 (v1 : Nat), .int .i64 (v2 : Nat), .int .i64 (v3 : Nat), .int .i64 (v4 : Nat), .int .i64 (v5 : Nat), .int .i64 (v7 : Nat), .int .i64 (v9 : Nat), .int .i64 (v10 : Nat), .int .i64 (v11 : Nat), .int .i64 (v12 : Nat)] rfl
    have hX5 : Ext (fun i => i = hb) w5z w5 := hw5 ▸ Ext.setCells (S := fun i => i = hb) [.int .i64 (v1 : Nat), .int .i64 (v2 : Nat), .int .i64 (v3 : Nat), .int .i64 (v4 : Nat), .int .i64 (v5 : Nat), .int .i64 (v7 : Nat), .int .i64 (v9 : Nat), .int .i64 (v10 : Nat), .int .i64 (v11 : Nat), .int .i64 (v12 : Nat)] 0 w5z (Ext.refl _ _) (fun _ => rfl)
    have hS5 := (hS4.pure hP5z).ext hX5 (fun e => by have e' : rr = hb := e; omega) (fun e => by have e' : rb = hb := e; omega) (fun g hg e => by have := halt4 g hg; have e' : g.block = hb := e; omega)
    have hP5 : Pure w w5 := (hP4.pure hP5z).trans hX5 (fun i hi e => by have e' : i = hb := e; omega)
    have hAll : (#[.int .i64 (v1 : Nat), .int .i64 (v2 : Nat), .int .i64 (v3 : Nat), .int .i64 (v4 : Nat), .int .i64 (v5 : Nat), .int .i64 (v7 : Nat), .int .i64 (v9 : Nat), .int .i64 (v10 : Nat), .int .i64 (v11 : Nat), .int .i64 (v12 : Nat)] : Array Value).all (fun v => v.oneCell') = true := all_oneCell_toArray (cs := [.int .i64 (v1 : Nat), .int .i64 (v2 : Nat), .int .i64 (v3 : Nat), .int .i64 (v4 : Nat), .int .i64 (v5 : Nat), .int .i64 (v7 : Nat), .int .i64 (v9 : Nat), .int .i64 (v10 : Nat), .int .i64 (v11 : Nat), .int .i64 (v12 : Nat)]) (by intro v hv; simp only [List.mem_cons, List.not_mem_nil, or_false] at hv; rcases hv with rfl | rfl | rfl | rfl | rfl | rfl | rfl | rfl | rfl | rfl <;> rfl)
    have hThere := hZ.there 10 rfl
    have HAll := Lib.hid hAll
    have HW5z := Lib.hid hw5z
    have HW5 := Lib.hid hw5
    have HHb := Lib.hid hhb
    have g5 : w5.cell? ⟨rr, 0 + 1, none⟩ = some (.int .i64 er) := hS5.blk.cell 1
    have hsz5 : hb < w5.heap.size := hH5.lt
    clear HH hS4 hX4 hP3 HW3 HRr hZ hw5 hw5z hhb hX5 hAll hD hP4 hP5z
    by_cases he : er = 0
    · subst he
      have hD0 : 288 ≤ (bitsOf true bl).length ∧ HeadOk (bitsOf true bl) ∧ q = 288 ∧ v1 = h0 (bitsOf true bl) ∧ v2 = h1 (bitsOf true bl) ∧ v3 = h2 (bitsOf true bl) ∧ v4 = h3 (bitsOf true bl) ∧ v5 = h4 (bitsOf true bl) ∧ v7 = h6 (bitsOf true bl) ∧ v9 = h8 (bitsOf true bl) ∧ v10 = h9 (bitsOf true bl) ∧ v11 = h10 (bitsOf true bl) ∧ v12 = h11 (bitsOf true bl) := by
        rcases HD.out with ⟨_, h2⟩ | ⟨h1, ⟨_, h3⟩ | ⟨h2, _, h4⟩⟩
        · cases h2
        · cases h3
        · exact ⟨h1, h2, h4⟩
      obtain ⟨d1, d2, rfl, e1, e2, e3, e4, e5, e7, e9, e10, e11, e12⟩ := hD0
      have hPg := pages_any rr rb bl a c N w5 hS5 d2 hN1 hN2 hl (fun g hg => by have := halt4 g hg; omega)
      have eV : (headV (bitsOf true bl)).toArray = #[.int .i64 (v1 : Nat), .int .i64 (v2 : Nat), .int .i64 (v3 : Nat), .int .i64 (v4 : Nat), .int .i64 (v5 : Nat), .int .i64 (v7 : Nat), .int .i64 (v9 : Nat), .int .i64 (v10 : Nat), .int .i64 (v11 : Nat), .int .i64 (v12 : Nat)] := by rw [e1, e2, e3, e4, e5, e7, e9, e10, e11, e12]; rfl
      rw [eV] at hPg
      have HPg := Lib.hid hPg
      have HE2 := Lib.hid e2
      have HDk := Lib.hid (And.intro d1 d2)
      have hR5 := hH5.range
      have hlo : ∀ i, i < w.heap.size → RdS rr rb i → False := fun i hi e => by rcases e with e | e <;> omega
      clear hPg eV e1 e2 e3 e4 e5 e7 e9 e10 e11 e12 d1 d2 HD
      go_wp2_with (first | (refine wpList_store_mid rfl 134 (.tmp 9) (.tmp 19) rfl hb 0 #[.int .i64 (v1 : Nat), .int .i64 (v2 : Nat), .int .i64 (v3 : Nat), .int .i64 (v4 : Nat), .int .i64 (v5 : Nat), .int .i64 (v7 : Nat), .int .i64 (v9 : Nat), .int .i64 (v10 : Nat), .int .i64 (v11 : Nat), .int .i64 (v12 : Nat)] (by rw [HHb.out]; rfl) rfl (by rw [← HW5z.out]; exact hThere) (by kernel_rfl) HAll.out ?_; rw [← HW5z.out, show w5z.setCells hb 0 (#[.int .i64 (v1 : Nat), .int .i64 (v2 : Nat), .int .i64 (v3 : Nat), .int .i64 (v4 : Nat), .int .i64 (v5 : Nat), .int .i64 (v7 : Nat), .int .i64 (v9 : Nat), .int .i64 (v10 : Nat), .int .i64 (v11 : Nat), .int .i64 (v12 : Nat)] : Array Value).toList = w5 from HW5.out.symm]) | (refine wpList_load_mid rfl 134 (.tmp 9) rfl hb 0 (by rw [HHb.out]; rfl) [.int .i64 (v1 : Nat), .int .i64 (v2 : Nat), .int .i64 (v3 : Nat), .int .i64 (v4 : Nat), .int .i64 (v5 : Nat), .int .i64 (v7 : Nat), .int .i64 (v9 : Nat), .int .i64 (v10 : Nat), .int .i64 (v11 : Nat), .int .i64 (v12 : Nat)] _ hR5 Tryz.underlying134 rfl (by kernel_rfl) ?_))
      rw [← HHb.out]
      refine HPg.out.mono ?_
      rintro e w6 ⟨oa, len, oc, q', er, rfl, hS6, hX6, hR⟩
      have hP6 : Pure w w6 := hP5.trans hX6 (fun i hi e => hlo i hi e)
      have hH6 := hH5.ext hX6 (fun e => by rcases e with e | e <;> omega)
      have g6 : w6.cell? ⟨rr, 0 + 1, none⟩ = some (.int .i64 er) := hS6.blk.cell 1
      have HR := Lib.hid hR
      have HSz5 : Hid (w.heap.size ≤ w5.heap.size) := Lib.hid hP5.size
      clear HPg hR hThere g5 hR5 hH5 hS5 hP5 hX6
      by_cases he : er = 0
      · subst he
        have hR0 : Rest1 (bitsOf true bl) N (good (bitsOf true bl) N) ∧ q' = q7 (bitsOf true bl) N ∧ len = N ∧ ∃ ps, Hints w6 oa ps ∧ (ps.length = N ∧ ∀ p ∈ ps, ∀ g, p.sa = some g → w5.heap.size ≤ g.block) ∧ ps.map (fun p => (p.o, p.l, p.sh)) = resV (good (bitsOf true bl) N) := by
          rcases HR.out with ⟨h1, _⟩ | ⟨_, h2⟩
          · exact absurd rfl h1
          · exact h2
        obtain ⟨r1, r2, rfl, ps, r3, r4, r5⟩ := hR0
        have HTo : Hid (DecTo (bitsOf true bl) (len : Int) (good (bitsOf true bl) len)) := Lib.hid (Or.inr ⟨HIn.out, Or.inr ⟨HDk.out.1, Or.inr ⟨HDk.out.2, r1⟩⟩⟩)
        have HQ := Lib.hid r2
        have HPs := Lib.hid (And.intro r3 (And.intro r4 r5))
        have c1 : w6.drew.cell? ⟨hb, 1, none⟩ = some (.int .i64 (v2 : Nat)) := hH6.cell 1
        have c2 : w6.drew.cell? ⟨rr, 0, none⟩ = some (.pointer (some ⟨rb, 0, none⟩)) := hS6.blk.cell 0
        have kc1 := fun w' (hS : Ext (fun _ => False) w6.drew w') => hS.cell_some c1 id
        have kc2 := fun w' (hS : Ext (fun _ => False) w6.drew w') => hS.cell_some c2 id
        have hm8 : ((q' : Nat) : Int).tdiv 8 = ((q' / 8 : Nat) : Int) := by rw [Int.tdiv_eq_ediv_of_nonneg (by omega)]; omega
        have hle8 : q' ≤ 80000000 := by have := hS6.le; simp only at this; omega
        have hw8 : IntKind.i64.wrap (((q' : Nat) : Int) / 8) = ((q' : Nat) : Int) / 8 := IntWalk.i64_in _ (by omega)
        clear r1 r2 r3 r4 r5 HR
        go_wp2_with fail
        refine region_start (fun _ => False) (by kernel_rfl) ?_
        try simp only [Act.put, List.setIfInBounds_toArray, List.set_cons_zero, List.set_cons_succ]
        refine region_take 0 38 (v := ?vdz0) rfl rfl (by kernel_rfl) (by kernel_rfl) (by kernel_rfl) (fun _ _ _ h => h) (by rfl) (fun w' hS => ?hdz0) ?rdz0
        case hdz0 => go_simp; with_reducible rfl
        try simp only [Act.put, List.setIfInBounds_toArray, List.set_cons_zero, List.set_cons_succ]
        refine region_take 1 39 (v := ?vdz1) rfl rfl (by kernel_rfl) (by kernel_rfl) (by kernel_rfl) (fun _ _ _ h => h) (by rfl) (fun w' hS => ?hdz1) ?rdz1
        case hdz1 => go_simp; with_reducible rfl
        try simp only [Act.put, List.setIfInBounds_toArray, List.set_cons_zero, List.set_cons_succ]
        refine region_take 2 40 (v := ?vdz2) rfl rfl (by kernel_rfl) (by kernel_rfl) (by kernel_rfl) (fun _ _ _ h => h) (by rfl) (fun w' hS => ?hdz2) ?rdz2
        case hdz2 => go_simp; with_reducible rfl
        try simp only [Act.put, List.setIfInBounds_toArray, List.set_cons_zero, List.set_cons_succ]
        refine region_take 3 41 (v := ?vdz3) rfl rfl (by kernel_rfl) (by kernel_rfl) (by kernel_rfl) (fun _ _ _ h => h) (by rfl) (fun w' hS => ?hdz3) ?rdz3
        case hdz3 => go_simp; with_reducible rfl
        try simp only [Act.put, List.setIfInBounds_toArray, List.set_cons_zero, List.set_cons_succ]
        refine region_take 4 42 (v := ?vdz4) rfl rfl (by kernel_rfl) (by kernel_rfl) (by kernel_rfl) (fun _ _ _ h => h) (by rfl) (fun w' hS => ?hdz4) ?rdz4
        case hdz4 => go_simp; with_reducible rfl
        try simp only [Act.put, List.setIfInBounds_toArray, List.set_cons_zero, List.set_cons_succ]
        refine region_take 5 43 (v := ?vdz5) rfl rfl (by kernel_rfl) (by kernel_rfl) (by kernel_rfl) (fun _ _ _ h => h) (by rfl) (fun w' hS => ?hdz5) ?rdz5
        case hdz5 => go_simp; with_reducible rfl
        try simp only [Act.put, List.setIfInBounds_toArray, List.set_cons_zero, List.set_cons_succ]
        refine region_take 6 44 (v := ?vdz6) rfl rfl (by kernel_rfl) (by kernel_rfl) (by kernel_rfl) (fun _ _ _ h => h) (by rfl) (fun w' hS => ?hdz6) ?rdz6
        case hdz6 => go_simp; with_reducible rfl
        try simp only [Act.put, List.setIfInBounds_toArray, List.set_cons_zero, List.set_cons_succ]
        refine wpAnyH_ready (rs := [7]) (by kernel_rfl) (by simp) (AllReadyH.cons rfl (fun K hK => ?_) AllReadyH.nil)
        go_simp
        refine (at_any rb true bl q' a c _ (hS6.rd.ext ((Ext.refl (fun _ => False) w6).drew) id (fun _ _ => id))).mono ?_
        rintro e w13 ⟨rfl, rfl⟩
        refine hK.out _ _ (Ext.refl _ _) (fun hHeld => ?_)
        clear hK K hHeld
        refine region_now (Ext.refl _ _) ?_
        try simp only [Act.put, List.setIfInBounds_toArray, List.set_cons_zero, List.set_cons_succ]
        refine region_take 8 46 (v := ?vdz8) rfl rfl (by kernel_rfl) (by kernel_rfl) (by kernel_rfl) (fun _ _ _ h => h) (by rfl) (fun w' hS => ?hdz8) ?rdz8
        case hdz8 => go_simp; with_reducible rfl
        try simp only [Act.put, List.setIfInBounds_toArray, List.set_cons_zero, List.set_cons_succ]
        refine region_take 9 4 (v := ?vdz9) rfl rfl (by kernel_rfl) (by kernel_rfl) (by kernel_rfl) (fun _ _ _ h => h) (by rfl) (fun w' hS => ?hdz9) ?rdz9
        case hdz9 => go_simp; with_reducible rfl
        try simp only [Act.put, List.setIfInBounds_toArray, List.set_cons_zero, List.set_cons_succ]
        refine region_take 10 5 (v := ?vdz10) rfl rfl (by kernel_rfl) (by kernel_rfl) (by kernel_rfl) (fun _ _ _ h => h) (by rfl) (fun w' hS => ?hdz10) ?rdz10
        case hdz10 => go_simp; with_reducible rfl
        try simp only [Act.put, List.setIfInBounds_toArray, List.set_cons_zero, List.set_cons_succ]
        refine region_take 11 6 (v := ?vdz11) rfl rfl (by kernel_rfl) (by kernel_rfl) (by kernel_rfl) (fun _ _ _ h => h) (by rfl) (fun w' hS => ?hdz11) ?rdz11
        case hdz11 => go_simp; with_reducible rfl
        try simp only [Act.put, List.setIfInBounds_toArray, List.set_cons_zero, List.set_cons_succ]
        refine region_take 12 7 (v := ?vdz12) rfl rfl (by kernel_rfl) (by kernel_rfl) (by kernel_rfl) (fun _ _ _ h => h) (by rfl) (fun w' hS => ?hdz12) ?rdz12
        case hdz12 => go_simp; with_reducible rfl
        try simp only [Act.put, List.setIfInBounds_toArray, List.set_cons_zero, List.set_cons_succ]
        refine wpAnyH_done (by kernel_rfl) ?_ _
        clear kc1 kc2 c1 c2
        go_wp2_with fail
        refine bodyPost_ret (v := .tuple #[.int .i64 (v2 : Nat), .slice oa len oc, .int .i64 ((q' / 8 : Nat) : Int), .int .i64 0]) (by simp [results, Tryz.results45, go_sem, hw8]) rfl ?_
        refine ⟨good (bitsOf true bl) len, ps, oa, oc, ?_, HTo.out, HPs.out.2.2, HPs.out.1.pure ((Ext.refl (fun _ => False) w6).drew), ⟨by rw [HPs.out.2.1.1]; omega, fun p hp g hg => by have h1 := HPs.out.2.1.2 p hp g hg; have h2 := HSz5.out; omega⟩, hP6.drew⟩
        rw [HPs.out.2.1.1, HE2.out, HQ.out]; rfl
      · have hne : (er != 0) = true := by simpa using he
        have HTo : Hid (DecTo (bitsOf true bl) (N : Int) (dErr er)) := Lib.hid (Or.inr ⟨HIn.out, Or.inr ⟨HDk.out.1, Or.inr ⟨HDk.out.2, by
          rcases HR.out with ⟨_, h⟩ | ⟨h, _⟩
          · exact h
          · exact absurd h he⟩⟩⟩)
        clear he HR
        go_wp2_with fail
        go_quiet (fail)
        go_wp2_with fail
        refine bodyPost_ret (v := .tuple #[.int .i64 0, .slice none 0 0, .int .i64 0, .int .i64 er]) (by simp [results, Tryz.results45, go_sem]) rfl (decRes_err HTo.out (hP6.drewN _))
    · have hne : (er == 0) = false := by simpa using he
      have hne2 : (er != 0) = true := by simpa using he
      have HTo : Hid (DecTo (bitsOf true bl) (N : Int) (dErr er)) := Lib.hid (Or.inr ⟨HIn.out, by
        rcases HD.out with ⟨h1, h2⟩ | ⟨h1, ⟨h2, h3⟩ | ⟨h2, h3, _⟩⟩
        · exact Or.inl ⟨h1, by rw [h2]⟩
        · exact Or.inr ⟨h1, Or.inl ⟨h2, by rw [h3]⟩⟩
        · exact absurd h3 he⟩)
      clear he
      go_wp2_with (refine wpList_store_mid rfl 134 (.tmp 9) (.tmp 19) rfl hb 0 #[.int .i64 (v1 : Nat), .int .i64 (v2 : Nat), .int .i64 (v3 : Nat), .int .i64 (v4 : Nat), .int .i64 (v5 : Nat), .int .i64 (v7 : Nat), .int .i64 (v9 : Nat), .int .i64 (v10 : Nat), .int .i64 (v11 : Nat), .int .i64 (v12 : Nat)] (by rw [HHb.out]; rfl) rfl (by rw [← HW5z.out]; exact hThere) (by kernel_rfl) HAll.out ?_; rw [← HW5z.out, show w5z.setCells hb 0 (#[.int .i64 (v1 : Nat), .int .i64 (v2 : Nat), .int .i64 (v3 : Nat), .int .i64 (v4 : Nat), .int .i64 (v5 : Nat), .int .i64 (v7 : Nat), .int .i64 (v9 : Nat), .int .i64 (v10 : Nat), .int .i64 (v11 : Nat), .int .i64 (v12 : Nat)] : Array Value).toList = w5 from HW5.out.symm])
      clear hThere
      go_quiet (fail)
      go_wp2_with fail
      refine bodyPost_ret (v := .tuple #[.int .i64 0, .slice none 0 0, .int .i64 0, .int .i64 er]) (by simp [results, Tryz.results45, go_sem]) rfl (decRes_err HTo.out (hP5.drewN _))
end Go.Proofs.YtomcdhljjmnahaaGreat.P26
namespace Go.Proofs.YtomcdhljjmnahaaGreat.P26
set_option linter.unusedVariables false
set_option linter.unusedSimpArgs false
open Go.RowKit C26

set_option maxRecDepth 100000 in
theorem low_any (x n : Nat) (w : World) (hx : x < 4294967296) (hn : n ≤ 32) :
    Calls Tryz.prog 135 #[.int .u32 x, .int .i64 n] w fun e w' => e = .returned (.int .i64 ((x % 2 ^ n : Nat) : Int)) ∧ w' = w := by
  obtain ⟨R, hR⟩ : ∃ R, R = x % 2 ^ n := ⟨_, rfl⟩
  rw [← hR]
  have HR := Lib.hid hR
  clear hR
  go_enter Tryz.func135, Tryz.ntmps135
  go_wp2_with fail
  go_loop [5, 6] (fun m i => ∃ k M : Nat, k ≤ n ∧ i = .int .i64 k ∧ m = .int .u64 M ∧ Hid (M = 2 ^ k) ∧ 1 ≤ M ∧ M ≤ 4294967296) (fun _ i => n - (intOf i).toNat)
  case atStart => exact ⟨0, 1, Nat.zero_le _, rfl, rfl, Lib.hid rfl, by omega, by omega⟩
  case round =>
    obtain ⟨k, M, hk, rfl, rfl, HM, h1, h2⟩ := hrel
    by_cases hlt : k < n
    · have hki : (k : Int) < (n : Int) := by omega
      have HM2 : Hid (M * 2 = 2 ^ (k + 1)) := Lib.hid (by rw [HM.out, Nat.pow_succ])
      have h3 : M * 2 ≤ 4294967296 := by rw [HM2.out]; exact Nat.pow_le_pow_right (by decide) (show k + 1 ≤ 32 by omega)
      go_wp2_with fail
      go_round
      case rel => exact ⟨k + 1, M * 2, by omega, by go_num, by go_num, HM2, by omega, h3⟩
      case measure => simp [intOf]; omega
    · have hki : ¬ (k : Int) < (n : Int) := by omega
      have HRM : Hid (R = x % M) := Lib.hid (by rw [HR.out, HM.out]; congr 2; omega)
      have hmod : (x : Int) % (M : Int) = ((x % M : Nat) : Int) := by omega
      have hlt2 : x % M < 4294967296 := Nat.lt_of_le_of_lt (Nat.mod_le _ _) hx
      obtain ⟨q, hq⟩ : ∃ q, q = x % M := ⟨_, rfl⟩
      rw [← hq] at hmod hlt2 HRM
      clear hq
      go_wp2_with fail
      go_ret
      exact ⟨by rw [HRM.out]; rfl, rfl⟩

set_option maxRecDepth 100000 in
theorem tsfill {T : TypeId} {w W : World} {cells : List Value} {bs : List Bool} {a : Option Addr} {c : Nat} (h : TS T w W cells bs a c) (n wd x : Nat) (hlen : bs.length ≤ 10000000) (hn : n ≤ 200000) (hwd : wd ≤ 32) (hx : x < 4294967296) :
    Calls Tryz.prog 110 #[.slice a bs.length c, .int .i64 n, .int .i64 wd, .int .u32 x] W (PutRes T w cells (align (bs ++ fillN n wd x)) W) := by
  have HL := Lib.hid (fun W => low_any x wd W hx hwd)
  have hlow : x % 2 ^ wd < 2 ^ wd := Nat.mod_lt _ (Nat.two_pow_pos wd)
  obtain ⟨y, hy⟩ : ∃ y, y = x % 2 ^ wd := ⟨_, rfl⟩
  have hy32 : y < 4294967296 := hy ▸ Nat.lt_of_le_of_lt (Nat.mod_le _ _) hx
  have HY := Lib.hid hy
  rw [← hy] at hlow HL
  have HLow := Lib.hid hlow
  clear hy hlow
  go_enter Tryz.func110, Tryz.ntmps110
  go_wp2_with fail
  go_loopw [0, 9] (fun v i W' => ∃ (k : Nat) (oa : Option Addr) (oc : Nat), k ≤ n ∧ i = .int .i64 k ∧ v = .slice oa (bs ++ fillN k wd x).length oc ∧ TS T w W' cells (bs ++ fillN k wd x) oa oc ∧ Ext (fun i => w.heap.size < i) W W') (fun _ i _ => n - (intOf i).toNat)
  case atStart =>
    have e : fillN 0 wd x = [] := List.length_eq_zero_iff.1 (by rw [fillN_len, Nat.zero_mul])
    exact ⟨0, a, c, Nat.zero_le _, rfl, by rw [e, List.append_nil], by rw [e, List.append_nil]; exact h, Ext.refl _ _⟩
  case round =>
    obtain ⟨k, oa, oc, hk, rfl, rfl, hT, hE⟩ := hrel
    have hlk : (bs ++ fillN k wd x).length ≤ 100000000 := by
      rw [List.length_append, fillN_len]
      have : k * wd ≤ 200000 * 32 := Nat.mul_le_mul (by omega) hwd
      omega
    have HS := Lib.hid (fillN_succ k wd x)
    obtain ⟨pq, hpq⟩ : ∃ p, p = bs ++ fillN k wd x := ⟨_, rfl⟩
    rw [← hpq] at hlk hT ⊢
    have HPQ := Lib.hid hpq
    clear hpq h
    by_cases hlt : k < n
    · have hki : (k : Int) < (n : Int) := by omega
      have HPut := Lib.hid (tsput hT y wd (by omega) hwd hy32 HLow.out)
      have HPS : Hid (pq ++ bitsNum true y wd = bs ++ fillN (k + 1) wd x) := Lib.hid (by rw [HS.out, ← HY.out, HPQ.out, List.append_assoc]; rfl)
      clear hT
      go_wp2_with fail
      refine (HL.out _).mono ?_
      rintro e w2 ⟨rfl, hw2⟩
      obtain rfl := hw2.symm
      go_wp2_with fail
      refine HPut.out.mono ?_
      rintro e w3 ⟨a3, c3, rfl, hT3, hE3⟩
      rw [HPS.out] at hT3
      rw [HPS.out]
      go_wp2_with fail
      go_roundw
      case rel => exact ⟨k + 1, a3, c3, by omega, by go_num, by rw [List.length_append], hT3, hE.trans hE3 (fun _ _ e => e)⟩
      case measure => simp [intOf]; omega
    · have hki : ¬ (k : Int) < (n : Int) := by omega
      obtain rfl : n = k := by omega
      have HF := Lib.hid (tsfull hT (by omega))
      clear hT
      go_wp2_with fail
      refine HF.out.mono ?_
      rintro e w3 ⟨a3, c3, rfl, hT3, hE3⟩
      go_wp2_with fail
      go_ret
      exact ⟨a3, c3, by rw [HPQ.out]; rfl, by rw [← HPQ.out]; exact hT3, hE.trans hE3 (fun _ _ e => e)⟩
end Go.Proofs.YtomcdhljjmnahaaGreat.P26
namespace Go.Proofs.YtomcdhljjmnahaaGreat.P26
set_option linter.unusedVariables false
set_option linter.unusedSimpArgs false
open Go.RowKit C26

set_option maxHeartbeats 16000000 in
set_option maxRecDepth 100000 in
theorem table_any (a : Nat) (ad : Option Addr) (c : Nat) (ps : List PH) (rf rp rq fill : Nat) (w : World) (hW : Hints w ad ps) (hm : Mod ps) (hk : ChkOk a ps) (hf : rf ≤ 255) (hp : rp ≤ 255) (hq : rq ≤ 255) (hfill : fill < 4294967296) :
    Calls Tryz.prog 75 #[.int .i64 a, .slice ad ps.length c, .agg #[.int .u8 rf, .int .u8 rp, .int .u8 rq, .int .u32 fill]] w fun e w' => ∃ ra rc, e = .returned (.slice ra (pack true (tabB a (toN ps) ⟨rf % 33, rp % 33, rq % 33, fill⟩)).length rc) ∧ w'.ownsRow w.heap.size 5 1 (.slice ra (pack true (tabB a (toN ps) ⟨rf % 33, rp % 33, rq % 33, fill⟩)).length rc) (pack true (tabB a (toN ps) ⟨rf % 33, rp % 33, rq % 33, fill⟩)).length ((pack true (tabB a (toN ps) ⟨rf % 33, rp % 33, rq % 33, fill⟩)).map byV) ∧ Pure w w' := by
  obtain ⟨h, hh⟩ : ∃ h, h = toN ps := ⟨_, rfl⟩
  obtain ⟨n, hn⟩ : ∃ n, n = ps.length := ⟨_, rfl⟩
  obtain ⟨f, hf'⟩ : ∃ f, f = rf % 33 := ⟨_, rfl⟩
  obtain ⟨p, hp'⟩ : ∃ p, p = rp % 33 := ⟨_, rfl⟩
  obtain ⟨q, hq'⟩ : ∃ q, q = rq % 33 := ⟨_, rfl⟩
  rw [← hh, ← hn, ← hf', ← hp', ← hq']
  have hok : h.Ok := hh ▸ hk.ok
  have hnl : h.os.length = n := by rw [hh, hn, toN_os_len]
  have hn1 : 1 ≤ n := by have := hok.pos; omega
  have hn40 : n ≤ 40 := by have := hok.le; omega
  have hal : a ≤ 2147483647 := by have := hk.a; omega
  have hfl : f ≤ 32 := by omega
  have hpl : p ≤ 32 := by omega
  have hql : q ≤ 32 := by omega
  have hfm : ((rf : Nat) : Int) % 33 = (f : Int) := by omega
  have hpm : ((rp : Nat) : Int) % 33 = (p : Int) := by omega
  have hqm : ((rq : Nat) : Int) % 33 = (q : Int) := by omega
  have HPg := Lib.hid (fun W (hP : Pure w W) k (hk' : k < n) => page_at (hW.pure hP) hk.nat hm hh hn k hk')
  have HOK := Lib.hid hok
  have HNL := Lib.hid hnl
  have HFM := Lib.hid hfm
  have HPM := Lib.hid hpm
  have HQM := Lib.hid hqm
  obtain ⟨w1, hw1⟩ : ∃ w1, w1 = w.alloc (.cells #[.int .u8 rf, .int .u8 rp, .int .u8 rq, .int .u32 fill] 119) := ⟨_, rfl⟩
  have hB1 : BlockIs w1 w.heap.size [.int .u8 rf, .int .u8 rp, .int .u8 rq, .int .u32 fill] 119 := hw1 ▸ BlockIs.new w _ _
  have hP1 : Pure w w1 := hw1 ▸ ext_alloc w _
  clear hW hm hk hok hnl hfm hpm hqm hh hn hf' hp' hq'
  obtain ⟨b0, o0, on0, ln0, sa0, sc0, xs0, had, p0, p1, p2, hsub0, e0, e1, e2, bo0, bl0, bs0, bx0, bx1, bx2⟩ := HPg.out w1 hP1 0 (by omega)
  have hh0 : on0 = h.os.headD 0 := by
    have := HOK.out.pos
    cases hos : h.os with
    | nil => rw [hos] at e0; cases e0
    | cons x xs => rw [hos] at e0; simp at e0; simp [e0]
  have hh1 : ln0 = h.ls.headD 0 := by
    cases hos : h.ls with
    | nil => rw [hos] at e1; cases e1
    | cons x xs => rw [hos] at e1; simp at e1; simp [e1]
  subst had
  have HH0 : Hid (Acc h 0 on0 on0 ln0 ln0 0 0 0) := Lib.hid ⟨by rw [hh0]; rfl, by rw [hh0]; rfl, by rw [hh1]; rfl, by rw [hh1]; rfl, rfl, rfl, rfl⟩
  have hB0 : 0 < n := by omega
  have hB0i : (0 : Int) < (n : Int) := by omega
  simp only [Nat.zero_mul, Nat.add_zero] at p0 p1
  clear e0 e1 e2 hsub0 hh0 hh1 p2 bs0
  go_enter Tryz.func75, Tryz.ntmps75
  go_wp2_with fail
  rw [← hw1]
  clear hw1
  go_quiet (fail)
  have hB2 := hB1.drewN nq
  have hP2 : Pure w (w1.drewN nq) := hP1.drewN nq
  clear p0 p1 hB1 hP1
  go_wp2_with fail
  obtain ⟨wA, hwA⟩ : ∃ W : World, W = w1.drewN nq := ⟨_, rfl⟩
  rw [← hwA] at hB2 hP2
  rw [← hwA]
  clear hwA
  go_loopw [7, 8, 9, 10, 11, 12, 13, 14, 15] (fun s7 s8 s9 s10 s11 s12 s13 i _ W => ∃ (k lo hi sh lg ct sd mn : Nat), k ≤ n ∧ i = .int .i64 k ∧ s7 = .int .i64 lo ∧ s8 = .int .i64 hi ∧ s9 = .int .i64 sh ∧ s10 = .int .i64 lg ∧ s11 = .int .i64 ct ∧ s12 = .int .i64 sd ∧ s13 = .int .i64 mn ∧ Hid (Acc h k lo hi sh lg ct sd mn) ∧ (lo ≤ 4096 ∧ hi ≤ 4096 ∧ sh ≤ 2147483647 ∧ lg ≤ 2147483647) ∧ (ct ≤ 3000 ∧ sd ≤ 4095 ∧ mn ≤ 3000 * k) ∧ Pure wA W) (fun _ _ _ _ _ _ _ i _ _ => n - (intOf i).toNat)
  case atStart => exact ⟨0, on0, on0, ln0, ln0, 0, 0, 0, Nat.zero_le _, rfl, rfl, rfl, rfl, rfl, rfl, rfl, rfl, HH0, ⟨by omega, by omega, by omega, by omega⟩, ⟨by omega, by omega, by omega⟩, Ext.refl _ _⟩
  case round =>
    obtain ⟨k, lo, hi, sh, lg, ct, sd, mn, hk, rfl, rfl, rfl, rfl, rfl, rfl, rfl, rfl, HA, ⟨u1, u2, u3, u4⟩, ⟨u5, u6, u7⟩, hPr⟩ := hrel
    by_cases hlt : k < n
    · have hki : (k : Int) < (n : Int) := by omega
      obtain ⟨b, o, on, ln, sa, sc, xs, had, p0, p1, p2, hsub, e0, e1, e2, bo, bl, bs, bx0, bx1, bx2⟩ := HPg.out wr (hP2.pure hPr) k hlt
      cases had
      have HSub := Lib.hid hsub
      have HE := Lib.hid (And.intro e0 (And.intro e1 e2))
      obtain ⟨xn, hxn⟩ : ∃ m, m = xs.length := ⟨_, rfl⟩
      have HXN := Lib.hid hxn
      rw [← hxn] at p2 bx0 bx1
      clear e0 e1 e2 hsub hxn bo0 bl0
      go_wp2_with fail
      go_quiet (fail)
      go_wp2_with fail
      go_quiet (fail)
      go_wp2_with fail
      go_loop [12, 15] (fun m i => ∃ (j t : Nat), j ≤ xn ∧ i = .int .i64 j ∧ m = .int .i64 t ∧ Hid (t = mx ((h.shs.take k).flatten ++ xs.take j)) ∧ t ≤ 4095) (fun _ i => xn - (intOf i).toNat)
      case atStart => exact ⟨0, sd, Nat.zero_le _, rfl, rfl, Lib.hid (by rw [List.take_zero, List.append_nil]; exact HA.out.sd), u6⟩
      case round =>
        obtain ⟨j, t, hj, rfl, rfl, HT, ht⟩ := hrel
        by_cases hjt : j < xn
        · have hji : (j : Int) < (xn : Int) := by omega
          have hjx : j < xs.length := by rw [← HXN.out]; exact hjt
          obtain ⟨x, hx⟩ : ∃ x, x = xs[j] := ⟨_, rfl⟩
          obtain ⟨sb, so, rfl, hsc⟩ := HSub.out j (intV x) (by rw [List.getElem?_map, List.getElem?_eq_getElem hjx, hx]; rfl)
          have hsc2 : wr.cell? ⟨sb, so + j, none⟩ = some (.int .i64 x) := hsc
          have hx4 : x ≤ 4095 := hx ▸ bs.out _ (List.getElem_mem hjx)
          have HT2 : Hid (max t x = mx ((h.shs.take k).flatten ++ xs.take (j + 1))) := Lib.hid (by rw [mx_snoc_at (List.getElem?_eq_getElem hjx), ← HT.out, hx])
          clear hx hsc hjx
          go_wp2_with fail
          go_round
          case rel => exact ⟨j + 1, max t x, by omega, by go_num, by congr 1; omega, HT2, by omega⟩
          case measure => simp [intOf]; omega
        · have hji : ¬ (j : Int) < (xn : Int) := by omega
          have HT2 : Hid (t = mx ((h.shs.take k).flatten ++ xs)) := Lib.hid (by have := HT.out; rwa [List.take_of_length_le (l := xs) (by rw [← HXN.out]; omega)] at this)
          have HA2 := Lib.hid (HA.out.succ HE.out.1 HE.out.2.1 HE.out.2.2 HT2.out)
          rw [← HXN.out] at HA2
          go_wp2_with fail
          go_roundw
          case rel => exact ⟨k + 1, min lo on, max hi on, min sh ln, max lg ln, max ct xn, t, mn + xn, by omega, by go_num, by congr 1; omega, by congr 1; omega, by congr 1; omega, by congr 1; omega, by congr 1; omega, rfl, by go_num, HA2, ⟨by omega, by omega, by omega, by omega⟩, ⟨by omega, ht, by omega⟩, hPr.drewN _⟩
          case measure => simp [intOf]; omega
    · have hki : ¬ (k : Int) < (n : Int) := by omega
      obtain rfl : n = k := by omega
      obtain ⟨h1, h2, h3, h4, h5, h6, h7⟩ := HA.out.done HOK.out HNL.out.symm
      have hlh : lo ≤ hi := by rw [h1, h2]; exact least_le_most (fun e => by have := HNL.out; rw [e] at this; simp at this; omega)
      have hsl : sh ≤ lg := by rw [h3, h4]; exact least_le_most (fun e => by have := HNL.out; have h8 := HOK.out.ll; rw [e] at h8; simp at h8; omega)
      obtain ⟨da, hda⟩ : ∃ d, d = hi - lo := ⟨_, rfl⟩
      obtain ⟨db, hdb⟩ : ∃ d, d = lg - sh := ⟨_, rfl⟩
      have hdai : (hi : Int) - (lo : Int) = (da : Int) := by omega
      have hdbi : (lg : Int) - (sh : Int) = (db : Int) := by omega
      obtain ⟨wa, hwa⟩ : ∃ l, l = h.wa := ⟨_, rfl⟩
      obtain ⟨wb, hwb⟩ : ∃ l, l = h.wb := ⟨_, rfl⟩
      obtain ⟨wc, hwc⟩ : ∃ l, l = h.wc := ⟨_, rfl⟩
      obtain ⟨wd, hwd⟩ : ∃ l, l = h.wd := ⟨_, rfl⟩
      have hva : wid da = wa := by rw [hwa, hda, h1, h2]; rfl
      have hvb : wid db = wb := by rw [hwb, hdb, h3, h4]; rfl
      have hvc : wid ct = wc := by rw [hwc, h5]; rfl
      have hvd : wid sd = wd := by rw [hwd, h6]; rfl
      have hla : wa ≤ 32 := by rw [← hva]; exact wid_le.2 (by omega)
      have hlb : wb ≤ 32 := by rw [← hvb]; exact wid_le.2 (by omega)
      have hlc : wc ≤ 32 := by rw [← hvc]; exact wid_le.2 (by omega)
      have hld : wd ≤ 32 := by rw [← hvd]; exact wid_le.2 (by omega)
      have HWA := Lib.hid (fun W => hva ▸ refwidth_any da W (by omega))
      have HWB := Lib.hid (fun W => hvb ▸ refwidth_any db W (by omega))
      have HWC := Lib.hid (fun W => hvc ▸ refwidth_any ct W (by omega))
      have HWD := Lib.hid (fun W => hvd ▸ refwidth_any sd W (by omega))
      have HLO := Lib.hid h1
      have HSH := Lib.hid h3
      have HMN := Lib.hid h7
      have HWa := Lib.hid hwa
      have HWb := Lib.hid hwb
      have HWc := Lib.hid hwc
      have HWd := Lib.hid hwd
      have ua : IntKind.u32.wrap (da : Int) = (da : Int) := IntWalk.u32_in _ (by omega)
      have ub : IntKind.u32.wrap (db : Int) = (db : Int) := IntWalk.u32_in _ (by omega)
      have uc : IntKind.u32.wrap (ct : Int) = (ct : Int) := IntWalk.u32_in _ (by omega)
      have ud : IntKind.u32.wrap (sd : Int) = (sd : Int) := IntWalk.u32_in _ (by omega)
      have hQ := hP2.pure hPr
      have hBr := hB2.ext hPr id
      clear h1 h2 h3 h4 h5 h6 h7 hva hvb hvc hvd hwa hwb hwc hwd hda hdb HA HH0 hP2 hB2 hPr bo0 bl0
      go_wp2_with fail
      refine (HWA.out _).mono ?_
      rintro e w2 ⟨rfl, hw2⟩
      obtain rfl := hw2.symm
      go_wp2_with fail
      refine (HWB.out _).mono ?_
      rintro e w2 ⟨rfl, hw2⟩
      obtain rfl := hw2.symm
      go_wp2_with fail
      refine (HWC.out _).mono ?_
      rintro e w2 ⟨rfl, hw2⟩
      obtain rfl := hw2.symm
      go_wp2_with fail
      refine (HWD.out _).mono ?_
      rintro e w2 ⟨rfl, hw2⟩
      obtain rfl := hw2.symm
      clear HWA HWB HWC HWD hdai hdbi ua ub uc ud
      go_wp2_with fail
      have r0 : wr.cell? ⟨w.heap.size, 0, none⟩ = some (.int .u8 rf) := hBr.cell 0
      have r1 : wr.cell? ⟨w.heap.size, 0 + 1, none⟩ = some (.int .u8 rp) := hBr.cell 1
      have r2 : wr.cell? ⟨w.heap.size, 0 + 2, none⟩ = some (.int .u8 rq) := hBr.cell 2
      have r3 : wr.cell? ⟨w.heap.size, 0 + 3, none⟩ = some (.int .u32 fill) := hBr.cell 3
      have v0 : IntKind.i64.wrap (rf : Int) = (rf : Int) := IntWalk.i64_in _ (by omega)
      have v1 : IntKind.i64.wrap (rp : Int) = (rp : Int) := IntWalk.i64_in _ (by omega)
      have v2 : IntKind.i64.wrap (rq : Int) = (rq : Int) := IntWalk.i64_in _ (by omega)
      have m0 : (rf : Int).tmod 33 = (f : Int) := by rw [Int.tmod_eq_emod_of_nonneg (by omega)]; exact HFM.out
      have m1 : (rp : Int).tmod 33 = (p : Int) := by rw [Int.tmod_eq_emod_of_nonneg (by omega)]; exact HPM.out
      have m2 : (rq : Int).tmod 33 = (q : Int) := by rw [Int.tmod_eq_emod_of_nonneg (by omega)]; exact HQM.out
      have n0 := HFM.out
      have n1 := HPM.out
      have n2 := HQM.out
      go_quiet (fail)
      obtain ⟨wC, hwC⟩ : ∃ W : World, W = wr.drewN nq := ⟨_, rfl⟩
      have hQC : Pure w wC := hwC ▸ hQ.drewN nq
      have hBC : BlockIs wC w.heap.size [.int .u8 rf, .int .u8 rp, .int .u8 rq, .int .u32 fill] 119 := hwC ▸ hBr.drewN nq
      rw [← hwC]
      clear hwC r0 r1 r2 r3 v0 v1 v2 m0 m1 m2 n0 n1 n2 hQ hBr
      have r0 : wC.cell? ⟨w.heap.size, 0, none⟩ = some (.int .u8 rf) := hBC.cell 0
      have r3 : wC.cell? ⟨w.heap.size, 0 + 3, none⟩ = some (.int .u32 fill) := hBC.cell 3
      obtain ⟨xx, hxx⟩ : ∃ x, x = RestN.x ⟨f, p, q, fill⟩ := ⟨_, rfl⟩
      have hxx2 : xx = if f + p + q = 0 then 0 else fill := hxx
      have HXX := Lib.hid hxx
      clear hxx
      go_upto_if 152 with (fail)
      go_cut [23] (fun x W => x = .int .i64 xx ∧ W = wC)
      case first =>
        by_cases hz : f + p + q = 0
        · have hzi : ((f : Int) + (p : Int) + (q : Int) == 0) = true := by simp; omega
          have hx0 : xx = 0 := by rw [hxx2, if_pos hz]
          clear hz
          go_wp2_with fail
          go_meet
          exact ⟨by rw [hx0]; rfl, rfl⟩
        · have hzi : ((f : Int) + (p : Int) + (q : Int) == 0) = false := by simp; omega
          have hx0 : xx = fill := by rw [hxx2, if_neg hz]
          clear hz
          go_wp2_with fail
          go_meet
          exact ⟨by rw [hx0], rfl⟩
      case rest =>
        obtain ⟨rfl, hwx⟩ := hcut
        obtain rfl := hwx.symm
        have hxl : xx < 4294967296 := by rw [hxx2]; split <;> omega
        clear hxx2
        have hT0 := TS.start hBC hQC
        have L0 := Lib.hid (show ([] : List Bool).length = 0 from rfl)
        have hm0 : ([] : List Bool).length ≤ 0 := Nat.le_refl _
        have HPut := Lib.hid (tsput hT0 lo 32 (by omega) (by omega) (by omega) (by omega))
        have L1 := Lib.hid (show (([] : List Bool) ++ bitsNum true lo 32).length = 32 by rw [List.length_append, L0.out, bitsNum_length])
        have hm1 : (([] : List Bool) ++ bitsNum true lo 32).length ≤ 32 := Nat.le_of_eq L1.out
        obtain ⟨q1, HQ1'⟩ : ∃ z, z = ([] : List Bool) ++ bitsNum true lo 32 := ⟨_, rfl⟩
        have HQ1 := Lib.hid HQ1'
        rw [← HQ1'] at HPut L1 hm1
        clear HQ1'
        try simp only [List.length_nil] at HPut
        go_wp2_with fail
        refine HPut.out.mono ?_
        rintro e v1 ⟨a1, c1, rfl, hT1, _⟩
        clear HPut hT0
        have HPut := Lib.hid (tsput hT1 a 32 (by omega) (by omega) (by omega) (by omega))
        have L2 := Lib.hid (show (q1 ++ bitsNum true a 32).length = 64 by rw [List.length_append, L1.out, bitsNum_length])
        have hm2 : (q1 ++ bitsNum true a 32).length ≤ 64 := Nat.le_of_eq L2.out
        obtain ⟨q2, HQ2'⟩ : ∃ z, z = q1 ++ bitsNum true a 32 := ⟨_, rfl⟩
        have HQ2 := Lib.hid HQ2'
        rw [← HQ2'] at HPut L2 hm2
        clear HQ2'
        try simp only [List.length_nil] at HPut
        go_wp2_with fail
        refine HPut.out.mono ?_
        rintro e v2 ⟨a2, c2, rfl, hT2, _⟩
        clear HPut hT1
        have HPut := Lib.hid (tsput hT2 wa 16 (by omega) (by omega) (by omega) (by omega))
        have L3 := Lib.hid (show (q2 ++ bitsNum true wa 16).length = 80 by rw [List.length_append, L2.out, bitsNum_length])
        have hm3 : (q2 ++ bitsNum true wa 16).length ≤ 80 := Nat.le_of_eq L3.out
        obtain ⟨q3, HQ3'⟩ : ∃ z, z = q2 ++ bitsNum true wa 16 := ⟨_, rfl⟩
        have HQ3 := Lib.hid HQ3'
        rw [← HQ3'] at HPut L3 hm3
        clear HQ3'
        try simp only [List.length_nil] at HPut
        go_wp2_with fail
        refine HPut.out.mono ?_
        rintro e v3 ⟨a3, c3, rfl, hT3, _⟩
        clear HPut hT2
        have HPut := Lib.hid (tsput hT3 sh 32 (by omega) (by omega) (by omega) (by omega))
        have L4 := Lib.hid (show (q3 ++ bitsNum true sh 32).length = 112 by rw [List.length_append, L3.out, bitsNum_length])
        have hm4 : (q3 ++ bitsNum true sh 32).length ≤ 112 := Nat.le_of_eq L4.out
        obtain ⟨q4, HQ4'⟩ : ∃ z, z = q3 ++ bitsNum true sh 32 := ⟨_, rfl⟩
        have HQ4 := Lib.hid HQ4'
        rw [← HQ4'] at HPut L4 hm4
        clear HQ4'
        try simp only [List.length_nil] at HPut
        go_wp2_with fail
        refine HPut.out.mono ?_
        rintro e v4 ⟨a4, c4, rfl, hT4, _⟩
        clear HPut hT3
        have HPut := Lib.hid (tsput hT4 wb 16 (by omega) (by omega) (by omega) (by omega))
        have L5 := Lib.hid (show (q4 ++ bitsNum true wb 16).length = 128 by rw [List.length_append, L4.out, bitsNum_length])
        have hm5 : (q4 ++ bitsNum true wb 16).length ≤ 128 := Nat.le_of_eq L5.out
        obtain ⟨q5, HQ5'⟩ : ∃ z, z = q4 ++ bitsNum true wb 16 := ⟨_, rfl⟩
        have HQ5 := Lib.hid HQ5'
        rw [← HQ5'] at HPut L5 hm5
        clear HQ5'
        try simp only [List.length_nil] at HPut
        go_wp2_with fail
        refine HPut.out.mono ?_
        rintro e v5 ⟨a5, c5, rfl, hT5, _⟩
        clear HPut hT4
        have HPut := Lib.hid (tsput hT5 xx 32 (by omega) (by omega) (by omega) (by omega))
        have L6 := Lib.hid (show (q5 ++ bitsNum true xx 32).length = 160 by rw [List.length_append, L5.out, bitsNum_length])
        have hm6 : (q5 ++ bitsNum true xx 32).length ≤ 160 := Nat.le_of_eq L6.out
        obtain ⟨q6, HQ6'⟩ : ∃ z, z = q5 ++ bitsNum true xx 32 := ⟨_, rfl⟩
        have HQ6 := Lib.hid HQ6'
        rw [← HQ6'] at HPut L6 hm6
        clear HQ6'
        try simp only [List.length_nil] at HPut
        go_wp2_with fail
        refine HPut.out.mono ?_
        rintro e v6 ⟨a6, c6, rfl, hT6, _⟩
        clear HPut hT5
        have HPut := Lib.hid (tsput hT6 p 16 (by omega) (by omega) (by omega) (by omega))
        have L7 := Lib.hid (show (q6 ++ bitsNum true p 16).length = 176 by rw [List.length_append, L6.out, bitsNum_length])
        have hm7 : (q6 ++ bitsNum true p 16).length ≤ 176 := Nat.le_of_eq L7.out
        obtain ⟨q7, HQ7'⟩ : ∃ z, z = q6 ++ bitsNum true p 16 := ⟨_, rfl⟩
        have HQ7 := Lib.hid HQ7'
        rw [← HQ7'] at HPut L7 hm7
        clear HQ7'
        try simp only [List.length_nil] at HPut
        go_wp2_with fail
        refine HPut.out.mono ?_
        rintro e v7 ⟨a7, c7, rfl, hT7, _⟩
        clear HPut hT6
        have HPut := Lib.hid (tsput hT7 xx 32 (by omega) (by omega) (by omega) (by omega))
        have L8 := Lib.hid (show (q7 ++ bitsNum true xx 32).length = 208 by rw [List.length_append, L7.out, bitsNum_length])
        have hm8 : (q7 ++ bitsNum true xx 32).length ≤ 208 := Nat.le_of_eq L8.out
        obtain ⟨q8, HQ8'⟩ : ∃ z, z = q7 ++ bitsNum true xx 32 := ⟨_, rfl⟩
        have HQ8 := Lib.hid HQ8'
        rw [← HQ8'] at HPut L8 hm8
        clear HQ8'
        try simp only [List.length_nil] at HPut
        go_wp2_with fail
        refine HPut.out.mono ?_
        rintro e v8 ⟨a8, c8, rfl, hT8, _⟩
        clear HPut hT7
        have HPut := Lib.hid (tsput hT8 q 16 (by omega) (by omega) (by omega) (by omega))
        have L9 := Lib.hid (show (q8 ++ bitsNum true q 16).length = 224 by rw [List.length_append, L8.out, bitsNum_length])
        have hm9 : (q8 ++ bitsNum true q 16).length ≤ 224 := Nat.le_of_eq L9.out
        obtain ⟨q9, HQ9'⟩ : ∃ z, z = q8 ++ bitsNum true q 16 := ⟨_, rfl⟩
        have HQ9 := Lib.hid HQ9'
        rw [← HQ9'] at HPut L9 hm9
        clear HQ9'
        try simp only [List.length_nil] at HPut
        go_wp2_with fail
        refine HPut.out.mono ?_
        rintro e v9 ⟨a9, c9, rfl, hT9, _⟩
        clear HPut hT8
        have HPut := Lib.hid (tsput hT9 wc 16 (by omega) (by omega) (by omega) (by omega))
        have L10 := Lib.hid (show (q9 ++ bitsNum true wc 16).length = 240 by rw [List.length_append, L9.out, bitsNum_length])
        have hm10 : (q9 ++ bitsNum true wc 16).length ≤ 240 := Nat.le_of_eq L10.out
        obtain ⟨q10, HQ10'⟩ : ∃ z, z = q9 ++ bitsNum true wc 16 := ⟨_, rfl⟩
        have HQ10 := Lib.hid HQ10'
        rw [← HQ10'] at HPut L10 hm10
        clear HQ10'
        try simp only [List.length_nil] at HPut
        go_wp2_with fail
        refine HPut.out.mono ?_
        rintro e v10 ⟨a10, c10, rfl, hT10, _⟩
        clear HPut hT9
        have HPut := Lib.hid (tsput hT10 wd 16 (by omega) (by omega) (by omega) (by omega))
        have L11 := Lib.hid (show (q10 ++ bitsNum true wd 16).length = 256 by rw [List.length_append, L10.out, bitsNum_length])
        have hm11 : (q10 ++ bitsNum true wd 16).length ≤ 256 := Nat.le_of_eq L11.out
        obtain ⟨q11, HQ11'⟩ : ∃ z, z = q10 ++ bitsNum true wd 16 := ⟨_, rfl⟩
        have HQ11 := Lib.hid HQ11'
        rw [← HQ11'] at HPut L11 hm11
        clear HQ11'
        try simp only [List.length_nil] at HPut
        go_wp2_with fail
        refine HPut.out.mono ?_
        rintro e v11 ⟨a11, c11, rfl, hT11, _⟩
        clear HPut hT10
        have HPut := Lib.hid (tsput hT11 f 16 (by omega) (by omega) (by omega) (by omega))
        have L12 := Lib.hid (show (q11 ++ bitsNum true f 16).length = 272 by rw [List.length_append, L11.out, bitsNum_length])
        have hm12 : (q11 ++ bitsNum true f 16).length ≤ 272 := Nat.le_of_eq L12.out
        obtain ⟨q12, HQ12'⟩ : ∃ z, z = q11 ++ bitsNum true f 16 := ⟨_, rfl⟩
        have HQ12 := Lib.hid HQ12'
        rw [← HQ12'] at HPut L12 hm12
        clear HQ12'
        try simp only [List.length_nil] at HPut
        go_wp2_with fail
        refine HPut.out.mono ?_
        rintro e v12 ⟨a12, c12, rfl, hT12, _⟩
        clear HPut hT11
        have HPut := Lib.hid (tsput hT12 1 16 (by omega) (by omega) (by omega) (by omega))
        have L13 := Lib.hid (show (q12 ++ bitsNum true 1 16).length = 288 by rw [List.length_append, L12.out, bitsNum_length])
        have hm13 : (q12 ++ bitsNum true 1 16).length ≤ 288 := Nat.le_of_eq L13.out
        obtain ⟨q13, HQ13'⟩ : ∃ z, z = q12 ++ bitsNum true 1 16 := ⟨_, rfl⟩
        have HQ13 := Lib.hid HQ13'
        rw [← HQ13'] at HPut L13 hm13
        clear HQ13'
        try simp only [List.length_nil] at HPut
        go_wp2_with fail
        refine HPut.out.mono ?_
        rintro e v13 ⟨a13, c13, rfl, hT13, _⟩
        clear HPut hT12
        have HHd : Hid (q13 = headB a h ⟨f, p, q, fill⟩) := Lib.hid (by
          rw [HQ13.out, HQ12.out, HQ11.out, HQ10.out, HQ9.out, HQ8.out, HQ7.out, HQ6.out, HQ5.out, HQ4.out, HQ3.out, HQ2.out, HQ1.out]
          unfold headB bN
          rw [← HLO.out, ← HSH.out, ← HWa.out, ← HWb.out, ← HWc.out, ← HWd.out, ← HXX.out, List.nil_append])
        clear HQ1 HQ2 HQ3 HQ4 HQ5 HQ6 HQ7 HQ8 HQ9 HQ10 HQ11 HQ12 HQ13 L1 L2 L3 L4 L5 L6 L7 L8 L9 L10 L11 L12 hm1 hm2 hm3 hm4 hm5 hm6 hm7 hm8 hm9 hm10 hm11 hm12
        go_wp2_with fail
        obtain ⟨ys1, hlst⟩ : ∃ z : List Nat, z = HN.above h.os := ⟨_, rfl⟩
        have hlsl : ys1.length = n := by rw [hlst]; exact (by unfold HN.above; rw [List.length_map]; exact HNL.out)
        have HLST1 := Lib.hid hlst
        have HLSL1 := Lib.hid hlsl
        clear hlst hlsl
        go_loopw [24, 25] (fun v i W => ∃ (k : Nat) (oa : Option Addr) (oc : Nat), k ≤ n ∧ i = .int .i64 k ∧ v = .slice oa (q13 ++ numsB (ys1.take k) wa).length oc ∧ TS 119 w W [.int .u8 rf, .int .u8 rp, .int .u8 rq, .int .u32 fill] (q13 ++ numsB (ys1.take k) wa) oa oc) (fun _ i _ => n - (intOf i).toNat)
        case atStart => exact ⟨0, a13, c13, Nat.zero_le _, rfl, by simp [numsB], by simpa [numsB] using hT13⟩
        case round =>
          obtain ⟨k, oa, oc, hk, rfl, rfl, hT⟩ := hrel
          clear hT13
          have hlk2 : (q13 ++ numsB (ys1.take k) wa).length ≤ 288 + 1280 := by
            rw [List.length_append, numsB_len, List.length_take]
            have : min k ys1.length * wa ≤ 40 * 32 := Nat.mul_le_mul (by rw [HLSL1.out]; omega) hla
            omega
          obtain ⟨pq, hpq⟩ : ∃ z, z = q13 ++ numsB (ys1.take k) wa := ⟨_, rfl⟩
          rw [← hpq] at hlk2 hT ⊢
          have HPQ := Lib.hid hpq
          clear hpq
          by_cases hlt' : k < n
          · have hki : (k : Int) < (n : Int) := by omega
            obtain ⟨b, o, on, ln, sa, sc, xs, had, p0, p1, p2, hsub, e0, e1, e2, bo, bl, bs, bx0, bx1, bx2⟩ := HPg.out wr hT.pure k hlt'
            cases had
            have hge : lo ≤ on := by rw [HLO.out]; exact least_le (mem_of_at e0)
            have hab : on - lo < 2 ^ wa := by rw [HLO.out, HWa.out]; exact above_lt (mem_of_at e0)
            obtain ⟨d, hdd⟩ : ∃ d, d = on - lo := ⟨_, rfl⟩
            have hd : ys1[k]? = some d := by rw [HLST1.out, hdd, HLO.out]; exact above_at e0
            have hdi : (on : Int) - (lo : Int) = (d : Int) := by omega
            have hd1 : d < 2 ^ wa := hdd ▸ hab
            have hd2 : d < 4294967296 := by omega
            clear hab hdd
            obtain ⟨nq, hnq⟩ : ∃ z, z = q13 ++ numsB (ys1.take (k + 1)) wa := ⟨_, rfl⟩
            have hs : pq ++ bitsNum true d wa = nq := by rw [hnq, numsB_take_at hd, HPQ.out, List.append_assoc]; rfl
            have HPut := Lib.hid (tsput hT d wa (by omega) hla hd2 hd1)
            rw [hs] at HPut
            have HNQ := Lib.hid hnq
            clear hd1 hT hsub e0 e1 e2 hd hs hnq bs
            go_wp2_with fail
            refine HPut.out.mono ?_
            rintro e w9 ⟨a9, c9, rfl, hT9, _⟩
            clear HPut
            go_wp2_with fail
            go_roundw
            case rel => exact ⟨k + 1, a9, c9, by omega, by go_num, by rw [← HNQ.out], by rw [← HNQ.out]; exact hT9⟩
            case measure => simp [intOf]; omega
          · have hki : ¬ (k : Int) < (n : Int) := by omega
            obtain rfl : n = k := by omega
            have HF := Lib.hid (tsfull hT (by omega))
            obtain ⟨g1, hpn⟩ : ∃ z, z = align pq := ⟨_, rfl⟩
            have hg1 : g1.length ≤ 288 + 1288 := by rw [hpn, align_length]; omega
            have HG1 : Hid (g1 = align (q13 ++ numsB ys1 wa)) := Lib.hid (by rw [hpn, HPQ.out, List.take_of_length_le (l := ys1) (by rw [HLSL1.out]; omega)])
            rw [← hpn] at HF
            clear hT hpn HPQ
            go_wp2_with fail
            refine HF.out.mono ?_
            rintro e x1 ⟨b1, d1, rfl, hU1, _⟩
            clear HF hlk2
            go_wp2_with fail
            obtain ⟨ys2, hlst⟩ : ∃ z : List Nat, z = HN.above h.ls := ⟨_, rfl⟩
            have hlsl : ys2.length = n := by rw [hlst]; exact (by unfold HN.above; rw [List.length_map, HOK.out.ll]; exact HNL.out)
            have HLST2 := Lib.hid hlst
            have HLSL2 := Lib.hid hlsl
            clear hlst hlsl
            go_loopw [24, 26] (fun v i W => ∃ (k : Nat) (oa : Option Addr) (oc : Nat), k ≤ n ∧ i = .int .i64 k ∧ v = .slice oa (g1 ++ numsB (ys2.take k) wb).length oc ∧ TS 119 w W [.int .u8 rf, .int .u8 rp, .int .u8 rq, .int .u32 fill] (g1 ++ numsB (ys2.take k) wb) oa oc) (fun _ i _ => n - (intOf i).toNat)
            case atStart => exact ⟨0, b1, d1, Nat.zero_le _, rfl, by simp [numsB], by simpa [numsB] using hU1⟩
            case round =>
              obtain ⟨k, oa, oc, hk, rfl, rfl, hT⟩ := hrel
              clear hU1
              have hlk2 : (g1 ++ numsB (ys2.take k) wb).length ≤ 1576 + 1280 := by
                rw [List.length_append, numsB_len, List.length_take]
                have : min k ys2.length * wb ≤ 40 * 32 := Nat.mul_le_mul (by rw [HLSL2.out]; omega) hlb
                omega
              obtain ⟨pq, hpq⟩ : ∃ z, z = g1 ++ numsB (ys2.take k) wb := ⟨_, rfl⟩
              rw [← hpq] at hlk2 hT ⊢
              have HPQ := Lib.hid hpq
              clear hpq
              by_cases hlt' : k < n
              · have hki : (k : Int) < (n : Int) := by omega
                obtain ⟨b, o, on, ln, sa, sc, xs, had, p0, p1, p2, hsub, e0, e1, e2, bo, bl, bs, bx0, bx1, bx2⟩ := HPg.out wr hT.pure k hlt'
                cases had
                have hge : sh ≤ ln := by rw [HSH.out]; exact least_le (mem_of_at e1)
                have hab : ln - sh < 2 ^ wb := by rw [HSH.out, HWb.out]; exact above_lt (mem_of_at e1)
                obtain ⟨d, hdd⟩ : ∃ d, d = ln - sh := ⟨_, rfl⟩
                have hd : ys2[k]? = some d := by rw [HLST2.out, hdd, HSH.out]; exact above_at e1
                have hdi : (ln : Int) - (sh : Int) = (d : Int) := by omega
                have hd1 : d < 2 ^ wb := hdd ▸ hab
                have hd2 : d < 4294967296 := by omega
                clear hab hdd
                obtain ⟨nq, hnq⟩ : ∃ z, z = g1 ++ numsB (ys2.take (k + 1)) wb := ⟨_, rfl⟩
                have hs : pq ++ bitsNum true d wb = nq := by rw [hnq, numsB_take_at hd, HPQ.out, List.append_assoc]; rfl
                have HPut := Lib.hid (tsput hT d wb (by omega) hlb hd2 hd1)
                rw [hs] at HPut
                have HNQ := Lib.hid hnq
                clear hd1 hT hsub e0 e1 e2 hd hs hnq bs
                go_wp2_with fail
                refine HPut.out.mono ?_
                rintro e w9 ⟨a9, c9, rfl, hT9, _⟩
                clear HPut
                go_wp2_with fail
                go_roundw
                case rel => exact ⟨k + 1, a9, c9, by omega, by go_num, by rw [← HNQ.out], by rw [← HNQ.out]; exact hT9⟩
                case measure => simp [intOf]; omega
              · have hki : ¬ (k : Int) < (n : Int) := by omega
                obtain rfl : n = k := by omega
                have HF := Lib.hid (tsfull hT (by omega))
                obtain ⟨g2, hpn⟩ : ∃ z, z = align pq := ⟨_, rfl⟩
                have hg2 : g2.length ≤ 1576 + 1288 := by rw [hpn, align_length]; omega
                have HG2 : Hid (g2 = align (g1 ++ numsB ys2 wb)) := Lib.hid (by rw [hpn, HPQ.out, List.take_of_length_le (l := ys2) (by rw [HLSL2.out]; omega)])
                rw [← hpn] at HF
                clear hT hpn HPQ
                go_wp2_with fail
                refine HF.out.mono ?_
                rintro e x2 ⟨b2, d2, rfl, hU2, _⟩
                clear HF hlk2
                go_wp2_with fail
                obtain ⟨ys3, hlst⟩ : ∃ z : List Nat, z = h.counts := ⟨_, rfl⟩
                have hlsl : ys3.length = n := by rw [hlst]; exact (by unfold HN.counts; rw [List.length_map, HOK.out.lsh]; exact HNL.out)
                have HLST3 := Lib.hid hlst
                have HLSL3 := Lib.hid hlsl
                clear hlst hlsl
                go_loopw [24, 27] (fun v i W => ∃ (k : Nat) (oa : Option Addr) (oc : Nat), k ≤ n ∧ i = .int .i64 k ∧ v = .slice oa (g2 ++ numsB (ys3.take k) wc).length oc ∧ TS 119 w W [.int .u8 rf, .int .u8 rp, .int .u8 rq, .int .u32 fill] (g2 ++ numsB (ys3.take k) wc) oa oc) (fun _ i _ => n - (intOf i).toNat)
                case atStart => exact ⟨0, b2, d2, Nat.zero_le _, rfl, by simp [numsB], by simpa [numsB] using hU2⟩
                case round =>
                  obtain ⟨k, oa, oc, hk, rfl, rfl, hT⟩ := hrel
                  clear hU2
                  have hlk2 : (g2 ++ numsB (ys3.take k) wc).length ≤ 2864 + 1280 := by
                    rw [List.length_append, numsB_len, List.length_take]
                    have : min k ys3.length * wc ≤ 40 * 32 := Nat.mul_le_mul (by rw [HLSL3.out]; omega) hlc
                    omega
                  obtain ⟨pq, hpq⟩ : ∃ z, z = g2 ++ numsB (ys3.take k) wc := ⟨_, rfl⟩
                  rw [← hpq] at hlk2 hT ⊢
                  have HPQ := Lib.hid hpq
                  clear hpq
                  by_cases hlt' : k < n
                  · have hki : (k : Int) < (n : Int) := by omega
                    obtain ⟨b, o, on, ln, sa, sc, xs, had, p0, p1, p2, hsub, e0, e1, e2, bo, bl, bs, bx0, bx1, bx2⟩ := HPg.out wr hT.pure k hlt'
                    cases had
                    have hab : xs.length < 2 ^ wc := by rw [HWc.out]; exact Nat.lt_of_le_of_lt (le_mx (mem_of_at (counts_at e2))) (lt_wid _)
                    obtain ⟨d, hdd⟩ : ∃ d, d = xs.length := ⟨_, rfl⟩
                    have hd : ys3[k]? = some d := by rw [HLST3.out, hdd]; exact counts_at e2
                    have hd1 : d < 2 ^ wc := hdd ▸ hab
                    rw [← hdd] at p2 bx0 bx1
                    have hd2 : d < 4294967296 := by omega
                    clear hab hdd
                    obtain ⟨nq, hnq⟩ : ∃ z, z = g2 ++ numsB (ys3.take (k + 1)) wc := ⟨_, rfl⟩
                    have hs : pq ++ bitsNum true d wc = nq := by rw [hnq, numsB_take_at hd, HPQ.out, List.append_assoc]; rfl
                    have HPut := Lib.hid (tsput hT d wc (by omega) hlc hd2 hd1)
                    rw [hs] at HPut
                    have HNQ := Lib.hid hnq
                    clear hd1 hT hsub e0 e1 e2 hd hs hnq bs
                    go_wp2_with fail
                    refine HPut.out.mono ?_
                    rintro e w9 ⟨a9, c9, rfl, hT9, _⟩
                    clear HPut
                    go_wp2_with fail
                    go_roundw
                    case rel => exact ⟨k + 1, a9, c9, by omega, by go_num, by rw [← HNQ.out], by rw [← HNQ.out]; exact hT9⟩
                    case measure => simp [intOf]; omega
                  · have hki : ¬ (k : Int) < (n : Int) := by omega
                    obtain rfl : n = k := by omega
                    have HF := Lib.hid (tsfull hT (by omega))
                    obtain ⟨g3, hpn⟩ : ∃ z, z = align pq := ⟨_, rfl⟩
                    have hg3 : g3.length ≤ 2864 + 1288 := by rw [hpn, align_length]; omega
                    have HG3 : Hid (g3 = align (g2 ++ numsB ys3 wc)) := Lib.hid (by rw [hpn, HPQ.out, List.take_of_length_le (l := ys3) (by rw [HLSL3.out]; omega)])
                    rw [← hpn] at HF
                    clear hT hpn HPQ
                    go_wp2_with fail
                    refine HF.out.mono ?_
                    rintro e x3 ⟨b3, d3, rfl, hU3, _⟩
                    clear HF hlk2
                    go_wp2_with fail
                    have HMany : Hid (h.all.length ≤ 65536) := Lib.hid HOK.out.many
                    go_loopw [24, 28, 29] (fun v i _ W => ∃ (k : Nat) (oa : Option Addr) (oc : Nat), k ≤ n ∧ i = .int .i64 k ∧ v = .slice oa (g3 ++ numsB (h.shs.take k).flatten wd).length oc ∧ TS 119 w W [.int .u8 rf, .int .u8 rp, .int .u8 rq, .int .u32 fill] (g3 ++ numsB (h.shs.take k).flatten wd) oa oc) (fun _ i _ _ => n - (intOf i).toNat)
                    case atStart => exact ⟨0, b3, d3, Nat.zero_le _, rfl, by simp [numsB], by simpa [numsB] using hU3⟩
                    case round =>
                      obtain ⟨k, oa, oc, hk, rfl, rfl, hT⟩ := hrel
                      clear hU3
                      by_cases hlt' : k < n
                      · have hki : (k : Int) < (n : Int) := by omega
                        obtain ⟨b, o, on, ln, sa, sc, xs, had, p0, p1, p2, hsub, e0, e1, e2, bo, bl, bs, bx0, bx1, bx2⟩ := HPg.out wr hT.pure k hlt'
                        cases had
                        obtain ⟨xn, hxn⟩ : ∃ z, z = xs.length := ⟨_, rfl⟩
                        have HXN := Lib.hid hxn
                        have hpre : ((h.shs.take k).flatten ++ xs).length ≤ 65536 := by
                          rw [← flat_take_succ e2]
                          refine Nat.le_trans ?_ HMany.out
                          unfold HN.all
                          rw [← List.take_append_drop (k + 1) h.shs, List.flatten_append, List.length_append]
                          simp
                        have HBd : Hid (∀ j, (g3 ++ numsB ((h.shs.take k).flatten ++ xs.take j) wd).length ≤ 4152 + 65536 * 32) := Lib.hid (fun j => by
                          rw [List.length_append, numsB_len]
                          have h1 : ((h.shs.take k).flatten ++ xs.take j).length ≤ 65536 := by
                            rw [List.length_append] at hpre ⊢
                            have := List.length_take_le j xs
                            have := List.length_take (i := j) (l := xs)
                            omega
                          have := Nat.mul_le_mul h1 hld
                          omega)
                        have HDW : Hid (∀ x ∈ xs, x < 2 ^ wd) := Lib.hid (fun x hx => by
                          rw [HWd.out]
                          refine Nat.lt_of_le_of_lt (le_mx ?_) (lt_wid _)
                          unfold HN.all
                          exact List.mem_flatten.2 ⟨xs, List.mem_of_getElem? e2, hx⟩)
                        have HE2 := Lib.hid e2
                        have HFl := Lib.hid (flat_take_succ e2)
                        obtain ⟨zz, hzz⟩ : ∃ z, z = (h.shs.take k).flatten := ⟨_, rfl⟩
                        rw [← hzz] at hT HBd HFl ⊢
                        clear p0 p1 p2 hsub e0 e1 e2 bo bl bx0 bx1 bx2 hxn hpre hzz
                        go_wp2_with fail
                        go_loopw [24, 29] (fun v i W => ∃ (j : Nat) (oa : Option Addr) (oc : Nat), j ≤ xn ∧ i = .int .i64 j ∧ v = .slice oa (g3 ++ numsB (zz ++ xs.take j) wd).length oc ∧ TS 119 w W [.int .u8 rf, .int .u8 rp, .int .u8 rq, .int .u32 fill] (g3 ++ numsB (zz ++ xs.take j) wd) oa oc) (fun _ i _ => xn - (intOf i).toNat)
                        case atStart => exact ⟨0, oa, oc, Nat.zero_le _, rfl, by simp, by simpa using hT⟩
                        case round =>
                          obtain ⟨j, oa2, oc2, hj, rfl, rfl, hT2⟩ := hrel
                          clear hT
                          obtain ⟨b, o, on, ln, sa, sc, xs', had, p0, p1, p2, hsub, e0, e1, e2, bo, bl, bs', bx0, bx1, bx2⟩ := HPg.out wr hT2.pure k hlt'
                          obtain rfl : xs = xs' := Option.some.inj (HE2.out.symm.trans e2)
                          cases had
                          rw [← HXN.out] at p2 bx0 bx1
                          have HSub := Lib.hid hsub
                          have hlk2 := HBd.out j
                          obtain ⟨pq, hpq⟩ : ∃ z, z = g3 ++ numsB (zz ++ xs.take j) wd := ⟨_, rfl⟩
                          rw [← hpq] at hlk2 hT2 ⊢
                          have HPQ := Lib.hid hpq
                          clear hpq hsub e0 e1 e2 bs'
                          by_cases hjt : j < xn
                          · have hji : (j : Int) < (xn : Int) := by omega
                            have hjx : j < xs.length := by rw [← HXN.out]; exact hjt
                            obtain ⟨x, hx⟩ : ∃ x, x = xs[j] := ⟨_, rfl⟩
                            obtain ⟨sb, so, rfl, hsc⟩ := HSub.out j (intV x) (by rw [List.getElem?_map, List.getElem?_eq_getElem hjx, hx]; rfl)
                            have hsc2 : wr.cell? ⟨sb, so + j, none⟩ = some (.int .i64 x) := hsc
                            have hx4 : x ≤ 4095 := hx ▸ bs.out _ (List.getElem_mem hjx)
                            have hxw : x < 2 ^ wd := hx ▸ HDW.out _ (List.getElem_mem hjx)
                            obtain ⟨nq, hnq⟩ : ∃ z, z = g3 ++ numsB (zz ++ xs.take (j + 1)) wd := ⟨_, rfl⟩
                            have hs : pq ++ bitsNum true x wd = nq := by rw [hnq, List.take_add_one, List.getElem?_eq_getElem hjx, ← hx, HPQ.out, ← List.append_assoc zz, numsB_append (zz ++ xs.take j), List.append_assoc]; simp [numsB, bN]
                            have HPut := Lib.hid (tsput hT2 x wd (by omega) hld (by omega) hxw)
                            rw [hs] at HPut
                            have HNQ := Lib.hid hnq
                            clear hx hsc hjx hxw hs hnq hT2
                            go_wp2_with fail
                            refine HPut.out.mono ?_
                            rintro e w9 ⟨a9, c9, rfl, hT9, _⟩
                            clear HPut
                            go_wp2_with fail
                            go_roundw
                            case rel => exact ⟨j + 1, a9, c9, by omega, by go_num, by rw [← HNQ.out], by rw [← HNQ.out]; exact hT9⟩
                            case measure => simp [intOf]; omega
                          · have hji : ¬ (j : Int) < (xn : Int) := by omega
                            obtain ⟨nq, hnq⟩ : ∃ z, z = g3 ++ numsB (h.shs.take (k + 1)).flatten wd := ⟨_, rfl⟩
                            have hs : pq = nq := by rw [hnq, HFl.out, HPQ.out, List.take_of_length_le (l := xs) (by rw [← HXN.out]; omega)]
                            rw [hs] at hT2 ⊢
                            have HNQ := Lib.hid hnq
                            clear hs hnq
                            go_wp2_with fail
                            go_roundw
                            case rel => exact ⟨k + 1, oa2, oc2, by omega, by go_num, by rw [← HNQ.out], by rw [← HNQ.out]; exact hT2⟩
                            case measure => simp [intOf]; omega
                      · have hki : ¬ (k : Int) < (n : Int) := by omega
                        obtain rfl : n = k := by omega
                        have hall : (h.shs.take n).flatten = h.all := by rw [List.take_of_length_le (by rw [HOK.out.lsh, HNL.out]; omega)]; rfl
                        rw [hall] at hT ⊢
                        have hlk3 : (g3 ++ numsB h.all wd).length ≤ 4152 + 65536 * 32 := by
                          rw [List.length_append, numsB_len]
                          have := Nat.mul_le_mul HMany.out hld
                          omega
                        obtain ⟨pq, hpq⟩ : ∃ z, z = g3 ++ numsB h.all wd := ⟨_, rfl⟩
                        rw [← hpq] at hT hlk3 ⊢
                        have HPQ := Lib.hid hpq
                        clear hall hpq
                        obtain ⟨g4, hg4⟩ : ∃ z, z = align pq := ⟨_, rfl⟩
                        obtain ⟨g5, hg5⟩ : ∃ z, z = align (g4 ++ fillN mn f fill) := ⟨_, rfl⟩
                        obtain ⟨g6, hg6⟩ : ∃ z, z = align (g5 ++ fillN n p fill) := ⟨_, rfl⟩
                        obtain ⟨g7, hg7⟩ : ∃ z, z = align (g6 ++ fillN n q fill) := ⟨_, rfl⟩
                        have hb4 : g4.length ≤ 2200000 := by rw [hg4, align_length]; omega
                        have hb5 : g5.length ≤ 6100000 := by
                          rw [hg5, align_length, List.length_append, fillN_len]
                          have : mn * f ≤ 120000 * 32 := Nat.mul_le_mul (by omega) hfl
                          omega
                        have hb6 : g6.length ≤ 6200000 := by
                          rw [hg6, align_length, List.length_append, fillN_len]
                          have : n * p ≤ 40 * 32 := Nat.mul_le_mul (by omega) hpl
                          omega
                        have hb7 : g7.length ≤ 6300000 := by
                          rw [hg7, align_length, List.length_append, fillN_len]
                          have : n * q ≤ 40 * 32 := Nat.mul_le_mul (by omega) hql
                          omega
                        have hTd := hT.later ((Ext.refl (fun _ => False) wr).drew)
                        have HF0 := tsfull hTd (by omega)
                        have HF1 := fun W oa oc (hT : TS 119 w W [.int .u8 rf, .int .u8 rp, .int .u8 rq, .int .u32 fill] g4 oa oc) => tsfill hT mn f fill (by omega) (by omega) hfl hfill
                        have HF2 := fun W oa oc (hT : TS 119 w W [.int .u8 rf, .int .u8 rp, .int .u8 rq, .int .u32 fill] g5 oa oc) => tsfill hT n p fill (by omega) (by omega) hpl hfill
                        have HF3 := fun W oa oc (hT : TS 119 w W [.int .u8 rf, .int .u8 rp, .int .u8 rq, .int .u32 fill] g6 oa oc) => tsfill hT n q fill (by omega) (by omega) hql hfill
                        have HG7 : Hid (g7 = tabB a h ⟨f, p, q, fill⟩) := Lib.hid (by
                          have e1 : g1 = part1 a h ⟨f, p, q, fill⟩ := by rw [HG1.out, HHd.out, HLST1.out, HWa.out]; rfl
                          have e2 : g2 = part2 a h ⟨f, p, q, fill⟩ := by rw [HG2.out, e1, HLST2.out, HWb.out]; rfl
                          have e3 : g3 = part3 a h ⟨f, p, q, fill⟩ := by rw [HG3.out, e2, HLST3.out, HWc.out]; rfl
                          have e4 : g4 = part4 a h ⟨f, p, q, fill⟩ := by rw [hg4, HPQ.out, e3, HWd.out]; rfl
                          have e5 : g5 = part5 a h ⟨f, p, q, fill⟩ := by rw [hg5, e4, HMN.out]; rfl
                          have e6 : g6 = part6 a h ⟨f, p, q, fill⟩ := by rw [hg6, e5, ← HNL.out]; rfl
                          rw [hg7, e6, ← HNL.out]; rfl)
                        rw [← hg4] at HF0
                        rw [← hg5] at HF1
                        rw [← hg6] at HF2
                        rw [← hg7] at HF3
                        have HF0' := Lib.hid HF0
                        have HF1' := Lib.hid HF1
                        have HF2' := Lib.hid HF2
                        have HF3' := Lib.hid HF3
                        have kb := fun w' (hS : Ext (fun i => w.heap.size < i) wr.drew w') => (hS.cell_some (hTd.cell 3) (Nat.lt_irrefl _) : w'.cell? ⟨w.heap.size, 0 + 3, none⟩ = some (.int .u32 fill))
                        clear HF0 HF1 HF2 HF3 HG1 HG2 HG3 HHd HLST1 HLST2 HLST3 HLSL1 HLSL2 HLSL3 HWa HWb HWc HWd HLO HSH HMN hg4 hg5 hg6 hg7 hT HPg HPQ HMany
                        go_wp2_with fail
                        refine region_start (fun i => w.heap.size < i) (by kernel_rfl) ?_
                        try simp only [Act.put, List.setIfInBounds_toArray, List.set_cons_zero, List.set_cons_succ]
                        refine region_take 0 262 (v := ?vtz0) rfl rfl (by kernel_rfl) (by kernel_rfl) (by kernel_rfl) (fun _ _ _ h => h) (by rfl) (fun w' hS => ?htz0) ?rtz0
                        case htz0 => go_simp; with_reducible rfl
                        try simp only [Act.put, List.setIfInBounds_toArray, List.set_cons_zero, List.set_cons_succ]
                        refine region_take 2 264 (v := ?vtz2) rfl rfl (by kernel_rfl) (by kernel_rfl) (by kernel_rfl) (fun _ _ _ h => h) (by rfl) (fun w' hS => ?htz2) ?rtz2
                        case htz2 => go_simp; with_reducible rfl
                        try simp only [Act.put, List.setIfInBounds_toArray, List.set_cons_zero, List.set_cons_succ]
                        refine region_take 3 265 (v := ?vtz3) rfl rfl (by kernel_rfl) (by kernel_rfl) (by kernel_rfl) (fun _ _ _ h => h) (by rfl) (fun w' hS => ?htz3) ?rtz3
                        case htz3 => go_simp; with_reducible rfl
                        try simp only [Act.put, List.setIfInBounds_toArray, List.set_cons_zero, List.set_cons_succ]
                        refine region_take 4 266 (v := ?vtz4) rfl rfl (by kernel_rfl) (by kernel_rfl) (by kernel_rfl) (fun _ _ _ h => h) (by rfl) (fun w' hS => ?htz4) ?rtz4
                        case htz4 => go_simp; with_reducible rfl
                        try simp only [Act.put, List.setIfInBounds_toArray, List.set_cons_zero, List.set_cons_succ]
                        refine region_take 5 267 (v := ?vtz5) rfl rfl (by kernel_rfl) (by kernel_rfl) (by kernel_rfl) (fun _ _ _ h => h) (by rfl) (fun w' hS => ?htz5) ?rtz5
                        case htz5 => go_simp; with_reducible rfl
                        try simp only [Act.put, List.setIfInBounds_toArray, List.set_cons_zero, List.set_cons_succ]
                        refine wpAnyH_ready (rs := [1]) (by kernel_rfl) (by simp) (AllReadyH.cons rfl (fun K hK => ?_) AllReadyH.nil)
                        go_simp
                        refine HF0'.out.mono ?_
                        rintro e y1 ⟨ja, jc, rfl, hV1, hE1⟩
                        refine hK.out _ _ (hE1) (fun hHeld => ?_)
                        clear hK K hHeld
                        refine region_now (hE1) ?_
                        try simp only [Act.put, List.setIfInBounds_toArray, List.set_cons_zero, List.set_cons_succ]
                        refine wpAnyH_ready (rs := [6]) (by kernel_rfl) (by simp) (AllReadyH.cons rfl (fun K hK => ?_) AllReadyH.nil)
                        go_simp
                        refine (HF1'.out y1 ja jc hV1).mono ?_
                        rintro e y2 ⟨ka, kc, rfl, hV2, hE2⟩
                        refine hK.out _ _ (hE2) (fun hHeld => ?_)
                        clear hK K hHeld
                        refine region_now (hE2) ?_
                        try simp only [Act.put, List.setIfInBounds_toArray, List.set_cons_zero, List.set_cons_succ]
                        refine region_take 7 24 (v := ?vtz7) rfl rfl (by kernel_rfl) (by kernel_rfl) (by kernel_rfl) (fun _ _ _ h => h) (by rfl) (fun w' hS => ?htz7) ?rtz7
                        case htz7 => go_simp; with_reducible rfl
                        try simp only [Act.put, List.setIfInBounds_toArray, List.set_cons_zero, List.set_cons_succ]
                        refine wpAnyH_done (by kernel_rfl) ?_ _
                        clear kb HF0' HF1'
                        have z3 : y2.cell? ⟨w.heap.size, 0 + 3, none⟩ = some (.int .u32 fill) := hV2.cell 3
                        go_wp2_with fail
                        refine (HF2'.out y2 ka kc hV2).mono ?_
                        rintro e y3 ⟨la, lc, rfl, hV3, hE3⟩
                        clear z3
                        have z3 : y3.cell? ⟨w.heap.size, 0 + 3, none⟩ = some (.int .u32 fill) := hV3.cell 3
                        go_wp2_with fail
                        refine (HF3'.out y3 la lc hV3).mono ?_
                        rintro e y4 ⟨ma, mc, rfl, hV4, hE4⟩
                        clear z3 HF2' HF3' hV2 hV3
                        have HBy := Lib.hid (refbytes_any true ma mc g7 y4 hV4.row (by omega))
                        go_wp2_with fail
                        refine HBy.out.mono ?_
                        rintro e y5 ⟨ra, rc, rfl, hO5, hP5⟩
                        go_wp2_with fail
                        go_ret
                        rw [← HG7.out]
                        exact ⟨ra, rc, rfl, own_base hO5 hV4.pure.size, hV4.pure.pure hP5⟩
end Go.Proofs.YtomcdhljjmnahaaGreat.P26
namespace Go.Proofs.YtomcdhljjmnahaaGreat.P26
set_option linter.unusedVariables false
set_option linter.unusedSimpArgs false
open Go.RowKit

theorem odd_at {p : PH} {j : Nat} (hj : j < p.sh.length) (h : p.sh[j] < 0 ∨ 4095 < p.sh[j]) : okP p = false :=
  okP_no (Or.inl (any_of_at odd p.sh j hj (by unfold odd; rw [inB_false.2 h]; rfl)))
theorem odd_none {x : Int} (h : ¬ x < 0) (h' : ¬ 4095 < x) : odd x = false := by unfold odd; rw [inB_true.2 ⟨by omega, by omega⟩]; rfl
set_option maxHeartbeats 2000000 in
set_option maxRecDepth 100000 in
theorem refcheck_big (a : Int) (ad : Option Addr) (c : Nat) (ps : List PH) (w : World) (h : Hints w ad ps) (hm : Mod2 ps) :
    Calls Tryz.prog 37 #[.int .i64 a, .slice ad ps.length c] w (IntRes (chk a ps) w) := by
  have hps := hm.pages
  obtain ⟨B, hB⟩ : ∃ B, B = chk a ps := ⟨_, rfl⟩
  rw [← hB]
  by_cases a0 : a < 0
  · have HB : Hid (B = 2) := Lib.hid (by rw [hB, chk_head (Or.inl (inB_false.2 (Or.inl a0)))])
    clear hB h
    go_enter Tryz.func37, Tryz.ntmps37
    go_wp2_with fail
    go_ret
    exact ⟨by rw [HB.out]; rfl, Ext.refl _ _⟩
  · by_cases a1 : 2147483647 < a
    · have HB : Hid (B = 2) := Lib.hid (by rw [hB, chk_head (Or.inl (inB_false.2 (Or.inr a1)))])
      clear hB h
      go_enter Tryz.func37, Tryz.ntmps37
      go_wp2_with fail
      go_ret
      exact ⟨by rw [HB.out]; rfl, Ext.refl _ _⟩
    · by_cases n0 : (ps.length : Int) < 1
      · have HB : Hid (B = 2) := Lib.hid (by rw [hB, chk_head (Or.inr (inB_false.2 (Or.inl n0)))])
        clear hB h
        go_enter Tryz.func37, Tryz.ntmps37
        go_wp2_with fail
        go_ret
        exact ⟨by rw [HB.out]; rfl, Ext.refl _ _⟩
      by_cases n9 : (2048 : Int) < (ps.length : Int)
      · have HB : Hid (B = 2) := Lib.hid (by rw [hB, chk_head (Or.inr (inB_false.2 (Or.inr n9)))])
        have n8 : decide ((ps.length : Int) < 1) = false := decide_eq_false n0
        clear hB h
        go_enter Tryz.func37, Tryz.ntmps37
        go_wp2_with fail
        go_ret
        exact ⟨by rw [HB.out]; rfl, Ext.refl _ _⟩
      · have HB := Lib.hid hB
        have HAt : Hid (inB a 0 2147483647 = true) := Lib.hid (inB_true.2 ⟨by omega, by omega⟩)
        have HNt : Hid (inB (ps.length : Int) 1 2048 = true) := Lib.hid (inB_true.2 ⟨by omega, by omega⟩)
        have HM := Lib.hid hm
        have n1 : ¬ (2048 : Int) < (ps.length : Int) := by omega
        have g1 : decide (a < 0) = false := decide_eq_false a0
        have g2 : decide ((2147483647 : Int) < a) = false := decide_eq_false a1
        have g3 : decide ((ps.length : Int) < 1) = false := decide_eq_false n0
        have g4 : decide ((2048 : Int) < (ps.length : Int)) = false := decide_eq_false n1
        clear hB hm
        go_enter Tryz.func37, Tryz.ntmps37
        go_wp2_with fail
        clear g1 g2 g3 g4
        go_loopw [5, 6, 7] (fun m i _ W => ∃ (k t : Nat), k ≤ ps.length ∧ i = .int .i64 k ∧ m = .int .i64 t ∧ Hid (t = min (totS (ps.take k)) 65537) ∧ t ≤ 65537 ∧ Hid (∀ p ∈ ps.take k, okP p = true) ∧ Pure w W) (fun _ i _ _ => ps.length - (intOf i).toNat)
        case atStart => exact ⟨0, 0, Nat.zero_le _, rfl, rfl, Lib.hid (by simp [totS]), by omega, Lib.hid (by simp), Ext.refl _ _⟩
        case round =>
          obtain ⟨k, t, hk, rfl, rfl, HT, ht, HO, hP⟩ := hrel
          by_cases hlt : k < ps.length
          · have hki : (k : Int) < (ps.length : Int) := by omega
            obtain ⟨b, o, had, p0, p1, p2⟩ := (h.pure hP).at k hlt
            have hsub := (h.sub _ (List.getElem_mem hlt)).ext hP (fun _ _ => id)
            have hnum := HM.out.numbers _ (List.getElem_mem hlt)
            have hfit := (h.fit _ (List.getElem_mem hlt)).1
            have HTS := Lib.hid (totS_take_succ hlt)
            have HBad := Lib.hid (fun e => chk_bad (a := a) hlt e)
            have HAll := Lib.hid (fun e => all_take_succ (P := fun p : PH => okP p = true) hlt HO.out e)
            obtain ⟨p, hpp⟩ : ∃ p, p = ps[k] := ⟨_, rfl⟩
            rw [← hpp] at p0 p1 p2 hsub hnum HTS HBad HAll hfit
            obtain ⟨po, pl, sa, sc, sh, rfl⟩ : ∃ po pl sa sc sh, p = ⟨po, pl, sa, sc, sh⟩ := ⟨p.o, p.l, p.sa, p.sc, p.sh, rfl⟩
            simp only at p0 p1 p2 hnum hsub HTS hfit
            obtain ⟨n, hn⟩ : ∃ n, n = sh.length := ⟨_, rfl⟩
            have HN := Lib.hid hn
            rw [← hn] at p2 hnum hfit
            have HSub := Lib.hid hsub
            subst had
            clear hpp hsub hn
            by_cases o0 : po < 1
            · have HF : Hid (chk a ps = 2) := Lib.hid (HBad.out (okP_no (Or.inr (Or.inl (inB_false.2 (Or.inl o0))))))
              go_wp2_with fail
              go_ret
              exact ⟨by rw [HB.out, HF.out]; rfl, hP⟩
            · by_cases o1 : 4096 < po
              · have HF : Hid (chk a ps = 2) := Lib.hid (HBad.out (okP_no (Or.inr (Or.inl (inB_false.2 (Or.inr o1))))))
                go_wp2_with fail
                go_ret
                exact ⟨by rw [HB.out, HF.out]; rfl, hP⟩
              · by_cases l0 : pl < 1
                · have HF : Hid (chk a ps = 2) := Lib.hid (HBad.out (okP_no (Or.inr (Or.inr (inB_false.2 (Or.inl l0))))))
                  go_wp2_with fail
                  go_ret
                  exact ⟨by rw [HB.out, HF.out]; rfl, hP⟩
                · by_cases l1 : 2147483647 < pl
                  · have HF : Hid (chk a ps = 2) := Lib.hid (HBad.out (okP_no (Or.inr (Or.inr (inB_false.2 (Or.inr l1))))))
                    go_wp2_with fail
                    go_ret
                    exact ⟨by rw [HB.out, HF.out]; rfl, hP⟩
                  · have HW1 : Hid (inB po 1 4096 = true) := Lib.hid (inB_true.2 ⟨by omega, by omega⟩)
                    have HW2 : Hid (inB pl 1 2147483647 = true) := Lib.hid (inB_true.2 ⟨by omega, by omega⟩)
                    have g1 : decide (po < 1) = false := decide_eq_false o0
                    have g2 : decide ((4096 : Int) < po) = false := decide_eq_false o1
                    have g3 : decide (pl < 1) = false := decide_eq_false l0
                    have g4 : decide ((2147483647 : Int) < pl) = false := decide_eq_false l1
                    go_wp2_with fail
                    clear g1 g2 g3 g4
                    obtain ⟨wo, hwo⟩ : ∃ W : World, W = wr := ⟨_, rfl⟩
                    go_loop [5, 7] (fun m i => ∃ j t' : Nat, j ≤ n ∧ i = .int .i64 j ∧ m = .int .i64 t' ∧ Hid (t' = min (t + j) 65537) ∧ t' ≤ 65537 ∧ Hid ((sh.take j).any odd = false)) (fun _ i => n - (intOf i).toNat)
                    case atStart => exact ⟨0, t, Nat.zero_le _, rfl, rfl, Lib.hid (by omega), ht, Lib.hid rfl⟩
                    case round =>
                      obtain ⟨j, t', hj, rfl, rfl, HT', ht', HNo⟩ := hrel
                      by_cases hjt : j < n
                      · have hji : (j : Int) < (n : Int) := by omega
                        obtain ⟨sb, so, rfl, hsc⟩ := iV_at HSub.out j (by rw [← HN.out]; exact hjt)
                        have HOd : Hid (sh[j]'(by rw [← HN.out]; exact hjt) < 0 ∨ 4095 < sh[j]'(by rw [← HN.out]; exact hjt) → chk a ps = 2) := Lib.hid (fun e => HBad.out (odd_at (p := ⟨po, pl, some ⟨sb, so, none⟩, sc, sh⟩) (by simp only; rw [← HN.out]; exact hjt) e))
                        have HNs : Hid (odd (sh[j]'(by rw [← HN.out]; exact hjt)) = false → (sh.take (j + 1)).any odd = false) := Lib.hid (fun e => by rw [any_take_succ odd sh j (by rw [← HN.out]; exact hjt), HNo.out, e]; rfl)
                        obtain ⟨x, hx⟩ : ∃ x, x = sh[j]'(by rw [← HN.out]; exact hjt) := ⟨_, rfl⟩
                        rw [← hx] at hsc HOd HNs
                        clear hx
                        by_cases x0 : x < 0
                        · have HF : Hid (chk a ps = 2) := Lib.hid (HOd.out (Or.inl x0))
                          go_wp2_with fail
                          go_ret
                          exact ⟨by rw [HB.out, HF.out]; rfl, hP⟩
                        · by_cases x1 : 4095 < x
                          · have HF : Hid (chk a ps = 2) := Lib.hid (HOd.out (Or.inr x1))
                            go_wp2_with fail
                            go_ret
                            exact ⟨by rw [HB.out, HF.out]; rfl, hP⟩
                          · have HN2 := Lib.hid (HNs.out (odd_none x0 x1))
                            have g1 : decide (x < 0) = false := decide_eq_false x0
                            have g2 : decide ((4095 : Int) < x) = false := decide_eq_false x1
                            by_cases ht2 : (t' : Int) ≤ 65536
                            · go_wp2_with fail
                              clear g1 g2
                              go_round
                              case rel => exact ⟨j + 1, t' + 1, by omega, by go_num, by go_num, Lib.hid (by have := HT'.out; omega), by omega, HN2⟩
                              case measure => simp [intOf]; omega
                            · go_wp2_with fail
                              clear g1 g2
                              go_round
                              case rel => exact ⟨j + 1, t', by omega, by go_num, rfl, Lib.hid (by have := HT'.out; omega), by omega, HN2⟩
                              case measure => simp [intOf]; omega
                      · have hji : ¬ (j : Int) < (n : Int) := by omega
                        have hno := HNo.out
                        rw [List.take_of_length_le (by rw [← HN.out]; omega)] at hno
                        have HAll2 := Lib.hid (HAll.out (okP_true (p := ⟨po, pl, sa, sc, sh⟩) hno HW1.out HW2.out))
                        have HT2 : Hid (t' = min (totS (ps.take (k + 1))) 65537) := Lib.hid (by rw [HTS.out]; have h1 := HT'.out; have h2 := HT.out; have h3 := HN.out; omega)
                        clear hno
                        go_wp2_with fail
                        go_roundw
                        case rel => exact ⟨k + 1, t', by omega, by go_num, rfl, HT2, ht', HAll2, hP⟩
                        case measure => simp [intOf]; omega
          · have hki : ¬ (k : Int) < (ps.length : Int) := by omega
            have hall : ∀ p ∈ ps, okP p = true := by have := HO.out; rwa [List.take_of_length_le (by omega)] at this
            have hT := HT.out
            rw [List.take_of_length_le (by omega)] at hT
            have hchk := chk_end HAt.out HNt.out hall
            by_cases h6 : (65536 : Int) < (t : Int)
            · have HF : Hid (chk a ps = 3) := Lib.hid (by rw [hchk, if_pos (by omega)])
              clear hchk hT hall
              go_wp2_with fail
              go_ret
              exact ⟨by rw [HB.out, HF.out]; rfl, hP⟩
            · have HF : Hid (chk a ps = 0) := Lib.hid (by rw [hchk, if_neg (by omega)])
              clear hchk hT hall
              go_wp2_with fail
              go_ret
              exact ⟨by rw [HB.out, HF.out]; rfl, hP⟩
theorem refcheck_any (a : Int) (ad : Option Addr) (c : Nat) (ps : List PH) (w : World) (h : Hints w ad ps) (hm : Mod ps) :
    Calls Tryz.prog 37 #[.int .i64 a, .slice ad ps.length c] w (IntRes (chk a ps) w) := refcheck_big a ad c ps w h hm.mod2
end Go.Proofs.YtomcdhljjmnahaaGreat.P26
namespace Go.Proofs.YtomcdhljjmnahaaGreat.P26
set_option linter.unusedVariables false
set_option linter.unusedSimpArgs false
open Go.RowKit C26

def encB (a : Int) (ps : List PH) : List UInt8 := if chk a ps = 0 then pack true (tabB a.toNat (toN ps) rest0) else []
def EncTo (a : Int) (ps : List PH) (w : World) (e : Ending) (w' : World) : Prop := ∃ ra rc, e = .returned (.tuple #[.slice ra (encB a ps).length rc, .int .i64 (chk a ps)]) ∧ NewRow w w' ra rc (encB a ps)
theorem new_nil {w w' : World} (h : Pure w w') : NewRow w w' none 0 [] := ⟨row_nil _ _, h, fun _ => rfl, fun g hg => (by cases hg), fun g hg => (by cases hg), Nat.le_refl _, Nat.zero_le _⟩
theorem newrow_own {w w1 w' : World} {ra : Option Addr} {rc : Nat} {l : List UInt8} (hP : Pure w w1) (hO : w'.ownsRow w1.heap.size 5 1 (.slice ra l.length rc) l.length (l.map byV)) (hP' : Pure w1 w') : NewRow w w' ra rc l := by
  obtain ⟨_, _, hh, h1, h2, h3, h4⟩ := own_form hO
  cases hh
  exact ⟨own_row hO, hP.pure hP', h3, fun g hg => Nat.le_trans hP.size (h4 g hg).1, fun g hg => (h4 g hg).2.1, h1, h2⟩
set_option maxRecDepth 100000 in
theorem refencode_any (a : Int) (ad : Option Addr) (c : Nat) (ps : List PH) (w : World) (h : Hints w ad ps) (hm : Mod ps) :
    Calls Tryz.prog 27 #[.int .i64 a, .slice ad ps.length c] w (EncTo a ps w) := by
  have HC0 := refcheck_any a ad c ps w h hm
  by_cases hz : chk a ps = 0
  · have hk := chk_ok hz hm
    have hB : encB a ps = pack true (tabB a.toNat (toN ps) rest0) := if_pos hz
    have e1 : a = (a.toNat : Int) := by have := hk.a; omega
    have HT0 := fun W (hP : Pure w W) => table_any a.toNat ad c ps 0 0 0 0 W (h.pure hP) hm (by rw [← e1]; exact hk) (by omega) (by omega) (by omega) (by omega)
    obtain ⟨P, hP⟩ : ∃ P, P = pack true (tabB a.toNat (toN ps) rest0) := ⟨_, rfl⟩
    have hr : (⟨0 % 33, 0 % 33, 0 % 33, 0⟩ : RestN) = rest0 := rfl
    rw [hr, ← hP, ← e1] at HT0
    rw [← hP] at hB
    unfold IntRes at HC0
    rw [hz] at HC0
    have HC := Lib.hid HC0
    have HT := Lib.hid HT0
    have HB := Lib.hid hB
    have HZ := Lib.hid hz
    clear HC0 HT0 hB hz e1 hP hr hk h
    go_enter Tryz.func27, Tryz.ntmps27
    go_wp2_with fail
    refine HC.out.mono ?_
    rintro e w2 ⟨rfl, hP2⟩
    go_wp2_with fail
    refine (HT.out w2 hP2).mono ?_
    rintro e w3 ⟨ra, rc, rfl, hO, hP3⟩
    go_wp2_with fail
    go_ret2
    refine ⟨ra, rc, by rw [HB.out, HZ.out]; rfl, ?_⟩
    rw [HB.out]
    exact newrow_own hP2 hO hP3
  · have hB : encB a ps = [] := if_neg hz
    have hne : (chk a ps != 0) = true := by simpa using hz
    unfold IntRes at HC0
    obtain ⟨E, hE⟩ : ∃ E, E = chk a ps := ⟨_, rfl⟩
    rw [← hE] at HC0 hne
    have HC := Lib.hid HC0
    have HB := Lib.hid hB
    have HE := Lib.hid hE
    clear HC0 hB hz hE h
    go_enter Tryz.func27, Tryz.ntmps27
    go_wp2_with fail
    refine HC.out.mono ?_
    rintro e w2 ⟨rfl, hP2⟩
    go_wp2_with fail
    go_ret2
    refine ⟨none, 0, by rw [HB.out, ← HE.out]; rfl, ?_⟩
    rw [HB.out]
    exact new_nil hP2
end Go.Proofs.YtomcdhljjmnahaaGreat.P26
namespace Go.Proofs.YtomcdhljjmnahaaGreat.P26
set_option linter.unusedVariables false
set_option linter.unusedSimpArgs false
open Go.RowKit C26

set_option maxRecDepth 100000 in
theorem cmp_any (o l : Int) (sa : Option Addr) (n sc : Nat) (o' l' : Int) (sa' : Option Addr) (n' sc' : Nat) (b : Nat) (w : World) (hn : n ≤ 1000000) (hn' : n' ≤ 1000000) (hc : w.cell? ⟨b, 0, none⟩ = some (.func (.func 56) #[] #[])) :
    Calls Tryz.prog 60 #[pageV o l sa n sc, pageV o' l' sa' n' sc', .pointer (some ⟨b, 0, none⟩)] w (GotInt ((n : Int) - n') w) := by
  have hb : b < w.heap.size := World.block_lt_of_cell? w ⟨b, 0, none⟩ hc
  have HC1 := Lib.hid (fun W => count_any o l sa n sc W (by omega))
  have HC2 := Lib.hid (fun W => count_any o' l' sa' n' sc' W (by omega))
  unfold pageV at HC1 HC2 ⊢
  obtain ⟨w1, hw1⟩ : ∃ w1, w1 = (w.alloc (.cells #[.int .i64 o, .int .i64 l, .slice sa n sc] 53)).alloc (.cells #[.int .i64 o', .int .i64 l', .slice sa' n' sc'] 53) := ⟨_, rfl⟩
  have hB1 : BlockIs w1 w.heap.size [.int .i64 o, .int .i64 l, .slice sa n sc] 53 := hw1 ▸ (BlockIs.new w _ _).alloc _
  have hB2 : BlockIs w1 (w.heap.size + 1) [.int .i64 o', .int .i64 l', .slice sa' n' sc'] 53 := by
    have h := BlockIs.new (w.alloc (.cells #[.int .i64 o, .int .i64 l, .slice sa n sc] 53)) [.int .i64 o', .int .i64 l', .slice sa' n' sc'] 53
    rw [World.size_alloc] at h
    rw [hw1]; exact h
  have hP1 : Pure w w1 := hw1 ▸ (ext_alloc w _).alloc _
  have f0 : w1.drew.cell? ⟨b, 0, none⟩ = some (.func (.func 56) #[] #[]) := hP1.cell_some hc id
  have d0 : w1.drew.cell? ⟨w.heap.size, 0, none⟩ = some (.int .i64 o) := hB1.cell 0
  have d1 : w1.drew.cell? ⟨w.heap.size, 0 + 1, none⟩ = some (.int .i64 l) := hB1.cell 1
  have d2 : w1.drew.cell? ⟨w.heap.size, 0 + 2, none⟩ = some (.slice sa n sc) := hB1.cell 2
  have x0 : w1.drew.cell? ⟨w.heap.size + 1, 0, none⟩ = some (.int .i64 o') := hB2.cell 0
  have x1 : w1.drew.cell? ⟨w.heap.size + 1, 0 + 1, none⟩ = some (.int .i64 l') := hB2.cell 1
  have x2 : w1.drew.cell? ⟨w.heap.size + 1, 0 + 2, none⟩ = some (.slice sa' n' sc') := hB2.cell 2
  have g0 := fun w' (hS : Ext (fun _ => False) w1.drew w') => hS.cell_some f0 id
  have k0 := fun w' (hS : Ext (fun _ => False) w1.drew w') => hS.cell_some d0 id
  have k1 := fun w' (hS : Ext (fun _ => False) w1.drew w') => hS.cell_some d1 id
  have k2 := fun w' (hS : Ext (fun _ => False) w1.drew w') => hS.cell_some d2 id
  have l0 := fun w' (hS : Ext (fun _ => False) w1.drew w') => hS.cell_some x0 id
  have l1 := fun w' (hS : Ext (fun _ => False) w1.drew w') => hS.cell_some x1 id
  have l2 := fun w' (hS : Ext (fun _ => False) w1.drew w') => hS.cell_some x2 id
  have hsub : IntKind.i64.wrap ((n : Int) - n') = (n : Int) - n' := IntWalk.i64_in _ (by omega)
  clear hc
  go_enter Tryz.func60, Tryz.ntmps60
  go_wp2_with fail
  rw [← hw1]
  clear hw1
  refine region_start (fun _ => False) (by kernel_rfl) ?_
  try simp only [Act.put, List.setIfInBounds_toArray, List.set_cons_zero, List.set_cons_succ]
  refine region_take 0 6 (v := ?vca0) rfl rfl (by kernel_rfl) (by kernel_rfl) (by kernel_rfl) (fun _ _ _ h => h) (by rfl) (fun w' hS => ?hca0) ?rca0
  case hca0 => go_simp; with_reducible rfl
  try simp only [Act.put, List.setIfInBounds_toArray, List.set_cons_zero, List.set_cons_succ]
  refine region_take 1 7 (v := ?vca1) rfl rfl (by kernel_rfl) (by kernel_rfl) (by kernel_rfl) (fun _ _ _ h => h) (by rfl) (fun w' hS => ?hca1) ?rca1
  case hca1 => go_simp; with_reducible rfl
  try simp only [Act.put, List.setIfInBounds_toArray, List.set_cons_zero, List.set_cons_succ]
  refine region_take 3 9 (v := ?vca3) rfl rfl (by kernel_rfl) (by kernel_rfl) (by kernel_rfl) (fun _ _ _ h => h) (by rfl) (fun w' hS => ?hca3) ?rca3
  case hca3 => go_simp; with_reducible rfl
  try simp only [Act.put, List.setIfInBounds_toArray, List.set_cons_zero, List.set_cons_succ]
  refine region_take 4 10 (v := ?vca4) rfl rfl (by kernel_rfl) (by kernel_rfl) (by kernel_rfl) (fun _ _ _ h => h) (by rfl) (fun w' hS => ?hca4) ?rca4
  case hca4 => go_simp; with_reducible rfl
  try simp only [Act.put, List.setIfInBounds_toArray, List.set_cons_zero, List.set_cons_succ]
  refine wpAnyH_ready (rs := [2]) (by kernel_rfl) (by simp) (AllReadyH.cons rfl (fun K hK => ?_) AllReadyH.nil)
  go_simp
  refine (HC1.out _).mono ?_
  rintro e w2 ⟨rfl, hP2⟩
  refine hK.out _ _ (hP2) (fun hHeld => ?_)
  clear hK K hHeld
  refine region_now (hP2) ?_
  try simp only [Act.put, List.setIfInBounds_toArray, List.set_cons_zero, List.set_cons_succ]
  refine wpAnyH_ready (rs := [5]) (by kernel_rfl) (by simp) (AllReadyH.cons rfl (fun K hK => ?_) AllReadyH.nil)
  go_simp
  refine (HC2.out _).mono ?_
  rintro e w3 ⟨rfl, hP3⟩
  refine hK.out _ _ (hP3) (fun hHeld => ?_)
  clear hK K hHeld
  refine region_now (hP3) ?_
  try simp only [Act.put, List.setIfInBounds_toArray, List.set_cons_zero, List.set_cons_succ]
  refine region_take 6 12 (v := ?vca6) rfl rfl (by kernel_rfl) (by kernel_rfl) (by kernel_rfl) (fun _ _ _ h => h) (by rfl) (fun w' hS => ?hca6) ?rca6
  case hca6 => go_simp; with_reducible rfl
  try simp only [Act.put, List.setIfInBounds_toArray, List.set_cons_zero, List.set_cons_succ]
  refine region_take 7 5 (v := ?vca7) rfl rfl (by kernel_rfl) (by kernel_rfl) (by kernel_rfl) (fun _ _ _ h => h) (by rfl) (fun w' hS => ?hca7) ?rca7
  case hca7 => go_simp; with_reducible rfl
  try simp only [Act.put, List.setIfInBounds_toArray, List.set_cons_zero, List.set_cons_succ]
  refine wpAnyH_done (by kernel_rfl) ?_ _
  clear hsub
  go_wp2_with fail
  go_ret
  exact ⟨rfl, (hP1.drew.pure hP2).pure hP3⟩

def MaxTo (m : Nat) (w : World) (e : Ending) (w' : World) : Prop := ∃ (o l : Nat) (sa : Option Addr) (sc : Nat), e = .returned (pageV o l sa m sc) ∧ Pure w w'
set_option maxHeartbeats 2000000 in
set_option maxRecDepth 100000 in
theorem max_any (ad : Option Addr) (c n : Nat) (h : HN) (b : Nat) (w : World) (HPg : Hid (∀ W, Pure w W → ∀ k, k < n → PageAt W ad h k)) (hn1 : 1 ≤ n) (hn40 : n ≤ 40) (hlen : h.counts.length = n) (hc : w.cell? ⟨b, 0, none⟩ = some (.func (.func 56) #[] #[])) :
    Calls Tryz.prog 59 #[.slice ad n c, .func (.func 60) #[] #[.pointer (some ⟨b, 0, none⟩)]] w (MaxTo (mx h.counts) w) := by
  have HLEN := Lib.hid hlen
  obtain ⟨M, hM⟩ : ∃ z, z = mx h.counts := ⟨_, rfl⟩
  rw [← hM]
  have HM := Lib.hid hM
  obtain ⟨w0, hw0⟩ : ∃ w0, w0 = w.alloc (.cells #[.int .i64 0, .int .i64 0, .slice none 0 0] 53) := ⟨_, rfl⟩
  have hR0 : BlockIs w0 w.heap.size [.int .i64 0, .int .i64 0, .slice none 0 0] 53 := hw0 ▸ BlockIs.new w _ _
  have hP0 : Pure w w0 := hw0 ▸ ext_alloc w _
  obtain ⟨b0, o0, on0, ln0, sa0, sc0, xs0, had, p0, p1, p2, hsub0, e0, e1, e2, bo0, bl0, bs0, bx0, bx1, bx2⟩ := HPg.out w0 hP0 0 (by omega)
  subst had
  obtain ⟨xn0, hxn0⟩ : ∃ z, z = xs0.length := ⟨_, rfl⟩
  rw [← hxn0] at p2 bx0 bx1
  have HH0 : Hid (xn0 = mx (h.counts.take 1)) := Lib.hid (by rw [mx_at (counts_at e2), hxn0]; simp [mx])
  simp only [Nat.zero_mul, Nat.add_zero] at p0 p1 p2
  have hB0i : (0 : Int) < (n : Int) := by omega
  have hB0 : 0 < n := by omega
  have hlt1 : ¬ (n : Int) < 1 := by omega
  have hTB := BlockIs.new w0 [.int .i64 on0, .int .i64 ln0, .slice sa0 xn0 sc0] 53
  have hPw := hP0.pure (ext_alloc w0 (.cells #[.int .i64 on0, .int .i64 ln0, .slice sa0 xn0 sc0] 53))
  have hR1 := hR0.ext (ext_alloc w0 (.cells #[.int .i64 on0, .int .i64 ln0, .slice sa0 xn0 sc0] 53)) id
  have hlt0 := hR0.lt
  have hbl : b < w.heap.size := World.block_lt_of_cell? w ⟨b, 0, none⟩ hc
  have HCb := Lib.hid hc
  clear hsub0 e0 e1 e2 bs0 hxn0 hM hlen hR0 hc
  rw [hw0] at p0 p1 p2
  go_enter Tryz.func59, Tryz.ntmps59
  go_wp2_with fail
  clear p0 p1 p2
  rw [← hw0]
  have hz0 : w0.heap.size = w.heap.size + 1 := by rw [hw0, World.size_alloc]
  obtain ⟨mb, hmb⟩ : ∃ mb, mb = w.heap.size + 1 := ⟨_, rfl⟩
  rw [← hmb]
  rw [hz0, ← hmb] at hTB
  have hlt0 : w.heap.size < mb := by omega
  clear hmb hz0 hw0
  generalize w0.alloc (.cells #[.int .i64 on0, .int .i64 ln0, .slice sa0 xn0 sc0] 53) = w1 at *
  obtain ⟨wo, hwo⟩ : ∃ W : World, W = w1 := ⟨_, rfl⟩
  rw [← hwo] at hPw hR1
  go_loopw [6] (fun i W => ∃ (k on ln : Nat) (sa : Option Addr) (m sc : Nat), 1 ≤ k ∧ k ≤ n ∧ i = .int .i64 k ∧ Hid (m = mx (h.counts.take k)) ∧ m ≤ 3000 ∧ BlockIs W mb [.int .i64 on, .int .i64 ln, .slice sa m sc] 53 ∧ Ext (fun i => i = mb) wo W) (fun i _ => n - (intOf i).toNat)
  case atStart => exact ⟨1, on0, ln0, sa0, xn0, sc0, by omega, hn1, rfl, HH0, bx0, hTB, hwo ▸ Ext.refl _ _⟩
  case round =>
    obtain ⟨k, om, lm, sm, m, cm, hk1, hk, rfl, HMx, hm3, hMB, hE⟩ := hrel
    clear hTB hwo
    have hPr : Pure w wr := hPw.trans hE (fun i hi e => by have e' : i = mb := e; omega)
    have hRr := hR1.ext hE (fun e => by have e' : w.heap.size = mb := e; omega)
    by_cases hlt : k < n
    · have hki : (k : Int) < (n : Int) := by omega
      obtain ⟨b1, o1, on, ln, sa, sc, xs, had, p0, p1, p2, hsub, e0, e1, e2, bo, bl, bs, bx0', bx1', bx2'⟩ := HPg.out wr hPr k hlt
      cases had
      obtain ⟨xn, hxn⟩ : ∃ z, z = xs.length := ⟨_, rfl⟩
      rw [← hxn] at p2 bx0' bx1'
      have HMs : Hid (mx (h.counts.take (k + 1)) = max m xn) := Lib.hid (by rw [mx_at (counts_at e2), HMx.out, hxn])
      have d0 : wr.drew.cell? ⟨b0, o0 + k * 3, none⟩ = some (.int .i64 on) := p0
      have d1 : wr.drew.cell? ⟨b0, o0 + k * 3 + 1, none⟩ = some (.int .i64 ln) := p1
      have d2 : wr.drew.cell? ⟨b0, o0 + k * 3 + 2, none⟩ = some (.slice sa xn sc) := p2
      have x0 : wr.drew.cell? ⟨mb, 0, none⟩ = some (.int .i64 om) := hMB.cell 0
      have x1 : wr.drew.cell? ⟨mb, 0 + 1, none⟩ = some (.int .i64 lm) := hMB.cell 1
      have x2 : wr.drew.cell? ⟨mb, 0 + 2, none⟩ = some (.slice sm m cm) := hMB.cell 2
      have k0 := fun w' (hS : Ext (fun _ => False) wr.drew w') => hS.cell_some d0 id
      have k1 := fun w' (hS : Ext (fun _ => False) wr.drew w') => hS.cell_some d1 id
      have k2 := fun w' (hS : Ext (fun _ => False) wr.drew w') => hS.cell_some d2 id
      have l0 := fun w' (hS : Ext (fun _ => False) wr.drew w') => hS.cell_some x0 id
      have l1 := fun w' (hS : Ext (fun _ => False) wr.drew w') => hS.cell_some x1 id
      have l2 := fun w' (hS : Ext (fun _ => False) wr.drew w') => hS.cell_some x2 id
      have HCm := Lib.hid (fun W (hP : Pure w W) => cmp_any (on : Int) ln sa xn sc om lm sm m cm b W (by omega) (by omega) (hP.cell_some HCb.out id))
      unfold pageV at HCm
      clear hsub e0 e1 e2 bs hxn
      by_cases hgt : (0 : Int) < (xn : Int) - (m : Int)
      · have hmax : max m xn = xn := by omega
        go_wp2_with fail
        refine region_start (fun _ => False) (by kernel_rfl) ?_
        try simp only [Act.put, List.setIfInBounds_toArray, List.set_cons_zero, List.set_cons_succ]
        refine region_take 0 20 (v := ?vma0) rfl rfl (by kernel_rfl) (by kernel_rfl) (by kernel_rfl) (fun _ _ _ h => h) (by rfl) (fun w' hS => ?hma0) ?rma0
        case hma0 => go_simp; with_reducible rfl
        try simp only [Act.put, List.setIfInBounds_toArray, List.set_cons_zero, List.set_cons_succ]
        refine region_take 1 21 (v := ?vma1) rfl rfl (by kernel_rfl) (by kernel_rfl) (by kernel_rfl) (fun _ _ _ h => h) (by rfl) (fun w' hS => ?hma1) ?rma1
        case hma1 => go_simp; with_reducible rfl
        try simp only [Act.put, List.setIfInBounds_toArray, List.set_cons_zero, List.set_cons_succ]
        refine region_take 2 22 (v := ?vma2) rfl rfl (by kernel_rfl) (by kernel_rfl) (by kernel_rfl) (fun _ _ _ h => h) (by rfl) (fun w' hS => ?hma2) ?rma2
        case hma2 => go_simp; with_reducible rfl
        try simp only [Act.put, List.setIfInBounds_toArray, List.set_cons_zero, List.set_cons_succ]
        refine region_take 3 23 (v := ?vma3) rfl rfl (by kernel_rfl) (by kernel_rfl) (by kernel_rfl) (fun _ _ _ h => h) (by rfl) (fun w' hS => ?hma3) ?rma3
        case hma3 => go_simp; with_reducible rfl
        try simp only [Act.put, List.setIfInBounds_toArray, List.set_cons_zero, List.set_cons_succ]
        refine region_take 4 24 (v := ?vma4) rfl rfl (by kernel_rfl) (by kernel_rfl) (by kernel_rfl) (fun _ _ _ h => h) (by rfl) (fun w' hS => ?hma4) ?rma4
        case hma4 => go_simp; with_reducible rfl
        try simp only [Act.put, List.setIfInBounds_toArray, List.set_cons_zero, List.set_cons_succ]
        refine region_take 5 25 (v := ?vma5) rfl rfl (by kernel_rfl) (by kernel_rfl) (by kernel_rfl) (fun _ _ _ h => h) (by rfl) (fun w' hS => ?hma5) ?rma5
        case hma5 => go_simp; with_reducible rfl
        try simp only [Act.put, List.setIfInBounds_toArray, List.set_cons_zero, List.set_cons_succ]
        refine wpAnyH_ready (rs := [6]) (by kernel_rfl) (by simp) (AllReadyH.cons rfl (fun K hK => ?_) AllReadyH.nil)
        go_simp
        refine (HCm.out _ hPr.drew).mono ?_
        rintro e w3 ⟨rfl, hP3⟩
        refine hK.out _ _ (hP3) (fun hHeld => ?_)
        clear hK K hHeld
        refine region_now (hP3) ?_
        try simp only [Act.put, List.setIfInBounds_toArray, List.set_cons_zero, List.set_cons_succ]
        refine region_take 7 27 (v := ?vma7) rfl rfl (by kernel_rfl) (by kernel_rfl) (by kernel_rfl) (fun _ _ _ h => h) (by rfl) (fun w' hS => ?hma7) ?rma7
        case hma7 => go_simp; with_reducible rfl
        try simp only [Act.put, List.setIfInBounds_toArray, List.set_cons_zero, List.set_cons_succ]
        refine wpAnyH_done (by kernel_rfl) ?_ _
        have q0 : w3.cell? ⟨b0, o0 + k * 3, none⟩ = some (.int .i64 on) := k0 w3 hP3
        have q1 : w3.cell? ⟨b0, o0 + k * 3 + 1, none⟩ = some (.int .i64 ln) := k1 w3 hP3
        have q2 : w3.cell? ⟨b0, o0 + k * 3 + 2, none⟩ = some (.slice sa xn sc) := k2 w3 hP3
        have hMB3 := (hMB.drew).ext hP3 id
        have y0 : w3.cell? ⟨mb, 0, none⟩ = some (.int .i64 om) := hMB3.cell 0
        have y1 : w3.cell? ⟨mb, 0 + 1, none⟩ = some (.int .i64 lm) := hMB3.cell 1
        have y2 : w3.cell? ⟨mb, 0 + 2, none⟩ = some (.slice sm m cm) := hMB3.cell 2
        have z0 : w3.frozen? ⟨mb, 0, none⟩ = false := hMB3.free 0
        have z1 : w3.frozen? ⟨mb, 0 + 1, none⟩ = false := hMB3.free 1
        have z2 : w3.frozen? ⟨mb, 0 + 2, none⟩ = false := hMB3.free 2
        clear d0 d1 d2 x0 x1 x2 k0 k1 k2 l0 l1 l2 p0 p1 p2
        go_wp2_with fail
        have hMB4 := ((hMB3.set 0 (.int .i64 on)).set 1 (.int .i64 ln)).set 2 (.slice sa xn sc)
        have hX4 : Ext (fun i => i = mb) w3 _ := (((Ext.refl (fun i => i = mb) w3).setCell (p := ⟨mb, 0, none⟩) (fun _ => rfl) (.int .i64 on)).setCell (p := ⟨mb, 1, none⟩) (fun _ => rfl) (.int .i64 ln)).setCell (p := ⟨mb, 2, none⟩) (fun _ => rfl) (.slice sa xn sc)
        have hE4 : Ext (fun i => i = mb) wo _ := ((hE.drew).trans hP3 (fun _ _ e => e.elim)).trans hX4 (fun _ _ e => e)
        simp only [List.set_cons_zero, List.set_cons_succ] at hMB4
        go_roundw
        case rel => exact ⟨k + 1, on, ln, sa, xn, sc, by omega, by omega, by go_num, Lib.hid (by rw [HMs.out, hmax]), by omega, hMB4, hE4⟩
        case measure => simp [intOf]; omega
      · have hmax : max m xn = m := by omega
        go_wp2_with fail
        refine region_start (fun _ => False) (by kernel_rfl) ?_
        try simp only [Act.put, List.setIfInBounds_toArray, List.set_cons_zero, List.set_cons_succ]
        refine region_take 0 20 (v := ?vmb0) rfl rfl (by kernel_rfl) (by kernel_rfl) (by kernel_rfl) (fun _ _ _ h => h) (by rfl) (fun w' hS => ?hmb0) ?rmb0
        case hmb0 => go_simp; with_reducible rfl
        try simp only [Act.put, List.setIfInBounds_toArray, List.set_cons_zero, List.set_cons_succ]
        refine region_take 1 21 (v := ?vmb1) rfl rfl (by kernel_rfl) (by kernel_rfl) (by kernel_rfl) (fun _ _ _ h => h) (by rfl) (fun w' hS => ?hmb1) ?rmb1
        case hmb1 => go_simp; with_reducible rfl
        try simp only [Act.put, List.setIfInBounds_toArray, List.set_cons_zero, List.set_cons_succ]
        refine region_take 2 22 (v := ?vmb2) rfl rfl (by kernel_rfl) (by kernel_rfl) (by kernel_rfl) (fun _ _ _ h => h) (by rfl) (fun w' hS => ?hmb2) ?rmb2
        case hmb2 => go_simp; with_reducible rfl
        try simp only [Act.put, List.setIfInBounds_toArray, List.set_cons_zero, List.set_cons_succ]
        refine region_take 3 23 (v := ?vmb3) rfl rfl (by kernel_rfl) (by kernel_rfl) (by kernel_rfl) (fun _ _ _ h => h) (by rfl) (fun w' hS => ?hmb3) ?rmb3
        case hmb3 => go_simp; with_reducible rfl
        try simp only [Act.put, List.setIfInBounds_toArray, List.set_cons_zero, List.set_cons_succ]
        refine region_take 4 24 (v := ?vmb4) rfl rfl (by kernel_rfl) (by kernel_rfl) (by kernel_rfl) (fun _ _ _ h => h) (by rfl) (fun w' hS => ?hmb4) ?rmb4
        case hmb4 => go_simp; with_reducible rfl
        try simp only [Act.put, List.setIfInBounds_toArray, List.set_cons_zero, List.set_cons_succ]
        refine region_take 5 25 (v := ?vmb5) rfl rfl (by kernel_rfl) (by kernel_rfl) (by kernel_rfl) (fun _ _ _ h => h) (by rfl) (fun w' hS => ?hmb5) ?rmb5
        case hmb5 => go_simp; with_reducible rfl
        try simp only [Act.put, List.setIfInBounds_toArray, List.set_cons_zero, List.set_cons_succ]
        refine wpAnyH_ready (rs := [6]) (by kernel_rfl) (by simp) (AllReadyH.cons rfl (fun K hK => ?_) AllReadyH.nil)
        go_simp
        refine (HCm.out _ hPr.drew).mono ?_
        rintro e w3 ⟨rfl, hP3⟩
        refine hK.out _ _ (hP3) (fun hHeld => ?_)
        clear hK K hHeld
        refine region_now (hP3) ?_
        try simp only [Act.put, List.setIfInBounds_toArray, List.set_cons_zero, List.set_cons_succ]
        refine region_take 7 27 (v := ?vmb7) rfl rfl (by kernel_rfl) (by kernel_rfl) (by kernel_rfl) (fun _ _ _ h => h) (by rfl) (fun w' hS => ?hmb7) ?rmb7
        case hmb7 => go_simp; with_reducible rfl
        try simp only [Act.put, List.setIfInBounds_toArray, List.set_cons_zero, List.set_cons_succ]
        refine wpAnyH_done (by kernel_rfl) ?_ _
        clear d0 d1 d2 x0 x1 x2 k0 k1 k2 l0 l1 l2 p0 p1 p2
        go_wp2_with fail
        go_roundw
        case rel => exact ⟨k + 1, om, lm, sm, m, cm, by omega, by omega, by go_num, Lib.hid (by rw [HMs.out, hmax]), hm3, (hMB.drew).ext hP3 id, (hE.drew).trans hP3 (fun _ _ e => e.elim)⟩
        case measure => simp [intOf]; omega
    · have hki : ¬ (k : Int) < (n : Int) := by omega
      obtain rfl : n = k := by omega
      have hMm : m = M := by rw [HMx.out, HM.out, List.take_of_length_le (by rw [HLEN.out]; omega)]
      subst hMm
      have x0 : wr.cell? ⟨mb, 0, none⟩ = some (.int .i64 om) := hMB.cell 0
      have x1 : wr.cell? ⟨mb, 0 + 1, none⟩ = some (.int .i64 lm) := hMB.cell 1
      have x2 : wr.cell? ⟨mb, 0 + 2, none⟩ = some (.slice sm m cm) := hMB.cell 2
      have y0 : wr.cell? ⟨w.heap.size, 0, none⟩ = some (.int .i64 0) := hRr.cell 0
      have y1 : wr.cell? ⟨w.heap.size, 0 + 1, none⟩ = some (.int .i64 0) := hRr.cell 1
      have y2 : wr.cell? ⟨w.heap.size, 0 + 2, none⟩ = some (.slice none 0 0) := hRr.cell 2
      have z0 : wr.frozen? ⟨w.heap.size, 0, none⟩ = false := hRr.free 0
      have z1 : wr.frozen? ⟨w.heap.size, 0 + 1, none⟩ = false := hRr.free 1
      have z2 : wr.frozen? ⟨w.heap.size, 0 + 2, none⟩ = false := hRr.free 2
      go_wp2_with fail
      have hR9 := ((hRr.set 0 (.int .i64 om)).set 1 (.int .i64 lm)).set 2 (.slice sm m cm)
      have hX9 : Ext (fun i => i = w.heap.size) wr _ := (((Ext.refl (fun i => i = w.heap.size) wr).setCell (p := ⟨w.heap.size, 0, none⟩) (fun _ => rfl) (.int .i64 om)).setCell (p := ⟨w.heap.size, 1, none⟩) (fun _ => rfl) (.int .i64 lm)).setCell (p := ⟨w.heap.size, 2, none⟩) (fun _ => rfl) (.slice sm m cm)
      have hP9 : Pure w _ := hPr.trans hX9 (fun i hi e => by have e' : i = w.heap.size := e; omega)
      obtain ⟨wZ, hwZ⟩ : ∃ wZ, wZ = ((wr.setCell ⟨w.heap.size, 0, none⟩ (.int .i64 om)).setCell ⟨w.heap.size, 1, none⟩ (.int .i64 lm)).setCell ⟨w.heap.size, 2, none⟩ (.slice sm m cm) := ⟨_, rfl⟩
      rw [← hwZ] at hR9 hP9
      rw [← hwZ]
      clear hwZ hX9
      simp only [List.set_cons_zero, List.set_cons_succ] at hR9
      have t0 : wZ.cell? ⟨w.heap.size, 0, none⟩ = some (.int .i64 om) := hR9.cell 0
      have t1 : wZ.cell? ⟨w.heap.size, 1, none⟩ = some (.int .i64 lm) := hR9.cell 1
      have t2 : wZ.cell? ⟨w.heap.size, 2, none⟩ = some (.slice sm m cm) := hR9.cell 2
      refine bodyPost_ret (v := .agg #[.int .i64 om, .int .i64 lm, .slice sm m cm]) (by simp [results, Tryz.results59, go_sem, t0, t1, t2]) rfl ⟨om, lm, sm, cm, rfl, hP9⟩
end Go.Proofs.YtomcdhljjmnahaaGreat.P26
namespace Go.Proofs.YtomcdhljjmnahaaGreat.P26
set_option linter.unusedVariables false
set_option linter.unusedSimpArgs false
open Go.RowKit C26

/-- a writer has so many bits; behind a world only it, and what is new, may have been written -/
def WSt (w0 : World) (wb : Nat) (bs : List Bool) (W : World) : Prop := ∃ wa wc, WrIs W wb true bs wa wc ∧ Ext (fun i => i = wb) w0 W ∧ (∀ g, wa = some g → w0.heap.size ≤ g.block) ∧ wb < w0.heap.size
theorem WSt.ext {w0 W : World} {wb : Nat} {bs : List Bool} (h : WSt w0 wb bs W) : Ext (fun i => i = wb) w0 W := by obtain ⟨_, _, _, h, _⟩ := h; exact h
theorem WSt.later {w0 W W' : World} {wb : Nat} {bs : List Bool} (h : WSt w0 wb bs W) (hE : Pure W W') : WSt w0 wb bs W' := by
  obtain ⟨wa, wc, hW, hX, hf, hb⟩ := h
  exact ⟨wa, wc, hW.pure hE, hX.trans hE (fun _ _ e => e.elim), hf, hb⟩
def PutTo (w0 : World) (wb : Nat) (bs : List Bool) (e : Ending) (W' : World) : Prop := e = .returned (.int .i64 0) ∧ WSt w0 wb bs W'
def DoneTo (w0 : World) (wb : Nat) (bs : List Bool) (e : Ending) (W' : World) : Prop := e = .returned (.tuple #[]) ∧ WSt w0 wb bs W'
theorem wsput {w0 W : World} {wb : Nat} {bs : List Bool} (h : WSt w0 wb bs W) (x n : Nat) (hlen : bs.length ≤ 900000000) (hn : n ≤ 32) (hx : x < 4294967296) (hxn : x < 2 ^ n) :
    Calls Tryz.prog 64 #[.pointer (some ⟨wb, 0, none⟩), .int .u32 x, .int .i64 n] W (PutTo w0 wb (bs ++ bN x n)) := by
  obtain ⟨wa, wc, hW, hX, hf, hb⟩ := h
  refine (put_yes wb true bs wa wc x n W hW hlen hn hx hxn).mono ?_
  rintro e W' ⟨rfl, wa', wc', hW', hE, hf'⟩
  refine ⟨rfl, wa', wc', hW', hX.trans hE (fun i hi e => ?_), fun g hg => ?_, hb⟩
  · rcases e with e | ⟨g, hg, e⟩
    · exact e
    · have := hf g hg; omega
  · rcases hf' g hg with e | e
    · exact hf g e
    · exact Nat.le_trans hX.size e
theorem wsalign {w0 W : World} {wb : Nat} {bs : List Bool} (h : WSt w0 wb bs W) (hlen : bs.length ≤ 1000000000) :
    Calls Tryz.prog 73 #[.pointer (some ⟨wb, 0, none⟩)] W (DoneTo w0 wb (align bs)) := by
  obtain ⟨wa, wc, hW, hX, hf, hb⟩ := h
  refine (walign_any wb true bs wa wc W hW hlen).mono ?_
  rintro e W' ⟨rfl, hW', hE⟩
  exact ⟨rfl, wa, wc, hW', hX.trans hE (fun _ _ e => e), hf, hb⟩
def PutcTo (wb : Nat) (a : Option Addr) (bs : List Bool) (W : World) (e : Ending) (W' : World) : Prop := e = .returned (.tuple #[]) ∧ ∃ a' c', WrIs W' wb true bs a' c' ∧ Ext (WrS wb a) W W' ∧ (∀ g, a' = some g → a = some g ∨ W.heap.size ≤ g.block)
set_option maxHeartbeats 1000000 in
set_option maxRecDepth 100000 in
theorem putc_any (wb : Nat) (bs : List Bool) (a : Option Addr) (c : Nat) (W : World) (h : WrIs W wb true bs a c) (pc ab n cap wd : Nat) (xs : List Nat) (hn : xs.length = n) (hrow : RowOf W (some ⟨ab, 0, none⟩) (xs.map intV)) (hab : ¬ WrS wb a ab) (hcell : W.cell? ⟨pc, 0, none⟩ = some (.pointer (some ⟨wb, 0, none⟩))) (hpc : ¬ WrS wb a pc) (hlen : bs.length ≤ 100000000) (hw : wd ≤ 32) (hn8 : n ≤ 8) (hx : ∀ x ∈ xs, x < 4294967296 ∧ x < 2 ^ wd) :
    Calls Tryz.prog 63 #[.int .i64 wd, .slice (some ⟨ab, 0, none⟩) n cap, .pointer (some ⟨pc, 0, none⟩)] W (PutcTo wb a (bs ++ numsB xs wd) W) := by
  have HX := Lib.hid hx
  have HN := Lib.hid hn
  have hablt : 0 < n → ab < W.heap.size := fun hp => by
    obtain ⟨b, o, e, hc⟩ := hrow 0 (intV (xs[0]'(by omega))) (by rw [List.getElem?_map, List.getElem?_eq_getElem (by omega)]; rfl)
    cases e
    exact World.block_lt_of_cell? W _ hc
  have hpclt := World.block_lt_of_cell? W _ hcell
  clear hx hn
  go_enter Tryz.func63, Tryz.ntmps63
  go_wp2_with fail
  go_loopw [6, 9] (fun _ i W' => ∃ (k : Nat) (wa : Option Addr) (wc : Nat), k ≤ n ∧ i = .int .i64 k ∧ WrIs W' wb true (bs ++ numsB (xs.take k) wd) wa wc ∧ Ext (WrS wb a) W W' ∧ Hid (∀ g, wa = some g → a = some g ∨ W.heap.size ≤ g.block)) (fun _ i _ => n - (intOf i).toNat)
  case atStart => exact ⟨0, a, c, Nat.zero_le _, rfl, by simpa [numsB] using h, Ext.refl _ _, Lib.hid (fun g hg => Or.inl hg)⟩
  case round =>
    obtain ⟨k, wa, wc, hk, rfl, hW, hE, hf⟩ := hrel
    by_cases hlt : k < n
    · have hki : (k : Int) < (n : Int) := by omega
      have hkx : k < xs.length := by rw [HN.out]; exact hlt
      obtain ⟨x, hxx⟩ : ∃ x, x = xs[k] := ⟨_, rfl⟩
      obtain ⟨b, o, e, hc⟩ := hrow k (intV x) (by rw [List.getElem?_map, List.getElem?_eq_getElem hkx, hxx]; rfl)
      cases e
      have hc2 : wr.cell? ⟨ab, k, none⟩ = some (.int .i64 x) := hE.cell_some (by rw [Nat.zero_add] at hc; exact hc) hab
      have hp2 : wr.cell? ⟨pc, 0, none⟩ = some (.pointer (some ⟨wb, 0, none⟩)) := hE.cell_some hcell hpc
      have hx1 := HX.out x (hxx ▸ List.getElem_mem hkx)
      have hln : (bs ++ numsB (xs.take k) wd).length ≤ 100000256 := by
        rw [List.length_append, numsB_len, List.length_take]
        have : min k xs.length * wd ≤ 8 * 32 := Nat.mul_le_mul (by omega) hw
        omega
      have HS : Hid (bs ++ numsB (xs.take k) wd ++ bitsNum true x wd = bs ++ numsB (xs.take (k + 1)) wd) := Lib.hid (by rw [numsB_take_at (List.getElem?_eq_getElem hkx), hxx, List.append_assoc]; rfl)
      have HPut := Lib.hid (put_yes wb true _ wa wc x wd wr hW (by omega) hw hx1.1 hx1.2)
      have hu : IntKind.u32.wrap (x : Int) = (x : Int) := IntWalk.u32_in _ (by omega)
      have hx32 := hx1.1
      clear hc hkx hxx hx1 hln hW
      go_wp2_with fail
      refine HPut.out.mono ?_
      rintro e w5 ⟨rfl, wa5, wc5, hW5, hE5, hf5⟩
      rw [HS.out] at hW5
      obtain ⟨hX5, hF5⟩ := wrs_trans hE hf.out hE5 hf5
      clear HPut hE5 hf5 hc2 hp2
      go_wp2_with fail
      go_roundw
      case rel => exact ⟨k + 1, wa5, wc5, by omega, by go_num, hW5, hX5, Lib.hid hF5⟩
      case measure => simp [intOf]; omega
    · have hki : ¬ (k : Int) < (n : Int) := by omega
      obtain rfl : n = k := by omega
      rw [List.take_of_length_le (by rw [HN.out]; omega)] at hW
      go_wp2_with fail
      go_end0
      exact ⟨rfl, wa, wc, hW, hE, hf.out⟩
/-- the closure put, on a writer of the call's own -/
theorem wsputc {w0 W : World} {wb : Nat} {bs : List Bool} (h : WSt w0 wb bs W) (pc ab n cap wd : Nat) (xs : List Nat) (C : Array Value) (hC : C = (xs.map intV).toArray) (habq : W.heap.size = ab) (hn : xs.length = n) (hcell : w0.cell? ⟨pc, 0, none⟩ = some (.pointer (some ⟨wb, 0, none⟩))) (hpc : pc ≠ wb) (hlen : bs.length ≤ 100000000) (hw : wd ≤ 32) (hn8 : n ≤ 8) (hx : ∀ x ∈ xs, x < 4294967296 ∧ x < 2 ^ wd) :
    Calls Tryz.prog 63 #[.int .i64 wd, .slice (some ⟨ab, 0, none⟩) n cap, .pointer (some ⟨pc, 0, none⟩)] (W.alloc (.cells C 3)) (DoneTo w0 wb (bs ++ numsB xs wd)) := by
  obtain ⟨wa, wc, hW, hX, hf, hb⟩ := h
  have hpl := World.block_lt_of_cell? w0 _ hcell
  have hwl := hW.lt
  have hbl := hW.blk.lt
  refine (putc_any wb bs wa wc _ (hW.pure (ext_alloc W (.cells C 3))) pc ab n cap wd xs hn (row_at _ habq hC) ?_ (((hX.alloc _).cell_some hcell (fun e => hpc e))) ?_ hlen hw hn8 hx).mono ?_
  · rintro (e | ⟨g, hg, e⟩)
    · omega
    · have := hwl g hg; omega
  · rintro (e | ⟨g, hg, e⟩)
    · exact hpc e
    · have := hf g hg; simp only at hpl; omega
  · rintro e W' ⟨rfl, a', c', hW', hE, hf'⟩
    refine ⟨rfl, a', c', hW', (hX.alloc _).trans hE (fun i hi e => ?_), fun g hg => ?_, hb⟩
    · rcases e with e | ⟨g, hg, e⟩
      · exact e
      · have := hf g hg; omega
    · rcases hf' g hg with e | e
      · exact hf g e
      · exact Nat.le_trans (hX.alloc (.cells C 3)).size e
end Go.Proofs.YtomcdhljjmnahaaGreat.P26
namespace Go.Proofs.YtomcdhljjmnahaaGreat.P26
set_option linter.unusedVariables false
set_option linter.unusedSimpArgs false
open Go.RowKit C26

set_option maxHeartbeats 2000000 in
set_option maxRecDepth 100000 in
theorem row_obj (ad : Option Addr) (c n : Nat) (h : HN) (w0 W : World) (wb : Nat) (bs : List Bool) (HPg : Hid (∀ W, Ext (fun i => i = wb) w0 W → ∀ k, k < n → PageAt W ad h k)) (hn40 : n ≤ 40) (hlst : (HN.above h.os).length = n) (hS : WSt w0 wb bs W) (hlen : bs.length ≤ 1000000) (lob : Nat) (hos : ∀ x ∈ h.os, x ≤ 4096) (hlob : w0.cell? ⟨lob, 0, none⟩ = some (.int .i64 (least h.os : Nat))) (hne : lob ≠ wb) :
    Calls Tryz.prog 65 #[.pointer (some ⟨wb, 0, none⟩), .slice ad n c, .int .i64 (h.wa : Nat), .func (.func 66) #[] #[.pointer (some ⟨lob, 0, none⟩)]] W (DoneTo w0 wb (align (bs ++ numsB (HN.above h.os) (h.wa)))) := by
  obtain ⟨wv, hwv⟩ : ∃ z, z = h.wa := ⟨_, rfl⟩
  obtain ⟨LS, hls⟩ : ∃ z : List Nat, z = HN.above h.os := ⟨_, rfl⟩
  rw [← hwv, ← hls]
  rw [← hls] at hlst
  have hwl : wv ≤ 32 := by rw [hwv]; exact width_le (fun y hy => by have := hos y hy; omega)
  have HWV := Lib.hid hwv
  have HLS := Lib.hid hls
  have HLL := Lib.hid hlst
  clear hwv hls hlst
  obtain ⟨lo, hlo⟩ : ∃ z, z = least h.os := ⟨_, rfl⟩
  rw [← hlo] at hlob
  have HLO := Lib.hid hlo
  have HLOB := Lib.hid hlob
  clear hlo hlob
  go_enter Tryz.func65, Tryz.ntmps65
  go_wp2_with fail
  go_loopw [9, 12] (fun _ i W' => ∃ k : Nat, k ≤ n ∧ i = .int .i64 k ∧ WSt w0 wb (bs ++ numsB (LS.take k) wv) W') (fun _ i _ => n - (intOf i).toNat)
  case atStart => exact ⟨0, Nat.zero_le _, rfl, by simpa [numsB] using hS⟩
  case round =>
    obtain ⟨k, hk, rfl, hT⟩ := hrel
    clear hS
    have hlk2 : (bs ++ numsB (LS.take k) wv).length ≤ 1001280 := by
      rw [List.length_append, numsB_len, List.length_take]
      have : min k LS.length * wv ≤ 40 * 32 := Nat.mul_le_mul (by rw [HLL.out]; omega) hwl
      omega
    by_cases hlt : k < n
    · have hki : (k : Int) < (n : Int) := by omega
      obtain ⟨b, o, on, ln, sa, sc, xs, had, p0, p1, p2, hsub, e0, e1, e2, bo, bl, bs', bx0, bx1, bx2⟩ := HPg.out wr hT.ext k hlt
      subst had
      obtain ⟨xn, hxn⟩ : ∃ z, z = xs.length := ⟨_, rfl⟩
      rw [← hxn] at p2 bx0 bx1
      have hge : lo ≤ on := by rw [HLO.out]; exact least_le (mem_of_at e0)
      have hab : on - lo < 2 ^ wv := by rw [HLO.out, HWV.out]; exact above_lt (mem_of_at e0)
      obtain ⟨d, hdd⟩ : ∃ d, d = on - lo := ⟨_, rfl⟩
      have hd : LS[k]? = some d := by rw [HLS.out, hdd, HLO.out]; exact above_at e0
      have hdi : (on : Int) - (lo : Int) = (d : Int) := by omega
      have hd1 : d < 2 ^ wv := hdd ▸ hab
      have HOf0 := fun W (hP : Pure wr W) => above_obj_any (on : Int) (ln : Int) sa xn sc (lo : Int) lob W ((hT.ext.trans hP (fun _ _ e => e.elim)).cell_some HLOB.out hne) (by omega) (by omega) (by omega)
      rw [hdi] at HOf0
      unfold pageV at HOf0
      have hd2 : d ≤ 2147483647 := by omega
      clear hab hdi hdd
      have HOf := Lib.hid HOf0
      have HS2 : Hid (bs ++ numsB (LS.take k) wv ++ bN d wv = bs ++ numsB (LS.take (k + 1)) wv) := Lib.hid (by rw [numsB_take_at hd, List.append_assoc])
      have HPut := Lib.hid (fun W'' (hP : Pure wr W'') => wsput (hT.later hP) d wv (by omega) hwl (by omega) hd1)
      have hu : IntKind.u32.wrap (d : Int) = (d : Int) := IntWalk.u32_in _ (by omega)
      clear hd hd1 hT hsub e0 e1 e2 bs' hxn hlk2 HOf0
      go_wp2_with fail
      refine (HOf.out _ (ext_alloc wr _)).mono ?_
      rintro e w3 ⟨rfl, hP3⟩
      go_wp2_with fail
      refine (HPut.out _ ((ext_alloc wr _).pure hP3)).mono ?_
      rintro e w4 ⟨rfl, hT4⟩
      rw [HS2.out] at hT4
      clear HPut HOf
      go_wp2_with fail
      go_roundw
      case rel => exact ⟨k + 1, by omega, by go_num, hT4⟩
      case measure => simp [intOf]; omega
    · have hki : ¬ (k : Int) < (n : Int) := by omega
      obtain rfl : n = k := by omega
      have hf : bs ++ numsB (LS.take n) wv = bs ++ numsB LS wv := by rw [List.take_of_length_le (by rw [HLL.out]; omega)]
      rw [hf] at hT hlk2
      have HA := Lib.hid (wsalign hT (by omega))
      clear hf hT
      go_wp2_with fail
      refine HA.out.mono ?_
      rintro e w4 ⟨rfl, hT4⟩
      go_wp2_with fail
      go_end0
      exact ⟨rfl, hT4⟩
set_option maxHeartbeats 2000000 in
set_option maxRecDepth 100000 in
theorem row_len (ad : Option Addr) (c n : Nat) (h : HN) (w0 W : World) (wb : Nat) (bs : List Bool) (HPg : Hid (∀ W, Ext (fun i => i = wb) w0 W → ∀ k, k < n → PageAt W ad h k)) (hn40 : n ≤ 40) (hlst : (HN.above h.ls).length = n) (hS : WSt w0 wb bs W) (hlen : bs.length ≤ 1000000) (lob : Nat) (hos : ∀ x ∈ h.ls, x ≤ 2147483647) (hlob : w0.cell? ⟨lob, 0, none⟩ = some (.int .i64 (least h.ls : Nat))) (hne : lob ≠ wb) :
    Calls Tryz.prog 65 #[.pointer (some ⟨wb, 0, none⟩), .slice ad n c, .int .i64 (h.wb : Nat), .func (.func 67) #[] #[.pointer (some ⟨lob, 0, none⟩)]] W (DoneTo w0 wb (align (bs ++ numsB (HN.above h.ls) (h.wb)))) := by
  obtain ⟨wv, hwv⟩ : ∃ z, z = h.wb := ⟨_, rfl⟩
  obtain ⟨LS, hls⟩ : ∃ z : List Nat, z = HN.above h.ls := ⟨_, rfl⟩
  rw [← hwv, ← hls]
  rw [← hls] at hlst
  have hwl : wv ≤ 32 := by rw [hwv]; exact width_le (fun y hy => by have := hos y hy; omega)
  have HWV := Lib.hid hwv
  have HLS := Lib.hid hls
  have HLL := Lib.hid hlst
  clear hwv hls hlst
  obtain ⟨lo, hlo⟩ : ∃ z, z = least h.ls := ⟨_, rfl⟩
  rw [← hlo] at hlob
  have HLO := Lib.hid hlo
  have HLOB := Lib.hid hlob
  clear hlo hlob
  go_enter Tryz.func65, Tryz.ntmps65
  go_wp2_with fail
  go_loopw [9, 12] (fun _ i W' => ∃ k : Nat, k ≤ n ∧ i = .int .i64 k ∧ WSt w0 wb (bs ++ numsB (LS.take k) wv) W') (fun _ i _ => n - (intOf i).toNat)
  case atStart => exact ⟨0, Nat.zero_le _, rfl, by simpa [numsB] using hS⟩
  case round =>
    obtain ⟨k, hk, rfl, hT⟩ := hrel
    clear hS
    have hlk2 : (bs ++ numsB (LS.take k) wv).length ≤ 1001280 := by
      rw [List.length_append, numsB_len, List.length_take]
      have : min k LS.length * wv ≤ 40 * 32 := Nat.mul_le_mul (by rw [HLL.out]; omega) hwl
      omega
    by_cases hlt : k < n
    · have hki : (k : Int) < (n : Int) := by omega
      obtain ⟨b, o, on, ln, sa, sc, xs, had, p0, p1, p2, hsub, e0, e1, e2, bo, bl, bs', bx0, bx1, bx2⟩ := HPg.out wr hT.ext k hlt
      subst had
      obtain ⟨xn, hxn⟩ : ∃ z, z = xs.length := ⟨_, rfl⟩
      rw [← hxn] at p2 bx0 bx1
      have hge : lo ≤ ln := by rw [HLO.out]; exact least_le (mem_of_at e1)
      have hab : ln - lo < 2 ^ wv := by rw [HLO.out, HWV.out]; exact above_lt (mem_of_at e1)
      obtain ⟨d, hdd⟩ : ∃ d, d = ln - lo := ⟨_, rfl⟩
      have hd : LS[k]? = some d := by rw [HLS.out, hdd, HLO.out]; exact above_at e1
      have hdi : (ln : Int) - (lo : Int) = (d : Int) := by omega
      have hd1 : d < 2 ^ wv := hdd ▸ hab
      have HOf0 := fun W (hP : Pure wr W) => above_len_any (on : Int) (ln : Int) sa xn sc (lo : Int) lob W ((hT.ext.trans hP (fun _ _ e => e.elim)).cell_some HLOB.out hne) (by omega) (by omega) (by omega)
      rw [hdi] at HOf0
      unfold pageV at HOf0
      have hd2 : d ≤ 2147483647 := by omega
      clear hab hdi hdd
      have HOf := Lib.hid HOf0
      have HS2 : Hid (bs ++ numsB (LS.take k) wv ++ bN d wv = bs ++ numsB (LS.take (k + 1)) wv) := Lib.hid (by rw [numsB_take_at hd, List.append_assoc])
      have HPut := Lib.hid (fun W'' (hP : Pure wr W'') => wsput (hT.later hP) d wv (by omega) hwl (by omega) hd1)
      have hu : IntKind.u32.wrap (d : Int) = (d : Int) := IntWalk.u32_in _ (by omega)
      clear hd hd1 hT hsub e0 e1 e2 bs' hxn hlk2 HOf0
      go_wp2_with fail
      refine (HOf.out _ (ext_alloc wr _)).mono ?_
      rintro e w3 ⟨rfl, hP3⟩
      go_wp2_with fail
      refine (HPut.out _ ((ext_alloc wr _).pure hP3)).mono ?_
      rintro e w4 ⟨rfl, hT4⟩
      rw [HS2.out] at hT4
      clear HPut HOf
      go_wp2_with fail
      go_roundw
      case rel => exact ⟨k + 1, by omega, by go_num, hT4⟩
      case measure => simp [intOf]; omega
    · have hki : ¬ (k : Int) < (n : Int) := by omega
      obtain rfl : n = k := by omega
      have hf : bs ++ numsB (LS.take n) wv = bs ++ numsB LS wv := by rw [List.take_of_length_le (by rw [HLL.out]; omega)]
      rw [hf] at hT hlk2
      have HA := Lib.hid (wsalign hT (by omega))
      clear hf hT
      go_wp2_with fail
      refine HA.out.mono ?_
      rintro e w4 ⟨rfl, hT4⟩
      go_wp2_with fail
      go_end0
      exact ⟨rfl, hT4⟩
set_option maxHeartbeats 2000000 in
set_option maxRecDepth 100000 in
theorem row_cnt (ad : Option Addr) (c n : Nat) (h : HN) (w0 W : World) (wb : Nat) (bs : List Bool) (HPg : Hid (∀ W, Ext (fun i => i = wb) w0 W → ∀ k, k < n → PageAt W ad h k)) (hn40 : n ≤ 40) (hlst : (h.counts).length = n) (hS : WSt w0 wb bs W) (hlen : bs.length ≤ 1000000) (hos : ∀ x ∈ h.counts, x ≤ 3000) :
    Calls Tryz.prog 65 #[.pointer (some ⟨wb, 0, none⟩), .slice ad n c, .int .i64 (h.wc : Nat), .func (.func 56) #[] #[]] W (DoneTo w0 wb (align (bs ++ numsB (h.counts) (h.wc)))) := by
  obtain ⟨wv, hwv⟩ : ∃ z, z = h.wc := ⟨_, rfl⟩
  obtain ⟨LS, hls⟩ : ∃ z : List Nat, z = h.counts := ⟨_, rfl⟩
  rw [← hwv, ← hls]
  rw [← hls] at hlst
  have hwl : wv ≤ 32 := by rw [hwv]; exact wid_le.2 (mx_lt (by decide) (fun y hy => by have := hos y hy; omega))
  have HWV := Lib.hid hwv
  have HLS := Lib.hid hls
  have HLL := Lib.hid hlst
  clear hwv hls hlst
  skip
  go_enter Tryz.func65, Tryz.ntmps65
  go_wp2_with fail
  go_loopw [9, 12] (fun _ i W' => ∃ k : Nat, k ≤ n ∧ i = .int .i64 k ∧ WSt w0 wb (bs ++ numsB (LS.take k) wv) W') (fun _ i _ => n - (intOf i).toNat)
  case atStart => exact ⟨0, Nat.zero_le _, rfl, by simpa [numsB] using hS⟩
  case round =>
    obtain ⟨k, hk, rfl, hT⟩ := hrel
    clear hS
    have hlk2 : (bs ++ numsB (LS.take k) wv).length ≤ 1001280 := by
      rw [List.length_append, numsB_len, List.length_take]
      have : min k LS.length * wv ≤ 40 * 32 := Nat.mul_le_mul (by rw [HLL.out]; omega) hwl
      omega
    by_cases hlt : k < n
    · have hki : (k : Int) < (n : Int) := by omega
      obtain ⟨b, o, on, ln, sa, sc, xs, had, p0, p1, p2, hsub, e0, e1, e2, bo, bl, bs', bx0, bx1, bx2⟩ := HPg.out wr hT.ext k hlt
      subst had
      obtain ⟨xn, hxn⟩ : ∃ z, z = xs.length := ⟨_, rfl⟩
      rw [← hxn] at p2 bx0 bx1
      have hab : xn < 2 ^ wv := by rw [hxn, HWV.out]; exact Nat.lt_of_le_of_lt (le_mx (mem_of_at (counts_at e2))) (lt_wid _)
      obtain ⟨d, hdd⟩ : ∃ d, d = xn := ⟨_, rfl⟩
      have hd : LS[k]? = some d := by rw [HLS.out, hdd, hxn]; exact counts_at e2
      have hd1 : d < 2 ^ wv := hdd ▸ hab
      have HOf0 := fun W (hP : Pure wr W) => count_any (on : Int) (ln : Int) sa xn sc W (by omega)
      rw [← hdd] at HOf0 p2 bx0 bx1
      unfold pageV at HOf0
      clear hab hdd
      have HOf := Lib.hid HOf0
      have HS2 : Hid (bs ++ numsB (LS.take k) wv ++ bN d wv = bs ++ numsB (LS.take (k + 1)) wv) := Lib.hid (by rw [numsB_take_at hd, List.append_assoc])
      have HPut := Lib.hid (fun W'' (hP : Pure wr W'') => wsput (hT.later hP) d wv (by omega) hwl (by omega) hd1)
      have hu : IntKind.u32.wrap (d : Int) = (d : Int) := IntWalk.u32_in _ (by omega)
      clear hd hd1 hT hsub e0 e1 e2 bs' hxn hlk2 HOf0
      go_wp2_with fail
      refine (HOf.out _ (ext_alloc wr _)).mono ?_
      rintro e w3 ⟨rfl, hP3⟩
      go_wp2_with fail
      refine (HPut.out _ ((ext_alloc wr _).pure hP3)).mono ?_
      rintro e w4 ⟨rfl, hT4⟩
      rw [HS2.out] at hT4
      clear HPut HOf
      go_wp2_with fail
      go_roundw
      case rel => exact ⟨k + 1, by omega, by go_num, hT4⟩
      case measure => simp [intOf]; omega
    · have hki : ¬ (k : Int) < (n : Int) := by omega
      obtain rfl : n = k := by omega
      have hf : bs ++ numsB (LS.take n) wv = bs ++ numsB LS wv := by rw [List.take_of_length_le (by rw [HLL.out]; omega)]
      rw [hf] at hT hlk2
      have HA := Lib.hid (wsalign hT (by omega))
      clear hf hT
      go_wp2_with fail
      refine HA.out.mono ?_
      rintro e w4 ⟨rfl, hT4⟩
      go_wp2_with fail
      go_end0
      exact ⟨rfl, hT4⟩
end Go.Proofs.YtomcdhljjmnahaaGreat.P26
namespace Go.Proofs.YtomcdhljjmnahaaGreat.P26
set_option linter.unusedVariables false
set_option linter.unusedSimpArgs false
open Go.RowKit C26

set_option maxHeartbeats 2000000 in
set_option maxRecDepth 100000 in
theorem row_int (ad : Option Addr) (c n : Nat) (LS : List Nat) (w0 W : World) (wb : Nat) (bs : List Bool) (wv : Nat) (hRow : RowOf w0 ad (LS.map intV)) (had : ∀ g, ad = some g → g.block ≠ wb) (hn : n ≤ 65536) (hlst : LS.length = n) (hS : WSt w0 wb bs W) (hlen : bs.length ≤ 1000000) (hx : ∀ x ∈ LS, x ≤ 4095 ∧ x < 2 ^ wv) (hwl : wv ≤ 32) :
    Calls Tryz.prog 68 #[.pointer (some ⟨wb, 0, none⟩), .slice ad n c, .int .i64 wv, .func (.func 69) #[] #[]] W (DoneTo w0 wb (align (bs ++ numsB LS wv))) := by
  have HLL := Lib.hid hlst
  have HX := Lib.hid hx
  have HId := Lib.hid (fun (x : Int) W => id_any x W)
  clear hlst hx
  go_enter Tryz.func68, Tryz.ntmps68
  go_wp2_with fail
  go_loopw [9, 12] (fun _ i W' => ∃ k : Nat, k ≤ n ∧ i = .int .i64 k ∧ WSt w0 wb (bs ++ numsB (LS.take k) wv) W') (fun _ i _ => n - (intOf i).toNat)
  case atStart => exact ⟨0, Nat.zero_le _, rfl, by simpa [numsB] using hS⟩
  case round =>
    obtain ⟨k, hk, rfl, hT⟩ := hrel
    clear hS
    have hlk2 : (bs ++ numsB (LS.take k) wv).length ≤ 1000000 + 65536 * 32 := by
      rw [List.length_append, numsB_len, List.length_take]
      have : min k LS.length * wv ≤ 65536 * 32 := Nat.mul_le_mul (by rw [HLL.out]; omega) hwl
      omega
    by_cases hlt : k < n
    · have hki : (k : Int) < (n : Int) := by omega
      have hkx : k < LS.length := by rw [HLL.out]; exact hlt
      obtain ⟨d, hdd⟩ : ∃ d, d = LS[k] := ⟨_, rfl⟩
      obtain ⟨b, o, rfl, hc⟩ := (hRow.ext hT.ext (fun g hg e => had g hg e)) k (intV d) (by rw [List.getElem?_map, List.getElem?_eq_getElem hkx, hdd]; rfl)
      have hc2 : wr.cell? ⟨b, o + k, none⟩ = some (.int .i64 d) := hc
      have hd : LS[k]? = some d := by rw [List.getElem?_eq_getElem hkx, hdd]
      have hd1 := HX.out d (hdd ▸ List.getElem_mem hkx)
      have hd2 : d ≤ 4095 := hd1.1
      have HS2 : Hid (bs ++ numsB (LS.take k) wv ++ bN d wv = bs ++ numsB (LS.take (k + 1)) wv) := Lib.hid (by rw [numsB_take_at hd, List.append_assoc])
      have HPut := Lib.hid (fun W'' (hP : Pure wr W'') => wsput (hT.later hP) d wv (by omega) (by omega) (by omega) hd1.2)
      have hu : IntKind.u32.wrap (d : Int) = (d : Int) := IntWalk.u32_in _ (by omega)
      clear hd hd1 hT hc hkx hdd hlk2
      go_wp2_with fail
      refine (HId.out (d : Int) _).mono ?_
      rintro e w3 ⟨rfl, hP3⟩
      go_wp2_with fail
      refine (HPut.out _ hP3).mono ?_
      rintro e w4 ⟨rfl, hT4⟩
      rw [HS2.out] at hT4
      clear HPut
      go_wp2_with fail
      go_roundw
      case rel => exact ⟨k + 1, by omega, by go_num, hT4⟩
      case measure => simp [intOf]; omega
    · have hki : ¬ (k : Int) < (n : Int) := by omega
      obtain rfl : n = k := by omega
      have hf : bs ++ numsB (LS.take n) wv = bs ++ numsB LS wv := by rw [List.take_of_length_le (by rw [HLL.out]; omega)]
      rw [hf] at hT hlk2
      have HA := Lib.hid (wsalign hT (by omega))
      clear hf hT
      go_wp2_with fail
      refine HA.out.mono ?_
      rintro e w4 ⟨rfl, hT4⟩
      go_wp2_with fail
      go_end0
      exact ⟨rfl, hT4⟩
end Go.Proofs.YtomcdhljjmnahaaGreat.P26
