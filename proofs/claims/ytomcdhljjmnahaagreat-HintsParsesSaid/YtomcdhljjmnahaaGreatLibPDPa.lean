import Derived.Test.YtomcdhljjmnahaaGreatLibPBPa
import Derived.Test.YtomcdhljjmnahaaGreatLibPCPa
import Derived.StillTailTactics
import Derived.Test.YtomcdhljjmnahaaGreatLibPAPa
import Derived.Test.YtomcdhljjmnahaaGreatLibBBPa
import Derived.Deep.DeepCutAuto
import Derived.Test.YtomcdhljjmnahaaGreatLibBAPa
import Derived.Test.YtomcdhljjmnahaaGreatSqPa
set_option linter.unusedVariables false
set_option linter.unusedSimpArgs false
set_option maxRecDepth 100000
namespace Go.Proofs.YtomcdhljjmnahaaGreat.P26
open Go.RowKit C26
set_option maxHeartbeats 8000000 in
theorem decode_any (bd : Option Addr) (bc : Nat) (bl : List UInt8) (n : Int) (w : World) (hb : Bytes w bd bl) (hnil : bd = none → bc = 0) (hle : bl.length ≤ bc) (hl : bl.length ≤ 5000000) :
 Calls Tryz.prog 45 #[.slice bd bl.length bc, .int .i64 n] w (DecRes (bitsOf true bl) n w) := by
 have HWi := qh (within_any n 1 2048 w)
 obtain ⟨B, hB⟩ : ∃ B, B = inB n 1 2048 := ⟨_, rfl⟩
 rw [← hB] at HWi
 cases B with
 | false =>
   have HTo : Hid (DecTo (bitsOf true bl) n (dErr 2)) := qh (Or.inl ⟨hB.symm, rfl⟩)
   clear hB
   go_enter Tryz.func45, Tryz.ntmps45
   go_wp2_with fail
   refine HWi.out.mono ?_
   rintro e w1 ⟨rfl, hw1⟩
   obtain rfl := hw1.symm
   go_wp2_with fail
   refine bodyPost_ret (v := .tuple #[.int .i64 0, .slice none 0 0, .int .i64 0, .int .i64 2]) (by simp [results, Tryz.results45, go_sem]) rfl (decRes_err HTo.out (Ext.refl _ _))
 | true =>
   have HIn := qh hB.symm
   obtain ⟨hn1, hn2⟩ := inB_true.1 hB.symm
   obtain ⟨N, rfl⟩ : ∃ N : Nat, n = (N : Int) := ⟨n.toNat, by omega⟩
   have hN1 : 1 ≤ N := by omega
   have hN2 : N ≤ 2048 := by omega
   have HR := qh (read_any2 bd bc bl true w hb hnil hle (by omega))
   clear hB hb
   go_enter Tryz.func45, Tryz.ntmps45
   go_wp2_with fail
   refine HWi.out.mono ?_
   rintro e w1 ⟨rfl, hw1⟩
   obtain rfl := hw1.symm
   clear HWi
   go_wp2_with fail
   refine HR.out.mono ?_
   rintro e w2 ⟨rb, a, c, rfl, hRd, hE2, hrb1, hrb2, hfa, halt⟩
   clear HR
   obtain ⟨rr, hrr⟩ : ∃ rr, rr = w2.heap.size := ⟨_, rfl⟩
   obtain ⟨w3, hw3⟩ : ∃ z, z = w2.alloc (.cells #[.pointer (some ⟨rb, 0, none⟩), .int .i64 0] 132) := ⟨_, rfl⟩
   have hRS : RS w3 rr rb bl (0, 0) a c :=
    ⟨by rw [hw3, hrr]; exact BlockIs.new w2 _ _, hw3 ▸ hRd.ext (ext_alloc w2 _) id (fun _ _ => id), Nat.zero_le _, by omega, fun g hg e => by have := halt g hg; omega⟩
   have hP3 : Pure w w3 := hw3 ▸ hE2.pure (ext_alloc w2 _)
   have hz3 : rr < w3.heap.size := hRS.blk.lt
   have hwr : w.heap.size ≤ rr := by rw [hrr]; exact hE2.size
   have halt3 : ∀ g, a = some g → g.block < w3.heap.size := fun g hg => by have := halt g hg; omega
   have HH := qh (head_any rr rb bl a c w3 hRS (by omega) halt3)
   have HW3 := qh hw3
   have HRr := qh hrr
   clear hRS hw3 hrr hRd hE2 halt
   go_wp2_with fail
   rw [← HRr.out, ← HW3.out]
   refine HH.out.mono ?_
   rintro e w4 ⟨v1, v2, v3, v4, v5, v7, v9, v10, v11, v12, q, er, rfl, hS4, hX4, hD⟩
   have hP4 : Pure w w4 := hP3.trans hX4 (fun i hi e => by rcases e with e | e <;> omega)
   have HD := qh hD
   obtain ⟨hb, hhb⟩ : ∃ z, z = w4.heap.size := ⟨_, rfl⟩
   have hrb4 : rr < hb ∧ rb < hb := ⟨by rw [hhb]; exact hS4.blk.lt, by rw [hhb]; exact hS4.rd.blk.lt⟩
   have halt4 : ∀ g, a = some g → g.block < hb := fun g hg => by
    have h1 := halt3 g hg
    have h2 := hX4.size
    omega
   obtain ⟨w5z, hw5z⟩ : ∃ z, z = w4.alloc (.cells #[.int .i64 0, .int .i64 0, .int .i64 0, .int .i64 0, .int .i64 0, .int .i64 0, .int .i64 0, .int .i64 0, .int .i64 0, .int .i64 0] 134) := ⟨_, rfl⟩
   have hZ : BlockIs w5z hb [.int .i64 0, .int .i64 0, .int .i64 0, .int .i64 0, .int .i64 0, .int .i64 0, .int .i64 0, .int .i64 0, .int .i64 0, .int .i64 0] 134 := by rw [hw5z, hhb]; exact BlockIs.new w4 _ _
   have hP5z : Pure w4 w5z := hw5z ▸ ext_alloc w4 _
   obtain ⟨w5, hw5⟩ : ∃ z, z = w5z.setCells hb 0 [.int .i64 (v1 : Nat), .int .i64 (v2 : Nat), .int .i64 (v3 : Nat), .int .i64 (v4 : Nat), .int .i64 (v5 : Nat), .int .i64 (v7 : Nat), .int .i64 (v9 : Nat), .int .i64 (v10 : Nat), .int .i64 (v11 : Nat), .int .i64 (v12 : Nat)] := ⟨_, rfl⟩
   have hH5 : BlockIs w5 hb [.int .i64 (v1 : Nat), .int .i64 (v2 : Nat), .int .i64 (v3 : Nat), .int .i64 (v4 : Nat), .int .i64 (v5 : Nat), .int .i64 (v7 : Nat), .int .i64 (v9 : Nat), .int .i64 (v10 : Nat), .int .i64 (v11 : Nat), .int .i64 (v12 : Nat)] 134 := hw5 ▸ hZ.setAll [.int .i64 (v1 : Nat), .int .i64 (v2 : Nat), .int .i64 (v3 : Nat), .int .i64 (v4 : Nat), .int .i64 (v5 : Nat), .int .i64 (v7 : Nat), .int .i64 (v9 : Nat), .int .i64 (v10 : Nat), .int .i64 (v11 : Nat), .int .i64 (v12 : Nat)] rfl
   have hX5 : Ext (fun i => i = hb) w5z w5 := hw5 ▸ Ext.setCells (S := fun i => i = hb) [.int .i64 (v1 : Nat), .int .i64 (v2 : Nat), .int .i64 (v3 : Nat), .int .i64 (v4 : Nat), .int .i64 (v5 : Nat), .int .i64 (v7 : Nat), .int .i64 (v9 : Nat), .int .i64 (v10 : Nat), .int .i64 (v11 : Nat), .int .i64 (v12 : Nat)] 0 w5z (Ext.refl _ _) (fun _ => rfl)
   have hS5 := (hS4.pure hP5z).ext hX5 (fun e => by have e' : rr = hb := e; omega) (fun e => by have e' : rb = hb := e; omega) (fun g hg e => by have := halt4 g hg; have e' : g.block = hb := e; omega)
   have hP5 : Pure w w5 := (hP4.pure hP5z).trans hX5 (fun i hi e => by have e' : i = hb := e; omega)
   have hAll : (#[.int .i64 (v1 : Nat), .int .i64 (v2 : Nat), .int .i64 (v3 : Nat), .int .i64 (v4 : Nat), .int .i64 (v5 : Nat), .int .i64 (v7 : Nat), .int .i64 (v9 : Nat), .int .i64 (v10 : Nat), .int .i64 (v11 : Nat), .int .i64 (v12 : Nat)] : Array Value).all (fun v => v.oneCell') = true := all_oneCell_toArray (cs := [.int .i64 (v1 : Nat), .int .i64 (v2 : Nat), .int .i64 (v3 : Nat), .int .i64 (v4 : Nat), .int .i64 (v5 : Nat), .int .i64 (v7 : Nat), .int .i64 (v9 : Nat), .int .i64 (v10 : Nat), .int .i64 (v11 : Nat), .int .i64 (v12 : Nat)]) (by intro v hv; simp only [List.mem_cons, List.not_mem_nil, or_false] at hv; rcases hv with rfl | rfl | rfl | rfl | rfl | rfl | rfl | rfl | rfl | rfl <;> rfl)
   have hThere := hZ.there 10 rfl
   have HAll := qh hAll
   have HW5z := qh hw5z
   have HW5 := qh hw5
   have HHb := qh hhb
   have g5 : w5.cell? ⟨rr, 0 + 1, none⟩ = some (.int .i64 er) := hS5.blk.cell 1
   have hsz5 : hb < w5.heap.size := hH5.lt
   clear HH hS4 hX4 hP3 HW3 HRr hZ hw5 hw5z hhb hX5 hAll hD hP4 hP5z
   by_cases he : er = 0
   ·subst he
    have hD0 : 288 ≤ (bitsOf true bl).length ∧ HeadOk (bitsOf true bl) ∧ q = 288 ∧ v1 = h0 (bitsOf true bl) ∧ v2 = h1 (bitsOf true bl) ∧ v3 = h2 (bitsOf true bl) ∧ v4 = h3 (bitsOf true bl) ∧ v5 = h4 (bitsOf true bl) ∧ v7 = h6 (bitsOf true bl) ∧ v9 = h8 (bitsOf true bl) ∧ v10 = h9 (bitsOf true bl) ∧ v11 = h10 (bitsOf true bl) ∧ v12 = h11 (bitsOf true bl) := by
     rcases HD.out with ⟨_, h2⟩ | ⟨h1, ⟨_, h3⟩ | ⟨h2, _, h4⟩⟩
     ·cases h2
     ·cases h3
     ·exact ⟨h1, h2, h4⟩
    obtain ⟨d1, d2, rfl, e1, e2, e3, e4, e5, e7, e9, e10, e11, e12⟩ := hD0
    have hPg := pages_any rr rb bl a c N w5 hS5 d2 hN1 hN2 hl (fun g hg => by have := halt4 g hg; omega)
    have eV : (headV (bitsOf true bl)).toArray = #[.int .i64 (v1 : Nat), .int .i64 (v2 : Nat), .int .i64 (v3 : Nat), .int .i64 (v4 : Nat), .int .i64 (v5 : Nat), .int .i64 (v7 : Nat), .int .i64 (v9 : Nat), .int .i64 (v10 : Nat), .int .i64 (v11 : Nat), .int .i64 (v12 : Nat)] := by rw [e1, e2, e3, e4, e5, e7, e9, e10, e11, e12]; rfl
    rw [eV] at hPg
    have HPg := qh hPg
    have HE2 := qh e2
    have HDk := qh (And.intro d1 d2)
    have hR5 := hH5.range
    have hlo : ∀ i, i < w.heap.size → RdS rr rb i → False := fun i hi e => by rcases e with e | e <;> omega
    clear hPg eV e1 e2 e3 e4 e5 e7 e9 e10 e11 e12 d1 d2 HD
    go_wp2_with (first | (refine wpList_store_mid rfl 134 (.tmp 9) (.tmp 19) rfl hb 0 #[.int .i64 (v1 : Nat), .int .i64 (v2 : Nat), .int .i64 (v3 : Nat), .int .i64 (v4 : Nat), .int .i64 (v5 : Nat), .int .i64 (v7 : Nat), .int .i64 (v9 : Nat), .int .i64 (v10 : Nat), .int .i64 (v11 : Nat), .int .i64 (v12 : Nat)] (by rw [HHb.out]; rfl) rfl (by rw [← HW5z.out]; exact hThere) (by kernel_rfl) HAll.out ?_; rw [← HW5z.out, show w5z.setCells hb 0 (#[.int .i64 (v1 : Nat), .int .i64 (v2 : Nat), .int .i64 (v3 : Nat), .int .i64 (v4 : Nat), .int .i64 (v5 : Nat), .int .i64 (v7 : Nat), .int .i64 (v9 : Nat), .int .i64 (v10 : Nat), .int .i64 (v11 : Nat), .int .i64 (v12 : Nat)] : Array Value).toList = w5 from HW5.out.symm]) | (refine wpList_load_mid rfl 134 (.tmp 9) rfl hb 0 (by rw [HHb.out]; rfl) [.int .i64 (v1 : Nat), .int .i64 (v2 : Nat), .int .i64 (v3 : Nat), .int .i64 (v4 : Nat), .int .i64 (v5 : Nat), .int .i64 (v7 : Nat), .int .i64 (v9 : Nat), .int .i64 (v10 : Nat), .int .i64 (v11 : Nat), .int .i64 (v12 : Nat)] _ hR5 Tryz.underlying134 rfl (by kernel_rfl) ?_))
    rw [← HHb.out]
    refine HPg.out.mono ?_
    rintro e w6 ⟨oa, len, oc, q', er, rfl, hS6, hX6, hR⟩
    have hP6 : Pure w w6 := hP5.trans hX6 (fun i hi e => hlo i hi e)
    have hH6 := hH5.ext hX6 (fun e => by rcases e with e | e <;> omega)
    have g6 : w6.cell? ⟨rr, 0 + 1, none⟩ = some (.int .i64 er) := hS6.blk.cell 1
    have HR := qh hR
    have HSz5 : Hid (w.heap.size ≤ w5.heap.size) := qh hP5.size
    clear HPg hR hThere g5 hR5 hH5 hS5 hP5 hX6
    by_cases he : er = 0
    ·subst he
     have hR0 : Rest1 (bitsOf true bl) N (good (bitsOf true bl) N) ∧ q' = q7 (bitsOf true bl) N ∧ len = N ∧ ∃ ps, Hints w6 oa ps ∧ (ps.length = N ∧ ∀ p ∈ ps, ∀ g, p.sa = some g → w5.heap.size ≤ g.block) ∧ ps.map (fun p => (p.o, p.l, p.sh)) = resV (good (bitsOf true bl) N) := by
      rcases HR.out with ⟨h1, _⟩ | ⟨_, h2⟩
      ·exact absurd rfl h1
      ·exact h2
     obtain ⟨r1, r2, rfl, ps, r3, r4, r5⟩ := hR0
     have HTo : Hid (DecTo (bitsOf true bl) (len : Int) (good (bitsOf true bl) len)) := qh (Or.inr ⟨HIn.out, Or.inr ⟨HDk.out.1, Or.inr ⟨HDk.out.2, r1⟩⟩⟩)
     have HQ := qh r2
     have HPs := qh (And.intro r3 (And.intro r4 r5))
     have c1 : w6.drew.cell? ⟨hb, 1, none⟩ = some (.int .i64 (v2 : Nat)) := hH6.cell 1
     have c2 : w6.drew.cell? ⟨rr, 0, none⟩ = some (.pointer (some ⟨rb, 0, none⟩)) := hS6.blk.cell 0
     have kc1 := fun w' (hS : Ext (fun _ => False) w6.drew w') => hS.cell_some c1 id
     have kc2 := fun w' (hS : Ext (fun _ => False) w6.drew w') => hS.cell_some c2 id
     have hm8 : ((q' : Nat) : Int).tdiv 8 = ((q' / 8 : Nat) : Int) := by rw [Int.tdiv_eq_ediv_of_nonneg (by omega)]; omega
     have hle8 : q' ≤ 80000000 := by have := hS6.le; simp only at this; omega
     have hw8 : IntKind.i64.wrap (((q' : Nat) : Int) / 8) = ((q' : Nat) : Int) / 8 := IntWalk.i64_in _ (by omega)
     clear r1 r2 r3 r4 r5 HR
     go_wp2_with fail
     refine region_start (fun _ => False) (by kernel_rfl) ?_
     try simp only [Act.put, sA, sZ, sS]
     refine region_take 0 38 (v := ?vdz0) rfl rfl (by kernel_rfl) (by kernel_rfl) (by kernel_rfl) (fun _ _ _ h => h) (by rfl) (fun w' hS => ?hdz0) ?rdz0
     case hdz0 => go_simp; with_reducible rfl
     try simp only [Act.put, sA, sZ, sS]
     refine region_take 1 39 (v := ?vdz1) rfl rfl (by kernel_rfl) (by kernel_rfl) (by kernel_rfl) (fun _ _ _ h => h) (by rfl) (fun w' hS => ?hdz1) ?rdz1
     case hdz1 => go_simp; with_reducible rfl
     try simp only [Act.put, sA, sZ, sS]
     refine region_take 2 40 (v := ?vdz2) rfl rfl (by kernel_rfl) (by kernel_rfl) (by kernel_rfl) (fun _ _ _ h => h) (by rfl) (fun w' hS => ?hdz2) ?rdz2
     case hdz2 => go_simp; with_reducible rfl
     try simp only [Act.put, sA, sZ, sS]
     refine region_take 3 41 (v := ?vdz3) rfl rfl (by kernel_rfl) (by kernel_rfl) (by kernel_rfl) (fun _ _ _ h => h) (by rfl) (fun w' hS => ?hdz3) ?rdz3
     case hdz3 => go_simp; with_reducible rfl
     try simp only [Act.put, sA, sZ, sS]
     refine region_take 4 42 (v := ?vdz4) rfl rfl (by kernel_rfl) (by kernel_rfl) (by kernel_rfl) (fun _ _ _ h => h) (by rfl) (fun w' hS => ?hdz4) ?rdz4
     case hdz4 => go_simp; with_reducible rfl
     try simp only [Act.put, sA, sZ, sS]
     refine region_take 5 43 (v := ?vdz5) rfl rfl (by kernel_rfl) (by kernel_rfl) (by kernel_rfl) (fun _ _ _ h => h) (by rfl) (fun w' hS => ?hdz5) ?rdz5
     case hdz5 => go_simp; with_reducible rfl
     try simp only [Act.put, sA, sZ, sS]
     refine region_take 6 44 (v := ?vdz6) rfl rfl (by kernel_rfl) (by kernel_rfl) (by kernel_rfl) (fun _ _ _ h => h) (by rfl) (fun w' hS => ?hdz6) ?rdz6
     case hdz6 => go_simp; with_reducible rfl
     try simp only [Act.put, sA, sZ, sS]
     refine wpAnyH_ready (rs := [7]) (by kernel_rfl) (by simp) (AllReadyH.cons rfl (fun K hK => ?_) AllReadyH.nil)
     go_simp
     refine (at_any rb true bl q' a c _ (hS6.rd.ext ((Ext.refl (fun _ => False) w6).drew) id (fun _ _ => id))).mono ?_
     rintro e w13 ⟨rfl, rfl⟩
     refine hK.out _ _ (Ext.refl _ _) (fun hHeld => ?_)
     clear hK K hHeld
     refine region_now (Ext.refl _ _) ?_
     try simp only [Act.put, sA, sZ, sS]
     refine region_take 8 46 (v := ?vdz8) rfl rfl (by kernel_rfl) (by kernel_rfl) (by kernel_rfl) (fun _ _ _ h => h) (by rfl) (fun w' hS => ?hdz8) ?rdz8
     case hdz8 => go_simp; with_reducible rfl
     try simp only [Act.put, sA, sZ, sS]
     refine region_take 9 4 (v := ?vdz9) rfl rfl (by kernel_rfl) (by kernel_rfl) (by kernel_rfl) (fun _ _ _ h => h) (by rfl) (fun w' hS => ?hdz9) ?rdz9
     case hdz9 => go_simp; with_reducible rfl
     try simp only [Act.put, sA, sZ, sS]
     refine region_take 10 5 (v := ?vdz10) rfl rfl (by kernel_rfl) (by kernel_rfl) (by kernel_rfl) (fun _ _ _ h => h) (by rfl) (fun w' hS => ?hdz10) ?rdz10
     case hdz10 => go_simp; with_reducible rfl
     try simp only [Act.put, sA, sZ, sS]
     refine region_take 11 6 (v := ?vdz11) rfl rfl (by kernel_rfl) (by kernel_rfl) (by kernel_rfl) (fun _ _ _ h => h) (by rfl) (fun w' hS => ?hdz11) ?rdz11
     case hdz11 => go_simp; with_reducible rfl
     try simp only [Act.put, sA, sZ, sS]
     refine region_take 12 7 (v := ?vdz12) rfl rfl (by kernel_rfl) (by kernel_rfl) (by kernel_rfl) (fun _ _ _ h => h) (by rfl) (fun w' hS => ?hdz12) ?rdz12
     case hdz12 => go_simp; with_reducible rfl
     try simp only [Act.put, sA, sZ, sS]
     refine wpAnyH_done (by kernel_rfl) ?_ _
     clear kc1 kc2 c1 c2
     go_wp2_with fail
     refine bodyPost_ret (v := .tuple #[.int .i64 (v2 : Nat), .slice oa len oc, .int .i64 ((q' / 8 : Nat) : Int), .int .i64 0]) (by simp [results, Tryz.results45, go_sem, hw8]) rfl ?_
     refine ⟨good (bitsOf true bl) len, ps, oa, oc, ?_, HTo.out, HPs.out.2.2, HPs.out.1.pure ((Ext.refl (fun _ => False) w6).drew), ⟨by rw [HPs.out.2.1.1]; omega, fun p hp g hg => by have h1 := HPs.out.2.1.2 p hp g hg; have h2 := HSz5.out; omega⟩, hP6.drew⟩
     rw [HPs.out.2.1.1, HE2.out, HQ.out]; rfl
    ·have hne : (er != 0) = true := by simpa using he
     have HTo : Hid (DecTo (bitsOf true bl) (N : Int) (dErr er)) := qh (Or.inr ⟨HIn.out, Or.inr ⟨HDk.out.1, Or.inr ⟨HDk.out.2, by
      rcases HR.out with ⟨_, h⟩ | ⟨h, _⟩
      ·exact h
      ·exact absurd h he⟩⟩⟩)
     clear he HR
     go_wp2_with fail
     go_quiet (fail)
     go_wp2_with fail
     refine bodyPost_ret (v := .tuple #[.int .i64 0, .slice none 0 0, .int .i64 0, .int .i64 er]) (by simp [results, Tryz.results45, go_sem]) rfl (decRes_err HTo.out (hP6.drewN _))
   ·have hne : (er == 0) = false := by simpa using he
    have hne2 : (er != 0) = true := by simpa using he
    have HTo : Hid (DecTo (bitsOf true bl) (N : Int) (dErr er)) := qh (Or.inr ⟨HIn.out, by
     rcases HD.out with ⟨h1, h2⟩ | ⟨h1, ⟨h2, h3⟩ | ⟨h2, h3, _⟩⟩
     ·exact Or.inl ⟨h1, by rw [h2]⟩
     ·exact Or.inr ⟨h1, Or.inl ⟨h2, by rw [h3]⟩⟩
     ·exact absurd h3 he⟩)
    clear he
    go_wp2_with (refine wpList_store_mid rfl 134 (.tmp 9) (.tmp 19) rfl hb 0 #[.int .i64 (v1 : Nat), .int .i64 (v2 : Nat), .int .i64 (v3 : Nat), .int .i64 (v4 : Nat), .int .i64 (v5 : Nat), .int .i64 (v7 : Nat), .int .i64 (v9 : Nat), .int .i64 (v10 : Nat), .int .i64 (v11 : Nat), .int .i64 (v12 : Nat)] (by rw [HHb.out]; rfl) rfl (by rw [← HW5z.out]; exact hThere) (by kernel_rfl) HAll.out ?_; rw [← HW5z.out, show w5z.setCells hb 0 (#[.int .i64 (v1 : Nat), .int .i64 (v2 : Nat), .int .i64 (v3 : Nat), .int .i64 (v4 : Nat), .int .i64 (v5 : Nat), .int .i64 (v7 : Nat), .int .i64 (v9 : Nat), .int .i64 (v10 : Nat), .int .i64 (v11 : Nat), .int .i64 (v12 : Nat)] : Array Value).toList = w5 from HW5.out.symm])
    clear hThere
    go_quiet (fail)
    go_wp2_with fail
    refine bodyPost_ret (v := .tuple #[.int .i64 0, .slice none 0 0, .int .i64 0, .int .i64 er]) (by simp [results, Tryz.results45, go_sem]) rfl (decRes_err HTo.out (hP5.drewN _))
end Go.Proofs.YtomcdhljjmnahaaGreat.P26
namespace Go.Proofs.YtomcdhljjmnahaaGreat.P26
open Go.RowKit
theorem odd_at {p : PH} {j : Nat} (hj : j < p.sh.length) (h : p.sh[j] < 0 ∨ 4095 < p.sh[j]) : okP p = false :=
 okP_no (Or.inl (any_of_at odd p.sh j hj (by unfold odd; rw [inB_false.2 h]; rfl)))
theorem odd_none {x : Int} (h : ¬ x < 0) (h' : ¬ 4095 < x) : odd x = false := by unfold odd; rw [inB_true.2 ⟨by omega, by omega⟩]; rfl
set_option maxHeartbeats 2000000 in
theorem refcheck_big (a : Int) (ad : Option Addr) (c : Nat) (ps : List PH) (w : World) (h : Hints w ad ps) (hm : Mod2 ps) :
 Calls Tryz.prog 37 #[.int .i64 a, .slice ad ps.length c] w (IntRes (chk a ps) w) := by
 have hps := hm.pages
 obtain ⟨B, hB⟩ : ∃ B, B = chk a ps := ⟨_, rfl⟩
 rw [← hB]
 by_cases a0 : a < 0
 ·have HB : Hid (B = 2) := qh (by rw [hB, chk_head (Or.inl (inB_false.2 (Or.inl a0)))])
  clear hB h
  go_enter Tryz.func37, Tryz.ntmps37
  go_wp2_with fail
  go_ret
  exact ⟨by rw [HB.out]; rfl, Ext.refl _ _⟩
 ·by_cases a1 : 2147483647 < a
  ·have HB : Hid (B = 2) := qh (by rw [hB, chk_head (Or.inl (inB_false.2 (Or.inr a1)))])
   clear hB h
   go_enter Tryz.func37, Tryz.ntmps37
   go_wp2_with fail
   go_ret
   exact ⟨by rw [HB.out]; rfl, Ext.refl _ _⟩
  ·by_cases n0 : (ps.length : Int) < 1
   ·have HB : Hid (B = 2) := qh (by rw [hB, chk_head (Or.inr (inB_false.2 (Or.inl n0)))])
    clear hB h
    go_enter Tryz.func37, Tryz.ntmps37
    go_wp2_with fail
    go_ret
    exact ⟨by rw [HB.out]; rfl, Ext.refl _ _⟩
   by_cases n9 : (2048 : Int) < (ps.length : Int)
   ·have HB : Hid (B = 2) := qh (by rw [hB, chk_head (Or.inr (inB_false.2 (Or.inr n9)))])
    have n8 : decide ((ps.length : Int) < 1) = false := decide_eq_false n0
    clear hB h
    go_enter Tryz.func37, Tryz.ntmps37
    go_wp2_with fail
    go_ret
    exact ⟨by rw [HB.out]; rfl, Ext.refl _ _⟩
   ·have HB := qh hB
    have HAt : Hid (inB a 0 2147483647 = true) := qh (inB_true.2 ⟨by omega, by omega⟩)
    have HNt : Hid (inB (ps.length : Int) 1 2048 = true) := qh (inB_true.2 ⟨by omega, by omega⟩)
    have HM := qh hm
    have n1 : ¬ (2048 : Int) < (ps.length : Int) := by omega
    have g1 : decide (a < 0) = false := decide_eq_false a0
    have g2 : decide ((2147483647 : Int) < a) = false := decide_eq_false a1
    have g3 : decide ((ps.length : Int) < 1) = false := decide_eq_false n0
    have g4 : decide ((2048 : Int) < (ps.length : Int)) = false := decide_eq_false n1
    clear hB hm
    go_enter Tryz.func37, Tryz.ntmps37
    go_wp2_with fail
    clear g1 g2 g3 g4
    go_loopw [5, 6, 7] (fun m i _ W => ∃ (k t : Nat), k ≤ ps.length ∧ i = .int .i64 k ∧ m = .int .i64 t ∧ Hid (t = min (totS (ps.take k)) 65537) ∧ t ≤ 65537 ∧ Hid (∀ p ∈ ps.take k, okP p = true) ∧ Pure w W) (fun _ i _ _ => ps.length - (intOf i).toNat)
    case atStart => exact ⟨0, 0, Nat.zero_le _, rfl, rfl, qh (by simp [totS]), by omega, qh (by simp), Ext.refl _ _⟩
    case round =>
     obtain ⟨k, t, hk, rfl, rfl, HT, ht, HO, hP⟩ := hrel
     by_cases hlt : k < ps.length
     ·have hki : (k : Int) < (ps.length : Int) := by omega
      obtain ⟨b, o, had, p0, p1, p2⟩ := (h.pure hP).at k hlt
      have hsub := (h.sub _ (List.getElem_mem hlt)).ext hP (fun _ _ => id)
      have hnum := HM.out.numbers _ (List.getElem_mem hlt)
      have hfit := (h.fit _ (List.getElem_mem hlt)).1
      have HTS := qh (totS_take_succ hlt)
      have HBad := qh (fun e => chk_bad (a := a) hlt e)
      have HAll := qh (fun e => all_take_succ (P := fun p : PH => okP p = true) hlt HO.out e)
      obtain ⟨p, hpp⟩ : ∃ p, p = ps[k] := ⟨_, rfl⟩
      rw [← hpp] at p0 p1 p2 hsub hnum HTS HBad HAll hfit
      obtain ⟨po, pl, sa, sc, sh, rfl⟩ : ∃ po pl sa sc sh, p = ⟨po, pl, sa, sc, sh⟩ := ⟨p.o, p.l, p.sa, p.sc, p.sh, rfl⟩
      simp only at p0 p1 p2 hnum hsub HTS hfit
      obtain ⟨n, hn⟩ : ∃ n, n = sh.length := ⟨_, rfl⟩
      have HN := qh hn
      rw [← hn] at p2 hnum hfit
      have HSub := qh hsub
      subst had
      clear hpp hsub hn
      by_cases o0 : po < 1
      ·have HF : Hid (chk a ps = 2) := qh (HBad.out (okP_no (Or.inr (Or.inl (inB_false.2 (Or.inl o0))))))
       go_wp2_with fail
       go_ret
       exact ⟨by rw [HB.out, HF.out]; rfl, hP⟩
      ·by_cases o1 : 4096 < po
       ·have HF : Hid (chk a ps = 2) := qh (HBad.out (okP_no (Or.inr (Or.inl (inB_false.2 (Or.inr o1))))))
        go_wp2_with fail
        go_ret
        exact ⟨by rw [HB.out, HF.out]; rfl, hP⟩
       ·by_cases l0 : pl < 1
        ·have HF : Hid (chk a ps = 2) := qh (HBad.out (okP_no (Or.inr (Or.inr (inB_false.2 (Or.inl l0))))))
         go_wp2_with fail
         go_ret
         exact ⟨by rw [HB.out, HF.out]; rfl, hP⟩
        ·by_cases l1 : 2147483647 < pl
         ·have HF : Hid (chk a ps = 2) := qh (HBad.out (okP_no (Or.inr (Or.inr (inB_false.2 (Or.inr l1))))))
          go_wp2_with fail
          go_ret
          exact ⟨by rw [HB.out, HF.out]; rfl, hP⟩
         ·have HW1 : Hid (inB po 1 4096 = true) := qh (inB_true.2 ⟨by omega, by omega⟩)
          have HW2 : Hid (inB pl 1 2147483647 = true) := qh (inB_true.2 ⟨by omega, by omega⟩)
          have g1 : decide (po < 1) = false := decide_eq_false o0
          have g2 : decide ((4096 : Int) < po) = false := decide_eq_false o1
          have g3 : decide (pl < 1) = false := decide_eq_false l0
          have g4 : decide ((2147483647 : Int) < pl) = false := decide_eq_false l1
          go_wp2_with fail
          clear g1 g2 g3 g4
          obtain ⟨wo, hwo⟩ : ∃ W : World, W = wr := ⟨_, rfl⟩
          go_loop [5, 7] (fun m i => ∃ j t' : Nat, j ≤ n ∧ i = .int .i64 j ∧ m = .int .i64 t' ∧ Hid (t' = min (t + j) 65537) ∧ t' ≤ 65537 ∧ Hid ((sh.take j).any odd = false)) (fun _ i => n - (intOf i).toNat)
          case atStart => exact ⟨0, t, Nat.zero_le _, rfl, rfl, qh (by omega), ht, qh rfl⟩
          case round =>
           obtain ⟨j, t', hj, rfl, rfl, HT', ht', HNo⟩ := hrel
           by_cases hjt : j < n
           ·have hji : (j : Int) < (n : Int) := by omega
            obtain ⟨sb, so, rfl, hsc⟩ := iV_at HSub.out j (by rw [← HN.out]; exact hjt)
            have HOd : Hid (sh[j]'(by rw [← HN.out]; exact hjt) < 0 ∨ 4095 < sh[j]'(by rw [← HN.out]; exact hjt) → chk a ps = 2) := qh (fun e => HBad.out (odd_at (p := ⟨po, pl, some ⟨sb, so, none⟩, sc, sh⟩) (by simp only; rw [← HN.out]; exact hjt) e))
            have HNs : Hid (odd (sh[j]'(by rw [← HN.out]; exact hjt)) = false → (sh.take (j + 1)).any odd = false) := qh (fun e => by rw [any_take_succ odd sh j (by rw [← HN.out]; exact hjt), HNo.out, e]; rfl)
            obtain ⟨x, hx⟩ : ∃ x, x = sh[j]'(by rw [← HN.out]; exact hjt) := ⟨_, rfl⟩
            rw [← hx] at hsc HOd HNs
            clear hx
            by_cases x0 : x < 0
            ·have HF : Hid (chk a ps = 2) := qh (HOd.out (Or.inl x0))
             go_wp2_with fail
             go_ret
             exact ⟨by rw [HB.out, HF.out]; rfl, hP⟩
            ·by_cases x1 : 4095 < x
             ·have HF : Hid (chk a ps = 2) := qh (HOd.out (Or.inr x1))
              go_wp2_with fail
              go_ret
              exact ⟨by rw [HB.out, HF.out]; rfl, hP⟩
             ·have HN2 := qh (HNs.out (odd_none x0 x1))
              have g1 : decide (x < 0) = false := decide_eq_false x0
              have g2 : decide ((4095 : Int) < x) = false := decide_eq_false x1
              by_cases ht2 : (t' : Int) ≤ 65536
              ·go_wp2_with fail
               clear g1 g2
               go_round
               case rel => exact ⟨j + 1, t' + 1, by omega, by go_num, by go_num, qh (by have := HT'.out; omega), by omega, HN2⟩
               case measure => simp [intOf]; omega
              ·go_wp2_with fail
               clear g1 g2
               go_round
               case rel => exact ⟨j + 1, t', by omega, by go_num, rfl, qh (by have := HT'.out; omega), by omega, HN2⟩
               case measure => simp [intOf]; omega
           ·have hji : ¬ (j : Int) < (n : Int) := by omega
            have hno := HNo.out
            rw [List.take_of_length_le (by rw [← HN.out]; omega)] at hno
            have HAll2 := qh (HAll.out (okP_true (p := ⟨po, pl, sa, sc, sh⟩) hno HW1.out HW2.out))
            have HT2 : Hid (t' = min (totS (ps.take (k + 1))) 65537) := qh (by rw [HTS.out]; have h1 := HT'.out; have h2 := HT.out; have h3 := HN.out; omega)
            clear hno
            go_wp2_with fail
            go_roundw
            case rel => exact ⟨k + 1, t', by omega, by go_num, rfl, HT2, ht', HAll2, hP⟩
            case measure => simp [intOf]; omega
     ·have hki : ¬ (k : Int) < (ps.length : Int) := by omega
      have hall : ∀ p ∈ ps, okP p = true := by have := HO.out; rwa [List.take_of_length_le (by omega)] at this
      have hT := HT.out
      rw [List.take_of_length_le (by omega)] at hT
      have hchk := chk_end HAt.out HNt.out hall
      by_cases h6 : (65536 : Int) < (t : Int)
      ·have HF : Hid (chk a ps = 3) := qh (by rw [hchk, if_pos (by omega)])
       clear hchk hT hall
       go_wp2_with fail
       go_ret
       exact ⟨by rw [HB.out, HF.out]; rfl, hP⟩
      ·have HF : Hid (chk a ps = 0) := qh (by rw [hchk, if_neg (by omega)])
       clear hchk hT hall
       go_wp2_with fail
       go_ret
       exact ⟨by rw [HB.out, HF.out]; rfl, hP⟩
end Go.Proofs.YtomcdhljjmnahaaGreat.P26
namespace Go.Proofs.YtomcdhljjmnahaaGreat.P26
open Go.RowKit C26
def encB (a : Int) (ps : List PH) : List UInt8 := if chk a ps = 0 then pack true (tabB a.toNat (toN ps) rest0) else []
def EncTo (a : Int) (ps : List PH) (w : World) (e : Ending) (w' : World) : Prop := ∃ ra rc, e = .returned (.tuple #[.slice ra (encB a ps).length rc, .int .i64 (chk a ps)]) ∧ NewRow w w' ra rc (encB a ps)
theorem new_nil {w w' : World} (h : Pure w w') : NewRow w w' none 0 [] := ⟨row_nil _ _, h, fun _ => rfl, fun g hg => (by cases hg), fun g hg => (by cases hg), Nat.le_refl _, Nat.zero_le _⟩
theorem cmp_any (o l : Int) (sa : Option Addr) (n sc : Nat) (o' l' : Int) (sa' : Option Addr) (n' sc' : Nat) (b : Nat) (w : World) (hn : n ≤ 1000000) (hn' : n' ≤ 1000000) (hc : w.cell? ⟨b, 0, none⟩ = some (.func (.func 56) #[] #[])) :
 Calls Tryz.prog 60 #[pageV o l sa n sc, pageV o' l' sa' n' sc', .pointer (some ⟨b, 0, none⟩)] w (GotInt ((n : Int) - n') w) := by
 have hb : b < w.heap.size := World.block_lt_of_cell? w ⟨b, 0, none⟩ hc
 have HC1 := qh (fun W => count_any o l sa n sc W (by omega))
 have HC2 := qh (fun W => count_any o' l' sa' n' sc' W (by omega))
 unfold pageV at HC1 HC2 ⊢
 obtain ⟨w1, hw1⟩ : ∃ w1, w1 = (w.alloc (.cells #[.int .i64 o, .int .i64 l, .slice sa n sc] 53)).alloc (.cells #[.int .i64 o', .int .i64 l', .slice sa' n' sc'] 53) := ⟨_, rfl⟩
 have hB1 : BlockIs w1 w.heap.size [.int .i64 o, .int .i64 l, .slice sa n sc] 53 := hw1 ▸ (BlockIs.new w _ _).alloc _
 have hB2 : BlockIs w1 (w.heap.size + 1) [.int .i64 o', .int .i64 l', .slice sa' n' sc'] 53 := by
  have h := BlockIs.new (w.alloc (.cells #[.int .i64 o, .int .i64 l, .slice sa n sc] 53)) [.int .i64 o', .int .i64 l', .slice sa' n' sc'] 53
  rw [World.size_alloc] at h
  rw [hw1]; exact h
 have hP1 : Pure w w1 := hw1 ▸ (ext_alloc w _).alloc _
 have f0 : w1.drew.cell? ⟨b, 0, none⟩ = some (.func (.func 56) #[] #[]) := hP1.cell_some hc id
 have d0 : w1.drew.cell? ⟨w.heap.size, 0, none⟩ = some (.int .i64 o) := hB1.cell 0
 have d1 : w1.drew.cell? ⟨w.heap.size, 0 + 1, none⟩ = some (.int .i64 l) := hB1.cell 1
 have d2 : w1.drew.cell? ⟨w.heap.size, 0 + 2, none⟩ = some (.slice sa n sc) := hB1.cell 2
 have x0 : w1.drew.cell? ⟨w.heap.size + 1, 0, none⟩ = some (.int .i64 o') := hB2.cell 0
 have x1 : w1.drew.cell? ⟨w.heap.size + 1, 0 + 1, none⟩ = some (.int .i64 l') := hB2.cell 1
 have x2 : w1.drew.cell? ⟨w.heap.size + 1, 0 + 2, none⟩ = some (.slice sa' n' sc') := hB2.cell 2
 have g0 := fun w' (hS : Ext (fun _ => False) w1.drew w') => hS.cell_some f0 id
 have k0 := fun w' (hS : Ext (fun _ => False) w1.drew w') => hS.cell_some d0 id
 have k1 := fun w' (hS : Ext (fun _ => False) w1.drew w') => hS.cell_some d1 id
 have k2 := fun w' (hS : Ext (fun _ => False) w1.drew w') => hS.cell_some d2 id
 have l0 := fun w' (hS : Ext (fun _ => False) w1.drew w') => hS.cell_some x0 id
 have l1 := fun w' (hS : Ext (fun _ => False) w1.drew w') => hS.cell_some x1 id
 have l2 := fun w' (hS : Ext (fun _ => False) w1.drew w') => hS.cell_some x2 id
 have hsub : IntKind.i64.wrap ((n : Int) - n') = (n : Int) - n' := IntWalk.i64_in _ (by omega)
 clear hc
 go_enter Tryz.func60, Tryz.ntmps60
 go_wp2_with fail
 rw [← hw1]
 clear hw1
 refine region_start (fun _ => False) (by kernel_rfl) ?_
 try simp only [Act.put, sA, sZ, sS]
 refine region_take 0 6 (v := ?vca0) rfl rfl (by kernel_rfl) (by kernel_rfl) (by kernel_rfl) (fun _ _ _ h => h) (by rfl) (fun w' hS => ?hca0) ?rca0
 case hca0 => go_simp; with_reducible rfl
 try simp only [Act.put, sA, sZ, sS]
 refine region_take 1 7 (v := ?vca1) rfl rfl (by kernel_rfl) (by kernel_rfl) (by kernel_rfl) (fun _ _ _ h => h) (by rfl) (fun w' hS => ?hca1) ?rca1
 case hca1 => go_simp; with_reducible rfl
 try simp only [Act.put, sA, sZ, sS]
 refine region_take 3 9 (v := ?vca3) rfl rfl (by kernel_rfl) (by kernel_rfl) (by kernel_rfl) (fun _ _ _ h => h) (by rfl) (fun w' hS => ?hca3) ?rca3
 case hca3 => go_simp; with_reducible rfl
 try simp only [Act.put, sA, sZ, sS]
 refine region_take 4 10 (v := ?vca4) rfl rfl (by kernel_rfl) (by kernel_rfl) (by kernel_rfl) (fun _ _ _ h => h) (by rfl) (fun w' hS => ?hca4) ?rca4
 case hca4 => go_simp; with_reducible rfl
 try simp only [Act.put, sA, sZ, sS]
 refine wpAnyH_ready (rs := [2]) (by kernel_rfl) (by simp) (AllReadyH.cons rfl (fun K hK => ?_) AllReadyH.nil)
 go_simp
 refine (HC1.out _).mono ?_
 rintro e w2 ⟨rfl, hP2⟩
 refine hK.out _ _ (hP2) (fun hHeld => ?_)
 clear hK K hHeld
 refine region_now (hP2) ?_
 try simp only [Act.put, sA, sZ, sS]
 refine wpAnyH_ready (rs := [5]) (by kernel_rfl) (by simp) (AllReadyH.cons rfl (fun K hK => ?_) AllReadyH.nil)
 go_simp
 refine (HC2.out _).mono ?_
 rintro e w3 ⟨rfl, hP3⟩
 refine hK.out _ _ (hP3) (fun hHeld => ?_)
 clear hK K hHeld
 refine region_now (hP3) ?_
 try simp only [Act.put, sA, sZ, sS]
 refine region_take 6 12 (v := ?vca6) rfl rfl (by kernel_rfl) (by kernel_rfl) (by kernel_rfl) (fun _ _ _ h => h) (by rfl) (fun w' hS => ?hca6) ?rca6
 case hca6 => go_simp; with_reducible rfl
 try simp only [Act.put, sA, sZ, sS]
 refine region_take 7 5 (v := ?vca7) rfl rfl (by kernel_rfl) (by kernel_rfl) (by kernel_rfl) (fun _ _ _ h => h) (by rfl) (fun w' hS => ?hca7) ?rca7
 case hca7 => go_simp; with_reducible rfl
 try simp only [Act.put, sA, sZ, sS]
 refine wpAnyH_done (by kernel_rfl) ?_ _
 clear hsub
 go_wp2_with fail
 go_ret
 exact ⟨rfl, (hP1.drew.pure hP2).pure hP3⟩
def MaxTo (m : Nat) (w : World) (e : Ending) (w' : World) : Prop := ∃ (o l : Nat) (sa : Option Addr) (sc : Nat), e = .returned (pageV o l sa m sc) ∧ Pure w w'
set_option maxHeartbeats 2000000 in
theorem max_any (ad : Option Addr) (c n : Nat) (h : HN) (b : Nat) (w : World) (HPg : Hid (∀ W, Pure w W → ∀ k, k < n → PageAt W ad h k)) (hn1 : 1 ≤ n) (hn40 : n ≤ 40) (hlen : h.counts.length = n) (hc : w.cell? ⟨b, 0, none⟩ = some (.func (.func 56) #[] #[])) :
 Calls Tryz.prog 59 #[.slice ad n c, .func (.func 60) #[] #[.pointer (some ⟨b, 0, none⟩)]] w (MaxTo (mx h.counts) w) := by
 have HLEN := qh hlen
 obtain ⟨M, hM⟩ : ∃ z, z = mx h.counts := ⟨_, rfl⟩
 rw [← hM]
 have HM := qh hM
 obtain ⟨w0, hw0⟩ : ∃ w0, w0 = w.alloc (.cells #[.int .i64 0, .int .i64 0, .slice none 0 0] 53) := ⟨_, rfl⟩
 have hR0 : BlockIs w0 w.heap.size [.int .i64 0, .int .i64 0, .slice none 0 0] 53 := hw0 ▸ BlockIs.new w _ _
 have hP0 : Pure w w0 := hw0 ▸ ext_alloc w _
 obtain ⟨b0, o0, on0, ln0, sa0, sc0, xs0, had, p0, p1, p2, hsub0, e0, e1, e2, bo0, bl0, bs0, bx0, bx1, bx2⟩ := HPg.out w0 hP0 0 (by omega)
 subst had
 obtain ⟨xn0, hxn0⟩ : ∃ z, z = xs0.length := ⟨_, rfl⟩
 rw [← hxn0] at p2 bx0 bx1
 have HH0 : Hid (xn0 = mx (h.counts.take 1)) := qh (by rw [mx_at (counts_at e2), hxn0]; simp [mx])
 simp only [Nat.zero_mul, Nat.add_zero] at p0 p1 p2
 have hB0i : (0 : Int) < (n : Int) := by omega
 have hB0 : 0 < n := by omega
 have hlt1 : ¬ (n : Int) < 1 := by omega
 have hTB := BlockIs.new w0 [.int .i64 on0, .int .i64 ln0, .slice sa0 xn0 sc0] 53
 have hPw := hP0.pure (ext_alloc w0 (.cells #[.int .i64 on0, .int .i64 ln0, .slice sa0 xn0 sc0] 53))
 have hR1 := hR0.ext (ext_alloc w0 (.cells #[.int .i64 on0, .int .i64 ln0, .slice sa0 xn0 sc0] 53)) id
 have hlt0 := hR0.lt
 have hbl : b < w.heap.size := World.block_lt_of_cell? w ⟨b, 0, none⟩ hc
 have HCb := qh hc
 clear hsub0 e0 e1 e2 bs0 hxn0 hM hlen hR0 hc
 rw [hw0] at p0 p1 p2
 go_enter Tryz.func59, Tryz.ntmps59
 go_wp2_with fail
 clear p0 p1 p2
 rw [← hw0]
 have hz0 : w0.heap.size = w.heap.size + 1 := by rw [hw0, World.size_alloc]
 obtain ⟨mb, hmb⟩ : ∃ mb, mb = w.heap.size + 1 := ⟨_, rfl⟩
 rw [← hmb]
 rw [hz0, ← hmb] at hTB
 have hlt0 : w.heap.size < mb := by omega
 clear hmb hz0 hw0
 generalize w0.alloc (.cells #[.int .i64 on0, .int .i64 ln0, .slice sa0 xn0 sc0] 53) = w1 at *
 obtain ⟨wo, hwo⟩ : ∃ W : World, W = w1 := ⟨_, rfl⟩
 rw [← hwo] at hPw hR1
 go_loopw [6] (fun i W => ∃ (k on ln : Nat) (sa : Option Addr) (m sc : Nat), 1 ≤ k ∧ k ≤ n ∧ i = .int .i64 k ∧ Hid (m = mx (h.counts.take k)) ∧ m ≤ 3000 ∧ BlockIs W mb [.int .i64 on, .int .i64 ln, .slice sa m sc] 53 ∧ Ext (fun i => i = mb) wo W) (fun i _ => n - (intOf i).toNat)
 case atStart => exact ⟨1, on0, ln0, sa0, xn0, sc0, by omega, hn1, rfl, HH0, bx0, hTB, hwo ▸ Ext.refl _ _⟩
 case round =>
  obtain ⟨k, om, lm, sm, m, cm, hk1, hk, rfl, HMx, hm3, hMB, hE⟩ := hrel
  clear hTB hwo
  have hPr : Pure w wr := hPw.trans hE (fun i hi e => by have e' : i = mb := e; omega)
  have hRr := hR1.ext hE (fun e => by have e' : w.heap.size = mb := e; omega)
  by_cases hlt : k < n
  ·have hki : (k : Int) < (n : Int) := by omega
   obtain ⟨b1, o1, on, ln, sa, sc, xs, had, p0, p1, p2, hsub, e0, e1, e2, bo, bl, bs, bx0', bx1', bx2'⟩ := HPg.out wr hPr k hlt
   cases had
   obtain ⟨xn, hxn⟩ : ∃ z, z = xs.length := ⟨_, rfl⟩
   rw [← hxn] at p2 bx0' bx1'
   have HMs : Hid (mx (h.counts.take (k + 1)) = max m xn) := qh (by rw [mx_at (counts_at e2), HMx.out, hxn])
   have d0 : wr.drew.cell? ⟨b0, o0 + k * 3, none⟩ = some (.int .i64 on) := p0
   have d1 : wr.drew.cell? ⟨b0, o0 + k * 3 + 1, none⟩ = some (.int .i64 ln) := p1
   have d2 : wr.drew.cell? ⟨b0, o0 + k * 3 + 2, none⟩ = some (.slice sa xn sc) := p2
   have x0 : wr.drew.cell? ⟨mb, 0, none⟩ = some (.int .i64 om) := hMB.cell 0
   have x1 : wr.drew.cell? ⟨mb, 0 + 1, none⟩ = some (.int .i64 lm) := hMB.cell 1
   have x2 : wr.drew.cell? ⟨mb, 0 + 2, none⟩ = some (.slice sm m cm) := hMB.cell 2
   have k0 := fun w' (hS : Ext (fun _ => False) wr.drew w') => hS.cell_some d0 id
   have k1 := fun w' (hS : Ext (fun _ => False) wr.drew w') => hS.cell_some d1 id
   have k2 := fun w' (hS : Ext (fun _ => False) wr.drew w') => hS.cell_some d2 id
   have l0 := fun w' (hS : Ext (fun _ => False) wr.drew w') => hS.cell_some x0 id
   have l1 := fun w' (hS : Ext (fun _ => False) wr.drew w') => hS.cell_some x1 id
   have l2 := fun w' (hS : Ext (fun _ => False) wr.drew w') => hS.cell_some x2 id
   have HCm := qh (fun W (hP : Pure w W) => cmp_any (on : Int) ln sa xn sc om lm sm m cm b W (by omega) (by omega) (hP.cell_some HCb.out id))
   unfold pageV at HCm
   clear hsub e0 e1 e2 bs hxn
   by_cases hgt : (0 : Int) < (xn : Int) - (m : Int)
   ·have hmax : max m xn = xn := by omega
    go_wp2_with fail
    refine region_start (fun _ => False) (by kernel_rfl) ?_
    try simp only [Act.put, sA, sZ, sS]
    refine region_take 0 20 (v := ?vma0) rfl rfl (by kernel_rfl) (by kernel_rfl) (by kernel_rfl) (fun _ _ _ h => h) (by rfl) (fun w' hS => ?hma0) ?rma0
    case hma0 => go_simp; with_reducible rfl
    try simp only [Act.put, sA, sZ, sS]
    refine region_take 1 21 (v := ?vma1) rfl rfl (by kernel_rfl) (by kernel_rfl) (by kernel_rfl) (fun _ _ _ h => h) (by rfl) (fun w' hS => ?hma1) ?rma1
    case hma1 => go_simp; with_reducible rfl
    try simp only [Act.put, sA, sZ, sS]
    refine region_take 2 22 (v := ?vma2) rfl rfl (by kernel_rfl) (by kernel_rfl) (by kernel_rfl) (fun _ _ _ h => h) (by rfl) (fun w' hS => ?hma2) ?rma2
    case hma2 => go_simp; with_reducible rfl
    try simp only [Act.put, sA, sZ, sS]
    refine region_take 3 23 (v := ?vma3) rfl rfl (by kernel_rfl) (by kernel_rfl) (by kernel_rfl) (fun _ _ _ h => h) (by rfl) (fun w' hS => ?hma3) ?rma3
    case hma3 => go_simp; with_reducible rfl
    try simp only [Act.put, sA, sZ, sS]
    refine region_take 4 24 (v := ?vma4) rfl rfl (by kernel_rfl) (by kernel_rfl) (by kernel_rfl) (fun _ _ _ h => h) (by rfl) (fun w' hS => ?hma4) ?rma4
    case hma4 => go_simp; with_reducible rfl
    try simp only [Act.put, sA, sZ, sS]
    refine region_take 5 25 (v := ?vma5) rfl rfl (by kernel_rfl) (by kernel_rfl) (by kernel_rfl) (fun _ _ _ h => h) (by rfl) (fun w' hS => ?hma5) ?rma5
    case hma5 => go_simp; with_reducible rfl
    try simp only [Act.put, sA, sZ, sS]
    refine wpAnyH_ready (rs := [6]) (by kernel_rfl) (by simp) (AllReadyH.cons rfl (fun K hK => ?_) AllReadyH.nil)
    go_simp
    refine (HCm.out _ hPr.drew).mono ?_
    rintro e w3 ⟨rfl, hP3⟩
    refine hK.out _ _ (hP3) (fun hHeld => ?_)
    clear hK K hHeld
    refine region_now (hP3) ?_
    try simp only [Act.put, sA, sZ, sS]
    refine region_take 7 27 (v := ?vma7) rfl rfl (by kernel_rfl) (by kernel_rfl) (by kernel_rfl) (fun _ _ _ h => h) (by rfl) (fun w' hS => ?hma7) ?rma7
    case hma7 => go_simp; with_reducible rfl
    try simp only [Act.put, sA, sZ, sS]
    refine wpAnyH_done (by kernel_rfl) ?_ _
    have q0 : w3.cell? ⟨b0, o0 + k * 3, none⟩ = some (.int .i64 on) := k0 w3 hP3
    have q1 : w3.cell? ⟨b0, o0 + k * 3 + 1, none⟩ = some (.int .i64 ln) := k1 w3 hP3
    have q2 : w3.cell? ⟨b0, o0 + k * 3 + 2, none⟩ = some (.slice sa xn sc) := k2 w3 hP3
    have hMB3 := (hMB.drew).ext hP3 id
    have y0 : w3.cell? ⟨mb, 0, none⟩ = some (.int .i64 om) := hMB3.cell 0
    have y1 : w3.cell? ⟨mb, 0 + 1, none⟩ = some (.int .i64 lm) := hMB3.cell 1
    have y2 : w3.cell? ⟨mb, 0 + 2, none⟩ = some (.slice sm m cm) := hMB3.cell 2
    have z0 : w3.frozen? ⟨mb, 0, none⟩ = false := hMB3.free 0
    have z1 : w3.frozen? ⟨mb, 0 + 1, none⟩ = false := hMB3.free 1
    have z2 : w3.frozen? ⟨mb, 0 + 2, none⟩ = false := hMB3.free 2
    clear d0 d1 d2 x0 x1 x2 k0 k1 k2 l0 l1 l2 p0 p1 p2
    go_wp2_with fail
    have hMB4 := ((hMB3.set 0 (.int .i64 on)).set 1 (.int .i64 ln)).set 2 (.slice sa xn sc)
    have hX4 : Ext (fun i => i = mb) w3 _ := (((Ext.refl (fun i => i = mb) w3).setCell (p := ⟨mb, 0, none⟩) (fun _ => rfl) (.int .i64 on)).setCell (p := ⟨mb, 1, none⟩) (fun _ => rfl) (.int .i64 ln)).setCell (p := ⟨mb, 2, none⟩) (fun _ => rfl) (.slice sa xn sc)
    have hE4 : Ext (fun i => i = mb) wo _ := ((hE.drew).trans hP3 (fun _ _ e => e.elim)).trans hX4 (fun _ _ e => e)
    simp only [sZ, sS] at hMB4
    go_roundw
    case rel => exact ⟨k + 1, on, ln, sa, xn, sc, by omega, by omega, by go_num, qh (by rw [HMs.out, hmax]), by omega, hMB4, hE4⟩
    case measure => simp [intOf]; omega
   ·have hmax : max m xn = m := by omega
    go_wp2_with fail
    refine region_start (fun _ => False) (by kernel_rfl) ?_
    try simp only [Act.put, sA, sZ, sS]
    refine region_take 0 20 (v := ?vmb0) rfl rfl (by kernel_rfl) (by kernel_rfl) (by kernel_rfl) (fun _ _ _ h => h) (by rfl) (fun w' hS => ?hmb0) ?rmb0
    case hmb0 => go_simp; with_reducible rfl
    try simp only [Act.put, sA, sZ, sS]
    refine region_take 1 21 (v := ?vmb1) rfl rfl (by kernel_rfl) (by kernel_rfl) (by kernel_rfl) (fun _ _ _ h => h) (by rfl) (fun w' hS => ?hmb1) ?rmb1
    case hmb1 => go_simp; with_reducible rfl
    try simp only [Act.put, sA, sZ, sS]
    refine region_take 2 22 (v := ?vmb2) rfl rfl (by kernel_rfl) (by kernel_rfl) (by kernel_rfl) (fun _ _ _ h => h) (by rfl) (fun w' hS => ?hmb2) ?rmb2
    case hmb2 => go_simp; with_reducible rfl
    try simp only [Act.put, sA, sZ, sS]
    refine region_take 3 23 (v := ?vmb3) rfl rfl (by kernel_rfl) (by kernel_rfl) (by kernel_rfl) (fun _ _ _ h => h) (by rfl) (fun w' hS => ?hmb3) ?rmb3
    case hmb3 => go_simp; with_reducible rfl
    try simp only [Act.put, sA, sZ, sS]
    refine region_take 4 24 (v := ?vmb4) rfl rfl (by kernel_rfl) (by kernel_rfl) (by kernel_rfl) (fun _ _ _ h => h) (by rfl) (fun w' hS => ?hmb4) ?rmb4
    case hmb4 => go_simp; with_reducible rfl
    try simp only [Act.put, sA, sZ, sS]
    refine region_take 5 25 (v := ?vmb5) rfl rfl (by kernel_rfl) (by kernel_rfl) (by kernel_rfl) (fun _ _ _ h => h) (by rfl) (fun w' hS => ?hmb5) ?rmb5
    case hmb5 => go_simp; with_reducible rfl
    try simp only [Act.put, sA, sZ, sS]
    refine wpAnyH_ready (rs := [6]) (by kernel_rfl) (by simp) (AllReadyH.cons rfl (fun K hK => ?_) AllReadyH.nil)
    go_simp
    refine (HCm.out _ hPr.drew).mono ?_
    rintro e w3 ⟨rfl, hP3⟩
    refine hK.out _ _ (hP3) (fun hHeld => ?_)
    clear hK K hHeld
    refine region_now (hP3) ?_
    try simp only [Act.put, sA, sZ, sS]
    refine region_take 7 27 (v := ?vmb7) rfl rfl (by kernel_rfl) (by kernel_rfl) (by kernel_rfl) (fun _ _ _ h => h) (by rfl) (fun w' hS => ?hmb7) ?rmb7
    case hmb7 => go_simp; with_reducible rfl
    try simp only [Act.put, sA, sZ, sS]
    refine wpAnyH_done (by kernel_rfl) ?_ _
    clear d0 d1 d2 x0 x1 x2 k0 k1 k2 l0 l1 l2 p0 p1 p2
    go_wp2_with fail
    go_roundw
    case rel => exact ⟨k + 1, om, lm, sm, m, cm, by omega, by omega, by go_num, qh (by rw [HMs.out, hmax]), hm3, (hMB.drew).ext hP3 id, (hE.drew).trans hP3 (fun _ _ e => e.elim)⟩
    case measure => simp [intOf]; omega
  ·have hki : ¬ (k : Int) < (n : Int) := by omega
   obtain rfl : n = k := by omega
   have hMm : m = M := by rw [HMx.out, HM.out, List.take_of_length_le (by rw [HLEN.out]; omega)]
   subst hMm
   have x0 : wr.cell? ⟨mb, 0, none⟩ = some (.int .i64 om) := hMB.cell 0
   have x1 : wr.cell? ⟨mb, 0 + 1, none⟩ = some (.int .i64 lm) := hMB.cell 1
   have x2 : wr.cell? ⟨mb, 0 + 2, none⟩ = some (.slice sm m cm) := hMB.cell 2
   have y0 : wr.cell? ⟨w.heap.size, 0, none⟩ = some (.int .i64 0) := hRr.cell 0
   have y1 : wr.cell? ⟨w.heap.size, 0 + 1, none⟩ = some (.int .i64 0) := hRr.cell 1
   have y2 : wr.cell? ⟨w.heap.size, 0 + 2, none⟩ = some (.slice none 0 0) := hRr.cell 2
   have z0 : wr.frozen? ⟨w.heap.size, 0, none⟩ = false := hRr.free 0
   have z1 : wr.frozen? ⟨w.heap.size, 0 + 1, none⟩ = false := hRr.free 1
   have z2 : wr.frozen? ⟨w.heap.size, 0 + 2, none⟩ = false := hRr.free 2
   go_wp2_with fail
   have hR9 := ((hRr.set 0 (.int .i64 om)).set 1 (.int .i64 lm)).set 2 (.slice sm m cm)
   have hX9 : Ext (fun i => i = w.heap.size) wr _ := (((Ext.refl (fun i => i = w.heap.size) wr).setCell (p := ⟨w.heap.size, 0, none⟩) (fun _ => rfl) (.int .i64 om)).setCell (p := ⟨w.heap.size, 1, none⟩) (fun _ => rfl) (.int .i64 lm)).setCell (p := ⟨w.heap.size, 2, none⟩) (fun _ => rfl) (.slice sm m cm)
   have hP9 : Pure w _ := hPr.trans hX9 (fun i hi e => by have e' : i = w.heap.size := e; omega)
   obtain ⟨wZ, hwZ⟩ : ∃ wZ, wZ = ((wr.setCell ⟨w.heap.size, 0, none⟩ (.int .i64 om)).setCell ⟨w.heap.size, 1, none⟩ (.int .i64 lm)).setCell ⟨w.heap.size, 2, none⟩ (.slice sm m cm) := ⟨_, rfl⟩
   rw [← hwZ] at hR9 hP9
   rw [← hwZ]
   clear hwZ hX9
   simp only [sZ, sS] at hR9
   have t0 : wZ.cell? ⟨w.heap.size, 0, none⟩ = some (.int .i64 om) := hR9.cell 0
   have t1 : wZ.cell? ⟨w.heap.size, 1, none⟩ = some (.int .i64 lm) := hR9.cell 1
   have t2 : wZ.cell? ⟨w.heap.size, 2, none⟩ = some (.slice sm m cm) := hR9.cell 2
   refine bodyPost_ret (v := .agg #[.int .i64 om, .int .i64 lm, .slice sm m cm]) (by simp [results, Tryz.results59, go_sem, t0, t1, t2]) rfl ⟨om, lm, sm, cm, rfl, hP9⟩
def WSt (w0 : World) (wb : Nat) (bs : List Bool) (W : World) : Prop := ∃ wa wc, WrIs W wb true bs wa wc ∧ Ext (fun i => i = wb) w0 W ∧ (∀ g, wa = some g → w0.heap.size ≤ g.block) ∧ wb < w0.heap.size
theorem WSt.ext {w0 W : World} {wb : Nat} {bs : List Bool} (h : WSt w0 wb bs W) : Ext (fun i => i = wb) w0 W := by obtain ⟨_, _, _, h, _⟩ := h; exact h
theorem WSt.later {w0 W W' : World} {wb : Nat} {bs : List Bool} (h : WSt w0 wb bs W) (hE : Pure W W') : WSt w0 wb bs W' := by
 obtain ⟨wa, wc, hW, hX, hf, hb⟩ := h
 exact ⟨wa, wc, hW.pure hE, hX.trans hE (fun _ _ e => e.elim), hf, hb⟩
def PutTo (w0 : World) (wb : Nat) (bs : List Bool) (e : Ending) (W' : World) : Prop := e = .returned (.int .i64 0) ∧ WSt w0 wb bs W'
def DoneTo (w0 : World) (wb : Nat) (bs : List Bool) (e : Ending) (W' : World) : Prop := e = .returned (.tuple #[]) ∧ WSt w0 wb bs W'
theorem wsput {w0 W : World} {wb : Nat} {bs : List Bool} (h : WSt w0 wb bs W) (x n : Nat) (hlen : bs.length ≤ 900000000) (hn : n ≤ 32) (hx : x < 4294967296) (hxn : x < 2 ^ n) :
 Calls Tryz.prog 64 #[.pointer (some ⟨wb, 0, none⟩), .int .u32 x, .int .i64 n] W (PutTo w0 wb (bs ++ bN x n)) := by
 obtain ⟨wa, wc, hW, hX, hf, hb⟩ := h
 refine (put_yes wb true bs wa wc x n W hW hlen hn hx hxn).mono ?_
 rintro e W' ⟨rfl, wa', wc', hW', hE, hf'⟩
 refine ⟨rfl, wa', wc', hW', hX.trans hE (fun i hi e => ?_), fun g hg => ?_, hb⟩
 ·rcases e with e | ⟨g, hg, e⟩
  ·exact e
  ·have := hf g hg; omega
 ·rcases hf' g hg with e | e
  ·exact hf g e
  ·exact Nat.le_trans hX.size e
theorem wsalign {w0 W : World} {wb : Nat} {bs : List Bool} (h : WSt w0 wb bs W) (hlen : bs.length ≤ 1000000000) :
 Calls Tryz.prog 73 #[.pointer (some ⟨wb, 0, none⟩)] W (DoneTo w0 wb (align bs)) := by
 obtain ⟨wa, wc, hW, hX, hf, hb⟩ := h
 refine (walign_any wb true bs wa wc W hW hlen).mono ?_
 rintro e W' ⟨rfl, hW', hE⟩
 exact ⟨rfl, wa, wc, hW', hX.trans hE (fun _ _ e => e), hf, hb⟩
def PutcTo (wb : Nat) (a : Option Addr) (bs : List Bool) (W : World) (e : Ending) (W' : World) : Prop := e = .returned (.tuple #[]) ∧ ∃ a' c', WrIs W' wb true bs a' c' ∧ Ext (WrS wb a) W W' ∧ (∀ g, a' = some g → a = some g ∨ W.heap.size ≤ g.block)
set_option maxHeartbeats 1000000 in
theorem putc_any (wb : Nat) (bs : List Bool) (a : Option Addr) (c : Nat) (W : World) (h : WrIs W wb true bs a c) (pc ab n cap wd : Nat) (xs : List Nat) (hn : xs.length = n) (hrow : RowOf W (some ⟨ab, 0, none⟩) (xs.map intV)) (hab : ¬ WrS wb a ab) (hcell : W.cell? ⟨pc, 0, none⟩ = some (.pointer (some ⟨wb, 0, none⟩))) (hpc : ¬ WrS wb a pc) (hlen : bs.length ≤ 100000000) (hw : wd ≤ 32) (hn8 : n ≤ 8) (hx : ∀ x ∈ xs, x < 4294967296 ∧ x < 2 ^ wd) :
 Calls Tryz.prog 63 #[.int .i64 wd, .slice (some ⟨ab, 0, none⟩) n cap, .pointer (some ⟨pc, 0, none⟩)] W (PutcTo wb a (bs ++ numsB xs wd) W) := by
 have HX := qh hx
 have HN := qh hn
 have hablt : 0 < n → ab < W.heap.size := fun hp => by
  obtain ⟨b, o, e, hc⟩ := hrow 0 (intV (xs[0]'(by omega))) (by rw [List.getElem?_map, List.getElem?_eq_getElem (by omega)]; rfl)
  cases e
  exact World.block_lt_of_cell? W _ hc
 have hpclt := World.block_lt_of_cell? W _ hcell
 clear hx hn
 go_enter Tryz.func63, Tryz.ntmps63
 go_wp2_with fail
 go_loopw [6, 9] (fun _ i W' => ∃ (k : Nat) (wa : Option Addr) (wc : Nat), k ≤ n ∧ i = .int .i64 k ∧ WrIs W' wb true (bs ++ numsB (xs.take k) wd) wa wc ∧ Ext (WrS wb a) W W' ∧ Hid (∀ g, wa = some g → a = some g ∨ W.heap.size ≤ g.block)) (fun _ i _ => n - (intOf i).toNat)
 case atStart => exact ⟨0, a, c, Nat.zero_le _, rfl, by simpa [numsB] using h, Ext.refl _ _, qh (fun g hg => Or.inl hg)⟩
 case round =>
  obtain ⟨k, wa, wc, hk, rfl, hW, hE, hf⟩ := hrel
  by_cases hlt : k < n
  ·have hki : (k : Int) < (n : Int) := by omega
   have hkx : k < xs.length := by rw [HN.out]; exact hlt
   obtain ⟨x, hxx⟩ : ∃ x, x = xs[k] := ⟨_, rfl⟩
   obtain ⟨b, o, e, hc⟩ := hrow k (intV x) (by rw [List.getElem?_map, List.getElem?_eq_getElem hkx, hxx]; rfl)
   cases e
   have hc2 : wr.cell? ⟨ab, k, none⟩ = some (.int .i64 x) := hE.cell_some (by rw [Nat.zero_add] at hc; exact hc) hab
   have hp2 : wr.cell? ⟨pc, 0, none⟩ = some (.pointer (some ⟨wb, 0, none⟩)) := hE.cell_some hcell hpc
   have hx1 := HX.out x (hxx ▸ List.getElem_mem hkx)
   have hln : (bs ++ numsB (xs.take k) wd).length ≤ 100000256 := by
    rw [List.length_append, numsB_len, List.length_take]
    have : min k xs.length * wd ≤ 8 * 32 := Nat.mul_le_mul (by omega) hw
    omega
   have HS : Hid (bs ++ numsB (xs.take k) wd ++ bitsNum true x wd = bs ++ numsB (xs.take (k + 1)) wd) := qh (by rw [numsB_take_at (List.getElem?_eq_getElem hkx), hxx, List.append_assoc]; rfl)
   have HPut := qh (put_yes wb true _ wa wc x wd wr hW (by omega) hw hx1.1 hx1.2)
   have hu : IntKind.u32.wrap (x : Int) = (x : Int) := IntWalk.u32_in _ (by omega)
   have hx32 := hx1.1
   clear hc hkx hxx hx1 hln hW
   go_wp2_with fail
   refine HPut.out.mono ?_
   rintro e w5 ⟨rfl, wa5, wc5, hW5, hE5, hf5⟩
   rw [HS.out] at hW5
   obtain ⟨hX5, hF5⟩ := wrs_trans hE hf.out hE5 hf5
   clear HPut hE5 hf5 hc2 hp2
   go_wp2_with fail
   go_roundw
   case rel => exact ⟨k + 1, wa5, wc5, by omega, by go_num, hW5, hX5, qh hF5⟩
   case measure => simp [intOf]; omega
  ·have hki : ¬ (k : Int) < (n : Int) := by omega
   obtain rfl : n = k := by omega
   rw [List.take_of_length_le (by rw [HN.out]; omega)] at hW
   go_wp2_with fail
   go_end0
   exact ⟨rfl, wa, wc, hW, hE, hf.out⟩
theorem wsputc {w0 W : World} {wb : Nat} {bs : List Bool} (h : WSt w0 wb bs W) (pc ab n cap wd : Nat) (xs : List Nat) (C : Array Value) (hC : C = (xs.map intV).toArray) (habq : W.heap.size = ab) (hn : xs.length = n) (hcell : w0.cell? ⟨pc, 0, none⟩ = some (.pointer (some ⟨wb, 0, none⟩))) (hpc : pc ≠ wb) (hlen : bs.length ≤ 100000000) (hw : wd ≤ 32) (hn8 : n ≤ 8) (hx : ∀ x ∈ xs, x < 4294967296 ∧ x < 2 ^ wd) :
 Calls Tryz.prog 63 #[.int .i64 wd, .slice (some ⟨ab, 0, none⟩) n cap, .pointer (some ⟨pc, 0, none⟩)] (W.alloc (.cells C 3)) (DoneTo w0 wb (bs ++ numsB xs wd)) := by
 obtain ⟨wa, wc, hW, hX, hf, hb⟩ := h
 have hpl := World.block_lt_of_cell? w0 _ hcell
 have hwl := hW.lt
 have hbl := hW.blk.lt
 refine (putc_any wb bs wa wc _ (hW.pure (ext_alloc W (.cells C 3))) pc ab n cap wd xs hn (row_at _ habq hC) ?_ (((hX.alloc _).cell_some hcell (fun e => hpc e))) ?_ hlen hw hn8 hx).mono ?_
 ·rintro (e | ⟨g, hg, e⟩)
  ·omega
  ·have := hwl g hg; omega
 ·rintro (e | ⟨g, hg, e⟩)
  ·exact hpc e
  ·have := hf g hg; simp only at hpl; omega
 ·rintro e W' ⟨rfl, a', c', hW', hE, hf'⟩
  refine ⟨rfl, a', c', hW', (hX.alloc _).trans hE (fun i hi e => ?_), fun g hg => ?_, hb⟩
  ·rcases e with e | ⟨g, hg, e⟩
   ·exact e
   ·have := hf g hg; omega
  ·rcases hf' g hg with e | e
   ·exact hf g e
   ·exact Nat.le_trans (hX.alloc (.cells C 3)).size e
set_option maxHeartbeats 2000000 in
theorem row_obj (ad : Option Addr) (c n : Nat) (h : HN) (w0 W : World) (wb : Nat) (bs : List Bool) (HPg : Hid (∀ W, Ext (fun i => i = wb) w0 W → ∀ k, k < n → PageAt W ad h k)) (hn40 : n ≤ 40) (hlst : (HN.above h.os).length = n) (hS : WSt w0 wb bs W) (hlen : bs.length ≤ 1000000) (lob : Nat) (hos : ∀ x ∈ h.os, x ≤ 4096) (hlob : w0.cell? ⟨lob, 0, none⟩ = some (.int .i64 (least h.os : Nat))) (hne : lob ≠ wb) :
 Calls Tryz.prog 65 #[.pointer (some ⟨wb, 0, none⟩), .slice ad n c, .int .i64 (h.wa : Nat), .func (.func 66) #[] #[.pointer (some ⟨lob, 0, none⟩)]] W (DoneTo w0 wb (align (bs ++ numsB (HN.above h.os) (h.wa)))) := by
 obtain ⟨wv, hwv⟩ : ∃ z, z = h.wa := ⟨_, rfl⟩
 obtain ⟨LS, hls⟩ : ∃ z : List Nat, z = HN.above h.os := ⟨_, rfl⟩
 rw [← hwv, ← hls]
 rw [← hls] at hlst
 have hwl : wv ≤ 32 := by rw [hwv]; exact width_le (fun y hy => by have := hos y hy; omega)
 have HWV := qh hwv
 have HLS := qh hls
 have HLL := qh hlst
 clear hwv hls hlst
 obtain ⟨lo, hlo⟩ : ∃ z, z = least h.os := ⟨_, rfl⟩
 rw [← hlo] at hlob
 have HLO := qh hlo
 have HLOB := qh hlob
 clear hlo hlob
 go_enter Tryz.func65, Tryz.ntmps65
 go_wp2_with fail
 go_loopw [9, 12] (fun _ i W' => ∃ k : Nat, k ≤ n ∧ i = .int .i64 k ∧ WSt w0 wb (bs ++ numsB (LS.take k) wv) W') (fun _ i _ => n - (intOf i).toNat)
 case atStart => exact ⟨0, Nat.zero_le _, rfl, by simpa [numsB] using hS⟩
 case round =>
  obtain ⟨k, hk, rfl, hT⟩ := hrel
  clear hS
  have hlk2 : (bs ++ numsB (LS.take k) wv).length ≤ 1001280 := by
   rw [List.length_append, numsB_len, List.length_take]
   have : min k LS.length * wv ≤ 40 * 32 := Nat.mul_le_mul (by rw [HLL.out]; omega) hwl
   omega
  by_cases hlt : k < n
  ·have hki : (k : Int) < (n : Int) := by omega
   obtain ⟨b, o, on, ln, sa, sc, xs, had, p0, p1, p2, hsub, e0, e1, e2, bo, bl, bs', bx0, bx1, bx2⟩ := HPg.out wr hT.ext k hlt
   subst had
   obtain ⟨xn, hxn⟩ : ∃ z, z = xs.length := ⟨_, rfl⟩
   rw [← hxn] at p2 bx0 bx1
   have hge : lo ≤ on := by rw [HLO.out]; exact least_le (mem_of_at e0)
   have hab : on - lo < 2 ^ wv := by rw [HLO.out, HWV.out]; exact above_lt (mem_of_at e0)
   obtain ⟨d, hdd⟩ : ∃ d, d = on - lo := ⟨_, rfl⟩
   have hd : LS[k]? = some d := by rw [HLS.out, hdd, HLO.out]; exact above_at e0
   have hdi : (on : Int) - (lo : Int) = (d : Int) := by omega
   have hd1 : d < 2 ^ wv := hdd ▸ hab
   have HOf0 := fun W (hP : Pure wr W) => above_obj_any (on : Int) (ln : Int) sa xn sc (lo : Int) lob W ((hT.ext.trans hP (fun _ _ e => e.elim)).cell_some HLOB.out hne) (by omega) (by omega) (by omega)
   rw [hdi] at HOf0
   unfold pageV at HOf0
   have hd2 : d ≤ 2147483647 := by omega
   clear hab hdi hdd
   have HOf := qh HOf0
   have HS2 : Hid (bs ++ numsB (LS.take k) wv ++ bN d wv = bs ++ numsB (LS.take (k + 1)) wv) := qh (by rw [numsB_take_at hd, List.append_assoc])
   have HPut := qh (fun W'' (hP : Pure wr W'') => wsput (hT.later hP) d wv (by omega) hwl (by omega) hd1)
   have hu : IntKind.u32.wrap (d : Int) = (d : Int) := IntWalk.u32_in _ (by omega)
   clear hd hd1 hT hsub e0 e1 e2 bs' hxn hlk2 HOf0
   go_wp2_with fail
   refine (HOf.out _ (ext_alloc wr _)).mono ?_
   rintro e w3 ⟨rfl, hP3⟩
   go_wp2_with fail
   refine (HPut.out _ ((ext_alloc wr _).pure hP3)).mono ?_
   rintro e w4 ⟨rfl, hT4⟩
   rw [HS2.out] at hT4
   clear HPut HOf
   go_wp2_with fail
   go_roundw
   case rel => exact ⟨k + 1, by omega, by go_num, hT4⟩
   case measure => simp [intOf]; omega
  ·have hki : ¬ (k : Int) < (n : Int) := by omega
   obtain rfl : n = k := by omega
   have hf : bs ++ numsB (LS.take n) wv = bs ++ numsB LS wv := by rw [List.take_of_length_le (by rw [HLL.out]; omega)]
   rw [hf] at hT hlk2
   have HA := qh (wsalign hT (by omega))
   clear hf hT
   go_wp2_with fail
   refine HA.out.mono ?_
   rintro e w4 ⟨rfl, hT4⟩
   go_wp2_with fail
   go_end0
   exact ⟨rfl, hT4⟩
set_option maxHeartbeats 2000000 in
theorem row_len (ad : Option Addr) (c n : Nat) (h : HN) (w0 W : World) (wb : Nat) (bs : List Bool) (HPg : Hid (∀ W, Ext (fun i => i = wb) w0 W → ∀ k, k < n → PageAt W ad h k)) (hn40 : n ≤ 40) (hlst : (HN.above h.ls).length = n) (hS : WSt w0 wb bs W) (hlen : bs.length ≤ 1000000) (lob : Nat) (hos : ∀ x ∈ h.ls, x ≤ 2147483647) (hlob : w0.cell? ⟨lob, 0, none⟩ = some (.int .i64 (least h.ls : Nat))) (hne : lob ≠ wb) :
 Calls Tryz.prog 65 #[.pointer (some ⟨wb, 0, none⟩), .slice ad n c, .int .i64 (h.wb : Nat), .func (.func 67) #[] #[.pointer (some ⟨lob, 0, none⟩)]] W (DoneTo w0 wb (align (bs ++ numsB (HN.above h.ls) (h.wb)))) := by
 obtain ⟨wv, hwv⟩ : ∃ z, z = h.wb := ⟨_, rfl⟩
 obtain ⟨LS, hls⟩ : ∃ z : List Nat, z = HN.above h.ls := ⟨_, rfl⟩
 rw [← hwv, ← hls]
 rw [← hls] at hlst
 have hwl : wv ≤ 32 := by rw [hwv]; exact width_le (fun y hy => by have := hos y hy; omega)
 have HWV := qh hwv
 have HLS := qh hls
 have HLL := qh hlst
 clear hwv hls hlst
 obtain ⟨lo, hlo⟩ : ∃ z, z = least h.ls := ⟨_, rfl⟩
 rw [← hlo] at hlob
 have HLO := qh hlo
 have HLOB := qh hlob
 clear hlo hlob
 go_enter Tryz.func65, Tryz.ntmps65
 go_wp2_with fail
 go_loopw [9, 12] (fun _ i W' => ∃ k : Nat, k ≤ n ∧ i = .int .i64 k ∧ WSt w0 wb (bs ++ numsB (LS.take k) wv) W') (fun _ i _ => n - (intOf i).toNat)
 case atStart => exact ⟨0, Nat.zero_le _, rfl, by simpa [numsB] using hS⟩
 case round =>
  obtain ⟨k, hk, rfl, hT⟩ := hrel
  clear hS
  have hlk2 : (bs ++ numsB (LS.take k) wv).length ≤ 1001280 := by
   rw [List.length_append, numsB_len, List.length_take]
   have : min k LS.length * wv ≤ 40 * 32 := Nat.mul_le_mul (by rw [HLL.out]; omega) hwl
   omega
  by_cases hlt : k < n
  ·have hki : (k : Int) < (n : Int) := by omega
   obtain ⟨b, o, on, ln, sa, sc, xs, had, p0, p1, p2, hsub, e0, e1, e2, bo, bl, bs', bx0, bx1, bx2⟩ := HPg.out wr hT.ext k hlt
   subst had
   obtain ⟨xn, hxn⟩ : ∃ z, z = xs.length := ⟨_, rfl⟩
   rw [← hxn] at p2 bx0 bx1
   have hge : lo ≤ ln := by rw [HLO.out]; exact least_le (mem_of_at e1)
   have hab : ln - lo < 2 ^ wv := by rw [HLO.out, HWV.out]; exact above_lt (mem_of_at e1)
   obtain ⟨d, hdd⟩ : ∃ d, d = ln - lo := ⟨_, rfl⟩
   have hd : LS[k]? = some d := by rw [HLS.out, hdd, HLO.out]; exact above_at e1
   have hdi : (ln : Int) - (lo : Int) = (d : Int) := by omega
   have hd1 : d < 2 ^ wv := hdd ▸ hab
   have HOf0 := fun W (hP : Pure wr W) => above_len_any (on : Int) (ln : Int) sa xn sc (lo : Int) lob W ((hT.ext.trans hP (fun _ _ e => e.elim)).cell_some HLOB.out hne) (by omega) (by omega) (by omega)
   rw [hdi] at HOf0
   unfold pageV at HOf0
   have hd2 : d ≤ 2147483647 := by omega
   clear hab hdi hdd
   have HOf := qh HOf0
   have HS2 : Hid (bs ++ numsB (LS.take k) wv ++ bN d wv = bs ++ numsB (LS.take (k + 1)) wv) := qh (by rw [numsB_take_at hd, List.append_assoc])
   have HPut := qh (fun W'' (hP : Pure wr W'') => wsput (hT.later hP) d wv (by omega) hwl (by omega) hd1)
   have hu : IntKind.u32.wrap (d : Int) = (d : Int) := IntWalk.u32_in _ (by omega)
   clear hd hd1 hT hsub e0 e1 e2 bs' hxn hlk2 HOf0
   go_wp2_with fail
   refine (HOf.out _ (ext_alloc wr _)).mono ?_
   rintro e w3 ⟨rfl, hP3⟩
   go_wp2_with fail
   refine (HPut.out _ ((ext_alloc wr _).pure hP3)).mono ?_
   rintro e w4 ⟨rfl, hT4⟩
   rw [HS2.out] at hT4
   clear HPut HOf
   go_wp2_with fail
   go_roundw
   case rel => exact ⟨k + 1, by omega, by go_num, hT4⟩
   case measure => simp [intOf]; omega
  ·have hki : ¬ (k : Int) < (n : Int) := by omega
   obtain rfl : n = k := by omega
   have hf : bs ++ numsB (LS.take n) wv = bs ++ numsB LS wv := by rw [List.take_of_length_le (by rw [HLL.out]; omega)]
   rw [hf] at hT hlk2
   have HA := qh (wsalign hT (by omega))
   clear hf hT
   go_wp2_with fail
   refine HA.out.mono ?_
   rintro e w4 ⟨rfl, hT4⟩
   go_wp2_with fail
   go_end0
   exact ⟨rfl, hT4⟩
set_option maxHeartbeats 2000000 in
theorem row_cnt (ad : Option Addr) (c n : Nat) (h : HN) (w0 W : World) (wb : Nat) (bs : List Bool) (HPg : Hid (∀ W, Ext (fun i => i = wb) w0 W → ∀ k, k < n → PageAt W ad h k)) (hn40 : n ≤ 40) (hlst : (h.counts).length = n) (hS : WSt w0 wb bs W) (hlen : bs.length ≤ 1000000) (hos : ∀ x ∈ h.counts, x ≤ 3000) :
 Calls Tryz.prog 65 #[.pointer (some ⟨wb, 0, none⟩), .slice ad n c, .int .i64 (h.wc : Nat), .func (.func 56) #[] #[]] W (DoneTo w0 wb (align (bs ++ numsB (h.counts) (h.wc)))) := by
 obtain ⟨wv, hwv⟩ : ∃ z, z = h.wc := ⟨_, rfl⟩
 obtain ⟨LS, hls⟩ : ∃ z : List Nat, z = h.counts := ⟨_, rfl⟩
 rw [← hwv, ← hls]
 rw [← hls] at hlst
 have hwl : wv ≤ 32 := by rw [hwv]; exact wid_le.2 (mx_lt (by decide) (fun y hy => by have := hos y hy; omega))
 have HWV := qh hwv
 have HLS := qh hls
 have HLL := qh hlst
 clear hwv hls hlst
 skip
 go_enter Tryz.func65, Tryz.ntmps65
 go_wp2_with fail
 go_loopw [9, 12] (fun _ i W' => ∃ k : Nat, k ≤ n ∧ i = .int .i64 k ∧ WSt w0 wb (bs ++ numsB (LS.take k) wv) W') (fun _ i _ => n - (intOf i).toNat)
 case atStart => exact ⟨0, Nat.zero_le _, rfl, by simpa [numsB] using hS⟩
 case round =>
  obtain ⟨k, hk, rfl, hT⟩ := hrel
  clear hS
  have hlk2 : (bs ++ numsB (LS.take k) wv).length ≤ 1001280 := by
   rw [List.length_append, numsB_len, List.length_take]
   have : min k LS.length * wv ≤ 40 * 32 := Nat.mul_le_mul (by rw [HLL.out]; omega) hwl
   omega
  by_cases hlt : k < n
  ·have hki : (k : Int) < (n : Int) := by omega
   obtain ⟨b, o, on, ln, sa, sc, xs, had, p0, p1, p2, hsub, e0, e1, e2, bo, bl, bs', bx0, bx1, bx2⟩ := HPg.out wr hT.ext k hlt
   subst had
   obtain ⟨xn, hxn⟩ : ∃ z, z = xs.length := ⟨_, rfl⟩
   rw [← hxn] at p2 bx0 bx1
   have hab : xn < 2 ^ wv := by rw [hxn, HWV.out]; exact Nat.lt_of_le_of_lt (le_mx (mem_of_at (counts_at e2))) (lt_wid _)
   obtain ⟨d, hdd⟩ : ∃ d, d = xn := ⟨_, rfl⟩
   have hd : LS[k]? = some d := by rw [HLS.out, hdd, hxn]; exact counts_at e2
   have hd1 : d < 2 ^ wv := hdd ▸ hab
   have HOf0 := fun W (hP : Pure wr W) => count_any (on : Int) (ln : Int) sa xn sc W (by omega)
   rw [← hdd] at HOf0 p2 bx0 bx1
   unfold pageV at HOf0
   clear hab hdd
   have HOf := qh HOf0
   have HS2 : Hid (bs ++ numsB (LS.take k) wv ++ bN d wv = bs ++ numsB (LS.take (k + 1)) wv) := qh (by rw [numsB_take_at hd, List.append_assoc])
   have HPut := qh (fun W'' (hP : Pure wr W'') => wsput (hT.later hP) d wv (by omega) hwl (by omega) hd1)
   have hu : IntKind.u32.wrap (d : Int) = (d : Int) := IntWalk.u32_in _ (by omega)
   clear hd hd1 hT hsub e0 e1 e2 bs' hxn hlk2 HOf0
   go_wp2_with fail
   refine (HOf.out _ (ext_alloc wr _)).mono ?_
   rintro e w3 ⟨rfl, hP3⟩
   go_wp2_with fail
   refine (HPut.out _ ((ext_alloc wr _).pure hP3)).mono ?_
   rintro e w4 ⟨rfl, hT4⟩
   rw [HS2.out] at hT4
   clear HPut HOf
   go_wp2_with fail
   go_roundw
   case rel => exact ⟨k + 1, by omega, by go_num, hT4⟩
   case measure => simp [intOf]; omega
  ·have hki : ¬ (k : Int) < (n : Int) := by omega
   obtain rfl : n = k := by omega
   have hf : bs ++ numsB (LS.take n) wv = bs ++ numsB LS wv := by rw [List.take_of_length_le (by rw [HLL.out]; omega)]
   rw [hf] at hT hlk2
   have HA := qh (wsalign hT (by omega))
   clear hf hT
   go_wp2_with fail
   refine HA.out.mono ?_
   rintro e w4 ⟨rfl, hT4⟩
   go_wp2_with fail
   go_end0
   exact ⟨rfl, hT4⟩
set_option maxHeartbeats 2000000 in
theorem row_int (ad : Option Addr) (c n : Nat) (LS : List Nat) (w0 W : World) (wb : Nat) (bs : List Bool) (wv : Nat) (hRow : RowOf w0 ad (LS.map intV)) (had : ∀ g, ad = some g → g.block ≠ wb) (hn : n ≤ 65536) (hlst : LS.length = n) (hS : WSt w0 wb bs W) (hlen : bs.length ≤ 1000000) (hx : ∀ x ∈ LS, x ≤ 4095 ∧ x < 2 ^ wv) (hwl : wv ≤ 32) :
 Calls Tryz.prog 68 #[.pointer (some ⟨wb, 0, none⟩), .slice ad n c, .int .i64 wv, .func (.func 69) #[] #[]] W (DoneTo w0 wb (align (bs ++ numsB LS wv))) := by
 have HLL := qh hlst
 have HX := qh hx
 have HId := qh (fun (x : Int) W => id_any x W)
 clear hlst hx
 go_enter Tryz.func68, Tryz.ntmps68
 go_wp2_with fail
 go_loopw [9, 12] (fun _ i W' => ∃ k : Nat, k ≤ n ∧ i = .int .i64 k ∧ WSt w0 wb (bs ++ numsB (LS.take k) wv) W') (fun _ i _ => n - (intOf i).toNat)
 case atStart => exact ⟨0, Nat.zero_le _, rfl, by simpa [numsB] using hS⟩
 case round =>
  obtain ⟨k, hk, rfl, hT⟩ := hrel
  clear hS
  have hlk2 : (bs ++ numsB (LS.take k) wv).length ≤ 1000000 + 65536 * 32 := by
   rw [List.length_append, numsB_len, List.length_take]
   have : min k LS.length * wv ≤ 65536 * 32 := Nat.mul_le_mul (by rw [HLL.out]; omega) hwl
   omega
  by_cases hlt : k < n
  ·have hki : (k : Int) < (n : Int) := by omega
   have hkx : k < LS.length := by rw [HLL.out]; exact hlt
   obtain ⟨d, hdd⟩ : ∃ d, d = LS[k] := ⟨_, rfl⟩
   obtain ⟨b, o, rfl, hc⟩ := (hRow.ext hT.ext (fun g hg e => had g hg e)) k (intV d) (by rw [List.getElem?_map, List.getElem?_eq_getElem hkx, hdd]; rfl)
   have hc2 : wr.cell? ⟨b, o + k, none⟩ = some (.int .i64 d) := hc
   have hd : LS[k]? = some d := by rw [List.getElem?_eq_getElem hkx, hdd]
   have hd1 := HX.out d (hdd ▸ List.getElem_mem hkx)
   have hd2 : d ≤ 4095 := hd1.1
   have HS2 : Hid (bs ++ numsB (LS.take k) wv ++ bN d wv = bs ++ numsB (LS.take (k + 1)) wv) := qh (by rw [numsB_take_at hd, List.append_assoc])
   have HPut := qh (fun W'' (hP : Pure wr W'') => wsput (hT.later hP) d wv (by omega) (by omega) (by omega) hd1.2)
   have hu : IntKind.u32.wrap (d : Int) = (d : Int) := IntWalk.u32_in _ (by omega)
   clear hd hd1 hT hc hkx hdd hlk2
   go_wp2_with fail
   refine (HId.out (d : Int) _).mono ?_
   rintro e w3 ⟨rfl, hP3⟩
   go_wp2_with fail
   refine (HPut.out _ hP3).mono ?_
   rintro e w4 ⟨rfl, hT4⟩
   rw [HS2.out] at hT4
   clear HPut
   go_wp2_with fail
   go_roundw
   case rel => exact ⟨k + 1, by omega, by go_num, hT4⟩
   case measure => simp [intOf]; omega
  ·have hki : ¬ (k : Int) < (n : Int) := by omega
   obtain rfl : n = k := by omega
   have hf : bs ++ numsB (LS.take n) wv = bs ++ numsB LS wv := by rw [List.take_of_length_le (by rw [HLL.out]; omega)]
   rw [hf] at hT hlk2
   have HA := qh (wsalign hT (by omega))
   clear hf hT
   go_wp2_with fail
   refine HA.out.mono ?_
   rintro e w4 ⟨rfl, hT4⟩
   go_wp2_with fail
   go_end0
   exact ⟨rfl, hT4⟩
