import Derived.Test.YtomcdhljjmnahaaGreatLibSAPa
import Derived.Test.YtomcdhljjmnahaaGreatLibSBPa
import Derived.StillTailTactics
import Derived.Test.YtomcdhljjmnahaaGreatSqPa
set_option linter.unusedVariables false
set_option linter.unusedSimpArgs false
set_option maxRecDepth 100000
namespace Go.Proofs.YtomcdhljjmnahaaGreat.S27
open Go.RowKit C27
theorem ext4a (w : World) (n : Nat) : Ext (fun i => i = n) w ((((w.setCell ⟨n, 0, none⟩ (.int .i64 0)).setCell ⟨n, 1, none⟩ (.int .i64 0)).setCell ⟨n, 2, none⟩ (.int .i64 0)).setCell ⟨n, 3, none⟩ (.slice none 0 0)) := ((((Ext.refl (fun i => i = n) w).setCell (p := ⟨n, 0, none⟩) (fun _ => rfl) (.int .i64 0)).setCell (p := ⟨n, 1, none⟩) (fun _ => rfl) (.int .i64 0)).setCell (p := ⟨n, 2, none⟩) (fun _ => rfl) (.int .i64 0)).setCell (p := ⟨n, 3, none⟩) (fun _ => rfl) (.slice none 0 0)
def DecRes (bs : List Bool) (w : World) (e : Ending) (w' : World) : Prop := ∃ (r : DRes) (la : Option Addr) (lc : Nat), e = .returned (.tuple #[tblV r.o r.a r.f la r.ls.length lc, .int .i64 r.m, .int .i64 r.e]) ∧ DecTo bs r ∧ RowOf w' la (r.ls.map intV) ∧ (la = none → lc = 0) ∧ r.ls.length ≤ lc ∧ Pure w w'
theorem numRes_mk {rr rb : Nat} {l : List UInt8} {s s' : St} {n v : Nat} {a : Option Addr} {c : Nat} {W : World} {e : Ending} {W' : World} (h : NumRes rr rb l s n a c W e W') (hv : num1 (bitsOf true l) s n = (v, s')) : e = .returned (.int .i64 (v : Nat)) ∧ RS W' rr rb l s' a c ∧ Ext (RdS rr rb) W W' := by
 unfold NumRes at h
 rw [hv] at h
 exact h
set_option maxHeartbeats 8000000 in
theorem decode_any (bd : Option Addr) (bc : Nat) (bl : List UInt8) (w : World) (hb : Bytes w bd bl) (hnil : bd = none → bc = 0) (hle : bl.length ≤ bc) (hl : bl.length ≤ 10000000) :
 Calls Tryz.prog 46 #[.slice bd bl.length bc] w (DecRes (bitsOf true bl) w) := by
 obtain ⟨w1, hw1⟩ : ∃ w1, w1 = w.alloc (.cells #[.int .i64 0, .int .i64 0, .int .i64 0, .slice none 0 0] 64) := ⟨_, rfl⟩
 have hT : BlockIs w1 w.heap.size [.int .i64 0, .int .i64 0, .int .i64 0, .slice none 0 0] 64 := hw1 ▸ BlockIs.new w _ _
 have hP1 : Pure w w1 := hw1 ▸ ext_alloc w _
 have HR := qh (read_any2 bd bc bl true w1 (hb.pure hP1) hnil hle (by omega))
 have HW1 := qh hw1
 clear hw1
 go_enter Tryz.func46, Tryz.ntmps46
 go_wp2_with fail
 rw [← HW1.out]
 refine HR.out.mono ?_
 rintro e w2 ⟨rb, a, c, rfl, hRd, hE2, hrb1, hrb2, hfa, halt⟩
 have hlt1 := hT.lt
 have hlt2 := hE2.size
 have hT2 := hT.ext hE2 id
 have hP2 := hP1.pure hE2
 clear hT hP1 HR hE2
 go_wp2_with fail
 obtain ⟨rr, hrr⟩ : ∃ rr, rr = w2.heap.size := ⟨_, rfl⟩
 have hRS : RS (w2.alloc (.cells #[.pointer (some ⟨rb, 0, none⟩), .int .i64 0] 140)) rr rb bl (0, 0) a c :=
  ⟨hrr ▸ BlockIs.new w2 _ _, hRd.ext (ext_alloc w2 _) id (fun _ _ => id), Nat.zero_le _, by omega, fun g hg e => by
   have := halt g hg
   omega⟩
 have hT2 := hT2.ext (ext_alloc w2 (.cells #[.pointer (some ⟨rb, 0, none⟩), .int .i64 0] 140)) id
 have hP2 := hP2.pure (ext_alloc w2 (.cells #[.pointer (some ⟨rb, 0, none⟩), .int .i64 0] 140))
 have hzr : (w2.alloc (.cells #[.pointer (some ⟨rb, 0, none⟩), .int .i64 0] 140)).heap.size = w2.heap.size + 1 := World.size_alloc _ _
 rw [← hrr]
 rw [← hrr] at hzr hrb2 halt
 generalize w2.alloc (.cells #[.pointer (some ⟨rb, 0, none⟩), .int .i64 0] 140) = w3 at *
 have hTno : ¬ RdS rr rb w.heap.size := fun e => by rcases e with e | e <;> omega
 have hPno : ∀ i, i < w.heap.size → RdS rr rb i → False := fun i hi e => by rcases e with e | e <;> omega
 clear hrr hRd
 obtain ⟨v1, s1, hv1⟩ : ∃ v s, num1 (bitsOf true bl) (0,0) 32 = (v, s) := ⟨_, _, rfl⟩
 refine (num_any rr rb bl (0,0) a c 32 w3 hRS (by omega) hl).mono ?_
 intro e w4 hnr
 obtain ⟨rfl, hRSn, hEn⟩ := numRes_mk hnr hv1
 have hTn := hT2.ext hEn hTno
 have hPn := hP2.trans hEn hPno
 clear hRS hT2 hP2 hnr hEn
 have hRS := hRSn
 have hT2 := hTn
 have hP2 := hPn
 clear hRSn hTn hPn
 have HV1 := qh hv1
 clear hv1
 go_wp2_with fail
 obtain ⟨v2, s2, hv2⟩ : ∃ v s, num1 (bitsOf true bl) s1 32 = (v, s) := ⟨_, _, rfl⟩
 refine (num_any rr rb bl s1 a c 32 w4 hRS (by omega) hl).mono ?_
 intro e w5 hnr
 obtain ⟨rfl, hRSn, hEn⟩ := numRes_mk hnr hv2
 have hTn := hT2.ext hEn hTno
 have hPn := hP2.trans hEn hPno
 clear hRS hT2 hP2 hnr hEn
 have hRS := hRSn
 have hT2 := hTn
 have hP2 := hPn
 clear hRSn hTn hPn
 have HV2 := qh hv2
 clear hv2
 go_wp2_with fail
 obtain ⟨v3, s3, hv3⟩ : ∃ v s, num1 (bitsOf true bl) s2 32 = (v, s) := ⟨_, _, rfl⟩
 refine (num_any rr rb bl s2 a c 32 w5 hRS (by omega) hl).mono ?_
 intro e w6 hnr
 obtain ⟨rfl, hRSn, hEn⟩ := numRes_mk hnr hv3
 have hTn := hT2.ext hEn hTno
 have hPn := hP2.trans hEn hPno
 clear hRS hT2 hP2 hnr hEn
 have hRS := hRSn
 have hT2 := hTn
 have hP2 := hPn
 clear hRSn hTn hPn
 have HV3 := qh hv3
 clear hv3
 go_wp2_with fail
 have hrr6 := hRS.blk.lt
 have hrb6 := hRS.rd.blk.lt
 have hT6 := hT2.lt
 have hU2 := BlockIs.new w6 [.int .i64 v1, .int .i64 v2, .int .i64 v3, .slice none 0 0] 64
 have hRS := hRS.pure (ext_alloc w6 (.cells #[.int .i64 v1, .int .i64 v2, .int .i64 v3, .slice none 0 0] 64))
 have hT2 := hT2.ext (ext_alloc w6 (.cells #[.int .i64 v1, .int .i64 v2, .int .i64 v3, .slice none 0 0] 64)) id
 have hP2 := hP2.pure (ext_alloc w6 (.cells #[.int .i64 v1, .int .i64 v2, .int .i64 v3, .slice none 0 0] 64))
 have hz6 : (w6.alloc (.cells #[.int .i64 v1, .int .i64 v2, .int .i64 v3, .slice none 0 0] 64)).heap.size = w6.heap.size + 1 := World.size_alloc _ _
 obtain ⟨ub, hub⟩ : ∃ ub, ub = w6.heap.size := ⟨_, rfl⟩
 rw [← hub]
 rw [← hub] at hU2 hz6
 rw [← hub] at hrr6 hrb6 hT6
 clear hub
 generalize w6.alloc (.cells #[.int .i64 v1, .int .i64 v2, .int .i64 v3, .slice none 0 0] 64) = w7 at *
 have hUno : ¬ RdS rr rb ub := fun e => by rcases e with e | e <;> omega
 obtain ⟨v4, s4, hv4⟩ : ∃ v s, num1 (bitsOf true bl) s3 32 = (v, s) := ⟨_, _, rfl⟩
 refine (num_any rr rb bl s3 a c 32 w7 hRS (by omega) hl).mono ?_
 intro e w8 hnr
 obtain ⟨rfl, hRSn, hEn⟩ := numRes_mk hnr hv4
 have hTn := hT2.ext hEn hTno
 have hPn := hP2.trans hEn hPno
 have hUn := hU2.ext hEn hUno
 clear hRS hT2 hP2 hnr hEn hU2
 have hRS := hRSn
 have hT2 := hTn
 have hP2 := hPn
 have hU2 := hUn
 clear hRSn hTn hPn hUn
 have HV4 := qh hv4
 clear hv4
 go_wp2_with fail
 obtain ⟨v5, s5, hv5⟩ : ∃ v s, num1 (bitsOf true bl) s4 16 = (v, s) := ⟨_, _, rfl⟩
 refine (num_any rr rb bl s4 a c 16 w8 hRS (by omega) hl).mono ?_
 intro e w9 hnr
 obtain ⟨rfl, hRSn, hEn⟩ := numRes_mk hnr hv5
 have hTn := hT2.ext hEn hTno
 have hPn := hP2.trans hEn hPno
 have hUn := hU2.ext hEn hUno
 clear hRS hT2 hP2 hnr hEn hU2
 have hRS := hRSn
 have hT2 := hTn
 have hP2 := hPn
 have hU2 := hUn
 clear hRSn hTn hPn hUn
 have HV5 := qh hv5
 clear hv5
 go_wp2_with fail
 obtain ⟨v6, s6, hv6⟩ : ∃ v s, num1 (bitsOf true bl) s5 32 = (v, s) := ⟨_, _, rfl⟩
 refine (num_any rr rb bl s5 a c 32 w9 hRS (by omega) hl).mono ?_
 intro e w10 hnr
 obtain ⟨rfl, hRSn, hEn⟩ := numRes_mk hnr hv6
 have hTn := hT2.ext hEn hTno
 have hPn := hP2.trans hEn hPno
 have hUn := hU2.ext hEn hUno
 clear hRS hT2 hP2 hnr hEn hU2
 have hRS := hRSn
 have hT2 := hTn
 have hP2 := hPn
 have hU2 := hUn
 clear hRSn hTn hPn hUn
 have HV6 := qh hv6
 clear hv6
 go_wp2_with fail
 obtain ⟨v7, s7, hv7⟩ : ∃ v s, num1 (bitsOf true bl) s6 16 = (v, s) := ⟨_, _, rfl⟩
 refine (num_any rr rb bl s6 a c 16 w10 hRS (by omega) hl).mono ?_
 intro e w11 hnr
 obtain ⟨rfl, hRSn, hEn⟩ := numRes_mk hnr hv7
 have hTn := hT2.ext hEn hTno
 have hPn := hP2.trans hEn hPno
 have hUn := hU2.ext hEn hUno
 clear hRS hT2 hP2 hnr hEn hU2
 have hRS := hRSn
 have hT2 := hTn
 have hP2 := hPn
 have hU2 := hUn
 clear hRSn hTn hPn hUn
 have HV7 := qh hv7
 clear hv7
 have hubl := hU2.lt
 have d0 : w11.cell? ⟨ub, 0, none⟩ = some (.int .i64 v1) := hU2.cell 0
 have d1 : w11.cell? ⟨ub, 0 + 1, none⟩ = some (.int .i64 v2) := hU2.cell 1
 have d2 : w11.cell? ⟨ub, 0 + 2, none⟩ = some (.int .i64 v3) := hU2.cell 2
 have d3 : w11.cell? ⟨ub, 0 + 3, none⟩ = some (.slice none 0 0) := hU2.cell 3
 have g1 : w11.cell? ⟨rr, 0 + 1, none⟩ = some (.int .i64 s7.2) := hRS.blk.cell 1
 by_cases hlen : (bitsOf true bl).length < 192
 ·have he7 : s7.2 = 10 := head_short hlen HV1.out HV2.out HV3.out HV4.out HV5.out HV6.out HV7.out
  have HTo : Hid (DecTo (bitsOf true bl) (dErr 10)) := qh (Or.inl ⟨hlen, rfl⟩)
  rw [he7] at g1
  clear hlen
  go_wp2_with fail
  ·
   have t0 : w11.cell? ⟨w.heap.size, 0, none⟩ = some (.int .i64 0) := hT2.cell 0
   have t1 : w11.cell? ⟨w.heap.size, 0 + 1, none⟩ = some (.int .i64 0) := hT2.cell 1
   have t2 : w11.cell? ⟨w.heap.size, 0 + 2, none⟩ = some (.int .i64 0) := hT2.cell 2
   have t3 : w11.cell? ⟨w.heap.size, 0 + 3, none⟩ = some (.slice none 0 0) := hT2.cell 3
   have z0 : w11.frozen? ⟨w.heap.size, 0, none⟩ = false := hT2.free 0
   have z1 : w11.frozen? ⟨w.heap.size, 0 + 1, none⟩ = false := hT2.free 1
   have z2 : w11.frozen? ⟨w.heap.size, 0 + 2, none⟩ = false := hT2.free 2
   have z3 : w11.frozen? ⟨w.heap.size, 0 + 3, none⟩ = false := hT2.free 3
   have g1r : w11.drew.cell? ⟨rr, 0 + 1, none⟩ = some (.int .i64 10) := g1
   have cl1 := fun w' (hS : Ext (fun i => i = w.heap.size) w11.drew w') => hS.cell_some g1r (fun e => by have e' : rr = w.heap.size := e; omega)
   refine region_start (fun i => i = w.heap.size) (by kernel_rfl) ?_
   try simp only [Act.put, sA, sZ, sS]
   refine region_take 0 86 (v := ?v10) rfl rfl (by kernel_rfl) (by kernel_rfl) (by kernel_rfl) (fun _ _ _ h => h) (by rfl) (fun w' hS => ?h10) ?r10
   case h10 => go_simp; with_reducible rfl
   try simp only [Act.put, sA, sZ, sS]
   refine region_take 1 87 (v := ?v11) rfl rfl (by kernel_rfl) (by kernel_rfl) (by kernel_rfl) (fun _ _ _ h => h) (by rfl) (fun w' hS => ?h11) ?r11
   case h11 => go_simp; with_reducible rfl
   try simp only [Act.put, sA, sZ, sS]
   refine region_take 2 88 (v := ?v12) rfl rfl (by kernel_rfl) (by kernel_rfl) (by kernel_rfl) (fun _ _ _ h => h) (by rfl) (fun w' hS => ?h12) ?r12
   case h12 => go_simp; with_reducible rfl
   try simp only [Act.put, sA, sZ, sS]
   refine region_take 3 89 (v := ?v13) rfl rfl (by kernel_rfl) (by kernel_rfl) (by kernel_rfl) (fun _ _ _ h => h) (by rfl) (fun w' hS => ?h13) ?r13
   case h13 => go_simp; with_reducible rfl
   try simp only [Act.put, sA, sZ, sS]
   refine region_take 4 90 (v := ?v14) rfl rfl (by kernel_rfl) (by kernel_rfl) (by kernel_rfl) (fun _ _ _ h => h) (by rfl) (fun w' hS => ?h14) ?r14
   case h14 => go_simp; with_reducible rfl
   try simp only [Act.put, sA, sZ, sS]
   refine wpAnyH_ready (rs := [5]) (by kernel_rfl) (by simp) (AllReadyH.cons rfl (fun K hK => ?_) AllReadyH.nil)
   go_simp
   refine hK.out _ _ ((ext4a w11.drew w.heap.size : Ext _ w11.drew _)) (fun hHeld => ?_)
   clear hK K hHeld
   refine region_now ((ext4a w11.drew w.heap.size : Ext _ w11.drew _)) ?_
   try simp only [Act.put, sA, sZ, sS]
   refine region_take 6 3 (v := ?v16) rfl rfl (by kernel_rfl) (by kernel_rfl) (by kernel_rfl) (fun _ _ _ h => h) (by rfl) (fun w' hS => ?h16) ?r16
   case h16 => go_simp; with_reducible rfl
   try simp only [Act.put, sA, sZ, sS]
   refine region_take 7 4 (v := ?v17) rfl rfl (by kernel_rfl) (by kernel_rfl) (by kernel_rfl) (fun _ _ _ h => h) (by rfl) (fun w' hS => ?h17) ?r17
   case h17 => go_simp; with_reducible rfl
   try simp only [Act.put, sA, sZ, sS]
   refine wpAnyH_done (by kernel_rfl) ?_ _
   have hT9 := ((((hT2.set 0 (.int .i64 0)).set 1 (.int .i64 0)).set 2 (.int .i64 0)).set 3 (.slice none 0 0)).drew
   have hP9 : Pure w (((((w11.setCell ⟨w.heap.size, 0, none⟩ (.int .i64 0)).setCell ⟨w.heap.size, 1, none⟩ (.int .i64 0)).setCell ⟨w.heap.size, 2, none⟩ (.int .i64 0)).setCell ⟨w.heap.size, 3, none⟩ (.slice none 0 0)).drew) := hP2.drew.trans (ext4a w11.drew w.heap.size : Ext _ w11.drew _) (fun i hi e => by have e' : i = w.heap.size := e; omega)
   have hw12 : ∃ w12, w12 = (((((w11.setCell ⟨w.heap.size, 0, none⟩ (.int .i64 0)).setCell ⟨w.heap.size, 1, none⟩ (.int .i64 0)).setCell ⟨w.heap.size, 2, none⟩ (.int .i64 0)).setCell ⟨w.heap.size, 3, none⟩ (.slice none 0 0)).drew) := ⟨_, rfl⟩
   obtain ⟨w12, hw12⟩ := hw12
   rw [← hw12] at hT9 hP9
   rw [← hw12]
   clear hw12
   simp only [sZ, sS] at hT9
   have y0 : w12.cell? ⟨w.heap.size, 0, none⟩ = some (.int .i64 0) := hT9.cell 0
   have y1 : w12.cell? ⟨w.heap.size, 1, none⟩ = some (.int .i64 0) := hT9.cell 1
   have y2 : w12.cell? ⟨w.heap.size, 2, none⟩ = some (.int .i64 0) := hT9.cell 2
   have y3 : w12.cell? ⟨w.heap.size, 3, none⟩ = some (.slice none 0 0) := hT9.cell 3
   clear t0 t1 t2 t3 z0 z1 z2 z3 cl1 g1r
   go_wp2_with fail
   refine bodyPost_ret (v := .tuple #[.agg #[.int .i64 0, .int .i64 0, .int .i64 0, .slice none 0 0], .int .i64 0, .int .i64 10]) (by simp [results, Tryz.results46, go_sem, y0, y1, y2, y3]) rfl ?_
   exact ⟨dErr 10, none, 0, rfl, HTo.out, (by intro i u hu; simp [dErr] at hu), fun _ => rfl, Nat.le_refl _, hP9⟩
  ·
   have t0 : w11.cell? ⟨w.heap.size, 0, none⟩ = some (.int .i64 0) := hT2.cell 0
   have t1 : w11.cell? ⟨w.heap.size, 0 + 1, none⟩ = some (.int .i64 0) := hT2.cell 1
   have t2 : w11.cell? ⟨w.heap.size, 0 + 2, none⟩ = some (.int .i64 0) := hT2.cell 2
   have t3 : w11.cell? ⟨w.heap.size, 0 + 3, none⟩ = some (.slice none 0 0) := hT2.cell 3
   have z0 : w11.frozen? ⟨w.heap.size, 0, none⟩ = false := hT2.free 0
   have z1 : w11.frozen? ⟨w.heap.size, 0 + 1, none⟩ = false := hT2.free 1
   have z2 : w11.frozen? ⟨w.heap.size, 0 + 2, none⟩ = false := hT2.free 2
   have z3 : w11.frozen? ⟨w.heap.size, 0 + 3, none⟩ = false := hT2.free 3
   have g1r : w11.drew.cell? ⟨rr, 0 + 1, none⟩ = some (.int .i64 10) := g1
   have cl1 := fun w' (hS : Ext (fun i => i = w.heap.size) w11.drew w') => hS.cell_some g1r (fun e => by have e' : rr = w.heap.size := e; omega)
   refine region_start (fun i => i = w.heap.size) (by kernel_rfl) ?_
   try simp only [Act.put, sA, sZ, sS]
   refine region_take 0 86 (v := ?v20) rfl rfl (by kernel_rfl) (by kernel_rfl) (by kernel_rfl) (fun _ _ _ h => h) (by rfl) (fun w' hS => ?h20) ?r20
   case h20 => go_simp; with_reducible rfl
   try simp only [Act.put, sA, sZ, sS]
   refine region_take 1 87 (v := ?v21) rfl rfl (by kernel_rfl) (by kernel_rfl) (by kernel_rfl) (fun _ _ _ h => h) (by rfl) (fun w' hS => ?h21) ?r21
   case h21 => go_simp; with_reducible rfl
   try simp only [Act.put, sA, sZ, sS]
   refine region_take 2 88 (v := ?v22) rfl rfl (by kernel_rfl) (by kernel_rfl) (by kernel_rfl) (fun _ _ _ h => h) (by rfl) (fun w' hS => ?h22) ?r22
   case h22 => go_simp; with_reducible rfl
   try simp only [Act.put, sA, sZ, sS]
   refine region_take 3 89 (v := ?v23) rfl rfl (by kernel_rfl) (by kernel_rfl) (by kernel_rfl) (fun _ _ _ h => h) (by rfl) (fun w' hS => ?h23) ?r23
   case h23 => go_simp; with_reducible rfl
   try simp only [Act.put, sA, sZ, sS]
   refine region_take 4 90 (v := ?v24) rfl rfl (by kernel_rfl) (by kernel_rfl) (by kernel_rfl) (fun _ _ _ h => h) (by rfl) (fun w' hS => ?h24) ?r24
   case h24 => go_simp; with_reducible rfl
   try simp only [Act.put, sA, sZ, sS]
   refine wpAnyH_ready (rs := [5]) (by kernel_rfl) (by simp) (AllReadyH.cons rfl (fun K hK => ?_) AllReadyH.nil)
   go_simp
   refine hK.out _ _ ((ext4a w11.drew w.heap.size : Ext _ w11.drew _)) (fun hHeld => ?_)
   clear hK K hHeld
   refine region_now ((ext4a w11.drew w.heap.size : Ext _ w11.drew _)) ?_
   try simp only [Act.put, sA, sZ, sS]
   refine region_take 6 3 (v := ?v26) rfl rfl (by kernel_rfl) (by kernel_rfl) (by kernel_rfl) (fun _ _ _ h => h) (by rfl) (fun w' hS => ?h26) ?r26
   case h26 => go_simp; with_reducible rfl
   try simp only [Act.put, sA, sZ, sS]
   refine region_take 7 4 (v := ?v27) rfl rfl (by kernel_rfl) (by kernel_rfl) (by kernel_rfl) (fun _ _ _ h => h) (by rfl) (fun w' hS => ?h27) ?r27
   case h27 => go_simp; with_reducible rfl
   try simp only [Act.put, sA, sZ, sS]
   refine wpAnyH_done (by kernel_rfl) ?_ _
   have hT9 := ((((hT2.set 0 (.int .i64 0)).set 1 (.int .i64 0)).set 2 (.int .i64 0)).set 3 (.slice none 0 0)).drew
   have hP9 : Pure w (((((w11.setCell ⟨w.heap.size, 0, none⟩ (.int .i64 0)).setCell ⟨w.heap.size, 1, none⟩ (.int .i64 0)).setCell ⟨w.heap.size, 2, none⟩ (.int .i64 0)).setCell ⟨w.heap.size, 3, none⟩ (.slice none 0 0)).drew) := hP2.drew.trans (ext4a w11.drew w.heap.size : Ext _ w11.drew _) (fun i hi e => by have e' : i = w.heap.size := e; omega)
   have hw12 : ∃ w12, w12 = (((((w11.setCell ⟨w.heap.size, 0, none⟩ (.int .i64 0)).setCell ⟨w.heap.size, 1, none⟩ (.int .i64 0)).setCell ⟨w.heap.size, 2, none⟩ (.int .i64 0)).setCell ⟨w.heap.size, 3, none⟩ (.slice none 0 0)).drew) := ⟨_, rfl⟩
   obtain ⟨w12, hw12⟩ := hw12
   rw [← hw12] at hT9 hP9
   rw [← hw12]
   clear hw12
   simp only [sZ, sS] at hT9
   have y0 : w12.cell? ⟨w.heap.size, 0, none⟩ = some (.int .i64 0) := hT9.cell 0
   have y1 : w12.cell? ⟨w.heap.size, 1, none⟩ = some (.int .i64 0) := hT9.cell 1
   have y2 : w12.cell? ⟨w.heap.size, 2, none⟩ = some (.int .i64 0) := hT9.cell 2
   have y3 : w12.cell? ⟨w.heap.size, 3, none⟩ = some (.slice none 0 0) := hT9.cell 3
   clear t0 t1 t2 t3 z0 z1 z2 z3 cl1 g1r
   go_wp2_with fail
   refine bodyPost_ret (v := .tuple #[.agg #[.int .i64 0, .int .i64 0, .int .i64 0, .slice none 0 0], .int .i64 0, .int .i64 10]) (by simp [results, Tryz.results46, go_sem, y0, y1, y2, y3]) rfl ?_
   exact ⟨dErr 10, none, 0, rfl, HTo.out, (by intro i u hu; simp [dErr] at hu), fun _ => rfl, Nat.le_refl _, hP9⟩
  ·
   have t0 : w11.cell? ⟨w.heap.size, 0, none⟩ = some (.int .i64 0) := hT2.cell 0
   have t1 : w11.cell? ⟨w.heap.size, 0 + 1, none⟩ = some (.int .i64 0) := hT2.cell 1
   have t2 : w11.cell? ⟨w.heap.size, 0 + 2, none⟩ = some (.int .i64 0) := hT2.cell 2
   have t3 : w11.cell? ⟨w.heap.size, 0 + 3, none⟩ = some (.slice none 0 0) := hT2.cell 3
   have z0 : w11.frozen? ⟨w.heap.size, 0, none⟩ = false := hT2.free 0
   have z1 : w11.frozen? ⟨w.heap.size, 0 + 1, none⟩ = false := hT2.free 1
   have z2 : w11.frozen? ⟨w.heap.size, 0 + 2, none⟩ = false := hT2.free 2
   have z3 : w11.frozen? ⟨w.heap.size, 0 + 3, none⟩ = false := hT2.free 3
   have g1r : w11.drew.cell? ⟨rr, 0 + 1, none⟩ = some (.int .i64 10) := g1
   have cl1 := fun w' (hS : Ext (fun i => i = w.heap.size) w11.drew w') => hS.cell_some g1r (fun e => by have e' : rr = w.heap.size := e; omega)
   refine region_start (fun i => i = w.heap.size) (by kernel_rfl) ?_
   try simp only [Act.put, sA, sZ, sS]
   refine region_take 0 86 (v := ?v30) rfl rfl (by kernel_rfl) (by kernel_rfl) (by kernel_rfl) (fun _ _ _ h => h) (by rfl) (fun w' hS => ?h30) ?r30
   case h30 => go_simp; with_reducible rfl
   try simp only [Act.put, sA, sZ, sS]
   refine region_take 1 87 (v := ?v31) rfl rfl (by kernel_rfl) (by kernel_rfl) (by kernel_rfl) (fun _ _ _ h => h) (by rfl) (fun w' hS => ?h31) ?r31
   case h31 => go_simp; with_reducible rfl
   try simp only [Act.put, sA, sZ, sS]
   refine region_take 2 88 (v := ?v32) rfl rfl (by kernel_rfl) (by kernel_rfl) (by kernel_rfl) (fun _ _ _ h => h) (by rfl) (fun w' hS => ?h32) ?r32
   case h32 => go_simp; with_reducible rfl
   try simp only [Act.put, sA, sZ, sS]
   refine region_take 3 89 (v := ?v33) rfl rfl (by kernel_rfl) (by kernel_rfl) (by kernel_rfl) (fun _ _ _ h => h) (by rfl) (fun w' hS => ?h33) ?r33
   case h33 => go_simp; with_reducible rfl
   try simp only [Act.put, sA, sZ, sS]
   refine region_take 4 90 (v := ?v34) rfl rfl (by kernel_rfl) (by kernel_rfl) (by kernel_rfl) (fun _ _ _ h => h) (by rfl) (fun w' hS => ?h34) ?r34
   case h34 => go_simp; with_reducible rfl
   try simp only [Act.put, sA, sZ, sS]
   refine wpAnyH_ready (rs := [5]) (by kernel_rfl) (by simp) (AllReadyH.cons rfl (fun K hK => ?_) AllReadyH.nil)
   go_simp
   refine hK.out _ _ ((ext4a w11.drew w.heap.size : Ext _ w11.drew _)) (fun hHeld => ?_)
   clear hK K hHeld
   refine region_now ((ext4a w11.drew w.heap.size : Ext _ w11.drew _)) ?_
   try simp only [Act.put, sA, sZ, sS]
   refine region_take 6 3 (v := ?v36) rfl rfl (by kernel_rfl) (by kernel_rfl) (by kernel_rfl) (fun _ _ _ h => h) (by rfl) (fun w' hS => ?h36) ?r36
   case h36 => go_simp; with_reducible rfl
   try simp only [Act.put, sA, sZ, sS]
   refine region_take 7 4 (v := ?v37) rfl rfl (by kernel_rfl) (by kernel_rfl) (by kernel_rfl) (fun _ _ _ h => h) (by rfl) (fun w' hS => ?h37) ?r37
   case h37 => go_simp; with_reducible rfl
   try simp only [Act.put, sA, sZ, sS]
   refine wpAnyH_done (by kernel_rfl) ?_ _
   have hT9 := ((((hT2.set 0 (.int .i64 0)).set 1 (.int .i64 0)).set 2 (.int .i64 0)).set 3 (.slice none 0 0)).drew
   have hP9 : Pure w (((((w11.setCell ⟨w.heap.size, 0, none⟩ (.int .i64 0)).setCell ⟨w.heap.size, 1, none⟩ (.int .i64 0)).setCell ⟨w.heap.size, 2, none⟩ (.int .i64 0)).setCell ⟨w.heap.size, 3, none⟩ (.slice none 0 0)).drew) := hP2.drew.trans (ext4a w11.drew w.heap.size : Ext _ w11.drew _) (fun i hi e => by have e' : i = w.heap.size := e; omega)
   have hw12 : ∃ w12, w12 = (((((w11.setCell ⟨w.heap.size, 0, none⟩ (.int .i64 0)).setCell ⟨w.heap.size, 1, none⟩ (.int .i64 0)).setCell ⟨w.heap.size, 2, none⟩ (.int .i64 0)).setCell ⟨w.heap.size, 3, none⟩ (.slice none 0 0)).drew) := ⟨_, rfl⟩
   obtain ⟨w12, hw12⟩ := hw12
   rw [← hw12] at hT9 hP9
   rw [← hw12]
   clear hw12
   simp only [sZ, sS] at hT9
   have y0 : w12.cell? ⟨w.heap.size, 0, none⟩ = some (.int .i64 0) := hT9.cell 0
   have y1 : w12.cell? ⟨w.heap.size, 1, none⟩ = some (.int .i64 0) := hT9.cell 1
   have y2 : w12.cell? ⟨w.heap.size, 2, none⟩ = some (.int .i64 0) := hT9.cell 2
   have y3 : w12.cell? ⟨w.heap.size, 3, none⟩ = some (.slice none 0 0) := hT9.cell 3
   clear t0 t1 t2 t3 z0 z1 z2 z3 cl1 g1r
   go_wp2_with fail
   refine bodyPost_ret (v := .tuple #[.agg #[.int .i64 0, .int .i64 0, .int .i64 0, .slice none 0 0], .int .i64 0, .int .i64 10]) (by simp [results, Tryz.results46, go_sem, y0, y1, y2, y3]) rfl ?_
   exact ⟨dErr 10, none, 0, rfl, HTo.out, (by intro i u hu; simp [dErr] at hu), fun _ => rfl, Nat.le_refl _, hP9⟩
  ·
   have t0 : w11.cell? ⟨w.heap.size, 0, none⟩ = some (.int .i64 0) := hT2.cell 0
   have t1 : w11.cell? ⟨w.heap.size, 0 + 1, none⟩ = some (.int .i64 0) := hT2.cell 1
   have t2 : w11.cell? ⟨w.heap.size, 0 + 2, none⟩ = some (.int .i64 0) := hT2.cell 2
   have t3 : w11.cell? ⟨w.heap.size, 0 + 3, none⟩ = some (.slice none 0 0) := hT2.cell 3
   have z0 : w11.frozen? ⟨w.heap.size, 0, none⟩ = false := hT2.free 0
   have z1 : w11.frozen? ⟨w.heap.size, 0 + 1, none⟩ = false := hT2.free 1
   have z2 : w11.frozen? ⟨w.heap.size, 0 + 2, none⟩ = false := hT2.free 2
   have z3 : w11.frozen? ⟨w.heap.size, 0 + 3, none⟩ = false := hT2.free 3
   have g1r : w11.drew.cell? ⟨rr, 0 + 1, none⟩ = some (.int .i64 10) := g1
   have cl1 := fun w' (hS : Ext (fun i => i = w.heap.size) w11.drew w') => hS.cell_some g1r (fun e => by have e' : rr = w.heap.size := e; omega)
   refine region_start (fun i => i = w.heap.size) (by kernel_rfl) ?_
   try simp only [Act.put, sA, sZ, sS]
   refine region_take 0 86 (v := ?v40) rfl rfl (by kernel_rfl) (by kernel_rfl) (by kernel_rfl) (fun _ _ _ h => h) (by rfl) (fun w' hS => ?h40) ?r40
   case h40 => go_simp; with_reducible rfl
   try simp only [Act.put, sA, sZ, sS]
   refine region_take 1 87 (v := ?v41) rfl rfl (by kernel_rfl) (by kernel_rfl) (by kernel_rfl) (fun _ _ _ h => h) (by rfl) (fun w' hS => ?h41) ?r41
   case h41 => go_simp; with_reducible rfl
   try simp only [Act.put, sA, sZ, sS]
   refine region_take 2 88 (v := ?v42) rfl rfl (by kernel_rfl) (by kernel_rfl) (by kernel_rfl) (fun _ _ _ h => h) (by rfl) (fun w' hS => ?h42) ?r42
   case h42 => go_simp; with_reducible rfl
   try simp only [Act.put, sA, sZ, sS]
   refine region_take 3 89 (v := ?v43) rfl rfl (by kernel_rfl) (by kernel_rfl) (by kernel_rfl) (fun _ _ _ h => h) (by rfl) (fun w' hS => ?h43) ?r43
   case h43 => go_simp; with_reducible rfl
   try simp only [Act.put, sA, sZ, sS]
   refine region_take 4 90 (v := ?v44) rfl rfl (by kernel_rfl) (by kernel_rfl) (by kernel_rfl) (fun _ _ _ h => h) (by rfl) (fun w' hS => ?h44) ?r44
   case h44 => go_simp; with_reducible rfl
   try simp only [Act.put, sA, sZ, sS]
   refine wpAnyH_ready (rs := [5]) (by kernel_rfl) (by simp) (AllReadyH.cons rfl (fun K hK => ?_) AllReadyH.nil)
   go_simp
   refine hK.out _ _ ((ext4a w11.drew w.heap.size : Ext _ w11.drew _)) (fun hHeld => ?_)
   clear hK K hHeld
   refine region_now ((ext4a w11.drew w.heap.size : Ext _ w11.drew _)) ?_
   try simp only [Act.put, sA, sZ, sS]
   refine region_take 6 3 (v := ?v46) rfl rfl (by kernel_rfl) (by kernel_rfl) (by kernel_rfl) (fun _ _ _ h => h) (by rfl) (fun w' hS => ?h46) ?r46
   case h46 => go_simp; with_reducible rfl
   try simp only [Act.put, sA, sZ, sS]
   refine region_take 7 4 (v := ?v47) rfl rfl (by kernel_rfl) (by kernel_rfl) (by kernel_rfl) (fun _ _ _ h => h) (by rfl) (fun w' hS => ?h47) ?r47
   case h47 => go_simp; with_reducible rfl
   try simp only [Act.put, sA, sZ, sS]
   refine wpAnyH_done (by kernel_rfl) ?_ _
   have hT9 := ((((hT2.set 0 (.int .i64 0)).set 1 (.int .i64 0)).set 2 (.int .i64 0)).set 3 (.slice none 0 0)).drew
   have hP9 : Pure w (((((w11.setCell ⟨w.heap.size, 0, none⟩ (.int .i64 0)).setCell ⟨w.heap.size, 1, none⟩ (.int .i64 0)).setCell ⟨w.heap.size, 2, none⟩ (.int .i64 0)).setCell ⟨w.heap.size, 3, none⟩ (.slice none 0 0)).drew) := hP2.drew.trans (ext4a w11.drew w.heap.size : Ext _ w11.drew _) (fun i hi e => by have e' : i = w.heap.size := e; omega)
   have hw12 : ∃ w12, w12 = (((((w11.setCell ⟨w.heap.size, 0, none⟩ (.int .i64 0)).setCell ⟨w.heap.size, 1, none⟩ (.int .i64 0)).setCell ⟨w.heap.size, 2, none⟩ (.int .i64 0)).setCell ⟨w.heap.size, 3, none⟩ (.slice none 0 0)).drew) := ⟨_, rfl⟩
   obtain ⟨w12, hw12⟩ := hw12
   rw [← hw12] at hT9 hP9
   rw [← hw12]
   clear hw12
   simp only [sZ, sS] at hT9
   have y0 : w12.cell? ⟨w.heap.size, 0, none⟩ = some (.int .i64 0) := hT9.cell 0
   have y1 : w12.cell? ⟨w.heap.size, 1, none⟩ = some (.int .i64 0) := hT9.cell 1
   have y2 : w12.cell? ⟨w.heap.size, 2, none⟩ = some (.int .i64 0) := hT9.cell 2
   have y3 : w12.cell? ⟨w.heap.size, 3, none⟩ = some (.slice none 0 0) := hT9.cell 3
   clear t0 t1 t2 t3 z0 z1 z2 z3 cl1 g1r
   go_wp2_with fail
   refine bodyPost_ret (v := .tuple #[.agg #[.int .i64 0, .int .i64 0, .int .i64 0, .slice none 0 0], .int .i64 0, .int .i64 10]) (by simp [results, Tryz.results46, go_sem, y0, y1, y2, y3]) rfl ?_
   exact ⟨dErr 10, none, 0, rfl, HTo.out, (by intro i u hu; simp [dErr] at hu), fun _ => rfl, Nat.le_refl _, hP9⟩
  ·
   have t0 : w11.cell? ⟨w.heap.size, 0, none⟩ = some (.int .i64 0) := hT2.cell 0
   have t1 : w11.cell? ⟨w.heap.size, 0 + 1, none⟩ = some (.int .i64 0) := hT2.cell 1
   have t2 : w11.cell? ⟨w.heap.size, 0 + 2, none⟩ = some (.int .i64 0) := hT2.cell 2
   have t3 : w11.cell? ⟨w.heap.size, 0 + 3, none⟩ = some (.slice none 0 0) := hT2.cell 3
   have z0 : w11.frozen? ⟨w.heap.size, 0, none⟩ = false := hT2.free 0
   have z1 : w11.frozen? ⟨w.heap.size, 0 + 1, none⟩ = false := hT2.free 1
   have z2 : w11.frozen? ⟨w.heap.size, 0 + 2, none⟩ = false := hT2.free 2
   have z3 : w11.frozen? ⟨w.heap.size, 0 + 3, none⟩ = false := hT2.free 3
   have g1r : w11.drew.cell? ⟨rr, 0 + 1, none⟩ = some (.int .i64 10) := g1
   have cl1 := fun w' (hS : Ext (fun i => i = w.heap.size) w11.drew w') => hS.cell_some g1r (fun e => by have e' : rr = w.heap.size := e; omega)
   refine region_start (fun i => i = w.heap.size) (by kernel_rfl) ?_
   try simp only [Act.put, sA, sZ, sS]
   refine region_take 0 86 (v := ?v50) rfl rfl (by kernel_rfl) (by kernel_rfl) (by kernel_rfl) (fun _ _ _ h => h) (by rfl) (fun w' hS => ?h50) ?r50
   case h50 => go_simp; with_reducible rfl
   try simp only [Act.put, sA, sZ, sS]
   refine region_take 1 87 (v := ?v51) rfl rfl (by kernel_rfl) (by kernel_rfl) (by kernel_rfl) (fun _ _ _ h => h) (by rfl) (fun w' hS => ?h51) ?r51
   case h51 => go_simp; with_reducible rfl
   try simp only [Act.put, sA, sZ, sS]
   refine region_take 2 88 (v := ?v52) rfl rfl (by kernel_rfl) (by kernel_rfl) (by kernel_rfl) (fun _ _ _ h => h) (by rfl) (fun w' hS => ?h52) ?r52
   case h52 => go_simp; with_reducible rfl
   try simp only [Act.put, sA, sZ, sS]
   refine region_take 3 89 (v := ?v53) rfl rfl (by kernel_rfl) (by kernel_rfl) (by kernel_rfl) (fun _ _ _ h => h) (by rfl) (fun w' hS => ?h53) ?r53
   case h53 => go_simp; with_reducible rfl
   try simp only [Act.put, sA, sZ, sS]
   refine region_take 4 90 (v := ?v54) rfl rfl (by kernel_rfl) (by kernel_rfl) (by kernel_rfl) (fun _ _ _ h => h) (by rfl) (fun w' hS => ?h54) ?r54
   case h54 => go_simp; with_reducible rfl
   try simp only [Act.put, sA, sZ, sS]
   refine wpAnyH_ready (rs := [5]) (by kernel_rfl) (by simp) (AllReadyH.cons rfl (fun K hK => ?_) AllReadyH.nil)
   go_simp
   refine hK.out _ _ ((ext4a w11.drew w.heap.size : Ext _ w11.drew _)) (fun hHeld => ?_)
   clear hK K hHeld
   refine region_now ((ext4a w11.drew w.heap.size : Ext _ w11.drew _)) ?_
   try simp only [Act.put, sA, sZ, sS]
   refine region_take 6 3 (v := ?v56) rfl rfl (by kernel_rfl) (by kernel_rfl) (by kernel_rfl) (fun _ _ _ h => h) (by rfl) (fun w' hS => ?h56) ?r56
   case h56 => go_simp; with_reducible rfl
   try simp only [Act.put, sA, sZ, sS]
   refine region_take 7 4 (v := ?v57) rfl rfl (by kernel_rfl) (by kernel_rfl) (by kernel_rfl) (fun _ _ _ h => h) (by rfl) (fun w' hS => ?h57) ?r57
   case h57 => go_simp; with_reducible rfl
   try simp only [Act.put, sA, sZ, sS]
   refine wpAnyH_done (by kernel_rfl) ?_ _
   have hT9 := ((((hT2.set 0 (.int .i64 0)).set 1 (.int .i64 0)).set 2 (.int .i64 0)).set 3 (.slice none 0 0)).drew
   have hP9 : Pure w (((((w11.setCell ⟨w.heap.size, 0, none⟩ (.int .i64 0)).setCell ⟨w.heap.size, 1, none⟩ (.int .i64 0)).setCell ⟨w.heap.size, 2, none⟩ (.int .i64 0)).setCell ⟨w.heap.size, 3, none⟩ (.slice none 0 0)).drew) := hP2.drew.trans (ext4a w11.drew w.heap.size : Ext _ w11.drew _) (fun i hi e => by have e' : i = w.heap.size := e; omega)
   have hw12 : ∃ w12, w12 = (((((w11.setCell ⟨w.heap.size, 0, none⟩ (.int .i64 0)).setCell ⟨w.heap.size, 1, none⟩ (.int .i64 0)).setCell ⟨w.heap.size, 2, none⟩ (.int .i64 0)).setCell ⟨w.heap.size, 3, none⟩ (.slice none 0 0)).drew) := ⟨_, rfl⟩
   obtain ⟨w12, hw12⟩ := hw12
   rw [← hw12] at hT9 hP9
   rw [← hw12]
   clear hw12
   simp only [sZ, sS] at hT9
   have y0 : w12.cell? ⟨w.heap.size, 0, none⟩ = some (.int .i64 0) := hT9.cell 0
   have y1 : w12.cell? ⟨w.heap.size, 1, none⟩ = some (.int .i64 0) := hT9.cell 1
   have y2 : w12.cell? ⟨w.heap.size, 2, none⟩ = some (.int .i64 0) := hT9.cell 2
   have y3 : w12.cell? ⟨w.heap.size, 3, none⟩ = some (.slice none 0 0) := hT9.cell 3
   clear t0 t1 t2 t3 z0 z1 z2 z3 cl1 g1r
   go_wp2_with fail
   refine bodyPost_ret (v := .tuple #[.agg #[.int .i64 0, .int .i64 0, .int .i64 0, .slice none 0 0], .int .i64 0, .int .i64 10]) (by simp [results, Tryz.results46, go_sem, y0, y1, y2, y3]) rfl ?_
   exact ⟨dErr 10, none, 0, rfl, HTo.out, (by intro i u hu; simp [dErr] at hu), fun _ => rfl, Nat.le_refl _, hP9⟩
  ·
   have t0 : w11.cell? ⟨w.heap.size, 0, none⟩ = some (.int .i64 0) := hT2.cell 0
   have t1 : w11.cell? ⟨w.heap.size, 0 + 1, none⟩ = some (.int .i64 0) := hT2.cell 1
   have t2 : w11.cell? ⟨w.heap.size, 0 + 2, none⟩ = some (.int .i64 0) := hT2.cell 2
   have t3 : w11.cell? ⟨w.heap.size, 0 + 3, none⟩ = some (.slice none 0 0) := hT2.cell 3
   have z0 : w11.frozen? ⟨w.heap.size, 0, none⟩ = false := hT2.free 0
   have z1 : w11.frozen? ⟨w.heap.size, 0 + 1, none⟩ = false := hT2.free 1
   have z2 : w11.frozen? ⟨w.heap.size, 0 + 2, none⟩ = false := hT2.free 2
   have z3 : w11.frozen? ⟨w.heap.size, 0 + 3, none⟩ = false := hT2.free 3
   have g1r : w11.drew.cell? ⟨rr, 0 + 1, none⟩ = some (.int .i64 10) := g1
   have cl1 := fun w' (hS : Ext (fun i => i = w.heap.size) w11.drew w') => hS.cell_some g1r (fun e => by have e' : rr = w.heap.size := e; omega)
   refine region_start (fun i => i = w.heap.size) (by kernel_rfl) ?_
   try simp only [Act.put, sA, sZ, sS]
   refine region_take 0 86 (v := ?v60) rfl rfl (by kernel_rfl) (by kernel_rfl) (by kernel_rfl) (fun _ _ _ h => h) (by rfl) (fun w' hS => ?h60) ?r60
   case h60 => go_simp; with_reducible rfl
   try simp only [Act.put, sA, sZ, sS]
   refine region_take 1 87 (v := ?v61) rfl rfl (by kernel_rfl) (by kernel_rfl) (by kernel_rfl) (fun _ _ _ h => h) (by rfl) (fun w' hS => ?h61) ?r61
   case h61 => go_simp; with_reducible rfl
   try simp only [Act.put, sA, sZ, sS]
   refine region_take 2 88 (v := ?v62) rfl rfl (by kernel_rfl) (by kernel_rfl) (by kernel_rfl) (fun _ _ _ h => h) (by rfl) (fun w' hS => ?h62) ?r62
   case h62 => go_simp; with_reducible rfl
   try simp only [Act.put, sA, sZ, sS]
   refine region_take 3 89 (v := ?v63) rfl rfl (by kernel_rfl) (by kernel_rfl) (by kernel_rfl) (fun _ _ _ h => h) (by rfl) (fun w' hS => ?h63) ?r63
   case h63 => go_simp; with_reducible rfl
   try simp only [Act.put, sA, sZ, sS]
   refine region_take 4 90 (v := ?v64) rfl rfl (by kernel_rfl) (by kernel_rfl) (by kernel_rfl) (fun _ _ _ h => h) (by rfl) (fun w' hS => ?h64) ?r64
   case h64 => go_simp; with_reducible rfl
   try simp only [Act.put, sA, sZ, sS]
   refine wpAnyH_ready (rs := [5]) (by kernel_rfl) (by simp) (AllReadyH.cons rfl (fun K hK => ?_) AllReadyH.nil)
   go_simp
   refine hK.out _ _ ((ext4a w11.drew w.heap.size : Ext _ w11.drew _)) (fun hHeld => ?_)
   clear hK K hHeld
   refine region_now ((ext4a w11.drew w.heap.size : Ext _ w11.drew _)) ?_
   try simp only [Act.put, sA, sZ, sS]
   refine region_take 6 3 (v := ?v66) rfl rfl (by kernel_rfl) (by kernel_rfl) (by kernel_rfl) (fun _ _ _ h => h) (by rfl) (fun w' hS => ?h66) ?r66
   case h66 => go_simp; with_reducible rfl
   try simp only [Act.put, sA, sZ, sS]
   refine region_take 7 4 (v := ?v67) rfl rfl (by kernel_rfl) (by kernel_rfl) (by kernel_rfl) (fun _ _ _ h => h) (by rfl) (fun w' hS => ?h67) ?r67
   case h67 => go_simp; with_reducible rfl
   try simp only [Act.put, sA, sZ, sS]
   refine wpAnyH_done (by kernel_rfl) ?_ _
   have hT9 := ((((hT2.set 0 (.int .i64 0)).set 1 (.int .i64 0)).set 2 (.int .i64 0)).set 3 (.slice none 0 0)).drew
   have hP9 : Pure w (((((w11.setCell ⟨w.heap.size, 0, none⟩ (.int .i64 0)).setCell ⟨w.heap.size, 1, none⟩ (.int .i64 0)).setCell ⟨w.heap.size, 2, none⟩ (.int .i64 0)).setCell ⟨w.heap.size, 3, none⟩ (.slice none 0 0)).drew) := hP2.drew.trans (ext4a w11.drew w.heap.size : Ext _ w11.drew _) (fun i hi e => by have e' : i = w.heap.size := e; omega)
   have hw12 : ∃ w12, w12 = (((((w11.setCell ⟨w.heap.size, 0, none⟩ (.int .i64 0)).setCell ⟨w.heap.size, 1, none⟩ (.int .i64 0)).setCell ⟨w.heap.size, 2, none⟩ (.int .i64 0)).setCell ⟨w.heap.size, 3, none⟩ (.slice none 0 0)).drew) := ⟨_, rfl⟩
   obtain ⟨w12, hw12⟩ := hw12
   rw [← hw12] at hT9 hP9
   rw [← hw12]
   clear hw12
   simp only [sZ, sS] at hT9
   have y0 : w12.cell? ⟨w.heap.size, 0, none⟩ = some (.int .i64 0) := hT9.cell 0
   have y1 : w12.cell? ⟨w.heap.size, 1, none⟩ = some (.int .i64 0) := hT9.cell 1
   have y2 : w12.cell? ⟨w.heap.size, 2, none⟩ = some (.int .i64 0) := hT9.cell 2
   have y3 : w12.cell? ⟨w.heap.size, 3, none⟩ = some (.slice none 0 0) := hT9.cell 3
   clear t0 t1 t2 t3 z0 z1 z2 z3 cl1 g1r
   go_wp2_with fail
   refine bodyPost_ret (v := .tuple #[.agg #[.int .i64 0, .int .i64 0, .int .i64 0, .slice none 0 0], .int .i64 0, .int .i64 10]) (by simp [results, Tryz.results46, go_sem, y0, y1, y2, y3]) rfl ?_
   exact ⟨dErr 10, none, 0, rfl, HTo.out, (by intro i u hu; simp [dErr] at hu), fun _ => rfl, Nat.le_refl _, hP9⟩
 ·obtain ⟨q1, q2, q3, q4, q5, q6, q7, q8⟩ := head_yes (by omega) HV1.out HV2.out HV3.out HV4.out HV5.out HV6.out HV7.out
  have HLen := qh (show 192 ≤ (bitsOf true bl).length by omega)
  have HQ := qh (And.intro q1 (And.intro q2 (And.intro q3 (And.intro q4 (And.intro q5 (And.intro q6 q7))))))
  rw [q8] at hRS g1
  clear hlen q1 q2 q3 q4 q5 q6 q7 q8 HV1 HV2 HV3 HV4 HV5 HV6 HV7
  have f1 : w11.frozen? ⟨rr, 0 + 1, none⟩ = false := hRS.blk.free 1
  by_cases c1 : ((v1 : Nat) : Int) ≤ 4096
  ·by_cases c2 : ((v2 : Nat) : Int) ≤ 2147483647
   ·by_cases c3 : ((v4 : Nat) : Int) ≤ 4096
    ·by_cases c4 : ((v3 : Nat) : Int) ≤ v4
     ·by_cases c5 : ((v5 : Nat) : Int) ≤ 32
      ·by_cases c6 : ((v7 : Nat) : Int) ≤ 32
       ·
        have HOK : Hid (HeadOk (bitsOf true bl)) := qh (by obtain ⟨q1, q2, q3, q4, q5, q6, q7⟩ := HQ.out; exact ⟨by omega, by omega, by omega, by omega, by omega, by omega⟩)
        have hv6 : v6 < 4294967296 := by rw [HQ.out.2.2.2.2.2.1]; exact numAt_lt32 _ _ _ (by omega)
        go_wp2_with fail
        refine (rows_any rr rb bl 192 v4 v6 v7 v5 (by omega) (by omega) hv6 (by omega) a c w11 hRS hl (fun g hg => by have := halt g hg; omega)).mono ?_
        rintro e w12 ⟨s', out, oa, oc, rfl, hRT, hRS2, hown, hE⟩
        have HRT : Hid (RowsTo (bitsOf true bl) 192 (hN (bitsOf true bl)) (hL (bitsOf true bl)) (hW (bitsOf true bl)) (hG (bitsOf true bl)) s' out) := qh (by obtain ⟨q1, q2, q3, q4, q5, q6, q7⟩ := HQ.out; rw [← q4, ← q6, ← q7, ← q5]; exact hRT)
        have hT3 := hT2.ext hE hTno
        have hP3 := hP2.trans hE hPno
        have hU3 := hU2.ext hE hUno
        have hsz := hE.size
        have hOF : (∀ g, oa = some g → w11.heap.size ≤ g.block) ∧ out.length ≤ oc ∧ (oa = none → oc = 0) := by
         obtain ⟨_, _, hh, h1, _, h2, h3⟩ := own_form hown
         cases hh
         exact ⟨fun g hg => (h3 g hg).1, h1, h2⟩
        have hub3 := hU3.lt
        clear hT2 hP2 hU2 d0 d1 d2 d3 g1 f1 hRT hRS
        have hT2 := hT3
        have hP2 := hP3
        have d3 : w12.cell? ⟨ub, 0 + 3, none⟩ = some (.slice none 0 0) := hU3.cell 3
        have fz3 : w12.frozen? ⟨ub, 0 + 3, none⟩ = false := hU3.free 3
        have g1 : w12.cell? ⟨rr, 0 + 1, none⟩ = some (.int .i64 s'.2) := hRS2.blk.cell 1
        clear hT3 hP3
        have hne1 : rr ≠ ub := by omega
        by_cases he0 : s'.2 = 0
        ·rw [he0] at g1
         go_wp2_with fail
         obtain ⟨wS, hwS⟩ : ∃ wS, wS = w12.setCell ⟨ub, 3, none⟩ (.slice oa out.length oc) := ⟨_, rfl⟩
         have hExt : Ext (fun i => i = ub) w12 wS := hwS ▸ (Ext.refl (fun i => i = ub) w12).setCell (p := ⟨ub, 3, none⟩) (fun _ => rfl) (.slice oa out.length oc)
         have hTS : BlockIs wS w.heap.size _ _ := hT2.ext hExt (fun e => by have e' : w.heap.size = ub := e; omega)
         have hUS : BlockIs wS ub [.int .i64 v1, .int .i64 v2, .int .i64 v3, .slice oa out.length oc] _ := hwS ▸ hU3.set 3 (.slice oa out.length oc)
         have hPS : Pure w wS := hP2.trans hExt (fun i hi e => by have e' : i = ub := e; omega)
         have hRS3 : RS wS rr rb bl s' a c := hRS2.ext hExt (fun e => by have e' : rr = ub := e; omega) (fun e => by have e' : rb = ub := e; omega) (fun g hg e => by have := halt g hg; have e' : g.block = ub := e; omega)
         have hRow : RowOf wS oa (out.map intV) := (own_row hown).ext hExt (fun g hg e => by have := hOF.1 g hg; have e' : g.block = ub := e; omega)
         rw [← hwS]
         clear hwS g1 hT2 hP2 d3 fz3
         have t0 : wS.cell? ⟨w.heap.size, 0, none⟩ = some (.int .i64 0) := hTS.cell 0
         have t1 : wS.cell? ⟨w.heap.size, 0 + 1, none⟩ = some (.int .i64 0) := hTS.cell 1
         have t2 : wS.cell? ⟨w.heap.size, 0 + 2, none⟩ = some (.int .i64 0) := hTS.cell 2
         have t3 : wS.cell? ⟨w.heap.size, 0 + 3, none⟩ = some (.slice none 0 0) := hTS.cell 3
         have z0 : wS.frozen? ⟨w.heap.size, 0, none⟩ = false := hTS.free 0
         have z1 : wS.frozen? ⟨w.heap.size, 0 + 1, none⟩ = false := hTS.free 1
         have z2 : wS.frozen? ⟨w.heap.size, 0 + 2, none⟩ = false := hTS.free 2
         have z3 : wS.frozen? ⟨w.heap.size, 0 + 3, none⟩ = false := hTS.free 3
         have x0 : wS.drew.cell? ⟨ub, 0, none⟩ = some (.int .i64 v1) := hUS.cell 0
         have x1 : wS.drew.cell? ⟨ub, 0 + 1, none⟩ = some (.int .i64 v2) := hUS.cell 1
         have x2 : wS.drew.cell? ⟨ub, 0 + 2, none⟩ = some (.int .i64 v3) := hUS.cell 2
         have x3 : wS.drew.cell? ⟨ub, 0 + 3, none⟩ = some (.slice oa out.length oc) := hUS.cell 3
         have x4 : wS.drew.cell? ⟨rr, 0, none⟩ = some (.pointer (some ⟨rb, 0, none⟩)) := hRS3.blk.cell 0
         have k0 := fun w' (hS : Ext (fun i => i = w.heap.size) wS.drew w') => hS.cell_some x0 (fun e => by have e' : ub = w.heap.size := e; omega)
         have k1 := fun w' (hS : Ext (fun i => i = w.heap.size) wS.drew w') => hS.cell_some x1 (fun e => by have e' : ub = w.heap.size := e; omega)
         have k2 := fun w' (hS : Ext (fun i => i = w.heap.size) wS.drew w') => hS.cell_some x2 (fun e => by have e' : ub = w.heap.size := e; omega)
         have k3 := fun w' (hS : Ext (fun i => i = w.heap.size) wS.drew w') => hS.cell_some x3 (fun e => by have e' : ub = w.heap.size := e; omega)
         have k4 := fun w' (hS : Ext (fun i => i = w.heap.size) wS.drew w') => hS.cell_some x4 (fun e => by have e' : rr = w.heap.size := e; omega)
         have hm8 : ((s'.1 : Nat) : Int).tdiv 8 = ((s'.1 / 8 : Nat) : Int) := by rw [Int.tdiv_eq_ediv_of_nonneg (by omega)]; omega
         have hle8 : s'.1 ≤ 80000000 := by have := hRS3.le; omega
         have hw8 : IntKind.i64.wrap (((s'.1 : Nat) : Int) / 8) = ((s'.1 : Nat) : Int) / 8 := IntWalk.i64_in _ (by omega)
         refine region_start (fun i => i = w.heap.size) (by kernel_rfl) ?_
         try simp only [Act.put, sA, sZ, sS]
         refine region_take 0 91 (v := ?vgz0) rfl rfl (by kernel_rfl) (by kernel_rfl) (by kernel_rfl) (fun _ _ _ h => h) (by rfl) (fun w' hS => ?hgz0) ?rgz0
         case hgz0 => go_simp; with_reducible rfl
         try simp only [Act.put, sA, sZ, sS]
         refine region_take 1 92 (v := ?vgz1) rfl rfl (by kernel_rfl) (by kernel_rfl) (by kernel_rfl) (fun _ _ _ h => h) (by rfl) (fun w' hS => ?hgz1) ?rgz1
         case hgz1 => go_simp; with_reducible rfl
         try simp only [Act.put, sA, sZ, sS]
         refine region_take 2 93 (v := ?vgz2) rfl rfl (by kernel_rfl) (by kernel_rfl) (by kernel_rfl) (fun _ _ _ h => h) (by rfl) (fun w' hS => ?hgz2) ?rgz2
         case hgz2 => go_simp; with_reducible rfl
         try simp only [Act.put, sA, sZ, sS]
         refine region_take 3 94 (v := ?vgz3) rfl rfl (by kernel_rfl) (by kernel_rfl) (by kernel_rfl) (fun _ _ _ h => h) (by rfl) (fun w' hS => ?hgz3) ?rgz3
         case hgz3 => go_simp; with_reducible rfl
         try simp only [Act.put, sA, sZ, sS]
         refine region_take 4 95 (v := ?vgz4) rfl rfl (by kernel_rfl) (by kernel_rfl) (by kernel_rfl) (fun _ _ _ h => h) (by rfl) (fun w' hS => ?hgz4) ?rgz4
         case hgz4 => go_simp; with_reducible rfl
         try simp only [Act.put, sA, sZ, sS]
         refine wpAnyH_ready (rs := [5]) (by kernel_rfl) (by simp) (AllReadyH.cons rfl (fun K hK => ?_) AllReadyH.nil)
         go_simp
         refine (at_any rb true bl s'.1 a c _ (hRS3.rd.ext ((Ext.refl (fun _ => False) wS).drew) id (fun _ _ => id))).mono ?_
         rintro e w13 ⟨rfl, rfl⟩
         refine hK.out _ _ (Ext.refl _ _) (fun hHeld => ?_)
         clear hK K hHeld
         refine region_now (Ext.refl _ _) ?_
         try simp only [Act.put, sA, sZ, sS]
         refine region_take 6 97 (v := ?vgz6) rfl rfl (by kernel_rfl) (by kernel_rfl) (by kernel_rfl) (fun _ _ _ h => h) (by rfl) (fun w' hS => ?hgz6) ?rgz6
         case hgz6 => go_simp; with_reducible rfl
         try simp only [Act.put, sA, sZ, sS]
         refine wpAnyH_ready (rs := [7]) (by kernel_rfl) (by simp) (AllReadyH.cons rfl (fun K hK => ?_) AllReadyH.nil)
         go_simp
         refine hK.out _ _ ((((((Ext.refl (fun i => i = w.heap.size) wS.drew).setCell (p := ⟨w.heap.size, 0, none⟩) (fun _ => rfl) (.int .i64 v1)).setCell (p := ⟨w.heap.size, 1, none⟩) (fun _ => rfl) (.int .i64 v2)).setCell (p := ⟨w.heap.size, 2, none⟩) (fun _ => rfl) (.int .i64 v3)).setCell (p := ⟨w.heap.size, 3, none⟩) (fun _ => rfl) (.slice oa out.length oc) : Ext _ wS.drew _)) (fun hHeld => ?_)
         clear hK K hHeld
         refine region_now ((((((Ext.refl (fun i => i = w.heap.size) wS.drew).setCell (p := ⟨w.heap.size, 0, none⟩) (fun _ => rfl) (.int .i64 v1)).setCell (p := ⟨w.heap.size, 1, none⟩) (fun _ => rfl) (.int .i64 v2)).setCell (p := ⟨w.heap.size, 2, none⟩) (fun _ => rfl) (.int .i64 v3)).setCell (p := ⟨w.heap.size, 3, none⟩) (fun _ => rfl) (.slice oa out.length oc) : Ext _ wS.drew _)) ?_
         try simp only [Act.put, sA, sZ, sS]
         refine region_take 8 3 (v := ?vgz8) rfl rfl (by kernel_rfl) (by kernel_rfl) (by kernel_rfl) (fun _ _ _ h => h) (by rfl) (fun w' hS => ?hgz8) ?rgz8
         case hgz8 => go_simp; with_reducible rfl
         try simp only [Act.put, sA, sZ, sS]
         refine region_take 9 4 (v := ?vgz9) rfl rfl (by kernel_rfl) (by kernel_rfl) (by kernel_rfl) (fun _ _ _ h => h) (by rfl) (fun w' hS => ?hgz9) ?rgz9
         case hgz9 => go_simp; with_reducible rfl
         try simp only [Act.put, sA, sZ, sS]
         refine wpAnyH_done (by kernel_rfl) ?_ _
         have hT9 := ((((hTS.set 0 (.int .i64 v1)).set 1 (.int .i64 v2)).set 2 (.int .i64 v3)).set 3 (.slice oa out.length oc)).drew
         have hX9 : Ext (fun i => i = w.heap.size) wS.drew (((((wS.setCell ⟨w.heap.size, 0, none⟩ (.int .i64 v1)).setCell ⟨w.heap.size, 1, none⟩ (.int .i64 v2)).setCell ⟨w.heap.size, 2, none⟩ (.int .i64 v3)).setCell ⟨w.heap.size, 3, none⟩ (.slice oa out.length oc)).drew) := (((((Ext.refl (fun i => i = w.heap.size) wS.drew).setCell (p := ⟨w.heap.size, 0, none⟩) (fun _ => rfl) (.int .i64 v1)).setCell (p := ⟨w.heap.size, 1, none⟩) (fun _ => rfl) (.int .i64 v2)).setCell (p := ⟨w.heap.size, 2, none⟩) (fun _ => rfl) (.int .i64 v3)).setCell (p := ⟨w.heap.size, 3, none⟩) (fun _ => rfl) (.slice oa out.length oc) : Ext _ wS.drew _)
         have hP9 : Pure w (((((wS.setCell ⟨w.heap.size, 0, none⟩ (.int .i64 v1)).setCell ⟨w.heap.size, 1, none⟩ (.int .i64 v2)).setCell ⟨w.heap.size, 2, none⟩ (.int .i64 v3)).setCell ⟨w.heap.size, 3, none⟩ (.slice oa out.length oc)).drew) := hPS.drew.trans hX9 (fun i hi e => by have e' : i = w.heap.size := e; omega)
         have hR9 : RowOf (((((wS.setCell ⟨w.heap.size, 0, none⟩ (.int .i64 v1)).setCell ⟨w.heap.size, 1, none⟩ (.int .i64 v2)).setCell ⟨w.heap.size, 2, none⟩ (.int .i64 v3)).setCell ⟨w.heap.size, 3, none⟩ (.slice oa out.length oc)).drew) oa (out.map intV) := (hRow.ext ((Ext.refl (fun _ => False) wS).drew) (fun _ _ => id)).ext hX9 (fun g hg e => by have := hOF.1 g hg; have e' : g.block = w.heap.size := e; omega)
         clear hX9
         obtain ⟨wZ, hwZ⟩ : ∃ wZ, wZ = (((((wS.setCell ⟨w.heap.size, 0, none⟩ (.int .i64 v1)).setCell ⟨w.heap.size, 1, none⟩ (.int .i64 v2)).setCell ⟨w.heap.size, 2, none⟩ (.int .i64 v3)).setCell ⟨w.heap.size, 3, none⟩ (.slice oa out.length oc)).drew) := ⟨_, rfl⟩
         rw [← hwZ] at hT9 hP9 hR9
         rw [← hwZ]
         clear hwZ
         simp only [sZ, sS] at hT9
         have y0 : wZ.cell? ⟨w.heap.size, 0, none⟩ = some (.int .i64 v1) := hT9.cell 0
         have y1 : wZ.cell? ⟨w.heap.size, 1, none⟩ = some (.int .i64 v2) := hT9.cell 1
         have y2 : wZ.cell? ⟨w.heap.size, 2, none⟩ = some (.int .i64 v3) := hT9.cell 2
         have y3 : wZ.cell? ⟨w.heap.size, 3, none⟩ = some (.slice oa out.length oc) := hT9.cell 3
         clear t0 t1 t2 t3 z0 z1 z2 z3 k0 k1 k2 k3 k4 x0 x1 x2 x3 x4
         go_wp2_with fail
         refine bodyPost_ret (v := .tuple #[.agg #[.int .i64 v1, .int .i64 v2, .int .i64 v3, .slice oa out.length oc], .int .i64 ((s'.1 / 8 : Nat) : Int), .int .i64 0]) (by simp [results, Tryz.results46, go_sem, y0, y1, y2, y3, hw8]) rfl ?_
         obtain ⟨q1, q2, q3, q4, q5, q6, q7⟩ := HQ.out
         exact ⟨⟨0, v1, v2, v3, out, s'.1 / 8⟩, oa, oc, rfl, Or.inr ⟨HLen.out, Or.inr ⟨HOK.out, s', out, HRT.out, Or.inr ⟨he0, by rw [q1, q2, q3]⟩⟩⟩, hR9, hOF.2.2, hOF.2.1, hP9⟩
        ·go_wp2_with fail
         obtain ⟨wS, hwS⟩ : ∃ wS, wS = w12.setCell ⟨ub, 3, none⟩ (.slice oa out.length oc) := ⟨_, rfl⟩
         have hExt : Ext (fun i => i = ub) w12 wS := hwS ▸ (Ext.refl (fun i => i = ub) w12).setCell (p := ⟨ub, 3, none⟩) (fun _ => rfl) (.slice oa out.length oc)
         have hTS : BlockIs wS w.heap.size _ _ := hT2.ext hExt (fun e => by have e' : w.heap.size = ub := e; omega)
         have hPS : Pure w wS := hP2.trans hExt (fun i hi e => by have e' : i = ub := e; omega)
         have gS : wS.cell? ⟨rr, 0 + 1, none⟩ = some (.int .i64 s'.2) := hExt.cell_some g1 (fun e => by have e' : rr = ub := e; omega)
         have HTo : Hid (DecTo (bitsOf true bl) (dErr s'.2)) := qh (Or.inr ⟨HLen.out, Or.inr ⟨HOK.out, s', out, HRT.out, Or.inl ⟨he0, rfl⟩⟩⟩)
         rw [← hwS]
         clear hwS g1 hT2 hP2 d3 fz3
         have hT2 := hTS
         have g1 := gS
         have hP2 := hPS
         clear hTS gS hPS
         have t0 : wS.cell? ⟨w.heap.size, 0, none⟩ = some (.int .i64 0) := hT2.cell 0
         have t1 : wS.cell? ⟨w.heap.size, 0 + 1, none⟩ = some (.int .i64 0) := hT2.cell 1
         have t2 : wS.cell? ⟨w.heap.size, 0 + 2, none⟩ = some (.int .i64 0) := hT2.cell 2
         have t3 : wS.cell? ⟨w.heap.size, 0 + 3, none⟩ = some (.slice none 0 0) := hT2.cell 3
         have z0 : wS.frozen? ⟨w.heap.size, 0, none⟩ = false := hT2.free 0
         have z1 : wS.frozen? ⟨w.heap.size, 0 + 1, none⟩ = false := hT2.free 1
         have z2 : wS.frozen? ⟨w.heap.size, 0 + 2, none⟩ = false := hT2.free 2
         have z3 : wS.frozen? ⟨w.heap.size, 0 + 3, none⟩ = false := hT2.free 3
         have g1r : wS.drew.cell? ⟨rr, 0 + 1, none⟩ = some (.int .i64 s'.2) := g1
         have cl1 := fun w' (hS : Ext (fun i => i = w.heap.size) wS.drew w') => hS.cell_some g1r (fun e => by have e' : rr = w.heap.size := e; omega)
         refine region_start (fun i => i = w.heap.size) (by kernel_rfl) ?_
         try simp only [Act.put, sA, sZ, sS]
         refine region_take 0 86 (v := ?vgb0) rfl rfl (by kernel_rfl) (by kernel_rfl) (by kernel_rfl) (fun _ _ _ h => h) (by rfl) (fun w' hS => ?hgb0) ?rgb0
         case hgb0 => go_simp; with_reducible rfl
         try simp only [Act.put, sA, sZ, sS]
         refine region_take 1 87 (v := ?vgb1) rfl rfl (by kernel_rfl) (by kernel_rfl) (by kernel_rfl) (fun _ _ _ h => h) (by rfl) (fun w' hS => ?hgb1) ?rgb1
         case hgb1 => go_simp; with_reducible rfl
         try simp only [Act.put, sA, sZ, sS]
         refine region_take 2 88 (v := ?vgb2) rfl rfl (by kernel_rfl) (by kernel_rfl) (by kernel_rfl) (fun _ _ _ h => h) (by rfl) (fun w' hS => ?hgb2) ?rgb2
         case hgb2 => go_simp; with_reducible rfl
         try simp only [Act.put, sA, sZ, sS]
         refine region_take 3 89 (v := ?vgb3) rfl rfl (by kernel_rfl) (by kernel_rfl) (by kernel_rfl) (fun _ _ _ h => h) (by rfl) (fun w' hS => ?hgb3) ?rgb3
         case hgb3 => go_simp; with_reducible rfl
         try simp only [Act.put, sA, sZ, sS]
         refine region_take 4 90 (v := ?vgb4) rfl rfl (by kernel_rfl) (by kernel_rfl) (by kernel_rfl) (fun _ _ _ h => h) (by rfl) (fun w' hS => ?hgb4) ?rgb4
         case hgb4 => go_simp; with_reducible rfl
         try simp only [Act.put, sA, sZ, sS]
         refine wpAnyH_ready (rs := [5]) (by kernel_rfl) (by simp) (AllReadyH.cons rfl (fun K hK => ?_) AllReadyH.nil)
         go_simp
         refine hK.out _ _ ((ext4a wS.drew w.heap.size : Ext _ wS.drew _)) (fun hHeld => ?_)
         clear hK K hHeld
         refine region_now ((ext4a wS.drew w.heap.size : Ext _ wS.drew _)) ?_
         try simp only [Act.put, sA, sZ, sS]
         refine region_take 6 3 (v := ?vgb6) rfl rfl (by kernel_rfl) (by kernel_rfl) (by kernel_rfl) (fun _ _ _ h => h) (by rfl) (fun w' hS => ?hgb6) ?rgb6
         case hgb6 => go_simp; with_reducible rfl
         try simp only [Act.put, sA, sZ, sS]
         refine region_take 7 4 (v := ?vgb7) rfl rfl (by kernel_rfl) (by kernel_rfl) (by kernel_rfl) (fun _ _ _ h => h) (by rfl) (fun w' hS => ?hgb7) ?rgb7
         case hgb7 => go_simp; with_reducible rfl
         try simp only [Act.put, sA, sZ, sS]
         refine wpAnyH_done (by kernel_rfl) ?_ _
         have hT9 := ((((hT2.set 0 (.int .i64 0)).set 1 (.int .i64 0)).set 2 (.int .i64 0)).set 3 (.slice none 0 0)).drew
         have hP9 : Pure w (((((wS.setCell ⟨w.heap.size, 0, none⟩ (.int .i64 0)).setCell ⟨w.heap.size, 1, none⟩ (.int .i64 0)).setCell ⟨w.heap.size, 2, none⟩ (.int .i64 0)).setCell ⟨w.heap.size, 3, none⟩ (.slice none 0 0)).drew) := hP2.drew.trans (ext4a wS.drew w.heap.size : Ext _ wS.drew _) (fun i hi e => by have e' : i = w.heap.size := e; omega)
         have hw12 : ∃ w12, w12 = (((((wS.setCell ⟨w.heap.size, 0, none⟩ (.int .i64 0)).setCell ⟨w.heap.size, 1, none⟩ (.int .i64 0)).setCell ⟨w.heap.size, 2, none⟩ (.int .i64 0)).setCell ⟨w.heap.size, 3, none⟩ (.slice none 0 0)).drew) := ⟨_, rfl⟩
         obtain ⟨w12, hw12⟩ := hw12
         rw [← hw12] at hT9 hP9
         rw [← hw12]
         clear hw12
         simp only [sZ, sS] at hT9
         have y0 : w12.cell? ⟨w.heap.size, 0, none⟩ = some (.int .i64 0) := hT9.cell 0
         have y1 : w12.cell? ⟨w.heap.size, 1, none⟩ = some (.int .i64 0) := hT9.cell 1
         have y2 : w12.cell? ⟨w.heap.size, 2, none⟩ = some (.int .i64 0) := hT9.cell 2
         have y3 : w12.cell? ⟨w.heap.size, 3, none⟩ = some (.slice none 0 0) := hT9.cell 3
         clear t0 t1 t2 t3 z0 z1 z2 z3 cl1 g1r
         go_wp2_with fail
         refine bodyPost_ret (v := .tuple #[.agg #[.int .i64 0, .int .i64 0, .int .i64 0, .slice none 0 0], .int .i64 0, .int .i64 s'.2]) (by simp [results, Tryz.results46, go_sem, y0, y1, y2, y3]) rfl ?_
         exact ⟨dErr s'.2, none, 0, rfl, HTo.out, (by intro i u hu; simp [dErr] at hu), fun _ => rfl, Nat.le_refl _, hP9⟩
       ·
        have HTo : Hid (DecTo (bitsOf true bl) (dErr 27)) := qh (Or.inr ⟨HLen.out, Or.inl ⟨fun hk => by obtain ⟨h1, h2, h3, h4, h5, h6⟩ := hk; obtain ⟨q1, q2, q3, q4, q5, q6, q7⟩ := HQ.out; omega, rfl⟩⟩)
        try have cD : decide (((v7 : Nat) : Int) ≤ 32) = false := decide_eq_false (by omega)
        go_wp2_with fail
        all_goals (try contradiction)
        obtain ⟨wS, hwS⟩ : ∃ wS, wS = w11.setCell ⟨rr, 1, none⟩ (.int .i64 27) := ⟨_, rfl⟩
        have hTS : BlockIs wS w.heap.size _ _ := hwS ▸ hT2.setOther (p := ⟨rr, 1, none⟩) (fun e => by have e' : rr = w.heap.size := e; omega) (.int .i64 27)
        have gS : wS.cell? ⟨rr, 0 + 1, none⟩ = some (.int .i64 27) := by rw [hwS]; exact (hRS.blk.set 1 (.int .i64 27)).cell 1
        have hPS : Pure w wS := hwS ▸ hP2.trans ((Ext.refl (fun i => i = rr) w11).setCell (p := ⟨rr, 1, none⟩) (fun _ => rfl) (.int .i64 27)) (fun i hi e => by have e' : i = rr := e; omega)
        rw [← hwS]
        clear hwS g1 hT2 hP2 f1
        have hT2 := hTS
        have g1 := gS
        have hP2 := hPS
        clear hTS gS hPS
        have t0 : wS.cell? ⟨w.heap.size, 0, none⟩ = some (.int .i64 0) := hT2.cell 0
        have t1 : wS.cell? ⟨w.heap.size, 0 + 1, none⟩ = some (.int .i64 0) := hT2.cell 1
        have t2 : wS.cell? ⟨w.heap.size, 0 + 2, none⟩ = some (.int .i64 0) := hT2.cell 2
        have t3 : wS.cell? ⟨w.heap.size, 0 + 3, none⟩ = some (.slice none 0 0) := hT2.cell 3
        have z0 : wS.frozen? ⟨w.heap.size, 0, none⟩ = false := hT2.free 0
        have z1 : wS.frozen? ⟨w.heap.size, 0 + 1, none⟩ = false := hT2.free 1
        have z2 : wS.frozen? ⟨w.heap.size, 0 + 2, none⟩ = false := hT2.free 2
        have z3 : wS.frozen? ⟨w.heap.size, 0 + 3, none⟩ = false := hT2.free 3
        have g1r : wS.drew.cell? ⟨rr, 0 + 1, none⟩ = some (.int .i64 27) := g1
        have cl1 := fun w' (hS : Ext (fun i => i = w.heap.size) wS.drew w') => hS.cell_some g1r (fun e => by have e' : rr = w.heap.size := e; omega)
        refine region_start (fun i => i = w.heap.size) (by kernel_rfl) ?_
        try simp only [Act.put, sA, sZ, sS]
        refine region_take 0 86 (v := ?vbz60) rfl rfl (by kernel_rfl) (by kernel_rfl) (by kernel_rfl) (fun _ _ _ h => h) (by rfl) (fun w' hS => ?hbz60) ?rbz60
        case hbz60 => go_simp; with_reducible rfl
        try simp only [Act.put, sA, sZ, sS]
        refine region_take 1 87 (v := ?vbz61) rfl rfl (by kernel_rfl) (by kernel_rfl) (by kernel_rfl) (fun _ _ _ h => h) (by rfl) (fun w' hS => ?hbz61) ?rbz61
        case hbz61 => go_simp; with_reducible rfl
        try simp only [Act.put, sA, sZ, sS]
        refine region_take 2 88 (v := ?vbz62) rfl rfl (by kernel_rfl) (by kernel_rfl) (by kernel_rfl) (fun _ _ _ h => h) (by rfl) (fun w' hS => ?hbz62) ?rbz62
        case hbz62 => go_simp; with_reducible rfl
        try simp only [Act.put, sA, sZ, sS]
        refine region_take 3 89 (v := ?vbz63) rfl rfl (by kernel_rfl) (by kernel_rfl) (by kernel_rfl) (fun _ _ _ h => h) (by rfl) (fun w' hS => ?hbz63) ?rbz63
        case hbz63 => go_simp; with_reducible rfl
        try simp only [Act.put, sA, sZ, sS]
        refine region_take 4 90 (v := ?vbz64) rfl rfl (by kernel_rfl) (by kernel_rfl) (by kernel_rfl) (fun _ _ _ h => h) (by rfl) (fun w' hS => ?hbz64) ?rbz64
        case hbz64 => go_simp; with_reducible rfl
        try simp only [Act.put, sA, sZ, sS]
        refine wpAnyH_ready (rs := [5]) (by kernel_rfl) (by simp) (AllReadyH.cons rfl (fun K hK => ?_) AllReadyH.nil)
        go_simp
        refine hK.out _ _ ((ext4a wS.drew w.heap.size : Ext _ wS.drew _)) (fun hHeld => ?_)
        clear hK K hHeld
        refine region_now ((ext4a wS.drew w.heap.size : Ext _ wS.drew _)) ?_
        try simp only [Act.put, sA, sZ, sS]
        refine region_take 6 3 (v := ?vbz66) rfl rfl (by kernel_rfl) (by kernel_rfl) (by kernel_rfl) (fun _ _ _ h => h) (by rfl) (fun w' hS => ?hbz66) ?rbz66
        case hbz66 => go_simp; with_reducible rfl
        try simp only [Act.put, sA, sZ, sS]
        refine region_take 7 4 (v := ?vbz67) rfl rfl (by kernel_rfl) (by kernel_rfl) (by kernel_rfl) (fun _ _ _ h => h) (by rfl) (fun w' hS => ?hbz67) ?rbz67
        case hbz67 => go_simp; with_reducible rfl
        try simp only [Act.put, sA, sZ, sS]
        refine wpAnyH_done (by kernel_rfl) ?_ _
        have hT9 := ((((hT2.set 0 (.int .i64 0)).set 1 (.int .i64 0)).set 2 (.int .i64 0)).set 3 (.slice none 0 0)).drew
        have hP9 : Pure w (((((wS.setCell ⟨w.heap.size, 0, none⟩ (.int .i64 0)).setCell ⟨w.heap.size, 1, none⟩ (.int .i64 0)).setCell ⟨w.heap.size, 2, none⟩ (.int .i64 0)).setCell ⟨w.heap.size, 3, none⟩ (.slice none 0 0)).drew) := hP2.drew.trans (ext4a wS.drew w.heap.size : Ext _ wS.drew _) (fun i hi e => by have e' : i = w.heap.size := e; omega)
        have hw12 : ∃ w12, w12 = (((((wS.setCell ⟨w.heap.size, 0, none⟩ (.int .i64 0)).setCell ⟨w.heap.size, 1, none⟩ (.int .i64 0)).setCell ⟨w.heap.size, 2, none⟩ (.int .i64 0)).setCell ⟨w.heap.size, 3, none⟩ (.slice none 0 0)).drew) := ⟨_, rfl⟩
        obtain ⟨w12, hw12⟩ := hw12
        rw [← hw12] at hT9 hP9
        rw [← hw12]
        clear hw12
        simp only [sZ, sS] at hT9
        have y0 : w12.cell? ⟨w.heap.size, 0, none⟩ = some (.int .i64 0) := hT9.cell 0
        have y1 : w12.cell? ⟨w.heap.size, 1, none⟩ = some (.int .i64 0) := hT9.cell 1
        have y2 : w12.cell? ⟨w.heap.size, 2, none⟩ = some (.int .i64 0) := hT9.cell 2
        have y3 : w12.cell? ⟨w.heap.size, 3, none⟩ = some (.slice none 0 0) := hT9.cell 3
        clear t0 t1 t2 t3 z0 z1 z2 z3 cl1 g1r
        go_wp2_with fail
        refine bodyPost_ret (v := .tuple #[.agg #[.int .i64 0, .int .i64 0, .int .i64 0, .slice none 0 0], .int .i64 0, .int .i64 27]) (by simp [results, Tryz.results46, go_sem, y0, y1, y2, y3]) rfl ?_
        exact ⟨dErr 27, none, 0, rfl, HTo.out, (by intro i u hu; simp [dErr] at hu), fun _ => rfl, Nat.le_refl _, hP9⟩
      ·
       have HTo : Hid (DecTo (bitsOf true bl) (dErr 27)) := qh (Or.inr ⟨HLen.out, Or.inl ⟨fun hk => by obtain ⟨h1, h2, h3, h4, h5, h6⟩ := hk; obtain ⟨q1, q2, q3, q4, q5, q6, q7⟩ := HQ.out; omega, rfl⟩⟩)
       try have cD : decide (((v7 : Nat) : Int) ≤ 32) = false := decide_eq_false (by omega)
       go_wp2_with fail
       all_goals (try contradiction)
       obtain ⟨wS, hwS⟩ : ∃ wS, wS = w11.setCell ⟨rr, 1, none⟩ (.int .i64 27) := ⟨_, rfl⟩
       have hTS : BlockIs wS w.heap.size _ _ := hwS ▸ hT2.setOther (p := ⟨rr, 1, none⟩) (fun e => by have e' : rr = w.heap.size := e; omega) (.int .i64 27)
       have gS : wS.cell? ⟨rr, 0 + 1, none⟩ = some (.int .i64 27) := by rw [hwS]; exact (hRS.blk.set 1 (.int .i64 27)).cell 1
       have hPS : Pure w wS := hwS ▸ hP2.trans ((Ext.refl (fun i => i = rr) w11).setCell (p := ⟨rr, 1, none⟩) (fun _ => rfl) (.int .i64 27)) (fun i hi e => by have e' : i = rr := e; omega)
       rw [← hwS]
       clear hwS g1 hT2 hP2 f1
       have hT2 := hTS
       have g1 := gS
       have hP2 := hPS
       clear hTS gS hPS
       have t0 : wS.cell? ⟨w.heap.size, 0, none⟩ = some (.int .i64 0) := hT2.cell 0
       have t1 : wS.cell? ⟨w.heap.size, 0 + 1, none⟩ = some (.int .i64 0) := hT2.cell 1
       have t2 : wS.cell? ⟨w.heap.size, 0 + 2, none⟩ = some (.int .i64 0) := hT2.cell 2
       have t3 : wS.cell? ⟨w.heap.size, 0 + 3, none⟩ = some (.slice none 0 0) := hT2.cell 3
       have z0 : wS.frozen? ⟨w.heap.size, 0, none⟩ = false := hT2.free 0
       have z1 : wS.frozen? ⟨w.heap.size, 0 + 1, none⟩ = false := hT2.free 1
       have z2 : wS.frozen? ⟨w.heap.size, 0 + 2, none⟩ = false := hT2.free 2
       have z3 : wS.frozen? ⟨w.heap.size, 0 + 3, none⟩ = false := hT2.free 3
       have g1r : wS.drew.cell? ⟨rr, 0 + 1, none⟩ = some (.int .i64 27) := g1
       have cl1 := fun w' (hS : Ext (fun i => i = w.heap.size) wS.drew w') => hS.cell_some g1r (fun e => by have e' : rr = w.heap.size := e; omega)
       refine region_start (fun i => i = w.heap.size) (by kernel_rfl) ?_
       try simp only [Act.put, sA, sZ, sS]
       refine region_take 0 86 (v := ?vbz50) rfl rfl (by kernel_rfl) (by kernel_rfl) (by kernel_rfl) (fun _ _ _ h => h) (by rfl) (fun w' hS => ?hbz50) ?rbz50
       case hbz50 => go_simp; with_reducible rfl
       try simp only [Act.put, sA, sZ, sS]
       refine region_take 1 87 (v := ?vbz51) rfl rfl (by kernel_rfl) (by kernel_rfl) (by kernel_rfl) (fun _ _ _ h => h) (by rfl) (fun w' hS => ?hbz51) ?rbz51
       case hbz51 => go_simp; with_reducible rfl
       try simp only [Act.put, sA, sZ, sS]
       refine region_take 2 88 (v := ?vbz52) rfl rfl (by kernel_rfl) (by kernel_rfl) (by kernel_rfl) (fun _ _ _ h => h) (by rfl) (fun w' hS => ?hbz52) ?rbz52
       case hbz52 => go_simp; with_reducible rfl
       try simp only [Act.put, sA, sZ, sS]
       refine region_take 3 89 (v := ?vbz53) rfl rfl (by kernel_rfl) (by kernel_rfl) (by kernel_rfl) (fun _ _ _ h => h) (by rfl) (fun w' hS => ?hbz53) ?rbz53
       case hbz53 => go_simp; with_reducible rfl
       try simp only [Act.put, sA, sZ, sS]
       refine region_take 4 90 (v := ?vbz54) rfl rfl (by kernel_rfl) (by kernel_rfl) (by kernel_rfl) (fun _ _ _ h => h) (by rfl) (fun w' hS => ?hbz54) ?rbz54
       case hbz54 => go_simp; with_reducible rfl
       try simp only [Act.put, sA, sZ, sS]
       refine wpAnyH_ready (rs := [5]) (by kernel_rfl) (by simp) (AllReadyH.cons rfl (fun K hK => ?_) AllReadyH.nil)
       go_simp
       refine hK.out _ _ ((ext4a wS.drew w.heap.size : Ext _ wS.drew _)) (fun hHeld => ?_)
       clear hK K hHeld
       refine region_now ((ext4a wS.drew w.heap.size : Ext _ wS.drew _)) ?_
       try simp only [Act.put, sA, sZ, sS]
       refine region_take 6 3 (v := ?vbz56) rfl rfl (by kernel_rfl) (by kernel_rfl) (by kernel_rfl) (fun _ _ _ h => h) (by rfl) (fun w' hS => ?hbz56) ?rbz56
       case hbz56 => go_simp; with_reducible rfl
       try simp only [Act.put, sA, sZ, sS]
       refine region_take 7 4 (v := ?vbz57) rfl rfl (by kernel_rfl) (by kernel_rfl) (by kernel_rfl) (fun _ _ _ h => h) (by rfl) (fun w' hS => ?hbz57) ?rbz57
       case hbz57 => go_simp; with_reducible rfl
       try simp only [Act.put, sA, sZ, sS]
       refine wpAnyH_done (by kernel_rfl) ?_ _
       have hT9 := ((((hT2.set 0 (.int .i64 0)).set 1 (.int .i64 0)).set 2 (.int .i64 0)).set 3 (.slice none 0 0)).drew
       have hP9 : Pure w (((((wS.setCell ⟨w.heap.size, 0, none⟩ (.int .i64 0)).setCell ⟨w.heap.size, 1, none⟩ (.int .i64 0)).setCell ⟨w.heap.size, 2, none⟩ (.int .i64 0)).setCell ⟨w.heap.size, 3, none⟩ (.slice none 0 0)).drew) := hP2.drew.trans (ext4a wS.drew w.heap.size : Ext _ wS.drew _) (fun i hi e => by have e' : i = w.heap.size := e; omega)
       have hw12 : ∃ w12, w12 = (((((wS.setCell ⟨w.heap.size, 0, none⟩ (.int .i64 0)).setCell ⟨w.heap.size, 1, none⟩ (.int .i64 0)).setCell ⟨w.heap.size, 2, none⟩ (.int .i64 0)).setCell ⟨w.heap.size, 3, none⟩ (.slice none 0 0)).drew) := ⟨_, rfl⟩
       obtain ⟨w12, hw12⟩ := hw12
       rw [← hw12] at hT9 hP9
       rw [← hw12]
       clear hw12
       simp only [sZ, sS] at hT9
       have y0 : w12.cell? ⟨w.heap.size, 0, none⟩ = some (.int .i64 0) := hT9.cell 0
       have y1 : w12.cell? ⟨w.heap.size, 1, none⟩ = some (.int .i64 0) := hT9.cell 1
       have y2 : w12.cell? ⟨w.heap.size, 2, none⟩ = some (.int .i64 0) := hT9.cell 2
       have y3 : w12.cell? ⟨w.heap.size, 3, none⟩ = some (.slice none 0 0) := hT9.cell 3
       clear t0 t1 t2 t3 z0 z1 z2 z3 cl1 g1r
       go_wp2_with fail
       refine bodyPost_ret (v := .tuple #[.agg #[.int .i64 0, .int .i64 0, .int .i64 0, .slice none 0 0], .int .i64 0, .int .i64 27]) (by simp [results, Tryz.results46, go_sem, y0, y1, y2, y3]) rfl ?_
       exact ⟨dErr 27, none, 0, rfl, HTo.out, (by intro i u hu; simp [dErr] at hu), fun _ => rfl, Nat.le_refl _, hP9⟩
     ·
      have HTo : Hid (DecTo (bitsOf true bl) (dErr 27)) := qh (Or.inr ⟨HLen.out, Or.inl ⟨fun hk => by obtain ⟨h1, h2, h3, h4, h5, h6⟩ := hk; obtain ⟨q1, q2, q3, q4, q5, q6, q7⟩ := HQ.out; omega, rfl⟩⟩)
      try have cD : decide (((v7 : Nat) : Int) ≤ 32) = false := decide_eq_false (by omega)
      go_wp2_with fail
      all_goals (try contradiction)
      obtain ⟨wS, hwS⟩ : ∃ wS, wS = w11.setCell ⟨rr, 1, none⟩ (.int .i64 27) := ⟨_, rfl⟩
      have hTS : BlockIs wS w.heap.size _ _ := hwS ▸ hT2.setOther (p := ⟨rr, 1, none⟩) (fun e => by have e' : rr = w.heap.size := e; omega) (.int .i64 27)
      have gS : wS.cell? ⟨rr, 0 + 1, none⟩ = some (.int .i64 27) := by rw [hwS]; exact (hRS.blk.set 1 (.int .i64 27)).cell 1
      have hPS : Pure w wS := hwS ▸ hP2.trans ((Ext.refl (fun i => i = rr) w11).setCell (p := ⟨rr, 1, none⟩) (fun _ => rfl) (.int .i64 27)) (fun i hi e => by have e' : i = rr := e; omega)
      rw [← hwS]
      clear hwS g1 hT2 hP2 f1
      have hT2 := hTS
      have g1 := gS
      have hP2 := hPS
      clear hTS gS hPS
      have t0 : wS.cell? ⟨w.heap.size, 0, none⟩ = some (.int .i64 0) := hT2.cell 0
      have t1 : wS.cell? ⟨w.heap.size, 0 + 1, none⟩ = some (.int .i64 0) := hT2.cell 1
      have t2 : wS.cell? ⟨w.heap.size, 0 + 2, none⟩ = some (.int .i64 0) := hT2.cell 2
      have t3 : wS.cell? ⟨w.heap.size, 0 + 3, none⟩ = some (.slice none 0 0) := hT2.cell 3
      have z0 : wS.frozen? ⟨w.heap.size, 0, none⟩ = false := hT2.free 0
      have z1 : wS.frozen? ⟨w.heap.size, 0 + 1, none⟩ = false := hT2.free 1
      have z2 : wS.frozen? ⟨w.heap.size, 0 + 2, none⟩ = false := hT2.free 2
      have z3 : wS.frozen? ⟨w.heap.size, 0 + 3, none⟩ = false := hT2.free 3
      have g1r : wS.drew.cell? ⟨rr, 0 + 1, none⟩ = some (.int .i64 27) := g1
      have cl1 := fun w' (hS : Ext (fun i => i = w.heap.size) wS.drew w') => hS.cell_some g1r (fun e => by have e' : rr = w.heap.size := e; omega)
      refine region_start (fun i => i = w.heap.size) (by kernel_rfl) ?_
      try simp only [Act.put, sA, sZ, sS]
      refine region_take 0 86 (v := ?vbz40) rfl rfl (by kernel_rfl) (by kernel_rfl) (by kernel_rfl) (fun _ _ _ h => h) (by rfl) (fun w' hS => ?hbz40) ?rbz40
      case hbz40 => go_simp; with_reducible rfl
      try simp only [Act.put, sA, sZ, sS]
      refine region_take 1 87 (v := ?vbz41) rfl rfl (by kernel_rfl) (by kernel_rfl) (by kernel_rfl) (fun _ _ _ h => h) (by rfl) (fun w' hS => ?hbz41) ?rbz41
      case hbz41 => go_simp; with_reducible rfl
      try simp only [Act.put, sA, sZ, sS]
      refine region_take 2 88 (v := ?vbz42) rfl rfl (by kernel_rfl) (by kernel_rfl) (by kernel_rfl) (fun _ _ _ h => h) (by rfl) (fun w' hS => ?hbz42) ?rbz42
      case hbz42 => go_simp; with_reducible rfl
      try simp only [Act.put, sA, sZ, sS]
      refine region_take 3 89 (v := ?vbz43) rfl rfl (by kernel_rfl) (by kernel_rfl) (by kernel_rfl) (fun _ _ _ h => h) (by rfl) (fun w' hS => ?hbz43) ?rbz43
      case hbz43 => go_simp; with_reducible rfl
      try simp only [Act.put, sA, sZ, sS]
      refine region_take 4 90 (v := ?vbz44) rfl rfl (by kernel_rfl) (by kernel_rfl) (by kernel_rfl) (fun _ _ _ h => h) (by rfl) (fun w' hS => ?hbz44) ?rbz44
      case hbz44 => go_simp; with_reducible rfl
      try simp only [Act.put, sA, sZ, sS]
      refine wpAnyH_ready (rs := [5]) (by kernel_rfl) (by simp) (AllReadyH.cons rfl (fun K hK => ?_) AllReadyH.nil)
      go_simp
      refine hK.out _ _ ((ext4a wS.drew w.heap.size : Ext _ wS.drew _)) (fun hHeld => ?_)
      clear hK K hHeld
      refine region_now ((ext4a wS.drew w.heap.size : Ext _ wS.drew _)) ?_
      try simp only [Act.put, sA, sZ, sS]
      refine region_take 6 3 (v := ?vbz46) rfl rfl (by kernel_rfl) (by kernel_rfl) (by kernel_rfl) (fun _ _ _ h => h) (by rfl) (fun w' hS => ?hbz46) ?rbz46
      case hbz46 => go_simp; with_reducible rfl
      try simp only [Act.put, sA, sZ, sS]
      refine region_take 7 4 (v := ?vbz47) rfl rfl (by kernel_rfl) (by kernel_rfl) (by kernel_rfl) (fun _ _ _ h => h) (by rfl) (fun w' hS => ?hbz47) ?rbz47
      case hbz47 => go_simp; with_reducible rfl
      try simp only [Act.put, sA, sZ, sS]
      refine wpAnyH_done (by kernel_rfl) ?_ _
      have hT9 := ((((hT2.set 0 (.int .i64 0)).set 1 (.int .i64 0)).set 2 (.int .i64 0)).set 3 (.slice none 0 0)).drew
      have hP9 : Pure w (((((wS.setCell ⟨w.heap.size, 0, none⟩ (.int .i64 0)).setCell ⟨w.heap.size, 1, none⟩ (.int .i64 0)).setCell ⟨w.heap.size, 2, none⟩ (.int .i64 0)).setCell ⟨w.heap.size, 3, none⟩ (.slice none 0 0)).drew) := hP2.drew.trans (ext4a wS.drew w.heap.size : Ext _ wS.drew _) (fun i hi e => by have e' : i = w.heap.size := e; omega)
      have hw12 : ∃ w12, w12 = (((((wS.setCell ⟨w.heap.size, 0, none⟩ (.int .i64 0)).setCell ⟨w.heap.size, 1, none⟩ (.int .i64 0)).setCell ⟨w.heap.size, 2, none⟩ (.int .i64 0)).setCell ⟨w.heap.size, 3, none⟩ (.slice none 0 0)).drew) := ⟨_, rfl⟩
      obtain ⟨w12, hw12⟩ := hw12
      rw [← hw12] at hT9 hP9
      rw [← hw12]
      clear hw12
      simp only [sZ, sS] at hT9
      have y0 : w12.cell? ⟨w.heap.size, 0, none⟩ = some (.int .i64 0) := hT9.cell 0
      have y1 : w12.cell? ⟨w.heap.size, 1, none⟩ = some (.int .i64 0) := hT9.cell 1
      have y2 : w12.cell? ⟨w.heap.size, 2, none⟩ = some (.int .i64 0) := hT9.cell 2
      have y3 : w12.cell? ⟨w.heap.size, 3, none⟩ = some (.slice none 0 0) := hT9.cell 3
      clear t0 t1 t2 t3 z0 z1 z2 z3 cl1 g1r
      go_wp2_with fail
      refine bodyPost_ret (v := .tuple #[.agg #[.int .i64 0, .int .i64 0, .int .i64 0, .slice none 0 0], .int .i64 0, .int .i64 27]) (by simp [results, Tryz.results46, go_sem, y0, y1, y2, y3]) rfl ?_
      exact ⟨dErr 27, none, 0, rfl, HTo.out, (by intro i u hu; simp [dErr] at hu), fun _ => rfl, Nat.le_refl _, hP9⟩
    ·
     have HTo : Hid (DecTo (bitsOf true bl) (dErr 27)) := qh (Or.inr ⟨HLen.out, Or.inl ⟨fun hk => by obtain ⟨h1, h2, h3, h4, h5, h6⟩ := hk; obtain ⟨q1, q2, q3, q4, q5, q6, q7⟩ := HQ.out; omega, rfl⟩⟩)
     try have cD : decide (((v7 : Nat) : Int) ≤ 32) = false := decide_eq_false (by omega)
     go_wp2_with fail
     all_goals (try contradiction)
     obtain ⟨wS, hwS⟩ : ∃ wS, wS = w11.setCell ⟨rr, 1, none⟩ (.int .i64 27) := ⟨_, rfl⟩
     have hTS : BlockIs wS w.heap.size _ _ := hwS ▸ hT2.setOther (p := ⟨rr, 1, none⟩) (fun e => by have e' : rr = w.heap.size := e; omega) (.int .i64 27)
     have gS : wS.cell? ⟨rr, 0 + 1, none⟩ = some (.int .i64 27) := by rw [hwS]; exact (hRS.blk.set 1 (.int .i64 27)).cell 1
     have hPS : Pure w wS := hwS ▸ hP2.trans ((Ext.refl (fun i => i = rr) w11).setCell (p := ⟨rr, 1, none⟩) (fun _ => rfl) (.int .i64 27)) (fun i hi e => by have e' : i = rr := e; omega)
     rw [← hwS]
     clear hwS g1 hT2 hP2 f1
     have hT2 := hTS
     have g1 := gS
     have hP2 := hPS
     clear hTS gS hPS
     have t0 : wS.cell? ⟨w.heap.size, 0, none⟩ = some (.int .i64 0) := hT2.cell 0
     have t1 : wS.cell? ⟨w.heap.size, 0 + 1, none⟩ = some (.int .i64 0) := hT2.cell 1
     have t2 : wS.cell? ⟨w.heap.size, 0 + 2, none⟩ = some (.int .i64 0) := hT2.cell 2
     have t3 : wS.cell? ⟨w.heap.size, 0 + 3, none⟩ = some (.slice none 0 0) := hT2.cell 3
     have z0 : wS.frozen? ⟨w.heap.size, 0, none⟩ = false := hT2.free 0
     have z1 : wS.frozen? ⟨w.heap.size, 0 + 1, none⟩ = false := hT2.free 1
     have z2 : wS.frozen? ⟨w.heap.size, 0 + 2, none⟩ = false := hT2.free 2
     have z3 : wS.frozen? ⟨w.heap.size, 0 + 3, none⟩ = false := hT2.free 3
     have g1r : wS.drew.cell? ⟨rr, 0 + 1, none⟩ = some (.int .i64 27) := g1
     have cl1 := fun w' (hS : Ext (fun i => i = w.heap.size) wS.drew w') => hS.cell_some g1r (fun e => by have e' : rr = w.heap.size := e; omega)
     refine region_start (fun i => i = w.heap.size) (by kernel_rfl) ?_
     try simp only [Act.put, sA, sZ, sS]
     refine region_take 0 86 (v := ?vbz30) rfl rfl (by kernel_rfl) (by kernel_rfl) (by kernel_rfl) (fun _ _ _ h => h) (by rfl) (fun w' hS => ?hbz30) ?rbz30
     case hbz30 => go_simp; with_reducible rfl
     try simp only [Act.put, sA, sZ, sS]
     refine region_take 1 87 (v := ?vbz31) rfl rfl (by kernel_rfl) (by kernel_rfl) (by kernel_rfl) (fun _ _ _ h => h) (by rfl) (fun w' hS => ?hbz31) ?rbz31
     case hbz31 => go_simp; with_reducible rfl
     try simp only [Act.put, sA, sZ, sS]
     refine region_take 2 88 (v := ?vbz32) rfl rfl (by kernel_rfl) (by kernel_rfl) (by kernel_rfl) (fun _ _ _ h => h) (by rfl) (fun w' hS => ?hbz32) ?rbz32
     case hbz32 => go_simp; with_reducible rfl
     try simp only [Act.put, sA, sZ, sS]
     refine region_take 3 89 (v := ?vbz33) rfl rfl (by kernel_rfl) (by kernel_rfl) (by kernel_rfl) (fun _ _ _ h => h) (by rfl) (fun w' hS => ?hbz33) ?rbz33
     case hbz33 => go_simp; with_reducible rfl
     try simp only [Act.put, sA, sZ, sS]
     refine region_take 4 90 (v := ?vbz34) rfl rfl (by kernel_rfl) (by kernel_rfl) (by kernel_rfl) (fun _ _ _ h => h) (by rfl) (fun w' hS => ?hbz34) ?rbz34
     case hbz34 => go_simp; with_reducible rfl
     try simp only [Act.put, sA, sZ, sS]
     refine wpAnyH_ready (rs := [5]) (by kernel_rfl) (by simp) (AllReadyH.cons rfl (fun K hK => ?_) AllReadyH.nil)
     go_simp
     refine hK.out _ _ ((ext4a wS.drew w.heap.size : Ext _ wS.drew _)) (fun hHeld => ?_)
     clear hK K hHeld
     refine region_now ((ext4a wS.drew w.heap.size : Ext _ wS.drew _)) ?_
     try simp only [Act.put, sA, sZ, sS]
     refine region_take 6 3 (v := ?vbz36) rfl rfl (by kernel_rfl) (by kernel_rfl) (by kernel_rfl) (fun _ _ _ h => h) (by rfl) (fun w' hS => ?hbz36) ?rbz36
     case hbz36 => go_simp; with_reducible rfl
     try simp only [Act.put, sA, sZ, sS]
     refine region_take 7 4 (v := ?vbz37) rfl rfl (by kernel_rfl) (by kernel_rfl) (by kernel_rfl) (fun _ _ _ h => h) (by rfl) (fun w' hS => ?hbz37) ?rbz37
     case hbz37 => go_simp; with_reducible rfl
     try simp only [Act.put, sA, sZ, sS]
     refine wpAnyH_done (by kernel_rfl) ?_ _
     have hT9 := ((((hT2.set 0 (.int .i64 0)).set 1 (.int .i64 0)).set 2 (.int .i64 0)).set 3 (.slice none 0 0)).drew
     have hP9 : Pure w (((((wS.setCell ⟨w.heap.size, 0, none⟩ (.int .i64 0)).setCell ⟨w.heap.size, 1, none⟩ (.int .i64 0)).setCell ⟨w.heap.size, 2, none⟩ (.int .i64 0)).setCell ⟨w.heap.size, 3, none⟩ (.slice none 0 0)).drew) := hP2.drew.trans (ext4a wS.drew w.heap.size : Ext _ wS.drew _) (fun i hi e => by have e' : i = w.heap.size := e; omega)
     have hw12 : ∃ w12, w12 = (((((wS.setCell ⟨w.heap.size, 0, none⟩ (.int .i64 0)).setCell ⟨w.heap.size, 1, none⟩ (.int .i64 0)).setCell ⟨w.heap.size, 2, none⟩ (.int .i64 0)).setCell ⟨w.heap.size, 3, none⟩ (.slice none 0 0)).drew) := ⟨_, rfl⟩
     obtain ⟨w12, hw12⟩ := hw12
     rw [← hw12] at hT9 hP9
     rw [← hw12]
     clear hw12
     simp only [sZ, sS] at hT9
     have y0 : w12.cell? ⟨w.heap.size, 0, none⟩ = some (.int .i64 0) := hT9.cell 0
     have y1 : w12.cell? ⟨w.heap.size, 1, none⟩ = some (.int .i64 0) := hT9.cell 1
     have y2 : w12.cell? ⟨w.heap.size, 2, none⟩ = some (.int .i64 0) := hT9.cell 2
     have y3 : w12.cell? ⟨w.heap.size, 3, none⟩ = some (.slice none 0 0) := hT9.cell 3
     clear t0 t1 t2 t3 z0 z1 z2 z3 cl1 g1r
     go_wp2_with fail
     refine bodyPost_ret (v := .tuple #[.agg #[.int .i64 0, .int .i64 0, .int .i64 0, .slice none 0 0], .int .i64 0, .int .i64 27]) (by simp [results, Tryz.results46, go_sem, y0, y1, y2, y3]) rfl ?_
     exact ⟨dErr 27, none, 0, rfl, HTo.out, (by intro i u hu; simp [dErr] at hu), fun _ => rfl, Nat.le_refl _, hP9⟩
   ·
    have HTo : Hid (DecTo (bitsOf true bl) (dErr 27)) := qh (Or.inr ⟨HLen.out, Or.inl ⟨fun hk => by obtain ⟨h1, h2, h3, h4, h5, h6⟩ := hk; obtain ⟨q1, q2, q3, q4, q5, q6, q7⟩ := HQ.out; omega, rfl⟩⟩)
    try have cD : decide (((v7 : Nat) : Int) ≤ 32) = false := decide_eq_false (by omega)
    go_wp2_with fail
    all_goals (try contradiction)
    obtain ⟨wS, hwS⟩ : ∃ wS, wS = w11.setCell ⟨rr, 1, none⟩ (.int .i64 27) := ⟨_, rfl⟩
    have hTS : BlockIs wS w.heap.size _ _ := hwS ▸ hT2.setOther (p := ⟨rr, 1, none⟩) (fun e => by have e' : rr = w.heap.size := e; omega) (.int .i64 27)
    have gS : wS.cell? ⟨rr, 0 + 1, none⟩ = some (.int .i64 27) := by rw [hwS]; exact (hRS.blk.set 1 (.int .i64 27)).cell 1
    have hPS : Pure w wS := hwS ▸ hP2.trans ((Ext.refl (fun i => i = rr) w11).setCell (p := ⟨rr, 1, none⟩) (fun _ => rfl) (.int .i64 27)) (fun i hi e => by have e' : i = rr := e; omega)
    rw [← hwS]
    clear hwS g1 hT2 hP2 f1
    have hT2 := hTS
    have g1 := gS
    have hP2 := hPS
    clear hTS gS hPS
    have t0 : wS.cell? ⟨w.heap.size, 0, none⟩ = some (.int .i64 0) := hT2.cell 0
    have t1 : wS.cell? ⟨w.heap.size, 0 + 1, none⟩ = some (.int .i64 0) := hT2.cell 1
    have t2 : wS.cell? ⟨w.heap.size, 0 + 2, none⟩ = some (.int .i64 0) := hT2.cell 2
    have t3 : wS.cell? ⟨w.heap.size, 0 + 3, none⟩ = some (.slice none 0 0) := hT2.cell 3
    have z0 : wS.frozen? ⟨w.heap.size, 0, none⟩ = false := hT2.free 0
    have z1 : wS.frozen? ⟨w.heap.size, 0 + 1, none⟩ = false := hT2.free 1
    have z2 : wS.frozen? ⟨w.heap.size, 0 + 2, none⟩ = false := hT2.free 2
    have z3 : wS.frozen? ⟨w.heap.size, 0 + 3, none⟩ = false := hT2.free 3
    have g1r : wS.drew.cell? ⟨rr, 0 + 1, none⟩ = some (.int .i64 27) := g1
    have cl1 := fun w' (hS : Ext (fun i => i = w.heap.size) wS.drew w') => hS.cell_some g1r (fun e => by have e' : rr = w.heap.size := e; omega)
    refine region_start (fun i => i = w.heap.size) (by kernel_rfl) ?_
    try simp only [Act.put, sA, sZ, sS]
    refine region_take 0 86 (v := ?vbz20) rfl rfl (by kernel_rfl) (by kernel_rfl) (by kernel_rfl) (fun _ _ _ h => h) (by rfl) (fun w' hS => ?hbz20) ?rbz20
    case hbz20 => go_simp; with_reducible rfl
    try simp only [Act.put, sA, sZ, sS]
    refine region_take 1 87 (v := ?vbz21) rfl rfl (by kernel_rfl) (by kernel_rfl) (by kernel_rfl) (fun _ _ _ h => h) (by rfl) (fun w' hS => ?hbz21) ?rbz21
    case hbz21 => go_simp; with_reducible rfl
    try simp only [Act.put, sA, sZ, sS]
    refine region_take 2 88 (v := ?vbz22) rfl rfl (by kernel_rfl) (by kernel_rfl) (by kernel_rfl) (fun _ _ _ h => h) (by rfl) (fun w' hS => ?hbz22) ?rbz22
    case hbz22 => go_simp; with_reducible rfl
    try simp only [Act.put, sA, sZ, sS]
    refine region_take 3 89 (v := ?vbz23) rfl rfl (by kernel_rfl) (by kernel_rfl) (by kernel_rfl) (fun _ _ _ h => h) (by rfl) (fun w' hS => ?hbz23) ?rbz23
    case hbz23 => go_simp; with_reducible rfl
    try simp only [Act.put, sA, sZ, sS]
    refine region_take 4 90 (v := ?vbz24) rfl rfl (by kernel_rfl) (by kernel_rfl) (by kernel_rfl) (fun _ _ _ h => h) (by rfl) (fun w' hS => ?hbz24) ?rbz24
    case hbz24 => go_simp; with_reducible rfl
    try simp only [Act.put, sA, sZ, sS]
    refine wpAnyH_ready (rs := [5]) (by kernel_rfl) (by simp) (AllReadyH.cons rfl (fun K hK => ?_) AllReadyH.nil)
    go_simp
    refine hK.out _ _ ((ext4a wS.drew w.heap.size : Ext _ wS.drew _)) (fun hHeld => ?_)
    clear hK K hHeld
    refine region_now ((ext4a wS.drew w.heap.size : Ext _ wS.drew _)) ?_
    try simp only [Act.put, sA, sZ, sS]
    refine region_take 6 3 (v := ?vbz26) rfl rfl (by kernel_rfl) (by kernel_rfl) (by kernel_rfl) (fun _ _ _ h => h) (by rfl) (fun w' hS => ?hbz26) ?rbz26
    case hbz26 => go_simp; with_reducible rfl
    try simp only [Act.put, sA, sZ, sS]
    refine region_take 7 4 (v := ?vbz27) rfl rfl (by kernel_rfl) (by kernel_rfl) (by kernel_rfl) (fun _ _ _ h => h) (by rfl) (fun w' hS => ?hbz27) ?rbz27
    case hbz27 => go_simp; with_reducible rfl
    try simp only [Act.put, sA, sZ, sS]
    refine wpAnyH_done (by kernel_rfl) ?_ _
    have hT9 := ((((hT2.set 0 (.int .i64 0)).set 1 (.int .i64 0)).set 2 (.int .i64 0)).set 3 (.slice none 0 0)).drew
    have hP9 : Pure w (((((wS.setCell ⟨w.heap.size, 0, none⟩ (.int .i64 0)).setCell ⟨w.heap.size, 1, none⟩ (.int .i64 0)).setCell ⟨w.heap.size, 2, none⟩ (.int .i64 0)).setCell ⟨w.heap.size, 3, none⟩ (.slice none 0 0)).drew) := hP2.drew.trans (ext4a wS.drew w.heap.size : Ext _ wS.drew _) (fun i hi e => by have e' : i = w.heap.size := e; omega)
    have hw12 : ∃ w12, w12 = (((((wS.setCell ⟨w.heap.size, 0, none⟩ (.int .i64 0)).setCell ⟨w.heap.size, 1, none⟩ (.int .i64 0)).setCell ⟨w.heap.size, 2, none⟩ (.int .i64 0)).setCell ⟨w.heap.size, 3, none⟩ (.slice none 0 0)).drew) := ⟨_, rfl⟩
    obtain ⟨w12, hw12⟩ := hw12
    rw [← hw12] at hT9 hP9
    rw [← hw12]
    clear hw12
    simp only [sZ, sS] at hT9
    have y0 : w12.cell? ⟨w.heap.size, 0, none⟩ = some (.int .i64 0) := hT9.cell 0
    have y1 : w12.cell? ⟨w.heap.size, 1, none⟩ = some (.int .i64 0) := hT9.cell 1
    have y2 : w12.cell? ⟨w.heap.size, 2, none⟩ = some (.int .i64 0) := hT9.cell 2
    have y3 : w12.cell? ⟨w.heap.size, 3, none⟩ = some (.slice none 0 0) := hT9.cell 3
    clear t0 t1 t2 t3 z0 z1 z2 z3 cl1 g1r
    go_wp2_with fail
    refine bodyPost_ret (v := .tuple #[.agg #[.int .i64 0, .int .i64 0, .int .i64 0, .slice none 0 0], .int .i64 0, .int .i64 27]) (by simp [results, Tryz.results46, go_sem, y0, y1, y2, y3]) rfl ?_
    exact ⟨dErr 27, none, 0, rfl, HTo.out, (by intro i u hu; simp [dErr] at hu), fun _ => rfl, Nat.le_refl _, hP9⟩
  ·
   have HTo : Hid (DecTo (bitsOf true bl) (dErr 27)) := qh (Or.inr ⟨HLen.out, Or.inl ⟨fun hk => by obtain ⟨h1, h2, h3, h4, h5, h6⟩ := hk; obtain ⟨q1, q2, q3, q4, q5, q6, q7⟩ := HQ.out; omega, rfl⟩⟩)
   try have cD : decide (((v7 : Nat) : Int) ≤ 32) = false := decide_eq_false (by omega)
   go_wp2_with fail
   all_goals (try contradiction)
   obtain ⟨wS, hwS⟩ : ∃ wS, wS = w11.setCell ⟨rr, 1, none⟩ (.int .i64 27) := ⟨_, rfl⟩
   have hTS : BlockIs wS w.heap.size _ _ := hwS ▸ hT2.setOther (p := ⟨rr, 1, none⟩) (fun e => by have e' : rr = w.heap.size := e; omega) (.int .i64 27)
   have gS : wS.cell? ⟨rr, 0 + 1, none⟩ = some (.int .i64 27) := by rw [hwS]; exact (hRS.blk.set 1 (.int .i64 27)).cell 1
   have hPS : Pure w wS := hwS ▸ hP2.trans ((Ext.refl (fun i => i = rr) w11).setCell (p := ⟨rr, 1, none⟩) (fun _ => rfl) (.int .i64 27)) (fun i hi e => by have e' : i = rr := e; omega)
   rw [← hwS]
   clear hwS g1 hT2 hP2 f1
   have hT2 := hTS
   have g1 := gS
   have hP2 := hPS
   clear hTS gS hPS
   have t0 : wS.cell? ⟨w.heap.size, 0, none⟩ = some (.int .i64 0) := hT2.cell 0
   have t1 : wS.cell? ⟨w.heap.size, 0 + 1, none⟩ = some (.int .i64 0) := hT2.cell 1
   have t2 : wS.cell? ⟨w.heap.size, 0 + 2, none⟩ = some (.int .i64 0) := hT2.cell 2
   have t3 : wS.cell? ⟨w.heap.size, 0 + 3, none⟩ = some (.slice none 0 0) := hT2.cell 3
   have z0 : wS.frozen? ⟨w.heap.size, 0, none⟩ = false := hT2.free 0
   have z1 : wS.frozen? ⟨w.heap.size, 0 + 1, none⟩ = false := hT2.free 1
   have z2 : wS.frozen? ⟨w.heap.size, 0 + 2, none⟩ = false := hT2.free 2
   have z3 : wS.frozen? ⟨w.heap.size, 0 + 3, none⟩ = false := hT2.free 3
   have g1r : wS.drew.cell? ⟨rr, 0 + 1, none⟩ = some (.int .i64 27) := g1
   have cl1 := fun w' (hS : Ext (fun i => i = w.heap.size) wS.drew w') => hS.cell_some g1r (fun e => by have e' : rr = w.heap.size := e; omega)
   refine region_start (fun i => i = w.heap.size) (by kernel_rfl) ?_
   try simp only [Act.put, sA, sZ, sS]
   refine region_take 0 86 (v := ?vbz10) rfl rfl (by kernel_rfl) (by kernel_rfl) (by kernel_rfl) (fun _ _ _ h => h) (by rfl) (fun w' hS => ?hbz10) ?rbz10
   case hbz10 => go_simp; with_reducible rfl
   try simp only [Act.put, sA, sZ, sS]
   refine region_take 1 87 (v := ?vbz11) rfl rfl (by kernel_rfl) (by kernel_rfl) (by kernel_rfl) (fun _ _ _ h => h) (by rfl) (fun w' hS => ?hbz11) ?rbz11
   case hbz11 => go_simp; with_reducible rfl
   try simp only [Act.put, sA, sZ, sS]
   refine region_take 2 88 (v := ?vbz12) rfl rfl (by kernel_rfl) (by kernel_rfl) (by kernel_rfl) (fun _ _ _ h => h) (by rfl) (fun w' hS => ?hbz12) ?rbz12
   case hbz12 => go_simp; with_reducible rfl
   try simp only [Act.put, sA, sZ, sS]
   refine region_take 3 89 (v := ?vbz13) rfl rfl (by kernel_rfl) (by kernel_rfl) (by kernel_rfl) (fun _ _ _ h => h) (by rfl) (fun w' hS => ?hbz13) ?rbz13
   case hbz13 => go_simp; with_reducible rfl
   try simp only [Act.put, sA, sZ, sS]
   refine region_take 4 90 (v := ?vbz14) rfl rfl (by kernel_rfl) (by kernel_rfl) (by kernel_rfl) (fun _ _ _ h => h) (by rfl) (fun w' hS => ?hbz14) ?rbz14
   case hbz14 => go_simp; with_reducible rfl
   try simp only [Act.put, sA, sZ, sS]
   refine wpAnyH_ready (rs := [5]) (by kernel_rfl) (by simp) (AllReadyH.cons rfl (fun K hK => ?_) AllReadyH.nil)
   go_simp
   refine hK.out _ _ ((ext4a wS.drew w.heap.size : Ext _ wS.drew _)) (fun hHeld => ?_)
   clear hK K hHeld
   refine region_now ((ext4a wS.drew w.heap.size : Ext _ wS.drew _)) ?_
   try simp only [Act.put, sA, sZ, sS]
   refine region_take 6 3 (v := ?vbz16) rfl rfl (by kernel_rfl) (by kernel_rfl) (by kernel_rfl) (fun _ _ _ h => h) (by rfl) (fun w' hS => ?hbz16) ?rbz16
   case hbz16 => go_simp; with_reducible rfl
   try simp only [Act.put, sA, sZ, sS]
   refine region_take 7 4 (v := ?vbz17) rfl rfl (by kernel_rfl) (by kernel_rfl) (by kernel_rfl) (fun _ _ _ h => h) (by rfl) (fun w' hS => ?hbz17) ?rbz17
   case hbz17 => go_simp; with_reducible rfl
   try simp only [Act.put, sA, sZ, sS]
   refine wpAnyH_done (by kernel_rfl) ?_ _
   have hT9 := ((((hT2.set 0 (.int .i64 0)).set 1 (.int .i64 0)).set 2 (.int .i64 0)).set 3 (.slice none 0 0)).drew
   have hP9 : Pure w (((((wS.setCell ⟨w.heap.size, 0, none⟩ (.int .i64 0)).setCell ⟨w.heap.size, 1, none⟩ (.int .i64 0)).setCell ⟨w.heap.size, 2, none⟩ (.int .i64 0)).setCell ⟨w.heap.size, 3, none⟩ (.slice none 0 0)).drew) := hP2.drew.trans (ext4a wS.drew w.heap.size : Ext _ wS.drew _) (fun i hi e => by have e' : i = w.heap.size := e; omega)
   have hw12 : ∃ w12, w12 = (((((wS.setCell ⟨w.heap.size, 0, none⟩ (.int .i64 0)).setCell ⟨w.heap.size, 1, none⟩ (.int .i64 0)).setCell ⟨w.heap.size, 2, none⟩ (.int .i64 0)).setCell ⟨w.heap.size, 3, none⟩ (.slice none 0 0)).drew) := ⟨_, rfl⟩
   obtain ⟨w12, hw12⟩ := hw12
   rw [← hw12] at hT9 hP9
   rw [← hw12]
   clear hw12
   simp only [sZ, sS] at hT9
   have y0 : w12.cell? ⟨w.heap.size, 0, none⟩ = some (.int .i64 0) := hT9.cell 0
   have y1 : w12.cell? ⟨w.heap.size, 1, none⟩ = some (.int .i64 0) := hT9.cell 1
   have y2 : w12.cell? ⟨w.heap.size, 2, none⟩ = some (.int .i64 0) := hT9.cell 2
   have y3 : w12.cell? ⟨w.heap.size, 3, none⟩ = some (.slice none 0 0) := hT9.cell 3
   clear t0 t1 t2 t3 z0 z1 z2 z3 cl1 g1r
   go_wp2_with fail
   refine bodyPost_ret (v := .tuple #[.agg #[.int .i64 0, .int .i64 0, .int .i64 0, .slice none 0 0], .int .i64 0, .int .i64 27]) (by simp [results, Tryz.results46, go_sem, y0, y1, y2, y3]) rfl ?_
   exact ⟨dErr 27, none, 0, rfl, HTo.out, (by intro i u hu; simp [dErr] at hu), fun _ => rfl, Nat.le_refl _, hP9⟩
end Go.Proofs.YtomcdhljjmnahaaGreat.S27
namespace Go.Proofs.YtomcdhljjmnahaaGreat.S27
open Go.RowKit
set_option maxHeartbeats 1000000 in
theorem refcheck_any (o a f : Int) (la : Option Addr) (c : Nat) (ls : List Int) (w : World) (hr : RowOf w la (ls.map iV)) (hl : (ls.length : Int) ≤ 9223372036854775807) :
 Calls Tryz.prog 38 #[tblV o a f la ls.length c] w (ChkRes (okT o a f ls) w) := by
 unfold tblV
 by_cases c0 : o < 0
 ·have hk : okT o a f ls = false := by cases h : okT o a f ls with
   | false => rfl
   | true => (have := okT_true.1 h; omega)
  have HK := qh hk
  clear hk
  go_enter Tryz.func38, Tryz.ntmps38
  go_wp2_with fail
  go_ret
  exact chk_no HK.out (ext_alloc _ _)
 by_cases c1 : 4096 < o
 ·have hk : okT o a f ls = false := by cases h : okT o a f ls with
   | false => rfl
   | true => (have := okT_true.1 h; omega)
  have HK := qh hk
  clear hk
  go_enter Tryz.func38, Tryz.ntmps38
  go_wp2_with fail
  go_ret
  exact chk_no HK.out (ext_alloc _ _)
 by_cases c2 : a < 0
 ·have hk : okT o a f ls = false := by cases h : okT o a f ls with
   | false => rfl
   | true => (have := okT_true.1 h; omega)
  have HK := qh hk
  clear hk
  go_enter Tryz.func38, Tryz.ntmps38
  go_wp2_with fail
  go_ret
  exact chk_no HK.out (ext_alloc _ _)
 by_cases c3 : 2147483647 < a
 ·have hk : okT o a f ls = false := by cases h : okT o a f ls with
   | false => rfl
   | true => (have := okT_true.1 h; omega)
  have HK := qh hk
  clear hk
  go_enter Tryz.func38, Tryz.ntmps38
  go_wp2_with fail
  go_ret
  exact chk_no HK.out (ext_alloc _ _)
 by_cases c4 : (4096 : Int) < (ls.length : Int)
 ·have hk : okT o a f ls = false := by cases h : okT o a f ls with
   | false => rfl
   | true => (have := okT_true.1 h; omega)
  have HK := qh hk
  clear hk
  go_enter Tryz.func38, Tryz.ntmps38
  go_wp2_with fail
  go_ret
  exact chk_no HK.out (ext_alloc _ _)
 by_cases c5 : f < 0
 ·have hk : okT o a f ls = false := by cases h : okT o a f ls with
   | false => rfl
   | true => (have := okT_true.1 h; omega)
  have HK := qh hk
  clear hk
  go_enter Tryz.func38, Tryz.ntmps38
  go_wp2_with fail
  go_ret
  exact chk_no HK.out (ext_alloc _ _)
 by_cases c6 : (ls.length : Int) < f
 ·have hk : okT o a f ls = false := by cases h : okT o a f ls with
   | false => rfl
   | true => (have := okT_true.1 h; omega)
  have HK := qh hk
  clear hk
  go_enter Tryz.func38, Tryz.ntmps38
  go_wp2_with fail
  go_ret
  exact chk_no HK.out (ext_alloc _ _)
 have hk : okT o a f ls = !ls.any odd := by
  have h1 : inB o 0 4096 = true := inB_true.2 (by omega)
  have h2 : inB a 0 2147483647 = true := inB_true.2 (by omega)
  have h3 : decide (ls.length ≤ 4096) = true := decide_eq_true (by omega)
  have h4 : inB f 0 ls.length = true := inB_true.2 (by omega)
  unfold okT; rw [h1, h2, h3, h4]; rfl
 have HK := qh hk
 have hr1 := hr.ext (ext_alloc w (.cells #[.int .i64 o, .int .i64 a, .int .i64 f, .slice la ls.length c] 73)) (fun _ _ => id)
 clear hk
 go_enter Tryz.func38, Tryz.ntmps38
 go_wp2_with fail
 go_loop [3] (fun i => ∃ k : Nat, k ≤ ls.length ∧ i = .int .i64 k ∧ (ls.take k).any odd = false) (fun i => ls.length - (intOf i).toNat)
 case atStart => exact ⟨0, Nat.zero_le _, rfl, rfl⟩
 case round =>
  obtain ⟨k, hk, rfl, hno⟩ := hrel
  have HNo := qh hno
  clear hno
  by_cases hlt : k < ls.length
  ·have hki : (k : Int) < (ls.length : Int) := by omega
   have hk0 : (0 : Int) ≤ (k : Int) := by omega
   obtain ⟨b, o2, rfl, h0⟩ := iV_at hr1 k hlt
   have HT := qh (any_take_succ odd ls k hlt)
   have HA := qh (any_of_at odd ls k hlt)
   by_cases x1 : ls[k] < 1
   ·have hb : odd ls[k] = true := by unfold odd; rw [inB_false.2 (Or.inl x1)]; rfl
    have HA' := qh (HA.out hb)
    generalize ls[k] = x at *
    clear hb HA HT
    go_wp2_with fail
    go_ret
    exact chk_no (by rw [HK.out, HA'.out]; rfl) (ext_alloc _ _)
   ·by_cases x2 : 2147483647 < ls[k]
    ·have hb : odd ls[k] = true := by unfold odd; rw [inB_false.2 (Or.inr x2)]; rfl
     have HA' := qh (HA.out hb)
     generalize ls[k] = x at *
     clear hb HA HT
     go_wp2_with fail
     go_ret
     exact chk_no (by rw [HK.out, HA'.out]; rfl) (ext_alloc _ _)
    ·have hb : odd ls[k] = false := by unfold odd; rw [inB_true.2 (by omega)]; rfl
     rw [hb, HNo.out] at HT
     generalize ls[k] = x at *
     clear hb HA
     go_wp2_with fail
     go_round
     case rel => exact ⟨k + 1, by omega, by go_num, HT.out⟩
     case measure => simp [intOf]; omega
  ·have hki : ¬ (k : Int) < (ls.length : Int) := by omega
   rw [List.take_of_length_le (by omega)] at HNo
   go_wp2_with fail
   go_ret
   exact chk_yes (by rw [HK.out, HNo.out]; rfl) (ext_alloc _ _)
