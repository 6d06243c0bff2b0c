import Derived.Test.YtomcdhljjmnahaaGreatLibPAPa
import Derived.Test.YtomcdhljjmnahaaGreatLibBAPa
import Derived.OwnWalk
import Derived.Test.YtomcdhljjmnahaaGreatLibBBPa
import Derived.Test.YtomcdhljjmnahaaGreatSqPa
set_option linter.unusedVariables false
set_option linter.unusedSimpArgs false
set_option maxRecDepth 100000
namespace Go.Proofs.YtomcdhljjmnahaaGreat.P26
open Go.RowKit C26
theorem numRes_mk {rr rb : Nat} {l : List UInt8} {s s' : St} {n v : Nat} {a : Option Addr} {c : Nat} {W : World} {e : Ending} {W' : World} (h : NumRes rr rb l s n a c W e W') (hv : num1 (bitsOf true l) s n = (v, s')) : e = .returned (.int .i64 (v : Nat)) ∧ RS W' rr rb l s' a c ∧ Ext (RdS rr rb) W W' := by
 unfold NumRes at h
 rw [hv] at h
 exact h
def AtOr (bs : List Bool) (s : St) (o : Nat) : Prop := (s = (o, 0) ∧ o ≤ bs.length) ∨ (s.2 = 10 ∧ bs.length < o)
theorem num1_at {bs : List Bool} {s s' : St} {w v o o' : Nat} (h : num1 bs s w = (v, s')) (hs : AtOr bs s o) (ho : o' = o + w) : AtOr bs s' o' ∧ (o' ≤ bs.length → v = numAt bs o w) := by
 subst ho
 rcases hs with ⟨rfl, hl⟩ | ⟨he, hl⟩
 ·by_cases hc : bs.length < o + w
  ·rw [num1_cut hc] at h
   cases h
   exact ⟨Or.inr ⟨rfl, hc⟩, fun hh => by omega⟩
  ·rw [num1_yes (by omega)] at h
   cases h
   exact ⟨Or.inl ⟨rfl, by omega⟩, fun _ => rfl⟩
 ·rw [num1_err (by rw [he]; decide)] at h
  cases h
  exact ⟨Or.inr ⟨he, by omega⟩, fun hh => by omega⟩
theorem head_plain {bs : List Bool} {v1 v2 v3 v4 v5 v6 v7 v8 v9 v10 v11 v12 v13 : Nat} {s1 s2 s3 s4 s5 s6 s7 s8 s9 s10 s11 s12 s13 : St} (k1 : num1 bs (0, 0) 32 = (v1, s1)) (k2 : num1 bs s1 32 = (v2, s2)) (k3 : num1 bs s2 16 = (v3, s3)) (k4 : num1 bs s3 32 = (v4, s4)) (k5 : num1 bs s4 16 = (v5, s5)) (k6 : num1 bs s5 32 = (v6, s6)) (k7 : num1 bs s6 16 = (v7, s7)) (k8 : num1 bs s7 32 = (v8, s8)) (k9 : num1 bs s8 16 = (v9, s9)) (k10 : num1 bs s9 16 = (v10, s10)) (k11 : num1 bs s10 16 = (v11, s11)) (k12 : num1 bs s11 16 = (v12, s12)) (k13 : num1 bs s12 16 = (v13, s13)) :
 (bs.length < 288 ∧ s13.2 = 10) ∨ (288 ≤ bs.length ∧ s13 = (288, 0) ∧ v1 = h0 bs ∧ v2 = h1 bs ∧ v3 = h2 bs ∧ v4 = h3 bs ∧ v5 = h4 bs ∧ v7 = h6 bs ∧ v9 = h8 bs ∧ v10 = h9 bs ∧ v11 = h10 bs ∧ v12 = h11 bs) := by
 obtain ⟨a1, b1⟩ := num1_at (o' := 32) k1 (o := 0) (Or.inl ⟨rfl, Nat.zero_le _⟩) rfl
 obtain ⟨a2, b2⟩ := num1_at (o' := 64) k2 a1 rfl
 obtain ⟨a3, b3⟩ := num1_at (o' := 80) k3 a2 rfl
 obtain ⟨a4, b4⟩ := num1_at (o' := 112) k4 a3 rfl
 obtain ⟨a5, b5⟩ := num1_at (o' := 128) k5 a4 rfl
 obtain ⟨a6, b6⟩ := num1_at (o' := 160) k6 a5 rfl
 obtain ⟨a7, b7⟩ := num1_at (o' := 176) k7 a6 rfl
 obtain ⟨a8, b8⟩ := num1_at (o' := 208) k8 a7 rfl
 obtain ⟨a9, b9⟩ := num1_at (o' := 224) k9 a8 rfl
 obtain ⟨a10, b10⟩ := num1_at (o' := 240) k10 a9 rfl
 obtain ⟨a11, b11⟩ := num1_at (o' := 256) k11 a10 rfl
 obtain ⟨a12, b12⟩ := num1_at (o' := 272) k12 a11 rfl
 obtain ⟨a13, b13⟩ := num1_at (o' := 288) k13 a12 rfl
 rcases a13 with ⟨h, hl⟩ | ⟨h, hl⟩
 ·exact Or.inr ⟨hl, h, b1 (by omega), b2 (by omega), b3 (by omega), b4 (by omega), b5 (by omega), b7 (by omega), b9 (by omega), b10 (by omega), b11 (by omega), b12 (by omega)⟩
 ·exact Or.inl ⟨hl, h⟩
def HoldTo2 (rr rb : Nat) (l : List UInt8) (s : St) (so : Bool) (a : Option Addr) (c : Nat) (W : World) (e : Ending) (W' : World) : Prop := e = .returned (.tuple #[]) ∧ RS W' rr rb l (s.1, if s.2 = 0 then (if so = true then 0 else 27) else s.2) a c ∧ Ext (fun i => i = rr) W W'
theorem hold_all (so : Bool) (rr rb : Nat) (l : List UInt8) (a : Option Addr) (c : Nat) (s : St) (W : World) (hS : RS W rr rb l s a c) :
 Calls Tryz.prog 116 #[.pointer (some ⟨rr, 0, none⟩), .bool so] W (HoldTo2 rr rb l s so a c W) := by
 obtain ⟨p, er⟩ := s
 by_cases he : er = 0
 ·subst he
  exact (hold_any so rr rb l a c p W hS).mono fun e W' ⟨h1, h2, h3⟩ => ⟨h1, by simpa using h2, h3⟩
 ·have g1 : W.cell? ⟨rr, 0 + 1, none⟩ = some (.int .i64 er) := hS.blk.cell 1
  have he1 : (er == 0) = false := by simpa using he
  have HS : Hid (RS W rr rb l (p, if er = 0 then (if so = true then 0 else 27) else er) a c) := qh (by rw [if_neg he]; exact hS)
  clear hS he
  go_enter Tryz.func116, Tryz.ntmps116
  go_wp2_with fail
  go_end0
  exact ⟨rfl, HS.out, Ext.refl _ _⟩
theorem mx32 {ls : List Nat} : mx ls ≤ 32 ↔ ∀ y ∈ ls, y ≤ 32 :=
 ⟨fun h y hy => Nat.le_trans (le_mx hy) h, fun h => Nat.le_of_lt_succ (mx_lt (by decide) (fun y hy => Nat.lt_succ_of_le (h y hy)))⟩
def HeadOk2 (v2 v3 v5 v7 v9 v10 v11 v12 : Nat) : Bool := decide (v2 ≤ 2147483647) && decide (mx [v3, v5, v7, v9, v10, v11, v12] ≤ 32)
theorem headOk2_yes {v2 v3 v5 v7 v9 v10 v11 v12 : Nat} (h1 : v2 ≤ 2147483647) (h2 : mx [v3, v5, v7, v9, v10, v11, v12] ≤ 32) : HeadOk2 v2 v3 v5 v7 v9 v10 v11 v12 = true := by simp [HeadOk2, h1, h2]
theorem headOk2_no {v2 v3 v5 v7 v9 v10 v11 v12 : Nat} (h : ¬ v2 ≤ 2147483647 ∨ ¬ mx [v3, v5, v7, v9, v10, v11, v12] ≤ 32) : HeadOk2 v2 v3 v5 v7 v9 v10 v11 v12 = false := by
 rcases h with h | h <;> simp [HeadOk2, h]
theorem head_end {bs : List Bool} {v1 v2 v3 v4 v5 v7 v9 v10 v11 v12 : Nat} {s13 : St} {so : Bool} (hp : (bs.length < 288 ∧ s13.2 = 10) ∨ (288 ≤ bs.length ∧ s13 = (288, 0) ∧ v1 = h0 bs ∧ v2 = h1 bs ∧ v3 = h2 bs ∧ v4 = h3 bs ∧ v5 = h4 bs ∧ v7 = h6 bs ∧ v9 = h8 bs ∧ v10 = h9 bs ∧ v11 = h10 bs ∧ v12 = h11 bs)) (hso : HeadOk2 v2 v3 v5 v7 v9 v10 v11 v12 = so) :
 (bs.length < 288 ∧ (if s13.2 = 0 then (if so = true then (0 : Int) else 27) else s13.2) = 10) ∨ (288 ≤ bs.length ∧ ((¬ HeadOk bs ∧ (if s13.2 = 0 then (if so = true then (0 : Int) else 27) else s13.2) = 27) ∨ (HeadOk bs ∧ (if s13.2 = 0 then (if so = true then (0 : Int) else 27) else s13.2) = 0 ∧ s13.1 = 288 ∧ v1 = h0 bs ∧ v2 = h1 bs ∧ v3 = h2 bs ∧ v4 = h3 bs ∧ v5 = h4 bs ∧ v7 = h6 bs ∧ v9 = h8 bs ∧ v10 = h9 bs ∧ v11 = h10 bs ∧ v12 = h11 bs))) := by
 rcases hp with ⟨hl, he⟩ | ⟨hl, rfl, rfl, rfl, rfl, rfl, rfl, rfl, rfl, rfl, rfl, rfl⟩
 ·exact Or.inl ⟨hl, by rw [he]; rfl⟩
 ·refine Or.inr ⟨hl, ?_⟩
  cases so with
  | false =>
    refine Or.inl ⟨fun hk => ?_, rfl⟩
    obtain ⟨k1, k2, k3, k4, k5, k6, k7, k8⟩ := hk
    rw [headOk2_yes k1 (mx32.2 (by simp; exact ⟨k2, k3, k4, k5, k6, k7, k8⟩))] at hso
    cases hso
  | true =>
    simp only [HeadOk2, Bool.and_eq_true, decide_eq_true_eq, mx32] at hso
    obtain ⟨k1, hm⟩ := hso
    simp at hm
    exact Or.inr ⟨⟨k1, hm.1, hm.2.1, hm.2.2.1, hm.2.2.2.1, hm.2.2.2.2.1, hm.2.2.2.2.2.1, hm.2.2.2.2.2.2⟩, rfl, rfl, rfl, rfl, rfl, rfl, rfl, rfl, rfl, rfl, rfl, rfl⟩
def HeadTo (rr rb : Nat) (l : List UInt8) (a : Option Addr) (c : Nat) (W : World) (e : Ending) (W' : World) : Prop :=
 ∃ (v1 v2 v3 v4 v5 v7 v9 v10 v11 v12 q : Nat) (er : Int), e = .returned (.agg #[.int .i64 v1, .int .i64 v2, .int .i64 v3, .int .i64 v4, .int .i64 v5, .int .i64 v7, .int .i64 v9, .int .i64 v10, .int .i64 v11, .int .i64 v12]) ∧ RS W' rr rb l (q, er) a c ∧ Ext (RdS rr rb) W W' ∧
   (((bitsOf true l).length < 288 ∧ er = 10) ∨ (288 ≤ (bitsOf true l).length ∧ ((¬ HeadOk (bitsOf true l) ∧ er = 27) ∨ (HeadOk (bitsOf true l) ∧ er = 0 ∧ q = 288 ∧ v1 = h0 (bitsOf true l) ∧ v2 = h1 (bitsOf true l) ∧ v3 = h2 (bitsOf true l) ∧ v4 = h3 (bitsOf true l) ∧ v5 = h4 (bitsOf true l) ∧ v7 = h6 (bitsOf true l) ∧ v9 = h8 (bitsOf true l) ∧ v10 = h9 (bitsOf true l) ∧ v11 = h10 (bitsOf true l) ∧ v12 = h11 (bitsOf true l)))))
set_option maxHeartbeats 8000000 in
theorem head_any (rr rb : Nat) (l : List UInt8) (a : Option Addr) (c : Nat) (W : World) (hRS : RS W rr rb l (0, 0) a c) (hl : l.length ≤ 10000000) (halt : ∀ g, a = some g → g.block < W.heap.size) :
 Calls Tryz.prog 84 #[.pointer (some ⟨rr, 0, none⟩)] W (HeadTo rr rb l a c W) := by
 obtain ⟨tb, htb⟩ : ∃ z, z = W.heap.size := ⟨_, rfl⟩
 obtain ⟨ub, hub⟩ : ∃ z, z = tb + 1 := ⟨_, rfl⟩
 have hrr := hRS.blk.lt
 have hrb := hRS.rd.blk.lt
 rw [← htb] at hrr hrb halt
 obtain ⟨w1, hw1⟩ : ∃ z, z = (W.alloc (.cells #[.int .i64 0, .int .i64 0, .int .i64 0, .int .i64 0, .int .i64 0, .int .i64 0, .int .i64 0, .int .i64 0, .int .i64 0, .int .i64 0] 134)).alloc (.cells #[.int .i64 0, .int .i64 0, .int .i64 0, .int .i64 0, .int .i64 0, .int .i64 0, .int .i64 0, .int .i64 0, .int .i64 0, .int .i64 0] 134) := ⟨_, rfl⟩
 have hT : BlockIs w1 tb [.int .i64 0, .int .i64 0, .int .i64 0, .int .i64 0, .int .i64 0, .int .i64 0, .int .i64 0, .int .i64 0, .int .i64 0, .int .i64 0] 134 := by rw [hw1, htb]; exact (BlockIs.new W _ _).alloc _
 have hU : BlockIs w1 ub [.int .i64 0, .int .i64 0, .int .i64 0, .int .i64 0, .int .i64 0, .int .i64 0, .int .i64 0, .int .i64 0, .int .i64 0, .int .i64 0] 134 := by
  rw [hw1, hub, htb, show W.heap.size + 1 = (W.alloc (.cells #[.int .i64 0, .int .i64 0, .int .i64 0, .int .i64 0, .int .i64 0, .int .i64 0, .int .i64 0, .int .i64 0, .int .i64 0, .int .i64 0] 134)).heap.size from (World.size_alloc _ _).symm]
  exact BlockIs.new _ _ _
 have hP1 : Pure W w1 := by rw [hw1]; exact ((Ext.refl _ W).alloc _).alloc _
 have hX : Ext (RdS rr rb) W w1 := hP1.mono (fun _ _ e => e.elim)
 have hRS1 := hRS.pure hP1
 have HW1 := qh hw1
 have HTB := qh htb
 have HUB := qh hub
 have hTno : ¬ RdS rr rb tb := fun e => by rcases e with e | e <;> omega
 have hUno : ¬ RdS rr rb ub := fun e => by rcases e with e | e <;> omega
 have hbase : W.heap.size ≤ tb := by omega
 have htu : tb < ub := by omega
 clear hw1 hP1 hRS htb hub
 have hRS := hRS1
 clear hRS1
 go_enter Tryz.func84, Tryz.ntmps84
 go_wp2_with fail
 rw [← HW1.out, ← HTB.out, ← HUB.out]
 obtain ⟨v1, s1, hv1⟩ : ∃ v s, num1 (bitsOf true l) (0,0) 32 = (v, s) := ⟨_, _, rfl⟩
 refine (num_any rr rb l (0,0) a c 32 w1 hRS (by omega) hl).mono ?_
 intro e w2 hnr
 obtain ⟨rfl, hRSn, hEn⟩ := numRes_mk hnr hv1
 have hTn := hT.ext hEn hTno
 have hUn := hU.ext hEn hUno
 have hXn := hX.trans hEn (fun _ _ e => e)
 clear hRS hT hU hX hnr hEn
 have hRS := hRSn
 have hT := hTn
 have hU := hUn
 have hX := hXn
 clear hRSn hTn hUn hXn
 have HV1 := qh hv1
 clear hv1
 go_wp2_with fail
 obtain ⟨v2, s2, hv2⟩ : ∃ v s, num1 (bitsOf true l) s1 32 = (v, s) := ⟨_, _, rfl⟩
 refine (num_any rr rb l s1 a c 32 w2 hRS (by omega) hl).mono ?_
 intro e w3 hnr
 obtain ⟨rfl, hRSn, hEn⟩ := numRes_mk hnr hv2
 have hTn := hT.ext hEn hTno
 have hUn := hU.ext hEn hUno
 have hXn := hX.trans hEn (fun _ _ e => e)
 clear hRS hT hU hX hnr hEn
 have hRS := hRSn
 have hT := hTn
 have hU := hUn
 have hX := hXn
 clear hRSn hTn hUn hXn
 have HV2 := qh hv2
 clear hv2
 go_wp2_with fail
 obtain ⟨v3, s3, hv3⟩ : ∃ v s, num1 (bitsOf true l) s2 16 = (v, s) := ⟨_, _, rfl⟩
 refine (num_any rr rb l s2 a c 16 w3 hRS (by omega) hl).mono ?_
 intro e w4 hnr
 obtain ⟨rfl, hRSn, hEn⟩ := numRes_mk hnr hv3
 have hTn := hT.ext hEn hTno
 have hUn := hU.ext hEn hUno
 have hXn := hX.trans hEn (fun _ _ e => e)
 clear hRS hT hU hX hnr hEn
 have hRS := hRSn
 have hT := hTn
 have hU := hUn
 have hX := hXn
 clear hRSn hTn hUn hXn
 have HV3 := qh hv3
 clear hv3
 have fz0 : w4.frozen? ⟨ub, 0, none⟩ = false := hU.free 0
 have cz0 : w4.cell? ⟨ub, 0, none⟩ = some (.int .i64 0) := hU.cell 0
 have fz1 : w4.frozen? ⟨ub, 1, none⟩ = false := hU.free 1
 have cz1 : w4.cell? ⟨ub, 1, none⟩ = some (.int .i64 0) := hU.cell 1
 have fz2 : w4.frozen? ⟨ub, 2, none⟩ = false := hU.free 2
 have cz2 : w4.cell? ⟨ub, 2, none⟩ = some (.int .i64 0) := hU.cell 2
 go_wp2_with fail
 clear fz0 cz0
 clear fz1 cz1
 clear fz2 cz2
 obtain ⟨w5, hWN⟩ : ∃ z, z = (((w4).setCell ⟨ub, 0, none⟩ (.int .i64 (v1 : Nat))).setCell ⟨ub, 1, none⟩ (.int .i64 (v2 : Nat))).setCell ⟨ub, 2, none⟩ (.int .i64 (v3 : Nat)) := ⟨_, rfl⟩
 have hEs : Ext (fun i => i = ub) w4 w5 := hWN ▸ ((((Ext.refl (fun i => i = ub) w4).setCell (p := ⟨ub, 0, none⟩) (fun _ => rfl) (.int .i64 (v1 : Nat))).setCell (p := ⟨ub, 1, none⟩) (fun _ => rfl) (.int .i64 (v2 : Nat))).setCell (p := ⟨ub, 2, none⟩) (fun _ => rfl) (.int .i64 (v3 : Nat)))
 have hUs : BlockIs w5 ub [.int .i64 (v1 : Nat), .int .i64 (v2 : Nat), .int .i64 (v3 : Nat), .int .i64 0, .int .i64 0, .int .i64 0, .int .i64 0, .int .i64 0, .int .i64 0, .int .i64 0] 134 := hWN ▸ (((hU.set 0 (.int .i64 (v1 : Nat))).set 1 (.int .i64 (v2 : Nat))).set 2 (.int .i64 (v3 : Nat)))
 rw [← hWN]
 clear hWN
 have hRSn := hRS.ext hEs (fun e => hUno (Or.inl e.symm)) (fun e => hUno (Or.inr e.symm)) (fun g hg e => by have := halt g hg; have e' : g.block = ub := e; omega)
 have hTn := hT.ext hEs (fun e => by have e' : tb = ub := e; omega)
 have hXn := hX.trans hEs (fun i hi e => by have e' : i = ub := e; omega)
 clear hRS hT hU hX hEs
 have hRS := hRSn
 have hT := hTn
 have hU := hUs
 have hX := hXn
 clear hRSn hTn hUs hXn
 obtain ⟨v4, s4, hv4⟩ : ∃ v s, num1 (bitsOf true l) s3 32 = (v, s) := ⟨_, _, rfl⟩
 refine (num_any rr rb l s3 a c 32 w5 hRS (by omega) hl).mono ?_
 intro e w6 hnr
 obtain ⟨rfl, hRSn, hEn⟩ := numRes_mk hnr hv4
 have hTn := hT.ext hEn hTno
 have hUn := hU.ext hEn hUno
 have hXn := hX.trans hEn (fun _ _ e => e)
 clear hRS hT hU hX hnr hEn
 have hRS := hRSn
 have hT := hTn
 have hU := hUn
 have hX := hXn
 clear hRSn hTn hUn hXn
 have HV4 := qh hv4
 clear hv4
 go_wp2_with fail
 obtain ⟨v5, s5, hv5⟩ : ∃ v s, num1 (bitsOf true l) s4 16 = (v, s) := ⟨_, _, rfl⟩
 refine (num_any rr rb l s4 a c 16 w6 hRS (by omega) hl).mono ?_
 intro e w7 hnr
 obtain ⟨rfl, hRSn, hEn⟩ := numRes_mk hnr hv5
 have hTn := hT.ext hEn hTno
 have hUn := hU.ext hEn hUno
 have hXn := hX.trans hEn (fun _ _ e => e)
 clear hRS hT hU hX hnr hEn
 have hRS := hRSn
 have hT := hTn
 have hU := hUn
 have hX := hXn
 clear hRSn hTn hUn hXn
 have HV5 := qh hv5
 clear hv5
 have fz3 : w7.frozen? ⟨ub, 3, none⟩ = false := hU.free 3
 have cz3 : w7.cell? ⟨ub, 3, none⟩ = some (.int .i64 0) := hU.cell 3
 have fz4 : w7.frozen? ⟨ub, 4, none⟩ = false := hU.free 4
 have cz4 : w7.cell? ⟨ub, 4, none⟩ = some (.int .i64 0) := hU.cell 4
 go_wp2_with fail
 clear fz3 cz3
 clear fz4 cz4
 obtain ⟨w8, hWN⟩ : ∃ z, z = ((w7).setCell ⟨ub, 3, none⟩ (.int .i64 (v4 : Nat))).setCell ⟨ub, 4, none⟩ (.int .i64 (v5 : Nat)) := ⟨_, rfl⟩
 have hEs : Ext (fun i => i = ub) w7 w8 := hWN ▸ (((Ext.refl (fun i => i = ub) w7).setCell (p := ⟨ub, 3, none⟩) (fun _ => rfl) (.int .i64 (v4 : Nat))).setCell (p := ⟨ub, 4, none⟩) (fun _ => rfl) (.int .i64 (v5 : Nat)))
 have hUs : BlockIs w8 ub [.int .i64 (v1 : Nat), .int .i64 (v2 : Nat), .int .i64 (v3 : Nat), .int .i64 (v4 : Nat), .int .i64 (v5 : Nat), .int .i64 0, .int .i64 0, .int .i64 0, .int .i64 0, .int .i64 0] 134 := hWN ▸ ((hU.set 3 (.int .i64 (v4 : Nat))).set 4 (.int .i64 (v5 : Nat)))
 rw [← hWN]
 clear hWN
 have hRSn := hRS.ext hEs (fun e => hUno (Or.inl e.symm)) (fun e => hUno (Or.inr e.symm)) (fun g hg e => by have := halt g hg; have e' : g.block = ub := e; omega)
 have hTn := hT.ext hEs (fun e => by have e' : tb = ub := e; omega)
 have hXn := hX.trans hEs (fun i hi e => by have e' : i = ub := e; omega)
 clear hRS hT hU hX hEs
 have hRS := hRSn
 have hT := hTn
 have hU := hUs
 have hX := hXn
 clear hRSn hTn hUs hXn
 obtain ⟨v6, s6, hv6⟩ : ∃ v s, num1 (bitsOf true l) s5 32 = (v, s) := ⟨_, _, rfl⟩
 refine (num_any rr rb l s5 a c 32 w8 hRS (by omega) hl).mono ?_
 intro e w9 hnr
 obtain ⟨rfl, hRSn, hEn⟩ := numRes_mk hnr hv6
 have hTn := hT.ext hEn hTno
 have hUn := hU.ext hEn hUno
 have hXn := hX.trans hEn (fun _ _ e => e)
 clear hRS hT hU hX hnr hEn
 have hRS := hRSn
 have hT := hTn
 have hU := hUn
 have hX := hXn
 clear hRSn hTn hUn hXn
 have HV6 := qh hv6
 clear hv6
 go_wp2_with fail
 obtain ⟨v7, s7, hv7⟩ : ∃ v s, num1 (bitsOf true l) s6 16 = (v, s) := ⟨_, _, rfl⟩
 refine (num_any rr rb l s6 a c 16 w9 hRS (by omega) hl).mono ?_
 intro e w10 hnr
 obtain ⟨rfl, hRSn, hEn⟩ := numRes_mk hnr hv7
 have hTn := hT.ext hEn hTno
 have hUn := hU.ext hEn hUno
 have hXn := hX.trans hEn (fun _ _ e => e)
 clear hRS hT hU hX hnr hEn
 have hRS := hRSn
 have hT := hTn
 have hU := hUn
 have hX := hXn
 clear hRSn hTn hUn hXn
 have HV7 := qh hv7
 clear hv7
 have fz5 : w10.frozen? ⟨ub, 5, none⟩ = false := hU.free 5
 have cz5 : w10.cell? ⟨ub, 5, none⟩ = some (.int .i64 0) := hU.cell 5
 go_wp2_with fail
 clear fz5 cz5
 obtain ⟨w11, hWN⟩ : ∃ z, z = (w10).setCell ⟨ub, 5, none⟩ (.int .i64 (v7 : Nat)) := ⟨_, rfl⟩
 have hEs : Ext (fun i => i = ub) w10 w11 := hWN ▸ ((Ext.refl (fun i => i = ub) w10).setCell (p := ⟨ub, 5, none⟩) (fun _ => rfl) (.int .i64 (v7 : Nat)))
 have hUs : BlockIs w11 ub [.int .i64 (v1 : Nat), .int .i64 (v2 : Nat), .int .i64 (v3 : Nat), .int .i64 (v4 : Nat), .int .i64 (v5 : Nat), .int .i64 (v7 : Nat), .int .i64 0, .int .i64 0, .int .i64 0, .int .i64 0] 134 := hWN ▸ (hU.set 5 (.int .i64 (v7 : Nat)))
 rw [← hWN]
 clear hWN
 have hRSn := hRS.ext hEs (fun e => hUno (Or.inl e.symm)) (fun e => hUno (Or.inr e.symm)) (fun g hg e => by have := halt g hg; have e' : g.block = ub := e; omega)
 have hTn := hT.ext hEs (fun e => by have e' : tb = ub := e; omega)
 have hXn := hX.trans hEs (fun i hi e => by have e' : i = ub := e; omega)
 clear hRS hT hU hX hEs
 have hRS := hRSn
 have hT := hTn
 have hU := hUs
 have hX := hXn
 clear hRSn hTn hUs hXn
 obtain ⟨v8, s8, hv8⟩ : ∃ v s, num1 (bitsOf true l) s7 32 = (v, s) := ⟨_, _, rfl⟩
 refine (num_any rr rb l s7 a c 32 w11 hRS (by omega) hl).mono ?_
 intro e w12 hnr
 obtain ⟨rfl, hRSn, hEn⟩ := numRes_mk hnr hv8
 have hTn := hT.ext hEn hTno
 have hUn := hU.ext hEn hUno
 have hXn := hX.trans hEn (fun _ _ e => e)
 clear hRS hT hU hX hnr hEn
 have hRS := hRSn
 have hT := hTn
 have hU := hUn
 have hX := hXn
 clear hRSn hTn hUn hXn
 have HV8 := qh hv8
 clear hv8
 go_wp2_with fail
 obtain ⟨v9, s9, hv9⟩ : ∃ v s, num1 (bitsOf true l) s8 16 = (v, s) := ⟨_, _, rfl⟩
 refine (num_any rr rb l s8 a c 16 w12 hRS (by omega) hl).mono ?_
 intro e w13 hnr
 obtain ⟨rfl, hRSn, hEn⟩ := numRes_mk hnr hv9
 have hTn := hT.ext hEn hTno
 have hUn := hU.ext hEn hUno
 have hXn := hX.trans hEn (fun _ _ e => e)
 clear hRS hT hU hX hnr hEn
 have hRS := hRSn
 have hT := hTn
 have hU := hUn
 have hX := hXn
 clear hRSn hTn hUn hXn
 have HV9 := qh hv9
 clear hv9
 go_wp2_with fail
 obtain ⟨v10, s10, hv10⟩ : ∃ v s, num1 (bitsOf true l) s9 16 = (v, s) := ⟨_, _, rfl⟩
 refine (num_any rr rb l s9 a c 16 w13 hRS (by omega) hl).mono ?_
 intro e w14 hnr
 obtain ⟨rfl, hRSn, hEn⟩ := numRes_mk hnr hv10
 have hTn := hT.ext hEn hTno
 have hUn := hU.ext hEn hUno
 have hXn := hX.trans hEn (fun _ _ e => e)
 clear hRS hT hU hX hnr hEn
 have hRS := hRSn
 have hT := hTn
 have hU := hUn
 have hX := hXn
 clear hRSn hTn hUn hXn
 have HV10 := qh hv10
 clear hv10
 go_wp2_with fail
 obtain ⟨v11, s11, hv11⟩ : ∃ v s, num1 (bitsOf true l) s10 16 = (v, s) := ⟨_, _, rfl⟩
 refine (num_any rr rb l s10 a c 16 w14 hRS (by omega) hl).mono ?_
 intro e w15 hnr
 obtain ⟨rfl, hRSn, hEn⟩ := numRes_mk hnr hv11
 have hTn := hT.ext hEn hTno
 have hUn := hU.ext hEn hUno
 have hXn := hX.trans hEn (fun _ _ e => e)
 clear hRS hT hU hX hnr hEn
 have hRS := hRSn
 have hT := hTn
 have hU := hUn
 have hX := hXn
 clear hRSn hTn hUn hXn
 have HV11 := qh hv11
 clear hv11
 go_wp2_with fail
 obtain ⟨v12, s12, hv12⟩ : ∃ v s, num1 (bitsOf true l) s11 16 = (v, s) := ⟨_, _, rfl⟩
 refine (num_any rr rb l s11 a c 16 w15 hRS (by omega) hl).mono ?_
 intro e w16 hnr
 obtain ⟨rfl, hRSn, hEn⟩ := numRes_mk hnr hv12
 have hTn := hT.ext hEn hTno
 have hUn := hU.ext hEn hUno
 have hXn := hX.trans hEn (fun _ _ e => e)
 clear hRS hT hU hX hnr hEn
 have hRS := hRSn
 have hT := hTn
 have hU := hUn
 have hX := hXn
 clear hRSn hTn hUn hXn
 have HV12 := qh hv12
 clear hv12
 have fz6 : w16.frozen? ⟨ub, 6, none⟩ = false := hU.free 6
 have cz6 : w16.cell? ⟨ub, 6, none⟩ = some (.int .i64 0) := hU.cell 6
 have fz7 : w16.frozen? ⟨ub, 7, none⟩ = false := hU.free 7
 have cz7 : w16.cell? ⟨ub, 7, none⟩ = some (.int .i64 0) := hU.cell 7
 have fz8 : w16.frozen? ⟨ub, 8, none⟩ = false := hU.free 8
 have cz8 : w16.cell? ⟨ub, 8, none⟩ = some (.int .i64 0) := hU.cell 8
 have fz9 : w16.frozen? ⟨ub, 9, none⟩ = false := hU.free 9
 have cz9 : w16.cell? ⟨ub, 9, none⟩ = some (.int .i64 0) := hU.cell 9
 go_wp2_with fail
 clear fz6 cz6
 clear fz7 cz7
 clear fz8 cz8
 clear fz9 cz9
 obtain ⟨w17, hWN⟩ : ∃ z, z = ((((w16).setCell ⟨ub, 6, none⟩ (.int .i64 (v9 : Nat))).setCell ⟨ub, 7, none⟩ (.int .i64 (v10 : Nat))).setCell ⟨ub, 8, none⟩ (.int .i64 (v11 : Nat))).setCell ⟨ub, 9, none⟩ (.int .i64 (v12 : Nat)) := ⟨_, rfl⟩
 have hEs : Ext (fun i => i = ub) w16 w17 := hWN ▸ (((((Ext.refl (fun i => i = ub) w16).setCell (p := ⟨ub, 6, none⟩) (fun _ => rfl) (.int .i64 (v9 : Nat))).setCell (p := ⟨ub, 7, none⟩) (fun _ => rfl) (.int .i64 (v10 : Nat))).setCell (p := ⟨ub, 8, none⟩) (fun _ => rfl) (.int .i64 (v11 : Nat))).setCell (p := ⟨ub, 9, none⟩) (fun _ => rfl) (.int .i64 (v12 : Nat)))
 have hUs : BlockIs w17 ub [.int .i64 (v1 : Nat), .int .i64 (v2 : Nat), .int .i64 (v3 : Nat), .int .i64 (v4 : Nat), .int .i64 (v5 : Nat), .int .i64 (v7 : Nat), .int .i64 (v9 : Nat), .int .i64 (v10 : Nat), .int .i64 (v11 : Nat), .int .i64 (v12 : Nat)] 134 := hWN ▸ ((((hU.set 6 (.int .i64 (v9 : Nat))).set 7 (.int .i64 (v10 : Nat))).set 8 (.int .i64 (v11 : Nat))).set 9 (.int .i64 (v12 : Nat)))
 rw [← hWN]
 clear hWN
 have hRSn := hRS.ext hEs (fun e => hUno (Or.inl e.symm)) (fun e => hUno (Or.inr e.symm)) (fun g hg e => by have := halt g hg; have e' : g.block = ub := e; omega)
 have hTn := hT.ext hEs (fun e => by have e' : tb = ub := e; omega)
 have hXn := hX.trans hEs (fun i hi e => by have e' : i = ub := e; omega)
 clear hRS hT hU hX hEs
 have hRS := hRSn
 have hT := hTn
 have hU := hUs
 have hX := hXn
 clear hRSn hTn hUs hXn
 obtain ⟨v13, s13, hv13⟩ : ∃ v s, num1 (bitsOf true l) s12 16 = (v, s) := ⟨_, _, rfl⟩
 refine (num_any rr rb l s12 a c 16 w17 hRS (by omega) hl).mono ?_
 intro e w18 hnr
 obtain ⟨rfl, hRSn, hEn⟩ := numRes_mk hnr hv13
 have hTn := hT.ext hEn hTno
 have hUn := hU.ext hEn hUno
 have hXn := hX.trans hEn (fun _ _ e => e)
 clear hRS hT hU hX hnr hEn
 have hRS := hRSn
 have hT := hTn
 have hU := hUn
 have hX := hXn
 clear hRSn hTn hUn hXn
 have HV13 := qh hv13
 clear hv13
 have cu0 : w18.cell? ⟨ub, 0, none⟩ = some (.int .i64 (v1 : Nat)) := hU.cell 0
 have cu1 : w18.cell? ⟨ub, 1, none⟩ = some (.int .i64 (v2 : Nat)) := hU.cell 1
 have cu2 : w18.cell? ⟨ub, 2, none⟩ = some (.int .i64 (v3 : Nat)) := hU.cell 2
 have cu3 : w18.cell? ⟨ub, 3, none⟩ = some (.int .i64 (v4 : Nat)) := hU.cell 3
 have cu4 : w18.cell? ⟨ub, 4, none⟩ = some (.int .i64 (v5 : Nat)) := hU.cell 4
 have cu5 : w18.cell? ⟨ub, 5, none⟩ = some (.int .i64 (v7 : Nat)) := hU.cell 5
 have cu6 : w18.cell? ⟨ub, 6, none⟩ = some (.int .i64 (v9 : Nat)) := hU.cell 6
 have cu7 : w18.cell? ⟨ub, 7, none⟩ = some (.int .i64 (v10 : Nat)) := hU.cell 7
 have cu8 : w18.cell? ⟨ub, 8, none⟩ = some (.int .i64 (v11 : Nat)) := hU.cell 8
 have cu9 : w18.cell? ⟨ub, 9, none⟩ = some (.int .i64 (v12 : Nat)) := hU.cell 9
 have hubl := hU.lt
 have HPl := qh (head_plain HV1.out HV2.out HV3.out HV4.out HV5.out HV6.out HV7.out HV8.out HV9.out HV10.out HV11.out HV12.out HV13.out)
 clear HV1 HV2 HV3 HV4 HV5 HV6 HV7 HV8 HV9 HV10 HV11 HV12 HV13
 obtain ⟨w19, hw19⟩ : ∃ z, z = (w18.alloc (.cells #[.int .i64 (v3 : Nat), .int .i64 (v5 : Nat), .int .i64 (v7 : Nat), .int .i64 (v9 : Nat), .int .i64 (v10 : Nat), .int .i64 (v11 : Nat), .int .i64 (v12 : Nat)] 3)) := ⟨_, rfl⟩
 have hP19 : Pure w18 w19 := hw19 ▸ ext_alloc w18 _
 have hRow : RowOf w19 (some ⟨w18.heap.size, 0, none⟩) (([v3, v5, v7, v9, v10, v11, v12] : List Nat).map intV) := hw19 ▸ row_at _ rfl rfl
 have hM7 : ∀ w' : World, w' = w19 → Calls Tryz.prog 61 #[.slice (some ⟨w18.heap.size, 0, none⟩) 7 7] w' (fun e w'' => e = .returned (.int .i64 (mx [v3, v5, v7, v9, v10, v11, v12] : Nat)) ∧ w'' = w19) := fun w' h => by
  subst h
  exact maxN_any (some ⟨w18.heap.size, 0, none⟩) 7 [v3, v5, v7, v9, v10, v11, v12] w' hRow (by simp) (by simp)
 have HM := qh (hM7 w19 rfl)
 have hS19 := hRS.pure hP19
 have hT19 := hT.ext hP19 id
 have hU19 := hU.ext hP19 id
 have hX19 := hX.pure hP19
 have cw1 : w19.cell? ⟨ub, 1, none⟩ = some (.int .i64 (v2 : Nat)) := hU19.cell 1
 have HH := qh (fun so => hold_all so rr rb l a c s13 w19 hS19)
 obtain ⟨M, hM⟩ : ∃ M, M = mx [v3, v5, v7, v9, v10, v11, v12] := ⟨_, rfl⟩
 rw [← hM] at HM
 have HMx := qh hM
 have HW19 := qh hw19
 clear hw19 hM hM7 hRS hT hU hX hS19 hRow
 by_cases d1 : ((v2 : Nat) : Int) ≤ 2147483647
 ·by_cases d2 : (M : Int) ≤ 32
  ·
   have HSo : Hid (HeadOk2 v2 v3 v5 v7 v9 v10 v11 v12 = true) := qh (headOk2_yes (by omega) (by rw [← HMx.out]; omega))
   go_wp2_with fail
   rw [← HW19.out]
   refine HM.out.mono ?_
   rintro e w19b ⟨rfl, hw19b⟩
   obtain rfl := hw19b.symm
   go_wp2_with fail
   clear HM HW19 cu0 cu1 cu2 cu3 cu4 cu5 cu6 cu7 cu8 cu9 cw1
   refine (HH.out true).mono ?_
   rintro e w20 ⟨rfl, hS20, hX20⟩
   have hT20 := hT19.ext hX20 (fun e => by have e' : tb = rr := e; omega)
   have hU20 := hU19.ext hX20 (fun e => by have e' : ub = rr := e; omega)
   have hXX := hX19.trans hX20 (fun i hi e => Or.inl e)
   have hub20 := hU20.lt
   have htb20 := hT20.lt
   clear HH
   have hAll : (#[.int .i64 (v1 : Nat), .int .i64 (v2 : Nat), .int .i64 (v3 : Nat), .int .i64 (v4 : Nat), .int .i64 (v5 : Nat), .int .i64 (v7 : Nat), .int .i64 (v9 : Nat), .int .i64 (v10 : Nat), .int .i64 (v11 : Nat), .int .i64 (v12 : Nat)] : Array Value).all (fun v => v.oneCell') = true := all_oneCell_toArray (cs := [.int .i64 (v1 : Nat), .int .i64 (v2 : Nat), .int .i64 (v3 : Nat), .int .i64 (v4 : Nat), .int .i64 (v5 : Nat), .int .i64 (v7 : Nat), .int .i64 (v9 : Nat), .int .i64 (v10 : Nat), .int .i64 (v11 : Nat), .int .i64 (v12 : Nat)]) (by intro v hv; simp only [List.mem_cons, List.not_mem_nil, or_false] at hv; rcases hv with rfl | rfl | rfl | rfl | rfl | rfl | rfl | rfl | rfl | rfl <;> rfl)
   have HAll := qh hAll
   clear hAll
   have hR0 := hU20.range
   have hT0 := hT20.there 10 rfl
   have hTS := hT20.setAll [.int .i64 (v1 : Nat), .int .i64 (v2 : Nat), .int .i64 (v3 : Nat), .int .i64 (v4 : Nat), .int .i64 (v5 : Nat), .int .i64 (v7 : Nat), .int .i64 (v9 : Nat), .int .i64 (v10 : Nat), .int .i64 (v11 : Nat), .int .i64 (v12 : Nat)] rfl
   have hXS : Ext (RdS rr rb) W (w20.setCells tb 0 [.int .i64 (v1 : Nat), .int .i64 (v2 : Nat), .int .i64 (v3 : Nat), .int .i64 (v4 : Nat), .int .i64 (v5 : Nat), .int .i64 (v7 : Nat), .int .i64 (v9 : Nat), .int .i64 (v10 : Nat), .int .i64 (v11 : Nat), .int .i64 (v12 : Nat)]) := hXX.setCells _ 0 _ (fun h => absurd h (by omega))
   have hSS := hS20.ext (Ext.setCells (S := fun i => i = tb) [.int .i64 (v1 : Nat), .int .i64 (v2 : Nat), .int .i64 (v3 : Nat), .int .i64 (v4 : Nat), .int .i64 (v5 : Nat), .int .i64 (v7 : Nat), .int .i64 (v9 : Nat), .int .i64 (v10 : Nat), .int .i64 (v11 : Nat), .int .i64 (v12 : Nat)] 0 w20 (Ext.refl _ _) (fun _ => rfl)) (fun e => by have e' : rr = tb := e; omega) (fun e => by have e' : rb = tb := e; omega) (fun g hg e => by have := halt g hg; have e' : g.block = tb := e; omega)
   obtain ⟨w21, hw21⟩ : ∃ z, z = w20.setCells tb 0 [.int .i64 (v1 : Nat), .int .i64 (v2 : Nat), .int .i64 (v3 : Nat), .int .i64 (v4 : Nat), .int .i64 (v5 : Nat), .int .i64 (v7 : Nat), .int .i64 (v9 : Nat), .int .i64 (v10 : Nat), .int .i64 (v11 : Nat), .int .i64 (v12 : Nat)] := ⟨_, rfl⟩
   rw [← hw21] at hTS hXS hSS
   have HW21 := qh hw21
   clear hw21
   go_wp2_with (first | (refine wpList_load_mid rfl 134 (.tmp 3) rfl ub 0 rfl [.int .i64 (v1 : Nat), .int .i64 (v2 : Nat), .int .i64 (v3 : Nat), .int .i64 (v4 : Nat), .int .i64 (v5 : Nat), .int .i64 (v7 : Nat), .int .i64 (v9 : Nat), .int .i64 (v10 : Nat), .int .i64 (v11 : Nat), .int .i64 (v12 : Nat)] _ hR0 Tryz.underlying134 rfl (by kernel_rfl) ?_) | (refine wpList_store_mid rfl 134 (.tmp 2) (.tmp 66) rfl tb 0 #[.int .i64 (v1 : Nat), .int .i64 (v2 : Nat), .int .i64 (v3 : Nat), .int .i64 (v4 : Nat), .int .i64 (v5 : Nat), .int .i64 (v7 : Nat), .int .i64 (v9 : Nat), .int .i64 (v10 : Nat), .int .i64 (v11 : Nat), .int .i64 (v12 : Nat)] rfl rfl hT0 (by kernel_rfl) HAll.out ?_; rw [show w20.setCells tb 0 (#[.int .i64 (v1 : Nat), .int .i64 (v2 : Nat), .int .i64 (v3 : Nat), .int .i64 (v4 : Nat), .int .i64 (v5 : Nat), .int .i64 (v7 : Nat), .int .i64 (v9 : Nat), .int .i64 (v10 : Nat), .int .i64 (v11 : Nat), .int .i64 (v12 : Nat)] : Array Value).toList = w21 from HW21.out.symm]))
   refine bodyPost_ret (v := .agg #[.int .i64 (v1 : Nat), .int .i64 (v2 : Nat), .int .i64 (v3 : Nat), .int .i64 (v4 : Nat), .int .i64 (v5 : Nat), .int .i64 (v7 : Nat), .int .i64 (v9 : Nat), .int .i64 (v10 : Nat), .int .i64 (v11 : Nat), .int .i64 (v12 : Nat)]) (results_cell_row Tryz.results84 _ _ tb _ #[.int .i64 (v1 : Nat), .int .i64 (v2 : Nat), .int .i64 (v3 : Nat), .int .i64 (v4 : Nat), .int .i64 (v5 : Nat), .int .i64 (v7 : Nat), .int .i64 (v9 : Nat), .int .i64 (v10 : Nat), .int .i64 (v11 : Nat), .int .i64 (v12 : Nat)] (0, 0) _ rfl hTS Tryz.underlying134 rfl (by kernel_rfl)) rfl ?_
   exact ⟨v1, v2, v3, v4, v5, v7, v9, v10, v11, v12, s13.1, _, rfl, hSS, hXS, head_end HPl.out HSo.out⟩
  ·
   have dM : decide ((M : Int) ≤ 32) = false := decide_eq_false d2
   have HSo : Hid (HeadOk2 v2 v3 v5 v7 v9 v10 v11 v12 = false) := qh (headOk2_no (Or.inr (by rw [← HMx.out]; omega)))
   go_wp2_with fail
   rw [← HW19.out]
   refine HM.out.mono ?_
   rintro e w19b ⟨rfl, hw19b⟩
   obtain rfl := hw19b.symm
   go_wp2_with fail
   clear HM HW19 cu0 cu1 cu2 cu3 cu4 cu5 cu6 cu7 cu8 cu9 cw1
   refine (HH.out false).mono ?_
   rintro e w20 ⟨rfl, hS20, hX20⟩
   have hT20 := hT19.ext hX20 (fun e => by have e' : tb = rr := e; omega)
   have hU20 := hU19.ext hX20 (fun e => by have e' : ub = rr := e; omega)
   have hXX := hX19.trans hX20 (fun i hi e => Or.inl e)
   have hub20 := hU20.lt
   have htb20 := hT20.lt
   clear HH
   have hAll : (#[.int .i64 (v1 : Nat), .int .i64 (v2 : Nat), .int .i64 (v3 : Nat), .int .i64 (v4 : Nat), .int .i64 (v5 : Nat), .int .i64 (v7 : Nat), .int .i64 (v9 : Nat), .int .i64 (v10 : Nat), .int .i64 (v11 : Nat), .int .i64 (v12 : Nat)] : Array Value).all (fun v => v.oneCell') = true := all_oneCell_toArray (cs := [.int .i64 (v1 : Nat), .int .i64 (v2 : Nat), .int .i64 (v3 : Nat), .int .i64 (v4 : Nat), .int .i64 (v5 : Nat), .int .i64 (v7 : Nat), .int .i64 (v9 : Nat), .int .i64 (v10 : Nat), .int .i64 (v11 : Nat), .int .i64 (v12 : Nat)]) (by intro v hv; simp only [List.mem_cons, List.not_mem_nil, or_false] at hv; rcases hv with rfl | rfl | rfl | rfl | rfl | rfl | rfl | rfl | rfl | rfl <;> rfl)
   have HAll := qh hAll
   clear hAll
   have hR0 := hU20.range
   have hT0 := hT20.there 10 rfl
   have hTS := hT20.setAll [.int .i64 (v1 : Nat), .int .i64 (v2 : Nat), .int .i64 (v3 : Nat), .int .i64 (v4 : Nat), .int .i64 (v5 : Nat), .int .i64 (v7 : Nat), .int .i64 (v9 : Nat), .int .i64 (v10 : Nat), .int .i64 (v11 : Nat), .int .i64 (v12 : Nat)] rfl
   have hXS : Ext (RdS rr rb) W (w20.setCells tb 0 [.int .i64 (v1 : Nat), .int .i64 (v2 : Nat), .int .i64 (v3 : Nat), .int .i64 (v4 : Nat), .int .i64 (v5 : Nat), .int .i64 (v7 : Nat), .int .i64 (v9 : Nat), .int .i64 (v10 : Nat), .int .i64 (v11 : Nat), .int .i64 (v12 : Nat)]) := hXX.setCells _ 0 _ (fun h => absurd h (by omega))
   have hSS := hS20.ext (Ext.setCells (S := fun i => i = tb) [.int .i64 (v1 : Nat), .int .i64 (v2 : Nat), .int .i64 (v3 : Nat), .int .i64 (v4 : Nat), .int .i64 (v5 : Nat), .int .i64 (v7 : Nat), .int .i64 (v9 : Nat), .int .i64 (v10 : Nat), .int .i64 (v11 : Nat), .int .i64 (v12 : Nat)] 0 w20 (Ext.refl _ _) (fun _ => rfl)) (fun e => by have e' : rr = tb := e; omega) (fun e => by have e' : rb = tb := e; omega) (fun g hg e => by have := halt g hg; have e' : g.block = tb := e; omega)
   obtain ⟨w21, hw21⟩ : ∃ z, z = w20.setCells tb 0 [.int .i64 (v1 : Nat), .int .i64 (v2 : Nat), .int .i64 (v3 : Nat), .int .i64 (v4 : Nat), .int .i64 (v5 : Nat), .int .i64 (v7 : Nat), .int .i64 (v9 : Nat), .int .i64 (v10 : Nat), .int .i64 (v11 : Nat), .int .i64 (v12 : Nat)] := ⟨_, rfl⟩
   rw [← hw21] at hTS hXS hSS
   have HW21 := qh hw21
   clear hw21
   go_wp2_with (first | (refine wpList_load_mid rfl 134 (.tmp 3) rfl ub 0 rfl [.int .i64 (v1 : Nat), .int .i64 (v2 : Nat), .int .i64 (v3 : Nat), .int .i64 (v4 : Nat), .int .i64 (v5 : Nat), .int .i64 (v7 : Nat), .int .i64 (v9 : Nat), .int .i64 (v10 : Nat), .int .i64 (v11 : Nat), .int .i64 (v12 : Nat)] _ hR0 Tryz.underlying134 rfl (by kernel_rfl) ?_) | (refine wpList_store_mid rfl 134 (.tmp 2) (.tmp 66) rfl tb 0 #[.int .i64 (v1 : Nat), .int .i64 (v2 : Nat), .int .i64 (v3 : Nat), .int .i64 (v4 : Nat), .int .i64 (v5 : Nat), .int .i64 (v7 : Nat), .int .i64 (v9 : Nat), .int .i64 (v10 : Nat), .int .i64 (v11 : Nat), .int .i64 (v12 : Nat)] rfl rfl hT0 (by kernel_rfl) HAll.out ?_; rw [show w20.setCells tb 0 (#[.int .i64 (v1 : Nat), .int .i64 (v2 : Nat), .int .i64 (v3 : Nat), .int .i64 (v4 : Nat), .int .i64 (v5 : Nat), .int .i64 (v7 : Nat), .int .i64 (v9 : Nat), .int .i64 (v10 : Nat), .int .i64 (v11 : Nat), .int .i64 (v12 : Nat)] : Array Value).toList = w21 from HW21.out.symm]))
   refine bodyPost_ret (v := .agg #[.int .i64 (v1 : Nat), .int .i64 (v2 : Nat), .int .i64 (v3 : Nat), .int .i64 (v4 : Nat), .int .i64 (v5 : Nat), .int .i64 (v7 : Nat), .int .i64 (v9 : Nat), .int .i64 (v10 : Nat), .int .i64 (v11 : Nat), .int .i64 (v12 : Nat)]) (results_cell_row Tryz.results84 _ _ tb _ #[.int .i64 (v1 : Nat), .int .i64 (v2 : Nat), .int .i64 (v3 : Nat), .int .i64 (v4 : Nat), .int .i64 (v5 : Nat), .int .i64 (v7 : Nat), .int .i64 (v9 : Nat), .int .i64 (v10 : Nat), .int .i64 (v11 : Nat), .int .i64 (v12 : Nat)] (0, 0) _ rfl hTS Tryz.underlying134 rfl (by kernel_rfl)) rfl ?_
   exact ⟨v1, v2, v3, v4, v5, v7, v9, v10, v11, v12, s13.1, _, rfl, hSS, hXS, head_end HPl.out HSo.out⟩
 ·
  have HSo : Hid (HeadOk2 v2 v3 v5 v7 v9 v10 v11 v12 = false) := qh (headOk2_no (Or.inl (by omega)))
  go_wp2_with fail
  rw [← HW19.out]
  clear HM HW19 cu0 cu1 cu2 cu3 cu4 cu5 cu6 cu7 cu8 cu9 cw1
  refine (HH.out false).mono ?_
  rintro e w20 ⟨rfl, hS20, hX20⟩
  have hT20 := hT19.ext hX20 (fun e => by have e' : tb = rr := e; omega)
  have hU20 := hU19.ext hX20 (fun e => by have e' : ub = rr := e; omega)
  have hXX := hX19.trans hX20 (fun i hi e => Or.inl e)
  have hub20 := hU20.lt
  have htb20 := hT20.lt
  clear HH
  have hAll : (#[.int .i64 (v1 : Nat), .int .i64 (v2 : Nat), .int .i64 (v3 : Nat), .int .i64 (v4 : Nat), .int .i64 (v5 : Nat), .int .i64 (v7 : Nat), .int .i64 (v9 : Nat), .int .i64 (v10 : Nat), .int .i64 (v11 : Nat), .int .i64 (v12 : Nat)] : Array Value).all (fun v => v.oneCell') = true := all_oneCell_toArray (cs := [.int .i64 (v1 : Nat), .int .i64 (v2 : Nat), .int .i64 (v3 : Nat), .int .i64 (v4 : Nat), .int .i64 (v5 : Nat), .int .i64 (v7 : Nat), .int .i64 (v9 : Nat), .int .i64 (v10 : Nat), .int .i64 (v11 : Nat), .int .i64 (v12 : Nat)]) (by intro v hv; simp only [List.mem_cons, List.not_mem_nil, or_false] at hv; rcases hv with rfl | rfl | rfl | rfl | rfl | rfl | rfl | rfl | rfl | rfl <;> rfl)
  have HAll := qh hAll
  clear hAll
  have hR0 := hU20.range
  have hT0 := hT20.there 10 rfl
  have hTS := hT20.setAll [.int .i64 (v1 : Nat), .int .i64 (v2 : Nat), .int .i64 (v3 : Nat), .int .i64 (v4 : Nat), .int .i64 (v5 : Nat), .int .i64 (v7 : Nat), .int .i64 (v9 : Nat), .int .i64 (v10 : Nat), .int .i64 (v11 : Nat), .int .i64 (v12 : Nat)] rfl
  have hXS : Ext (RdS rr rb) W (w20.setCells tb 0 [.int .i64 (v1 : Nat), .int .i64 (v2 : Nat), .int .i64 (v3 : Nat), .int .i64 (v4 : Nat), .int .i64 (v5 : Nat), .int .i64 (v7 : Nat), .int .i64 (v9 : Nat), .int .i64 (v10 : Nat), .int .i64 (v11 : Nat), .int .i64 (v12 : Nat)]) := hXX.setCells _ 0 _ (fun h => absurd h (by omega))
  have hSS := hS20.ext (Ext.setCells (S := fun i => i = tb) [.int .i64 (v1 : Nat), .int .i64 (v2 : Nat), .int .i64 (v3 : Nat), .int .i64 (v4 : Nat), .int .i64 (v5 : Nat), .int .i64 (v7 : Nat), .int .i64 (v9 : Nat), .int .i64 (v10 : Nat), .int .i64 (v11 : Nat), .int .i64 (v12 : Nat)] 0 w20 (Ext.refl _ _) (fun _ => rfl)) (fun e => by have e' : rr = tb := e; omega) (fun e => by have e' : rb = tb := e; omega) (fun g hg e => by have := halt g hg; have e' : g.block = tb := e; omega)
  obtain ⟨w21, hw21⟩ : ∃ z, z = w20.setCells tb 0 [.int .i64 (v1 : Nat), .int .i64 (v2 : Nat), .int .i64 (v3 : Nat), .int .i64 (v4 : Nat), .int .i64 (v5 : Nat), .int .i64 (v7 : Nat), .int .i64 (v9 : Nat), .int .i64 (v10 : Nat), .int .i64 (v11 : Nat), .int .i64 (v12 : Nat)] := ⟨_, rfl⟩
  rw [← hw21] at hTS hXS hSS
  have HW21 := qh hw21
  clear hw21
  go_wp2_with (first | (refine wpList_load_mid rfl 134 (.tmp 3) rfl ub 0 rfl [.int .i64 (v1 : Nat), .int .i64 (v2 : Nat), .int .i64 (v3 : Nat), .int .i64 (v4 : Nat), .int .i64 (v5 : Nat), .int .i64 (v7 : Nat), .int .i64 (v9 : Nat), .int .i64 (v10 : Nat), .int .i64 (v11 : Nat), .int .i64 (v12 : Nat)] _ hR0 Tryz.underlying134 rfl (by kernel_rfl) ?_) | (refine wpList_store_mid rfl 134 (.tmp 2) (.tmp 66) rfl tb 0 #[.int .i64 (v1 : Nat), .int .i64 (v2 : Nat), .int .i64 (v3 : Nat), .int .i64 (v4 : Nat), .int .i64 (v5 : Nat), .int .i64 (v7 : Nat), .int .i64 (v9 : Nat), .int .i64 (v10 : Nat), .int .i64 (v11 : Nat), .int .i64 (v12 : Nat)] rfl rfl hT0 (by kernel_rfl) HAll.out ?_; rw [show w20.setCells tb 0 (#[.int .i64 (v1 : Nat), .int .i64 (v2 : Nat), .int .i64 (v3 : Nat), .int .i64 (v4 : Nat), .int .i64 (v5 : Nat), .int .i64 (v7 : Nat), .int .i64 (v9 : Nat), .int .i64 (v10 : Nat), .int .i64 (v11 : Nat), .int .i64 (v12 : Nat)] : Array Value).toList = w21 from HW21.out.symm]))
  refine bodyPost_ret (v := .agg #[.int .i64 (v1 : Nat), .int .i64 (v2 : Nat), .int .i64 (v3 : Nat), .int .i64 (v4 : Nat), .int .i64 (v5 : Nat), .int .i64 (v7 : Nat), .int .i64 (v9 : Nat), .int .i64 (v10 : Nat), .int .i64 (v11 : Nat), .int .i64 (v12 : Nat)]) (results_cell_row Tryz.results84 _ _ tb _ #[.int .i64 (v1 : Nat), .int .i64 (v2 : Nat), .int .i64 (v3 : Nat), .int .i64 (v4 : Nat), .int .i64 (v5 : Nat), .int .i64 (v7 : Nat), .int .i64 (v9 : Nat), .int .i64 (v10 : Nat), .int .i64 (v11 : Nat), .int .i64 (v12 : Nat)] (0, 0) _ rfl hTS Tryz.underlying134 rfl (by kernel_rfl)) rfl ?_
  exact ⟨v1, v2, v3, v4, v5, v7, v9, v10, v11, v12, s13.1, _, rfl, hSS, hXS, head_end HPl.out HSo.out⟩
def headV (bs : List Bool) : List Value := [intV (h0 bs), intV (h1 bs), intV (h2 bs), intV (h3 bs), intV (h4 bs), intV (h6 bs), intV (h8 bs), intV (h9 bs), intV (h10 bs), intV (h11 bs)]
theorem chain3 {bs : List Bool} {n : Nat} {e1 e2 e3 : Int} (E1 : RowE bs 288 n (h2 bs) (okO (h0 bs)) e1) (E2 : (e1 ≠ 0 ∧ e2 = e1) ∨ (e1 = 0 ∧ RowE bs (q1 bs n) n (h4 bs) (okL (h3 bs)) e2)) (E3 : (e2 ≠ 0 ∧ e3 = e2) ∨ (e2 = 0 ∧ RowE bs (q2 bs n) n (h9 bs) okC e3)) :
 (e3 ≠ 0 → Rest1 bs n (dErr e3)) ∧ (e3 = 0 → e1 = 0 ∧ e2 = 0 ∧ RowE bs (q2 bs n) n (h9 bs) okC 0 ∧ ∀ r, Rest4 bs n r → Rest1 bs n r) := by
 rcases E2 with ⟨a, rfl⟩ | ⟨rfl, E2⟩
 ·rcases E3 with ⟨b, rfl⟩ | ⟨h, _⟩
  ·exact ⟨fun _ => ⟨_, E1, Or.inl ⟨a, rfl⟩⟩, fun h => absurd h a⟩
  ·exact absurd h a
 ·rcases E3 with ⟨b, rfl⟩ | ⟨rfl, E3⟩
  ·exact ⟨fun _ => ⟨0, E1, Or.inr ⟨rfl, ⟨_, E2, Or.inl ⟨b, rfl⟩⟩⟩⟩, fun h => absurd h b⟩
  ·exact ⟨fun h => ⟨0, E1, Or.inr ⟨rfl, 0, E2, Or.inr ⟨rfl, ⟨_, E3, Or.inl ⟨h, rfl⟩⟩⟩⟩⟩, fun h => by subst h; exact ⟨rfl, rfl, E3, fun r hr => ⟨0, E1, Or.inr ⟨rfl, ⟨0, E2, Or.inr ⟨rfl, ⟨0, E3, Or.inr ⟨rfl, hr⟩⟩⟩⟩⟩⟩⟩⟩
theorem chain7 {bs : List Bool} {n : Nat} {e4 e5 e6 e7 : Int} (E4 : RowE bs (q3 bs n) (mny bs n) (h10 bs) okS e4) (E5 : (e4 ≠ 0 ∧ e5 = e4) ∨ (e4 = 0 ∧ RowE bs (q4 bs n) (mny bs n) (h11 bs) okA e5)) (E6 : (e5 ≠ 0 ∧ e6 = e5) ∨ (e5 = 0 ∧ RowE bs (q5 bs n) n (h6 bs) okA e6)) (E7 : (e6 ≠ 0 ∧ e7 = e6) ∨ (e6 = 0 ∧ RowE bs (q6 bs n) n (h8 bs) okA e7)) :
 (e7 ≠ 0 → Rest4 bs n (dErr e7)) ∧ (e7 = 0 → e4 = 0 ∧ Rest4 bs n (good bs n)) := by
 have K7 : (e7 ≠ 0 → e6 = 0 → Rest7 bs n (dErr e7)) ∧ (e7 = 0 → e6 = 0 ∧ Rest7 bs n (good bs n)) := by
  rcases E7 with ⟨a, rfl⟩ | ⟨rfl, E⟩
  ·exact ⟨fun _ h => absurd h a, fun h => absurd h a⟩
  ·exact ⟨fun h _ => ⟨_, E, Or.inl ⟨h, rfl⟩⟩, fun h => by subst h; exact ⟨rfl, ⟨0, E, Or.inr ⟨rfl, rfl⟩⟩⟩⟩
 have K6 : (e7 ≠ 0 → e5 = 0 → Rest6 bs n (dErr e7)) ∧ (e7 = 0 → e5 = 0 ∧ Rest6 bs n (good bs n)) := by
  rcases E6 with ⟨a, rfl⟩ | ⟨rfl, E⟩
  ·exact ⟨fun _ h => absurd h a, fun h => absurd (K7.2 h).1 a⟩
  ·by_cases h6 : e6 = 0
   ·subst h6
    exact ⟨fun h _ => ⟨0, E, Or.inr ⟨rfl, K7.1 h rfl⟩⟩, fun h => ⟨rfl, ⟨0, E, Or.inr ⟨rfl, (K7.2 h).2⟩⟩⟩⟩
   ·have e : e7 = e6 := (E7.resolve_right (fun h => h6 h.1)).2
    subst e
    exact ⟨fun h _ => ⟨_, E, Or.inl ⟨h, rfl⟩⟩, fun h => absurd h h6⟩
 have K5 : (e7 ≠ 0 → e4 = 0 → Rest5 bs n (dErr e7)) ∧ (e7 = 0 → e4 = 0 ∧ Rest5 bs n (good bs n)) := by
  rcases E5 with ⟨a, rfl⟩ | ⟨rfl, E⟩
  ·exact ⟨fun _ h => absurd h a, fun h => absurd (K6.2 h).1 a⟩
  ·by_cases h5 : e5 = 0
   ·subst h5
    exact ⟨fun h _ => ⟨0, E, Or.inr ⟨rfl, K6.1 h rfl⟩⟩, fun h => ⟨rfl, ⟨0, E, Or.inr ⟨rfl, (K6.2 h).2⟩⟩⟩⟩
   ·have e6' : e6 = e5 := (E6.resolve_right (fun h => h5 h.1)).2
    have e7' : e7 = e5 := by
     subst e6'
     exact (E7.resolve_right (fun h => h5 h.1)).2
    exact ⟨fun h _ => ⟨_, E, Or.inl ⟨h5, by rw [e7']⟩⟩, fun h => absurd (e7' ▸ h) h5⟩
 by_cases h4 : e4 = 0
 ·subst h4
  exact ⟨fun h => ⟨0, E4, Or.inr ⟨rfl, K5.1 h rfl⟩⟩, fun h => ⟨rfl, ⟨0, E4, Or.inr ⟨rfl, (K5.2 h).2⟩⟩⟩⟩
 ·refine ⟨fun h => ?_, fun h => absurd (K5.2 h).1 h4⟩
  have e5' : e5 = e4 := (E5.resolve_right (fun h => h4 h.1)).2
  have e6' : e6 = e4 := by rw [← e5']; exact (E6.resolve_right (fun h => h4 (e5' ▸ h.1))).2
  have e7' : e7 = e4 := by rw [← e6']; exact (E7.resolve_right (fun h => h4 (e6' ▸ h.1))).2
  exact ⟨_, E4, Or.inl ⟨h4, by rw [e7']⟩⟩
theorem made_ints (n : Nat) : (madeCells #[Value.int .i64 0] n).toList = (List.replicate n 0).map intV := by
 apply List.ext_getElem?
 intro i
 unfold madeCells
 by_cases h : i < n
 ·simp [h, intV, Nat.mod_one]
 ·simp [h]
structure CutIn (A : Nat → Prop) (w0 W : World) (ob N : Nat) (os ls : List Int) (xs cs : List Nat) (k : Nat) (ps : List PH) : Prop where
 out : OutIs W ob N ps
 hos : ps.map (fun p => p.o) = os
 hls : ps.map (fun p => p.l) = ls
 hsh : (ps.take k).map (fun p => p.sh) = (cut (cs.take k) xs).map (fun l => l.map (fun x : Nat => (x : Int)))
 sub : ∀ p ∈ ps.take k, RowOf W p.sa (p.sh.map numV) ∧ (p.sh.length ≤ p.sc ∧ p.sc ≤ maxLen ∧ (p.sa = none → p.sc = 0)) ∧ ∀ g, p.sa = some g → ¬ A g.block ∧ w0.heap.size ≤ g.block
 ext : Ext A w0 W
theorem CutIn.step {A : Nat → Prop} {w0 W W' : World} {ob N k c c' j : Nat} {os ls : List Int} {xs cs : List Nat} {ps : List PH} {a : Option Addr} (h : CutIn A w0 W ob N os ls xs cs k ps) (hA : A ob) (hk : k < N) (hc : cs[k]? = some c) (hE : Pure W W') (hj : j = (cs.take k).sum)
 (hrow : RowOf W' a (((xs.drop j).take c).map intV)) (hl : ((xs.drop j).take c).length = c) (hfit : c ≤ c' ∧ c' ≤ maxLen ∧ (a = none → c' = 0)) (hfr : ∀ g, a = some g → ¬ A g.block ∧ w0.heap.size ≤ g.block) :
 (∃ y, W'.cell? ⟨ob, k * 3 + 2, none⟩ = some y) ∧ W'.frozen? ⟨ob, k * 3 + 2, none⟩ = false ∧ ∃ ps', CutIn A w0 (W'.setCell ⟨ob, k * 3 + 2, none⟩ (.slice a c c')) ob N os ls xs cs (k + 1) ps' := by
 subst hj
 have hkp : k < ps.length := by have := h.out.len; omega
 obtain ⟨p', hp'⟩ : ∃ p' : PH, p' = { ps[k] with sa := a, sc := c', sh := ((xs.drop (cs.take k).sum).take c).map (fun x : Nat => (x : Int)) } := ⟨_, rfl⟩
 obtain ⟨hy, hf, hO⟩ := (h.out.ext hE id).set k 2 hkp (by omega) (.slice a c c') p' (by rw [hp']; simp only [cellsP, List.length_map, hl]; rfl)
 have hX : Ext (fun i => i = ob) W' (W'.setCell ⟨ob, k * 3 + 2, none⟩ (.slice a c c')) := (Ext.refl (fun i => i = ob) W').setCell (p := ⟨ob, k * 3 + 2, none⟩) (fun _ => rfl) _
 refine ⟨hy, hf, _, hO, ?_, ?_, ?_, ?_, (h.ext.pure hE).trans hX (fun i _ e => by have e' : i = ob := e; rw [e']; exact hA)⟩
 ·rw [map_set_same (fun p : PH => p.o) ps k p' hkp (by rw [hp'])]; exact h.hos
 ·rw [map_set_same (fun p : PH => p.l) ps k p' hkp (by rw [hp'])]; exact h.hls
 ·rw [take_map_set (fun p : PH => p.sh) ps k p' hkp, h.hsh, cut_take_succ cs xs k c hc, List.map_append, hp']; rfl
 ·intro p hp
  rw [List.take_succ_eq_append_getElem (by simpa using hkp), List.mem_append] at hp
  rcases hp with hp | hp
  ·rw [List.take_set_of_le (Nat.le_refl _)] at hp
   obtain ⟨r, f, n⟩ := h.sub p hp
   exact ⟨(r.ext hE (fun _ _ => id)).ext hX (fun g hg e => (n g hg).1 (by have e' : g.block = ob := e; rw [e']; exact hA)), f, n⟩
  ·rw [List.getElem_set_self, List.mem_singleton] at hp
   rw [hp, hp']
   refine ⟨?_, ?_, hfr⟩
   ·have := hrow.ext hX (fun g hg e => (hfr g hg).1 (by have e' : g.block = ob := e; rw [e']; exact hA))
    simp only [List.map_map]
    exact this
   ·simp only [List.length_map, hl]; exact hfit
theorem CutIn.other {A : Nat → Prop} {w0 W W' : World} {ob N k s : Nat} {os ls : List Int} {xs cs : List Nat} {ps : List PH} (h : CutIn A w0 W ob N os ls xs cs k ps) (e : Ext (fun i => i = s) W W') (hs : A s) (hne : ob ≠ s) : CutIn A w0 W' ob N os ls xs cs k ps :=
 ⟨h.out.ext e (fun x => hne x), h.hos, h.hls, h.hsh, fun p hp => by
  obtain ⟨r, f, n⟩ := h.sub p hp
  exact ⟨r.ext e (fun g hg x => (n g hg).1 (by have x' : g.block = s := x; rw [x']; exact hs)), f, n⟩, h.ext.trans e (fun i _ x => by have x' : i = s := x; rw [x']; exact hs)⟩
theorem CutIn.hints {A : Nat → Prop} {w0 W : World} {ob N : Nat} {os ls : List Int} {xs cs : List Nat} {ps : List PH} (h : CutIn A w0 W ob N os ls xs cs N ps) : Hints W (some ⟨ob, 0, none⟩) ps := by
 have ht : ps.take N = ps := List.take_of_length_le (by have := h.out.len; omega)
 have hs := h.sub
 rw [ht] at hs
 exact ⟨own_row h.out.own, fun p hp => (hs p hp).1, fun p hp => (hs p hp).2.1⟩
theorem CutIn.fresh {A : Nat → Prop} {w0 W : World} {ob N : Nat} {os ls : List Int} {xs cs : List Nat} {ps : List PH} (h : CutIn A w0 W ob N os ls xs cs N ps) : ∀ p ∈ ps, ∀ g, p.sa = some g → w0.heap.size ≤ g.block := by
 have ht : ps.take N = ps := List.take_of_length_le (by have := h.out.len; omega)
 have hs := h.sub
 rw [ht] at hs
 exact fun p hp g hg => ((hs p hp).2.2 g hg).2
structure ShIs (W : World) (sb xb m : Nat) (sa : Option Addr) (zs : List Nat) : Prop where
 box : BlockIs W sb [.slice sa m m] 23
 row : RowOf W sa (zs.map intV)
 nil : sa = none → m = 0
 blk : ∀ g, sa = some g → g.block = xb
theorem add_block (x : Addr) (i : Nat) : (x.add i).block = x.block := by unfold Addr.add; split <;> rfl
theorem ShIs.step {S : Nat → Prop} {W W' : World} {sb xb m c' : Nat} {sa : Option Addr} {zs : List Nat} (h : ShIs W sb xb m sa zs) (hl : zs.length = m) (hc : c' ≤ m) (hE : Ext S W W') (h1 : ¬ S sb) (h2 : ¬ S xb) (hne : xb ≠ sb) :
 ShIs (W'.setCell ⟨sb, 0, none⟩ (.slice (if m = c' then sa else sa.map fun x => x.add c') (m - c') (m - c'))) sb xb (m - c') (if m = c' then sa else sa.map fun x => x.add c') (zs.drop c') := by
 have hX : ∀ v, Ext (fun i => i = sb) W' (W'.setCell ⟨sb, 0, none⟩ v) := fun v => (Ext.refl (fun i => i = sb) W').setCell (p := ⟨sb, 0, none⟩) (fun _ => rfl) v
 refine ⟨?_, ?_, ?_, ?_⟩
 ·exact (h.box.ext hE h1).set 0 _
 ·by_cases e : m = c'
  ·have : zs.drop c' = [] := List.drop_eq_nil_of_le (by omega)
   rw [this]; exact row_nil _ _
  ·rw [if_neg e, List.map_drop]
   refine ((row_drop h.row c').ext hE (fun g hg e => ?_)).ext (hX _) (fun g hg e => ?_)
   ·cases hs : sa with
    | none => rw [hs] at hg; cases hg
    | some x =>
      rw [hs] at hg; cases hg
      have e' : S (x.add c').block := e
      rw [add_block, h.blk x hs] at e'
      exact h2 e'
   ·cases hs : sa with
    | none => rw [hs] at hg; cases hg
    | some x =>
      rw [hs] at hg; cases hg
      have e' : (x.add c').block = sb := e
      rw [add_block, h.blk x hs] at e'
      exact hne e'
 ·intro hn
  by_cases e : m = c'
  ·omega
  ·rw [if_neg e] at hn
   have := h.nil (by simpa using hn)
   omega
 ·intro g hg
  by_cases e : m = c'
  ·rw [if_pos e] at hg; exact h.blk g hg
  ·rw [if_neg e] at hg
   cases hs : sa with
   | none => rw [hs] at hg; cases hg
   | some x => rw [hs] at hg; cases hg; exact (add_block x c').trans (h.blk x hs)
def PagesTo (rr rb : Nat) (l : List UInt8) (a : Option Addr) (c n : Nat) (W : World) (e : Ending) (W' : World) : Prop :=
 ∃ (oa : Option Addr) (len oc q : Nat) (er : Int), e = .returned (.slice oa len oc) ∧ RS W' rr rb l (q, er) a c ∧ Ext (RdS rr rb) W W' ∧
   ((er ≠ 0 ∧ Rest1 (bitsOf true l) n (dErr er)) ∨ (er = 0 ∧ Rest1 (bitsOf true l) n (good (bitsOf true l) n) ∧ q = q7 (bitsOf true l) n ∧ len = n ∧ ∃ ps, Hints W' oa ps ∧ (ps.length = n ∧ ∀ p ∈ ps, ∀ g, p.sa = some g → W.heap.size ≤ g.block) ∧ ps.map (fun p => (p.o, p.l, p.sh)) = resV (good (bitsOf true l) n)))
set_option maxHeartbeats 8000000 in
theorem pages_any (rr rb : Nat) (l : List UInt8) (a : Option Addr) (c N : Nat) (W : World) (hRS : RS W rr rb l (288, 0) a c) (hok : HeadOk (bitsOf true l)) (hN1 : 1 ≤ N) (hN2 : N ≤ 2048) (hl : l.length ≤ 5000000) (halt : ∀ g, a = some g → g.block < W.heap.size) :
 Calls Tryz.prog 85 #[.pointer (some ⟨rr, 0, none⟩), .agg (headV (bitsOf true l)).toArray, .int .i64 N] W (PagesTo rr rb l a c N W) := by
 obtain ⟨k1, k2, k3, k4, k5, k6, k7, k8⟩ := hok
 obtain ⟨v0, hv0⟩ : ∃ z, z = h0 (bitsOf true l) := ⟨_, rfl⟩
 obtain ⟨v1, hv1⟩ : ∃ z, z = h1 (bitsOf true l) := ⟨_, rfl⟩
 obtain ⟨v2, hv2⟩ : ∃ z, z = h2 (bitsOf true l) := ⟨_, rfl⟩
 obtain ⟨v3, hv3⟩ : ∃ z, z = h3 (bitsOf true l) := ⟨_, rfl⟩
 obtain ⟨v4, hv4⟩ : ∃ z, z = h4 (bitsOf true l) := ⟨_, rfl⟩
 obtain ⟨v6, hv6⟩ : ∃ z, z = h6 (bitsOf true l) := ⟨_, rfl⟩
 obtain ⟨v8, hv8⟩ : ∃ z, z = h8 (bitsOf true l) := ⟨_, rfl⟩
 obtain ⟨v9, hv9⟩ : ∃ z, z = h9 (bitsOf true l) := ⟨_, rfl⟩
 obtain ⟨v10, hv10⟩ : ∃ z, z = h10 (bitsOf true l) := ⟨_, rfl⟩
 obtain ⟨v11, hv11⟩ : ∃ z, z = h11 (bitsOf true l) := ⟨_, rfl⟩
 have hhv : (headV (bitsOf true l)).toArray = #[.int .i64 (v0 : Nat), .int .i64 (v1 : Nat), .int .i64 (v2 : Nat), .int .i64 (v3 : Nat), .int .i64 (v4 : Nat), .int .i64 (v6 : Nat), .int .i64 (v8 : Nat), .int .i64 (v9 : Nat), .int .i64 (v10 : Nat), .int .i64 (v11 : Nat)] := by
  rw [hv0, hv1, hv2, hv3, hv4, hv6, hv8, hv9, hv10, hv11]; rfl
 rw [hhv]
 have lv0 : v0 < 4294967296 := hv0 ▸ numAt_lt32 _ _ 32 (by omega)
 have lv3 : v3 < 4294967296 := hv3 ▸ numAt_lt32 _ _ 32 (by omega)
 rw [← hv1] at k1
 rw [← hv2] at k2
 rw [← hv4] at k3
 rw [← hv6] at k4
 rw [← hv8] at k5
 rw [← hv9] at k6
 rw [← hv10] at k7
 rw [← hv11] at k8
 have HV0 := qh hv0
 have HV2 := qh hv2
 have HV3 := qh hv3
 have HV4 := qh hv4
 have HV6 := qh hv6
 have HV8 := qh hv8
 have HV9 := qh hv9
 have HV10 := qh hv10
 have HV11 := qh hv11
 clear hv0 hv1 hv2 hv3 hv4 hv6 hv8 hv9 hv10 hv11 hhv
 obtain ⟨pb, hpb⟩ : ∃ z, z = W.heap.size := ⟨_, rfl⟩
 have hrr := hRS.blk.lt
 have hrb := hRS.rd.blk.lt
 rw [← hpb] at hrr hrb halt
 obtain ⟨pi, hpi, hpz, hps, hpbb⟩ := info_parts infoPage
 have HPI := qh hpi
 have HPZ := qh hpz
 have HPS := qh hps
 have HPB := qh hpbb
 obtain ⟨ii, hii, hiz, his, hib⟩ := info_parts infoInt
 have HII := qh hii
 have HIZ := qh hiz
 have HIS := qh his
 have HIB := qh hib
 obtain ⟨W1, hW1⟩ : ∃ z, z = (W.alloc (.cells #[.pointer (some ⟨rr, 0, none⟩)] 128)).alloc (.cells #[.int .i64 (v0 : Nat), .int .i64 (v1 : Nat), .int .i64 (v2 : Nat), .int .i64 (v3 : Nat), .int .i64 (v4 : Nat), .int .i64 (v6 : Nat), .int .i64 (v8 : Nat), .int .i64 (v9 : Nat), .int .i64 (v10 : Nat), .int .i64 (v11 : Nat)] 134) := ⟨_, rfl⟩
 have hPb : BlockIs W1 pb [.pointer (some ⟨rr, 0, none⟩)] 128 := by rw [hW1, hpb]; exact (BlockIs.new W _ _).alloc _
 have hHb : BlockIs W1 (pb + 1) [.int .i64 (v0 : Nat), .int .i64 (v1 : Nat), .int .i64 (v2 : Nat), .int .i64 (v3 : Nat), .int .i64 (v4 : Nat), .int .i64 (v6 : Nat), .int .i64 (v8 : Nat), .int .i64 (v9 : Nat), .int .i64 (v10 : Nat), .int .i64 (v11 : Nat)] 134 := by
  rw [hW1, hpb, show W.heap.size + 1 = (W.alloc (.cells #[.pointer (some ⟨rr, 0, none⟩)] 128)).heap.size from (World.size_alloc _ _).symm]
  exact BlockIs.new _ _ _
 obtain ⟨hv, hhv⟩ : ∃ z : List Value, z = [.int .i64 (v0 : Nat), .int .i64 (v1 : Nat), .int .i64 (v2 : Nat), .int .i64 (v3 : Nat), .int .i64 (v4 : Nat), .int .i64 (v6 : Nat), .int .i64 (v8 : Nat), .int .i64 (v9 : Nat), .int .i64 (v10 : Nat), .int .i64 (v11 : Nat)] := ⟨_, rfl⟩
 rw [← hhv] at hHb
 obtain ⟨hb, hhb⟩ : ∃ z, z = pb + 1 := ⟨_, rfl⟩
 rw [← hhb] at hHb
 have f0 : hv[0]? = some (.int .i64 (v0 : Nat)) := by rw [hhv]; rfl
 have f2 : hv[2]? = some (.int .i64 (v2 : Nat)) := by rw [hhv]; rfl
 have f3 : hv[3]? = some (.int .i64 (v3 : Nat)) := by rw [hhv]; rfl
 have f4 : hv[4]? = some (.int .i64 (v4 : Nat)) := by rw [hhv]; rfl
 have f5 : hv[5]? = some (.int .i64 (v6 : Nat)) := by rw [hhv]; rfl
 have f6 : hv[6]? = some (.int .i64 (v8 : Nat)) := by rw [hhv]; rfl
 have f7 : hv[7]? = some (.int .i64 (v9 : Nat)) := by rw [hhv]; rfl
 have f8 : hv[8]? = some (.int .i64 (v10 : Nat)) := by rw [hhv]; rfl
 have f9 : hv[9]? = some (.int .i64 (v11 : Nat)) := by rw [hhv]; rfl
 have HF := qh (And.intro f0 (And.intro f2 (And.intro f3 (And.intro f4 (And.intro f5 (And.intro f6 (And.intro f7 (And.intro f8 f9))))))))
 have HHv := qh hhv
 clear f0 f2 f3 f4 f5 f6 f7 f8 f9 hhv
 have hP1 : Pure W W1 := by rw [hW1]; exact ((Ext.refl _ W).alloc _).alloc _
 have hS1 := hRS.pure hP1
 have hz1 : W1.heap.size = pb + 2 := by rw [hW1, hpb, World.size_alloc, World.size_alloc]
 have hX1 : Ext (RdS rr rb) W W1 := hP1.mono (fun _ _ e => e.elim)
 have HW1 := qh hW1
 have HPb := qh hpb
 obtain ⟨ob, hob⟩ : ∃ z, z = W1.heap.size := ⟨_, rfl⟩
 have hpo : ob = hb + 1 := by omega
 have hbp : pb < hb := by omega
 have hobp : hb < ob := by omega
 have hWpb : W.heap.size ≤ pb := by omega
 have HOb := qh hob
 have HPo := qh hpo
 have HHb := qh hhb
 clear hpi hpz hps hpbb hii hiz his hib hW1 hRS hP1 hpb hz1 hob hpo hhb
 go_enter Tryz.func85, Tryz.ntmps85
 go_wp2_with (refine wpList_make_full _ rfl (.tmp 14) (.tmp 14) 22 rfl ob 53 pi (.agg #[.int .i64 0, .int .i64 0, .slice none 0 0]) 3 Tryz.underlying22 HPI.out HPZ.out HPS.out .i64 .i64 (N : Int) (N : Int) N rfl rfl rfl rfl (by rw [HPB.out]; omega) (by unfold maxLen; omega) (by rw [← HW1.out]; exact Nat.le_of_eq HOb.out) ?_)
 rw [← HW1.out, ← HPb.out, ← HHb.out, ← HPo.out]
 intro W2 hO2 hg2
 rw [made_pages] at hO2
 have hA2 : Pure W1 W2 := (ext_of_grown hg2).mono (fun _ _ e => by cases e)
 have hOut2 : OutIs W2 ob N (List.replicate N noPage) := ⟨hO2, List.length_replicate⟩
 have hS2 := hS1.pure hA2
 have hPb2 := hPb.ext hA2 id
 have hHb2 := hHb.ext hA2 id
 have hX2 := hX1.pure hA2
 obtain ⟨ub, hub⟩ : ∃ z, z = W2.heap.size := ⟨_, rfl⟩
 have hou : ob < ub := by rw [hub]; exact hOut2.lt
 obtain ⟨W3, hW3⟩ : ∃ z, z = W2.alloc (.cells #[.slice (some ⟨ob, 0, none⟩) N N] 22) := ⟨_, rfl⟩
 have hP3 : Pure W2 W3 := hW3 ▸ ext_alloc W2 _
 have hU3 : BlockIs W3 ub [.slice (some ⟨ob, 0, none⟩) N N] 22 := by rw [hW3, hub]; exact BlockIs.new W2 _ _
 have hB3 : PBox W3 rr hb ub pb ob N hv := ⟨hHb2.ext hP3 id, hU3, hPb2.ext hP3 id⟩
 have hOut3 := hOut2.ext hP3 id
 have hS3 := hS2.pure hP3
 have hX3 := hX2.pure hP3
 have c0 : W2.cell? ⟨pb, 0, none⟩ = some (.pointer (some ⟨rr, 0, none⟩)) := hPb2.cell 0
 have c2 : W2.cell? ⟨hb, 2, none⟩ = some (.int .i64 (v2 : Nat)) := (hHb2.cell 2).trans HF.out.2.1
 have hz2 : pb < W2.heap.size := hPb2.lt
 have hz2' : hb < W2.heap.size := hHb2.lt
 have HNE : Hid (ob ≠ rr ∧ ob ≠ rb ∧ (∀ g, a = some g → g.block ≠ ob) ∧ hb ≠ ob ∧ ub ≠ ob ∧ pb ≠ ob ∧ ub ≠ rr ∧ pb ≠ rr ∧ hb ≠ rr ∧ hb ≠ rb ∧ ub ≠ rb ∧ pb ≠ rb) := qh ⟨by omega, by omega, fun g hg => by have := halt g hg; omega, by omega, by omega, by omega, by omega, by omega, by omega, by omega, by omega, by omega⟩
 have HR1 := qh (row1_any rr rb l a c 288 288 hb ub pb ob N v2 v0 hv (List.replicate N noPage) 0 W3 hB3 HF.out.1 (fun _ => ⟨rfl, hOut3⟩) hN2 k2 lv0 (by omega) hS3 HNE.out)
 have HW3 := qh hW3
 have HUb := qh hub
 clear hO2 hg2 hA2 hOut2 hS2 hPb2 hHb2 hX2 hW3 hP3 hU3 hub hS3 hOut3 hPb hHb hS1 hX1
 go_wp2_with fail
 rw [← HUb.out, ← HW3.out]
 refine HR1.out.mono ?_
 rintro e W4 ⟨rfl, q1', er1, ps1, hS4, hX4, hE1, hD1⟩
 have HE1 : Hid (RowE (bitsOf true l) 288 N v2 (okO v0) er1) := qh (hE1.resolve_left (fun h => h.1 rfl)).2
 have hB4 := hB3.ext hX4 (by omega) (by omega) (by omega)
 have hXW4 := hX3.trans hX4 (fun i hi e => by rcases e with e | e | e; exact Or.inl e; exact Or.inr e; omega)
 have HR2 := qh (row2_any rr rb l a c q1' (al8 (288 + N * v2)) hb ub pb ob N v4 v3 hv ps1 er1 W4 hB4 HF.out.2.2.1 (fun h => ⟨(hD1 h).1, (hD1 h).2.1⟩) hN2 k3 lv3 (by omega) hS4 HNE.out)
 have HD1 := qh hD1
 have c0 : W4.cell? ⟨pb, 0, none⟩ = some (.pointer (some ⟨rr, 0, none⟩)) := hB4.p.cell 0
 have c4 : W4.cell? ⟨hb, 4, none⟩ = some (.int .i64 (v4 : Nat)) := (hB4.h.cell 4).trans HF.out.2.2.2.1
 clear HR1 hE1 hB3 hX3 hX4 hS4 hD1 c2 HUb HW3
 go_wp2_with fail
 refine HR2.out.mono ?_
 rintro e W5 ⟨rfl, q2', er2, ps2, hS5, hX5, hE2, hD2⟩
 have hB5 := hB4.ext hX5 (by omega) (by omega) (by omega)
 have hXW5 := hXW4.trans hX5 (fun i hi e => by rcases e with e | e | e; exact Or.inl e; exact Or.inr e; omega)
 have HE2 := qh hE2
 have HD2 := qh hD2
 clear HR2 hE2 hD2 hX5 hXW4 hB4 c4 c0
 obtain ⟨mb, hmb⟩ : ∃ z, z = W5.heap.size := ⟨_, rfl⟩
 have hum : ub < mb := by rw [hmb]; exact hB5.u.lt
 obtain ⟨W6, hW6⟩ : ∃ z, z = W5.alloc (.cells #[.int .i64 0] 3) := ⟨_, rfl⟩
 have hP6 : Pure W5 W6 := hW6 ▸ ext_alloc W5 _
 have hM6 : BlockIs W6 mb [intV 0] 3 := by rw [hW6, hmb]; exact BlockIs.new W5 _ _
 obtain ⟨cb, hcb⟩ : ∃ z, z = mb + 1 := ⟨_, rfl⟩
 have hcb6 : cb = W6.heap.size := by rw [hcb, hW6, hmb, World.size_alloc]
 have hmc : mb < cb := by omega
 have HW6 := qh hW6
 have HMb := qh hmb
 have HCb := qh hcb
 have HCb6 := qh hcb6
 clear hW6 hmb hcb hcb6
 go_wp2_with (refine wpList_make_full _ rfl (.tmp 28) (.tmp 28) 23 rfl cb 3 ii (.int .i64 0) 1 Tryz.underlying23 HII.out HIZ.out HIS.out .i64 .i64 (N : Int) (N : Int) N rfl rfl rfl rfl (by rw [HIB.out]; omega) (by unfold maxLen; omega) (by rw [← HW6.out]; exact Nat.le_of_eq HCb6.out) ?_)
 rw [← HW6.out, ← HMb.out, ← HCb.out]
 intro W7 hO7 hg7
 have hP7 : Pure W6 W7 := (ext_of_grown hg7).mono (fun _ _ e => by cases e)
 obtain ⟨kb, hkb⟩ : ∃ z, z = W7.heap.size := ⟨_, rfl⟩
 have hck : cb < kb := by rw [hkb]; exact (hO7.lt _ rfl).2
 obtain ⟨W8, hW8⟩ : ∃ z, z = W7.alloc (.cells #[.slice (some ⟨cb, 0, none⟩) N N] 23) := ⟨_, rfl⟩
 have hP8 : Pure W7 W8 := hW8 ▸ ext_alloc W7 _
 have hP58 : Pure W5 W8 := (hP6.pure hP7).pure hP8
 generalize (madeCells #[Value.int .i64 0] N).toList = xs0 at hO7
 have hR8 : RBox W8 kb cb N xs0 := ⟨by rw [hW8, hkb]; exact BlockIs.new W7 _ _, own_ext hO7 hP8 (fun _ _ => id)⟩
 have hM8 := hM6.ext (hP7.pure hP8) id
 have hB7 := hB5.ext (hP6.pure hP7) id id id
 have hB8 := hB5.ext hP58 id id id
 have hS8 := hS5.pure hP58
 have hXW8 := hXW5.pure hP58
 have c0 : W7.cell? ⟨pb, 0, none⟩ = some (.pointer (some ⟨rr, 0, none⟩)) := hB7.p.cell 0
 have c7 : W7.cell? ⟨hb, 7, none⟩ = some (.int .i64 (v9 : Nat)) := (hB7.h.cell 7).trans HF.out.2.2.2.2.2.2.1
 have hz7 := hB7.p.lt
 have hz7' := hB7.h.lt
 have HNE3 : Hid (cb ≠ rr ∧ cb ≠ rb ∧ mb ≠ rr ∧ mb ≠ rb ∧ (∀ g, a = some g → g.block ≠ cb ∧ g.block ≠ mb) ∧ kb ≠ cb ∧ kb ≠ mb ∧ kb ≠ rr ∧ pb ≠ rr ∧ pb ≠ cb ∧ pb ≠ mb ∧ cb ≠ mb ∧ kb ≠ rb ∧ pb ≠ rb) := qh ⟨by omega, by omega, by omega, by omega, fun g hg => by have := halt g hg; exact ⟨by omega, by omega⟩, by omega, by omega, by omega, by omega, by omega, by omega, by omega, by omega, by omega⟩
 have HR3 := qh (row3_any rr rb l a c q2' (al8 (al8 (288 + N * v2) + N * v4)) kb cb mb pb N v9 xs0 er2 W8 hR8 hM8 hB8.p (fun h => (HD2.out h).1) hN2 k6 (by omega) hS8 HNE3.out)
 have HW8 := qh hW8
 have HKb := qh hkb
 clear hO7 hg7 hP6 hP7 hP8 hM6 hkb hW8 hR8 hM8 hS8 hS5 hXW5 hB5 hB7
 go_wp2_with fail
 rw [← HKb.out, ← HW8.out]
 refine HR3.out.mono ?_
 rintro e W9 ⟨rfl, q3', er3, hS9, hX9, hE3, hD3⟩
 have hB9 := hB8.ext hX9 (by omega) (by omega) (by omega)
 have hXW9 := hXW8.trans hX9 (fun i hi e => by rcases e with e | e | e | e; exact Or.inl e; exact Or.inr e; omega; omega)
 have HE3 := qh hE3
 have HD3 := qh hD3
 have c0 : W9.cell? ⟨pb, 0, none⟩ = some (.pointer (some ⟨rr, 0, none⟩)) := hB9.p.cell 0
 have g1 : W9.cell? ⟨rr, 0 + 1, none⟩ = some (.int .i64 er3) := hS9.blk.cell 1
 clear HR3 hE3 hD3 hXW8 hB8 c7 HKb HW8 HW6 HMb
 have HC3 := qh (chain3 (bs := bitsOf true l) (n := N) (e1 := er1) (e2 := er2) (e3 := er3) (by rw [← HV2.out, ← HV0.out]; exact HE1.out) (by rw [← HV4.out, ← HV3.out, q1, ← HV2.out]; exact HE2.out) (by rw [← HV9.out, q2, ← HV4.out, q1, ← HV2.out]; exact HE3.out))
 by_cases he3 : er3 = 0
 ·subst he3
  obtain ⟨z1, z2, z3, hR14⟩ := HC3.out.2 rfl
  obtain ⟨hq2', hOut5, hls, hos⟩ := HD2.out z2
  obtain ⟨_, _, hos1, _⟩ := HD1.out z1
  obtain ⟨hq3', hR9, hM9⟩ := HD3.out rfl
  have hmny : (vals (bitsOf true l) (al8 (al8 (288 + N * v2) + N * v4)) v9 N).sum ≤ 65536 := by
   have h := (z3.zero rfl).2
   rw [q2, q1, ← HV9.out, ← HV4.out, ← HV2.out] at h
   exact h
  obtain ⟨C, hC⟩ : ∃ z, z = vals (bitsOf true l) (al8 (al8 (288 + N * v2) + N * v4)) v9 N := ⟨_, rfl⟩
  rw [← hC] at hmny hR9 hM9
  obtain ⟨t, ht⟩ : ∃ z, z = C.sum := ⟨_, rfl⟩
  rw [← ht] at hmny hM9
  have hOut9 := (hOut5.ext hP58 id).ext hX9 (by omega)
  have HR14 := qh hR14
  have HQ3 := qh hq3'
  have HLs := qh hls
  have HOs := qh (hos.trans hos1)
  have HC := qh hC
  have HT := qh ht
  clear hR14 hq3' hls hos hos1 hC ht hq2' z1 z2 z3 hOut5 HC3 HD3 HD2 HD1 HE3 HE2 HE1 hP58 hX9
  obtain ⟨xb, hxb⟩ : ∃ z, z = W9.heap.size := ⟨_, rfl⟩
  have hkx : kb < xb := by rw [hxb]; exact hR9.box.lt
  have cm : W9.cell? ⟨mb, 0, none⟩ = some (.int .i64 (t : Nat)) := hM9.cell 0
  have HXb := qh hxb
  clear hxb
  go_wp2_with (refine wpList_make_full _ rfl (.tmp 41) (.tmp 41) 23 rfl xb 3 ii (.int .i64 0) 1 Tryz.underlying23 HII.out HIZ.out HIS.out .i64 .i64 (t : Int) (t : Int) t rfl rfl rfl rfl (by rw [HIB.out]; omega) (by unfold maxLen; omega) (Nat.le_of_eq HXb.out) ?_)
  rw [← HXb.out]
  intro W10 hO10 hg10
  rw [made_ints] at hO10
  have hP10 : Pure W9 W10 := (ext_of_grown hg10).mono (fun _ _ e => by cases e)
  obtain ⟨sb, hsb⟩ : ∃ z, z = W10.heap.size := ⟨_, rfl⟩
  have hxs : xb < sb := by rw [hsb]; exact (hO10.lt _ rfl).2
  obtain ⟨W11, hW11⟩ : ∃ z, z = W10.alloc (.cells #[.slice (some ⟨xb, 0, none⟩) t t] 23) := ⟨_, rfl⟩
  have hP11 : Pure W10 W11 := hW11 ▸ ext_alloc W10 _
  have hP911 := hP10.pure hP11
  have hT11 : RBox W11 sb xb t ((List.replicate t 0).map intV) := ⟨by rw [hW11, hsb]; exact BlockIs.new W10 _ _, own_ext hO10 hP11 (fun _ _ => id)⟩
  have hR11 := hR9.ext hP911 id id
  have hM10 := hM9.ext hP10 id
  have hM11 := hM9.ext hP911 id
  have hB10 := hB9.ext hP10 id id id
  have hB11 := hB9.ext hP911 id id id
  have hOut11 := hOut9.ext hP911 id
  have hS11 := hS9.pure hP911
  have hXW11 := hXW9.pure hP911
  have c0' : W10.cell? ⟨pb, 0, none⟩ = some (.pointer (some ⟨rr, 0, none⟩)) := hB10.p.cell 0
  have cm' : W10.cell? ⟨mb, 0, none⟩ = some (.int .i64 (t : Nat)) := hM10.cell 0
  have c8 : W10.cell? ⟨hb, 8, none⟩ = some (.int .i64 (v10 : Nat)) := (hB10.h.cell 8).trans HF.out.2.2.2.2.2.2.2.1
  have y0 := hB10.p.lt
  have y1 := hB10.h.lt
  have y2 := hM10.lt
  have HNE4 : Hid (xb ≠ rr ∧ xb ≠ rb ∧ (∀ g, a = some g → g.block ≠ xb) ∧ sb ≠ xb ∧ sb ≠ rr ∧ pb ≠ rr ∧ pb ≠ xb ∧ sb ≠ rb ∧ pb ≠ rb) := qh ⟨by omega, by omega, fun g hg => by have := halt g hg; omega, by omega, by omega, by omega, by omega, by omega, by omega⟩
  have HR4 := qh (row4_any rr rb l a c q3' (al8 (al8 (al8 (288 + N * v2) + N * v4) + N * v9)) sb xb pb t v10 (List.replicate t 0) 0 W11 hT11 hB11.p (fun _ => HQ3.out) hmny k7 (by omega) hS11 HNE4.out)
  have HW11 := qh hW11
  have HSb := qh hsb
  clear hO10 hg10 hP10 hP11 hP911 hsb hW11 hT11 hM10 hB10 hS11 hXW9 hB9 hOut9 hR9 hM9 hS9 c0 cm g1
  go_wp2_with fail
  rw [← HSb.out, ← HW11.out]
  refine HR4.out.mono ?_
  rintro e W12 ⟨rfl, q4', er4, ys, hS12, hX12, hE4, hT12, hD4⟩
  have hB12 := hB11.ext hX12 (by omega) (by omega) (by omega)
  have hR12 := hR11.ext hX12 (by omega) (by omega)
  have hM12 := hM11.ext hX12 (by omega)
  have hOut12 := hOut11.ext hX12 (by omega)
  have hXW12 := hXW11.trans hX12 (fun i hi e => by rcases e with e | e | e; exact Or.inl e; exact Or.inr e; omega)
  have HE4 := qh (hE4.resolve_left (fun h => h.1 rfl)).2
  have HD4 := qh hD4
  have HR5 := qh (row5_any rr rb l a c q4' (al8 (al8 (al8 (al8 (288 + N * v2) + N * v4) + N * v9) + t * v10)) t v11 er4 W12 (fun h => (hD4 h).1) hmny k8 (by omega) hS12)
  have c0 : W12.cell? ⟨pb, 0, none⟩ = some (.pointer (some ⟨rr, 0, none⟩)) := hB12.p.cell 0
  have cm : W12.cell? ⟨mb, 0, none⟩ = some (.int .i64 (t : Nat)) := hM12.cell 0
  have c9 : W12.cell? ⟨hb, 9, none⟩ = some (.int .i64 (v11 : Nat)) := (hB12.h.cell 9).trans HF.out.2.2.2.2.2.2.2.2
  clear HR4 hE4 hD4 hX12 hB11 hR11 hM11 hOut11 hXW11 HSb HW11 c0' cm' c8 y0 y1 y2
  go_wp2_with fail
  refine HR5.out.mono ?_
  rintro e W13 ⟨rfl, q5', er5, hS13, hX13, hE5, hD5⟩
  have hNO : ∀ i, pb ≤ i → ¬ RdS rr rb i := fun i hi e => by rcases e with e | e <;> omega
  have hB13 := hB12.ext hX13 (hNO _ (by omega)) (hNO _ (by omega)) (hNO _ (by omega))
  have hR13 := hR12.ext hX13 (hNO _ (by omega)) (hNO _ (by omega))
  have hT13 := hT12.ext hX13 (hNO _ (by omega)) (hNO _ (by omega))
  have hOut13 := hOut12.ext hX13 (hNO _ (by omega))
  have hXW13 := hXW12.trans hX13 (fun i hi e => e)
  have HE5 := qh hE5
  have HR6 := qh (row5_any rr rb l a c q5' (al8 (al8 (al8 (al8 (al8 (288 + N * v2) + N * v4) + N * v9) + t * v10) + t * v11)) N v6 er5 W13 hD5 (by omega) k4 (by omega) hS13)
  have c0' : W13.cell? ⟨pb, 0, none⟩ = some (.pointer (some ⟨rr, 0, none⟩)) := hB13.p.cell 0
  have c5 : W13.cell? ⟨hb, 5, none⟩ = some (.int .i64 (v6 : Nat)) := (hB13.h.cell 5).trans HF.out.2.2.2.2.1
  clear HR5 hE5 hD5 hX13 hB12 hR12 hM12 hOut12 hXW12 c0 cm c9 hT12
  go_wp2_with fail
  refine HR6.out.mono ?_
  rintro e W14 ⟨rfl, q6', er6, hS14, hX14, hE6, hD6⟩
  have hB14 := hB13.ext hX14 (hNO _ (by omega)) (hNO _ (by omega)) (hNO _ (by omega))
  have hR14 := hR13.ext hX14 (hNO _ (by omega)) (hNO _ (by omega))
  have hT14 := hT13.ext hX14 (hNO _ (by omega)) (hNO _ (by omega))
  have hOut14 := hOut13.ext hX14 (hNO _ (by omega))
  have hXW14 := hXW13.trans hX14 (fun i hi e => e)
  have HE6 := qh hE6
  have HR7 := qh (row5_any rr rb l a c q6' (al8 (al8 (al8 (al8 (al8 (al8 (288 + N * v2) + N * v4) + N * v9) + t * v10) + t * v11) + N * v6)) N v8 er6 W14 hD6 (by omega) k5 (by omega) hS14)
  have c0 : W14.cell? ⟨pb, 0, none⟩ = some (.pointer (some ⟨rr, 0, none⟩)) := hB14.p.cell 0
  have c6 : W14.cell? ⟨hb, 6, none⟩ = some (.int .i64 (v8 : Nat)) := (hB14.h.cell 6).trans HF.out.2.2.2.2.2.1
  clear HR6 hE6 hD6 hX14 hB13 hR13 hT13 hOut13 hXW13 c0' c5
  go_wp2_with fail
  refine HR7.out.mono ?_
  rintro e W15 ⟨rfl, q7', er7, hS15, hX15, hE7, hD7⟩
  have hB15 := hB14.ext hX15 (hNO _ (by omega)) (hNO _ (by omega)) (hNO _ (by omega))
  have hR15 := hR14.ext hX15 (hNO _ (by omega)) (hNO _ (by omega))
  have hT15 := hT14.ext hX15 (hNO _ (by omega)) (hNO _ (by omega))
  have hOut15 := hOut14.ext hX15 (hNO _ (by omega))
  have hXW15 := hXW14.trans hX15 (fun i hi e => e)
  have HE7 := qh hE7
  have HD7 := qh hD7
  clear HR7 hE7 hD7 hX15 hB14 hR14 hT14 hOut14 hXW14 c0 c6
  have HQ3' : Hid (al8 (al8 (al8 (288 + N * v2) + N * v4) + N * v9) = q3 (bitsOf true l) N) := qh (by rw [q3, q2, q1, HV2.out, HV4.out, HV9.out])
  have HTm : Hid (t = mny (bitsOf true l) N) := qh (by rw [HT.out, HC.out, mny, cnts, q2, q1, HV2.out, HV4.out, HV9.out])
  have HF4 : RowE (bitsOf true l) (q3 (bitsOf true l) N) (mny (bitsOf true l) N) (h10 (bitsOf true l)) okS er4 := by rw [← HQ3'.out, ← HTm.out, ← HV10.out]; exact HE4.out
  have HF5 : (er4 ≠ 0 ∧ er5 = er4) ∨ (er4 = 0 ∧ RowE (bitsOf true l) (q4 (bitsOf true l) N) (mny (bitsOf true l) N) (h11 (bitsOf true l)) okA er5) := by rw [q4, ← HQ3'.out, ← HTm.out, ← HV10.out, ← HV11.out]; exact HE5.out
  have HF6 : (er5 ≠ 0 ∧ er6 = er5) ∨ (er5 = 0 ∧ RowE (bitsOf true l) (q5 (bitsOf true l) N) N (h6 (bitsOf true l)) okA er6) := by rw [q5, q4, ← HQ3'.out, ← HTm.out, ← HV10.out, ← HV11.out, ← HV6.out]; exact HE6.out
  have HF7 : (er6 ≠ 0 ∧ er7 = er6) ∨ (er6 = 0 ∧ RowE (bitsOf true l) (q6 (bitsOf true l) N) N (h8 (bitsOf true l)) okA er7) := by rw [q6, q5, q4, ← HQ3'.out, ← HTm.out, ← HV10.out, ← HV11.out, ← HV6.out, ← HV8.out]; exact HE7.out
  have HFF := qh (chain7 HF4 HF5 HF6 HF7)
  have HQ7 : Hid (al8 (al8 (al8 (al8 (al8 (al8 (al8 (288 + N * v2) + N * v4) + N * v9) + t * v10) + t * v11) + N * v6) + N * v8) = q7 (bitsOf true l) N) := qh (by rw [q7, q6, q5, q4, ← HQ3'.out, ← HTm.out, ← HV10.out, ← HV11.out, ← HV6.out, ← HV8.out])
  have HX1 : Hid (C = vals (bitsOf true l) (q2 (bitsOf true l) N) (h9 (bitsOf true l)) N) := qh (by rw [HC.out, q2, q1, HV2.out, HV4.out, HV9.out])
  have HX2 : Hid (vals (bitsOf true l) (al8 (al8 (al8 (288 + N * v2) + N * v4) + N * v9)) v10 t = vals (bitsOf true l) (q3 (bitsOf true l) N) (h10 (bitsOf true l)) (mny (bitsOf true l) N)) := qh (by rw [HQ3'.out, HTm.out, HV10.out])
  clear HF4 HF5 HF6 HF7 HE4 HE5 HE6 HE7
  have HSz15 : Hid (W.heap.size ≤ W15.heap.size) := qh hXW15.size
  have hyl : ys.length = t := by have := hT15.row.1; rw [List.length_map] at this; omega
  have hCl : C.length = N := by rw [HC.out]; exact vals_len _ _ _ _
  have hcut0 : CutIn (fun i => i = ob ∨ i = sb) W15 W15 ob N (ps2.map (fun p => p.o)) (ps2.map (fun p => p.l)) ys C 0 ps2 := ⟨hOut15, rfl, rfl, by simp [cut], (fun p hp => by simp at hp), Ext.refl _ _⟩
  have hsh0 : ShIs W15 sb xb (t - 0) (some ⟨xb, 0, none⟩) (ys.drop 0) := ⟨hT15.box, own_row hT15.row, (fun h => by cases h), (fun g hg => by cases hg; rfl)⟩
  have hRowC := own_row hR15.row
  have ck : W15.cell? ⟨kb, 0, none⟩ = some (.slice (some ⟨cb, 0, none⟩) N N) := hR15.box.cell 0
  have HCl := qh hCl
  have HYl := qh hyl
  obtain ⟨os, hos⟩ : ∃ z, z = ps2.map (fun p => p.o) := ⟨_, rfl⟩
  obtain ⟨ls, hls⟩ : ∃ z, z = ps2.map (fun p => p.l) := ⟨_, rfl⟩
  rw [← hos, ← hls] at hcut0
  rw [← hos] at HOs
  rw [← hls] at HLs
  clear hCl hyl hos hls hOut15 hT15 hR15
  go_wp2_with fail
  go_loopw [69] (fun i W' => ∃ (k : Nat) (qs : List PH) (sa : Option Addr), k ≤ N ∧ i = .int .i64 k ∧ CutIn (fun i => i = ob ∨ i = sb) W15 W' ob N os ls ys C k qs ∧ ShIs W' sb xb (t - (C.take k).sum) sa (ys.drop (C.take k).sum)) (fun i _ => N - (intOf i).toNat)
  case atStart => exact ⟨0, ps2, some ⟨xb, 0, none⟩, Nat.zero_le _, rfl, hcut0, hsh0⟩
  case round =>
   obtain ⟨k, qs, sa, hk, rfl, hCut, hSh⟩ := hrel
   clear hcut0 hsh0 ck
   obtain ⟨j, hj⟩ : ∃ z, z = (C.take k).sum := ⟨_, rfl⟩
   rw [← hj] at hSh
   have hcE := hCut.ext
   by_cases hlt : k < N
   ·have hki : (k : Int) < (N : Int) := by omega
    obtain ⟨c', hc⟩ : ∃ c', C[k]? = some c' := ⟨_, List.getElem?_eq_getElem (by rw [HCl.out]; exact hlt)⟩
    have hj1 : (C.take (k + 1)).sum = j + c' := by rw [sum_take_succ C k c' hc, hj]
    have hjt : j + c' ≤ t := by
     have h1 := sum_take_le C (k + 1)
     have h2 := HT.out
     omega
    obtain ⟨_, _, he', hcc⟩ := (hRowC.ext hcE (fun g hg e => by cases hg; rcases e with e | e <;> simp only at e <;> omega)) k (intV c') (by rw [List.getElem?_map, hc]; rfl)
    cases he'
    have hcc2 : wr.cell? ⟨cb, k, none⟩ = some (.int .i64 c') := by rw [Nat.zero_add] at hcc; exact hcc
    obtain ⟨m, hm⟩ : ∃ m, m = t - j := ⟨_, rfl⟩
    rw [← hm] at hSh
    have hcm : c' ≤ m := by omega
    have hcmi : (c' : Int) ≤ (m : Int) := by omega
    have hm6 : m ≤ 65536 := by omega
    have hdl : (ys.drop j).length = m := by rw [List.length_drop, HYl.out]; exact hm.symm
    obtain ⟨new, hnew⟩ : ∃ z, z = (ys.drop j).take c' := ⟨_, rfl⟩
    have hnl : new.length = c' := by rw [hnew, List.length_take, hdl]; omega
    have u0 : wr.drew.cell? ⟨ub, 0, none⟩ = some (.slice (some ⟨ob, 0, none⟩) N N) := by
     have := (hB15.u.ext hcE (fun e => by rcases e with e | e <;> omega)).cell 0
     exact this
    have s0 : wr.drew.cell? ⟨sb, 0, none⟩ = some (.slice sa m m) := hSh.box.cell 0
    have ku := fun w' (hS : Ext (fun i => i = ob ∨ i = sb) wr.drew w') => hS.cell_some u0 (fun e => by rcases e with e | e <;> simp only at e <;> omega)
    have HNr : Hid (RowOf wr.drew sa (new.map intV)) := qh (by
     rw [hnew, List.map_take]; exact (row_take hSh.row c').ext ((Ext.refl (fun _ => False) wr).drew) (fun _ _ => id))
    have hnil := hSh.nil
    have HCn := qh (clone_int sa m new wr.drew HNr.out hnil (by omega) (by omega))
    rw [hnl] at HCn
    have HJ := qh hj
    have HJ1 := qh hj1
    have HHC := qh hc
    have HM := qh hm
    have HNew := qh hnew
    have HNl := qh hnl
    have HDl := qh hdl
    have HCut := qh hCut
    have HSh := qh hSh
    clear hcc hj hj1 hc hm hnew hnl hdl hCut hSh hcE
    have hobl : ob < wr.drew.heap.size := HCut.out.out.lt
    have hsbl : sb < wr.drew.heap.size := HSh.out.box.lt
    go_wp2_with fail
    refine region_start (fun i => i = ob ∨ i = sb) (by kernel_rfl) ?_
    try simp only [Act.put, sA, sZ, sS]
    refine region_take 0 74 (v := ?vpl0) rfl rfl (by kernel_rfl) (by kernel_rfl) (by kernel_rfl) (fun _ _ _ h => h) (by rfl) (fun w' hS => ?hpl0) ?rpl0
    case hpl0 => go_simp; with_reducible rfl
    try simp only [Act.put, sA, sZ, sS]
    refine region_take 1 75 (v := ?vpl1) rfl rfl (by kernel_rfl) (by kernel_rfl) (by kernel_rfl) (fun _ _ _ h => h) (by rfl) (fun w' hS => ?hpl1) ?rpl1
    case hpl1 => go_simp; with_reducible rfl
    try simp only [Act.put, sA, sZ, sS]
    refine region_take 3 77 (v := ?vpl3) rfl rfl (by kernel_rfl) (by kernel_rfl) (by kernel_rfl) (fun _ _ _ h => h) (by rfl) (fun w' hS => ?hpl3) ?rpl3
    case hpl3 => go_simp; with_reducible rfl
    try simp only [Act.put, sA, sZ, sS]
    refine region_take 7 81 (v := ?vpl7) rfl rfl (by kernel_rfl) (by kernel_rfl) (by kernel_rfl) (fun _ _ _ h => h) (by rfl) (fun w' hS => ?hpl7) ?rpl7
    case hpl7 => go_simp; with_reducible rfl
    try simp only [Act.put, sA, sZ, sS]
    refine wpAnyH_ready (rs := [2, 6]) (by kernel_rfl) (by simp) (AllReadyH.cons rfl (fun K hK => ?_) (AllReadyH.cons rfl (fun K hK => ?_) (AllReadyH.nil)))
    go_simp
    refine hK.out _ _ (Ext.refl _ _) (fun hHeld => ?_)
    clear hK K hHeld
    refine region_now (Ext.refl _ _) ?_
    try simp only [Act.put, sA, sZ, sS]
    refine region_take 4 78 (v := ?vplq04) rfl rfl (by kernel_rfl) (by kernel_rfl) (by kernel_rfl) (fun _ _ _ h => h) (by rfl) (fun w' hS => ?hplq04) ?rplq04
    case hplq04 => go_simp; with_reducible rfl
    try simp only [Act.put, sA, sZ, sS]
    refine wpAnyH_ready (rs := [5, 6]) (by kernel_rfl) (by simp) (AllReadyH.cons rfl (fun K hK => ?_) (AllReadyH.cons rfl (fun K hK => ?_) (AllReadyH.nil)))
    go_simp
    refine HCn.out.mono ?_
    rintro e w3 ⟨a3, c3, he3, hN3⟩
    rw [HNl.out] at he3
    subst he3
    have hX3 : Ext (fun i => i = ob ∨ i = sb) wr.drew w3 := hN3.ext.mono (fun _ _ e => e.elim)
    obtain ⟨⟨y, hy⟩, hf, qs', hCut'⟩ := HCut.out.step (Or.inl rfl) hlt HHC.out (show Pure wr w3 from ((Ext.refl (fun _ => False) wr).drew).pure hN3.ext) HJ.out (by rw [← HNew.out]; exact hN3.row) (by rw [← HNew.out]; exact HNl.out) ⟨by have := hN3.le; rw [HNl.out] at this; exact this, hN3.most, hN3.nil⟩ (fun g hg => ⟨fun e => by have := hN3.fresh g hg; rcases e with e | e <;> omega, by have h1 := hN3.fresh g hg; have h2 := HCut.out.ext.size; have h3 : wr.drew.heap.size = wr.heap.size := rfl; omega⟩)
    have s3 : w3.cell? ⟨sb, 0, none⟩ = some (.slice sa m m) := hN3.ext.cell_some s0 id
    have fs3 : w3.frozen? ⟨sb, 0, none⟩ = false := (HSh.out.box.drew.ext hN3.ext id).free 0
    refine hK.out _ _ (hX3) (fun hHeld => ?_)
    clear hK K hHeld
    refine region_now (hX3) ?_
    try simp only [Act.put, sA, sZ, sS]
    refine region_take 9 83 (v := ?vplq0q09) rfl rfl (by kernel_rfl) (by kernel_rfl) (by kernel_rfl) (fun _ _ _ h => h) (by rfl) (fun w' hS => ?hplq0q09) ?rplq0q09
    case hplq0q09 => go_simp; with_reducible rfl
    try simp only [Act.put, sA, sZ, sS]
    refine region_take 10 84 (v := ?vplq0q010) rfl rfl (by kernel_rfl) (by kernel_rfl) (by kernel_rfl) (fun _ _ _ h => h) (by rfl) (fun w' hS => ?hplq0q010) ?rplq0q010
    case hplq0q010 => go_simp; with_reducible rfl
    try simp only [Act.put, sA, sZ, sS]
    refine wpAnyH_ready (rs := [6, 11]) (by kernel_rfl) (by simp) (AllReadyH.cons rfl (fun K hK => ?_) (AllReadyH.cons rfl (fun K hK => ?_) (AllReadyH.nil)))
    go_simp
    refine hK.out _ _ (Ext.refl _ _) (fun hHeld => ?_)
    clear hK K hHeld
    refine region_now (Ext.refl _ _) ?_
    try simp only [Act.put, sA, sZ, sS]
    refine region_take 8 82 (v := ?vplq0q0q08) rfl rfl (by kernel_rfl) (by kernel_rfl) (by kernel_rfl) (fun _ _ _ h => h) (by rfl) (fun w' hS => ?hplq0q0q08) ?rplq0q0q08
    case hplq0q0q08 => go_simp; with_reducible rfl
    try simp only [Act.put, sA, sZ, sS]
    refine wpAnyH_ready (rs := [11]) (by kernel_rfl) (by simp) (AllReadyH.cons rfl (fun K hK => ?_) AllReadyH.nil)
    go_simp
    refine hK.out _ _ ((Ext.refl (fun i => i = ob ∨ i = sb) _).setCell (p := ⟨ob, k * 3 + 2, none⟩) (fun _ => Or.inl rfl) _) (fun hHeld => ?_)
    clear hK K hHeld
    refine region_now ((Ext.refl (fun i => i = ob ∨ i = sb) _).setCell (p := ⟨ob, k * 3 + 2, none⟩) (fun _ => Or.inl rfl) _) ?_
    try simp only [Act.put, sA, sZ, sS]
    refine wpAnyH_ready (rs := [12]) (by kernel_rfl) (by simp) (AllReadyH.cons rfl (fun K hK => ?_) AllReadyH.nil)
    go_simp
    refine hK.out _ _ ((Ext.refl (fun i => i = ob ∨ i = sb) _).setCell (p := ⟨sb, 0, none⟩) (fun _ => Or.inr rfl) _) (fun hHeld => ?_)
    clear hK K hHeld
    refine region_now ((Ext.refl (fun i => i = ob ∨ i = sb) _).setCell (p := ⟨sb, 0, none⟩) (fun _ => Or.inr rfl) _) ?_
    try simp only [Act.put, sA, sZ, sS]
    refine wpAnyH_done (by kernel_rfl) ?_ _
    rotate_left
    go_simp
    refine hK.out _ _ ((Ext.refl (fun i => i = ob ∨ i = sb) _).setCell (p := ⟨ob, k * 3 + 2, none⟩) (fun _ => Or.inl rfl) _) (fun hHeld => ?_)
    clear hK K hHeld
    refine region_now ((Ext.refl (fun i => i = ob ∨ i = sb) _).setCell (p := ⟨ob, k * 3 + 2, none⟩) (fun _ => Or.inl rfl) _) ?_
    try simp only [Act.put, sA, sZ, sS]
    refine wpAnyH_ready (rs := [6]) (by kernel_rfl) (by simp) (AllReadyH.cons rfl (fun K hK => ?_) AllReadyH.nil)
    go_simp
    refine hK.out _ _ (Ext.refl _ _) (fun hHeld => ?_)
    clear hK K hHeld
    refine region_now (Ext.refl _ _) ?_
    try simp only [Act.put, sA, sZ, sS]
    refine region_take 8 82 (v := ?vplq0q0q18) rfl rfl (by kernel_rfl) (by kernel_rfl) (by kernel_rfl) (fun _ _ _ h => h) (by rfl) (fun w' hS => ?hplq0q0q18) ?rplq0q0q18
    case hplq0q0q18 => go_simp; with_reducible rfl
    try simp only [Act.put, sA, sZ, sS]
    refine wpAnyH_ready (rs := [12]) (by kernel_rfl) (by simp) (AllReadyH.cons rfl (fun K hK => ?_) AllReadyH.nil)
    go_simp
    refine hK.out _ _ ((Ext.refl (fun i => i = ob ∨ i = sb) _).setCell (p := ⟨sb, 0, none⟩) (fun _ => Or.inr rfl) _) (fun hHeld => ?_)
    clear hK K hHeld
    refine region_now ((Ext.refl (fun i => i = ob ∨ i = sb) _).setCell (p := ⟨sb, 0, none⟩) (fun _ => Or.inr rfl) _) ?_
    try simp only [Act.put, sA, sZ, sS]
    refine wpAnyH_done (by kernel_rfl) ?_ _
    rotate_left
    go_simp
    refine hK.out _ _ (Ext.refl _ _) (fun hHeld => ?_)
    clear hK K hHeld
    refine region_now (Ext.refl _ _) ?_
    try simp only [Act.put, sA, sZ, sS]
    refine region_take 8 82 (v := ?vplq0q18) rfl rfl (by kernel_rfl) (by kernel_rfl) (by kernel_rfl) (fun _ _ _ h => h) (by rfl) (fun w' hS => ?hplq0q18) ?rplq0q18
    case hplq0q18 => go_simp; with_reducible rfl
    try simp only [Act.put, sA, sZ, sS]
    refine wpAnyH_ready (rs := [5]) (by kernel_rfl) (by simp) (AllReadyH.cons rfl (fun K hK => ?_) AllReadyH.nil)
    go_simp
    refine HCn.out.mono ?_
    rintro e w3 ⟨a3, c3, he3, hN3⟩
    rw [HNl.out] at he3
    subst he3
    have hX3 : Ext (fun i => i = ob ∨ i = sb) wr.drew w3 := hN3.ext.mono (fun _ _ e => e.elim)
    obtain ⟨⟨y, hy⟩, hf, qs', hCut'⟩ := HCut.out.step (Or.inl rfl) hlt HHC.out (show Pure wr w3 from ((Ext.refl (fun _ => False) wr).drew).pure hN3.ext) HJ.out (by rw [← HNew.out]; exact hN3.row) (by rw [← HNew.out]; exact HNl.out) ⟨by have := hN3.le; rw [HNl.out] at this; exact this, hN3.most, hN3.nil⟩ (fun g hg => ⟨fun e => by have := hN3.fresh g hg; rcases e with e | e <;> omega, by have h1 := hN3.fresh g hg; have h2 := HCut.out.ext.size; have h3 : wr.drew.heap.size = wr.heap.size := rfl; omega⟩)
    have s3 : w3.cell? ⟨sb, 0, none⟩ = some (.slice sa m m) := hN3.ext.cell_some s0 id
    have fs3 : w3.frozen? ⟨sb, 0, none⟩ = false := (HSh.out.box.drew.ext hN3.ext id).free 0
    refine hK.out _ _ (hX3) (fun hHeld => ?_)
    clear hK K hHeld
    refine region_now (hX3) ?_
    try simp only [Act.put, sA, sZ, sS]
    refine region_take 9 83 (v := ?vplq0q19) rfl rfl (by kernel_rfl) (by kernel_rfl) (by kernel_rfl) (fun _ _ _ h => h) (by rfl) (fun w' hS => ?hplq0q19) ?rplq0q19
    case hplq0q19 => go_simp; with_reducible rfl
    try simp only [Act.put, sA, sZ, sS]
    refine region_take 10 84 (v := ?vplq0q110) rfl rfl (by kernel_rfl) (by kernel_rfl) (by kernel_rfl) (fun _ _ _ h => h) (by rfl) (fun w' hS => ?hplq0q110) ?rplq0q110
    case hplq0q110 => go_simp; with_reducible rfl
    try simp only [Act.put, sA, sZ, sS]
    refine wpAnyH_ready (rs := [11]) (by kernel_rfl) (by simp) (AllReadyH.cons rfl (fun K hK => ?_) AllReadyH.nil)
    go_simp
    refine hK.out _ _ ((Ext.refl (fun i => i = ob ∨ i = sb) _).setCell (p := ⟨ob, k * 3 + 2, none⟩) (fun _ => Or.inl rfl) _) (fun hHeld => ?_)
    clear hK K hHeld
    refine region_now ((Ext.refl (fun i => i = ob ∨ i = sb) _).setCell (p := ⟨ob, k * 3 + 2, none⟩) (fun _ => Or.inl rfl) _) ?_
    try simp only [Act.put, sA, sZ, sS]
    refine wpAnyH_ready (rs := [12]) (by kernel_rfl) (by simp) (AllReadyH.cons rfl (fun K hK => ?_) AllReadyH.nil)
    go_simp
    refine hK.out _ _ ((Ext.refl (fun i => i = ob ∨ i = sb) _).setCell (p := ⟨sb, 0, none⟩) (fun _ => Or.inr rfl) _) (fun hHeld => ?_)
    clear hK K hHeld
    refine region_now ((Ext.refl (fun i => i = ob ∨ i = sb) _).setCell (p := ⟨sb, 0, none⟩) (fun _ => Or.inr rfl) _) ?_
    try simp only [Act.put, sA, sZ, sS]
    refine wpAnyH_done (by kernel_rfl) ?_ _
    rotate_left
    go_simp
    refine hK.out _ _ (Ext.refl _ _) (fun hHeld => ?_)
    clear hK K hHeld
    refine region_now (Ext.refl _ _) ?_
    try simp only [Act.put, sA, sZ, sS]
    refine region_take 8 82 (v := ?vplq18) rfl rfl (by kernel_rfl) (by kernel_rfl) (by kernel_rfl) (fun _ _ _ h => h) (by rfl) (fun w' hS => ?hplq18) ?rplq18
    case hplq18 => go_simp; with_reducible rfl
    try simp only [Act.put, sA, sZ, sS]
    refine wpAnyH_ready (rs := [2]) (by kernel_rfl) (by simp) (AllReadyH.cons rfl (fun K hK => ?_) AllReadyH.nil)
    go_simp
    refine hK.out _ _ (Ext.refl _ _) (fun hHeld => ?_)
    clear hK K hHeld
    refine region_now (Ext.refl _ _) ?_
    try simp only [Act.put, sA, sZ, sS]
    refine region_take 4 78 (v := ?vplq14) rfl rfl (by kernel_rfl) (by kernel_rfl) (by kernel_rfl) (fun _ _ _ h => h) (by rfl) (fun w' hS => ?hplq14) ?rplq14
    case hplq14 => go_simp; with_reducible rfl
    try simp only [Act.put, sA, sZ, sS]
    refine wpAnyH_ready (rs := [5]) (by kernel_rfl) (by simp) (AllReadyH.cons rfl (fun K hK => ?_) AllReadyH.nil)
    go_simp
    refine HCn.out.mono ?_
    rintro e w3 ⟨a3, c3, he3, hN3⟩
    rw [HNl.out] at he3
    subst he3
    have hX3 : Ext (fun i => i = ob ∨ i = sb) wr.drew w3 := hN3.ext.mono (fun _ _ e => e.elim)
    obtain ⟨⟨y, hy⟩, hf, qs', hCut'⟩ := HCut.out.step (Or.inl rfl) hlt HHC.out (show Pure wr w3 from ((Ext.refl (fun _ => False) wr).drew).pure hN3.ext) HJ.out (by rw [← HNew.out]; exact hN3.row) (by rw [← HNew.out]; exact HNl.out) ⟨by have := hN3.le; rw [HNl.out] at this; exact this, hN3.most, hN3.nil⟩ (fun g hg => ⟨fun e => by have := hN3.fresh g hg; rcases e with e | e <;> omega, by have h1 := hN3.fresh g hg; have h2 := HCut.out.ext.size; have h3 : wr.drew.heap.size = wr.heap.size := rfl; omega⟩)
    have s3 : w3.cell? ⟨sb, 0, none⟩ = some (.slice sa m m) := hN3.ext.cell_some s0 id
    have fs3 : w3.frozen? ⟨sb, 0, none⟩ = false := (HSh.out.box.drew.ext hN3.ext id).free 0
    refine hK.out _ _ (hX3) (fun hHeld => ?_)
    clear hK K hHeld
    refine region_now (hX3) ?_
    try simp only [Act.put, sA, sZ, sS]
    refine region_take 9 83 (v := ?vplq19) rfl rfl (by kernel_rfl) (by kernel_rfl) (by kernel_rfl) (fun _ _ _ h => h) (by rfl) (fun w' hS => ?hplq19) ?rplq19
    case hplq19 => go_simp; with_reducible rfl
    try simp only [Act.put, sA, sZ, sS]
    refine region_take 10 84 (v := ?vplq110) rfl rfl (by kernel_rfl) (by kernel_rfl) (by kernel_rfl) (fun _ _ _ h => h) (by rfl) (fun w' hS => ?hplq110) ?rplq110
    case hplq110 => go_simp; with_reducible rfl
    try simp only [Act.put, sA, sZ, sS]
    refine wpAnyH_ready (rs := [11]) (by kernel_rfl) (by simp) (AllReadyH.cons rfl (fun K hK => ?_) AllReadyH.nil)
    go_simp
    refine hK.out _ _ ((Ext.refl (fun i => i = ob ∨ i = sb) _).setCell (p := ⟨ob, k * 3 + 2, none⟩) (fun _ => Or.inl rfl) _) (fun hHeld => ?_)
    clear hK K hHeld
    refine region_now ((Ext.refl (fun i => i = ob ∨ i = sb) _).setCell (p := ⟨ob, k * 3 + 2, none⟩) (fun _ => Or.inl rfl) _) ?_
    try simp only [Act.put, sA, sZ, sS]
    refine wpAnyH_ready (rs := [12]) (by kernel_rfl) (by simp) (AllReadyH.cons rfl (fun K hK => ?_) AllReadyH.nil)
    go_simp
    refine hK.out _ _ ((Ext.refl (fun i => i = ob ∨ i = sb) _).setCell (p := ⟨sb, 0, none⟩) (fun _ => Or.inr rfl) _) (fun hHeld => ?_)
    clear hK K hHeld
    refine region_now ((Ext.refl (fun i => i = ob ∨ i = sb) _).setCell (p := ⟨sb, 0, none⟩) (fun _ => Or.inr rfl) _) ?_
    try simp only [Act.put, sA, sZ, sS]
    refine wpAnyH_done (by kernel_rfl) ?_ _
    rotate_left
    all_goals
     obtain ⟨w4, hw4⟩ : ∃ z, z = w3.setCell ⟨ob, k * 3 + 2, none⟩ (.slice a3 c' c3) := ⟨_, rfl⟩
     have hX4 : Ext (fun i => i = ob) w3 w4 := hw4 ▸ (Ext.refl (fun i => i = ob) w3).setCell (p := ⟨ob, k * 3 + 2, none⟩) (fun _ => rfl) _
     rw [← hw4] at hCut'
     rw [← hw4]
     have hX04 : Ext (fun i => i = ob) wr w4 := (((Ext.refl (fun _ => False) wr).drew).pure hN3.ext).trans' hX4 (fun _ _ e => e.elim) (fun _ _ e => e)
     have hSh5 := HSh.out.step HDl.out hcm hX04 (by omega) (by omega) (by omega)
     have hX5 : Ext (fun i => i = sb) w4 (w4.setCell ⟨sb, 0, none⟩ (.slice (if m = c' then sa else sa.map fun x => x.add c') (m - c') (m - c'))) := (Ext.refl (fun i => i = sb) w4).setCell (p := ⟨sb, 0, none⟩) (fun _ => rfl) _
     have hCut5 := hCut'.other hX5 (Or.inr rfl) (by omega)
     generalize (if m = c' then sa else sa.map fun x => x.add c') = saN at hSh5 hCut5 ⊢
     generalize w4.setCell ⟨sb, 0, none⟩ (.slice saN (m - c') (m - c')) = w5 at hSh5 hCut5 ⊢
     clear hw4 hX4 hX04 hX5 hCut' hX3 hN3 s3 fs3 hy hf ku u0 s0
     go_wp2_with fail
     go_roundw
     case rel =>
      refine ⟨k + 1, qs', saN, by omega, by go_num, hCut5, ?_⟩
      rw [HJ1.out, show t - (j + c') = m - c' from by have := HM.out; omega, ← List.drop_drop]
      exact hSh5
     case measure => simp [intOf]; omega
   ·have hki : ¬ (k : Int) < (N : Int) := by omega
    obtain rfl : N = k := by omega
    have u0 : wr.cell? ⟨ub, 0, none⟩ = some (.slice (some ⟨ob, 0, none⟩) N N) := (hB15.u.ext hcE (fun e => by rcases e with e | e <;> omega)).cell 0
    have HCut := qh hCut
    have hSE := hS15.ext hcE (fun e => by rcases e with e | e <;> omega) (fun e => by rcases e with e | e <;> omega) (fun g hg e => by have := halt g hg; rcases e with e | e <;> omega)
    have hXE := hXW15.trans hcE (fun i hi e => by rcases e with e | e <;> omega)
    clear hCut hSh hj hcE
    go_wp2_with fail
    go_ret
    have HC7 := HFF.out
    refine ⟨some ⟨ob, 0, none⟩, N, N, q7', er7, rfl, hSE, hXE, ?_⟩
    by_cases he7 : er7 = 0
    ·subst he7
     obtain ⟨z4, hG⟩ := HC7.2 rfl
     refine Or.inr ⟨rfl, HR14.out _ hG, ?_, rfl, qs, HCut.out.hints, ⟨HCut.out.out.len, fun p hp g hg => by have h1 := HCut.out.fresh p hp g hg; have h2 := HSz15.out; omega⟩, resV_of qs _ ?_ ?_ ?_⟩
     ·rw [HD7.out rfl]; exact HQ7.out
     ·rw [HCut.out.hos, HOs.out]; simp only [good, List.map_map, HV0.out, HV2.out]; rfl
     ·rw [HCut.out.hls, HLs.out]; simp only [good, List.map_map, HV3.out, HV4.out, q1, HV2.out]; rfl
     ·have h1 := HCut.out.hsh
      rw [List.take_of_length_le (by have := HCut.out.out.len; omega), List.take_of_length_le (by rw [HCl.out]; exact Nat.le_refl _)] at h1
      rw [h1, (HD4.out z4).2]
      simp only [good, cnts]
      rw [HX1.out, HX2.out]
    ·exact Or.inl ⟨he7, HR14.out _ (HC7.1 he7)⟩
 ·have hne3 : (er3 != 0) = true := by simpa using he3
  have HRe := qh (HC3.out.1 he3)
  clear HC3 he3
  go_wp2_with fail
  go_ret
  exact ⟨none, 0, 0, q3', er3, rfl, hS9, hXW9, Or.inl ⟨by simpa using hne3, HRe.out⟩⟩
theorem above_len (xs : List Nat) : (HN.above xs).length = xs.length := by simp [HN.above]
theorem above_back (xs : List Nat) : (HN.above xs).map (fun x => least xs + x) = xs := by
 unfold HN.above
 rw [List.map_map]
 refine Eq.trans (List.map_congr_left fun y hy => ?_) (List.map_id xs)
 have h1 := least_le hy
 simp only [id, Function.comp]; omega
theorem row_found {bs pre rest : List Bool} {p w n : Nat} (xs : List Nat) (hb : bs = pre ++ (numsB xs w ++ rest)) (hp : p = pre.length) (hn : n = xs.length) (hx : ∀ x ∈ xs, x < 2 ^ w) : vals bs p w n = xs ∧ p + n * w ≤ bs.length := by
 refine ⟨vals_flat (post := rest) xs pre (by rw [hb]; rfl) hp hn hx, ?_⟩
 rw [hb, List.length_append, List.length_append, numsB_len, hp, hn]; omega
theorem fill_found {bs pre rest : List Bool} {p w n x : Nat} (hb : bs = pre ++ (fillN n w x ++ rest)) (hp : p = pre.length) : p + n * w ≤ bs.length := by
 rw [hb, List.length_append, List.length_append, fillN_len, hp]; omega
theorem lt_wid_of {x y : Nat} (h : x ≤ y) : x < 2 ^ wid y := Nat.lt_of_le_of_lt h (lt_wid y)
theorem le_sum_mem {x : Nat} : ∀ {l : List Nat}, x ∈ l → x ≤ l.sum
 | [], h => by cases h
 | y :: l, h => by
   rw [List.sum_cons]
   rcases List.mem_cons.1 h with rfl | h
   ·omega
   ·have := le_sum_mem h
    omega
theorem dec_back {a : Nat} {h : HN} {r : RestN} {tail : List Bool} (hok : h.Ok) (ha : a ≤ 2147483647) (hf : r.f ≤ 32) (hp : r.p ≤ 32) (hq : r.q ≤ 32) (hfill : r.fill < 4294967296) :
 DecTo (tabB a h r ++ tail) (h.os.length : Int) ⟨0, a, h.os, h.ls, h.shs, (pack true (tabB a h r)).length⟩ := by
 obtain ⟨z1, hz1⟩ := align_split (headB a h r ++ numsB (HN.above h.os) h.wa)
 obtain ⟨z2, hz2⟩ := align_split (part1 a h r ++ numsB (HN.above h.ls) h.wb)
 obtain ⟨z3, hz3⟩ := align_split (part2 a h r ++ numsB h.counts h.wc)
 obtain ⟨z4, hz4⟩ := align_split (part3 a h r ++ numsB h.all h.wd)
 obtain ⟨z5, hz5⟩ := align_split (part4 a h r ++ fillN h.many r.f r.fill)
 obtain ⟨z6, hz6⟩ := align_split (part5 a h r ++ fillN h.os.length r.p r.fill)
 obtain ⟨z7, hz7⟩ := align_split (part6 a h r ++ fillN h.os.length r.q r.fill)
 have wa32 : h.wa ≤ 32 := width_le (fun y hy => by have := hok.os y hy; omega)
 have wb32 : h.wb ≤ 32 := width_le (fun y hy => by have := hok.ls y hy; omega)
 have hcm : ∀ x ∈ h.counts, x ≤ h.many := fun x hx => by
  obtain ⟨row, hr, rfl⟩ := List.mem_map.1 hx
  unfold HN.many HN.all
  rw [List.length_flatten]
  exact le_sum_mem (List.mem_map_of_mem hr)
 have wc32 : h.wc ≤ 32 := wid_le.2 (mx_lt (by decide) (fun y hy => by have := hcm y hy; have := hok.many; omega))
 have wd32 : h.wd ≤ 32 := wid_le.2 (mx_lt (by decide) (fun y hy => by have := hok.sh y hy; omega))
 have hx32 : r.x < 4294967296 := by unfold RestN.x; split <;> omega
 have hlo : least h.os < 4294967296 := by
  have h1 := hok.pos
  obtain ⟨x, hx⟩ : ∃ x, x ∈ h.os := List.exists_mem_of_length_pos (by omega)
  have := least_le hx
  have := hok.os x hx
  omega
 have hll : least h.ls < 4294967296 := by
  have h1 := hok.pos
  obtain ⟨x, hx⟩ : ∃ x, x ∈ h.ls := List.exists_mem_of_length_pos (by have := hok.ll; omega)
  have := least_le hx
  have := hok.ls x hx
  omega
 obtain ⟨n, hn⟩ : ∃ n, n = h.os.length := ⟨_, rfl⟩
 have hlen0 : tabB a h r = (part6 a h r ++ fillN h.os.length r.q r.fill) ++ z7 := hz7
 obtain ⟨bs, hbs⟩ : ∃ bs, bs = tabB a h r ++ tail := ⟨_, rfl⟩
 obtain ⟨t7, ht7⟩ : ∃ t, t = z7 ++ tail := ⟨_, rfl⟩
 have e7 : bs = part6 a h r ++ (fillN h.os.length r.q r.fill ++ t7) := by rw [hbs, hlen0, ht7]; simp only [List.append_assoc]
 obtain ⟨t6, ht6⟩ : ∃ t, t = z6 ++ (fillN h.os.length r.q r.fill ++ t7) := ⟨_, rfl⟩
 have e6 : bs = part5 a h r ++ (fillN h.os.length r.p r.fill ++ t6) := by rw [e7, ht6]; unfold part6; rw [hz6]; simp only [List.append_assoc]
 obtain ⟨t5, ht5⟩ : ∃ t, t = z5 ++ (fillN h.os.length r.p r.fill ++ t6) := ⟨_, rfl⟩
 have e5 : bs = part4 a h r ++ (fillN h.many r.f r.fill ++ t5) := by rw [e6, ht5]; unfold part5; rw [hz5]; simp only [List.append_assoc]
 obtain ⟨t4, ht4⟩ : ∃ t, t = z4 ++ (fillN h.many r.f r.fill ++ t5) := ⟨_, rfl⟩
 have e4 : bs = part3 a h r ++ (numsB h.all h.wd ++ t4) := by rw [e5, ht4]; unfold part4; rw [hz4]; simp only [List.append_assoc]
 obtain ⟨t3, ht3⟩ : ∃ t, t = z3 ++ (numsB h.all h.wd ++ t4) := ⟨_, rfl⟩
 have e3 : bs = part2 a h r ++ (numsB h.counts h.wc ++ t3) := by rw [e4, ht3]; unfold part3; rw [hz3]; simp only [List.append_assoc]
 obtain ⟨t2, ht2⟩ : ∃ t, t = z2 ++ (numsB h.counts h.wc ++ t3) := ⟨_, rfl⟩
 have e2 : bs = part1 a h r ++ (numsB (HN.above h.ls) h.wb ++ t2) := by rw [e3, ht2]; unfold part2; rw [hz2]; simp only [List.append_assoc]
 obtain ⟨t1, ht1⟩ : ∃ t, t = z1 ++ (numsB (HN.above h.ls) h.wb ++ t2) := ⟨_, rfl⟩
 have e1 : bs = headB a h r ++ (numsB (HN.above h.os) h.wa ++ t1) := by rw [e2, ht1]; unfold part1; rw [hz1]; simp only [List.append_assoc]
 obtain ⟨r0, hr0⟩ : ∃ t, t = numsB (HN.above h.os) h.wa ++ t1 := ⟨_, rfl⟩
 have e0 : bs = headB a h r ++ r0 := by rw [e1, hr0]
 have hl288 : 288 ≤ bs.length := by rw [e0, List.length_append, headB_len]; omega
 have k_h0 : h0 bs = least h.os := numAt_mid (pre := []) (post := bN a 32 ++ bN h.wa 16 ++ bN (least h.ls) 32 ++ bN h.wb 16 ++ bN r.x 32 ++ bN r.p 16 ++ bN r.x 32 ++ bN r.q 16 ++ bN h.wc 16 ++ bN h.wd 16 ++ bN r.f 16 ++ bN 1 16 ++ r0) (by rw [e0]; unfold headB bN; simp only [List.nil_append, List.append_assoc]) (by simp only [List.length_append, List.length_nil, bN_len]) (by omega)
 have k_h1 : h1 bs = a := numAt_mid (pre := bN (least h.os) 32) (post := bN h.wa 16 ++ bN (least h.ls) 32 ++ bN h.wb 16 ++ bN r.x 32 ++ bN r.p 16 ++ bN r.x 32 ++ bN r.q 16 ++ bN h.wc 16 ++ bN h.wd 16 ++ bN r.f 16 ++ bN 1 16 ++ r0) (by rw [e0]; unfold headB bN; simp only [List.nil_append, List.append_assoc]) (by simp only [List.length_append, List.length_nil, bN_len]) (by omega)
 have k_h2 : h2 bs = h.wa := numAt_mid (pre := bN (least h.os) 32 ++ bN a 32) (post := bN (least h.ls) 32 ++ bN h.wb 16 ++ bN r.x 32 ++ bN r.p 16 ++ bN r.x 32 ++ bN r.q 16 ++ bN h.wc 16 ++ bN h.wd 16 ++ bN r.f 16 ++ bN 1 16 ++ r0) (by rw [e0]; unfold headB bN; simp only [List.nil_append, List.append_assoc]) (by simp only [List.length_append, List.length_nil, bN_len]) (by omega)
 have k_h3 : h3 bs = least h.ls := numAt_mid (pre := bN (least h.os) 32 ++ bN a 32 ++ bN h.wa 16) (post := bN h.wb 16 ++ bN r.x 32 ++ bN r.p 16 ++ bN r.x 32 ++ bN r.q 16 ++ bN h.wc 16 ++ bN h.wd 16 ++ bN r.f 16 ++ bN 1 16 ++ r0) (by rw [e0]; unfold headB bN; simp only [List.nil_append, List.append_assoc]) (by simp only [List.length_append, List.length_nil, bN_len]) (by omega)
 have k_h4 : h4 bs = h.wb := numAt_mid (pre := bN (least h.os) 32 ++ bN a 32 ++ bN h.wa 16 ++ bN (least h.ls) 32) (post := bN r.x 32 ++ bN r.p 16 ++ bN r.x 32 ++ bN r.q 16 ++ bN h.wc 16 ++ bN h.wd 16 ++ bN r.f 16 ++ bN 1 16 ++ r0) (by rw [e0]; unfold headB bN; simp only [List.nil_append, List.append_assoc]) (by simp only [List.length_append, List.length_nil, bN_len]) (by omega)
 have k_h6 : h6 bs = r.p := numAt_mid (pre := bN (least h.os) 32 ++ bN a 32 ++ bN h.wa 16 ++ bN (least h.ls) 32 ++ bN h.wb 16 ++ bN r.x 32) (post := bN r.x 32 ++ bN r.q 16 ++ bN h.wc 16 ++ bN h.wd 16 ++ bN r.f 16 ++ bN 1 16 ++ r0) (by rw [e0]; unfold headB bN; simp only [List.nil_append, List.append_assoc]) (by simp only [List.length_append, List.length_nil, bN_len]) (by omega)
 have k_h8 : h8 bs = r.q := numAt_mid (pre := bN (least h.os) 32 ++ bN a 32 ++ bN h.wa 16 ++ bN (least h.ls) 32 ++ bN h.wb 16 ++ bN r.x 32 ++ bN r.p 16 ++ bN r.x 32) (post := bN h.wc 16 ++ bN h.wd 16 ++ bN r.f 16 ++ bN 1 16 ++ r0) (by rw [e0]; unfold headB bN; simp only [List.nil_append, List.append_assoc]) (by simp only [List.length_append, List.length_nil, bN_len]) (by omega)
 have k_h9 : h9 bs = h.wc := numAt_mid (pre := bN (least h.os) 32 ++ bN a 32 ++ bN h.wa 16 ++ bN (least h.ls) 32 ++ bN h.wb 16 ++ bN r.x 32 ++ bN r.p 16 ++ bN r.x 32 ++ bN r.q 16) (post := bN h.wd 16 ++ bN r.f 16 ++ bN 1 16 ++ r0) (by rw [e0]; unfold headB bN; simp only [List.nil_append, List.append_assoc]) (by simp only [List.length_append, List.length_nil, bN_len]) (by omega)
 have k_h10 : h10 bs = h.wd := numAt_mid (pre := bN (least h.os) 32 ++ bN a 32 ++ bN h.wa 16 ++ bN (least h.ls) 32 ++ bN h.wb 16 ++ bN r.x 32 ++ bN r.p 16 ++ bN r.x 32 ++ bN r.q 16 ++ bN h.wc 16) (post := bN r.f 16 ++ bN 1 16 ++ r0) (by rw [e0]; unfold headB bN; simp only [List.nil_append, List.append_assoc]) (by simp only [List.length_append, List.length_nil, bN_len]) (by omega)
 have k_h11 : h11 bs = r.f := numAt_mid (pre := bN (least h.os) 32 ++ bN a 32 ++ bN h.wa 16 ++ bN (least h.ls) 32 ++ bN h.wb 16 ++ bN r.x 32 ++ bN r.p 16 ++ bN r.x 32 ++ bN r.q 16 ++ bN h.wc 16 ++ bN h.wd 16) (post := bN 1 16 ++ r0) (by rw [e0]; unfold headB bN; simp only [List.nil_append, List.append_assoc]) (by simp only [List.length_append, List.length_nil, bN_len]) (by omega)
 have p1 : q1 bs n = (part1 a h r).length := by unfold q1 part1; rw [k_h2, al8_align, List.length_append, headB_len, numsB_len, above_len, hn]
 have p2 : q2 bs n = (part2 a h r).length := by unfold q2 part2; rw [p1, k_h4, al8_align, List.length_append, numsB_len, above_len, hok.ll, hn]
 have p3 : q3 bs n = (part3 a h r).length := by unfold q3 part3; rw [p2, k_h9, al8_align, List.length_append, numsB_len, show h.counts.length = n from by rw [hn, HN.counts, List.length_map, hok.lsh]]
 have r1 := row_found (n := n) (HN.above h.os) e1 (headB_len a h r).symm (by rw [above_len, hn]) (fun x hx => by obtain ⟨y, hy, rfl⟩ := List.mem_map.1 hx; exact above_lt hy)
 have r2 := row_found (n := n) (HN.above h.ls) e2 p1 (by rw [above_len, hok.ll, hn]) (fun x hx => by obtain ⟨y, hy, rfl⟩ := List.mem_map.1 hx; exact above_lt hy)
 have r3 := row_found (n := n) h.counts e3 p2 (by rw [hn, HN.counts, List.length_map, hok.lsh]) (fun x hx => lt_wid_of (le_mx hx))
 have r4 := row_found (n := h.many) h.all e4 p3 rfl (fun x hx => lt_wid_of (le_mx hx))
 have hcn : cnts bs n = h.counts := by unfold cnts; rw [k_h9]; exact r3.1
 have hmn : mny bs n = h.many := by unfold mny; rw [hcn, HN.counts, HN.many, HN.all, List.length_flatten]
 have p4 : q4 bs n = (part4 a h r).length := by unfold q4 part4; rw [p3, hmn, k_h10, al8_align, List.length_append, numsB_len]; rfl
 have r5 := fill_found e5 p4
 have p5 : q5 bs n = (part5 a h r).length := by unfold q5 part5; rw [p4, hmn, k_h11, al8_align, List.length_append, fillN_len]
 have r6 := fill_found e6 p5
 have p6 : q6 bs n = (part6 a h r).length := by unfold q6 part6; rw [p5, k_h6, al8_align, List.length_append, fillN_len, hn]
 have r7 := fill_found e7 p6
 have p7 : q7 bs n = (tabB a h r).length := by unfold q7 tabB; rw [p6, k_h8, al8_align, List.length_append, fillN_len, hn]
 have hOK : HeadOk bs := ⟨by omega, by omega, by omega, by omega, by omega, by omega, by omega, by omega⟩
 have h8 : (tabB a h r).length % 8 = 0 := by unfold tabB; exact align_mod _
 have hpl : (pack true (tabB a h r)).length = q7 bs n / 8 := by
  rw [pack_length, ← p7]
  rw [← p7] at h8
  generalize q7 bs n = y at h8 ⊢
  omega
 have hct : cut h.counts h.all = h.shs := cut_flat h.shs
 have hG : good bs n = ⟨0, a, h.os, h.ls, h.shs, (pack true (tabB a h r)).length⟩ := by
  unfold good
  rw [k_h0, k_h1, k_h2, k_h3, k_h4, k_h10, r1.1, r2.1, above_back, above_back, hcn, hmn, r4.1, hct, hpl]
 rw [← hbs, ← hn]
 refine Or.inr ⟨inB_true.2 ⟨by have := hok.pos; omega, by have := hok.le; omega⟩, Or.inr ⟨hl288, Or.inr ⟨hOK, ?_⟩⟩⟩
 rw [Int.toNat_natCast]
 refine ⟨0, RowE.of_zero (by rw [k_h2]; exact r1.2) (fun x hx => ?_), Or.inr ⟨rfl, ⟨0, RowE.of_zero (by rw [k_h4]; exact r2.2) (fun x hx => ?_), Or.inr ⟨rfl, ⟨0, RowE.of_zero (by rw [k_h9]; exact r3.2) ?_, Or.inr ⟨rfl, ⟨0, RowE.of_zero (by rw [hmn, k_h10]; exact r4.2) (fun x hx => ?_), Or.inr ⟨rfl, ⟨0, RowE.of_zero (by rw [hmn, k_h11]; exact r5) trivial, Or.inr ⟨rfl, ⟨0, RowE.of_zero (by rw [k_h6, hn]; rw [← hn]; rw [hn] at r6 ⊢; exact r6) trivial, Or.inr ⟨rfl, ⟨0, RowE.of_zero (by rw [k_h8]; rw [← hn] at r7; exact r7) trivial, Or.inr ⟨rfl, hG.symm⟩⟩⟩⟩⟩⟩⟩⟩⟩⟩⟩⟩⟩⟩
 ·rw [k_h2, r1.1] at hx
  obtain ⟨y, hy, rfl⟩ := List.mem_map.1 hx
  have := least_le hy
  have := hok.os y hy
  rw [k_h0]
  exact inB_true.2 ⟨by omega, by omega⟩
 ·rw [k_h4, r2.1] at hx
  obtain ⟨y, hy, rfl⟩ := List.mem_map.1 hx
  have := least_le hy
  have := hok.ls y hy
  rw [k_h3]
  exact inB_true.2 ⟨by omega, by omega⟩
 ·show (vals bs (q2 bs n) (h9 bs) n).sum ≤ 65536
  have := hok.many
  rw [← hmn] at this
  exact this
 ·rw [k_h10, hmn, r4.1] at hx
  exact hok.sh x hx
theorem tabB_mod (a : Nat) (h : HN) (r : RestN) : (tabB a h r).length % 8 = 0 := by unfold tabB; exact align_mod _
theorem bits_tab (a : Nat) (h : HN) (r : RestN) (behind : List UInt8) : bitsOf true (pack true (tabB a h r) ++ behind) = tabB a h r ++ bitsOf true behind := by
 rw [bitsOf_append, bitsOf_pack, align_id (tabB_mod a h r)]
theorem dec_tab {a : Nat} {h : HN} {r : RestN} {behind : List UInt8} {d : DRes} (hok : h.Ok) (ha : a ≤ 2147483647) (hf : r.f ≤ 32) (hp : r.p ≤ 32) (hq : r.q ≤ 32) (hfill : r.fill < 4294967296) (hd : DecTo (bitsOf true (pack true (tabB a h r) ++ behind)) (h.os.length : Int) d) :
 d = ⟨0, a, h.os, h.ls, h.shs, (pack true (tabB a h r)).length⟩ := by
 rw [bits_tab] at hd
 exact dec_unique hd (dec_back hok ha hf hp hq hfill)
theorem tab_len {a : Nat} {h : HN} {r : RestN} (hok : h.Ok) (hf : r.f ≤ 32) (hp : r.p ≤ 32) (hq : r.q ≤ 32) : (pack true (tabB a h r)).length ≤ 600000 := by
 have wa32 : h.wa ≤ 32 := width_le (fun y hy => by have := hok.os y hy; omega)
 have wb32 : h.wb ≤ 32 := width_le (fun y hy => by have := hok.ls y hy; omega)
 have hcm : ∀ x ∈ h.counts, x ≤ h.many := fun x hx => by
  obtain ⟨row, hr, rfl⟩ := List.mem_map.1 hx
  unfold HN.many HN.all
  rw [List.length_flatten]
  exact le_sum_mem (List.mem_map_of_mem hr)
 have wc32 : h.wc ≤ 32 := wid_le.2 (mx_lt (by decide) (fun y hy => by have := hcm y hy; have := hok.many; omega))
 have wd32 : h.wd ≤ 32 := wid_le.2 (mx_lt (by decide) (fun y hy => by have := hok.sh y hy; omega))
 have m1 : h.os.length * h.wa ≤ 40 * 32 := Nat.mul_le_mul hok.le wa32
 have m2 : h.os.length * h.wb ≤ 40 * 32 := Nat.mul_le_mul hok.le wb32
 have m3 : h.os.length * h.wc ≤ 40 * 32 := Nat.mul_le_mul hok.le wc32
 have m4 : h.many * h.wd ≤ 65536 * 32 := Nat.mul_le_mul hok.many wd32
 have m5 : h.many * r.f ≤ 65536 * 32 := Nat.mul_le_mul hok.many hf
 have m6 : h.os.length * r.p ≤ 40 * 32 := Nat.mul_le_mul hok.le hp
 have m7 : h.os.length * r.q ≤ 40 * 32 := Nat.mul_le_mul hok.le hq
 have l1 : (part1 a h r).length ≤ 300 + 40 * 32 := by unfold part1; rw [align_length, List.length_append, headB_len, numsB_len, above_len]; omega
 have l2 : (part2 a h r).length ≤ 310 + 2 * (40 * 32) := by unfold part2; rw [align_length, List.length_append, numsB_len, above_len, hok.ll]; omega
 have l3 : (part3 a h r).length ≤ 320 + 3 * (40 * 32) := by unfold part3; rw [align_length, List.length_append, numsB_len, HN.counts, List.length_map, hok.lsh]; omega
 have l4 : (part4 a h r).length ≤ 330 + 3 * (40 * 32) + 65536 * 32 := by unfold part4; rw [align_length, List.length_append, numsB_len]; unfold HN.many at m4; omega
 have l5 : (part5 a h r).length ≤ 340 + 3 * (40 * 32) + 2 * (65536 * 32) := by unfold part5; rw [align_length, List.length_append, fillN_len]; omega
 have l6 : (part6 a h r).length ≤ 350 + 4 * (40 * 32) + 2 * (65536 * 32) := by unfold part6; rw [align_length, List.length_append, fillN_len]; omega
 rw [pack_length]
 unfold tabB
 rw [align_length, List.length_append, fillN_len]
 omega
def PageAt (W : World) (ad : Option Addr) (h : HN) (k : Nat) : Prop :=
 ∃ (b o on ln : Nat) (sa : Option Addr) (sc : Nat) (xs : List Nat), ad = some ⟨b, o, none⟩ ∧ W.cell? ⟨b, o + k * 3, none⟩ = some (.int .i64 on) ∧ W.cell? ⟨b, o + k * 3 + 1, none⟩ = some (.int .i64 ln) ∧ W.cell? ⟨b, o + k * 3 + 2, none⟩ = some (.slice sa xs.length sc) ∧ RowOf W sa (xs.map intV) ∧
   h.os[k]? = some on ∧ h.ls[k]? = some ln ∧ h.shs[k]? = some xs ∧ (1 ≤ on ∧ on ≤ 4096) ∧ (1 ≤ ln ∧ ln ≤ 2147483647) ∧ Hid (∀ x ∈ xs, x ≤ 4095) ∧ xs.length ≤ 3000 ∧ xs.length ≤ sc ∧ (sa = none → sc = 0)
theorem page_at {W : World} {ad : Option Addr} {ps : List PH} {h : HN} {n : Nat} (hW : Hints W ad ps) (hnat : ∀ p ∈ ps, NatP p) (hm : Mod ps) (hh : h = toN ps) (hn : n = ps.length) (k : Nat) (hk : k < n) : PageAt W ad h k := by
 subst hh hn
 obtain ⟨b, o, had, p0, p1, p2⟩ := hW.at k hk
 obtain ⟨on, ln, xs, e0, e1, e2, f0, f1, f2, b0, b1, b2, b3, b4⟩ := toN_at hnat k hk
 have hlen : ps[k].sh.length = xs.length := by rw [e2, List.length_map]
 have h1 := hm.numbers _ (List.getElem_mem hk)
 have h2 := (hW.fit _ (List.getElem_mem hk)).1
 refine ⟨b, o, on, ln, ps[k].sa, ps[k].sc, xs, had, by rw [p0, e0], by rw [p1, e1], by rw [p2, hlen], ?_, f0, f1, f2, ⟨b3, b0⟩, ⟨b4, b1⟩, qh b2, by omega, by omega, (hW.fit _ (List.getElem_mem hk)).2.2⟩
 have := hW.sub _ (List.getElem_mem hk)
 rw [e2, List.map_map] at this
 exact this
theorem above_at {xs : List Nat} {k x : Nat} (h : xs[k]? = some x) : (HN.above xs)[k]? = some (x - least xs) := by unfold HN.above; rw [List.getElem?_map, h]; rfl
theorem mem_of_at {xs : List Nat} {k x : Nat} (h : xs[k]? = some x) : x ∈ xs := List.mem_of_getElem? h
theorem numsB_take_at {xs : List Nat} {k x w : Nat} (h : xs[k]? = some x) : numsB (xs.take (k + 1)) w = numsB (xs.take k) w ++ bN x w := by
 rw [List.take_add_one, h, numsB_append]; simp [numsB_one]
theorem mx_at {xs : List Nat} {k x : Nat} (h : xs[k]? = some x) : mx (xs.take (k + 1)) = max (mx (xs.take k)) x := fold_take_succ max 0 xs k x h
theorem least_le_most {xs : List Nat} (h : xs ≠ []) : least xs ≤ most xs := by
 cases xs with
 | nil => exact absurd rfl h
 | cons x xs => exact Nat.le_trans (least_le (y := x) (by simp)) (le_most (by simp))
end Go.Proofs.YtomcdhljjmnahaaGreat.P26
namespace Go.Proofs.YtomcdhljjmnahaaGreat.P26
open Go.RowKit
def pageV (o l : Int) (sa : Option Addr) (n sc : Nat) : Value := .agg #[.int .i64 o, .int .i64 l, .slice sa n sc]
def GotInt (x : Int) (w : World) (e : Ending) (w' : World) : Prop := e = .returned (.int .i64 x) ∧ Pure w w'
theorem objects_any (o l : Int) (sa : Option Addr) (n sc : Nat) (w : World) : Calls Tryz.prog 54 #[pageV o l sa n sc] w (GotInt o w) := by
 unfold pageV
 go_enter Tryz.func54, Tryz.ntmps54
 go_wp2_with fail
 go_ret
 exact ⟨rfl, (Ext.refl _ _).alloc _⟩
theorem length_any (o l : Int) (sa : Option Addr) (n sc : Nat) (w : World) : Calls Tryz.prog 55 #[pageV o l sa n sc] w (GotInt l w) := by
 unfold pageV
 go_enter Tryz.func55, Tryz.ntmps55
 go_wp2_with fail
 go_ret
 exact ⟨rfl, (Ext.refl _ _).alloc _⟩
theorem count_any (o l : Int) (sa : Option Addr) (n sc : Nat) (w : World) (hn : n ≤ 1000000000) : Calls Tryz.prog 56 #[pageV o l sa n sc] w (GotInt n w) := by
 unfold pageV
 go_enter Tryz.func56, Tryz.ntmps56
 go_wp2_with fail
 go_ret
 exact ⟨rfl, (Ext.refl _ _).alloc _⟩
theorem above_obj_any (o l : Int) (sa : Option Addr) (n sc : Nat) (lo : Int) (b : Nat) (w : World) (hc : w.cell? ⟨b, 0, none⟩ = some (.int .i64 lo)) (h : lo ≤ o) (h0 : 0 ≤ lo) (h1 : o ≤ 2147483647) : Calls Tryz.prog 66 #[pageV o l sa n sc, .pointer (some ⟨b, 0, none⟩)] w (GotInt (o - lo) w) := by
 unfold pageV
 have hb : b < w.heap.size := World.block_lt_of_cell? w ⟨b, 0, none⟩ hc
 go_enter Tryz.func66, Tryz.ntmps66
 go_wp2_with fail
 go_ret
 exact ⟨rfl, (Ext.refl _ _).alloc _⟩
theorem above_len_any (o l : Int) (sa : Option Addr) (n sc : Nat) (lo : Int) (b : Nat) (w : World) (hc : w.cell? ⟨b, 0, none⟩ = some (.int .i64 lo)) (h : lo ≤ l) (h0 : 0 ≤ lo) (h1 : l ≤ 2147483647) : Calls Tryz.prog 67 #[pageV o l sa n sc, .pointer (some ⟨b, 0, none⟩)] w (GotInt (l - lo) w) := by
 unfold pageV
 have hb : b < w.heap.size := World.block_lt_of_cell? w ⟨b, 0, none⟩ hc
 go_enter Tryz.func67, Tryz.ntmps67
 go_wp2_with fail
 go_ret
 exact ⟨rfl, (Ext.refl _ _).alloc _⟩
theorem id_any (x : Int) (w : World) : Calls Tryz.prog 69 #[.int .i64 x] w (GotInt x w) := by
 go_enter Tryz.func69, Tryz.ntmps69
 go_wp2_with fail
 go_ret
 exact ⟨rfl, Ext.refl _ _⟩
