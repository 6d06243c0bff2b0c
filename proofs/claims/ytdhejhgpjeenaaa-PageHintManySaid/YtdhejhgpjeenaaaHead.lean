/-
  Walked: the program's reader: the head.
-/
import Derived.Test.YtdhejhgpjeenaaaProws
import Derived.Test.YtdhejhgpjeenaaaMax
import Derived.Test.YtdhejhgpjeenaaaAgg
namespace Go.Proofs.Ytdhejhgpjeenaaa
open Go.RowKit C26
set_option linter.unusedVariables false

theorem numRes_mk {rr rb : Nat} {l : List UInt8} {s s' : St} {n v : Nat} {a : Option Addr} {c : Nat} {W : World} {e : Ending} {W' : World} (h : NumRes rr rb l s n a c W e W') (hv : num1 (bitsOf true l) s n = (v, s')) : e = .returned (.int .i64 (v : Nat)) ∧ RS W' rr rb l s' a c ∧ Ext (RdS rr rb) W W' := by
  unfold NumRes at h
  rw [hv] at h
  exact h
/-- a reader stands at a place, or it has ended ahead of it -/
def AtOr (bs : List Bool) (s : St) (o : Nat) : Prop := (s = (o, 0) ∧ o ≤ bs.length) ∨ (s.2 = 10 ∧ bs.length < o)
theorem num1_at {bs : List Bool} {s s' : St} {w v o o' : Nat} (h : num1 bs s w = (v, s')) (hs : AtOr bs s o) (ho : o' = o + w) : AtOr bs s' o' ∧ (o' ≤ bs.length → v = numAt bs o w) := by
  subst ho
  rcases hs with ⟨rfl, hl⟩ | ⟨he, hl⟩
  · by_cases hc : bs.length < o + w
    · rw [num1_cut hc] at h
      cases h
      exact ⟨Or.inr ⟨rfl, hc⟩, fun hh => by omega⟩
    · rw [num1_yes (by omega)] at h
      cases h
      exact ⟨Or.inl ⟨rfl, by omega⟩, fun _ => rfl⟩
  · rw [num1_err (by rw [he]; decide)] at h
    cases h
    exact ⟨Or.inr ⟨he, by omega⟩, fun hh => by omega⟩
theorem head_plain {bs : List Bool} {v1 v2 v3 v4 v5 v6 v7 v8 v9 v10 v11 v12 v13 : Nat} {s1 s2 s3 s4 s5 s6 s7 s8 s9 s10 s11 s12 s13 : St} (k1 : num1 bs (0, 0) 32 = (v1, s1)) (k2 : num1 bs s1 32 = (v2, s2)) (k3 : num1 bs s2 16 = (v3, s3)) (k4 : num1 bs s3 32 = (v4, s4)) (k5 : num1 bs s4 16 = (v5, s5)) (k6 : num1 bs s5 32 = (v6, s6)) (k7 : num1 bs s6 16 = (v7, s7)) (k8 : num1 bs s7 32 = (v8, s8)) (k9 : num1 bs s8 16 = (v9, s9)) (k10 : num1 bs s9 16 = (v10, s10)) (k11 : num1 bs s10 16 = (v11, s11)) (k12 : num1 bs s11 16 = (v12, s12)) (k13 : num1 bs s12 16 = (v13, s13)) :
    (bs.length < 288 ∧ s13.2 = 10) ∨ (288 ≤ bs.length ∧ s13 = (288, 0) ∧ v1 = h0 bs ∧ v2 = h1 bs ∧ v3 = h2 bs ∧ v4 = h3 bs ∧ v5 = h4 bs ∧ v7 = h6 bs ∧ v9 = h8 bs ∧ v10 = h9 bs ∧ v11 = h10 bs ∧ v12 = h11 bs) := by
  obtain ⟨a1, b1⟩ := num1_at (o' := 32) k1 (o := 0) (Or.inl ⟨rfl, Nat.zero_le _⟩) rfl
  obtain ⟨a2, b2⟩ := num1_at (o' := 64) k2 a1 rfl
  obtain ⟨a3, b3⟩ := num1_at (o' := 80) k3 a2 rfl
  obtain ⟨a4, b4⟩ := num1_at (o' := 112) k4 a3 rfl
  obtain ⟨a5, b5⟩ := num1_at (o' := 128) k5 a4 rfl
  obtain ⟨a6, b6⟩ := num1_at (o' := 160) k6 a5 rfl
  obtain ⟨a7, b7⟩ := num1_at (o' := 176) k7 a6 rfl
  obtain ⟨a8, b8⟩ := num1_at (o' := 208) k8 a7 rfl
  obtain ⟨a9, b9⟩ := num1_at (o' := 224) k9 a8 rfl
  obtain ⟨a10, b10⟩ := num1_at (o' := 240) k10 a9 rfl
  obtain ⟨a11, b11⟩ := num1_at (o' := 256) k11 a10 rfl
  obtain ⟨a12, b12⟩ := num1_at (o' := 272) k12 a11 rfl
  obtain ⟨a13, b13⟩ := num1_at (o' := 288) k13 a12 rfl
  rcases a13 with ⟨h, hl⟩ | ⟨h, hl⟩
  · exact Or.inr ⟨hl, h, b1 (by omega), b2 (by omega), b3 (by omega), b4 (by omega), b5 (by omega), b7 (by omega), b9 (by omega), b10 (by omega), b11 (by omega), b12 (by omega)⟩
  · exact Or.inl ⟨hl, h⟩
def HoldTo2 (rr rb : Nat) (l : List UInt8) (s : St) (so : Bool) (a : Option Addr) (c : Nat) (W : World) (e : Ending) (W' : World) : Prop := e = .returned (.tuple #[]) ∧ RS W' rr rb l (s.1, if s.2 = 0 then (if so = true then 0 else 27) else s.2) a c ∧ Ext (fun i => i = rr) W W'
set_option maxRecDepth 100000 in
theorem hold_all (so : Bool) (rr rb : Nat) (l : List UInt8) (a : Option Addr) (c : Nat) (s : St) (W : World) (hS : RS W rr rb l s a c) :
    Calls Try.prog 59 #[.pointer (some ⟨rr, 0, none⟩), .bool so] W (HoldTo2 rr rb l s so a c W) := by
  obtain ⟨p, er⟩ := s
  by_cases he : er = 0
  · subst he
    exact (hold_any so rr rb l a c p W hS).mono fun e W' ⟨h1, h2, h3⟩ => ⟨h1, by simpa using h2, h3⟩
  · have g1 : W.cell? ⟨rr, 0 + 1, none⟩ = some (.int .i64 er) := hS.blk.cell 1
    have he1 : (er == 0) = false := by simpa using he
    have HS : Hid (RS W rr rb l (p, if er = 0 then (if so = true then 0 else 27) else er) a c) := Lib.hid (by rw [if_neg he]; exact hS)
    clear hS he
    go_enter Try.func59, Try.ntmps59
    go_wp2_with fail
    go_end0
    exact ⟨rfl, HS.out, Ext.refl _ _⟩
theorem mx32 {ls : List Nat} : mx ls ≤ 32 ↔ ∀ y ∈ ls, y ≤ 32 :=
  ⟨fun h y hy => Nat.le_trans (le_mx hy) h, fun h => Nat.le_of_lt_succ (mx_lt (by decide) (fun y hy => Nat.lt_succ_of_le (h y hy)))⟩
def HeadOk2 (v2 v3 v5 v7 v9 v10 v11 v12 : Nat) : Bool := decide (v2 ≤ 2147483647) && decide (mx [v3, v5, v7, v9, v10, v11, v12] ≤ 32)
theorem headOk2_yes {v2 v3 v5 v7 v9 v10 v11 v12 : Nat} (h1 : v2 ≤ 2147483647) (h2 : mx [v3, v5, v7, v9, v10, v11, v12] ≤ 32) : HeadOk2 v2 v3 v5 v7 v9 v10 v11 v12 = true := by simp [HeadOk2, h1, h2]
theorem headOk2_no {v2 v3 v5 v7 v9 v10 v11 v12 : Nat} (h : ¬ v2 ≤ 2147483647 ∨ ¬ mx [v3, v5, v7, v9, v10, v11, v12] ≤ 32) : HeadOk2 v2 v3 v5 v7 v9 v10 v11 v12 = false := by
  rcases h with h | h <;> simp [HeadOk2, h]
theorem head_end {bs : List Bool} {v1 v2 v3 v4 v5 v7 v9 v10 v11 v12 : Nat} {s13 : St} {so : Bool} (hp : (bs.length < 288 ∧ s13.2 = 10) ∨ (288 ≤ bs.length ∧ s13 = (288, 0) ∧ v1 = h0 bs ∧ v2 = h1 bs ∧ v3 = h2 bs ∧ v4 = h3 bs ∧ v5 = h4 bs ∧ v7 = h6 bs ∧ v9 = h8 bs ∧ v10 = h9 bs ∧ v11 = h10 bs ∧ v12 = h11 bs)) (hso : HeadOk2 v2 v3 v5 v7 v9 v10 v11 v12 = so) :
    (bs.length < 288 ∧ (if s13.2 = 0 then (if so = true then (0 : Int) else 27) else s13.2) = 10) ∨ (288 ≤ bs.length ∧ ((¬ HeadOk bs ∧ (if s13.2 = 0 then (if so = true then (0 : Int) else 27) else s13.2) = 27) ∨ (HeadOk bs ∧ (if s13.2 = 0 then (if so = true then (0 : Int) else 27) else s13.2) = 0 ∧ s13.1 = 288 ∧ v1 = h0 bs ∧ v2 = h1 bs ∧ v3 = h2 bs ∧ v4 = h3 bs ∧ v5 = h4 bs ∧ v7 = h6 bs ∧ v9 = h8 bs ∧ v10 = h9 bs ∧ v11 = h10 bs ∧ v12 = h11 bs))) := by
  rcases hp with ⟨hl, he⟩ | ⟨hl, rfl, rfl, rfl, rfl, rfl, rfl, rfl, rfl, rfl, rfl, rfl⟩
  · exact Or.inl ⟨hl, by rw [he]; rfl⟩
  · refine Or.inr ⟨hl, ?_⟩
    cases so with
    | false =>
      refine Or.inl ⟨fun hk => ?_, rfl⟩
      obtain ⟨k1, k2, k3, k4, k5, k6, k7, k8⟩ := hk
      rw [headOk2_yes k1 (mx32.2 (by simp; exact ⟨k2, k3, k4, k5, k6, k7, k8⟩))] at hso
      cases hso
    | true =>
      simp only [HeadOk2, Bool.and_eq_true, decide_eq_true_eq, mx32] at hso
      obtain ⟨k1, hm⟩ := hso
      simp at hm
      exact Or.inr ⟨⟨k1, hm.1, hm.2.1, hm.2.2.1, hm.2.2.2.1, hm.2.2.2.2.1, hm.2.2.2.2.2.1, hm.2.2.2.2.2.2⟩, rfl, rfl, rfl, rfl, rfl, rfl, rfl, rfl, rfl, rfl, rfl, rfl⟩
def HeadTo (rr rb : Nat) (l : List UInt8) (a : Option Addr) (c : Nat) (W : World) (e : Ending) (W' : World) : Prop :=
  ∃ (v1 v2 v3 v4 v5 v7 v9 v10 v11 v12 q : Nat) (er : Int), e = .returned (.agg #[.int .i64 v1, .int .i64 v2, .int .i64 v3, .int .i64 v4, .int .i64 v5, .int .i64 v7, .int .i64 v9, .int .i64 v10, .int .i64 v11, .int .i64 v12]) ∧ RS W' rr rb l (q, er) a c ∧ Ext (RdS rr rb) W W' ∧
    (((bitsOf true l).length < 288 ∧ er = 10) ∨ (288 ≤ (bitsOf true l).length ∧ ((¬ HeadOk (bitsOf true l) ∧ er = 27) ∨ (HeadOk (bitsOf true l) ∧ er = 0 ∧ q = 288 ∧ v1 = h0 (bitsOf true l) ∧ v2 = h1 (bitsOf true l) ∧ v3 = h2 (bitsOf true l) ∧ v4 = h3 (bitsOf true l) ∧ v5 = h4 (bitsOf true l) ∧ v7 = h6 (bitsOf true l) ∧ v9 = h8 (bitsOf true l) ∧ v10 = h9 (bitsOf true l) ∧ v11 = h10 (bitsOf true l) ∧ v12 = h11 (bitsOf true l)))))
set_option maxHeartbeats 8000000 in
set_option maxRecDepth 100000 in
theorem head_any (rr rb : Nat) (l : List UInt8) (a : Option Addr) (c : Nat) (W : World) (hRS : RS W rr rb l (0, 0) a c) (hl : l.length ≤ 10000000) (halt : ∀ g, a = some g → g.block < W.heap.size) :
    Calls Try.prog 39 #[.pointer (some ⟨rr, 0, none⟩)] W (HeadTo rr rb l a c W) := by
  obtain ⟨tb, htb⟩ : ∃ z, z = W.heap.size := ⟨_, rfl⟩
  obtain ⟨ub, hub⟩ : ∃ z, z = tb + 1 := ⟨_, rfl⟩
  have hrr := hRS.blk.lt
  have hrb := hRS.rd.blk.lt
  rw [← htb] at hrr hrb halt
  obtain ⟨w1, hw1⟩ : ∃ z, z = (W.alloc (.cells #[.int .i64 0, .int .i64 0, .int .i64 0, .int .i64 0, .int .i64 0, .int .i64 0, .int .i64 0, .int .i64 0, .int .i64 0, .int .i64 0] 75)).alloc (.cells #[.int .i64 0, .int .i64 0, .int .i64 0, .int .i64 0, .int .i64 0, .int .i64 0, .int .i64 0, .int .i64 0, .int .i64 0, .int .i64 0] 75) := ⟨_, rfl⟩
  have hT : BlockIs w1 tb [.int .i64 0, .int .i64 0, .int .i64 0, .int .i64 0, .int .i64 0, .int .i64 0, .int .i64 0, .int .i64 0, .int .i64 0, .int .i64 0] 75 := by rw [hw1, htb]; exact (BlockIs.new W _ _).alloc _
  have hU : BlockIs w1 ub [.int .i64 0, .int .i64 0, .int .i64 0, .int .i64 0, .int .i64 0, .int .i64 0, .int .i64 0, .int .i64 0, .int .i64 0, .int .i64 0] 75 := by
    rw [hw1, hub, htb, show W.heap.size + 1 = (W.alloc (.cells #[.int .i64 0, .int .i64 0, .int .i64 0, .int .i64 0, .int .i64 0, .int .i64 0, .int .i64 0, .int .i64 0, .int .i64 0, .int .i64 0] 75)).heap.size from (World.size_alloc _ _).symm]
    exact BlockIs.new _ _ _
  have hP1 : Pure W w1 := by rw [hw1]; exact ((Ext.refl _ W).alloc _).alloc _
  have hX : Ext (RdS rr rb) W w1 := hP1.mono (fun _ _ e => e.elim)
  have hRS1 := hRS.pure hP1
  have HW1 := Lib.hid hw1
  have HTB := Lib.hid htb
  have HUB := Lib.hid hub
  have hTno : ¬ RdS rr rb tb := fun e => by rcases e with e | e <;> omega
  have hUno : ¬ RdS rr rb ub := fun e => by rcases e with e | e <;> omega
  have hbase : W.heap.size ≤ tb := by omega
  have htu : tb < ub := by omega
  clear hw1 hP1 hRS htb hub
  have hRS := hRS1
  clear hRS1
  go_enter Try.func39, Try.ntmps39
  go_wp2_with fail
  rw [← HW1.out, ← HTB.out, ← HUB.out]
  obtain ⟨v1, s1, hv1⟩ : ∃ v s, num1 (bitsOf true l) (0,0) 32 = (v, s) := ⟨_, _, rfl⟩
  refine (num_any rr rb l (0,0) a c 32 w1 hRS (by omega) hl).mono ?_
  intro e w2 hnr
  obtain ⟨rfl, hRSn, hEn⟩ := numRes_mk hnr hv1
  have hTn := hT.ext hEn hTno
  have hUn := hU.ext hEn hUno
  have hXn := hX.trans hEn (fun _ _ e => e)
  clear hRS hT hU hX hnr hEn
  have hRS := hRSn
  have hT := hTn
  have hU := hUn
  have hX := hXn
  clear hRSn hTn hUn hXn
  have HV1 := Lib.hid hv1
  clear hv1
  go_wp2_with fail
  obtain ⟨v2, s2, hv2⟩ : ∃ v s, num1 (bitsOf true l) s1 32 = (v, s) := ⟨_, _, rfl⟩
  refine (num_any rr rb l s1 a c 32 w2 hRS (by omega) hl).mono ?_
  intro e w3 hnr
  obtain ⟨rfl, hRSn, hEn⟩ := numRes_mk hnr hv2
  have hTn := hT.ext hEn hTno
  have hUn := hU.ext hEn hUno
  have hXn := hX.trans hEn (fun _ _ e => e)
  clear hRS hT hU hX hnr hEn
  have hRS := hRSn
  have hT := hTn
  have hU := hUn
  have hX := hXn
  clear hRSn hTn hUn hXn
  have HV2 := Lib.hid hv2
  clear hv2
  go_wp2_with fail
  obtain ⟨v3, s3, hv3⟩ : ∃ v s, num1 (bitsOf true l) s2 16 = (v, s) := ⟨_, _, rfl⟩
  refine (num_any rr rb l s2 a c 16 w3 hRS (by omega) hl).mono ?_
  intro e w4 hnr
  obtain ⟨rfl, hRSn, hEn⟩ := numRes_mk hnr hv3
  have hTn := hT.ext hEn hTno
  have hUn := hU.ext hEn hUno
  have hXn := hX.trans hEn (fun _ _ e => e)
  clear hRS hT hU hX hnr hEn
  have hRS := hRSn
  have hT := hTn
  have hU := hUn
  have hX := hXn
  clear hRSn hTn hUn hXn
  have HV3 := Lib.hid hv3
  clear hv3
  have fz0 : w4.frozen? ⟨ub, 0, none⟩ = false := hU.free 0
  have cz0 : w4.cell? ⟨ub, 0, none⟩ = some (.int .i64 0) := hU.cell 0
  have fz1 : w4.frozen? ⟨ub, 1, none⟩ = false := hU.free 1
  have cz1 : w4.cell? ⟨ub, 1, none⟩ = some (.int .i64 0) := hU.cell 1
  have fz2 : w4.frozen? ⟨ub, 2, none⟩ = false := hU.free 2
  have cz2 : w4.cell? ⟨ub, 2, none⟩ = some (.int .i64 0) := hU.cell 2
  go_wp2_with fail
  clear fz0 cz0
  clear fz1 cz1
  clear fz2 cz2
  obtain ⟨w5, hWN⟩ : ∃ z, z = (((w4).setCell ⟨ub, 0, none⟩ (.int .i64 (v1 : Nat))).setCell ⟨ub, 1, none⟩ (.int .i64 (v2 : Nat))).setCell ⟨ub, 2, none⟩ (.int .i64 (v3 : Nat)) := ⟨_, rfl⟩
  have hEs : Ext (fun i => i = ub) w4 w5 := hWN ▸ ((((Ext.refl (fun i => i = ub) w4).setCell (p := ⟨ub, 0, none⟩) (fun _ => rfl) (.int .i64 (v1 : Nat))).setCell (p := ⟨ub, 1, none⟩) (fun _ => rfl) (.int .i64 (v2 : Nat))).setCell (p := ⟨ub, 2, none⟩) (fun _ => rfl) (.int .i64 (v3 : Nat)))
  have hUs : BlockIs w5 ub [.int .i64 (v1 : Nat), .int .i64 (v2 : Nat), .int .i64 (v3 : Nat), .int .i64 0, .int .i64 0, .int .i64 0, .int .i64 0, .int .i64 0, .int .i64 0, .int .i64 0] 75 := hWN ▸ (((hU.set 0 (.int .i64 (v1 : Nat))).set 1 (.int .i64 (v2 : Nat))).set 2 (.int .i64 (v3 : Nat)))
  rw [← hWN]
  clear hWN
  have hRSn := hRS.ext hEs (fun e => hUno (Or.inl e.symm)) (fun e => hUno (Or.inr e.symm)) (fun g hg e => by have := halt g hg; have e' : g.block = ub := e; omega)
  have hTn := hT.ext hEs (fun e => by have e' : tb = ub := e; omega)
  have hXn := hX.trans hEs (fun i hi e => by have e' : i = ub := e; omega)
  clear hRS hT hU hX hEs
  have hRS := hRSn
  have hT := hTn
  have hU := hUs
  have hX := hXn
  clear hRSn hTn hUs hXn
  obtain ⟨v4, s4, hv4⟩ : ∃ v s, num1 (bitsOf true l) s3 32 = (v, s) := ⟨_, _, rfl⟩
  refine (num_any rr rb l s3 a c 32 w5 hRS (by omega) hl).mono ?_
  intro e w6 hnr
  obtain ⟨rfl, hRSn, hEn⟩ := numRes_mk hnr hv4
  have hTn := hT.ext hEn hTno
  have hUn := hU.ext hEn hUno
  have hXn := hX.trans hEn (fun _ _ e => e)
  clear hRS hT hU hX hnr hEn
  have hRS := hRSn
  have hT := hTn
  have hU := hUn
  have hX := hXn
  clear hRSn hTn hUn hXn
  have HV4 := Lib.hid hv4
  clear hv4
  go_wp2_with fail
  obtain ⟨v5, s5, hv5⟩ : ∃ v s, num1 (bitsOf true l) s4 16 = (v, s) := ⟨_, _, rfl⟩
  refine (num_any rr rb l s4 a c 16 w6 hRS (by omega) hl).mono ?_
  intro e w7 hnr
  obtain ⟨rfl, hRSn, hEn⟩ := numRes_mk hnr hv5
  have hTn := hT.ext hEn hTno
  have hUn := hU.ext hEn hUno
  have hXn := hX.trans hEn (fun _ _ e => e)
  clear hRS hT hU hX hnr hEn
  have hRS := hRSn
  have hT := hTn
  have hU := hUn
  have hX := hXn
  clear hRSn hTn hUn hXn
  have HV5 := Lib.hid hv5
  clear hv5
  have fz3 : w7.frozen? ⟨ub, 3, none⟩ = false := hU.free 3
  have cz3 : w7.cell? ⟨ub, 3, none⟩ = some (.int .i64 0) := hU.cell 3
  have fz4 : w7.frozen? ⟨ub, 4, none⟩ = false := hU.free 4
  have cz4 : w7.cell? ⟨ub, 4, none⟩ = some (.int .i64 0) := hU.cell 4
  go_wp2_with fail
  clear fz3 cz3
  clear fz4 cz4
  obtain ⟨w8, hWN⟩ : ∃ z, z = ((w7).setCell ⟨ub, 3, none⟩ (.int .i64 (v4 : Nat))).setCell ⟨ub, 4, none⟩ (.int .i64 (v5 : Nat)) := ⟨_, rfl⟩
  have hEs : Ext (fun i => i = ub) w7 w8 := hWN ▸ (((Ext.refl (fun i => i = ub) w7).setCell (p := ⟨ub, 3, none⟩) (fun _ => rfl) (.int .i64 (v4 : Nat))).setCell (p := ⟨ub, 4, none⟩) (fun _ => rfl) (.int .i64 (v5 : Nat)))
  have hUs : BlockIs w8 ub [.int .i64 (v1 : Nat), .int .i64 (v2 : Nat), .int .i64 (v3 : Nat), .int .i64 (v4 : Nat), .int .i64 (v5 : Nat), .int .i64 0, .int .i64 0, .int .i64 0, .int .i64 0, .int .i64 0] 75 := hWN ▸ ((hU.set 3 (.int .i64 (v4 : Nat))).set 4 (.int .i64 (v5 : Nat)))
  rw [← hWN]
  clear hWN
  have hRSn := hRS.ext hEs (fun e => hUno (Or.inl e.symm)) (fun e => hUno (Or.inr e.symm)) (fun g hg e => by have := halt g hg; have e' : g.block = ub := e; omega)
  have hTn := hT.ext hEs (fun e => by have e' : tb = ub := e; omega)
  have hXn := hX.trans hEs (fun i hi e => by have e' : i = ub := e; omega)
  clear hRS hT hU hX hEs
  have hRS := hRSn
  have hT := hTn
  have hU := hUs
  have hX := hXn
  clear hRSn hTn hUs hXn
  obtain ⟨v6, s6, hv6⟩ : ∃ v s, num1 (bitsOf true l) s5 32 = (v, s) := ⟨_, _, rfl⟩
  refine (num_any rr rb l s5 a c 32 w8 hRS (by omega) hl).mono ?_
  intro e w9 hnr
  obtain ⟨rfl, hRSn, hEn⟩ := numRes_mk hnr hv6
  have hTn := hT.ext hEn hTno
  have hUn := hU.ext hEn hUno
  have hXn := hX.trans hEn (fun _ _ e => e)
  clear hRS hT hU hX hnr hEn
  have hRS := hRSn
  have hT := hTn
  have hU := hUn
  have hX := hXn
  clear hRSn hTn hUn hXn
  have HV6 := Lib.hid hv6
  clear hv6
  go_wp2_with fail
  obtain ⟨v7, s7, hv7⟩ : ∃ v s, num1 (bitsOf true l) s6 16 = (v, s) := ⟨_, _, rfl⟩
  refine (num_any rr rb l s6 a c 16 w9 hRS (by omega) hl).mono ?_
  intro e w10 hnr
  obtain ⟨rfl, hRSn, hEn⟩ := numRes_mk hnr hv7
  have hTn := hT.ext hEn hTno
  have hUn := hU.ext hEn hUno
  have hXn := hX.trans hEn (fun _ _ e => e)
  clear hRS hT hU hX hnr hEn
  have hRS := hRSn
  have hT := hTn
  have hU := hUn
  have hX := hXn
  clear hRSn hTn hUn hXn
  have HV7 := Lib.hid hv7
  clear hv7
  have fz5 : w10.frozen? ⟨ub, 5, none⟩ = false := hU.free 5
  have cz5 : w10.cell? ⟨ub, 5, none⟩ = some (.int .i64 0) := hU.cell 5
  go_wp2_with fail
  clear fz5 cz5
  obtain ⟨w11, hWN⟩ : ∃ z, z = (w10).setCell ⟨ub, 5, none⟩ (.int .i64 (v7 : Nat)) := ⟨_, rfl⟩
  have hEs : Ext (fun i => i = ub) w10 w11 := hWN ▸ ((Ext.refl (fun i => i = ub) w10).setCell (p := ⟨ub, 5, none⟩) (fun _ => rfl) (.int .i64 (v7 : Nat)))
  have hUs : BlockIs w11 ub [.int .i64 (v1 : Nat), .int .i64 (v2 : Nat), .int .i64 (v3 : Nat), .int .i64 (v4 : Nat), .int .i64 (v5 : Nat), .int .i64 (v7 : Nat), .int .i64 0, .int .i64 0, .int .i64 0, .int .i64 0] 75 := hWN ▸ (hU.set 5 (.int .i64 (v7 : Nat)))
  rw [← hWN]
  clear hWN
  have hRSn := hRS.ext hEs (fun e => hUno (Or.inl e.symm)) (fun e => hUno (Or.inr e.symm)) (fun g hg e => by have := halt g hg; have e' : g.block = ub := e; omega)
  have hTn := hT.ext hEs (fun e => by have e' : tb = ub := e; omega)
  have hXn := hX.trans hEs (fun i hi e => by have e' : i = ub := e; omega)
  clear hRS hT hU hX hEs
  have hRS := hRSn
  have hT := hTn
  have hU := hUs
  have hX := hXn
  clear hRSn hTn hUs hXn
  obtain ⟨v8, s8, hv8⟩ : ∃ v s, num1 (bitsOf true l) s7 32 = (v, s) := ⟨_, _, rfl⟩
  refine (num_any rr rb l s7 a c 32 w11 hRS (by omega) hl).mono ?_
  intro e w12 hnr
  obtain ⟨rfl, hRSn, hEn⟩ := numRes_mk hnr hv8
  have hTn := hT.ext hEn hTno
  have hUn := hU.ext hEn hUno
  have hXn := hX.trans hEn (fun _ _ e => e)
  clear hRS hT hU hX hnr hEn
  have hRS := hRSn
  have hT := hTn
  have hU := hUn
  have hX := hXn
  clear hRSn hTn hUn hXn
  have HV8 := Lib.hid hv8
  clear hv8
  go_wp2_with fail
  obtain ⟨v9, s9, hv9⟩ : ∃ v s, num1 (bitsOf true l) s8 16 = (v, s) := ⟨_, _, rfl⟩
  refine (num_any rr rb l s8 a c 16 w12 hRS (by omega) hl).mono ?_
  intro e w13 hnr
  obtain ⟨rfl, hRSn, hEn⟩ := numRes_mk hnr hv9
  have hTn := hT.ext hEn hTno
  have hUn := hU.ext hEn hUno
  have hXn := hX.trans hEn (fun _ _ e => e)
  clear hRS hT hU hX hnr hEn
  have hRS := hRSn
  have hT := hTn
  have hU := hUn
  have hX := hXn
  clear hRSn hTn hUn hXn
  have HV9 := Lib.hid hv9
  clear hv9
  go_wp2_with fail
  obtain ⟨v10, s10, hv10⟩ : ∃ v s, num1 (bitsOf true l) s9 16 = (v, s) := ⟨_, _, rfl⟩
  refine (num_any rr rb l s9 a c 16 w13 hRS (by omega) hl).mono ?_
  intro e w14 hnr
  obtain ⟨rfl, hRSn, hEn⟩ := numRes_mk hnr hv10
  have hTn := hT.ext hEn hTno
  have hUn := hU.ext hEn hUno
  have hXn := hX.trans hEn (fun _ _ e => e)
  clear hRS hT hU hX hnr hEn
  have hRS := hRSn
  have hT := hTn
  have hU := hUn
  have hX := hXn
  clear hRSn hTn hUn hXn
  have HV10 := Lib.hid hv10
  clear hv10
  go_wp2_with fail
  obtain ⟨v11, s11, hv11⟩ : ∃ v s, num1 (bitsOf true l) s10 16 = (v, s) := ⟨_, _, rfl⟩
  refine (num_any rr rb l s10 a c 16 w14 hRS (by omega) hl).mono ?_
  intro e w15 hnr
  obtain ⟨rfl, hRSn, hEn⟩ := numRes_mk hnr hv11
  have hTn := hT.ext hEn hTno
  have hUn := hU.ext hEn hUno
  have hXn := hX.trans hEn (fun _ _ e => e)
  clear hRS hT hU hX hnr hEn
  have hRS := hRSn
  have hT := hTn
  have hU := hUn
  have hX := hXn
  clear hRSn hTn hUn hXn
  have HV11 := Lib.hid hv11
  clear hv11
  go_wp2_with fail
  obtain ⟨v12, s12, hv12⟩ : ∃ v s, num1 (bitsOf true l) s11 16 = (v, s) := ⟨_, _, rfl⟩
  refine (num_any rr rb l s11 a c 16 w15 hRS (by omega) hl).mono ?_
  intro e w16 hnr
  obtain ⟨rfl, hRSn, hEn⟩ := numRes_mk hnr hv12
  have hTn := hT.ext hEn hTno
  have hUn := hU.ext hEn hUno
  have hXn := hX.trans hEn (fun _ _ e => e)
  clear hRS hT hU hX hnr hEn
  have hRS := hRSn
  have hT := hTn
  have hU := hUn
  have hX := hXn
  clear hRSn hTn hUn hXn
  have HV12 := Lib.hid hv12
  clear hv12
  have fz6 : w16.frozen? ⟨ub, 6, none⟩ = false := hU.free 6
  have cz6 : w16.cell? ⟨ub, 6, none⟩ = some (.int .i64 0) := hU.cell 6
  have fz7 : w16.frozen? ⟨ub, 7, none⟩ = false := hU.free 7
  have cz7 : w16.cell? ⟨ub, 7, none⟩ = some (.int .i64 0) := hU.cell 7
  have fz8 : w16.frozen? ⟨ub, 8, none⟩ = false := hU.free 8
  have cz8 : w16.cell? ⟨ub, 8, none⟩ = some (.int .i64 0) := hU.cell 8
  have fz9 : w16.frozen? ⟨ub, 9, none⟩ = false := hU.free 9
  have cz9 : w16.cell? ⟨ub, 9, none⟩ = some (.int .i64 0) := hU.cell 9
  go_wp2_with fail
  clear fz6 cz6
  clear fz7 cz7
  clear fz8 cz8
  clear fz9 cz9
  obtain ⟨w17, hWN⟩ : ∃ z, z = ((((w16).setCell ⟨ub, 6, none⟩ (.int .i64 (v9 : Nat))).setCell ⟨ub, 7, none⟩ (.int .i64 (v10 : Nat))).setCell ⟨ub, 8, none⟩ (.int .i64 (v11 : Nat))).setCell ⟨ub, 9, none⟩ (.int .i64 (v12 : Nat)) := ⟨_, rfl⟩
  have hEs : Ext (fun i => i = ub) w16 w17 := hWN ▸ (((((Ext.refl (fun i => i = ub) w16).setCell (p := ⟨ub, 6, none⟩) (fun _ => rfl) (.int .i64 (v9 : Nat))).setCell (p := ⟨ub, 7, none⟩) (fun _ => rfl) (.int .i64 (v10 : Nat))).setCell (p := ⟨ub, 8, none⟩) (fun _ => rfl) (.int .i64 (v11 : Nat))).setCell (p := ⟨ub, 9, none⟩) (fun _ => rfl) (.int .i64 (v12 : Nat)))
  have hUs : BlockIs w17 ub [.int .i64 (v1 : Nat), .int .i64 (v2 : Nat), .int .i64 (v3 : Nat), .int .i64 (v4 : Nat), .int .i64 (v5 : Nat), .int .i64 (v7 : Nat), .int .i64 (v9 : Nat), .int .i64 (v10 : Nat), .int .i64 (v11 : Nat), .int .i64 (v12 : Nat)] 75 := hWN ▸ ((((hU.set 6 (.int .i64 (v9 : Nat))).set 7 (.int .i64 (v10 : Nat))).set 8 (.int .i64 (v11 : Nat))).set 9 (.int .i64 (v12 : Nat)))
  rw [← hWN]
  clear hWN
  have hRSn := hRS.ext hEs (fun e => hUno (Or.inl e.symm)) (fun e => hUno (Or.inr e.symm)) (fun g hg e => by have := halt g hg; have e' : g.block = ub := e; omega)
  have hTn := hT.ext hEs (fun e => by have e' : tb = ub := e; omega)
  have hXn := hX.trans hEs (fun i hi e => by have e' : i = ub := e; omega)
  clear hRS hT hU hX hEs
  have hRS := hRSn
  have hT := hTn
  have hU := hUs
  have hX := hXn
  clear hRSn hTn hUs hXn
  obtain ⟨v13, s13, hv13⟩ : ∃ v s, num1 (bitsOf true l) s12 16 = (v, s) := ⟨_, _, rfl⟩
  refine (num_any rr rb l s12 a c 16 w17 hRS (by omega) hl).mono ?_
  intro e w18 hnr
  obtain ⟨rfl, hRSn, hEn⟩ := numRes_mk hnr hv13
  have hTn := hT.ext hEn hTno
  have hUn := hU.ext hEn hUno
  have hXn := hX.trans hEn (fun _ _ e => e)
  clear hRS hT hU hX hnr hEn
  have hRS := hRSn
  have hT := hTn
  have hU := hUn
  have hX := hXn
  clear hRSn hTn hUn hXn
  have HV13 := Lib.hid hv13
  clear hv13
  have cu0 : w18.cell? ⟨ub, 0, none⟩ = some (.int .i64 (v1 : Nat)) := hU.cell 0
  have cu1 : w18.cell? ⟨ub, 1, none⟩ = some (.int .i64 (v2 : Nat)) := hU.cell 1
  have cu2 : w18.cell? ⟨ub, 2, none⟩ = some (.int .i64 (v3 : Nat)) := hU.cell 2
  have cu3 : w18.cell? ⟨ub, 3, none⟩ = some (.int .i64 (v4 : Nat)) := hU.cell 3
  have cu4 : w18.cell? ⟨ub, 4, none⟩ = some (.int .i64 (v5 : Nat)) := hU.cell 4
  have cu5 : w18.cell? ⟨ub, 5, none⟩ = some (.int .i64 (v7 : Nat)) := hU.cell 5
  have cu6 : w18.cell? ⟨ub, 6, none⟩ = some (.int .i64 (v9 : Nat)) := hU.cell 6
  have cu7 : w18.cell? ⟨ub, 7, none⟩ = some (.int .i64 (v10 : Nat)) := hU.cell 7
  have cu8 : w18.cell? ⟨ub, 8, none⟩ = some (.int .i64 (v11 : Nat)) := hU.cell 8
  have cu9 : w18.cell? ⟨ub, 9, none⟩ = some (.int .i64 (v12 : Nat)) := hU.cell 9
  have hubl := hU.lt
  have HPl := Lib.hid (head_plain HV1.out HV2.out HV3.out HV4.out HV5.out HV6.out HV7.out HV8.out HV9.out HV10.out HV11.out HV12.out HV13.out)
  clear HV1 HV2 HV3 HV4 HV5 HV6 HV7 HV8 HV9 HV10 HV11 HV12 HV13
  obtain ⟨w19, hw19⟩ : ∃ z, z = (w18.alloc (.cells #[.int .i64 (v3 : Nat), .int .i64 (v5 : Nat), .int .i64 (v7 : Nat), .int .i64 (v9 : Nat), .int .i64 (v10 : Nat), .int .i64 (v11 : Nat), .int .i64 (v12 : Nat)] 3)) := ⟨_, rfl⟩
  have hP19 : Pure w18 w19 := hw19 ▸ ext_alloc w18 _
  have hRow : RowOf w19 (some ⟨w18.heap.size, 0, none⟩) (([v3, v5, v7, v9, v10, v11, v12] : List Nat).map intV) := hw19 ▸ row_at _ rfl rfl
  have hM7 : ∀ w' : World, w' = w19 → Calls Try.prog 25 #[.slice (some ⟨w18.heap.size, 0, none⟩) 7 7] w' (fun e w'' => e = .returned (.int .i64 (mx [v3, v5, v7, v9, v10, v11, v12] : Nat)) ∧ w'' = w19) := fun w' h => by
    subst h
    exact maxN_any (some ⟨w18.heap.size, 0, none⟩) 7 [v3, v5, v7, v9, v10, v11, v12] w' hRow (by simp) (by simp)
  have HM := Lib.hid (hM7 w19 rfl)
  have hS19 := hRS.pure hP19
  have hT19 := hT.ext hP19 id
  have hU19 := hU.ext hP19 id
  have hX19 := hX.pure hP19
  have cw1 : w19.cell? ⟨ub, 1, none⟩ = some (.int .i64 (v2 : Nat)) := hU19.cell 1
  have HH := Lib.hid (fun so => hold_all so rr rb l a c s13 w19 hS19)
  obtain ⟨M, hM⟩ : ∃ M, M = mx [v3, v5, v7, v9, v10, v11, v12] := ⟨_, rfl⟩
  rw [← hM] at HM
  have HMx := Lib.hid hM
  have HW19 := Lib.hid hw19
  clear hw19 hM hM7 hRS hT hU hX hS19 hRow
  by_cases d1 : ((v2 : Nat) : Int) ≤ 2147483647
  · by_cases d2 : (M : Int) ≤ 32
    · --OK
      have HSo : Hid (HeadOk2 v2 v3 v5 v7 v9 v10 v11 v12 = true) := Lib.hid (headOk2_yes (by omega) (by rw [← HMx.out]; omega))
      go_wp2_with fail
      rw [← HW19.out]
      refine HM.out.mono ?_
      rintro e w19b ⟨rfl, hw19b⟩
      obtain rfl := hw19b.symm
      go_wp2_with fail
      clear HM HW19 cu0 cu1 cu2 cu3 cu4 cu5 cu6 cu7 cu8 cu9 cw1
      refine (HH.out true).mono ?_
      rintro e w20 ⟨rfl, hS20, hX20⟩
      have hT20 := hT19.ext hX20 (fun e => by have e' : tb = rr := e; omega)
      have hU20 := hU19.ext hX20 (fun e => by have e' : ub = rr := e; omega)
      have hXX := hX19.trans hX20 (fun i hi e => Or.inl e)
      have hub20 := hU20.lt
      have htb20 := hT20.lt
      clear HH
      have hAll : (#[.int .i64 (v1 : Nat), .int .i64 (v2 : Nat), .int .i64 (v3 : Nat), .int .i64 (v4 : Nat), .int .i64 (v5 : Nat), .int .i64 (v7 : Nat), .int .i64 (v9 : Nat), .int .i64 (v10 : Nat), .int .i64 (v11 : Nat), .int .i64 (v12 : Nat)] : Array Value).all (fun v => v.oneCell') = true := all_oneCell_toArray (cs := [.int .i64 (v1 : Nat), .int .i64 (v2 : Nat), .int .i64 (v3 : Nat), .int .i64 (v4 : Nat), .int .i64 (v5 : Nat), .int .i64 (v7 : Nat), .int .i64 (v9 : Nat), .int .i64 (v10 : Nat), .int .i64 (v11 : Nat), .int .i64 (v12 : Nat)]) (by intro v hv; simp only [List.mem_cons, List.not_mem_nil, or_false] at hv; rcases hv with rfl | rfl | rfl | rfl | rfl | rfl | rfl | rfl | rfl | rfl <;> rfl)
      have HAll := Lib.hid hAll
      clear hAll
      have hR0 := hU20.range
      have hT0 := hT20.there 10 rfl
      have hTS := hT20.setAll [.int .i64 (v1 : Nat), .int .i64 (v2 : Nat), .int .i64 (v3 : Nat), .int .i64 (v4 : Nat), .int .i64 (v5 : Nat), .int .i64 (v7 : Nat), .int .i64 (v9 : Nat), .int .i64 (v10 : Nat), .int .i64 (v11 : Nat), .int .i64 (v12 : Nat)] rfl
      have hXS : Ext (RdS rr rb) W (w20.setCells tb 0 [.int .i64 (v1 : Nat), .int .i64 (v2 : Nat), .int .i64 (v3 : Nat), .int .i64 (v4 : Nat), .int .i64 (v5 : Nat), .int .i64 (v7 : Nat), .int .i64 (v9 : Nat), .int .i64 (v10 : Nat), .int .i64 (v11 : Nat), .int .i64 (v12 : Nat)]) := hXX.setCells _ 0 _ (fun h => absurd h (by omega))
      have hSS := hS20.ext (Ext.setCells (S := fun i => i = tb) [.int .i64 (v1 : Nat), .int .i64 (v2 : Nat), .int .i64 (v3 : Nat), .int .i64 (v4 : Nat), .int .i64 (v5 : Nat), .int .i64 (v7 : Nat), .int .i64 (v9 : Nat), .int .i64 (v10 : Nat), .int .i64 (v11 : Nat), .int .i64 (v12 : Nat)] 0 w20 (Ext.refl _ _) (fun _ => rfl)) (fun e => by have e' : rr = tb := e; omega) (fun e => by have e' : rb = tb := e; omega) (fun g hg e => by have := halt g hg; have e' : g.block = tb := e; omega)
      obtain ⟨w21, hw21⟩ : ∃ z, z = w20.setCells tb 0 [.int .i64 (v1 : Nat), .int .i64 (v2 : Nat), .int .i64 (v3 : Nat), .int .i64 (v4 : Nat), .int .i64 (v5 : Nat), .int .i64 (v7 : Nat), .int .i64 (v9 : Nat), .int .i64 (v10 : Nat), .int .i64 (v11 : Nat), .int .i64 (v12 : Nat)] := ⟨_, rfl⟩
      rw [← hw21] at hTS hXS hSS
      have HW21 := Lib.hid hw21
      clear hw21
      go_wp2_with (first | (refine wpList_load_mid rfl 75 (.tmp 3) rfl ub 0 rfl [.int .i64 (v1 : Nat), .int .i64 (v2 : Nat), .int .i64 (v3 : Nat), .int .i64 (v4 : Nat), .int .i64 (v5 : Nat), .int .i64 (v7 : Nat), .int .i64 (v9 : Nat), .int .i64 (v10 : Nat), .int .i64 (v11 : Nat), .int .i64 (v12 : Nat)] _ hR0 Try.underlying75 rfl (by kernel_rfl) ?_) | (refine wpList_store_mid rfl 75 (.tmp 2) (.tmp 66) rfl tb 0 #[.int .i64 (v1 : Nat), .int .i64 (v2 : Nat), .int .i64 (v3 : Nat), .int .i64 (v4 : Nat), .int .i64 (v5 : Nat), .int .i64 (v7 : Nat), .int .i64 (v9 : Nat), .int .i64 (v10 : Nat), .int .i64 (v11 : Nat), .int .i64 (v12 : Nat)] rfl rfl hT0 (by kernel_rfl) HAll.out ?_; rw [show w20.setCells tb 0 (#[.int .i64 (v1 : Nat), .int .i64 (v2 : Nat), .int .i64 (v3 : Nat), .int .i64 (v4 : Nat), .int .i64 (v5 : Nat), .int .i64 (v7 : Nat), .int .i64 (v9 : Nat), .int .i64 (v10 : Nat), .int .i64 (v11 : Nat), .int .i64 (v12 : Nat)] : Array Value).toList = w21 from HW21.out.symm]))
      refine bodyPost_ret (v := .agg #[.int .i64 (v1 : Nat), .int .i64 (v2 : Nat), .int .i64 (v3 : Nat), .int .i64 (v4 : Nat), .int .i64 (v5 : Nat), .int .i64 (v7 : Nat), .int .i64 (v9 : Nat), .int .i64 (v10 : Nat), .int .i64 (v11 : Nat), .int .i64 (v12 : Nat)]) (results_cell_row Try.results39 _ _ tb _ #[.int .i64 (v1 : Nat), .int .i64 (v2 : Nat), .int .i64 (v3 : Nat), .int .i64 (v4 : Nat), .int .i64 (v5 : Nat), .int .i64 (v7 : Nat), .int .i64 (v9 : Nat), .int .i64 (v10 : Nat), .int .i64 (v11 : Nat), .int .i64 (v12 : Nat)] (0, 0) _ rfl hTS Try.underlying75 rfl (by kernel_rfl)) rfl ?_
      exact ⟨v1, v2, v3, v4, v5, v7, v9, v10, v11, v12, s13.1, _, rfl, hSS, hXS, head_end HPl.out HSo.out⟩
    · --OK
      have dM : decide ((M : Int) ≤ 32) = false := decide_eq_false d2
      have HSo : Hid (HeadOk2 v2 v3 v5 v7 v9 v10 v11 v12 = false) := Lib.hid (headOk2_no (Or.inr (by rw [← HMx.out]; omega)))
      go_wp2_with fail
      rw [← HW19.out]
      refine HM.out.mono ?_
      rintro e w19b ⟨rfl, hw19b⟩
      obtain rfl := hw19b.symm
      go_wp2_with fail
      clear HM HW19 cu0 cu1 cu2 cu3 cu4 cu5 cu6 cu7 cu8 cu9 cw1
      refine (HH.out false).mono ?_
      rintro e w20 ⟨rfl, hS20, hX20⟩
      have hT20 := hT19.ext hX20 (fun e => by have e' : tb = rr := e; omega)
      have hU20 := hU19.ext hX20 (fun e => by have e' : ub = rr := e; omega)
      have hXX := hX19.trans hX20 (fun i hi e => Or.inl e)
      have hub20 := hU20.lt
      have htb20 := hT20.lt
      clear HH
      have hAll : (#[.int .i64 (v1 : Nat), .int .i64 (v2 : Nat), .int .i64 (v3 : Nat), .int .i64 (v4 : Nat), .int .i64 (v5 : Nat), .int .i64 (v7 : Nat), .int .i64 (v9 : Nat), .int .i64 (v10 : Nat), .int .i64 (v11 : Nat), .int .i64 (v12 : Nat)] : Array Value).all (fun v => v.oneCell') = true := all_oneCell_toArray (cs := [.int .i64 (v1 : Nat), .int .i64 (v2 : Nat), .int .i64 (v3 : Nat), .int .i64 (v4 : Nat), .int .i64 (v5 : Nat), .int .i64 (v7 : Nat), .int .i64 (v9 : Nat), .int .i64 (v10 : Nat), .int .i64 (v11 : Nat), .int .i64 (v12 : Nat)]) (by intro v hv; simp only [List.mem_cons, List.not_mem_nil, or_false] at hv; rcases hv with rfl | rfl | rfl | rfl | rfl | rfl | rfl | rfl | rfl | rfl <;> rfl)
      have HAll := Lib.hid hAll
      clear hAll
      have hR0 := hU20.range
      have hT0 := hT20.there 10 rfl
      have hTS := hT20.setAll [.int .i64 (v1 : Nat), .int .i64 (v2 : Nat), .int .i64 (v3 : Nat), .int .i64 (v4 : Nat), .int .i64 (v5 : Nat), .int .i64 (v7 : Nat), .int .i64 (v9 : Nat), .int .i64 (v10 : Nat), .int .i64 (v11 : Nat), .int .i64 (v12 : Nat)] rfl
      have hXS : Ext (RdS rr rb) W (w20.setCells tb 0 [.int .i64 (v1 : Nat), .int .i64 (v2 : Nat), .int .i64 (v3 : Nat), .int .i64 (v4 : Nat), .int .i64 (v5 : Nat), .int .i64 (v7 : Nat), .int .i64 (v9 : Nat), .int .i64 (v10 : Nat), .int .i64 (v11 : Nat), .int .i64 (v12 : Nat)]) := hXX.setCells _ 0 _ (fun h => absurd h (by omega))
      have hSS := hS20.ext (Ext.setCells (S := fun i => i = tb) [.int .i64 (v1 : Nat), .int .i64 (v2 : Nat), .int .i64 (v3 : Nat), .int .i64 (v4 : Nat), .int .i64 (v5 : Nat), .int .i64 (v7 : Nat), .int .i64 (v9 : Nat), .int .i64 (v10 : Nat), .int .i64 (v11 : Nat), .int .i64 (v12 : Nat)] 0 w20 (Ext.refl _ _) (fun _ => rfl)) (fun e => by have e' : rr = tb := e; omega) (fun e => by have e' : rb = tb := e; omega) (fun g hg e => by have := halt g hg; have e' : g.block = tb := e; omega)
      obtain ⟨w21, hw21⟩ : ∃ z, z = w20.setCells tb 0 [.int .i64 (v1 : Nat), .int .i64 (v2 : Nat), .int .i64 (v3 : Nat), .int .i64 (v4 : Nat), .int .i64 (v5 : Nat), .int .i64 (v7 : Nat), .int .i64 (v9 : Nat), .int .i64 (v10 : Nat), .int .i64 (v11 : Nat), .int .i64 (v12 : Nat)] := ⟨_, rfl⟩
      rw [← hw21] at hTS hXS hSS
      have HW21 := Lib.hid hw21
      clear hw21
      go_wp2_with (first | (refine wpList_load_mid rfl 75 (.tmp 3) rfl ub 0 rfl [.int .i64 (v1 : Nat), .int .i64 (v2 : Nat), .int .i64 (v3 : Nat), .int .i64 (v4 : Nat), .int .i64 (v5 : Nat), .int .i64 (v7 : Nat), .int .i64 (v9 : Nat), .int .i64 (v10 : Nat), .int .i64 (v11 : Nat), .int .i64 (v12 : Nat)] _ hR0 Try.underlying75 rfl (by kernel_rfl) ?_) | (refine wpList_store_mid rfl 75 (.tmp 2) (.tmp 66) rfl tb 0 #[.int .i64 (v1 : Nat), .int .i64 (v2 : Nat), .int .i64 (v3 : Nat), .int .i64 (v4 : Nat), .int .i64 (v5 : Nat), .int .i64 (v7 : Nat), .int .i64 (v9 : Nat), .int .i64 (v10 : Nat), .int .i64 (v11 : Nat), .int .i64 (v12 : Nat)] rfl rfl hT0 (by kernel_rfl) HAll.out ?_; rw [show w20.setCells tb 0 (#[.int .i64 (v1 : Nat), .int .i64 (v2 : Nat), .int .i64 (v3 : Nat), .int .i64 (v4 : Nat), .int .i64 (v5 : Nat), .int .i64 (v7 : Nat), .int .i64 (v9 : Nat), .int .i64 (v10 : Nat), .int .i64 (v11 : Nat), .int .i64 (v12 : Nat)] : Array Value).toList = w21 from HW21.out.symm]))
      refine bodyPost_ret (v := .agg #[.int .i64 (v1 : Nat), .int .i64 (v2 : Nat), .int .i64 (v3 : Nat), .int .i64 (v4 : Nat), .int .i64 (v5 : Nat), .int .i64 (v7 : Nat), .int .i64 (v9 : Nat), .int .i64 (v10 : Nat), .int .i64 (v11 : Nat), .int .i64 (v12 : Nat)]) (results_cell_row Try.results39 _ _ tb _ #[.int .i64 (v1 : Nat), .int .i64 (v2 : Nat), .int .i64 (v3 : Nat), .int .i64 (v4 : Nat), .int .i64 (v5 : Nat), .int .i64 (v7 : Nat), .int .i64 (v9 : Nat), .int .i64 (v10 : Nat), .int .i64 (v11 : Nat), .int .i64 (v12 : Nat)] (0, 0) _ rfl hTS Try.underlying75 rfl (by kernel_rfl)) rfl ?_
      exact ⟨v1, v2, v3, v4, v5, v7, v9, v10, v11, v12, s13.1, _, rfl, hSS, hXS, head_end HPl.out HSo.out⟩
  ·
    have HSo : Hid (HeadOk2 v2 v3 v5 v7 v9 v10 v11 v12 = false) := Lib.hid (headOk2_no (Or.inl (by omega)))
    go_wp2_with fail
    rw [← HW19.out]
    clear HM HW19 cu0 cu1 cu2 cu3 cu4 cu5 cu6 cu7 cu8 cu9 cw1
    refine (HH.out false).mono ?_
    rintro e w20 ⟨rfl, hS20, hX20⟩
    have hT20 := hT19.ext hX20 (fun e => by have e' : tb = rr := e; omega)
    have hU20 := hU19.ext hX20 (fun e => by have e' : ub = rr := e; omega)
    have hXX := hX19.trans hX20 (fun i hi e => Or.inl e)
    have hub20 := hU20.lt
    have htb20 := hT20.lt
    clear HH
    have hAll : (#[.int .i64 (v1 : Nat), .int .i64 (v2 : Nat), .int .i64 (v3 : Nat), .int .i64 (v4 : Nat), .int .i64 (v5 : Nat), .int .i64 (v7 : Nat), .int .i64 (v9 : Nat), .int .i64 (v10 : Nat), .int .i64 (v11 : Nat), .int .i64 (v12 : Nat)] : Array Value).all (fun v => v.oneCell') = true := all_oneCell_toArray (cs := [.int .i64 (v1 : Nat), .int .i64 (v2 : Nat), .int .i64 (v3 : Nat), .int .i64 (v4 : Nat), .int .i64 (v5 : Nat), .int .i64 (v7 : Nat), .int .i64 (v9 : Nat), .int .i64 (v10 : Nat), .int .i64 (v11 : Nat), .int .i64 (v12 : Nat)]) (by intro v hv; simp only [List.mem_cons, List.not_mem_nil, or_false] at hv; rcases hv with rfl | rfl | rfl | rfl | rfl | rfl | rfl | rfl | rfl | rfl <;> rfl)
    have HAll := Lib.hid hAll
    clear hAll
    have hR0 := hU20.range
    have hT0 := hT20.there 10 rfl
    have hTS := hT20.setAll [.int .i64 (v1 : Nat), .int .i64 (v2 : Nat), .int .i64 (v3 : Nat), .int .i64 (v4 : Nat), .int .i64 (v5 : Nat), .int .i64 (v7 : Nat), .int .i64 (v9 : Nat), .int .i64 (v10 : Nat), .int .i64 (v11 : Nat), .int .i64 (v12 : Nat)] rfl
    have hXS : Ext (RdS rr rb) W (w20.setCells tb 0 [.int .i64 (v1 : Nat), .int .i64 (v2 : Nat), .int .i64 (v3 : Nat), .int .i64 (v4 : Nat), .int .i64 (v5 : Nat), .int .i64 (v7 : Nat), .int .i64 (v9 : Nat), .int .i64 (v10 : Nat), .int .i64 (v11 : Nat), .int .i64 (v12 : Nat)]) := hXX.setCells _ 0 _ (fun h => absurd h (by omega))
    have hSS := hS20.ext (Ext.setCells (S := fun i => i = tb) [.int .i64 (v1 : Nat), .int .i64 (v2 : Nat), .int .i64 (v3 : Nat), .int .i64 (v4 : Nat), .int .i64 (v5 : Nat), .int .i64 (v7 : Nat), .int .i64 (v9 : Nat), .int .i64 (v10 : Nat), .int .i64 (v11 : Nat), .int .i64 (v12 : Nat)] 0 w20 (Ext.refl _ _) (fun _ => rfl)) (fun e => by have e' : rr = tb := e; omega) (fun e => by have e' : rb = tb := e; omega) (fun g hg e => by have := halt g hg; have e' : g.block = tb := e; omega)
    obtain ⟨w21, hw21⟩ : ∃ z, z = w20.setCells tb 0 [.int .i64 (v1 : Nat), .int .i64 (v2 : Nat), .int .i64 (v3 : Nat), .int .i64 (v4 : Nat), .int .i64 (v5 : Nat), .int .i64 (v7 : Nat), .int .i64 (v9 : Nat), .int .i64 (v10 : Nat), .int .i64 (v11 : Nat), .int .i64 (v12 : Nat)] := ⟨_, rfl⟩
    rw [← hw21] at hTS hXS hSS
    have HW21 := Lib.hid hw21
    clear hw21
    go_wp2_with (first | (refine wpList_load_mid rfl 75 (.tmp 3) rfl ub 0 rfl [.int .i64 (v1 : Nat), .int .i64 (v2 : Nat), .int .i64 (v3 : Nat), .int .i64 (v4 : Nat), .int .i64 (v5 : Nat), .int .i64 (v7 : Nat), .int .i64 (v9 : Nat), .int .i64 (v10 : Nat), .int .i64 (v11 : Nat), .int .i64 (v12 : Nat)] _ hR0 Try.underlying75 rfl (by kernel_rfl) ?_) | (refine wpList_store_mid rfl 75 (.tmp 2) (.tmp 66) rfl tb 0 #[.int .i64 (v1 : Nat), .int .i64 (v2 : Nat), .int .i64 (v3 : Nat), .int .i64 (v4 : Nat), .int .i64 (v5 : Nat), .int .i64 (v7 : Nat), .int .i64 (v9 : Nat), .int .i64 (v10 : Nat), .int .i64 (v11 : Nat), .int .i64 (v12 : Nat)] rfl rfl hT0 (by kernel_rfl) HAll.out ?_; rw [show w20.setCells tb 0 (#[.int .i64 (v1 : Nat), .int .i64 (v2 : Nat), .int .i64 (v3 : Nat), .int .i64 (v4 : Nat), .int .i64 (v5 : Nat), .int .i64 (v7 : Nat), .int .i64 (v9 : Nat), .int .i64 (v10 : Nat), .int .i64 (v11 : Nat), .int .i64 (v12 : Nat)] : Array Value).toList = w21 from HW21.out.symm]))
    refine bodyPost_ret (v := .agg #[.int .i64 (v1 : Nat), .int .i64 (v2 : Nat), .int .i64 (v3 : Nat), .int .i64 (v4 : Nat), .int .i64 (v5 : Nat), .int .i64 (v7 : Nat), .int .i64 (v9 : Nat), .int .i64 (v10 : Nat), .int .i64 (v11 : Nat), .int .i64 (v12 : Nat)]) (results_cell_row Try.results39 _ _ tb _ #[.int .i64 (v1 : Nat), .int .i64 (v2 : Nat), .int .i64 (v3 : Nat), .int .i64 (v4 : Nat), .int .i64 (v5 : Nat), .int .i64 (v7 : Nat), .int .i64 (v9 : Nat), .int .i64 (v10 : Nat), .int .i64 (v11 : Nat), .int .i64 (v12 : Nat)] (0, 0) _ rfl hTS Try.underlying75 rfl (by kernel_rfl)) rfl ?_
    exact ⟨v1, v2, v3, v4, v5, v7, v9, v10, v11, v12, s13.1, _, rfl, hSS, hXS, head_end HPl.out HSo.out⟩
end Go.Proofs.Ytdhejhgpjeenaaa
