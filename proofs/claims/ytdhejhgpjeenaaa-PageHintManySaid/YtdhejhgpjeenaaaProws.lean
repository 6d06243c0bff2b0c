/-
  Walked: the program's reader: a row of numbers, each handed to a closure.
  Walked: what the program's reader does with the numbers of its rows (closures).
  Walked: the program's rows, each with what it does with its numbers.
-/
import Derived.Test.YtdhejhgpjeenaaaNum26
import Derived.Test.YtdhejhgpjeenaaaCutIs
import Derived.Test.YtdhejhgpjeenaaaWithin
namespace Go.Proofs.Ytdhejhgpjeenaaa
open Go.RowKit C26
set_option linter.unusedVariables false

theorem _root_.Go.Proofs.Ytdhejhgpjeenaaa.C26.RS.align {W W' : World} {rr rb : Nat} {l : List UInt8} {p : Nat} {er : Int} {a : Option Addr} {c : Nat} (h : RS W rr rb l (p, er) a c) (hR : RdIs W' rb true l (8 * ((p + 7) / 8)) a c) (hE : Ext (fun i => i = rb) W W') : RS W' rr rb l (8 * ((p + 7) / 8), er) a c :=
  ⟨h.blk.ext hE h.ne, hR, by have := h.le; simp only at this ⊢; omega, h.ne, h.ap⟩
/-- what a row of numbers comes to: all are handed on; one that may not be; bits end -/
def ProwTo (rr rb : Nat) (l : List UInt8) (a : Option Addr) (c p n wd : Nat) (I : Nat → World → Prop) (B : Nat → World → Prop) (e : Ending) (W' : World) : Prop :=
  e = .returned (.tuple #[]) ∧ ∃ (q : Nat) (er : Int), RS W' rr rb l (q, er) a c ∧
    ((er = 0 ∧ q = al8 (p + n * wd) ∧ p + n * wd ≤ (bitsOf true l).length ∧ I n W') ∨ (er = 27 ∧ ∃ k, k < n ∧ p + (k + 1) * wd ≤ (bitsOf true l).length ∧ B k W') ∨ (er = 10 ∧ ∃ k, k < n ∧ Fit (bitsOf true l).length p wd n k ∧ I k W'))
/-- what a closure does with a number -/
def TakeTo (rr rb : Nat) (l : List UInt8) (a : Option Addr) (c p k : Nat) (I : Nat → World → Prop) (B : Nat → World → Prop) (e : Ending) (W' : World) : Prop :=
  e = .returned (.tuple #[]) ∧ ((RS W' rr rb l (p, 0) a c ∧ I (k + 1) W') ∨ (RS W' rr rb l (p, 27) a c ∧ B k W'))
set_option maxHeartbeats 2000000 in
set_option maxRecDepth 100000 in
theorem prow_any (g : Nat) (caps : Array Value) (rr rb : Nat) (l : List UInt8) (a : Option Addr) (c p n wd : Nat) (I : Nat → World → Prop) (B : Nat → World → Prop) (W : World)
    (hTake : Hid (∀ (k x : Nat) (W : World), k < n → x = numAt (bitsOf true l) (p + k * wd) wd → p + (k + 1) * wd ≤ (bitsOf true l).length → RS W rr rb l (p + (k + 1) * wd, 0) a c → I k W → Calls Try.prog g (#[.int .i64 k, .int .i64 x] ++ caps) W (TakeTo rr rb l a c (p + (k + 1) * wd) k I B)))
    (hI : ∀ k W W', I k W → Ext (RdS rr rb) W W' → I k W') (hB : ∀ k W W', B k W → Ext (RdS rr rb) W W' → B k W')
    (hS : RS W rr rb l (p, 0) a c) (hI0 : I 0 W) (hw : wd ≤ 32) (hn : n ≤ 100000) (hl : l.length ≤ 10000000) (hg : ∀ args w, (callFunc g args).run Try.prog w = .ok (.enter g args) w) :
    Calls Try.prog 60 #[.pointer (some ⟨rr, 0, none⟩), .int .i64 n, .int .i64 wd, .func (.func g) #[] caps] W (ProwTo rr rb l a c p n wd I B) := by
  have HI := Lib.hid hI
  have HB := Lib.hid hB
  clear hI hB
  go_enter Try.func60, Try.ntmps60
  go_wp2_with fail
  go_loopw [8, 9] (fun i _ W => ∃ k : Nat, k ≤ n ∧ i = .int .i64 k ∧ ((RS W rr rb l (p + k * wd, 0) a c ∧ p + k * wd ≤ (bitsOf true l).length ∧ I k W) ∨ (∃ j q, k = j + 1 ∧ RS W rr rb l (q, 27) a c ∧ p + k * wd ≤ (bitsOf true l).length ∧ B j W) ∨ (∃ j q, k = j + 1 ∧ RS W rr rb l (q, 10) a c ∧ Fit (bitsOf true l).length p wd n j ∧ I j W))) (fun i _ _ => n - (intOf i).toNat)
  case atStart => exact ⟨0, Nat.zero_le _, rfl, Or.inl ⟨by simpa using hS, by have := hS.le; rw [bitsOf_length]; simpa using this, hI0⟩⟩
  case round =>
    obtain ⟨k, hk, rfl, h⟩ := hrel
    clear hS hI0
    rcases h with ⟨hS, hle, hIk⟩ | ⟨j, q, rfl, hS, hle, hBj⟩ | ⟨j, q, rfl, hS, hF, hIj⟩
    · obtain ⟨q, hq⟩ : ∃ q, q = p + k * wd := ⟨_, rfl⟩
      have hq1 : p + (k + 1) * wd = q + wd := by rw [hq, Nat.add_mul]; omega
      rw [← hq] at hS hle
      have HQ := Lib.hid hq
      have HQ1 := Lib.hid hq1
      clear hq hq1
      have hql := hS.le
      by_cases hlt : k < n
      · have hki : (k : Int) < (n : Int) := by omega
        have g1 : wr.cell? ⟨rr, 0 + 1, none⟩ = some (.int .i64 0) := hS.blk.cell 1
        by_cases hcut : 8 * l.length < q + wd
        · have HN := Lib.hid (num_cut rr rb l q a c wd wr hS hw hl hcut)
          have HF : Hid (Fit (bitsOf true l).length p wd n k) := Lib.hid ⟨hk, by rw [← HQ.out]; exact hle, fun _ => by rw [HQ1.out, bitsOf_length]; exact hcut⟩
          have HV := Lib.hid (num1_cut (bs := bitsOf true l) (p := q) (w := wd) (by rw [bitsOf_length]; exact hcut))
          clear hS hcut
          go_wp2_with fail
          refine HN.out.mono ?_
          intro e w2 hnr
          unfold NumRes at hnr
          rw [HV.out] at hnr
          obtain ⟨rfl, hS2, hE2⟩ := hnr
          have hI2 := HI.out _ _ _ hIk hE2
          have g2 : w2.cell? ⟨rr, 0 + 1, none⟩ = some (.int .i64 10) := hS2.blk.cell 1
          clear HN g1 hIk hE2
          go_wp2_with fail
          go_roundw
          case rel => exact ⟨k + 1, by omega, by go_num, Or.inr (Or.inr ⟨k, q, rfl, hS2, HF.out, hI2⟩)⟩
          case measure => simp [intOf]; omega
        · have hfit : q + wd ≤ 8 * l.length := by omega
          have HN := Lib.hid (num_yes rr rb l q a c wd wr hS hw hl hfit)
          have HV := Lib.hid (num1_yes (bs := bitsOf true l) (p := q) (w := wd) (by rw [bitsOf_length]; exact hfit))
          obtain ⟨x, hx⟩ : ∃ x, x = numAt (bitsOf true l) q wd := ⟨_, rfl⟩
          rw [← hx] at HV
          have hfit2 : q + wd ≤ (bitsOf true l).length := by rw [bitsOf_length]; exact hfit
          have HX := Lib.hid hx
          clear hS hcut hx
          go_wp2_with fail
          refine HN.out.mono ?_
          intro e w2 hnr
          unfold NumRes at hnr
          rw [HV.out] at hnr
          obtain ⟨rfl, hS2, hE2⟩ := hnr
          have hI2 := HI.out _ _ _ hIk hE2
          have g2 : w2.cell? ⟨rr, 0 + 1, none⟩ = some (.int .i64 0) := hS2.blk.cell 1
          have HT := Lib.hid (hTake.out k x w2 hlt (by rw [← HQ.out]; exact HX.out) (by rw [HQ1.out]; exact hfit2) (by rw [HQ1.out]; exact hS2) hI2)
          rw [HQ1.out] at HT
          clear HN g1 hIk hE2 hI2 hS2 hTake
          go_wp2_with fail
          refine HT.out.mono ?_
          rintro e w3 ⟨rfl, h3⟩
          clear HT
          go_wp2_with fail
          go_roundw
          case rel =>
            refine ⟨k + 1, by omega, by go_num, ?_⟩
            rw [HQ1.out]
            rcases h3 with ⟨hS3, hI3⟩ | ⟨hS3, hB3⟩
            · exact Or.inl ⟨hS3, hfit2, hI3⟩
            · exact Or.inr (Or.inl ⟨k, _, rfl, hS3, hfit2, hB3⟩)
          case measure => simp [intOf]; omega
      · have hki : ¬ (k : Int) < (n : Int) := by omega
        obtain rfl : n = k := by omega
        have HA := Lib.hid (ralign_any rb true l q a c wr hS.rd (by omega))
        have g0 : wr.cell? ⟨rr, 0, none⟩ = some (.pointer (some ⟨rb, 0, none⟩)) := hS.blk.cell 0
        have HS := Lib.hid hS
        clear hS
        go_wp2_with fail
        refine HA.out.mono ?_
        rintro e w2 ⟨rfl, hR, hE⟩
        go_wp2_with fail
        go_end0
        refine ⟨rfl, 8 * ((q + 7) / 8), 0, HS.out.align hR hE, Or.inl ⟨rfl, ?_, by rw [← HQ.out]; exact hle, HI.out _ _ _ hIk (hE.mono (fun i _ e => Or.inr e))⟩⟩
        rw [← HQ.out]; rfl
    · have g1 : wr.cell? ⟨rr, 0 + 1, none⟩ = some (.int .i64 27) := hS.blk.cell 1
      have HA := Lib.hid (ralign_any rb true l q a c wr hS.rd (by have := hS.le; omega))
      have g0 : wr.cell? ⟨rr, 0, none⟩ = some (.pointer (some ⟨rb, 0, none⟩)) := hS.blk.cell 0
      have HS := Lib.hid hS
      clear hS
      go_wp2_with fail
      all_goals
        refine HA.out.mono ?_
        rintro e w2 ⟨rfl, hR, hE⟩
        go_wp2_with fail
        go_end0
        exact ⟨rfl, 8 * ((q + 7) / 8), 27, HS.out.align hR hE, Or.inr (Or.inl ⟨rfl, j, by omega, hle, HB.out _ _ _ hBj (hE.mono (fun i _ e => Or.inr e))⟩)⟩
    · have g1 : wr.cell? ⟨rr, 0 + 1, none⟩ = some (.int .i64 10) := hS.blk.cell 1
      have HA := Lib.hid (ralign_any rb true l q a c wr hS.rd (by have := hS.le; omega))
      have g0 : wr.cell? ⟨rr, 0, none⟩ = some (.pointer (some ⟨rb, 0, none⟩)) := hS.blk.cell 0
      have HS := Lib.hid hS
      clear hS
      go_wp2_with fail
      all_goals
        refine HA.out.mono ?_
        rintro e w2 ⟨rfl, hR, hE⟩
        go_wp2_with fail
        go_end0
        exact ⟨rfl, 8 * ((q + 7) / 8), 10, HS.out.align hR hE, Or.inr (Or.inr ⟨rfl, j, by omega, hF, HI.out _ _ _ hIj (hE.mono (fun i _ e => Or.inr e))⟩)⟩
/-- a reader that has an error: nothing is read -/
def PskipTo (rr rb : Nat) (l : List UInt8) (a : Option Addr) (c : Nat) (er : Int) (W : World) (e : Ending) (W' : World) : Prop :=
  e = .returned (.tuple #[]) ∧ ∃ q : Nat, RS W' rr rb l (q, er) a c ∧ Ext (RdS rr rb) W W'
set_option maxHeartbeats 1000000 in
set_option maxRecDepth 100000 in
theorem prow_err (f : Value) (rr rb : Nat) (l : List UInt8) (a : Option Addr) (c p n wd : Nat) (er : Int) (W : World) (hS : RS W rr rb l (p, er) a c) (he : er ≠ 0) (hl : l.length ≤ 10000000) (hn : n ≤ 100000) :
    Calls Try.prog 60 #[.pointer (some ⟨rr, 0, none⟩), .int .i64 n, .int .i64 wd, f] W (PskipTo rr rb l a c er W) := by
  have g1 : W.cell? ⟨rr, 0 + 1, none⟩ = some (.int .i64 er) := hS.blk.cell 1
  have HA := Lib.hid (ralign_any rb true l p a c W hS.rd (by have := hS.le; omega))
  have g0 : W.cell? ⟨rr, 0, none⟩ = some (.pointer (some ⟨rb, 0, none⟩)) := hS.blk.cell 0
  have HS := Lib.hid hS
  have he1 : (er == 0) = false := by simpa using he
  clear hS
  by_cases h0 : (0 : Int) < (n : Int)
  all_goals
    go_enter Try.func60, Try.ntmps60
    go_wp2_with fail
    go_loopw [8] (fun i W' => i = .int .i64 0 ∧ W' = W) (fun _ _ => 0)
    case atStart => exact ⟨rfl, rfl⟩
    case round =>
      obtain ⟨rfl, rfl⟩ := hrel
      go_wp2_with fail
      refine HA.out.mono ?_
      rintro e w2 ⟨rfl, hR, hE⟩
      go_wp2_with fail
      go_end0
      exact ⟨rfl, 8 * ((p + 7) / 8), HS.out.align hR hE, hE.mono (fun i _ e => Or.inr e)⟩
end Go.Proofs.Ytdhejhgpjeenaaa
namespace Go.Proofs.Ytdhejhgpjeenaaa
open Go.RowKit C26
set_option linter.unusedVariables false

def HoldTo (rr rb : Nat) (l : List UInt8) (p : Nat) (er : Int) (a : Option Addr) (c : Nat) (W : World) (e : Ending) (W' : World) : Prop := e = .returned (.tuple #[]) ∧ RS W' rr rb l (p, er) a c ∧ Ext (fun i => i = rr) W W'
set_option maxRecDepth 100000 in
theorem hold_any (so : Bool) (rr rb : Nat) (l : List UInt8) (a : Option Addr) (c p : Nat) (W : World) (hS : RS W rr rb l (p, 0) a c) :
    Calls Try.prog 59 #[.pointer (some ⟨rr, 0, none⟩), .bool so] W (HoldTo rr rb l p (if so = true then 0 else 27) a c W) := by
  have g1 : W.cell? ⟨rr, 0 + 1, none⟩ = some (.int .i64 0) := hS.blk.cell 1
  have f1 : W.frozen? ⟨rr, 0 + 1, none⟩ = false := hS.blk.free 1
  have HS := Lib.hid hS
  clear hS
  cases so with
  | true =>
    go_enter Try.func59, Try.ntmps59
    go_wp2_with fail
    go_end0
    exact ⟨rfl, HS.out, Ext.refl _ _⟩
  | false =>
    go_enter Try.func59, Try.ntmps59
    go_wp2_with fail
    go_end0
    exact ⟨rfl, HS.out.setErr 27, (Ext.refl (fun i => i = rr) W).setCell (p := ⟨rr, 1, none⟩) (fun _ => rfl) _⟩
/-- the boxes of a call of pages: the head, the row of pages, the reader -/
structure PBox (W : World) (rr hb ub pb ob N : Nat) (hv : List Value) : Prop where
  h : BlockIs W hb hv 75
  u : BlockIs W ub [.slice (some ⟨ob, 0, none⟩) N N] 22
  p : BlockIs W pb [.pointer (some ⟨rr, 0, none⟩)] 69
theorem PBox.ext {S : Nat → Prop} {W W' : World} {rr hb ub pb ob N : Nat} {hv : List Value} (h : PBox W rr hb ub pb ob N hv) (e : Ext S W W') (h1 : ¬ S hb) (h2 : ¬ S ub) (h3 : ¬ S pb) : PBox W' rr hb ub pb ob N hv := ⟨h.h.ext e h1, h.u.ext e h2, h.p.ext e h3⟩
def Take1To (rr rb : Nat) (l : List UInt8) (a : Option Addr) (c p : Nat) (ob N k : Nat) (z : Int) (ps : List PH) (W : World) (e : Ending) (W' : World) : Prop :=
  e = .returned (.tuple #[]) ∧ RS W' rr rb l (p, if inB z 1 4096 = true then 0 else 27) a c ∧ (∃ ps', OutIs W' ob N ps' ∧ (ps'.take (k + 1)).map (fun p => p.o) = (ps.take k).map (fun p => p.o) ++ [z] ∧ ps'.map (fun p => p.l) = ps.map (fun p => p.l)) ∧ Ext (fun i => i = rr ∨ i = ob) W W'
set_option maxHeartbeats 2000000 in
set_option maxRecDepth 100000 in
theorem take1_any (rr rb : Nat) (l : List UInt8) (a : Option Addr) (c p : Nat) (hb ub pb ob N k x v0 : Nat) (hv : List Value) (ps : List PH) (W : World) (hB : PBox W rr hb ub pb ob N hv) (h0 : hv[0]? = some (.int .i64 v0)) (hO : OutIs W ob N ps) (hk : k < N) (hN : N ≤ 2048) (hx : x < 4294967296) (hv0 : v0 < 4294967296) (hS : RS W rr rb l (p, 0) a c) (hne : ob ≠ rr ∧ ob ≠ rb ∧ (∀ g, a = some g → g.block ≠ ob) ∧ hb ≠ ob ∧ ub ≠ ob ∧ pb ≠ ob ∧ ub ≠ rr ∧ pb ≠ rr) :
    Calls Try.prog 61 #[.int .i64 k, .int .i64 x, .pointer (some ⟨hb, 0, none⟩), .pointer (some ⟨ub, 0, none⟩), .pointer (some ⟨pb, 0, none⟩)] W (Take1To rr rb l a c p ob N k ((v0 : Int) + (x : Int)) ps W) := by
  obtain ⟨n1, n2, n3, n4, n5, n6, n7, n8⟩ := hne
  have c0 : W.cell? ⟨hb, 0, none⟩ = some (.int .i64 v0) := by rw [← h0]; exact hB.h.cell 0
  have c1 : W.cell? ⟨ub, 0, none⟩ = some (.slice (some ⟨ob, 0, none⟩) N N) := hB.u.cell 0
  have hkp : k < ps.length := by have := hO.len; omega
  have hki : (k : Int) < (N : Int) := by omega
  obtain ⟨z, hz⟩ : ∃ z : Int, z = (v0 : Int) + (x : Int) := ⟨_, rfl⟩
  obtain ⟨pp, hpp⟩ : ∃ pp : PH, pp = { ps[k] with o := z } := ⟨_, rfl⟩
  obtain ⟨⟨y, hy⟩, hf, hO1⟩ := hO.set k 0 hkp (by omega) (.int .i64 z) pp (by rw [hpp]; rfl)
  have hM1 : ((ps.set k pp).take (k + 1)).map (fun p => p.o) = (ps.take k).map (fun p => p.o) ++ [z] := by rw [take_map_set (fun p : PH => p.o) ps k pp hkp, hpp]
  have hM2 : (ps.set k pp).map (fun p => p.l) = ps.map (fun p => p.l) := map_set_same (fun p : PH => p.l) ps k pp hkp (by rw [hpp])
  have hX1 : Ext (fun i => i = ob) W (W.setCell ⟨ob, k * 3, none⟩ (.int .i64 z)) := (Ext.refl (fun i => i = ob) W).setCell (p := ⟨ob, k * 3, none⟩) (fun _ => rfl) _
  have hcell : (cellsP ((ps.set k pp)[k]'(by simpa using hkp)))[0]? = some (.int .i64 z) := by rw [List.getElem_set_self, hpp]; rfl
  have HM := Lib.hid (And.intro hM1 hM2)
  obtain ⟨W1, hW1⟩ : ∃ z', z' = W.setCell ⟨ob, k * 3, none⟩ (.int .i64 z) := ⟨_, rfl⟩
  try simp only [Nat.add_zero] at hy hf hO1
  rw [← hW1] at hO1 hX1
  have hB1 := hB.ext hX1 n4 n5 n6
  have hS1 := hS.ext hX1 (fun e => n1 e.symm) (fun e => n2 e.symm) (fun g hg e => n3 g hg e)
  have HH := Lib.hid (fun (so : Bool) (W2 : World) (hP : Pure W1 W2) => hold_any so rr rb l a c p W2 (hS1.pure hP))
  have HW1 := Lib.hid hW1
  have HZ := Lib.hid hz
  have hz1 : 0 ≤ z := by omega
  have hz2 : z < 8589934592 := by omega
  have d0 : W1.drew.cell? ⟨pb, 0, none⟩ = some (.pointer (some ⟨rr, 0, none⟩)) := hB1.p.cell 0
  have d1 : W1.drew.cell? ⟨ub, 0, none⟩ = some (.slice (some ⟨ob, 0, none⟩) N N) := hB1.u.cell 0
  have d2 : W1.drew.cell? ⟨ob, k * 3, none⟩ = some (.int .i64 z) := hO1.cell k 0 (by simpa using hkp) (by omega) hcell
  have k0 := fun w' (hS : Ext (fun i => i = rr) W1.drew w') => hS.cell_some d0 (fun e => n8 e)
  have k1 := fun w' (hS : Ext (fun i => i = rr) W1.drew w') => hS.cell_some d1 (fun e => n7 e)
  have k2 := fun w' (hS : Ext (fun i => i = rr) W1.drew w') => hS.cell_some d2 (fun e => n1 e)
  have hyd : W.cell? ⟨ob, k * 3, none⟩ = some y := hy
  have hfd : W.frozen? ⟨ob, k * 3, none⟩ = false := hf
  have hzw : (v0 : Int) + (x : Int) = z := hz.symm
  clear hB hO h0 hpp hW1 hz hM1 hM2 hcell hy hf
  go_enter Try.func61, Try.ntmps61
  go_wp2_with fail
  rw [← HW1.out]
  refine region_start (fun i => i = rr) (by kernel_rfl) ?_
  try simp only [Act.put, List.setIfInBounds_toArray, List.set_cons_zero, List.set_cons_succ]
  refine region_take 0 15 (v := ?vtk10) rfl rfl (by kernel_rfl) (by kernel_rfl) (by kernel_rfl) (fun _ _ _ h => h) (by rfl) (fun w' hS => ?htk10) ?rtk10
  case htk10 => go_simp; with_reducible rfl
  try simp only [Act.put, List.setIfInBounds_toArray, List.set_cons_zero, List.set_cons_succ]
  refine region_take 1 16 (v := ?vtk11) rfl rfl (by kernel_rfl) (by kernel_rfl) (by kernel_rfl) (fun _ _ _ h => h) (by rfl) (fun w' hS => ?htk11) ?rtk11
  case htk11 => go_simp; with_reducible rfl
  try simp only [Act.put, List.setIfInBounds_toArray, List.set_cons_zero, List.set_cons_succ]
  refine region_take 2 17 (v := ?vtk12) rfl rfl (by kernel_rfl) (by kernel_rfl) (by kernel_rfl) (fun _ _ _ h => h) (by rfl) (fun w' hS => ?htk12) ?rtk12
  case htk12 => go_simp; with_reducible rfl
  try simp only [Act.put, List.setIfInBounds_toArray, List.set_cons_zero, List.set_cons_succ]
  refine region_take 3 18 (v := ?vtk13) rfl rfl (by kernel_rfl) (by kernel_rfl) (by kernel_rfl) (fun _ _ _ h => h) (by rfl) (fun w' hS => ?htk13) ?rtk13
  case htk13 => go_simp; with_reducible rfl
  try simp only [Act.put, List.setIfInBounds_toArray, List.set_cons_zero, List.set_cons_succ]
  refine region_take 4 19 (v := ?vtk14) rfl rfl (by kernel_rfl) (by kernel_rfl) (by kernel_rfl) (fun _ _ _ h => h) (by rfl) (fun w' hS => ?htk14) ?rtk14
  case htk14 => go_simp; with_reducible rfl
  try simp only [Act.put, List.setIfInBounds_toArray, List.set_cons_zero, List.set_cons_succ]
  refine region_take 5 20 (v := ?vtk15) rfl rfl (by kernel_rfl) (by kernel_rfl) (by kernel_rfl) (fun _ _ _ h => h) (by rfl) (fun w' hS => ?htk15) ?rtk15
  case htk15 => go_simp; with_reducible rfl
  try simp only [Act.put, List.setIfInBounds_toArray, List.set_cons_zero, List.set_cons_succ]
  refine wpAnyH_ready (rs := [6]) (by kernel_rfl) (by simp) (AllReadyH.cons rfl (fun K hK => ?_) AllReadyH.nil)
  go_simp
  refine (within_any z 1 4096 _).mono ?_
  rintro e w3 ⟨rfl, hw3⟩
  obtain rfl := hw3.symm
  refine hK.out _ _ (Ext.refl _ _) (fun hHeld => ?_)
  clear hK K hHeld
  refine region_now (Ext.refl _ _) ?_
  try simp only [Act.put, List.setIfInBounds_toArray, List.set_cons_zero, List.set_cons_succ]
  refine wpAnyH_ready (rs := [7]) (by kernel_rfl) (by simp) (AllReadyH.cons rfl (fun K hK => ?_) AllReadyH.nil)
  go_simp
  refine (HH.out (inB z 1 4096) _ ((Ext.refl _ W1).drew)).mono ?_
  rintro e w4 ⟨rfl, hS4, hX4⟩
  refine hK.out _ _ (hX4) (fun hHeld => ?_)
  clear hK K hHeld
  refine region_now (hX4) ?_
  try simp only [Act.put, List.setIfInBounds_toArray, List.set_cons_zero, List.set_cons_succ]
  refine wpAnyH_done (by kernel_rfl) ?_ _
  clear k0 k1 k2 d0 d1 d2 hyd hfd c0 c1
  go_wp2_with fail
  go_end0
  have hX5 : Ext (fun i => i = rr) W1 w4 := ((Ext.refl (fun i => i = rr) W1).drew).trans hX4 (fun _ _ e => e)
  exact ⟨rfl, hS4, ⟨_, hO1.ext hX5 (fun e => n1 e), HM.out.1, HM.out.2⟩, hX1.trans' hX5 (fun _ _ e => Or.inr e) (fun _ _ e => Or.inl e)⟩
def Take2To (rr rb : Nat) (l : List UInt8) (a : Option Addr) (c p : Nat) (ob N k : Nat) (z : Int) (ps : List PH) (W : World) (e : Ending) (W' : World) : Prop :=
  e = .returned (.tuple #[]) ∧ RS W' rr rb l (p, if inB z 1 2147483647 = true then 0 else 27) a c ∧ (∃ ps', OutIs W' ob N ps' ∧ (ps'.take (k + 1)).map (fun p => p.l) = (ps.take k).map (fun p => p.l) ++ [z] ∧ ps'.map (fun p => p.o) = ps.map (fun p => p.o)) ∧ Ext (fun i => i = rr ∨ i = ob) W W'
set_option maxHeartbeats 2000000 in
set_option maxRecDepth 100000 in
theorem take2_any (rr rb : Nat) (l : List UInt8) (a : Option Addr) (c p : Nat) (hb ub pb ob N k x v0 : Nat) (hv : List Value) (ps : List PH) (W : World) (hB : PBox W rr hb ub pb ob N hv) (h0 : hv[3]? = some (.int .i64 v0)) (hO : OutIs W ob N ps) (hk : k < N) (hN : N ≤ 2048) (hx : x < 4294967296) (hv0 : v0 < 4294967296) (hS : RS W rr rb l (p, 0) a c) (hne : ob ≠ rr ∧ ob ≠ rb ∧ (∀ g, a = some g → g.block ≠ ob) ∧ hb ≠ ob ∧ ub ≠ ob ∧ pb ≠ ob ∧ ub ≠ rr ∧ pb ≠ rr) :
    Calls Try.prog 62 #[.int .i64 k, .int .i64 x, .pointer (some ⟨hb, 0, none⟩), .pointer (some ⟨ub, 0, none⟩), .pointer (some ⟨pb, 0, none⟩)] W (Take2To rr rb l a c p ob N k ((v0 : Int) + (x : Int)) ps W) := by
  obtain ⟨n1, n2, n3, n4, n5, n6, n7, n8⟩ := hne
  have c0 : W.cell? ⟨hb, 0 + 3, none⟩ = some (.int .i64 v0) := by rw [← h0]; exact hB.h.cell 3
  have c1 : W.cell? ⟨ub, 0, none⟩ = some (.slice (some ⟨ob, 0, none⟩) N N) := hB.u.cell 0
  have hkp : k < ps.length := by have := hO.len; omega
  have hki : (k : Int) < (N : Int) := by omega
  obtain ⟨z, hz⟩ : ∃ z : Int, z = (v0 : Int) + (x : Int) := ⟨_, rfl⟩
  obtain ⟨pp, hpp⟩ : ∃ pp : PH, pp = { ps[k] with l := z } := ⟨_, rfl⟩
  obtain ⟨⟨y, hy⟩, hf, hO1⟩ := hO.set k 1 hkp (by omega) (.int .i64 z) pp (by rw [hpp]; rfl)
  have hM1 : ((ps.set k pp).take (k + 1)).map (fun p => p.l) = (ps.take k).map (fun p => p.l) ++ [z] := by rw [take_map_set (fun p : PH => p.l) ps k pp hkp, hpp]
  have hM2 : (ps.set k pp).map (fun p => p.o) = ps.map (fun p => p.o) := map_set_same (fun p : PH => p.o) ps k pp hkp (by rw [hpp])
  have hX1 : Ext (fun i => i = ob) W (W.setCell ⟨ob, k * 3 + 1, none⟩ (.int .i64 z)) := (Ext.refl (fun i => i = ob) W).setCell (p := ⟨ob, k * 3 + 1, none⟩) (fun _ => rfl) _
  have hcell : (cellsP ((ps.set k pp)[k]'(by simpa using hkp)))[1]? = some (.int .i64 z) := by rw [List.getElem_set_self, hpp]; rfl
  have HM := Lib.hid (And.intro hM1 hM2)
  obtain ⟨W1, hW1⟩ : ∃ z', z' = W.setCell ⟨ob, k * 3 + 1, none⟩ (.int .i64 z) := ⟨_, rfl⟩
  try simp only [Nat.add_zero] at hy hf hO1
  rw [← hW1] at hO1 hX1
  have hB1 := hB.ext hX1 n4 n5 n6
  have hS1 := hS.ext hX1 (fun e => n1 e.symm) (fun e => n2 e.symm) (fun g hg e => n3 g hg e)
  have HH := Lib.hid (fun (so : Bool) (W2 : World) (hP : Pure W1 W2) => hold_any so rr rb l a c p W2 (hS1.pure hP))
  have HW1 := Lib.hid hW1
  have HZ := Lib.hid hz
  have hz1 : 0 ≤ z := by omega
  have hz2 : z < 8589934592 := by omega
  have d0 : W1.drew.cell? ⟨pb, 0, none⟩ = some (.pointer (some ⟨rr, 0, none⟩)) := hB1.p.cell 0
  have d1 : W1.drew.cell? ⟨ub, 0, none⟩ = some (.slice (some ⟨ob, 0, none⟩) N N) := hB1.u.cell 0
  have d2 : W1.drew.cell? ⟨ob, k * 3 + 1, none⟩ = some (.int .i64 z) := hO1.cell k 1 (by simpa using hkp) (by omega) hcell
  have k0 := fun w' (hS : Ext (fun i => i = rr) W1.drew w') => hS.cell_some d0 (fun e => n8 e)
  have k1 := fun w' (hS : Ext (fun i => i = rr) W1.drew w') => hS.cell_some d1 (fun e => n7 e)
  have k2 := fun w' (hS : Ext (fun i => i = rr) W1.drew w') => hS.cell_some d2 (fun e => n1 e)
  have hyd : W.cell? ⟨ob, k * 3 + 1, none⟩ = some y := hy
  have hfd : W.frozen? ⟨ob, k * 3 + 1, none⟩ = false := hf
  have hzw : (v0 : Int) + (x : Int) = z := hz.symm
  clear hB hO h0 hpp hW1 hz hM1 hM2 hcell hy hf
  go_enter Try.func62, Try.ntmps62
  go_wp2_with fail
  rw [← HW1.out]
  refine region_start (fun i => i = rr) (by kernel_rfl) ?_
  try simp only [Act.put, List.setIfInBounds_toArray, List.set_cons_zero, List.set_cons_succ]
  refine region_take 0 15 (v := ?vtk20) rfl rfl (by kernel_rfl) (by kernel_rfl) (by kernel_rfl) (fun _ _ _ h => h) (by rfl) (fun w' hS => ?htk20) ?rtk20
  case htk20 => go_simp; with_reducible rfl
  try simp only [Act.put, List.setIfInBounds_toArray, List.set_cons_zero, List.set_cons_succ]
  refine region_take 1 16 (v := ?vtk21) rfl rfl (by kernel_rfl) (by kernel_rfl) (by kernel_rfl) (fun _ _ _ h => h) (by rfl) (fun w' hS => ?htk21) ?rtk21
  case htk21 => go_simp; with_reducible rfl
  try simp only [Act.put, List.setIfInBounds_toArray, List.set_cons_zero, List.set_cons_succ]
  refine region_take 2 17 (v := ?vtk22) rfl rfl (by kernel_rfl) (by kernel_rfl) (by kernel_rfl) (fun _ _ _ h => h) (by rfl) (fun w' hS => ?htk22) ?rtk22
  case htk22 => go_simp; with_reducible rfl
  try simp only [Act.put, List.setIfInBounds_toArray, List.set_cons_zero, List.set_cons_succ]
  refine region_take 3 18 (v := ?vtk23) rfl rfl (by kernel_rfl) (by kernel_rfl) (by kernel_rfl) (fun _ _ _ h => h) (by rfl) (fun w' hS => ?htk23) ?rtk23
  case htk23 => go_simp; with_reducible rfl
  try simp only [Act.put, List.setIfInBounds_toArray, List.set_cons_zero, List.set_cons_succ]
  refine region_take 4 19 (v := ?vtk24) rfl rfl (by kernel_rfl) (by kernel_rfl) (by kernel_rfl) (fun _ _ _ h => h) (by rfl) (fun w' hS => ?htk24) ?rtk24
  case htk24 => go_simp; with_reducible rfl
  try simp only [Act.put, List.setIfInBounds_toArray, List.set_cons_zero, List.set_cons_succ]
  refine region_take 5 20 (v := ?vtk25) rfl rfl (by kernel_rfl) (by kernel_rfl) (by kernel_rfl) (fun _ _ _ h => h) (by rfl) (fun w' hS => ?htk25) ?rtk25
  case htk25 => go_simp; with_reducible rfl
  try simp only [Act.put, List.setIfInBounds_toArray, List.set_cons_zero, List.set_cons_succ]
  refine wpAnyH_ready (rs := [6]) (by kernel_rfl) (by simp) (AllReadyH.cons rfl (fun K hK => ?_) AllReadyH.nil)
  go_simp
  refine (within_any z 1 2147483647 _).mono ?_
  rintro e w3 ⟨rfl, hw3⟩
  obtain rfl := hw3.symm
  refine hK.out _ _ (Ext.refl _ _) (fun hHeld => ?_)
  clear hK K hHeld
  refine region_now (Ext.refl _ _) ?_
  try simp only [Act.put, List.setIfInBounds_toArray, List.set_cons_zero, List.set_cons_succ]
  refine wpAnyH_ready (rs := [7]) (by kernel_rfl) (by simp) (AllReadyH.cons rfl (fun K hK => ?_) AllReadyH.nil)
  go_simp
  refine (HH.out (inB z 1 2147483647) _ ((Ext.refl _ W1).drew)).mono ?_
  rintro e w4 ⟨rfl, hS4, hX4⟩
  refine hK.out _ _ (hX4) (fun hHeld => ?_)
  clear hK K hHeld
  refine region_now (hX4) ?_
  try simp only [Act.put, List.setIfInBounds_toArray, List.set_cons_zero, List.set_cons_succ]
  refine wpAnyH_done (by kernel_rfl) ?_ _
  clear k0 k1 k2 d0 d1 d2 hyd hfd c0 c1
  go_wp2_with fail
  go_end0
  have hX5 : Ext (fun i => i = rr) W1 w4 := ((Ext.refl (fun i => i = rr) W1).drew).trans hX4 (fun _ _ e => e)
  exact ⟨rfl, hS4, ⟨_, hO1.ext hX5 (fun e => n1 e), HM.out.1, HM.out.2⟩, hX1.trans' hX5 (fun _ _ e => Or.inr e) (fun _ _ e => Or.inl e)⟩
/-- a row of numbers of the call's own, in a box of its own -/
structure RBox (W : World) (kb cb n : Nat) (xs : List Value) : Prop where
  box : BlockIs W kb [.slice (some ⟨cb, 0, none⟩) n n] 47
  row : W.ownsRow cb 3 1 (.slice (some ⟨cb, 0, none⟩) n n) n xs
theorem RBox.ext {S : Nat → Prop} {W W' : World} {kb cb n : Nat} {xs : List Value} (h : RBox W kb cb n xs) (e : Ext S W W') (h1 : ¬ S kb) (h2 : ¬ S cb) : RBox W' kb cb n xs :=
  ⟨h.box.ext e h1, own_ext h.row e (fun g hg => by cases hg; exact h2)⟩
theorem RBox.set {W : World} {kb cb n : Nat} {xs : List Value} (h : RBox W kb cb n xs) (hne : kb ≠ cb) (k : Nat) (hk : k < n) (u : Value) : (∃ y, W.cell? ⟨cb, k, none⟩ = some y) ∧ W.frozen? ⟨cb, k, none⟩ = false ∧ RBox (W.setCell ⟨cb, k, none⟩ u) kb cb n (xs.set k u) := by
  obtain ⟨g, hg, _, hy, hf, hO⟩ := own_set h.row k hk u
  cases hg
  exact ⟨hy, hf, h.box.setOther (p := ⟨cb, k, none⟩) (fun e => hne e.symm) u, hO⟩
def Take3To (rr rb : Nat) (l : List UInt8) (a : Option Addr) (c p : Nat) (kb cb mb n k x t : Nat) (xs : List Value) (W : World) (e : Ending) (W' : World) : Prop :=
  e = .returned (.tuple #[]) ∧ RS W' rr rb l (p, if t + x ≤ 65536 then 0 else 27) a c ∧ RBox W' kb cb n (xs.set k (intV x)) ∧ BlockIs W' mb [intV (t + x)] 3 ∧ Ext (fun i => i = rr ∨ i = cb ∨ i = mb) W W'
set_option maxHeartbeats 2000000 in
set_option maxRecDepth 100000 in
theorem take3_any (rr rb : Nat) (l : List UInt8) (a : Option Addr) (c p : Nat) (kb cb mb pb n k x t : Nat) (xs : List Value) (W : World) (hR : RBox W kb cb n xs) (hM : BlockIs W mb [intV t] 3) (hP : BlockIs W pb [.pointer (some ⟨rr, 0, none⟩)] 69) (hk : k < n) (hn : n ≤ 2048) (hx : x < 4294967296) (ht : t ≤ 65536) (hS : RS W rr rb l (p, 0) a c) (hne : cb ≠ rr ∧ cb ≠ rb ∧ mb ≠ rr ∧ mb ≠ rb ∧ (∀ g, a = some g → g.block ≠ cb ∧ g.block ≠ mb) ∧ kb ≠ cb ∧ kb ≠ mb ∧ kb ≠ rr ∧ pb ≠ rr ∧ pb ≠ cb ∧ pb ≠ mb ∧ cb ≠ mb) :
    Calls Try.prog 63 #[.int .i64 k, .int .i64 x, .pointer (some ⟨kb, 0, none⟩), .pointer (some ⟨mb, 0, none⟩), .pointer (some ⟨pb, 0, none⟩)] W (Take3To rr rb l a c p kb cb mb n k x t xs W) := by
  obtain ⟨n1, n2, n3, n4, n5, n6, n7, n8, n9, n10, n11, n12⟩ := hne
  have c0 : W.cell? ⟨kb, 0, none⟩ = some (.slice (some ⟨cb, 0, none⟩) n n) := hR.box.cell 0
  have c1 : W.cell? ⟨mb, 0, none⟩ = some (.int .i64 t) := hM.cell 0
  have f1 : W.frozen? ⟨mb, 0, none⟩ = false := hM.free 0
  have c2 : W.cell? ⟨pb, 0, none⟩ = some (.pointer (some ⟨rr, 0, none⟩)) := hP.cell 0
  have hki : (k : Int) < (n : Int) := by omega
  obtain ⟨⟨y, hy⟩, hf, hR1⟩ := hR.set n6 k hk (intV x)
  have hX1 : Ext (fun i => i = cb) W (W.setCell ⟨cb, k, none⟩ (intV x)) := (Ext.refl (fun i => i = cb) W).setCell (p := ⟨cb, k, none⟩) (fun _ => rfl) _
  have hM1 := hM.ext hX1 (fun e => n12 e.symm)
  have hP1 := hP.ext hX1 n10
  have hX2 : Ext (fun i => i = mb) (W.setCell ⟨cb, k, none⟩ (intV x)) ((W.setCell ⟨cb, k, none⟩ (intV x)).setCell ⟨mb, 0, none⟩ (intV (t + x))) := (Ext.refl (fun i => i = mb) _).setCell (p := ⟨mb, 0, none⟩) (fun _ => rfl) _
  have hM2 : BlockIs ((W.setCell ⟨cb, k, none⟩ (intV x)).setCell ⟨mb, 0, none⟩ (intV (t + x))) mb [intV (t + x)] 3 := by simpa using hM1.set 0 (intV (t + x))
  have hR2 := hR1.ext hX2 n7 n12
  have hP2 := hP1.ext hX2 n11
  have hS2 := (hS.ext hX1 (fun e => n1 e.symm) (fun e => n2 e.symm) (fun g hg e => (n5 g hg).1 e)).ext hX2 (fun e => n3 e.symm) (fun e => n4 e.symm) (fun g hg e => (n5 g hg).2 e)
  have hX12 : Ext (fun i => i = rr ∨ i = cb ∨ i = mb) W ((W.setCell ⟨cb, k, none⟩ (intV x)).setCell ⟨mb, 0, none⟩ (intV (t + x))) := hX1.trans' hX2 (fun _ _ e => Or.inr (Or.inl e)) (fun _ _ e => Or.inr (Or.inr e))
  have hcast : ((t + x : Nat) : Int) = (t : Int) + (x : Int) := by omega
  simp only [intV, hcast] at hX12 hM2 hR2 hP2 hS2
  obtain ⟨W2, hW2⟩ : ∃ z', z' = (W.setCell ⟨cb, k, none⟩ (.int .i64 (x : Int))).setCell ⟨mb, 0, none⟩ (.int .i64 ((t : Int) + (x : Int))) := ⟨_, rfl⟩
  rw [← hW2] at hX12 hM2 hR2 hP2 hS2
  have HH := Lib.hid (fun (so : Bool) => hold_any so rr rb l a c p W2 hS2)
  have HW2 := Lib.hid hW2
  have e0 : W2.cell? ⟨mb, 0, none⟩ = some (.int .i64 ((t : Int) + (x : Int))) := hM2.cell 0
  have e1 : W2.cell? ⟨pb, 0, none⟩ = some (.pointer (some ⟨rr, 0, none⟩)) := hP2.cell 0
  clear hR hR1 hX1 hM1 hP1 hX2 hW2 hcast hM hP hS hP2 hS2
  by_cases hbig : (t : Int) + (x : Int) ≤ 65536
  · have HTX : Hid (t + x ≤ 65536) := Lib.hid (by omega)
    go_enter Try.func63, Try.ntmps63
    go_wp2_with fail
    rw [← HW2.out]
    refine (HH.out true).mono ?_
    rintro e w4 ⟨rfl, hS4, hX4⟩
    clear HH e0 e1
    go_wp2_with fail
    go_end0
    exact ⟨rfl, by rw [if_pos HTX.out]; exact hS4, hR2.ext hX4 n8 n1, by show BlockIs w4 mb [.int .i64 ((t + x : Nat) : Int)] _; rw [Int.natCast_add]; exact hM2.ext hX4 n3, hX12.trans hX4 (fun _ _ e => Or.inl e)⟩
  · have HTX : Hid (¬ t + x ≤ 65536) := Lib.hid (by omega)
    go_enter Try.func63, Try.ntmps63
    go_wp2_with fail
    rw [← HW2.out]
    refine (HH.out false).mono ?_
    rintro e w4 ⟨rfl, hS4, hX4⟩
    clear HH e0 e1
    go_wp2_with fail
    go_end0
    exact ⟨rfl, by rw [if_neg HTX.out]; exact hS4, hR2.ext hX4 n8 n1, by show BlockIs w4 mb [.int .i64 ((t + x : Nat) : Int)] _; rw [Int.natCast_add]; exact hM2.ext hX4 n3, hX12.trans hX4 (fun _ _ e => Or.inl e)⟩
def Take4To (rr rb : Nat) (l : List UInt8) (a : Option Addr) (c p : Nat) (kb cb n k x : Nat) (xs : List Value) (W : World) (e : Ending) (W' : World) : Prop :=
  e = .returned (.tuple #[]) ∧ RS W' rr rb l (p, if x ≤ 4095 then 0 else 27) a c ∧ RBox W' kb cb n (xs.set k (intV x)) ∧ Ext (fun i => i = rr ∨ i = cb) W W'
set_option maxHeartbeats 2000000 in
set_option maxRecDepth 100000 in
theorem take4_any (rr rb : Nat) (l : List UInt8) (a : Option Addr) (c p : Nat) (kb cb pb n k x : Nat) (xs : List Value) (W : World) (hR : RBox W kb cb n xs) (hP : BlockIs W pb [.pointer (some ⟨rr, 0, none⟩)] 69) (hk : k < n) (hn : n ≤ 65536) (hx : x < 4294967296) (hS : RS W rr rb l (p, 0) a c) (hne : cb ≠ rr ∧ cb ≠ rb ∧ (∀ g, a = some g → g.block ≠ cb) ∧ kb ≠ cb ∧ kb ≠ rr ∧ pb ≠ rr ∧ pb ≠ cb) :
    Calls Try.prog 64 #[.int .i64 k, .int .i64 x, .pointer (some ⟨kb, 0, none⟩), .pointer (some ⟨pb, 0, none⟩)] W (Take4To rr rb l a c p kb cb n k x xs W) := by
  obtain ⟨n1, n2, n5, n6, n8, n9, n10⟩ := hne
  have c0 : W.cell? ⟨kb, 0, none⟩ = some (.slice (some ⟨cb, 0, none⟩) n n) := hR.box.cell 0
  have c2 : W.cell? ⟨pb, 0, none⟩ = some (.pointer (some ⟨rr, 0, none⟩)) := hP.cell 0
  have hki : (k : Int) < (n : Int) := by omega
  obtain ⟨⟨y, hy⟩, hf, hR1⟩ := hR.set n6 k hk (intV x)
  have hX1 : Ext (fun i => i = cb) W (W.setCell ⟨cb, k, none⟩ (intV x)) := (Ext.refl (fun i => i = cb) W).setCell (p := ⟨cb, k, none⟩) (fun _ => rfl) _
  have hP1 := hP.ext hX1 n10
  have hS1 := hS.ext hX1 (fun e => n1 e.symm) (fun e => n2 e.symm) (fun g hg e => n5 g hg e)
  simp only [intV] at hX1 hR1 hP1 hS1
  obtain ⟨W2, hW2⟩ : ∃ z', z' = W.setCell ⟨cb, k, none⟩ (.int .i64 (x : Int)) := ⟨_, rfl⟩
  rw [← hW2] at hX1 hR1 hP1 hS1
  have HH := Lib.hid (fun (so : Bool) => hold_any so rr rb l a c p W2 hS1)
  have HW2 := Lib.hid hW2
  have e1 : W2.cell? ⟨pb, 0, none⟩ = some (.pointer (some ⟨rr, 0, none⟩)) := hP1.cell 0
  clear hR hW2 hP hS hP1 hS1
  by_cases hbig : (x : Int) < 4096
  · have HTX : Hid (x ≤ 4095) := Lib.hid (by omega)
    go_enter Try.func64, Try.ntmps64
    go_wp2_with fail
    rw [← HW2.out]
    refine (HH.out true).mono ?_
    rintro e w4 ⟨rfl, hS4, hX4⟩
    clear HH e1
    go_wp2_with fail
    go_end0
    exact ⟨rfl, by rw [if_pos HTX.out]; exact hS4, hR1.ext hX4 n8 n1, hX1.trans' hX4 (fun _ _ e => Or.inr e) (fun _ _ e => Or.inl e)⟩
  · have HTX : Hid (¬ x ≤ 4095) := Lib.hid (by omega)
    go_enter Try.func64, Try.ntmps64
    go_wp2_with fail
    rw [← HW2.out]
    refine (HH.out false).mono ?_
    rintro e w4 ⟨rfl, hS4, hX4⟩
    clear HH e1
    go_wp2_with fail
    go_end0
    exact ⟨rfl, by rw [if_neg HTX.out]; exact hS4, hR1.ext hX4 n8 n1, hX1.trans' hX4 (fun _ _ e => Or.inr e) (fun _ _ e => Or.inl e)⟩
def Take5To (W : World) (e : Ending) (W' : World) : Prop := e = .returned (.tuple #[]) ∧ W' = W
theorem take5_any (k x : Int) (W : World) : Calls Try.prog 65 #[.int .i64 k, .int .i64 x] W (Take5To W) := by
  go_enter Try.func65, Try.ntmps65
  go_wp2_with fail
  go_end0
  exact ⟨rfl, rfl⟩
/-- what a clone of a row of numbers is -/
structure NewInts (w w' : World) (a : Option Addr) (c : Nat) (l : List Nat) : Prop where
  row : RowOf w' a (l.map intV)
  ext : Pure w w'
  nil : a = none → c = 0
  fresh : ∀ g, a = some g → w.heap.size ≤ g.block
  le : l.length ≤ c
  most : c ≤ maxLen
def ClonedTo (w : World) (l : List Nat) (e : Ending) (w' : World) : Prop := ∃ a c, e = .returned (.slice a l.length c) ∧ NewInts w w' a c l
theorem clone_int (ad : Option Addr) (cap : Nat) (l : List Nat) (w : World) (hb : RowOf w ad (l.map intV)) (hnil : ad = none → cap = 0) (hle : l.length ≤ cap) (hmost : l.length ≤ 1000000) :
    Calls Try.prog 66 #[.slice ad l.length cap] w (ClonedTo w l) := by
  have he := eql_nil Try.underlying47
  cases ad with
  | none =>
    obtain rfl := hnil rfl
    obtain rfl : l = [] := List.length_eq_zero_iff.1 (by omega)
    go_enter Try.func66, Try.ntmps66
    go_wp2_with fail
    go_ret
    exact ⟨none, 0, rfl, ⟨row_nil _ _, Ext.refl _ _, fun _ => rfl, fun g hg => (by cases hg), Nat.zero_le _, Nat.zero_le _⟩⟩
  | some ad =>
    go_enter Try.func66, Try.ntmps66
    go_wp2_with (at_builtin; refine wpList_append_fresh rfl (.tmp 5) (.tmp 6) 47 rfl w.heap.size 3 (.int .i64 0) 1 8 Try.underlying47 infoInt rfl (by decide) _ 0 [] rfl (own_new (by simp) (by simp) _ (Nat.le_refl _)) (some ad) l.length cap (l.map intV) rfl (fun e => by cases e) (by simp) (hb.ext (ext_alloc _ _) (fun _ _ => id)) (intV_one l) l.length (by omega) (l.map intV) rfl (by omega) (by unfold maxLen; omega) (by simp) ?_)
    intro a1 c1 w1 hown hg hfr
    go_wp2_with fail
    go_ret
    obtain ⟨_, _, hh, h1, h2, h3, h4⟩ := own_form hown
    cases hh
    exact ⟨a1, c1, rfl, ⟨own_row hown, ((Ext.refl _ w).alloc _).grown hg (fun k hk hlt => by cases hk; exact absurd hlt (Nat.lt_irrefl _)), h3, fun g hg => (h4 g hg).1, h1, h2⟩⟩
end Go.Proofs.Ytdhejhgpjeenaaa
namespace Go.Proofs.Ytdhejhgpjeenaaa
open Go.RowKit C26
set_option linter.unusedVariables false

theorem enters {P : Program} {f : FuncId} {fn : Func} {c : Code} (hf : P.funcs[f]? = some fn) (hname : (fn.name == "runtime.NumGoroutine") = false) (hb : fn.body = some c) (args : Array Value) (w : World) : (callFunc f args).run P w = .ok (.enter f args) w := by
  have h1 : fn.name ≠ "runtime.NumGoroutine" := by simpa using hname
  simp [callFunc, go_sem, hf, h1, hb]
theorem vals_sub {bs : List Bool} {p w k K x : Nat} (h : k ≤ K) (hx : x ∈ vals bs p w k) : x ∈ vals bs p w K := by
  simp only [vals, List.mem_map, List.mem_range] at hx ⊢
  obtain ⟨j, hj, rfl⟩ := hx
  exact ⟨j, by omega, rfl⟩
theorem rowE_bad {bs : List Bool} {p n w k : Nat} {ok : List Nat → Prop} (hp : p ≤ bs.length) (hm : ∀ K k, k ≤ K → ok (vals bs p w K) → ok (vals bs p w k)) (hk : k < n) (hfit : p + (k + 1) * w ≤ bs.length) (hbad : ¬ ok (vals bs p w (k + 1))) : RowE bs p n w ok 27 := by
  obtain ⟨K, hF⟩ := fit_ex bs.length p w n hp
  refine ⟨K, hF, Or.inl ⟨fun h => ?_, rfl⟩⟩
  by_cases e : k + 1 ≤ K
  · exact hbad (hm K (k + 1) e h)
  · have h1 := hF.cut (by omega)
    have h2 : (K + 1) * w ≤ (k + 1) * w := Nat.mul_le_mul_right w (by omega)
    omega
theorem rowE_short {bs : List Bool} {p n w k : Nat} {ok : List Nat → Prop} (hk : k < n) (hF : Fit bs.length p w n k) (hok : ok (vals bs p w k)) : RowE bs p n w ok 10 :=
  ⟨k, hF, Or.inr ⟨hok, Or.inl ⟨by omega, rfl⟩⟩⟩
def Row1To (rr rb : Nat) (l : List UInt8) (a : Option Addr) (c p0 N wd v0 ob : Nat) (ps0 : List PH) (er0 : Int) (W : World) (e : Ending) (W' : World) : Prop :=
  e = .returned (.tuple #[]) ∧ ∃ (q : Nat) (er : Int) (ps : List PH), RS W' rr rb l (q, er) a c ∧ Ext (fun i => i = rr ∨ i = rb ∨ i = ob) W W' ∧ ((er0 ≠ 0 ∧ er = er0) ∨ (er0 = 0 ∧ RowE (bitsOf true l) p0 N wd (okO v0) er)) ∧ (er = 0 → q = al8 (p0 + N * wd) ∧ OutIs W' ob N ps ∧ ps.map (fun p => p.o) = (vals (bitsOf true l) p0 wd N).map (fun x => ((v0 + x : Nat) : Int)) ∧ ps.map (fun p => p.l) = ps0.map (fun p => p.l))
set_option maxRecDepth 100000 in
theorem row1_any (rr rb : Nat) (l : List UInt8) (a : Option Addr) (c p p0 : Nat) (hb ub pb ob N wd v0 : Nat) (hv : List Value) (ps0 : List PH) (er0 : Int) (W : World) (hB : PBox W rr hb ub pb ob N hv) (h0 : hv[0]? = some (.int .i64 v0)) (hO : er0 = 0 → p = p0 ∧ OutIs W ob N ps0) (hN : N ≤ 2048) (hwd : wd ≤ 32) (hv0 : v0 < 4294967296) (hl : l.length ≤ 10000000) (hS : RS W rr rb l (p, er0) a c) (hne : ob ≠ rr ∧ ob ≠ rb ∧ (∀ g, a = some g → g.block ≠ ob) ∧ hb ≠ ob ∧ ub ≠ ob ∧ pb ≠ ob ∧ ub ≠ rr ∧ pb ≠ rr ∧ hb ≠ rr ∧ hb ≠ rb ∧ ub ≠ rb ∧ pb ≠ rb) :
    Calls Try.prog 60 #[.pointer (some ⟨rr, 0, none⟩), .int .i64 N, .int .i64 wd, .func (.func 61) #[] #[.pointer (some ⟨hb, 0, none⟩), .pointer (some ⟨ub, 0, none⟩), .pointer (some ⟨pb, 0, none⟩)]] W (Row1To rr rb l a c p0 N wd v0 ob ps0 er0 W) := by
  by_cases he : er0 = 0
  · obtain ⟨rfl, hOut⟩ := hO he
    subst he
    obtain ⟨n1, n2, n3, n4, n5, n6, n7, n8, n9, n10, n11, n12⟩ := hne
    have hpl : p ≤ (bitsOf true l).length := by rw [bitsOf_length]; exact hS.le
    refine (prow_any 61 #[.pointer (some ⟨hb, 0, none⟩), .pointer (some ⟨ub, 0, none⟩), .pointer (some ⟨pb, 0, none⟩)] rr rb l a c p N wd
      (fun k W' => PBox W' rr hb ub pb ob N hv ∧ (∃ ps, OutIs W' ob N ps ∧ (ps.take k).map (fun p => p.o) = (vals (bitsOf true l) p wd k).map (fun x => ((v0 + x : Nat) : Int)) ∧ ps.map (fun p => p.l) = ps0.map (fun p => p.l)) ∧ okO v0 (vals (bitsOf true l) p wd k) ∧ Ext (fun i => i = rr ∨ i = rb ∨ i = ob) W W')
      (fun k W' => ¬ okO v0 (vals (bitsOf true l) p wd (k + 1)) ∧ Ext (fun i => i = rr ∨ i = rb ∨ i = ob) W W') W (Lib.hid ?_) ?_ ?_ hS ⟨hB, ⟨ps0, hOut, by simp [vals], rfl⟩, fun x hx => by simp [vals] at hx, Ext.refl _ _⟩ hwd (by omega) hl (enters Try.func61 (by decide +kernel) rfl)).mono ?_
    · rintro k x W1 hk hx hfit hS1 ⟨hB1, ⟨ps, hO1, hM, hK⟩, hok, hE⟩
      refine (take1_any rr rb l a c _ hb ub pb ob N k x v0 hv ps W1 hB1 h0 hO1 hk hN (hx ▸ numAt_lt32 _ _ wd hwd) hv0 hS1 ⟨n1, n2, n3, n4, n5, n6, n7, n8⟩).mono ?_
      rintro e W2 ⟨rfl, hS2, ⟨ps', hO2, hM2, hK2⟩, hX⟩
      have hv1 : vals (bitsOf true l) p wd (k + 1) = vals (bitsOf true l) p wd k ++ [x] := by rw [vals_succ, hx]
      have hE2 : Ext (fun i => i = rr ∨ i = rb ∨ i = ob) W W2 := hE.trans hX (fun i _ e => by rcases e with e | e; exact Or.inl e; exact Or.inr (Or.inr e))
      by_cases hin : inB ((v0 : Int) + (x : Int)) 1 4096 = true
      · rw [if_pos hin] at hS2
        refine ⟨rfl, Or.inl ⟨hS2, hB1.ext hX (fun e => by rcases e with e | e; exact n9 e; exact n4 e) (fun e => by rcases e with e | e; exact n7 e; exact n5 e) (fun e => by rcases e with e | e; exact n8 e; exact n6 e), ⟨ps', hO2, ?_, hK2.trans hK⟩, ?_, hE2⟩⟩
        · rw [hM2, hM, hv1, List.map_append]; simp
        · intro y hy
          rw [hv1, List.mem_append] at hy
          rcases hy with hy | hy
          · exact hok y hy
          · rw [List.mem_singleton] at hy; rw [hy]; exact hin
      · rw [if_neg hin] at hS2
        exact ⟨rfl, Or.inr ⟨hS2, fun h => hin (h x (by rw [hv1]; simp)), hE2⟩⟩
    · rintro k W1 W2 ⟨hB1, ⟨ps, hO1, hM, hK⟩, hok, hE⟩ hX
      exact ⟨hB1.ext hX (fun e => by rcases e with e | e; exact n9 e; exact n10 e) (fun e => by rcases e with e | e; exact n7 e; exact n11 e) (fun e => by rcases e with e | e; exact n8 e; exact n12 e), ⟨ps, hO1.ext hX (fun e => by rcases e with e | e; exact n1 e; exact n2 e), hM, hK⟩, hok, hE.trans hX (fun i _ e => by rcases e with e | e; exact Or.inl e; exact Or.inr (Or.inl e))⟩
    · rintro k W1 W2 ⟨hb1, hE⟩ hX
      exact ⟨hb1, hE.trans hX (fun i _ e => by rcases e with e | e; exact Or.inl e; exact Or.inr (Or.inl e))⟩
    · rintro e W1 ⟨rfl, q, er, hS1, ⟨rfl, rfl, hfit, hB1, ⟨ps, hO1, hM, hK⟩, hok, hE⟩ | ⟨rfl, k, hk, hfit, hbad, hE⟩ | ⟨rfl, k, hk, hF, hB1, ⟨ps, hO1, hM, hK⟩, hok, hE⟩⟩
      · rw [List.take_of_length_le (by have := hO1.len; omega)] at hM
        exact ⟨rfl, _, 0, ps, hS1, hE, Or.inr ⟨rfl, RowE.of_zero hfit hok⟩, fun _ => ⟨rfl, hO1, hM, hK⟩⟩
      · exact ⟨rfl, q, 27, [], hS1, hE, Or.inr ⟨rfl, rowE_bad hpl (fun K k h hK x hx => hK x (vals_sub h hx)) hk hfit hbad⟩, fun h => by cases h⟩
      · exact ⟨rfl, q, 10, [], hS1, hE, Or.inr ⟨rfl, rowE_short hk hF hok⟩, fun h => by cases h⟩
  · refine (prow_err _ rr rb l a c p N wd er0 W hS he hl (by omega)).mono ?_
    rintro e W1 ⟨rfl, q, hS1, hE⟩
    exact ⟨rfl, q, er0, [], hS1, hE.mono (fun i _ e => by rcases e with e | e; exact Or.inl e; exact Or.inr (Or.inl e)), Or.inl ⟨he, rfl⟩, fun h => absurd h he⟩
def Row2To (rr rb : Nat) (l : List UInt8) (a : Option Addr) (c p0 N wd v0 ob : Nat) (ps0 : List PH) (er0 : Int) (W : World) (e : Ending) (W' : World) : Prop :=
  e = .returned (.tuple #[]) ∧ ∃ (q : Nat) (er : Int) (ps : List PH), RS W' rr rb l (q, er) a c ∧ Ext (fun i => i = rr ∨ i = rb ∨ i = ob) W W' ∧ ((er0 ≠ 0 ∧ er = er0) ∨ (er0 = 0 ∧ RowE (bitsOf true l) p0 N wd (okL v0) er)) ∧ (er = 0 → q = al8 (p0 + N * wd) ∧ OutIs W' ob N ps ∧ ps.map (fun p => p.l) = (vals (bitsOf true l) p0 wd N).map (fun x => ((v0 + x : Nat) : Int)) ∧ ps.map (fun p => p.o) = ps0.map (fun p => p.o))
set_option maxRecDepth 100000 in
theorem row2_any (rr rb : Nat) (l : List UInt8) (a : Option Addr) (c p p0 : Nat) (hb ub pb ob N wd v0 : Nat) (hv : List Value) (ps0 : List PH) (er0 : Int) (W : World) (hB : PBox W rr hb ub pb ob N hv) (h0 : hv[3]? = some (.int .i64 v0)) (hO : er0 = 0 → p = p0 ∧ OutIs W ob N ps0) (hN : N ≤ 2048) (hwd : wd ≤ 32) (hv0 : v0 < 4294967296) (hl : l.length ≤ 10000000) (hS : RS W rr rb l (p, er0) a c) (hne : ob ≠ rr ∧ ob ≠ rb ∧ (∀ g, a = some g → g.block ≠ ob) ∧ hb ≠ ob ∧ ub ≠ ob ∧ pb ≠ ob ∧ ub ≠ rr ∧ pb ≠ rr ∧ hb ≠ rr ∧ hb ≠ rb ∧ ub ≠ rb ∧ pb ≠ rb) :
    Calls Try.prog 60 #[.pointer (some ⟨rr, 0, none⟩), .int .i64 N, .int .i64 wd, .func (.func 62) #[] #[.pointer (some ⟨hb, 0, none⟩), .pointer (some ⟨ub, 0, none⟩), .pointer (some ⟨pb, 0, none⟩)]] W (Row2To rr rb l a c p0 N wd v0 ob ps0 er0 W) := by
  by_cases he : er0 = 0
  · obtain ⟨rfl, hOut⟩ := hO he
    subst he
    obtain ⟨n1, n2, n3, n4, n5, n6, n7, n8, n9, n10, n11, n12⟩ := hne
    have hpl : p ≤ (bitsOf true l).length := by rw [bitsOf_length]; exact hS.le
    refine (prow_any 62 #[.pointer (some ⟨hb, 0, none⟩), .pointer (some ⟨ub, 0, none⟩), .pointer (some ⟨pb, 0, none⟩)] rr rb l a c p N wd
      (fun k W' => PBox W' rr hb ub pb ob N hv ∧ (∃ ps, OutIs W' ob N ps ∧ (ps.take k).map (fun p => p.l) = (vals (bitsOf true l) p wd k).map (fun x => ((v0 + x : Nat) : Int)) ∧ ps.map (fun p => p.o) = ps0.map (fun p => p.o)) ∧ okL v0 (vals (bitsOf true l) p wd k) ∧ Ext (fun i => i = rr ∨ i = rb ∨ i = ob) W W')
      (fun k W' => ¬ okL v0 (vals (bitsOf true l) p wd (k + 1)) ∧ Ext (fun i => i = rr ∨ i = rb ∨ i = ob) W W') W (Lib.hid ?_) ?_ ?_ hS ⟨hB, ⟨ps0, hOut, by simp [vals], rfl⟩, fun x hx => by simp [vals] at hx, Ext.refl _ _⟩ hwd (by omega) hl (enters Try.func62 (by decide +kernel) rfl)).mono ?_
    · rintro k x W1 hk hx hfit hS1 ⟨hB1, ⟨ps, hO1, hM, hK⟩, hok, hE⟩
      refine (take2_any rr rb l a c _ hb ub pb ob N k x v0 hv ps W1 hB1 h0 hO1 hk hN (hx ▸ numAt_lt32 _ _ wd hwd) hv0 hS1 ⟨n1, n2, n3, n4, n5, n6, n7, n8⟩).mono ?_
      rintro e W2 ⟨rfl, hS2, ⟨ps', hO2, hM2, hK2⟩, hX⟩
      have hv1 : vals (bitsOf true l) p wd (k + 1) = vals (bitsOf true l) p wd k ++ [x] := by rw [vals_succ, hx]
      have hE2 : Ext (fun i => i = rr ∨ i = rb ∨ i = ob) W W2 := hE.trans hX (fun i _ e => by rcases e with e | e; exact Or.inl e; exact Or.inr (Or.inr e))
      by_cases hin : inB ((v0 : Int) + (x : Int)) 1 2147483647 = true
      · rw [if_pos hin] at hS2
        refine ⟨rfl, Or.inl ⟨hS2, hB1.ext hX (fun e => by rcases e with e | e; exact n9 e; exact n4 e) (fun e => by rcases e with e | e; exact n7 e; exact n5 e) (fun e => by rcases e with e | e; exact n8 e; exact n6 e), ⟨ps', hO2, ?_, hK2.trans hK⟩, ?_, hE2⟩⟩
        · rw [hM2, hM, hv1, List.map_append]; simp
        · intro y hy
          rw [hv1, List.mem_append] at hy
          rcases hy with hy | hy
          · exact hok y hy
          · rw [List.mem_singleton] at hy; rw [hy]; exact hin
      · rw [if_neg hin] at hS2
        exact ⟨rfl, Or.inr ⟨hS2, fun h => hin (h x (by rw [hv1]; simp)), hE2⟩⟩
    · rintro k W1 W2 ⟨hB1, ⟨ps, hO1, hM, hK⟩, hok, hE⟩ hX
      exact ⟨hB1.ext hX (fun e => by rcases e with e | e; exact n9 e; exact n10 e) (fun e => by rcases e with e | e; exact n7 e; exact n11 e) (fun e => by rcases e with e | e; exact n8 e; exact n12 e), ⟨ps, hO1.ext hX (fun e => by rcases e with e | e; exact n1 e; exact n2 e), hM, hK⟩, hok, hE.trans hX (fun i _ e => by rcases e with e | e; exact Or.inl e; exact Or.inr (Or.inl e))⟩
    · rintro k W1 W2 ⟨hb1, hE⟩ hX
      exact ⟨hb1, hE.trans hX (fun i _ e => by rcases e with e | e; exact Or.inl e; exact Or.inr (Or.inl e))⟩
    · rintro e W1 ⟨rfl, q, er, hS1, ⟨rfl, rfl, hfit, hB1, ⟨ps, hO1, hM, hK⟩, hok, hE⟩ | ⟨rfl, k, hk, hfit, hbad, hE⟩ | ⟨rfl, k, hk, hF, hB1, ⟨ps, hO1, hM, hK⟩, hok, hE⟩⟩
      · rw [List.take_of_length_le (by have := hO1.len; omega)] at hM
        exact ⟨rfl, _, 0, ps, hS1, hE, Or.inr ⟨rfl, RowE.of_zero hfit hok⟩, fun _ => ⟨rfl, hO1, hM, hK⟩⟩
      · exact ⟨rfl, q, 27, [], hS1, hE, Or.inr ⟨rfl, rowE_bad hpl (fun K k h hK x hx => hK x (vals_sub h hx)) hk hfit hbad⟩, fun h => by cases h⟩
      · exact ⟨rfl, q, 10, [], hS1, hE, Or.inr ⟨rfl, rowE_short hk hF hok⟩, fun h => by cases h⟩
  · refine (prow_err _ rr rb l a c p N wd er0 W hS he hl (by omega)).mono ?_
    rintro e W1 ⟨rfl, q, hS1, hE⟩
    exact ⟨rfl, q, er0, [], hS1, hE.mono (fun i _ e => by rcases e with e | e; exact Or.inl e; exact Or.inr (Or.inl e)), Or.inl ⟨he, rfl⟩, fun h => absurd h he⟩
/-- the first k places of a row are set, all others are as they were -/
theorem take_set_succ (xs : List Value) (k : Nat) (u : Value) (hk : k < xs.length) : (xs.set k u).take (k + 1) = xs.take k ++ [u] := by
  rw [List.take_succ_eq_append_getElem (by simpa using hk)]
  simp [List.take_set_of_le]
def Row3To (rr rb : Nat) (l : List UInt8) (a : Option Addr) (c p0 N wd kb cb mb : Nat) (er0 : Int) (W : World) (e : Ending) (W' : World) : Prop :=
  e = .returned (.tuple #[]) ∧ ∃ (q : Nat) (er : Int), RS W' rr rb l (q, er) a c ∧ Ext (fun i => i = rr ∨ i = rb ∨ i = cb ∨ i = mb) W W' ∧ ((er0 ≠ 0 ∧ er = er0) ∨ (er0 = 0 ∧ RowE (bitsOf true l) p0 N wd okC er)) ∧ (er = 0 → q = al8 (p0 + N * wd) ∧ RBox W' kb cb N ((vals (bitsOf true l) p0 wd N).map intV) ∧ BlockIs W' mb [intV (vals (bitsOf true l) p0 wd N).sum] 3)
set_option maxRecDepth 100000 in
theorem row3_any (rr rb : Nat) (l : List UInt8) (a : Option Addr) (c p p0 : Nat) (kb cb mb pb N wd : Nat) (xs0 : List Value) (er0 : Int) (W : World) (hR : RBox W kb cb N xs0) (hM : BlockIs W mb [intV 0] 3) (hP : BlockIs W pb [.pointer (some ⟨rr, 0, none⟩)] 69) (hp : er0 = 0 → p = p0) (hN : N ≤ 2048) (hwd : wd ≤ 32) (hl : l.length ≤ 10000000) (hS : RS W rr rb l (p, er0) a c)
    (hne : cb ≠ rr ∧ cb ≠ rb ∧ mb ≠ rr ∧ mb ≠ rb ∧ (∀ g, a = some g → g.block ≠ cb ∧ g.block ≠ mb) ∧ kb ≠ cb ∧ kb ≠ mb ∧ kb ≠ rr ∧ pb ≠ rr ∧ pb ≠ cb ∧ pb ≠ mb ∧ cb ≠ mb ∧ kb ≠ rb ∧ pb ≠ rb) :
    Calls Try.prog 60 #[.pointer (some ⟨rr, 0, none⟩), .int .i64 N, .int .i64 wd, .func (.func 63) #[] #[.pointer (some ⟨kb, 0, none⟩), .pointer (some ⟨mb, 0, none⟩), .pointer (some ⟨pb, 0, none⟩)]] W (Row3To rr rb l a c p0 N wd kb cb mb er0 W) := by
  by_cases he : er0 = 0
  · obtain rfl := hp he
    subst he
    obtain ⟨n1, n2, n3, n4, n5, n6, n7, n8, n9, n10, n11, n12, n13, n14⟩ := hne
    have hpl : p ≤ (bitsOf true l).length := by rw [bitsOf_length]; exact hS.le
    refine (prow_any 63 #[.pointer (some ⟨kb, 0, none⟩), .pointer (some ⟨mb, 0, none⟩), .pointer (some ⟨pb, 0, none⟩)] rr rb l a c p N wd
      (fun k W' => (∃ xs : List Value, RBox W' kb cb N xs ∧ xs.take k = (vals (bitsOf true l) p wd k).map intV) ∧ BlockIs W' mb [intV (vals (bitsOf true l) p wd k).sum] 3 ∧ BlockIs W' pb [.pointer (some ⟨rr, 0, none⟩)] 69 ∧ okC (vals (bitsOf true l) p wd k) ∧ Ext (fun i => i = rr ∨ i = rb ∨ i = cb ∨ i = mb) W W')
      (fun k W' => ¬ okC (vals (bitsOf true l) p wd (k + 1)) ∧ Ext (fun i => i = rr ∨ i = rb ∨ i = cb ∨ i = mb) W W') W (Lib.hid ?_) ?_ ?_ hS ⟨⟨xs0, hR, by simp [vals]⟩, hM, hP, by simp [vals, okC], Ext.refl _ _⟩ hwd (by omega) hl (enters Try.func63 (by decide +kernel) rfl)).mono ?_
    · rintro k x W1 hk hx hfit hS1 ⟨⟨xs, hR1, hT⟩, hM1, hP1, hok, hE⟩
      have hxl : xs.length = N := by have := hR1.row.1; omega
      refine (take3_any rr rb l a c _ kb cb mb pb N k x (vals (bitsOf true l) p wd k).sum xs W1 hR1 hM1 hP1 hk hN (hx ▸ numAt_lt32 _ _ wd hwd) hok hS1 ⟨n1, n2, n3, n4, n5, n6, n7, n8, n9, n10, n11, n12⟩).mono ?_
      rintro e W2 ⟨rfl, hS2, hR2, hM2, hX⟩
      have hv1 : vals (bitsOf true l) p wd (k + 1) = vals (bitsOf true l) p wd k ++ [x] := by rw [vals_succ, hx]
      have hs1 : (vals (bitsOf true l) p wd (k + 1)).sum = (vals (bitsOf true l) p wd k).sum + x := by rw [hv1, List.sum_append]; simp
      have hE2 : Ext (fun i => i = rr ∨ i = rb ∨ i = cb ∨ i = mb) W W2 := hE.trans hX (fun i _ e => by rcases e with e | e; exact Or.inl e; exact Or.inr (Or.inr e))
      by_cases hin : (vals (bitsOf true l) p wd k).sum + x ≤ 65536
      · rw [if_pos hin] at hS2
        refine ⟨rfl, Or.inl ⟨hS2, ⟨_, hR2, ?_⟩, by rw [hs1]; exact hM2, hP1.ext hX (fun e => by rcases e with e | e | e; exact n9 e; exact n10 e; exact n11 e), by show _ ≤ _; rw [hs1]; exact hin, hE2⟩⟩
        rw [take_set_succ xs k _ (by omega), hT, hv1, List.map_append]; rfl
      · rw [if_neg hin] at hS2
        exact ⟨rfl, Or.inr ⟨hS2, fun h => hin (by rw [← hs1]; exact h), hE2⟩⟩
    · rintro k W1 W2 ⟨⟨xs, hR1, hT⟩, hM1, hP1, hok, hE⟩ hX
      exact ⟨⟨xs, hR1.ext hX (fun e => by rcases e with e | e; exact n8 e; exact n13 e) (fun e => by rcases e with e | e; exact n1 e; exact n2 e), hT⟩, hM1.ext hX (fun e => by rcases e with e | e; exact n3 e; exact n4 e), hP1.ext hX (fun e => by rcases e with e | e; exact n9 e; exact n14 e), hok, hE.trans hX (fun i _ e => by rcases e with e | e; exact Or.inl e; exact Or.inr (Or.inl e))⟩
    · rintro k W1 W2 ⟨hb1, hE⟩ hX
      exact ⟨hb1, hE.trans hX (fun i _ e => by rcases e with e | e; exact Or.inl e; exact Or.inr (Or.inl e))⟩
    · rintro e W1 ⟨rfl, q, er, hS1, ⟨rfl, rfl, hfit, ⟨xs, hR1, hT⟩, hM1, hP1, hok, hE⟩ | ⟨rfl, k, hk, hfit, hbad, hE⟩ | ⟨rfl, k, hk, hF, ⟨xs, hR1, hT⟩, hM1, hP1, hok, hE⟩⟩
      · rw [List.take_of_length_le (by have := hR1.row.1; omega)] at hT
        exact ⟨rfl, _, 0, hS1, hE, Or.inr ⟨rfl, RowE.of_zero hfit hok⟩, fun _ => ⟨rfl, hT ▸ hR1, hM1⟩⟩
      · exact ⟨rfl, q, 27, hS1, hE, Or.inr ⟨rfl, rowE_bad hpl (fun K k h hK => Nat.le_trans (vals_sum_mono _ _ _ h) hK) hk hfit hbad⟩, fun h => by cases h⟩
      · exact ⟨rfl, q, 10, hS1, hE, Or.inr ⟨rfl, rowE_short hk hF hok⟩, fun h => by cases h⟩
  · refine (prow_err _ rr rb l a c p N wd er0 W hS he hl (by omega)).mono ?_
    rintro e W1 ⟨rfl, q, hS1, hE⟩
    exact ⟨rfl, q, er0, hS1, hE.mono (fun i _ e => by rcases e with e | e; exact Or.inl e; exact Or.inr (Or.inl e)), Or.inl ⟨he, rfl⟩, fun h => absurd h he⟩
def Row4To (rr rb : Nat) (l : List UInt8) (a : Option Addr) (c p0 n wd kb cb : Nat) (er0 : Int) (W : World) (e : Ending) (W' : World) : Prop :=
  e = .returned (.tuple #[]) ∧ ∃ (q : Nat) (er : Int) (ys : List Nat), RS W' rr rb l (q, er) a c ∧ Ext (fun i => i = rr ∨ i = rb ∨ i = cb) W W' ∧ ((er0 ≠ 0 ∧ er = er0) ∨ (er0 = 0 ∧ RowE (bitsOf true l) p0 n wd okS er)) ∧ RBox W' kb cb n (ys.map intV) ∧ (er = 0 → q = al8 (p0 + n * wd) ∧ ys = vals (bitsOf true l) p0 wd n)
set_option maxRecDepth 100000 in
theorem row4_any (rr rb : Nat) (l : List UInt8) (a : Option Addr) (c p p0 : Nat) (kb cb pb n wd : Nat) (ys0 : List Nat) (er0 : Int) (W : World) (hR : RBox W kb cb n (ys0.map intV)) (hP : BlockIs W pb [.pointer (some ⟨rr, 0, none⟩)] 69) (hp : er0 = 0 → p = p0) (hN : n ≤ 65536) (hwd : wd ≤ 32) (hl : l.length ≤ 10000000) (hS : RS W rr rb l (p, er0) a c)
    (hne : cb ≠ rr ∧ cb ≠ rb ∧ (∀ g, a = some g → g.block ≠ cb) ∧ kb ≠ cb ∧ kb ≠ rr ∧ pb ≠ rr ∧ pb ≠ cb ∧ kb ≠ rb ∧ pb ≠ rb) :
    Calls Try.prog 60 #[.pointer (some ⟨rr, 0, none⟩), .int .i64 n, .int .i64 wd, .func (.func 64) #[] #[.pointer (some ⟨kb, 0, none⟩), .pointer (some ⟨pb, 0, none⟩)]] W (Row4To rr rb l a c p0 n wd kb cb er0 W) := by
  obtain ⟨n1, n2, n5, n6, n8, n9, n10, n13, n14⟩ := hne
  by_cases he : er0 = 0
  · obtain rfl := hp he
    subst he
    have hpl : p ≤ (bitsOf true l).length := by rw [bitsOf_length]; exact hS.le
    refine (prow_any 64 #[.pointer (some ⟨kb, 0, none⟩), .pointer (some ⟨pb, 0, none⟩)] rr rb l a c p n wd
      (fun k W' => (∃ ys : List Nat, RBox W' kb cb n (ys.map intV) ∧ ys.take k = vals (bitsOf true l) p wd k) ∧ BlockIs W' pb [.pointer (some ⟨rr, 0, none⟩)] 69 ∧ okS (vals (bitsOf true l) p wd k) ∧ Ext (fun i => i = rr ∨ i = rb ∨ i = cb) W W')
      (fun k W' => ¬ okS (vals (bitsOf true l) p wd (k + 1)) ∧ (∃ ys : List Nat, RBox W' kb cb n (ys.map intV)) ∧ Ext (fun i => i = rr ∨ i = rb ∨ i = cb) W W') W (Lib.hid ?_) ?_ ?_ hS ⟨⟨ys0, hR, by simp [vals]⟩, hP, fun x hx => by simp [vals] at hx, Ext.refl _ _⟩ hwd (by omega) hl (enters Try.func64 (by decide +kernel) rfl)).mono ?_
    · rintro k x W1 hk hx hfit hS1 ⟨⟨ys, hR1, hT⟩, hP1, hok, hE⟩
      have hxl : ys.length = n := by have := hR1.row.1; rw [List.length_map] at this; omega
      refine (take4_any rr rb l a c _ kb cb pb n k x (ys.map intV) W1 hR1 hP1 hk hN (hx ▸ numAt_lt32 _ _ wd hwd) hS1 ⟨n1, n2, n5, n6, n8, n9, n10⟩).mono ?_
      rintro e W2 ⟨rfl, hS2, hR2, hX⟩
      rw [← List.map_set] at hR2
      have hv1 : vals (bitsOf true l) p wd (k + 1) = vals (bitsOf true l) p wd k ++ [x] := by rw [vals_succ, hx]
      have hE2 : Ext (fun i => i = rr ∨ i = rb ∨ i = cb) W W2 := hE.trans hX (fun i _ e => by rcases e with e | e; exact Or.inl e; exact Or.inr (Or.inr e))
      by_cases hin : x ≤ 4095
      · rw [if_pos hin] at hS2
        refine ⟨rfl, Or.inl ⟨hS2, ⟨_, hR2, ?_⟩, hP1.ext hX (fun e => by rcases e with e | e; exact n9 e; exact n10 e), ?_, hE2⟩⟩
        · rw [List.take_succ_eq_append_getElem (by rw [List.length_set]; omega), hv1, ← hT]
          simp [List.take_set_of_le]
        · intro y hy
          rw [hv1, List.mem_append] at hy
          rcases hy with hy | hy
          · exact hok y hy
          · rw [List.mem_singleton] at hy; rw [hy]; exact hin
      · rw [if_neg hin] at hS2
        exact ⟨rfl, Or.inr ⟨hS2, fun h => hin (h x (by rw [hv1]; simp)), ⟨_, hR2⟩, hE2⟩⟩
    · rintro k W1 W2 ⟨⟨ys, hR1, hT⟩, hP1, hok, hE⟩ hX
      exact ⟨⟨ys, hR1.ext hX (fun e => by rcases e with e | e; exact n8 e; exact n13 e) (fun e => by rcases e with e | e; exact n1 e; exact n2 e), hT⟩, hP1.ext hX (fun e => by rcases e with e | e; exact n9 e; exact n14 e), hok, hE.trans hX (fun i _ e => by rcases e with e | e; exact Or.inl e; exact Or.inr (Or.inl e))⟩
    · rintro k W1 W2 ⟨hb1, ⟨ys, hR1⟩, hE⟩ hX
      exact ⟨hb1, ⟨ys, hR1.ext hX (fun e => by rcases e with e | e; exact n8 e; exact n13 e) (fun e => by rcases e with e | e; exact n1 e; exact n2 e)⟩, hE.trans hX (fun i _ e => by rcases e with e | e; exact Or.inl e; exact Or.inr (Or.inl e))⟩
    · rintro e W1 ⟨rfl, q, er, hS1, ⟨rfl, rfl, hfit, ⟨ys, hR1, hT⟩, hP1, hok, hE⟩ | ⟨rfl, k, hk, hfit, hbad, ⟨ys, hR1⟩, hE⟩ | ⟨rfl, k, hk, hF, ⟨ys, hR1, hT⟩, hP1, hok, hE⟩⟩
      · rw [List.take_of_length_le (by have := hR1.row.1; rw [List.length_map] at this; omega)] at hT
        exact ⟨rfl, _, 0, ys, hS1, hE, Or.inr ⟨rfl, RowE.of_zero hfit hok⟩, hR1, fun _ => ⟨rfl, hT⟩⟩
      · exact ⟨rfl, q, 27, ys, hS1, hE, Or.inr ⟨rfl, rowE_bad hpl (fun K k h hK x hx => hK x (vals_sub h hx)) hk hfit hbad⟩, hR1, fun h => by cases h⟩
      · exact ⟨rfl, q, 10, ys, hS1, hE, Or.inr ⟨rfl, rowE_short hk hF hok⟩, hR1, fun h => by cases h⟩
  · refine (prow_err _ rr rb l a c p n wd er0 W hS he hl (by omega)).mono ?_
    rintro e W1 ⟨rfl, q, hS1, hE⟩
    exact ⟨rfl, q, er0, ys0, hS1, hE.mono (fun i _ e => by rcases e with e | e; exact Or.inl e; exact Or.inr (Or.inl e)), Or.inl ⟨he, rfl⟩, hR.ext hE (fun e => by rcases e with e | e; exact n8 e; exact n13 e) (fun e => by rcases e with e | e; exact n1 e; exact n2 e), fun h => absurd h he⟩
def Row5To (rr rb : Nat) (l : List UInt8) (a : Option Addr) (c p0 n wd : Nat) (er0 : Int) (W : World) (e : Ending) (W' : World) : Prop :=
  e = .returned (.tuple #[]) ∧ ∃ (q : Nat) (er : Int), RS W' rr rb l (q, er) a c ∧ Ext (RdS rr rb) W W' ∧ ((er0 ≠ 0 ∧ er = er0) ∨ (er0 = 0 ∧ RowE (bitsOf true l) p0 n wd okA er)) ∧ (er = 0 → q = al8 (p0 + n * wd))
set_option maxRecDepth 100000 in
theorem row5_any (rr rb : Nat) (l : List UInt8) (a : Option Addr) (c p p0 n wd : Nat) (er0 : Int) (W : World) (hp : er0 = 0 → p = p0) (hN : n ≤ 65536) (hwd : wd ≤ 32) (hl : l.length ≤ 10000000) (hS : RS W rr rb l (p, er0) a c) :
    Calls Try.prog 60 #[.pointer (some ⟨rr, 0, none⟩), .int .i64 n, .int .i64 wd, .func (.func 65) #[] #[]] W (Row5To rr rb l a c p0 n wd er0 W) := by
  by_cases he : er0 = 0
  · obtain rfl := hp he
    subst he
    refine (prow_any 65 #[] rr rb l a c p n wd (fun k W' => Ext (RdS rr rb) W W') (fun k W' => False) W (Lib.hid ?_) (fun k W1 W2 h hX => h.trans hX (fun _ _ e => e)) (fun k W1 W2 h hX => h) hS (Ext.refl _ _) hwd (by omega) hl (enters Try.func65 (by decide +kernel) rfl)).mono ?_
    · rintro k x W1 hk hx hfit hS1 hE
      refine (take5_any k x W1).mono ?_
      rintro e W2 ⟨rfl, rfl⟩
      exact ⟨rfl, Or.inl ⟨hS1, hE⟩⟩
    · rintro e W1 ⟨rfl, q, er, hS1, ⟨rfl, rfl, hfit, hE⟩ | ⟨rfl, k, hk, hfit, hbad⟩ | ⟨rfl, k, hk, hF, hE⟩⟩
      · exact ⟨rfl, _, 0, hS1, hE, Or.inr ⟨rfl, RowE.of_zero hfit trivial⟩, fun _ => rfl⟩
      · exact hbad.elim
      · exact ⟨rfl, q, 10, hS1, hE, Or.inr ⟨rfl, rowE_short hk hF trivial⟩, fun h => by cases h⟩
  · refine (prow_err _ rr rb l a c p n wd er0 W hS he hl (by omega)).mono ?_
    rintro e W1 ⟨rfl, q, hS1, hE⟩
    exact ⟨rfl, q, er0, hS1, hE, Or.inl ⟨he, rfl⟩, fun h => absurd h he⟩
end Go.Proofs.Ytdhejhgpjeenaaa
