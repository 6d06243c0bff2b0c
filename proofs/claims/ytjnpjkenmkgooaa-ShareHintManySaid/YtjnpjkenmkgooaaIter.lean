/-
  Walked: the iterator over a row of numbers: from a reader without an error.
-/
import Derived.Test.YtjnpjkenmkgooaaRange
import Derived.Test.YtjnpjkenmkgooaaNum27
import Derived.Shelf.Abstract
import Derived.Shelf.RegionOpen
import Derived.OwnWalkIn
import Derived.TacticsInMore
import Derived.LoopNIn
import Derived.LoopIn
namespace Go.Proofs.Ytjnpjkenmkgooaa
open Go.RowKit Go.Shelf C27
set_option linter.unusedVariables false
attribute [local go_sem] Oper.semAt_some

abbrev El := Nat × Fin 4294967296
def encEl (x : El) : Array Value := #[.int .i64 (x.1 : Nat), .int .i64 (x.2.val : Nat)]
def elAt (bs : List Bool) (p w j : Nat) (h : w ≤ 32) : El := (j, ⟨numAt bs (p + j * w) w, numAt_lt32 _ _ _ h⟩)
def els (bs : List Bool) (p w k : Nat) (h : w ≤ 32) : List El := (List.range k).map (fun j => elAt bs p w j h)
theorem els_len (bs : List Bool) (p w k : Nat) (h : w ≤ 32) : (els bs p w k h).length = k := by simp [els]
theorem els_succ (bs : List Bool) (p w k : Nat) (h : w ≤ 32) : els bs p w (k + 1) h = els bs p w k h ++ [elAt bs p w k h] := by simp [els, List.range_succ]
/-- what has come when the iterator has ended by itself -/
def Came (rr rb : Nat) (bl : List UInt8) (p n w : Nat) (hw : w ≤ 32) (a : Option Addr) (c : Nat) (xs : List El) (W : World) : Prop :=
  ∃ K, Fit (bitsOf true bl).length p w n K ∧ xs = els (bitsOf true bl) p w K hw ∧ RS W rr rb bl (if K = n then (al8 (p + n * w), 0) else (p + K * w, 10)) a c
/-- the reader stands somewhere, without an error -/
def ReadOk (rr rb : Nat) (bl : List UInt8) (a : Option Addr) (c : Nat) (W : World) : Prop := ∃ p, RS W rr rb bl (p, 0) a c
def IterPost (xs : List El → World → Prop) (Sp : List El → Prop) (J Jx : List El → World → Prop) (e : Ending) (W' : World) : Prop := (∃ v, e = .returned v) ∧ ((∃ ys, xs ys W' ∧ J ys W') ∨ (∃ ys, Sp ys ∧ Jx ys W'))
/-- what has come when a round has said 'no more' -/
def Part (bl : List UInt8) (p n w : Nat) (hw : w ≤ 32) (xs : List El) : Prop := ∃ k, k < n ∧ p + (k + 1) * w ≤ (bitsOf true bl).length ∧ xs = els (bitsOf true bl) p w (k + 1) hw
abbrev bitsOf_len (bl : List UInt8) : Nat := (bitsOf true bl).length
set_option maxHeartbeats 2000000 in
set_option maxRecDepth 100000 in
theorem iter_ok (m rr rb nb rx wb : Nat) (bl : List UInt8) (p n wd : Nat) (hwd : wd ≤ 32) (a : Option Addr) (c : Nat) (BW : Nat → Prop) (w0 : World) (hRS : RS w0 rr rb bl (p, 0) a c) (hl : bl.length ≤ 10000000) (hn : n ≤ 1000000000)
    (c1 : w0.cell? ⟨nb, 0, none⟩ = some (.int .i64 n)) (c2 : w0.cell? ⟨rx, 0, none⟩ = some (.pointer (some ⟨rr, 0, none⟩))) (c3 : w0.cell? ⟨wb, 0, none⟩ = some (.int .i64 wd))
    (d1 : ¬ RdS rr rb nb) (d2 : ¬ RdS rr rb rx) (d3 : ¬ RdS rr rb wb) (b1 : ¬ BW nb) (b2 : ¬ BW rx) (b3 : ¬ BW wb) (b4 : ¬ BW rr) (b5 : ¬ BW rb) (b6 : ∀ g, a = some g → ¬ BW g.block) :
    Iter m Try.prog 56 #[.pointer (some ⟨nb, 0, none⟩), .pointer (some ⟨rx, 0, none⟩), .pointer (some ⟨wb, 0, none⟩)] encEl (RdS rr rb) BW (ReadOk rr rb bl a c) (Came rr rb bl p n wd hwd a c) (Part bl p n wd hwd) n w0 := by
  intro l J Jx W hPW hJR hY h0
  have hRS1 := hRS.pure hPW
  have c1 := hPW.cell_some c1 id
  have c2 := hPW.cell_some c2 id
  have c3 := hPW.cell_some c3 id
  clear hRS hPW
  refine callsIn_of_wp (R := IterPost (Came rr rb bl p n wd hwd a c) (Part bl p n wd hwd) J Jx) Try.func56 rfl trivial ?_ rfl
  simp only [Try.ntmps56, List.size_toArray, List.length_cons, List.length_nil, Nat.reduceAdd, Nat.reduceSub, Array.replicate_succ, Array.replicate_zero, List.push_toArray, List.append_toArray, List.nil_append, List.cons_append]
  gi_wp2
  gi_loopw [8, 5, 6] (fun i _ _ wr => ∃ k : Nat, k ≤ n ∧ i = .int .i64 k ∧ p + k * wd ≤ (bitsOf true bl).length ∧ RS wr rr rb bl (p + k * wd, 0) a c ∧ wr.cell? ⟨nb, 0, none⟩ = some (.int .i64 n) ∧ wr.cell? ⟨rx, 0, none⟩ = some (.pointer (some ⟨rr, 0, none⟩)) ∧ wr.cell? ⟨wb, 0, none⟩ = some (.int .i64 wd) ∧ J (els (bitsOf true bl) p wd k hwd) wr) (fun i _ _ _ => n - (intOf i).toNat)
  case atStart => exact ⟨0, Nat.zero_le _, rfl, by have := hRS1.le; rw [bitsOf_length]; omega, by simpa using hRS1, c1, c2, c3, h0⟩
  case round =>
    obtain ⟨k, hk, rfl, hfit, hR, c1', c2', c3', hJ⟩ := hrel
    clear c1 c2 c3 hRS1 h0
    obtain ⟨q, hq⟩ : ∃ q, q = p + k * wd := ⟨_, rfl⟩
    have hqn : p + (k + 1) * wd = q + wd := by rw [hq, Nat.add_mul]; omega
    rw [← hq] at hfit hR
    have HQ := Lib.hid hq
    have HQN := Lib.hid hqn
    clear hq hqn
    by_cases hlt : k < n
    · have hki : (k : Int) < (n : Int) := by omega
      by_cases hcut : bitsOf_len bl < q + wd
      · have hnum := num_any rr rb bl (q, 0) a c wd wr hR hwd hl
        unfold NumRes at hnum
        rw [num1_cut (show (bitsOf true bl).length < q + wd from hcut)] at hnum
        have HN := Lib.hid (callsIn_wide (n := m - 1) |>.2 hnum)
        have hF : Fit (bitsOf true bl).length p wd n k := ⟨hk, by have := HQ.out; omega, fun _ => by have h1 := HQN.out; have h2 : (bitsOf true bl).length < q + wd := hcut; omega⟩
        have hkn : ¬ k = n := by omega
        have hblk := hR.blk
        clear hnum hcut
        gi_wp2_with fail
        refine ⟨trivial, (fun h => by cases h), HN.out.mono ?_⟩
        rintro e w2 ⟨rfl, hR2, hE2⟩
        have e1 : w2.cell? ⟨rr, 0 + 1, none⟩ = some (.int .i64 10) := hR2.blk.cell 1
        have c2'' := hE2.cell_some c2' d2
        have hJ2 := hJR _ _ _ hJ hE2
        gi_wp2
        refine ⟨fun _ h => (by cases h), ?_⟩
        gi_wp2
        refine bodyPost_ret (results_none rfl _ _ _) rfl ?_
        exact ⟨⟨_, rfl⟩, .inl ⟨_, ⟨k, hF, rfl, by rw [if_neg hkn, ← HQ.out]; exact hR2⟩, hJ2⟩⟩
      · have hv := numAt_lt32 (bitsOf true bl) q wd hwd
        have hnum := num_any rr rb bl (q, 0) a c wd wr hR hwd hl
        unfold NumRes at hnum
        rw [num1_yes (show q + wd ≤ (bitsOf true bl).length from Nat.le_of_not_lt hcut)] at hnum
        have hel : els (bitsOf true bl) p wd (k + 1) hwd = els (bitsOf true bl) p wd k hwd ++ [elAt (bitsOf true bl) p wd k hwd] := els_succ _ _ _ _ _
        have henc : encEl (elAt (bitsOf true bl) p wd k hwd) = #[.int .i64 k, .int .i64 (numAt (bitsOf true bl) q wd : Nat)] := by unfold encEl elAt; rw [HQ.out]
        obtain ⟨v, hvv⟩ : ∃ v, v = numAt (bitsOf true bl) q wd := ⟨_, rfl⟩
        rw [← hvv] at hv henc hnum
        have hY1 := fun W hJ hri => hY (els (bitsOf true bl) p wd k hwd) (elAt (bitsOf true bl) p wd k hwd) W hJ hri (by rw [els_len]; exact hlt)
        rw [henc, ← hel] at hY1
        have HN := Lib.hid (callsIn_wide (n := m - 1) |>.2 hnum)
        have HY1 := Lib.hid hY1
        have hq2 : q + wd ≤ (bitsOf true bl).length := Nat.le_of_not_lt hcut
        clear hnum hcut hvv henc hel hY1
        gi_wp2_with fail
        refine ⟨trivial, (fun h => by cases h), HN.out.mono ?_⟩
        rintro e w2 ⟨rfl, hR2, hE2⟩
        have e1 : w2.cell? ⟨rr, 0 + 1, none⟩ = some (.int .i64 0) := hR2.blk.cell 1
        have k1 := hE2.cell_some c1' d1
        have k2 := hE2.cell_some c2' d2
        have k3 := hE2.cell_some c3' d3
        obtain ⟨fn, tmps, assign, body, hy, hRd⟩ := HY1.out w2 (hJR _ _ _ hJ hE2) ⟨_, hR2⟩
        clear HN HY1 c1' c2' c3' hR hJ hE2
        gi_wp2
        refine ⟨(fun h => by cases h), hRd.mono ?_⟩
        rintro e W3 (⟨rfl, hJ3, hk3⟩ | ⟨rfl, hJx3⟩)
        · have hR3 := hR2.ext hk3 b4 b5 b6
          have k1 := hk3.cell_some k1 b1
          have k2 := hk3.cell_some k2 b2
          have k3 := hk3.cell_some k3 b3
          gi_wp2
          go_roundw
          case rel => exact ⟨k + 1, by omega, by go_num, by rw [HQN.out]; exact hq2, by rw [HQN.out]; exact hR3, k1, k2, k3, hJ3⟩
          case measure => simp [intOf]; omega
        · gi_wp2
          refine bodyPost_ret (results_none rfl _ _ _) rfl ?_
          exact ⟨⟨_, rfl⟩, .inr ⟨_, ⟨k, hlt, by rw [HQN.out]; exact hq2, rfl⟩, hJx3⟩⟩
    · have hki : ¬ (k : Int) < (n : Int) := by omega
      obtain rfl : k = n := by omega
      have hF : Fit (bitsOf true bl).length p wd k k := ⟨Nat.le_refl _, by have := HQ.out; omega, fun h => absurd h (Nat.lt_irrefl _)⟩
      have h0' : wr.cell? ⟨rr, 0, none⟩ = some (.pointer (some ⟨rb, 0, none⟩)) := hR.blk.cell 0
      have hle := hR.le
      have HA := Lib.hid (callsIn_wide (n := m - 1) |>.2 (ralign_any rb true bl q a c wr hR.rd (by omega)))
      gi_wp2_with fail
      refine ⟨trivial, (fun h => by cases h), HA.out.mono ?_⟩
      rintro e w2 ⟨rfl, hRd2, hE2⟩
      have hE2' : Ext (RdS rr rb) wr w2 := hE2.mono (fun i _ e => Or.inr e)
      have hJ2 := hJR _ _ _ hJ hE2'
      have hR2 : RS w2 rr rb bl (al8 q, 0) a c := ⟨hR.blk.ext hE2 hR.ne, hRd2, by have h1 := bitsOf_length true bl; show 8 * ((q + 7) / 8) ≤ _; omega, hR.ne, hR.ap⟩
      gi_wp2
      go_end0
      exact ⟨⟨_, rfl⟩, .inl ⟨_, ⟨k, hF, rfl, by rw [if_pos rfl, ← HQ.out]; exact hR2⟩, hJ2⟩⟩
end Go.Proofs.Ytjnpjkenmkgooaa
