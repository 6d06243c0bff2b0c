import Derived.RangeFuncNested
import Derived.RangeFuncBound
import Derived.RangeFuncCalls
import Derived.RangeFuncLeaves
import Derived.Test.YtomcdhljjmnahaaGreatLibBAPa
import Derived.Test.YtomcdhljjmnahaaGreatLibBBPa
import Derived.Shelf.Abstract
import Derived.Shelf.RegionOpen
import Derived.OwnWalkIn
import Derived.TacticsInMore
import Derived.LoopNIn
import Derived.LoopIn
import Derived.Maps.AppendAt
import Derived.Test.YtomcdhljjmnahaaGreatSqPa
set_option linter.unusedVariables false
set_option linter.unusedSimpArgs false
set_option maxRecDepth 100000
namespace Go.Proofs.YtomcdhljjmnahaaGreat.S27
open Go.RowKit
structure Mark (rec : LoopState → Option Code → Loop) (st : LoopState) (pe : Option Code) (l D : Nat) (W : World) : Prop where
 loop : W.heap[l]? = some (.loop (rec st pe))
 calls : W.heap[D]? = some (.deferred (some []))
theorem Mark.ext {rec : LoopState → Option Code → Loop} {st : LoopState} {pe : Option Code} {l D : Nat} {S : Nat → Prop} {W W' : World} (h : Mark rec st pe l D W) (e : Ext S W W') (hl : ¬ S l) (hD : ¬ S D) : Mark rec st pe l D W' :=
 ⟨(e.block l (Array.getElem?_eq_some_iff.1 h.loop).1 hl).trans h.loop, (e.block D (Array.getElem?_eq_some_iff.1 h.calls).1 hD).trans h.calls⟩
theorem ext_putObj (W : World) (l : Nat) (o : Obj) : Ext (fun i => i = l) W (W.putObj l o) :=
 ⟨rfl, rfl, rfl, by simp, fun k _ hn => World.putObj_heap_other hn⟩
theorem Mark.put {rec : LoopState → Option Code → Loop} {st st' : LoopState} {pe pe' : Option Code} {l D : Nat} {W : World} (h : Mark rec st pe l D W) (hne : D ≠ l) : Mark rec st' pe' l D (W.putObj l (.loop (rec st' pe'))) :=
 ⟨World.putObj_heap_same (Array.getElem?_eq_some_iff.1 h.loop).1, (World.putObj_heap_other hne).trans h.calls⟩
def roundEnd {α : Type} (BW BX : Nat → Prop) (I : List α → World → Prop) (Ix : Code → List α → World → Prop) (xs : List α) (W : World) : Exit → Act → World → Prop
 | .normal, _, W' => Ext BW W W' ∧ I xs W'
 | .ret, _, W' => Ext BX W W' ∧ Ix .ret xs W'
 | .exit id, _, W' => Ext BX W W' ∧ Ix (.exit id) xs W'
 | .goto t, _, W' => Ext BX W W' ∧ Ix (.goto t) xs W'
 | .panic _, _, _ => False
 | .outgrown, _, _ => False
def Iter {α : Type} (n : Nat) (P : Program) (g : Nat) (lb : Array Value) (encs : α → Array Value) (RW BW : Nat → Prop) (Ri : World → Prop) (S : List α → World → Prop) (Sp : List α → Prop) (N : Nat) (w0 : World) : Prop :=
 ∀ (l : Nat) (J Jx : List α → World → Prop) (W : World), Pure w0 W → (∀ pre A B, J pre A → Ext RW A B → J pre B) →
   (∀ pre x W1, J pre W1 → Ri W1 → pre.length < N → YieldAt Fence.wide (n - 1) P l (encs x) W1 fun e W' => (e = .returned (.bool true) ∧ J (pre ++ [x]) W' ∧ Ext BW W1 W') ∨ (e = .returned (.bool false) ∧ Jx (pre ++ [x]) W')) →
   J [] W → CallsIn Fence.wide n P g (#[.func (.yield l) #[] #[]] ++ lb) W fun e W' => (∃ v, e = .returned v) ∧ ((∃ xs, S xs W' ∧ J xs W') ∨ (∃ xs, Sp xs ∧ Jx xs W'))
theorem range_iter {α : Type} {n : Nat} {P : Program} {g : Operand} {ps : Array Tmp} {assign body : Code} {Q : Exit → Act → World → Prop} {a : Act} {w : World} {gf : Nat} {lb : Array Value}
 (hg : a.eval g = .func (.func gf) #[] lb) (eg : ∀ args w, (callFunc gf args).run P w = .ok (.enter gf args) w) {encs : α → Array Value} (hps : ∀ x, (encs x).size = ps.size)
 {RW BW BX : Nat → Prop} (hRW : ∀ i, RW i → i < w.heap.size) (hBW : ∀ i, BW i → i < w.heap.size ∨ w.heap.size + 1 < i) (hBX : ∀ i, BX i → i < w.heap.size ∨ w.heap.size + 1 < i) {Ri : World → Prop} (hRi : ∀ A B, Ri A → Ext (fun i => w.heap.size ≤ i) A B → Ri B) {S : List α → World → Prop} {Sp : List α → Prop} {N : Nat} (hit : Iter (n - 1) P gf lb encs RW BW Ri S Sp N w)
 (hSx : ∀ xs A B, S xs A → Ext (fun i => w.heap.size ≤ i) A B → S xs B)
 (I : List α → World → Prop) (Ix : Code → List α → World → Prop) (hI : ∀ pre A B, I pre A → Ext (fun i => w.heap.size ≤ i ∧ ∃ o, A.heap[i]? = some o ∧ o.isCells = false) A B → I pre B) (hIx : ∀ c xs A B, Ix c xs A → Ext (fun i => w.heap.size ≤ i ∧ ∃ o, A.heap[i]? = some o ∧ o.isCells = false) A B → Ix c xs B)
 (hIR : ∀ pre A B, I pre A → Ext RW A B → I pre B) (h0 : I [] w) (a₁ : Array Value → α → Act)
 (hassign : ∀ (l : Nat) (x : α) (W : World) (K : Act → World → Prop), K (a₁ a.tmps x) W → assign.wpIn (Fence.wide.inRound l) (n - 1 - 1) P (Exit.then K (fun _ _ _ => False)) { tmps := (ps.zip (encs x)).foldl (fun t (p, v) => t.setIfInBounds p v) a.tmps, defers := [] } W)
 (hbody : ∀ (l : Nat) (pre : List α) (x : α) (W : World), l = w.heap.size + 1 → I pre W → Ri W → pre.length < N → (∃ r, W.heap[l]? = some (.loop r)) → body.wpIn (Fence.wide.inRound l) (n - 1 - 1) P (roundEnd BW BX I Ix (pre ++ [x]) W) (a₁ a.tmps x) W)
 (hdone : ∀ (D : Nat) (xs : List α) (W : World), D = w.heap.size → S xs W → I xs W → W.heap[D]? = some (.deferred (some [])) → Q .normal { a with defers := { target := .collected D, args := #[] } :: a.defers } W)
 (hstop : ∀ (D : Nat) (c : Code) (xs : List α) (W : World), D = w.heap.size → Sp xs → Ix c xs W → W.heap[D]? = some (.deferred (some [])) → c.wpIn Fence.wide n P Q { a with defers := { target := .collected D, args := #[] } :: a.defers } W) :
 (Code.rangeFunc g ps assign body).wpIn Fence.wide n P Q a w := by
 refine wpIn_rangeFunc fun fn hfn => ?_
 let rec' : LoopState → Option Code → Loop := fun st pe => { state := st, pending := pe, fn := fn, tmps := a.tmps, params := ps, assign := assign, body := body, defers := w.heap.size }
 obtain ⟨rc, hrc⟩ : ∃ rc, rc = rec' := ⟨_, rfl⟩
 obtain ⟨D, hD⟩ : ∃ D, D = w.heap.size := ⟨_, rfl⟩
 obtain ⟨W1, hW1⟩ : ∃ W1, W1 = (w.alloc (.deferred (some []))).alloc (.loop (rc .ready none)) := ⟨_, rfl⟩
 have hP1 : Pure w W1 := hW1 ▸ ((Ext.refl _ w).alloc _).alloc _
 have hM1 : Mark rc .ready none (D + 1) D W1 := by
  refine ⟨?_, ?_⟩
  ·have := World.alloc_heap_new (w.alloc (.deferred (some []))) (.loop (rc .ready none))
   rw [World.size_alloc, ← hD] at this; rw [hW1]; exact this
  ·rw [hW1, hD]; exact (Below.heap_alloc _ _ _ (by simp)).trans (World.alloc_heap_new w _)
 have hnew : ∀ A B, Pure A B → Ext (fun i => w.heap.size ≤ i ∧ ∃ o, A.heap[i]? = some o ∧ o.isCells = false) A B := fun A B h => h.mono (fun _ _ e => e.elim)
 have hput : ∀ st pe o' A, Mark rc st pe (D + 1) D A → Ext (fun i => w.heap.size ≤ i ∧ ∃ o, A.heap[i]? = some o ∧ o.isCells = false) A (A.putObj (D + 1) o') := fun st pe o' A h =>
  (ext_putObj A (D + 1) o').mono (fun i _ e => by
   have e' : i = D + 1 := e
   subst e'
   exact ⟨by omega, _, h.loop, rfl⟩)
 refine ⟨D + 1, [{ target := .collected D, args := #[] }], W1, { target := .fn (.func gf) lb, args := #[.func (.yield (D + 1)) #[] #[]] }, W1, gf, #[.func (.yield (D + 1)) #[] #[]] ++ lb, W1, ?_, ?_, fun _ _ => trivial, ?_, (fun h => by cases h), ?_⟩
 ·rw [hW1, hrc, hD]; exact run_enterLoop_outer _ _ _ _ _
 ·simp only [resolve, hg]
  simp [go_sem]
 ·simp [invoke, go_sem, eg]
 ·refine (hit (D + 1) (fun pre W => I pre W ∧ Mark rc .ready none (D + 1) D W) (fun xs W => ∃ c, Ix c xs W ∧ Mark rc .done (some c) (D + 1) D W) W1 hP1
   (fun pre A B hA hE => ⟨hIR pre A B hA.1 hE, hA.2.ext hE (fun e => by have := hRW _ e; omega) (fun e => by have := hRW _ e; omega)⟩)
   (fun pre x W hJ hri hN => ?_) ⟨hI [] w W1 h0 (hnew _ _ hP1), hM1⟩).mono ?_
  ·obtain ⟨hi, hm⟩ := hJ
   have hy := run_yield (P := P) (args := encs x) hm.loop (by rw [hrc]; exact hps x)
   have hb := run_beginRound (P := P) hm.loop (by rw [hrc])
   have hrs : ∀ st st' pe pe', ({ rc st pe with state := st', pending := pe' } : Loop) = rc st' pe' := fun _ _ _ _ => by rw [hrc]
   have hrs1 : ∀ st st' pe, ({ rc st pe with state := st' } : Loop) = rc st' pe := fun _ _ _ => by rw [hrc]
   rw [hrs1] at hb
   have hm2 : Mark rc .busy none (D + 1) D (W.putObj (D + 1) (.loop (rc .busy none))) := hm.put (by omega)
   have hi2 := hI pre W _ hi (hput _ _ (.loop (rc .busy none)) W hm)
   have hri2 : Ri (W.putObj (D + 1) (.loop (rc .busy none))) := hRi _ _ hri ((ext_putObj W (D + 1) _).mono (fun i _ e => by have e' : i = D + 1 := e; omega))
   have fin : ∀ (jump : Option Code) (W3 : World) (BB : Nat → Prop) (hBB : ∀ i, BB i → i < w.heap.size ∨ w.heap.size + 1 < i), Ext BB (W.putObj (D + 1) (.loop (rc .busy none))) W3 →
    (Instr.endRound (D + 1) jump).run P W3 = .ok (.bool jump.isNone) (W3.putObj (D + 1) (.loop (rc (if jump.isNone then .ready else .done) jump))) ∧ Mark rc .busy none (D + 1) D W3 ∧
    Mark rc (if jump.isNone then .ready else .done) jump (D + 1) D (W3.putObj (D + 1) (.loop (rc (if jump.isNone then .ready else .done) jump))) := fun jump W3 BB hBB hE => by
    have hm3 := hm2.ext hE (fun e => by have := hBB _ e; omega) (fun e => by have := hBB _ e; omega)
    have h := run_endRound (P := P) jump hm3.loop
    rw [hrs] at h
    exact ⟨h, hm3, hm3.put (by omega)⟩
   have hback : ∀ W3, Ext BW (W.putObj (D + 1) (.loop (rc .busy none))) W3 → Ext BW W (W3.putObj (D + 1) (.loop (rc .ready none))) := fun W3 hE => by
    refine ⟨hE.os, hE.tape, hE.output, by have := hE.size; simp at this ⊢; exact this, fun k hk hn => ?_⟩
    by_cases e : k = D + 1
    ·subst e
     rw [World.putObj_heap_same (by have := hE.size; simp at this; omega), hm.loop]
    ·rw [World.putObj_heap_other e, hE.block k (by simpa using hk) hn, World.putObj_heap_other e]
   refine ⟨fn, _, assign, body, by rw [hrc] at hy; exact hy, roundIn_of_wpIn hfn (hassign _ x W _ ⟨_, hb, wpIn_mono (hbody _ pre x _ (by omega) hi2 hri2 hN ⟨_, hm2.loop⟩) ?_⟩)⟩
   rintro e a3 W3 hp
   cases e with
   | normal =>
     obtain ⟨hE, hi3⟩ := hp
     obtain ⟨h1, h2, h3⟩ := fin none W3 BW hBW hE
     exact ⟨_, _, h1, .inl ⟨rfl, ⟨hI _ _ _ hi3 (hput _ _ _ W3 h2), h3⟩, hback W3 hE⟩⟩
   | ret =>
     obtain ⟨hE, hi3⟩ := hp
     obtain ⟨h1, h2, h3⟩ := fin (some .ret) W3 BX hBX hE
     exact ⟨_, _, h1, .inr ⟨rfl, .ret, hIx _ _ _ _ hi3 (hput _ _ _ W3 h2), h3⟩⟩
   | exit id =>
     obtain ⟨hE, hi3⟩ := hp
     obtain ⟨h1, h2, h3⟩ := fin (some (.exit id)) W3 BX hBX hE
     exact ⟨_, _, h1, .inr ⟨rfl, .exit id, hIx _ _ _ _ hi3 (hput _ _ _ W3 h2), h3⟩⟩
   | goto t =>
     obtain ⟨hE, hi3⟩ := hp
     obtain ⟨h1, h2, h3⟩ := fin (some (.goto t)) W3 BX hBX hE
     exact ⟨_, _, h1, .inr ⟨rfl, .goto t, hIx _ _ _ _ hi3 (hput _ _ _ W3 h2), h3⟩⟩
   | panic ch => exact hp.elim
   | outgrown => exact hp.elim
  ·have hl2 : ∀ st pe A, Mark rc st pe (D + 1) D A → Ext (fun i => w.heap.size ≤ i) A (A.putObj (D + 1) (.loop (rc .exhausted pe))) := fun st pe A _ =>
    (ext_putObj A (D + 1) _).mono (fun i _ e => by have e' : i = D + 1 := e; omega)
   rintro e W2 ⟨⟨v, rfl⟩, (⟨xs, hS, hi, hm⟩ | ⟨xs, hSp, c, hi, hm⟩)⟩
   ·have h := run_endLoop (P := P) hm.loop (by rw [hrc]; simp)
    rw [show ({ rc .ready none with state := .exhausted } : Loop) = rc .exhausted none from by rw [hrc], show (rc .ready none).pending = none from by rw [hrc]] at h
    exact ⟨none, _, h, hdone D xs _ (by omega) (hSx xs _ _ hS (hl2 _ _ _ hm)) (hI _ _ _ hi (hput _ _ _ W2 hm)) (hm.put (st' := .exhausted) (pe' := none) (by omega)).calls⟩
   ·have h := run_endLoop (P := P) hm.loop (by rw [hrc]; simp)
    rw [show ({ rc .done (some c) with state := .exhausted } : Loop) = rc .exhausted (some c) from by rw [hrc], show (rc .done (some c)).pending = some c from by rw [hrc]] at h
    exact ⟨some c, _, h, hstop D c xs _ (by omega) hSp (hIx c xs _ _ hi (hput _ _ _ W2 hm)) (hm.put (st' := .exhausted) (pe' := some c) (by omega)).calls⟩
end Go.Proofs.YtomcdhljjmnahaaGreat.S27
namespace Go.Proofs.YtomcdhljjmnahaaGreat.S27
open Go.RowKit Go.Shelf C27
attribute [local go_sem] Oper.semAt_some
abbrev El := Nat × Fin 4294967296
def encEl (x : El) : Array Value := #[.int .i64 (x.1 : Nat), .int .i64 (x.2.val : Nat)]
def elAt (bs : List Bool) (p w j : Nat) (h : w ≤ 32) : El := (j, ⟨numAt bs (p + j * w) w, numAt_lt32 _ _ _ h⟩)
def els (bs : List Bool) (p w k : Nat) (h : w ≤ 32) : List El := (List.range k).map (fun j => elAt bs p w j h)
theorem els_len (bs : List Bool) (p w k : Nat) (h : w ≤ 32) : (els bs p w k h).length = k := by simp [els]
theorem els_succ (bs : List Bool) (p w k : Nat) (h : w ≤ 32) : els bs p w (k + 1) h = els bs p w k h ++ [elAt bs p w k h] := by simp [els, List.range_succ]
def Came (rr rb : Nat) (bl : List UInt8) (p n w : Nat) (hw : w ≤ 32) (a : Option Addr) (c : Nat) (xs : List El) (W : World) : Prop :=
 ∃ K, Fit (bitsOf true bl).length p w n K ∧ xs = els (bitsOf true bl) p w K hw ∧ RS W rr rb bl (if K = n then (al8 (p + n * w), 0) else (p + K * w, 10)) a c
def ReadOk (rr rb : Nat) (bl : List UInt8) (a : Option Addr) (c : Nat) (W : World) : Prop := ∃ p, RS W rr rb bl (p, 0) a c
def IterPost (xs : List El → World → Prop) (Sp : List El → Prop) (J Jx : List El → World → Prop) (e : Ending) (W' : World) : Prop := (∃ v, e = .returned v) ∧ ((∃ ys, xs ys W' ∧ J ys W') ∨ (∃ ys, Sp ys ∧ Jx ys W'))
def Part (bl : List UInt8) (p n w : Nat) (hw : w ≤ 32) (xs : List El) : Prop := ∃ k, k < n ∧ p + (k + 1) * w ≤ (bitsOf true bl).length ∧ xs = els (bitsOf true bl) p w (k + 1) hw
abbrev bitsOf_len (bl : List UInt8) : Nat := (bitsOf true bl).length
set_option maxHeartbeats 2000000 in
theorem iter_ok (m rr rb nb rx wb : Nat) (bl : List UInt8) (p n wd : Nat) (hwd : wd ≤ 32) (a : Option Addr) (c : Nat) (BW : Nat → Prop) (w0 : World) (hRS : RS w0 rr rb bl (p, 0) a c) (hl : bl.length ≤ 10000000) (hn : n ≤ 1000000000)
 (c1 : w0.cell? ⟨nb, 0, none⟩ = some (.int .i64 n)) (c2 : w0.cell? ⟨rx, 0, none⟩ = some (.pointer (some ⟨rr, 0, none⟩))) (c3 : w0.cell? ⟨wb, 0, none⟩ = some (.int .i64 wd))
 (d1 : ¬ RdS rr rb nb) (d2 : ¬ RdS rr rb rx) (d3 : ¬ RdS rr rb wb) (b1 : ¬ BW nb) (b2 : ¬ BW rx) (b3 : ¬ BW wb) (b4 : ¬ BW rr) (b5 : ¬ BW rb) (b6 : ∀ g, a = some g → ¬ BW g.block) :
 Iter m Tryz.prog 138 #[.pointer (some ⟨nb, 0, none⟩), .pointer (some ⟨rx, 0, none⟩), .pointer (some ⟨wb, 0, none⟩)] encEl (RdS rr rb) BW (ReadOk rr rb bl a c) (Came rr rb bl p n wd hwd a c) (Part bl p n wd hwd) n w0 := by
 intro l J Jx W hPW hJR hY h0
 have hRS1 := hRS.pure hPW
 have c1 := hPW.cell_some c1 id
 have c2 := hPW.cell_some c2 id
 have c3 := hPW.cell_some c3 id
 clear hRS hPW
 refine callsIn_of_wp (R := IterPost (Came rr rb bl p n wd hwd a c) (Part bl p n wd hwd) J Jx) Tryz.func138 rfl trivial ?_ rfl
 simp only [Tryz.ntmps138, List.size_toArray, List.length_cons, List.length_nil, Nat.reduceAdd, Nat.reduceSub, Array.replicate_succ, Array.replicate_zero, List.push_toArray, List.append_toArray, List.nil_append, List.cons_append]
 gi_wp2
 gi_loopw [8, 5, 6] (fun i _ _ wr => ∃ k : Nat, k ≤ n ∧ i = .int .i64 k ∧ p + k * wd ≤ (bitsOf true bl).length ∧ RS wr rr rb bl (p + k * wd, 0) a c ∧ wr.cell? ⟨nb, 0, none⟩ = some (.int .i64 n) ∧ wr.cell? ⟨rx, 0, none⟩ = some (.pointer (some ⟨rr, 0, none⟩)) ∧ wr.cell? ⟨wb, 0, none⟩ = some (.int .i64 wd) ∧ J (els (bitsOf true bl) p wd k hwd) wr) (fun i _ _ _ => n - (intOf i).toNat)
 case atStart => exact ⟨0, Nat.zero_le _, rfl, by have := hRS1.le; rw [bitsOf_length]; omega, by simpa using hRS1, c1, c2, c3, h0⟩
 case round =>
  obtain ⟨k, hk, rfl, hfit, hR, c1', c2', c3', hJ⟩ := hrel
  clear c1 c2 c3 hRS1 h0
  obtain ⟨q, hq⟩ : ∃ q, q = p + k * wd := ⟨_, rfl⟩
  have hqn : p + (k + 1) * wd = q + wd := by rw [hq, Nat.add_mul]; omega
  rw [← hq] at hfit hR
  have HQ := qh hq
  have HQN := qh hqn
  clear hq hqn
  by_cases hlt : k < n
  ·have hki : (k : Int) < (n : Int) := by omega
   by_cases hcut : bitsOf_len bl < q + wd
   ·have hnum := num_any rr rb bl (q, 0) a c wd wr hR hwd hl
    unfold NumRes at hnum
    rw [num1_cut (show (bitsOf true bl).length < q + wd from hcut)] at hnum
    have HN := qh (callsIn_wide (n := m - 1) |>.2 hnum)
    have hF : Fit (bitsOf true bl).length p wd n k := ⟨hk, by have := HQ.out; omega, fun _ => by have h1 := HQN.out; have h2 : (bitsOf true bl).length < q + wd := hcut; omega⟩
    have hkn : ¬ k = n := by omega
    have hblk := hR.blk
    clear hnum hcut
    gi_wp2_with fail
    refine ⟨trivial, (fun h => by cases h), HN.out.mono ?_⟩
    rintro e w2 ⟨rfl, hR2, hE2⟩
    have e1 : w2.cell? ⟨rr, 0 + 1, none⟩ = some (.int .i64 10) := hR2.blk.cell 1
    have c2'' := hE2.cell_some c2' d2
    have hJ2 := hJR _ _ _ hJ hE2
    gi_wp2
    refine ⟨fun _ h => (by cases h), ?_⟩
    gi_wp2
    refine bodyPost_ret (results_none rfl _ _ _) rfl ?_
    exact ⟨⟨_, rfl⟩, .inl ⟨_, ⟨k, hF, rfl, by rw [if_neg hkn, ← HQ.out]; exact hR2⟩, hJ2⟩⟩
   ·have hv := numAt_lt32 (bitsOf true bl) q wd hwd
    have hnum := num_any rr rb bl (q, 0) a c wd wr hR hwd hl
    unfold NumRes at hnum
    rw [num1_yes (show q + wd ≤ (bitsOf true bl).length from Nat.le_of_not_lt hcut)] at hnum
    have hel : els (bitsOf true bl) p wd (k + 1) hwd = els (bitsOf true bl) p wd k hwd ++ [elAt (bitsOf true bl) p wd k hwd] := els_succ _ _ _ _ _
    have henc : encEl (elAt (bitsOf true bl) p wd k hwd) = #[.int .i64 k, .int .i64 (numAt (bitsOf true bl) q wd : Nat)] := by unfold encEl elAt; rw [HQ.out]
    obtain ⟨v, hvv⟩ : ∃ v, v = numAt (bitsOf true bl) q wd := ⟨_, rfl⟩
    rw [← hvv] at hv henc hnum
    have hY1 := fun W hJ hri => hY (els (bitsOf true bl) p wd k hwd) (elAt (bitsOf true bl) p wd k hwd) W hJ hri (by rw [els_len]; exact hlt)
    rw [henc, ← hel] at hY1
    have HN := qh (callsIn_wide (n := m - 1) |>.2 hnum)
    have HY1 := qh hY1
    have hq2 : q + wd ≤ (bitsOf true bl).length := Nat.le_of_not_lt hcut
    clear hnum hcut hvv henc hel hY1
    gi_wp2_with fail
    refine ⟨trivial, (fun h => by cases h), HN.out.mono ?_⟩
    rintro e w2 ⟨rfl, hR2, hE2⟩
    have e1 : w2.cell? ⟨rr, 0 + 1, none⟩ = some (.int .i64 0) := hR2.blk.cell 1
    have k1 := hE2.cell_some c1' d1
    have k2 := hE2.cell_some c2' d2
    have k3 := hE2.cell_some c3' d3
    obtain ⟨fn, tmps, assign, body, hy, hRd⟩ := HY1.out w2 (hJR _ _ _ hJ hE2) ⟨_, hR2⟩
    clear HN HY1 c1' c2' c3' hR hJ hE2
    gi_wp2
    refine ⟨(fun h => by cases h), hRd.mono ?_⟩
    rintro e W3 (⟨rfl, hJ3, hk3⟩ | ⟨rfl, hJx3⟩)
    ·have hR3 := hR2.ext hk3 b4 b5 b6
     have k1 := hk3.cell_some k1 b1
     have k2 := hk3.cell_some k2 b2
     have k3 := hk3.cell_some k3 b3
     gi_wp2
     go_roundw
     case rel => exact ⟨k + 1, by omega, by go_num, by rw [HQN.out]; exact hq2, by rw [HQN.out]; exact hR3, k1, k2, k3, hJ3⟩
     case measure => simp [intOf]; omega
    ·gi_wp2
     refine bodyPost_ret (results_none rfl _ _ _) rfl ?_
     exact ⟨⟨_, rfl⟩, .inr ⟨_, ⟨k, hlt, by rw [HQN.out]; exact hq2, rfl⟩, hJx3⟩⟩
  ·have hki : ¬ (k : Int) < (n : Int) := by omega
   obtain rfl : k = n := by omega
   have hF : Fit (bitsOf true bl).length p wd k k := ⟨Nat.le_refl _, by have := HQ.out; omega, fun h => absurd h (Nat.lt_irrefl _)⟩
   have h0' : wr.cell? ⟨rr, 0, none⟩ = some (.pointer (some ⟨rb, 0, none⟩)) := hR.blk.cell 0
   have hle := hR.le
   have HA := qh (callsIn_wide (n := m - 1) |>.2 (ralign_any rb true bl q a c wr hR.rd (by omega)))
   gi_wp2_with fail
   refine ⟨trivial, (fun h => by cases h), HA.out.mono ?_⟩
   rintro e w2 ⟨rfl, hRd2, hE2⟩
   have hE2' : Ext (RdS rr rb) wr w2 := hE2.mono (fun i _ e => Or.inr e)
   have hJ2 := hJR _ _ _ hJ hE2'
   have hR2 : RS w2 rr rb bl (al8 q, 0) a c := ⟨hR.blk.ext hE2 hR.ne, hRd2, by have h1 := bitsOf_length true bl; show 8 * ((q + 7) / 8) ≤ _; omega, hR.ne, hR.ap⟩
   gi_wp2
   go_end0
   exact ⟨⟨_, rfl⟩, .inl ⟨_, ⟨k, hF, rfl, by rw [if_pos rfl, ← HQ.out]; exact hR2⟩, hJ2⟩⟩
attribute [local go_sem] Oper.semAt_some
def Stuck (rr rb : Nat) (bl : List UInt8) (er : Int) (a : Option Addr) (c : Nat) (xs : List El) (W : World) : Prop := xs = [] ∧ ∃ p, RS W rr rb bl (p, er) a c
set_option maxHeartbeats 2000000 in
theorem iter_err (m rr rb nb rx wb : Nat) (bl : List UInt8) (p n wd : Nat) (er : Int) (her : er ≠ 0) (hwd : wd ≤ 32) (a : Option Addr) (c : Nat) (BW : Nat → Prop) (w0 : World) (hRS : RS w0 rr rb bl (p, er) a c) (hl : bl.length ≤ 10000000) (hn : n ≤ 1000000000)
 (c1 : w0.cell? ⟨nb, 0, none⟩ = some (.int .i64 n)) (c2 : w0.cell? ⟨rx, 0, none⟩ = some (.pointer (some ⟨rr, 0, none⟩))) (c3 : w0.cell? ⟨wb, 0, none⟩ = some (.int .i64 wd))
 (d2 : ¬ RdS rr rb rx) :
 Iter m Tryz.prog 138 #[.pointer (some ⟨nb, 0, none⟩), .pointer (some ⟨rx, 0, none⟩), .pointer (some ⟨wb, 0, none⟩)] encEl (RdS rr rb) BW (ReadOk rr rb bl a c) (Stuck rr rb bl er a c) (Part bl p n wd hwd) n w0 := by
 intro l J Jx W hPW hJR hY h0
 have hR := hRS.pure hPW
 have c1 := hPW.cell_some c1 id
 have c2 := hPW.cell_some c2 id
 have c3 := hPW.cell_some c3 id
 clear hRS hPW
 refine callsIn_of_wp (R := IterPost (Stuck rr rb bl er a c) (Part bl p n wd hwd) J Jx) Tryz.func138 rfl trivial ?_ rfl
 simp only [Tryz.ntmps138, List.size_toArray, List.length_cons, List.length_nil, Nat.reduceAdd, Nat.reduceSub, Array.replicate_succ, Array.replicate_zero, List.push_toArray, List.append_toArray, List.nil_append, List.cons_append]
 gi_wp2
 gi_loopw [8, 5, 6] (fun i _ _ wr => i = .int .i64 0 ∧ wr = W) (fun i _ _ _ => 0)
 case atStart => exact ⟨rfl, rfl⟩
 case round =>
  obtain ⟨rfl, hw⟩ := hrel
  obtain rfl := hw.symm
  by_cases hlt : 0 < n
  ·have hki : (0 : Int) < (n : Int) := by omega
   have hnum := num_any rr rb bl (p, er) a c wd W hR hwd hl
   unfold NumRes at hnum
   rw [num1_err (show ((p, er) : St).2 ≠ 0 from her)] at hnum
   have HN := qh (callsIn_wide (n := m - 1) |>.2 hnum)
   have hne : (er != 0) = true := by simpa using her
   have hne2 : (er == 0) = false := by simpa using her
   have HE := qh her
   clear hnum her
   gi_wp2_with fail
   refine ⟨trivial, (fun h => by cases h), HN.out.mono ?_⟩
   rintro e w2 ⟨rfl, hR2, hE2⟩
   have e1 : w2.cell? ⟨rr, 0 + 1, none⟩ = some (.int .i64 er) := hR2.blk.cell 1
   have c2'' := hE2.cell_some c2 d2
   have hJ2 := hJR _ _ _ h0 hE2
   gi_wp2
   refine ⟨fun _ h => (by cases h), ?_⟩
   gi_wp2
   refine bodyPost_ret (results_none rfl _ _ _) rfl ?_
   exact ⟨⟨_, rfl⟩, .inl ⟨_, ⟨rfl, p, hR2⟩, hJ2⟩⟩
  ·have hki : ¬ (0 : Int) < (n : Int) := by omega
   have h0' : W.cell? ⟨rr, 0, none⟩ = some (.pointer (some ⟨rb, 0, none⟩)) := hR.blk.cell 0
   have hle := hR.le
   have hle2 : p ≤ 8 * bl.length := hle
   have HA := qh (callsIn_wide (n := m - 1) |>.2 (ralign_any rb true bl p a c W hR.rd (by omega)))
   gi_wp2_with fail
   refine ⟨trivial, (fun h => by cases h), HA.out.mono ?_⟩
   rintro e w2 ⟨rfl, hRd2, hE2⟩
   have hE2' : Ext (RdS rr rb) W w2 := hE2.mono (fun i _ e => Or.inr e)
   have hJ2 := hJR _ _ _ h0 hE2'
   have hR2 : RS w2 rr rb bl (al8 p, er) a c := ⟨hR.blk.ext hE2 hR.ne, hRd2, by show 8 * ((p + 7) / 8) ≤ _; omega, hR.ne, hR.ap⟩
   gi_wp2
   go_end0
   exact ⟨⟨_, rfl⟩, .inl ⟨_, ⟨rfl, _, hR2⟩, hJ2⟩⟩
def RowRet (w : World) (rr : Nat) (n wd : Int) (e : Ending) (w' : World) : Prop :=
 e = .returned (.func (.func 138) #[] #[.pointer (some ⟨w.heap.size + 1, 0, none⟩), .pointer (some ⟨w.heap.size, 0, none⟩), .pointer (some ⟨w.heap.size + 2, 0, none⟩)]) ∧ Pure w w' ∧ w'.heap.size = w.heap.size + 3 ∧
   w'.cell? ⟨w.heap.size + 1, 0, none⟩ = some (.int .i64 n) ∧ w'.cell? ⟨w.heap.size, 0, none⟩ = some (.pointer (some ⟨rr, 0, none⟩)) ∧ w'.cell? ⟨w.heap.size + 2, 0, none⟩ = some (.int .i64 wd)
theorem mkrow_any (rr : Nat) (n wd : Int) (w : World) : Calls Tryz.prog 126 #[.pointer (some ⟨rr, 0, none⟩), .int .i64 n, .int .i64 wd] w (RowRet w rr n wd) := by
 go_enter Tryz.func126, Tryz.ntmps126
 go_wp2_with fail
 go_ret
 have h0 := (((BlockIs.new w [.pointer (some ⟨rr, 0, none⟩)] 138).alloc (.cells #[.int .i64 n] 3)).alloc (.cells #[.int .i64 wd] 3)).cell 0
 have h1 : BlockIs ((w.alloc (.cells #[.pointer (some ⟨rr, 0, none⟩)] 138)).alloc (.cells #[.int .i64 n] 3)) (w.heap.size + 1) [.int .i64 n] 3 := by
  have := BlockIs.new (w.alloc (.cells #[.pointer (some ⟨rr, 0, none⟩)] 138)) [.int .i64 n] 3
  rwa [World.size_alloc] at this
 have h2 : BlockIs (((w.alloc (.cells #[.pointer (some ⟨rr, 0, none⟩)] 138)).alloc (.cells #[.int .i64 n] 3)).alloc (.cells #[.int .i64 wd] 3)) (w.heap.size + 2) [.int .i64 wd] 3 := by
  have := BlockIs.new ((w.alloc (.cells #[.pointer (some ⟨rr, 0, none⟩)] 138)).alloc (.cells #[.int .i64 n] 3)) [.int .i64 wd] 3
  rwa [World.size_alloc, World.size_alloc] at this
 exact ⟨rfl, ((ext_alloc w _).pure (ext_alloc _ _)).pure (ext_alloc _ _), by simp, (h1.alloc _).cell 0, h0, h2.cell 0⟩
theorem zip_two {α β : Type} (p q : α) (x y : β) : (#[p, q]).zip #[x, y] = #[(p, x), (q, y)] := by apply Array.toList_inj.1; simp
theorem _root_.Go.Proofs.YtomcdhljjmnahaaGreat.BlockIs.cells {W W' : World} {b : Nat} {cs : List Value} {T : TypeId} {B : Nat} (h : BlockIs W b cs T) (hE : Ext (fun i => B ≤ i ∧ ∃ o, W.heap[i]? = some o ∧ o.isCells = false) W W') : BlockIs W' b cs T :=
 h.ext hE (fun ⟨_, o, ho, hc⟩ => by
  have h' : W.heap[b]? = some (.cells cs.toArray T (0, 0)) := h
  rw [h'] at ho; cases ho; cases hc)
def Over (bs : List Bool) (s : St) (n w : Nat) (s' : St) : Prop := (s.2 ≠ 0 → s'.2 = s.2) ∧ (s.2 = 0 → if s.1 + n * w ≤ bs.length then s' = (al8 (s.1 + n * w), 0) else s'.2 = 10)
def SkipRes (rr rb : Nat) (bl : List UInt8) (s : St) (n wd : Nat) (a : Option Addr) (c : Nat) (W : World) (e : Ending) (W' : World) : Prop := e = .returned (.tuple #[]) ∧ ∃ s', Over (bitsOf true bl) s n wd s' ∧ RS W' rr rb bl s' a c ∧ Ext (RdS rr rb) W W'
theorem fit_all {L p w n K : Nat} (h : Fit L p w n K) : K = n ↔ p + n * w ≤ L := by
 constructor
 ·intro e; rw [← e]; exact h.fits
 ·intro e
  rcases Nat.lt_or_ge K n with h1 | h1
  ·have h2 := h.cut h1
   have h3 : (K + 1) * w ≤ n * w := Nat.mul_le_mul_right w h1
   omega
  ·have := h.le; omega
theorem Iter.mono {α : Type} {n : Nat} {P : Program} {g : Nat} {lb : Array Value} {encs : α → Array Value} {RW BW : Nat → Prop} {Ri : World → Prop} {S S' : List α → World → Prop} {Sp : List α → Prop} {N : Nat} {w0 : World} (h : Iter n P g lb encs RW BW Ri S Sp N w0) (hS : ∀ xs W, S xs W → S' xs W) : Iter n P g lb encs RW BW Ri S' Sp N w0 :=
 fun l J Jx W hP hJ hY h0 => (h l J Jx W hP hJ hY h0).mono fun e W' ⟨hv, h'⟩ => ⟨hv, h'.imp (fun ⟨xs, a, b⟩ => ⟨xs, hS _ _ a, b⟩) id⟩
def Gone (rr rb : Nat) (bl : List UInt8) (s : St) (n wd : Nat) (hwd : wd ≤ 32) (a : Option Addr) (c : Nat) (xs : List El) (W : World) : Prop :=
 ∃ s', Over (bitsOf true bl) s n wd s' ∧ RS W rr rb bl s' a c ∧ (s'.2 = 0 → xs = els (bitsOf true bl) s.1 wd n hwd) ∧ ∃ k, k ≤ n ∧ xs = els (bitsOf true bl) s.1 wd k hwd
theorem iter_any (m rr rb nb rx wb : Nat) (bl : List UInt8) (s : St) (n wd : Nat) (hwd : wd ≤ 32) (a : Option Addr) (c : Nat) (BW : Nat → Prop) (w0 : World) (hRS : RS w0 rr rb bl s a c) (hl : bl.length ≤ 10000000) (hn : n ≤ 1000000000)
 (c1 : w0.cell? ⟨nb, 0, none⟩ = some (.int .i64 n)) (c2 : w0.cell? ⟨rx, 0, none⟩ = some (.pointer (some ⟨rr, 0, none⟩))) (c3 : w0.cell? ⟨wb, 0, none⟩ = some (.int .i64 wd))
 (d1 : ¬ RdS rr rb nb) (d2 : ¬ RdS rr rb rx) (d3 : ¬ RdS rr rb wb) (b1 : ¬ BW nb) (b2 : ¬ BW rx) (b3 : ¬ BW wb) (b4 : ¬ BW rr) (b5 : ¬ BW rb) (b6 : ∀ g, a = some g → ¬ BW g.block) :
 Iter m Tryz.prog 138 #[.pointer (some ⟨nb, 0, none⟩), .pointer (some ⟨rx, 0, none⟩), .pointer (some ⟨wb, 0, none⟩)] encEl (RdS rr rb) BW (ReadOk rr rb bl a c) (Gone rr rb bl s n wd hwd a c) (Part bl s.1 n wd hwd) n w0 := by
 obtain ⟨p, er⟩ := s
 by_cases her : er = 0
 ·subst her
  refine (iter_ok m rr rb nb rx wb bl p n wd hwd a c BW w0 hRS hl hn c1 c2 c3 d1 d2 d3 b1 b2 b3 b4 b5 b6).mono ?_
  rintro xs W ⟨K, hF, rfl, hR⟩
  refine ⟨_, ⟨fun h => absurd rfl h, fun _ => ?_⟩, hR, fun h => ?_, K, hF.le, rfl⟩
  ·by_cases hk : K = n
   ·rw [if_pos ((fit_all hF).1 hk), if_pos hk]
   ·rw [if_neg (fun e => hk ((fit_all hF).2 e)), if_neg hk]
  ·by_cases hk : K = n
   ·rw [hk]
   ·rw [if_neg hk] at h; cases h
 ·refine (iter_err m rr rb nb rx wb bl p n wd er her hwd a c BW w0 hRS hl hn c1 c2 c3 d2).mono ?_
  rintro xs W ⟨rfl, p', hR⟩
  exact ⟨(p', er), ⟨fun _ => rfl, fun h => absurd h her⟩, hR, fun h => absurd h her, 0, Nat.zero_le _, rfl⟩
set_option maxHeartbeats 2000000 in
theorem skip_any (rr rb : Nat) (bl : List UInt8) (s : St) (n wd : Nat) (hwd : wd ≤ 32) (a : Option Addr) (c : Nat) (w : World) (hRS : RS w rr rb bl s a c) (hl : bl.length ≤ 10000000) (hn : n ≤ 1000000000) (hlt : ∀ g, a = some g → g.block < w.heap.size) :
 Calls Tryz.prog 127 #[.pointer (some ⟨rr, 0, none⟩), .int .i64 n, .int .i64 wd] w (SkipRes rr rb bl s n wd a c w) := by
 have hrr := hRS.blk.lt
 have hrb := hRS.rd.blk.lt
 refine callsIn_wide.1 (callsIn_of_wp_marks (n := 5) Tryz.func127 rfl trivial ?_ rfl)
 simp only [Tryz.ntmps127, List.size_toArray, List.length_cons, List.length_nil, Nat.reduceAdd, Nat.reduceSub, Array.replicate_succ, Array.replicate_zero, List.push_toArray, List.append_toArray, List.nil_append, List.cons_append]
 gi_wp2_with fail
 have hB1 := BlockIs.new w [.int .i64 0] 3
 have hP1 := ext_alloc w (.cells #[.int .i64 0] 3)
 have hz1 : (w.alloc (.cells #[.int .i64 0] 3)).heap.size = w.heap.size + 1 := World.size_alloc _ _
 generalize w.alloc (.cells #[.int .i64 0] 3) = w1 at *
 refine ⟨trivial, (callsIn_wide.2 (mkrow_any rr n wd w1)).mono ?_⟩
 rintro e w2 ⟨rfl, hE2, hs2, k1, k2, k3⟩
 gi_wp2_with fail
 rw [hz1] at k1 k2 k3
 have hsz : w2.heap.size = w.heap.size + 4 := by omega
 have hRS2 := hRS.pure (hP1.pure hE2)
 refine range_iter (n := 5) rfl (enters_of Tryz.func138 (by kernel_rfl) rfl) (fun x => rfl) (RW := RdS rr rb) (BW := fun i => i = w.heap.size) (BX := fun _ => False) (fun i e => by rcases e with e | e <;> omega) (fun i e => by have e' : i = w.heap.size := e; omega) (fun i e => e.elim) (fun A B ⟨p, h⟩ hE => ⟨p, h.ext hE (fun e => by omega) (fun e => by omega) (fun g hg e => by have := hlt g hg; omega)⟩)
  (iter_any 4 rr rb _ _ _ bl s n wd hwd a c _ w2 hRS2 hl hn k1 k2 k3 (fun e => by rcases e with e | e <;> omega) (fun e => by rcases e with e | e <;> omega) (fun e => by rcases e with e | e <;> omega) (fun e => by omega) (fun e => by omega) (fun e => by omega) (fun e => by omega) (fun e => by omega) (fun g hg e => by have := hlt g hg; omega))
  (fun xs A B ⟨s', ho, hR, hx⟩ hE => ⟨s', ho, hR.ext hE (fun e => by omega) (fun e => by omega) (fun g hg e => by have := hlt g hg; omega), hx⟩)
  (fun pre W => BlockIs W w.heap.size [.int .i64 (pre.length : Nat)] 3 ∧ Ext (RdS rr rb) w W) (fun _ _ _ => False)
  (fun pre A B ⟨hB, hE⟩ hE' => ⟨hB.cells hE', hE.trans hE' (fun i hi e => by have := e.1; omega)⟩) (fun _ _ _ _ h _ => h)
  (fun pre A B ⟨hB, hE⟩ hE' => ⟨hB.ext hE' (fun e => by rcases e with e | e <;> omega), hE.trans hE' (fun _ _ e => e)⟩)
  ⟨hB1.ext hE2 id, (hP1.pure hE2).mono (fun _ _ e => e.elim)⟩
  (fun _ x => { tmps := #[.pointer (some ⟨rr, 0, none⟩), .int .i64 n, .int .i64 wd, undef, undef, undef, .pointer (some ⟨w.heap.size, 0, none⟩), .pointer (some ⟨rr, 0, none⟩), .int .i64 n, .int .i64 wd, .func (.func 138) #[] #[.pointer (some ⟨w.heap.size + 1 + 1, 0, none⟩), .pointer (some ⟨w.heap.size + 1, 0, none⟩), .pointer (some ⟨w.heap.size + 1 + 2, 0, none⟩)], .int .i64 (x.1 : Nat), .int .i64 (x.2.val : Nat), undef, undef], defers := [] }) ?assign ?body ?done ?stop
 case assign =>
  intro l x W K hK
  unfold encEl
  gi_wp2
  rw [zip_two]
  simpa using hK
 case body =>
  rintro l pre x W hle ⟨hB, hE⟩ _ hN ⟨r, hr⟩
  have hc : W.cell? ⟨w.heap.size, 0, none⟩ = some (.int .i64 (pre.length : Nat)) := hB.cell 0
  have hf : W.frozen? ⟨w.heap.size, 0, none⟩ = false := hB.free 0
  obtain ⟨k, hk⟩ : ∃ k, k = pre.length := ⟨_, rfl⟩
  rw [← hk] at hc hB hN
  have HK := qh hk
  clear hk
  gi_wp2
  refine ⟨(Ext.refl (fun i => i = w.heap.size) W).setCell (p := ⟨w.heap.size, 0, none⟩) (fun _ => rfl) _, ?_, hE.setCell (p := ⟨w.heap.size, 0, none⟩) (fun h => absurd h (Nat.lt_irrefl _)) _⟩
  have := hB.set 0 (.int .i64 ((k : Int) + 1))
  rw [List.length_append, ← HK.out]
  simpa using this
 case done =>
  rintro D xs W hD ⟨s', ho, hR, _⟩ ⟨hB, hE⟩ hK
  gi_wp2
  refine ⟨by simp, .inl ⟨_, _, rfl, run_takeDeferred hK, ?_⟩⟩
  have hE' := ext_putObj W D (.deferred none)
  refine ⟨_, results_none rfl _ _ _, rfl, s', ho, hR.ext hE' (fun e => by omega) (fun e => by omega) (fun g hg e => by have := hlt g hg; omega), hE.trans hE' (fun i hi e => by have e' : i = D := e; omega)⟩
 case stop =>
  rintro D c xs W _ _ h _
  exact h.elim
end Go.Proofs.YtomcdhljjmnahaaGreat.S27
namespace Go.Proofs.YtomcdhljjmnahaaGreat.S27
open Go.RowKit
def inB (n a b : Int) : Bool := decide (a ≤ n) && decide (n ≤ b)
theorem inB_true {n a b : Int} : inB n a b = true ↔ a ≤ n ∧ n ≤ b := by simp [inB]
theorem inB_false {n a b : Int} : inB n a b = false ↔ n < a ∨ b < n := by
 rw [← Bool.not_eq_true, inB_true]; omega
def iV (x : Int) : Value := .int .i64 x
theorem within_any (n a b : Int) (w : World) : Calls Tryz.prog 103 #[.int .i64 n, .int .i64 a, .int .i64 b] w fun e w' => e = .returned (.bool (inB n a b)) ∧ w' = w := by
 cases h : inB n a b with
 | true =>
   obtain ⟨h1, h2⟩ := inB_true.1 h
   clear h
   go_enter Tryz.func103, Tryz.ntmps103
   go_wp2_with fail
   go_ret
   exact ⟨rfl, rfl⟩
 | false =>
   rcases inB_false.1 h with h1 | h1
   ·clear h
    have h2 : ¬ a ≤ n := by omega
    go_enter Tryz.func103, Tryz.ntmps103
    go_wp2_with fail
    go_ret
    exact ⟨rfl, rfl⟩
   ·clear h
    by_cases h2 : a ≤ n
    all_goals
     have h3 : ¬ n ≤ b := by omega
     go_enter Tryz.func103, Tryz.ntmps103
     go_wp2_with fail
     go_ret
     exact ⟨rfl, rfl⟩
def odd (x : Int) : Bool := !inB x 1 2147483647
theorem odd_any (x : Int) (w : World) : Calls Tryz.prog 102 #[.int .i64 x] w fun e w' => e = .returned (.bool (odd x)) ∧ w' = w := by
 have HO : Hid (odd x = !inB x 1 2147483647) := qh rfl
 have HW := qh (within_any x 1 2147483647 w)
 generalize inB x 1 2147483647 = β at *
 go_enter Tryz.func102, Tryz.ntmps102
 go_wp2_with fail
 refine HW.out.mono ?_
 rintro e w2 ⟨rfl, hw2⟩
 obtain rfl := hw2.symm
 go_wp2_with fail
 go_ret
 exact ⟨by rw [HO.out]; rfl, rfl⟩
def IdxRes (ls : List Int) (w : World) (e : Ending) (w' : World) : Prop := ∃ r : Int, e = .returned (.int .i64 r) ∧ decide (0 ≤ r) = ls.any odd ∧ w' = w
theorem iV_at {w : World} {ad : Option Addr} {ls : List Int} (h : RowOf w ad (ls.map iV)) (i : Nat) (hi : i < ls.length) : ∃ b o, ad = some ⟨b, o, none⟩ ∧ w.cell? ⟨b, o + i, none⟩ = some (.int .i64 ls[i]) :=
 h i _ (by simp [hi, iV])
theorem any_take_succ {α : Type} (p : α → Bool) (ls : List α) (k : Nat) (hk : k < ls.length) : (ls.take (k + 1)).any p = ((ls.take k).any p || p ls[k]) := by
 rw [List.take_add_one, List.getElem?_eq_getElem hk, List.any_append]; simp
theorem any_of_at {α : Type} (p : α → Bool) (ls : List α) (k : Nat) (hk : k < ls.length) (h : p ls[k] = true) : ls.any p = true := List.any_eq_true.2 ⟨_, List.getElem_mem _, h⟩
theorem index_any (ad : Option Addr) (cap : Nat) (ls : List Int) (w : World) (hr : RowOf w ad (ls.map iV)) (hl : ls.length ≤ 1000000000) :
 Calls Tryz.prog 79 #[.slice ad ls.length cap, .func (.func 102) #[] #[]] w (IdxRes ls w) := by
 go_enter Tryz.func79, Tryz.ntmps79
 go_wp2_with fail
 go_loopw [8, 5] (fun i _ w' => ∃ k : Nat, k ≤ ls.length ∧ i = .int .i64 k ∧ (ls.take k).any odd = false ∧ w' = w) (fun i _ _ => ls.length - (intOf i).toNat)
 case atStart => exact ⟨0, Nat.zero_le _, rfl, rfl, rfl⟩
 case round =>
  obtain ⟨k, hk, rfl, hno, hw⟩ := hrel
  obtain rfl := hw.symm
  have HNo := qh hno
  clear hno
  by_cases hlt : k < ls.length
  ·have hki : (k : Int) < (ls.length : Int) := by omega
   have hk0 : (0 : Int) ≤ (k : Int) := by omega
   obtain ⟨b, o, rfl, h0⟩ := iV_at hr k hlt
   have HB := qh (odd_any ls[k] w)
   have HT := qh (any_take_succ odd ls k hlt)
   have HA := qh (any_of_at odd ls k hlt)
   cases hb : odd ls[k] with
   | true =>
     rw [hb] at HB HA
     generalize ls[k] = x at *
     clear hb
     go_wp2_with fail
     refine HB.out.mono ?_
     rintro e w2 ⟨rfl, hw2⟩
     obtain rfl := hw2.symm
     go_wp2_with fail
     go_ret
     exact ⟨k, rfl, by rw [HA.out trivial]; simp, rfl⟩
   | false =>
     rw [hb, HNo.out] at HT
     have HB' := qh (hb ▸ HB.out)
     clear HB
     generalize ls[k] = x at *
     clear hb HA
     go_wp2_with fail
     refine HB'.out.mono ?_
     rintro e w2 ⟨rfl, hw2⟩
     obtain rfl := hw2.symm
     go_wp2_with fail
     go_roundw
     case rel => exact ⟨k + 1, by omega, by go_num, HT.out, by first | rfl | trivial⟩
     case measure => simp [intOf]; omega
  ·have hki : ¬ (k : Int) < (ls.length : Int) := by omega
   rw [List.take_of_length_le (by omega)] at HNo
   go_wp2_with fail
   go_ret
   exact ⟨-1, rfl, by rw [HNo.out]; rfl, rfl⟩
theorem contains_any (ad : Option Addr) (cap : Nat) (ls : List Int) (w : World) (hr : RowOf w ad (ls.map iV)) (hl : ls.length ≤ 1000000000) :
 Calls Tryz.prog 35 #[.slice ad ls.length cap, .func (.func 102) #[] #[]] w fun e w' => e = .returned (.bool (ls.any odd)) ∧ w' = w := by
 have HI := qh (index_any ad cap ls w hr hl)
 go_enter Tryz.func35, Tryz.ntmps35
 go_wp2_with fail
 refine HI.out.mono ?_
 rintro e w2 ⟨r, rfl, hd, hw2⟩
 obtain rfl := hw2.symm
 have HD := qh hd
 clear hd
 go_wp2_with fail
 go_ret
 exact ⟨by rw [← HD.out]; rfl, rfl⟩
def okT (o a f : Int) (ls : List Int) : Bool := inB o 0 4096 && inB a 0 2147483647 && decide (ls.length ≤ 4096) && inB f 0 ls.length && !ls.any odd
theorem okT_true {o a f : Int} {ls : List Int} : okT o a f ls = true ↔ (0 ≤ o ∧ o ≤ 4096) ∧ (0 ≤ a ∧ a ≤ 2147483647) ∧ ls.length ≤ 4096 ∧ (0 ≤ f ∧ f ≤ ls.length) ∧ ls.any odd = false := by
 simp only [okT, Bool.and_eq_true, inB_true, decide_eq_true_eq, Bool.not_eq_true']
 constructor
 ·rintro ⟨⟨⟨⟨h1, h2⟩, h3⟩, h4⟩, h5⟩; exact ⟨h1, h2, h3, h4, h5⟩
 ·rintro ⟨h1, h2, h3, h4, h5⟩; exact ⟨⟨⟨⟨h1, h2⟩, h3⟩, h4⟩, h5⟩
def tblV (o a f : Int) (la : Option Addr) (n c : Nat) : Value := .agg #[.int .i64 o, .int .i64 a, .int .i64 f, .slice la n c]
def ChkRes (b : Bool) (w : World) (e : Ending) (w' : World) : Prop := e = .returned (.int .i64 (if b then 0 else 2)) ∧ Pure w w'
theorem chk_no {b : Bool} {w w' : World} (h : b = false) (hp : Pure w w') : ChkRes b w (.returned (.int .i64 2)) w' := by subst h; exact ⟨rfl, hp⟩
theorem chk_yes {b : Bool} {w w' : World} (h : b = true) (hp : Pure w w') : ChkRes b w (.returned (.int .i64 0)) w' := by subst h; exact ⟨rfl, hp⟩
set_option maxHeartbeats 1000000 in
theorem check_any (o a f : Int) (la : Option Addr) (c : Nat) (ls : List Int) (w : World) (hr : RowOf w la (ls.map iV)) (hl : (ls.length : Int) ≤ 9223372036854775807) :
 Calls Tryz.prog 71 #[tblV o a f la ls.length c] w (ChkRes (okT o a f ls) w) := by
 have HK : Hid (okT o a f ls = (inB o 0 4096 && inB a 0 2147483647 && decide (ls.length ≤ 4096) && inB f 0 ls.length && !ls.any odd)) := qh rfl
 unfold tblV
 obtain ⟨β, hβ⟩ : ∃ β, β = okT o a f ls := ⟨_, rfl⟩
 rw [← hβ] at HK ⊢
 clear hβ
 have W1 := qh (fun w => within_any o 0 4096 w)
 have W2 := qh (fun w => within_any a 0 2147483647 w)
 have W3 := qh (fun w => within_any f 0 (ls.length : Int) w)
 cases h1 : inB o 0 4096 with
 | false =>
   rw [h1] at HK W1
   go_enter Tryz.func71, Tryz.ntmps71
   go_wp2_with fail
   refine (W1.out _).mono ?_
   rintro e w2 ⟨rfl, hw2⟩
   obtain rfl := hw2.symm
   go_wp2_with fail
   go_ret
   exact chk_no (by rw [HK.out]; rfl) (ext_alloc _ _)
 | true =>
   rw [h1] at HK W1
   cases h2 : inB a 0 2147483647 with
   | false =>
     rw [h2] at HK W2
     go_enter Tryz.func71, Tryz.ntmps71
     go_wp2_with fail
     refine (W1.out _).mono ?_
     rintro e w2 ⟨rfl, hw2⟩
     obtain rfl := hw2.symm
     go_wp2_with fail
     refine (W2.out _).mono ?_
     rintro e w2 ⟨rfl, hw2⟩
     obtain rfl := hw2.symm
     go_wp2_with fail
     go_ret
     exact chk_no (by rw [HK.out]; rfl) (ext_alloc _ _)
   | true =>
     rw [h2] at HK W2
     by_cases h3 : (4096 : Int) < (ls.length : Int)
     ·have hd : decide (ls.length ≤ 4096) = false := decide_eq_false (by omega)
      rw [hd] at HK
      clear hd
      go_enter Tryz.func71, Tryz.ntmps71
      go_wp2_with fail
      refine (W1.out _).mono ?_
      rintro e w2 ⟨rfl, hw2⟩
      obtain rfl := hw2.symm
      go_wp2_with fail
      refine (W2.out _).mono ?_
      rintro e w2 ⟨rfl, hw2⟩
      obtain rfl := hw2.symm
      go_wp2_with fail
      go_ret
      exact chk_no (by rw [HK.out]; rfl) (ext_alloc _ _)
     ·have hd : decide (ls.length ≤ 4096) = true := decide_eq_true (by omega)
      rw [hd] at HK
      clear hd
      cases h4 : inB f 0 ls.length with
      | false =>
        rw [h4] at HK W3
        go_enter Tryz.func71, Tryz.ntmps71
        go_wp2_with fail
        refine (W1.out _).mono ?_
        rintro e w2 ⟨rfl, hw2⟩
        obtain rfl := hw2.symm
        go_wp2_with fail
        refine (W2.out _).mono ?_
        rintro e w2 ⟨rfl, hw2⟩
        obtain rfl := hw2.symm
        go_wp2_with fail
        refine (W3.out _).mono ?_
        rintro e w2 ⟨rfl, hw2⟩
        obtain rfl := hw2.symm
        go_wp2_with fail
        go_ret
        exact chk_no (by rw [HK.out]; rfl) (ext_alloc _ _)
      | true =>
        rw [h4] at HK W3
        have W4 := qh (fun w hr => contains_any la c ls w hr (by omega))
        have hr1 := fun o => hr.ext (ext_alloc w o) (fun _ _ => id)
        have HR1 := qh hr1
        clear hr1
        cases h5 : ls.any odd with
        | false =>
          rw [h5] at HK W4
          go_enter Tryz.func71, Tryz.ntmps71
          go_wp2_with fail
          refine (W1.out _).mono ?_
          rintro e w2 ⟨rfl, hw2⟩
          obtain rfl := hw2.symm
          go_wp2_with fail
          refine (W2.out _).mono ?_
          rintro e w2 ⟨rfl, hw2⟩
          obtain rfl := hw2.symm
          go_wp2_with fail
          refine (W3.out _).mono ?_
          rintro e w2 ⟨rfl, hw2⟩
          obtain rfl := hw2.symm
          go_wp2_with fail
          refine (W4.out _ (HR1.out _)).mono ?_
          rintro e w2 ⟨rfl, hw2⟩
          obtain rfl := hw2.symm
          go_wp2_with fail
          go_ret
          exact chk_yes (by rw [HK.out]; rfl) (ext_alloc _ _)
        | true =>
          rw [h5] at HK W4
          go_enter Tryz.func71, Tryz.ntmps71
          go_wp2_with fail
          refine (W1.out _).mono ?_
          rintro e w2 ⟨rfl, hw2⟩
          obtain rfl := hw2.symm
          go_wp2_with fail
          refine (W2.out _).mono ?_
          rintro e w2 ⟨rfl, hw2⟩
          obtain rfl := hw2.symm
          go_wp2_with fail
          refine (W3.out _).mono ?_
          rintro e w2 ⟨rfl, hw2⟩
          obtain rfl := hw2.symm
          go_wp2_with fail
          refine (W4.out _ (HR1.out _)).mono ?_
          rintro e w2 ⟨rfl, hw2⟩
          obtain rfl := hw2.symm
          go_wp2_with fail
          go_ret
          exact chk_no (by rw [HK.out]; rfl) (ext_alloc _ _)
end Go.Proofs.YtomcdhljjmnahaaGreat.S27
namespace Go.Proofs.YtomcdhljjmnahaaGreat.S27
open Go.RowKit Go.Shelf C27
attribute [local go_sem] Oper.semAt_some
def okL (least x : Nat) : Bool := inB ((least : Int) + (x : Int)) 1 2147483647
def addL (least : Nat) (xs : List El) : List Nat := xs.map (fun x => least + x.2.val)
theorem addL_snoc (least : Nat) (xs : List El) (x : El) : addL least (xs ++ [x]) = addL least xs ++ [least + x.2.val] := by simp [addL]
def sumE (xs : List El) : Nat := (xs.map (fun x => x.2.val)).sum
theorem sumE_snoc (xs : List El) (x : El) : sumE (xs ++ [x]) = sumE xs + x.2.val := by simp [sumE]
theorem sumE_le (xs : List El) : sumE xs ≤ xs.length * 4294967296 := by
 induction xs with
 | nil => simp [sumE]
 | cons x xs ih => have := x.2.isLt; simp only [sumE, List.map_cons, List.sum_cons, List.length_cons, Nat.add_mul] at ih ⊢; omega
structure RBox (rr rb least : Nat) (w W : World) : Prop where
 b0 : BlockIs W w.heap.size [.pointer (some ⟨rr, 0, none⟩)] 138
 b1 : BlockIs W (w.heap.size + 1) [.int .i64 least] 3
 ex : Ext (RdS rr rb) w W
theorem RBox.ext {rr rb least : Nat} {S : Nat → Prop} {w W W' : World} (h : RBox rr rb least w W) (hE : Ext S W W') (hS : ∀ i, S i → i = rr ∨ i = rb ∨ w.heap.size + 1 < i) (hr : rr < w.heap.size) (hb : rb < w.heap.size) : RBox rr rb least w W' :=
 ⟨h.b0.ext hE (fun e => by have := hS _ e; omega), h.b1.ext hE (fun e => by have := hS _ e; omega), h.ex.trans hE (fun i hi e => by
  rcases hS i e with e | e | e
  ·exact Or.inl e
  ·exact Or.inr e
  ·omega)⟩
theorem RBox.other {rr rb least : Nat} {w W W' : World} {B : Nat} (h : RBox rr rb least w W) (hE : Ext (fun i => B ≤ i ∧ ∃ o, W.heap[i]? = some o ∧ o.isCells = false) W W') (hB : w.heap.size ≤ B) : RBox rr rb least w W' :=
 ⟨h.b0.cells hE, h.b1.cells hE, h.ex.trans hE (fun i hi e => by have := e.1; omega)⟩
theorem own_other {W W' : World} {B B' e size n : Nat} {v : Value} {xs : List Value} (h : W.ownsRow B e size v n xs) (hE : Ext (fun i => B' ≤ i ∧ ∃ o, W.heap[i]? = some o ∧ o.isCells = false) W W') : W'.ownsRow B e size v n xs := by
 refine own_ext h hE (fun g hg ⟨_, o, ho, hc⟩ => ?_)
 rcases h.2 with ⟨rfl, _⟩ | ⟨g', cap, cur, rfl, hb, hh, _⟩
 ·cases hg
 ·have : g' = g := Option.some.inj hg
  subst this
  rw [hh] at ho; cases ho; cases hc
def P1 (p n wd : Nat) : Nat := al8 (p + n * wd)
def P2 (p n wd : Nat) : Nat := al8 (P1 p n wd + n * 1)
def sgn (bs : List Bool) (p n wd : Nat) : Nat := (vals bs (P1 p n wd) 1 n).sum
def P3 (bs : List Bool) (p n wd : Nat) : Nat := al8 (P2 p n wd + 4 * sgn bs p n wd * 32)
def P4 (bs : List Bool) (p n wd groups : Nat) : Nat := al8 (P3 bs p n wd + n * groups)
def AllFit (bs : List Bool) (p n wd groups : Nat) : Prop := p + n * wd ≤ bs.length ∧ P1 p n wd + n * 1 ≤ bs.length ∧ P2 p n wd + 4 * sgn bs p n wd * 32 ≤ bs.length ∧ P3 bs p n wd + n * groups ≤ bs.length
def RowsTo (bs : List Bool) (p n least wd groups : Nat) (s' : St) (out : List Nat) : Prop :=
 ∃ K, Fit bs.length p wd n K ∧ (((∃ x ∈ vals bs p wd K, okL least x = false) ∧ s'.2 = 27) ∨ ((∀ x ∈ vals bs p wd K, okL least x = true) ∧ ((¬ AllFit bs p n wd groups ∧ s'.2 = 10) ∨ (AllFit bs p n wd groups ∧ s' = (P4 bs p n wd groups, 0) ∧ out = (vals bs p wd n).map (fun x => least + x)))))
def RowsRes (rr rb : Nat) (bl : List UInt8) (p n least wd groups : Nat) (a : Option Addr) (c : Nat) (w : World) (e : Ending) (w' : World) : Prop :=
 ∃ s' out oa oc, e = .returned (.slice oa out.length oc) ∧ RowsTo (bitsOf true bl) p n least wd groups s' out ∧ RS w' rr rb bl s' a c ∧ w'.ownsRow w.heap.size 3 1 (.slice oa out.length oc) out.length (out.map intV) ∧ Ext (RdS rr rb) w w'
theorem els_vals (bs : List Bool) (p w k : Nat) (h : w ≤ 32) : (els bs p w k h).map (fun x => x.2.val) = vals bs p w k := by simp [els, vals, elAt]
theorem mem_vals {bs : List Bool} {p w k x : Nat} (h : w ≤ 32) (hx : x ∈ vals bs p w k) : ∃ e ∈ els bs p w k h, e.2.val = x := by
 rw [← els_vals bs p w k h] at hx
 obtain ⟨e, he, rfl⟩ := List.mem_map.1 hx
 exact ⟨e, he, rfl⟩
theorem mem_els {bs : List Bool} {p w k : Nat} {e : El} {h : w ≤ 32} (he : e ∈ els bs p w k h) : e.2.val ∈ vals bs p w k := by
 rw [← els_vals bs p w k h]; exact List.mem_map.2 ⟨e, he, rfl⟩
theorem sumE_els (bs : List Bool) (p w k : Nat) (h : w ≤ 32) : sumE (els bs p w k h) = (vals bs p w k).sum := by unfold sumE; rw [els_vals]
theorem addL_els (least : Nat) (bs : List Bool) (p w k : Nat) (h : w ≤ 32) : addL least (els bs p w k h) = (vals bs p w k).map (fun x => least + x) := by rw [← els_vals bs p w k h, List.map_map]; rfl
theorem vals_take {bs : List Bool} {p w k K : Nat} (hk : k ≤ K) {x : Nat} (hx : x ∈ vals bs p w k) : x ∈ vals bs p w K := by
 unfold vals at hx ⊢
 obtain ⟨j, hj, rfl⟩ := List.mem_map.1 hx
 exact List.mem_map.2 ⟨j, by simp at hj ⊢; omega, rfl⟩
theorem fit_exists (L p w n : Nat) (hp : p ≤ L) : ∃ K, Fit L p w n K := by
 induction n with
 | zero => exact ⟨0, Nat.le_refl _, by omega, fun h => absurd h (Nat.lt_irrefl _)⟩
 | succ n ih =>
   obtain ⟨K, hF⟩ := ih
   by_cases hk : K = n
   ·by_cases hc : p + (n + 1) * w ≤ L
    ·exact ⟨n + 1, Nat.le_refl _, hc, fun h => absurd h (Nat.lt_irrefl _)⟩
    ·subst hk
     exact ⟨K, by omega, hF.fits, fun _ => by omega⟩
   ·exact ⟨K, by have := hF.le; omega, hF.fits, fun _ => hF.cut (by have := hF.le; omega)⟩
theorem sum_ones (bs : List Bool) (p k : Nat) : (vals bs p 1 k).sum ≤ k := by
 induction k with
 | zero => simp [vals]
 | succ k ih => rw [vals_succ, List.sum_append]; have h := numAt_lt bs (p + k * 1) 1; generalize numAt bs (p + k * 1) 1 = v at *; simp; omega
theorem over_err {bs : List Bool} {s s' : St} {n w : Nat} (h : Over bs s n w s') (he : s.2 ≠ 0) : s'.2 = s.2 := h.1 he
theorem over_yes {bs : List Bool} {q n w : Nat} {s' : St} (h : Over bs (q, 0) n w s') (hf : q + n * w ≤ bs.length) : s' = (al8 (q + n * w), 0) := by have := h.2 rfl; rwa [if_pos hf] at this
theorem over_no {bs : List Bool} {q n w : Nat} {s' : St} (h : Over bs (q, 0) n w s') (hf : ¬ q + n * w ≤ bs.length) : s'.2 = 10 := by have := h.2 rfl; rwa [if_neg hf] at this
theorem rows_to {bs : List Bool} {p n least wd groups K sg : Nat} {s1 s2 s3 s4 : St} (hF : Fit bs.length p wd n K) (hall : ∀ x ∈ vals bs p wd K, okL least x = true) (h1 : s1 = (if K = n then (al8 (p + n * wd), 0) else (p + K * wd, 10)))
 (h2 : Over bs s1 n 1 s2) (hsg : s2.2 = 0 → sg = (vals bs s1.1 1 n).sum) (h3 : Over bs s2 (4 * sg) 32 s3) (h4 : Over bs s3 n groups s4) : RowsTo bs p n least wd groups s4 ((vals bs p wd K).map (fun x => least + x)) := by
 refine ⟨K, hF, Or.inr ⟨hall, ?_⟩⟩
 by_cases hk : K = n
 ·have f1 := (fit_all hF).1 hk
  rw [if_pos hk] at h1
  subst h1
  by_cases f2 : P1 p n wd + n * 1 ≤ bs.length
  ·have e2 := over_yes h2 f2
   subst e2
   have hs : sg = sgn bs p n wd := hsg rfl
   subst hs
   by_cases f3 : P2 p n wd + 4 * sgn bs p n wd * 32 ≤ bs.length
   ·have e3 := over_yes h3 f3
    subst e3
    by_cases f4 : P3 bs p n wd + n * groups ≤ bs.length
    ·exact Or.inr ⟨⟨f1, f2, f3, f4⟩, over_yes h4 f4, by rw [hk]⟩
    ·exact Or.inl ⟨fun h => f4 h.2.2.2, over_no h4 f4⟩
   ·have e3 := over_no h3 f3
    exact Or.inl ⟨fun h => f3 h.2.2.1, by rw [over_err h4 (by rw [e3]; decide), e3]⟩
  ·have e2 := over_no h2 f2
   have e3 := over_err h3 (by rw [e2]; decide)
   exact Or.inl ⟨fun h => f2 h.2.1, by rw [over_err h4 (by rw [e3, e2]; decide), e3, e2]⟩
 ·rw [if_neg hk] at h1
  subst h1
  have e2 : s2.2 = 10 := over_err h2 (show (10 : Int) ≠ 0 by decide)
  have e3 : s3.2 = 10 := (over_err h3 (by rw [e2]; decide)).trans e2
  exact Or.inl ⟨fun h => hk ((fit_all hF).2 h.1), (over_err h4 (by rw [e3]; decide)).trans e3⟩
set_option maxHeartbeats 4000000 in
theorem rows_any (rr rb : Nat) (bl : List UInt8) (p n least wd groups : Nat) (hwd : wd ≤ 32) (hg : groups ≤ 32) (hle : least < 4294967296) (hn : n ≤ 4096) (a : Option Addr) (c : Nat) (w : World) (hRS : RS w rr rb bl (p, 0) a c) (hl : bl.length ≤ 10000000) (hlt : ∀ g, a = some g → g.block < w.heap.size) :
 Calls Tryz.prog 88 #[.pointer (some ⟨rr, 0, none⟩), .int .i64 n, .int .i64 least, .int .i64 wd, .int .i64 groups] w (RowsRes rr rb bl p n least wd groups a c w) := by
 have hrr := hRS.blk.lt
 have hrb := hRS.rd.blk.lt
 obtain ⟨infoI, hi0, hz0, hz1, hz2⟩ := info_parts infoInt
 refine callsIn_wide.1 (callsIn_of_wp_marks (n := 5) Tryz.func88 rfl trivial ?_ rfl)
 simp only [Tryz.ntmps88, List.size_toArray, List.length_cons, List.length_nil, Nat.reduceAdd, Nat.reduceSub, Array.replicate_succ, Array.replicate_zero, List.push_toArray, List.append_toArray, List.nil_append, List.cons_append]
 gi_wp2_with fail
 have hs0 : (w.alloc (.cells #[.pointer (some ⟨rr, 0, none⟩)] 138)).heap.size = w.heap.size + 1 := World.size_alloc _ _
 have hA0 := BlockIs.new w [.pointer (some ⟨rr, 0, none⟩)] 138
 have hP0 := ext_alloc w (.cells #[.pointer (some ⟨rr, 0, none⟩)] 138)
 generalize w.alloc (.cells #[.pointer (some ⟨rr, 0, none⟩)] 138) = wA at *
 have hs1 : (wA.alloc (.cells #[.int .i64 least] 3)).heap.size = wA.heap.size + 1 := World.size_alloc _ _
 have hB1 := BlockIs.new wA [.int .i64 least] 3
 have hP1 := ext_alloc wA (.cells #[.int .i64 least] 3)
 generalize wA.alloc (.cells #[.int .i64 least] 3) = wB at *
 have hs2 : (wB.alloc (.cells #[.slice none 0 0] 23)).heap.size = wB.heap.size + 1 := World.size_alloc _ _
 have hC2 := BlockIs.new wB [.slice none 0 0] 23
 have hP2 := ext_alloc wB (.cells #[.slice none 0 0] 23)
 generalize wB.alloc (.cells #[.slice none 0 0] 23) = wC at *
 have hs3 : (wC.alloc (.cells #[.slice none 0 0] 23)).heap.size = wC.heap.size + 1 := World.size_alloc _ _
 have hD3 := BlockIs.new wC [.slice none 0 0] 23
 have hP3 := ext_alloc wC (.cells #[.slice none 0 0] 23)
 generalize wC.alloc (.cells #[.slice none 0 0] 23) = wD at *
 rw [hs2, hs1, hs0] at hD3
 rw [hs1, hs0] at hC2
 rw [hs0] at hB1
 have hszD : wD.heap.size = w.heap.size + 4 := by omega
 have hPD := ((hP0.pure hP1).pure hP2).pure hP3
 have hBox : RBox rr rb least w wD := ⟨((hA0.ext hP1 id).ext hP2 id).ext hP3 id, (hB1.ext hP2 id).ext hP3 id, hPD.mono (fun _ _ e => e.elim)⟩
 have hRes := hC2.ext hP3 id
 clear hA0 hB1 hC2 hP0 hP1 hP2 hP3 hs0 hs1 hs2 hs3
 refine ⟨trivial, (callsIn_wide.2 (mkrow_any rr n wd wD)).mono ?_⟩
 rintro e w2 ⟨rfl, hE2, hsz2, k1, k2, k3⟩
 gi_wp2_with fail
 have hBox2 := hBox.ext hE2 (fun _ e => e.elim) hrr hrb
 have hRes2 := hRes.ext hE2 id
 have hOut2 := hD3.ext hE2 id
 have hRS2 := hRS.pure (hPD.pure hE2)
 rw [hszD] at k1 k2 k3 hsz2
 clear hBox hRes hD3 hE2
 have hszb : w2.heap.size = w.heap.size + 7 := by omega
 refine range_iter (n := 5) rfl (enters_of Tryz.func138 (by kernel_rfl) rfl) (fun x => rfl) (RW := RdS rr rb) (BW := fun i => i = w.heap.size + 1 + 1 + 1 ∨ w2.heap.size + 1 < i) (BX := fun i => i = rr ∨ i = w.heap.size + 1 + 1) (fun i e => by rcases e with e | e <;> omega) (fun i e => by omega) (fun i e => by omega) (fun A B ⟨q, h⟩ hE => ⟨q, h.ext hE (fun e => by omega) (fun e => by omega) (fun g hg e => by have := hlt g hg; omega)⟩)
  (iter_ok 4 rr rb _ _ _ bl p n wd hwd a c _ w2 hRS2 hl (by omega) k1 k2 k3 (fun e => by rcases e with e | e <;> omega) (fun e => by rcases e with e | e <;> omega) (fun e => by rcases e with e | e <;> omega) (fun e => by omega) (fun e => by omega) (fun e => by omega) (fun e => by omega) (fun e => by omega) (fun g hg e => by have := hlt g hg; omega))
  (fun xs A B ⟨K, hF, hx, hR⟩ hE => ⟨K, hF, hx, hR.ext hE (fun e => by omega) (fun e => by omega) (fun g hg e => by have := hlt g hg; omega)⟩)
  (fun pre W => (∀ x ∈ pre, okL least x.2.val = true) ∧ RBox rr rb least w W ∧ BlockIs W (w.heap.size + 1 + 1) [.slice none 0 0] 23 ∧ ∃ oa oc, BlockIs W (w.heap.size + 1 + 1 + 1) [.slice oa pre.length oc] 23 ∧ W.ownsRow (w2.heap.size + 2) 3 1 (.slice oa pre.length oc) pre.length ((addL least pre).map intV))
  (fun cd xs W => cd = .ret ∧ (∃ x ∈ xs, okL least x.2.val = false) ∧ (∃ q, RS W rr rb bl (q, 27) a c) ∧ RBox rr rb least w W ∧ BlockIs W (w.heap.size + 1 + 1) [.slice none 0 0] 23)
  (fun pre A B ⟨h1, h2, h3, oa, oc, h4, h5⟩ hE' => ⟨h1, h2.other hE' (by omega), h3.cells hE', oa, oc, h4.cells hE', own_other h5 hE'⟩)
  (fun cd xs A B ⟨h1, h1', ⟨q, h2⟩, h3, h4⟩ hE' => ⟨h1, h1', ⟨q, h2.ext hE' (fun e => by have := e.1; omega) (fun e => by have := e.1; omega) (fun g hg e => by have := hlt g hg; have := e.1; omega)⟩, h3.other hE' (by omega), h4.cells hE'⟩)
  (fun pre A B ⟨h1, h2, h3, oa, oc, h4, h5⟩ hE' => ⟨h1, h2.ext hE' (fun i e => by rcases e with e | e <;> omega) hrr hrb, h3.ext hE' (fun e => by rcases e with e | e <;> omega), oa, oc, h4.ext hE' (fun e => by rcases e with e | e <;> omega), own_ext h5 hE' (fun g hg e => by have := (h5.lt g hg).1; rcases e with e | e <;> omega)⟩)
  ⟨(fun x hx => by cases hx), hBox2, hRes2, none, 0, hOut2, World.ownsRow_nil _ _ _ _⟩
  (fun tt x => { tmps := ((tt.setIfInBounds 21 (.int .i64 (x.1 : Nat))).setIfInBounds 22 (.int .i64 (x.2.val : Nat))).setIfInBounds 13 (.int .i64 (x.2.val : Nat)), defers := [] }) ?assign ?body ?done ?stop
 case assign =>
  intro l x W K hK
  unfold encEl
  rw [zip_two]
  gi_wp2
  simpa using hK
 case body =>
  rintro l pre x W hl2 ⟨h1, h2, h3, oa, oc, h4, h5⟩ ⟨q, hR⟩ hN ⟨r, hr⟩
  obtain ⟨xi, xv, hxv⟩ := x
  have hszW : w2.heap.size + 2 ≤ W.heap.size := by have := (Array.getElem?_eq_some_iff.1 hr).1; omega
  have e0 : W.cell? ⟨w.heap.size, 0, none⟩ = some (.pointer (some ⟨rr, 0, none⟩)) := h2.b0.cell 0
  have e1 : W.cell? ⟨w.heap.size + 1, 0, none⟩ = some (.int .i64 least) := h2.b1.cell 0
  have e2 : W.cell? ⟨w.heap.size + 1 + 1, 0, none⟩ = some (.slice none 0 0) := h3.cell 0
  have f2 : W.frozen? ⟨w.heap.size + 1 + 1, 0, none⟩ = false := h3.free 0
  have e3 : W.cell? ⟨w.heap.size + 1 + 1 + 1, 0, none⟩ = some (.slice oa pre.length oc) := h4.cell 0
  have f3 : W.frozen? ⟨w.heap.size + 1 + 1 + 1, 0, none⟩ = false := h4.free 0
  have e4 : W.cell? ⟨rr, 0 + 1, none⟩ = some (.int .i64 0) := hR.blk.cell 1
  have f4 : W.frozen? ⟨rr, 0 + 1, none⟩ = false := hR.blk.free 1
  have hW0 : ∀ β, okL least xv = β → CallsIn Fence.wide 2 Tryz.prog 103 #[.int .i64 ((least : Int) + (xv : Int)), .int .i64 1, .int .i64 2147483647] W fun e w' => e = .returned (.bool β) ∧ w' = W := fun β hβ => by
   subst hβ; exact callsIn_wide.2 (within_any _ _ _ W)
  cases hok : okL least xv with
  | false =>
    have HW := qh (fun l => CallsIn.inRound l (hW0 _ hok))
    have HBad := qh hok
    clear hW0 hok
    gi_wp2_with fail
    refine ⟨trivial, (HW.out _).mono ?_⟩
    rintro e w3 ⟨rfl, hw3⟩
    obtain rfl := hw3.symm
    gi_wp2
    have hE1 : Ext (fun i => i = rr ∨ i = w.heap.size + 1 + 1) W (W.setCell ⟨rr, 1, none⟩ (.int .i64 27)) := (Ext.refl _ W).setCell (p := ⟨rr, 1, none⟩) (fun _ => Or.inl rfl) _
    have hE2 : Ext (fun i => i = w.heap.size + 1 + 1) (W.setCell ⟨rr, 1, none⟩ (.int .i64 27)) ((W.setCell ⟨rr, 1, none⟩ (.int .i64 27)).setCell ⟨w.heap.size + 1 + 1, 0, none⟩ (.slice none 0 0)) := (Ext.refl (fun i => i = w.heap.size + 1 + 1) _).setCell (p := ⟨w.heap.size + 1 + 1, 0, none⟩) (fun _ => rfl) _
    have hR1 := hR.setErr 27
    refine ⟨hE1.trans hE2 (fun i hi e => Or.inr e), rfl, ⟨_, List.mem_append_right _ (List.mem_singleton.2 rfl), HBad.out⟩, ⟨q, hR1.ext hE2 (fun e => by omega) (fun e => by omega) (fun g hg e => by have := hlt g hg; omega)⟩, (h2.ext hE1 (fun i e => by omega) hrr hrb).ext hE2 (fun i e => by omega) hrr hrb, ?_⟩
    have h3' := (h3.ext (((Ext.refl (fun i => i = rr) W).setCell (p := ⟨rr, 1, none⟩) (fun _ => rfl) (.int .i64 27))) (fun e => by omega)).set 0 (.slice none 0 0)
    exact h3'
  | true =>
    have HW := qh (fun l => CallsIn.inRound l (hW0 _ hok))
    have HOk := qh hok
    clear hW0 hok
    have hlen4 : pre.length < 4096 := by omega
    have hal := addL_snoc least pre (xi, ⟨xv, hxv⟩)
    obtain ⟨k, hk⟩ : ∃ k, k = pre.length := ⟨_, rfl⟩
    rw [← hk] at e3 h4 h5 hlen4
    have HK := qh hk
    have HAL := qh hal
    clear hk hal hN
    gi_wp2_with fail
    refine ⟨trivial, (HW.out _).mono ?_⟩
    rintro e w3 ⟨rfl, hw3⟩
    obtain rfl := hw3.symm
    clear HW
    gi_wp2_with (gi_at_builtin; refine wpListIn_append_own _ rfl _ _ 23 rfl (w2.heap.size + 2) 3 infoI (.int .i64 0) 1 8 Tryz.underlying23 hi0 hz0 hz1 hz2 rfl (by decide) _ _ _ rfl (h5.alloc _) ⟨W.heap.size, 0, none⟩ 1 1 [intV (least + xv)] rfl rfl ?c1 ?c2 ?c3 ?c4 ?c5 ?c6)
    case c1 =>
     intro j u hj
     cases j with
     | zero => simp at hj; subst hj; exact cell_at rfl rfl
     | succ j => simp at hj
    case c2 => intro u hu; simp at hu; subst hu; rfl
    case c3 => unfold maxLen; omega
    case c4 => omega
    case c5 => simp; omega
    case c6 =>
     intro v' w4 hown' hgrow _
     obtain ⟨g', cap', rfl⟩ := ownsRow_succ hown'
     have hg1 := ext_of_grown hgrow
     have hEa : Ext (fun i => i = w.heap.size + 1 + 1 + 1 ∨ w2.heap.size + 1 < i) W w4 := (ext_alloc W (.cells #[.int .i64 ((least : Int) + (xv : Int))] 3)).trans' hg1 (fun i _ e => e.elim) (fun i hi e => by have := (h5.lt i e).1; omega)
     have hBx4 := h2.ext hEa (fun i e => by omega) hrr hrb
     have hRs4 := h3.ext hEa (fun e => by omega)
     have hOb4 := (h4.alloc (.cells #[.int .i64 ((least : Int) + (xv : Int))] 3)).ext hg1 (fun e => by have := (h5.lt _ e).1; omega)
     have c3' : w4.cell? ⟨w.heap.size + 1 + 1 + 1, 0, none⟩ = some (.slice oa k oc) := hOb4.cell 0
     have f3' : w4.frozen? ⟨w.heap.size + 1 + 1 + 1, 0, none⟩ = false := hOb4.free 0
     have hown2 : w4.ownsRow (w2.heap.size + 2) 3 1 (.slice (some ⟨g', 0, none⟩) (k + 1) cap') (k + 1) ((addL least (pre ++ [(xi, ⟨xv, hxv⟩)])).map intV) := by
      rw [HAL.out, List.map_append, hsz2]; exact hown'
     have hgB := (hown2.lt g' rfl).1
     clear hown' hgrow
     gi_wp2
     have hEc : Ext (fun i => i = w.heap.size + 1 + 1 + 1) w4 (w4.setCell ⟨w.heap.size + 1 + 1 + 1, 0, none⟩ (.slice (some ⟨g', 0, none⟩) (k + 1) cap')) := (Ext.refl (fun i => i = w.heap.size + 1 + 1 + 1) _).setCell (p := ⟨w.heap.size + 1 + 1 + 1, 0, none⟩) (fun _ => rfl) _
     refine ⟨hEa.trans hEc (fun i _ e => Or.inl e), ?_, hBx4.ext hEc (fun i e => by omega) hrr hrb, hRs4.ext hEc (fun e => by omega), some ⟨g', 0, none⟩, cap', ?_, ?_⟩
     ·intro x hx
      rcases List.mem_append.1 hx with h | h
      ·exact h1 x h
      ·simp at h; subst h; exact HOk.out
     ·have := hOb4.set 0 (.slice (some ⟨g', 0, none⟩) (k + 1) cap')
      rw [List.length_append, ← HK.out]; exact this
     ·rw [List.length_append, ← HK.out]
      exact own_ext hown2 hEc (fun g hg e => by
       have : g' = g := Option.some.inj hg
       omega)
 case done =>
  rintro D xs W hDe ⟨K, hF, rfl, hR⟩ ⟨h1, h2, h3, oa, oc, h4, h5⟩ hK
  have hD : w2.heap.size ≤ D := by omega
  have hDb : D ≤ w2.heap.size := by omega
  clear hDe
  rw [els_len] at h4 h5
  rw [addL_els] at h5
  have hall : ∀ x ∈ vals (bitsOf true bl) p wd K, okL least x = true := fun x hx => by
   obtain ⟨e, he, rfl⟩ := mem_vals hwd hx
   exact h1 e he
  have hDl : D < W.heap.size := (Array.getElem?_eq_some_iff.1 hK).1
  have h2l : w2.heap.size ≤ W.heap.size := by omega
  clear h1 hBox2 hRes2 hOut2 hRS2 k1 k2 k3
  have e0 : (W.alloc (.cells #[.int .i64 0] 3)).cell? ⟨w.heap.size, 0, none⟩ = some (.pointer (some ⟨rr, 0, none⟩)) := (h2.b0.alloc _).cell 0
  obtain ⟨s1, hs1⟩ : ∃ s1 : St, s1 = (if K = n then (al8 (p + n * wd), 0) else (p + K * wd, 10)) := ⟨_, rfl⟩
  rw [← hs1] at hR
  have HS1 := qh hs1
  clear hs1
  gi_wp2_with fail
  have hSB := BlockIs.new W [.int .i64 0] 3
  have hPS := ext_alloc W (.cells #[.int .i64 0] 3)
  have hzS : (W.alloc (.cells #[.int .i64 0] 3)).heap.size = W.heap.size + 1 := World.size_alloc _ _
  obtain ⟨sb, hsb⟩ : ∃ sb, sb = W.heap.size := ⟨_, rfl⟩
  rw [← hsb]
  rw [← hsb] at hSB hzS hDl h2l
  generalize W.alloc (.cells #[.int .i64 0] 3) = wS at *
  have hR' := hR.pure hPS
  have h2' := h2.ext hPS (fun _ e => e.elim) hrr hrb
  have h3' := h3.ext hPS id
  have h4' := h4.ext hPS id
  have h5' := own_ext h5 hPS (fun _ _ => id)
  have hK' : wS.heap[D]? = some (.deferred (some [])) := (hPS.block D (by omega) id).trans hK
  have hgsb : ∀ g, (Value.slice oa K oc).ownBlock = some g → g < sb := fun g hg => by have := (h5.lt g hg).2; omega
  clear hR h2 h3 h4 h5 hK e0 hPS
  refine ⟨trivial, (callsIn_wide.2 (mkrow_any rr n 1 wS)).mono ?_⟩
  rintro e w3 ⟨rfl, hE3, hsz3, k1, k2, k3⟩
  rw [hzS] at k1 k2 k3 hsz3
  have hR3 := hR'.pure hE3
  have h23 := h2'.ext hE3 (fun _ e => e.elim) hrr hrb
  have h33 := h3'.ext hE3 id
  have h43 := h4'.ext hE3 id
  have h53 := own_ext h5' hE3 (fun _ _ => id)
  have hSB3 := hSB.ext hE3 id
  have hK3 : w3.heap[D]? = some (.deferred (some [])) := (hE3.block D (by omega) id).trans hK'
  clear hR' h2' h3' h4' h5' hK' hSB hE3 hsb
  gi_wp2_with fail
  have hlt' : ∀ g, a = some g → g.block < w.heap.size := hlt
  refine range_iter (n := 5) rfl (enters_of Tryz.func138 (by kernel_rfl) rfl) (fun x => rfl) (RW := RdS rr rb) (BW := fun i => i = sb) (BX := fun _ => False) (fun i e => by rcases e with e | e <;> omega) (fun i e => by omega) (fun i e => e.elim) (fun A B ⟨q, h⟩ hE => ⟨q, h.ext hE (fun e => by omega) (fun e => by omega) (fun g hg e => by have := hlt g hg; omega)⟩)
   (iter_any 4 rr rb _ _ _ bl s1 n 1 (by omega) a c _ w3 hR3 hl (by omega) k1 k2 k3 (fun e => by rcases e with e | e <;> omega) (fun e => by rcases e with e | e <;> omega) (fun e => by rcases e with e | e <;> omega) (fun e => by omega) (fun e => by omega) (fun e => by omega) (fun e => by omega) (fun e => by omega) (fun g hg e => by have := hlt g hg; omega))
   (fun xs A B ⟨s', ho, hR, hx, hx2⟩ hE => ⟨s', ho, hR.ext hE (fun e => by omega) (fun e => by omega) (fun g hg e => by have := hlt g hg; omega), hx, hx2⟩)
   (fun pre W => BlockIs W sb [.int .i64 (sumE pre : Nat)] 3 ∧ RBox rr rb least w W ∧ BlockIs W (w.heap.size + 1 + 1) [.slice none 0 0] 23 ∧ BlockIs W (w.heap.size + 1 + 1 + 1) [.slice oa K oc] 23 ∧ W.ownsRow (w2.heap.size + 2) 3 1 (.slice oa K oc) K (((vals (bitsOf true bl) p wd K).map (fun x => least + x)).map intV) ∧ W.heap[D]? = some (.deferred (some [])))
   (fun _ _ _ => False)
   (fun pre A B ⟨g1, g2, g3, g4, g5, g6⟩ hE' => ⟨g1.cells hE', g2.other hE' (by omega), g3.cells hE', g4.cells hE', own_other g5 hE', (hE'.block D (Array.getElem?_eq_some_iff.1 g6).1 (fun e => by have := e.1; omega)).trans g6⟩) (fun _ _ _ _ h _ => h)
   (fun pre A B ⟨g1, g2, g3, g4, g5, g6⟩ hE' => ⟨g1.ext hE' (fun e => by rcases e with e | e <;> omega), g2.ext hE' (fun i e => by rcases e with e | e <;> omega) hrr hrb, g3.ext hE' (fun e => by rcases e with e | e <;> omega), g4.ext hE' (fun e => by rcases e with e | e <;> omega), own_ext g5 hE' (fun g hg e => by have := (g5.lt g hg).1; rcases e with e | e <;> omega), (hE'.block D (Array.getElem?_eq_some_iff.1 g6).1 (fun e => by rcases e with e | e <;> omega)).trans g6⟩)
   ⟨hSB3, h23, h33, h43, h53, hK3⟩
   (fun tt x => { tmps := ((tt.setIfInBounds 40 (.int .i64 (x.1 : Nat))).setIfInBounds 41 (.int .i64 (x.2.val : Nat))).setIfInBounds 16 (.int .i64 (x.2.val : Nat)), defers := [] }) ?assign2 ?body2 ?done2 ?stop2
  case assign2 =>
   intro l x W K' hK'
   unfold encEl
   rw [zip_two]
   gi_wp2
   simpa using hK'
  case body2 =>
   rintro l pre x W hl2 ⟨g1, g2, g3, g4, g5, g6⟩ _ hN ⟨r, hr⟩
   obtain ⟨xi, xv, hxv⟩ := x
   have hsl := sumE_le pre
   have hss := sumE_snoc pre (xi, ⟨xv, hxv⟩)
   obtain ⟨sm, hsm⟩ : ∃ k, k = sumE pre := ⟨_, rfl⟩
   rw [← hsm] at g1 hsl hss
   have c0 : W.cell? ⟨sb, 0, none⟩ = some (.int .i64 sm) := g1.cell 0
   have f0 : W.frozen? ⟨sb, 0, none⟩ = false := g1.free 0
   have hsl2 : sm ≤ 4096 * 4294967296 := Nat.le_trans hsl (Nat.mul_le_mul_right _ (by omega))
   have HS := qh hss
   clear hss hsm hsl
   gi_wp2
   have hEc : Ext (fun i => i = sb) W (W.setCell ⟨sb, 0, none⟩ (.int .i64 ((sm : Int) + (xv : Int)))) := (Ext.refl (fun i => i = sb) W).setCell (p := ⟨sb, 0, none⟩) (fun _ => rfl) _
   refine ⟨hEc, ?_, g2.ext hEc (fun i e => by omega) hrr hrb, g3.ext hEc (fun e => by omega), g4.ext hEc (fun e => by omega), (by rw [← hsz2, ← List.map_map]; exact own_ext g5 hEc (fun g hg e => by have := hgsb g hg; omega)), (hEc.block D (Array.getElem?_eq_some_iff.1 g6).1 (fun e => by omega)).trans g6⟩
   have := g1.set 0 (.int .i64 ((sm : Int) + (xv : Int)))
   rw [HS.out]
   simpa using this
  case stop2 =>
   rintro D2 cd xs W _ _ h _
   exact h.elim
  case done2 =>
   rintro D2 xs W hD2e ⟨s2, ho2, hR, hx2, k2', hk2', rfl⟩ ⟨g1, g2, g3, g4, g5, g6⟩ hK2
   have hD2 : w3.heap.size ≤ D2 := by omega
   have hD2b : D2 ≤ w3.heap.size := by omega
   clear hD2e
   rw [sumE_els] at g1
   have hsum := sum_ones (bitsOf true bl) s1.1 k2'
   obtain ⟨sg, hsg⟩ : ∃ sg, sg = (vals (bitsOf true bl) s1.1 1 k2').sum := ⟨_, rfl⟩
   rw [← hsg] at g1 hsum
   have HSg : Hid (s2.2 = 0 → sg = (vals (bitsOf true bl) s1.1 1 n).sum) := qh (fun h => by
    have := hx2 h
    rw [hsg, ← sumE_els _ _ _ _ (by omega : (1 : Nat) ≤ 32), this, sumE_els])
   have hsg4 : 4 * sg ≤ 16384 := by omega
   have c0 : W.cell? ⟨w.heap.size, 0, none⟩ = some (.pointer (some ⟨rr, 0, none⟩)) := g2.b0.cell 0
   have c1 : W.cell? ⟨sb, 0, none⟩ = some (.int .i64 sg) := g1.cell 0
   have hszW : w3.heap.size ≤ W.heap.size := by have := (Array.getElem?_eq_some_iff.1 hK2).1; omega
   have hD2l := (Array.getElem?_eq_some_iff.1 hK2).1
   have HSk := qh (skip_any rr rb bl s2 (4 * sg) 32 (by omega) a c W hR hl (by omega) (fun g hg => by have := hlt g hg; omega))
   have h4sg : (sg : Int) * 4 = ((4 * sg : Nat) : Int) := by omega
   clear hsg hx2
   gi_wp2_with fail
   refine ⟨trivial, (callsIn_wide.2 HSk.out).mono ?_⟩
   rintro e w4 ⟨rfl, s3, ho3, hR4, hE4⟩
   have g24 := g2.ext hE4 (fun i e => by rcases e with e | e <;> omega) hrr hrb
   have g34 := g3.ext hE4 (fun e => by rcases e with e | e <;> omega)
   have g44 := g4.ext hE4 (fun e => by rcases e with e | e <;> omega)
   have g54 := own_ext g5 hE4 (fun g hg e => by have := (g5.lt g hg).1; rcases e with e | e <;> omega)
   have g64 : w4.heap[D]? = some (.deferred (some [])) := (hE4.block D (by omega) (fun e => by rcases e with e | e <;> omega)).trans g6
   have hK24 : w4.heap[D2]? = some (.deferred (some [])) := (hE4.block D2 hD2l (fun e => by rcases e with e | e <;> omega)).trans hK2
   have hs4 := hE4.size
   clear c0 c1 HSk h4sg g1 g2 g3 g4 g5 g6 hK2 hE4 hR
   have c0 : w4.cell? ⟨w.heap.size, 0, none⟩ = some (.pointer (some ⟨rr, 0, none⟩)) := g24.b0.cell 0
   have HSk := qh (skip_any rr rb bl s3 n groups hg a c w4 hR4 hl (by omega) (fun g hg => by have := hlt g hg; omega))
   gi_wp2_with fail
   refine ⟨trivial, (callsIn_wide.2 HSk.out).mono ?_⟩
   rintro e w5 ⟨rfl, s4, ho4, hR5, hE5⟩
   have g25 := g24.ext hE5 (fun i e => by rcases e with e | e <;> omega) hrr hrb
   have g35 := g34.ext hE5 (fun e => by rcases e with e | e <;> omega)
   have g45 := g44.ext hE5 (fun e => by rcases e with e | e <;> omega)
   have g55 := own_ext g54 hE5 (fun g hg e => by have := (g54.lt g hg).1; rcases e with e | e <;> omega)
   have g65 : w5.heap[D]? = some (.deferred (some [])) := (hE5.block D (by omega) (fun e => by rcases e with e | e <;> omega)).trans g64
   have hK25 : w5.heap[D2]? = some (.deferred (some [])) := (hE5.block D2 (by omega) (fun e => by rcases e with e | e <;> omega)).trans hK24
   have hs5 := hE5.size
   clear c0 HSk g24 g34 g44 g54 g64 hK24 hE5 hR4
   have c3 : w5.cell? ⟨w.heap.size + 1 + 1 + 1, 0, none⟩ = some (.slice oa K oc) := g45.cell 0
   have c2 : w5.cell? ⟨w.heap.size + 1 + 1, 0, none⟩ = some (.slice none 0 0) := g35.cell 0
   have f2 : w5.frozen? ⟨w.heap.size + 1 + 1, 0, none⟩ = false := g35.free 0
   have HTo := qh (rows_to hF hall HS1.out ho2 HSg.out ho3 ho4)
   gi_wp2
   have hE6 : Ext (fun i => i = w.heap.size + 1 + 1) w5 (w5.setCell ⟨w.heap.size + 1 + 1, 0, none⟩ (.slice oa K oc)) := (Ext.refl (fun i => i = w.heap.size + 1 + 1) _).setCell (p := ⟨w.heap.size + 1 + 1, 0, none⟩) (fun _ => rfl) _
   have hB6 := g35.set 0 (.slice oa K oc)
   generalize w5.setCell ⟨w.heap.size + 1 + 1, 0, none⟩ (.slice oa K oc) = w6 at *
   have hK26 : w6.heap[D2]? = some (.deferred (some [])) := (hE6.block D2 (by omega) (fun e => by omega)).trans hK25
   have hE7 := ext_putObj w6 D2 (.deferred none)
   have hs6 := hE6.size
   have hK7 : (w6.putObj D2 (.deferred none)).heap[D]? = some (.deferred (some [])) := (hE7.block D (by omega) (fun e => by omega)).trans ((hE6.block D (by omega) (fun e => by omega)).trans g65)
   have hE8 := ext_putObj (w6.putObj D2 (.deferred none)) D (.deferred none)
   refine ⟨by simp, .inl ⟨_, _, rfl, run_takeDeferred hK26, ?_⟩⟩
   refine ⟨by simp, .inl ⟨_, _, rfl, run_takeDeferred hK7, ?_⟩⟩
   have hEE : Ext (fun i => i = w.heap.size + 1 + 1 ∨ i = D2 ∨ i = D) w5 ((w6.putObj D2 (.deferred none)).putObj D (.deferred none)) := ((hE6.mono (T := fun i => i = w.heap.size + 1 + 1 ∨ i = D2 ∨ i = D) (fun i _ e => Or.inl e)).trans hE7 (fun i _ e => Or.inr (Or.inl e))).trans hE8 (fun i _ e => Or.inr (Or.inr e))
   have hB8 := (hB6.ext hE7 (fun e => by omega)).ext hE8 (fun e => by omega)
   have e2 : ((w6.putObj D2 (.deferred none)).putObj D (.deferred none)).cell? ⟨w.heap.size + 1 + 1, 0, none⟩ = some (.slice oa K oc) := hB8.cell 0
   refine ⟨.slice oa K oc, ?_, s4, (vals (bitsOf true bl) p wd K).map (fun x => least + x), oa, oc, by rw [List.length_map, vals_len], HTo.out, hR5.ext hEE (fun e => by omega) (fun e => by omega) (fun g hg e => by have := hlt g hg; omega), ?_, g25.ex.trans hEE (fun i hi e => by omega)⟩
   ·simp [results, Tryz.results88, go_sem, e2]
   ·rw [List.length_map, vals_len]
    exact own_base (own_ext g55 hEE (fun g hg e => by have h1 := (g55.lt g hg).1; have h2 := hgsb g hg; omega)) (by omega)
 case stop =>
  rintro D cd xs W hD ⟨k, hkn, hfit, rfl⟩ ⟨rfl, ⟨x, hx, hbad⟩, ⟨q, hR⟩, h2, h3⟩ hK
  have hRB := h3.cell 0
  gi_wp2
  refine ⟨by simp, .inl ⟨_, _, rfl, run_takeDeferred hK, ?_⟩⟩
  have hE' := ext_putObj W D (.deferred none)
  have e2 : (W.putObj D (.deferred none)).cell? ⟨w.heap.size + 1 + 1, 0, none⟩ = some (.slice none 0 0) := (h3.ext hE' (fun e => by omega)).cell 0
  obtain ⟨K, hF⟩ := fit_exists (bitsOf true bl).length p wd n (by omega)
  have hKk : k + 1 ≤ K := by
   rcases Nat.lt_or_ge K (k + 1) with h | h
   ·have h1 := hF.cut (by omega)
    have h2 : (K + 1) * wd ≤ (k + 1) * wd := Nat.mul_le_mul_right wd (by omega)
    omega
   ·exact h
  refine ⟨.slice none 0 0, ?_, (q, 27), [], none, 0, rfl, ⟨K, hF, Or.inl ⟨⟨_, vals_take hKk (mem_els hx), hbad⟩, rfl⟩⟩, hR.ext hE' (fun e => by omega) (fun e => by omega) (fun g hg e => by have := hlt g hg; omega), World.ownsRow_nil _ _ _ _, h2.ex.trans hE' (fun i hi e => by have e' : i = D := e; omega)⟩
  simp [results, Tryz.results88, go_sem, e2]
end Go.Proofs.YtomcdhljjmnahaaGreat.S27
namespace Go.Proofs.YtomcdhljjmnahaaGreat.S27
open Go.RowKit C27
def hO (bs : List Bool) : Nat := numAt bs 0 32
def hA (bs : List Bool) : Nat := numAt bs 32 32
def hF (bs : List Bool) : Nat := numAt bs 64 32
def hN (bs : List Bool) : Nat := numAt bs 96 32
def hG (bs : List Bool) : Nat := numAt bs 128 16
def hL (bs : List Bool) : Nat := numAt bs 144 32
def hW (bs : List Bool) : Nat := numAt bs 176 16
def HeadOk (bs : List Bool) : Prop := hO bs ≤ 4096 ∧ hA bs ≤ 2147483647 ∧ hN bs ≤ 4096 ∧ hF bs ≤ hN bs ∧ hG bs ≤ 32 ∧ hW bs ≤ 32
structure DRes where
 e : Int
 o : Nat
 a : Nat
 f : Nat
 ls : List Nat
 m : Nat
def dErr (e : Int) : DRes := ⟨e, 0, 0, 0, [], 0⟩
def DecTo (bs : List Bool) (r : DRes) : Prop :=
 (bs.length < 192 ∧ r = dErr 10) ∨ (192 ≤ bs.length ∧ ((¬ HeadOk bs ∧ r = dErr 27) ∨ (HeadOk bs ∧ ∃ s' out, RowsTo bs 192 (hN bs) (hL bs) (hW bs) (hG bs) s' out ∧ ((s'.2 ≠ 0 ∧ r = dErr s'.2) ∨ (s'.2 = 0 ∧ r = ⟨0, hO bs, hA bs, hF bs, out, s'.1 / 8⟩)))))
theorem rows_unique {bs : List Bool} {p n least wd groups : Nat} {s s' : St} {out out' : List Nat} (h : RowsTo bs p n least wd groups s out) (h' : RowsTo bs p n least wd groups s' out') : s.2 = s'.2 ∧ (s.2 = 0 → s = s' ∧ out = out') := by
 obtain ⟨K, hF, h⟩ := h
 obtain ⟨K', hF', h'⟩ := h'
 have hk := hF.unique hF'
 subst hk
 rcases h with ⟨⟨x, hx, hb⟩, he⟩ | ⟨hall, h⟩
 ·rcases h' with ⟨_, he'⟩ | ⟨hall', _⟩
  ·exact ⟨he.trans he'.symm, fun h => absurd h (by rw [he]; decide)⟩
  ·have := hall' x hx; rw [hb] at this; cases this
 ·rcases h' with ⟨⟨x, hx, hb⟩, _⟩ | ⟨_, h'⟩
  ·have := hall x hx; rw [hb] at this; cases this
  ·rcases h with ⟨hn, he⟩ | ⟨ha, he, ho⟩
   ·rcases h' with ⟨_, he'⟩ | ⟨ha', _⟩
    ·exact ⟨he.trans he'.symm, fun h => absurd h (by rw [he]; decide)⟩
    ·exact absurd ha' hn
   ·rcases h' with ⟨hn', _⟩ | ⟨_, he', ho'⟩
    ·exact absurd ha hn'
    ·exact ⟨by rw [he, he'], fun _ => ⟨he.trans he'.symm, ho.trans ho'.symm⟩⟩
theorem dec_unique {bs : List Bool} {r r' : DRes} (h : DecTo bs r) (h' : DecTo bs r') : r = r' := by
 rcases h with ⟨h1, rfl⟩ | ⟨h1, h⟩
 ·rcases h' with ⟨_, rfl⟩ | ⟨h1', _⟩
  ·rfl
  ·omega
 ·rcases h' with ⟨h1', _⟩ | ⟨_, h'⟩
  ·omega
  ·rcases h with ⟨hn, rfl⟩ | ⟨hk, s, out, hr, h⟩
   ·rcases h' with ⟨_, rfl⟩ | ⟨hk', _⟩
    ·rfl
    ·exact absurd hk' hn
   ·rcases h' with ⟨hn', _⟩ | ⟨_, s', out', hr', h'⟩
    ·exact absurd hk hn'
    ·obtain ⟨e1, e2⟩ := rows_unique hr hr'
     rcases h with ⟨h, rfl⟩ | ⟨h, rfl⟩
     ·rcases h' with ⟨_, rfl⟩ | ⟨h', _⟩
      ·rw [e1]
      ·exact absurd (e1.trans h') h
     ·rcases h' with ⟨h', _⟩ | ⟨_, rfl⟩
      ·exact absurd (e1.symm.trans h) h'
      ·obtain ⟨rfl, rfl⟩ := e2 h; rfl
theorem head_short {bs : List Bool} {s1 s2 s3 s4 s5 s6 s7 : St} {v1 v2 v3 v4 v5 v6 v7 : Nat} (hl : bs.length < 192) (h1 : num1 bs (0, 0) 32 = (v1, s1)) (h2 : num1 bs s1 32 = (v2, s2)) (h3 : num1 bs s2 32 = (v3, s3)) (h4 : num1 bs s3 32 = (v4, s4)) (h5 : num1 bs s4 16 = (v5, s5)) (h6 : num1 bs s5 32 = (v6, s6)) (h7 : num1 bs s6 16 = (v7, s7)) : s7.2 = 10 := by
 have stay : ∀ {s s' : St} {v w : Nat}, num1 bs s w = (v, s') → s.2 = 10 → s'.2 = 10 := fun {s s' v w} h e => by
  rw [num1_err (by rw [e]; decide)] at h
  rw [← (Prod.mk.inj h).2]; exact e
 have go : ∀ {p : Nat} {s' : St} {v w : Nat}, num1 bs (p, 0) w = (v, s') → (s' = (p + w, 0) ∧ p + w ≤ bs.length) ∨ s'.2 = 10 := fun {p s' v w} h => by
  by_cases hc : p + w ≤ bs.length
  ·rw [num1_yes hc] at h; exact Or.inl ⟨(Prod.mk.inj h).2.symm, hc⟩
  ·rw [num1_cut (by omega)] at h; exact Or.inr (by rw [← (Prod.mk.inj h).2])
 have step : ∀ {s s' : St} {v w p : Nat}, num1 bs s w = (v, s') → (s = (p, 0) ∨ s.2 = 10) → (s' = (p + w, 0) ∧ p + w ≤ bs.length) ∨ s'.2 = 10 := fun {s s' v w p} h hs => by
  rcases hs with rfl | e
  ·exact go h
  ·exact Or.inr (stay h e)
 have weak : ∀ {s : St} {q : Nat}, (s = (q, 0) ∧ q ≤ bs.length) ∨ s.2 = 10 → s = (q, 0) ∨ s.2 = 10 := fun h => h.imp (fun h => h.1) id
 have a1 := step h1 (Or.inl rfl)
 have a2 := step h2 (weak a1)
 have a3 := step h3 (weak a2)
 have a4 := step h4 (weak a3)
 have a5 := step h5 (weak a4)
 have a6 := step h6 (weak a5)
 rcases step h7 (weak a6) with ⟨_, h⟩ | h
 ·omega
 ·exact h
theorem head_yes {bs : List Bool} {s1 s2 s3 s4 s5 s6 s7 : St} {v1 v2 v3 v4 v5 v6 v7 : Nat} (hl : 192 ≤ bs.length) (h1 : num1 bs (0, 0) 32 = (v1, s1)) (h2 : num1 bs s1 32 = (v2, s2)) (h3 : num1 bs s2 32 = (v3, s3)) (h4 : num1 bs s3 32 = (v4, s4)) (h5 : num1 bs s4 16 = (v5, s5)) (h6 : num1 bs s5 32 = (v6, s6)) (h7 : num1 bs s6 16 = (v7, s7)) :
 v1 = hO bs ∧ v2 = hA bs ∧ v3 = hF bs ∧ v4 = hN bs ∧ v5 = hG bs ∧ v6 = hL bs ∧ v7 = hW bs ∧ s7 = (192, 0) := by
 rw [num1_yes (by omega)] at h1
 obtain ⟨rfl, rfl⟩ := Prod.mk.inj h1
 rw [num1_yes (by omega)] at h2
 obtain ⟨rfl, rfl⟩ := Prod.mk.inj h2
 rw [num1_yes (by omega)] at h3
 obtain ⟨rfl, rfl⟩ := Prod.mk.inj h3
 rw [num1_yes (by omega)] at h4
 obtain ⟨rfl, rfl⟩ := Prod.mk.inj h4
 rw [num1_yes (by omega)] at h5
 obtain ⟨rfl, rfl⟩ := Prod.mk.inj h5
 rw [num1_yes (by omega)] at h6
 obtain ⟨rfl, rfl⟩ := Prod.mk.inj h6
 rw [num1_yes (by omega)] at h7
 obtain ⟨rfl, rfl⟩ := Prod.mk.inj h7
 exact ⟨rfl, rfl, rfl, rfl, rfl, rfl, rfl, rfl⟩
end Go.Proofs.YtomcdhljjmnahaaGreat.S27
namespace Go.Proofs.YtomcdhljjmnahaaGreat.S27
def bN (x n : Nat) : List Bool := bitsNum true x n
theorem bN_len (x n : Nat) : (bN x n).length = n := bitsNum_length _ _ _
def least (ls : List Nat) : Nat := match ls with | [] => 0 | x :: xs => xs.foldl min x
def most (ls : List Nat) : Nat := match ls with | [] => 0 | x :: xs => xs.foldl max x
def width (ls : List Nat) : Nat := wid (most ls - least ls)
theorem foldl_min_le (xs : List Nat) (x : Nat) : xs.foldl min x ≤ x ∧ ∀ y ∈ xs, xs.foldl min x ≤ y := by
 induction xs generalizing x with
 | nil => exact ⟨Nat.le_refl _, fun y hy => by cases hy⟩
 | cons z xs ih =>
   obtain ⟨h1, h2⟩ := ih (min x z)
   refine ⟨Nat.le_trans h1 (Nat.min_le_left _ _), fun y hy => ?_⟩
   rcases List.mem_cons.1 hy with rfl | hy
   ·exact Nat.le_trans h1 (Nat.min_le_right _ _)
   ·exact h2 y hy
theorem foldl_max_le (xs : List Nat) (x : Nat) : x ≤ xs.foldl max x ∧ ∀ y ∈ xs, y ≤ xs.foldl max x := by
 induction xs generalizing x with
 | nil => exact ⟨Nat.le_refl _, fun y hy => by cases hy⟩
 | cons z xs ih =>
   obtain ⟨h1, h2⟩ := ih (max x z)
   refine ⟨Nat.le_trans (Nat.le_max_left _ _) h1, fun y hy => ?_⟩
   rcases List.mem_cons.1 hy with rfl | hy
   ·exact Nat.le_trans (Nat.le_max_right _ _) h1
   ·exact h2 y hy
theorem least_le {ls : List Nat} {y : Nat} (h : y ∈ ls) : least ls ≤ y := by
 cases ls with
 | nil => cases h
 | cons x xs =>
   rcases List.mem_cons.1 h with rfl | h
   ·exact (foldl_min_le xs _).1
   ·exact (foldl_min_le xs x).2 y h
theorem le_most {ls : List Nat} {y : Nat} (h : y ∈ ls) : y ≤ most ls := by
 cases ls with
 | nil => cases h
 | cons x xs =>
   rcases List.mem_cons.1 h with rfl | h
   ·exact (foldl_max_le xs _).1
   ·exact (foldl_max_le xs x).2 y h
theorem foldl_max_lt (xs : List Nat) (x B : Nat) (hx : x < B) (h : ∀ y ∈ xs, y < B) : xs.foldl max x < B := by
 induction xs generalizing x with
 | nil => exact hx
 | cons z xs ih => exact ih _ (Nat.max_lt.2 ⟨hx, h z (by simp)⟩) (fun y hy => h y (by simp [hy]))
theorem most_lt {ls : List Nat} {B : Nat} (hB : 0 < B) (h : ∀ y ∈ ls, y < B) : most ls < B := by
 cases ls with
 | nil => exact hB
 | cons x xs => exact foldl_max_lt xs x B (h x (by simp)) (fun y hy => h y (by simp [hy]))
theorem foldl_min_cast (xs : List Nat) (x : Nat) : (xs.map (fun y : Nat => (y : Int))).foldl min (x : Int) = ((xs.foldl min x : Nat) : Int) := by
 induction xs generalizing x with
 | nil => rfl
 | cons z xs ih => rw [List.map_cons, List.foldl_cons, List.foldl_cons, ← ih]; congr 1; omega
theorem foldl_max_cast (xs : List Nat) (x : Nat) : (xs.map (fun y : Nat => (y : Int))).foldl max (x : Int) = ((xs.foldl max x : Nat) : Int) := by
 induction xs generalizing x with
 | nil => rfl
 | cons z xs ih => rw [List.map_cons, List.foldl_cons, List.foldl_cons, ← ih]; congr 1; omega
theorem above_lt {ls : List Nat} {y : Nat} (h : y ∈ ls) : y - least ls < 2 ^ width ls := by
 have h1 := le_most h
 have h2 := least_le h
 exact Nat.lt_of_le_of_lt (by omega) (lt_wid (most ls - least ls))
theorem width_le {ls : List Nat} (h : ∀ y ∈ ls, y < 4294967296) : width ls ≤ 32 := by
 unfold width
 exact wid_le.2 (Nat.lt_of_le_of_lt (Nat.sub_le _ _) (most_lt (by decide) h))
def headB (o a f n groups l w : Nat) : List Bool := bN o 32 ++ bN a 32 ++ bN f 32 ++ bN n 32 ++ bN groups 16 ++ bN l 32 ++ bN w 16
theorem headB_len (o a f n groups l w : Nat) : (headB o a f n groups l w).length = 192 := by simp [headB, bN_len]
def lensB (ls : List Nat) (l w : Nat) : List Bool := ls.flatMap (fun x => bN (x - l) w)
theorem lensB_len (ls : List Nat) (l w : Nat) : (lensB ls l w).length = ls.length * w := by
 induction ls with
 | nil => simp [lensB]
 | cons x ls ih => rw [show lensB (x :: ls) l w = bN (x - l) w ++ lensB ls l w from rfl, List.length_append, ih, bN_len, List.length_cons, Nat.add_mul]; omega
theorem lensB_snoc (ls : List Nat) (x l w : Nat) : lensB (ls ++ [x]) l w = lensB ls l w ++ bN (x - l) w := by simp [lensB]
def signB (n : Nat) (signed : List Bool) : List Bool := (List.range n).map (fun k => signed.getD k false)
theorem signB_len (n : Nat) (signed : List Bool) : (signB n signed).length = n := by simp [signB]
theorem signB_nil (n : Nat) : signB n [] = List.replicate n false := by
 apply List.ext_getElem (by simp [signB_len])
 intro i h1 h2
 simp [signB]
def manyB (n : Nat) (signed : List Bool) : Nat := (signB n signed).count true
theorem manyB_le (n : Nat) (signed : List Bool) : manyB n signed ≤ n := by
 have := List.count_le_length (a := true) (l := signB n signed)
 rw [signB_len] at this; exact this
theorem manyB_nil (n : Nat) : manyB n [] = 0 := by
 unfold manyB; rw [signB_nil]
 exact List.count_eq_zero.2 (fun h => by simpa using (List.mem_replicate.1 h).2)
def part1 (o a f : Nat) (ls : List Nat) (groups : Nat) : List Bool := align (headB o a f ls.length groups (least ls) (width ls) ++ lensB ls (least ls) (width ls))
def part2 (o a f : Nat) (ls : List Nat) (groups : Nat) (signed : List Bool) : List Bool := align (part1 o a f ls groups ++ signB ls.length signed)
def tabB (o a f : Nat) (ls : List Nat) (groups : Nat) (signed : List Bool) : List Bool :=
 align (part2 o a f ls groups signed ++ List.replicate (128 * manyB ls.length signed) true ++ List.replicate (ls.length * groups) true)
theorem align_id {bs : List Bool} (h : bs.length % 8 = 0) : align bs = bs := by
 unfold align
 rw [show 8 * ((bs.length + 7) / 8) - bs.length = 0 from by omega]; simp
theorem align_mod (bs : List Bool) : (align bs).length % 8 = 0 := by rw [align_length]; omega
theorem tabB_plain (o a f : Nat) (ls : List Nat) : tabB o a f ls 0 [] = part2 o a f ls 0 [] := by
 unfold tabB
 rw [manyB_nil, Nat.mul_zero, Nat.mul_zero, List.replicate_zero, List.append_nil, List.append_nil]
 exact align_id (align_mod _)
end Go.Proofs.YtomcdhljjmnahaaGreat.S27
namespace Go.Proofs.YtomcdhljjmnahaaGreat.S27
open Go.RowKit
theorem fold_take_succ (f : Int → Int → Int) (x : Int) (xs : List Int) (k : Nat) (hk : k < xs.length) : (xs.take (k + 1)).foldl f x = f ((xs.take k).foldl f x) xs[k] := by
 rw [List.take_add_one, List.getElem?_eq_getElem hk, List.foldl_append]; rfl
theorem min_any (ad : Option Addr) (cap : Nat) (x : Int) (xs : List Int) (w : World) (hr : RowOf w ad ((x :: xs).map iV)) (hl : xs.length ≤ 1000000000) :
 Calls Tryz.prog 72 #[.slice ad (x :: xs).length cap] w fun e w' => e = .returned (.int .i64 (xs.foldl min x)) ∧ w' = w := by
 obtain ⟨b, o, rfl, h0⟩ := iV_at hr 0 (by simp)
 obtain ⟨n, hn⟩ : ∃ n, n = (x :: xs).length := ⟨_, rfl⟩
 have hn1 : n = xs.length + 1 := by rw [hn, List.length_cons]
 rw [← hn]
 simp only [List.getElem_cons_zero, Nat.add_zero] at h0
 have HN := qh hn1
 have hn2 : 0 < n := by omega
 have hn3 : n ≤ 1000000001 := by omega
 have hn4 : ¬ (n : Int) < 1 := by omega
 have HN2 := qh hn
 clear hn hn1
 go_enter Tryz.func72, Tryz.ntmps72
 go_wp2_with fail
 go_loop [3, 4] (fun m i => ∃ k : Nat, k + 1 ≤ n ∧ i = .int .i64 ((k + 1 : Nat) : Int) ∧ m = .int .i64 ((xs.take k).foldl min x)) (fun _ i => n - (intOf i).toNat)
 case atStart => exact ⟨0, by omega, rfl, rfl⟩
 case round =>
  obtain ⟨k, hk, rfl, rfl⟩ := hrel
  obtain ⟨k1, hk1⟩ : ∃ k1, k1 = k + 1 := ⟨_, rfl⟩
  rw [← hk1] at hk ⊢
  have HK1 := qh hk1
  obtain ⟨m, hm⟩ : ∃ m, m = (xs.take k).foldl min x := ⟨_, rfl⟩
  rw [← hm]
  by_cases hlt : k1 < n
  ·have hki : (k1 : Int) < (n : Int) := by omega
   have hk0 : (0 : Int) ≤ (k1 : Int) := by omega
   have hkx : k < xs.length := by have := HN.out; omega
   have hs := fold_take_succ min x xs k hkx
   rw [← hm] at hs
   obtain ⟨_, _, hh, h1⟩ := iV_at hr k1 (by rw [← HN2.out]; exact hlt)
   cases hh
   have hg : (x :: xs)[k1]'(by rw [← HN2.out]; exact hlt) = xs[k] := by subst hk1; rfl
   rw [hg] at h1
   generalize xs[k] = y at *
   have HS := qh hs
   clear hs hm hk1
   go_wp2_with fail
   go_round
   case rel => exact ⟨k1, by omega, by go_num, by first | (rw [show k1 = k + 1 from HK1.out, HS.out]; done) | (rw [show k1 = k + 1 from HK1.out, HS.out]; congr 1; split <;> omega)⟩
   case measure => simp [intOf]; omega
  ·have hki : ¬ (k1 : Int) < (n : Int) := by omega
   have ht : xs.take k = xs := List.take_of_length_le (by have := HN.out; omega)
   rw [ht] at hm
   have HM := qh hm
   clear hm ht hk1
   go_wp2_with fail
   go_ret
   exact ⟨by rw [← HM.out]; rfl, rfl⟩
theorem max_any (ad : Option Addr) (cap : Nat) (x : Int) (xs : List Int) (w : World) (hr : RowOf w ad ((x :: xs).map iV)) (hl : xs.length ≤ 1000000000) :
 Calls Tryz.prog 61 #[.slice ad (x :: xs).length cap] w fun e w' => e = .returned (.int .i64 (xs.foldl max x)) ∧ w' = w := by
 obtain ⟨b, o, rfl, h0⟩ := iV_at hr 0 (by simp)
 obtain ⟨n, hn⟩ : ∃ n, n = (x :: xs).length := ⟨_, rfl⟩
 have hn1 : n = xs.length + 1 := by rw [hn, List.length_cons]
 rw [← hn]
 simp only [List.getElem_cons_zero, Nat.add_zero] at h0
 have HN := qh hn1
 have hn2 : 0 < n := by omega
 have hn3 : n ≤ 1000000001 := by omega
 have hn4 : ¬ (n : Int) < 1 := by omega
 have HN2 := qh hn
 clear hn hn1
 go_enter Tryz.func61, Tryz.ntmps61
 go_wp2_with fail
 go_loop [3, 4] (fun m i => ∃ k : Nat, k + 1 ≤ n ∧ i = .int .i64 ((k + 1 : Nat) : Int) ∧ m = .int .i64 ((xs.take k).foldl max x)) (fun _ i => n - (intOf i).toNat)
 case atStart => exact ⟨0, by omega, rfl, rfl⟩
 case round =>
  obtain ⟨k, hk, rfl, rfl⟩ := hrel
  obtain ⟨k1, hk1⟩ : ∃ k1, k1 = k + 1 := ⟨_, rfl⟩
  rw [← hk1] at hk ⊢
  have HK1 := qh hk1
  obtain ⟨m, hm⟩ : ∃ m, m = (xs.take k).foldl max x := ⟨_, rfl⟩
  rw [← hm]
  by_cases hlt : k1 < n
  ·have hki : (k1 : Int) < (n : Int) := by omega
   have hk0 : (0 : Int) ≤ (k1 : Int) := by omega
   have hkx : k < xs.length := by have := HN.out; omega
   have hs := fold_take_succ max x xs k hkx
   rw [← hm] at hs
   obtain ⟨_, _, hh, h1⟩ := iV_at hr k1 (by rw [← HN2.out]; exact hlt)
   cases hh
   have hg : (x :: xs)[k1]'(by rw [← HN2.out]; exact hlt) = xs[k] := by subst hk1; rfl
   rw [hg] at h1
   generalize xs[k] = y at *
   have HS := qh hs
   clear hs hm hk1
   go_wp2_with fail
   go_round
   case rel => exact ⟨k1, by omega, by go_num, by first | (rw [show k1 = k + 1 from HK1.out, HS.out]; done) | (rw [show k1 = k + 1 from HK1.out, HS.out]; congr 1; split <;> omega)⟩
   case measure => simp [intOf]; omega
  ·have hki : ¬ (k1 : Int) < (n : Int) := by omega
   have ht : xs.take k = xs := List.take_of_length_le (by have := HN.out; omega)
   rw [ht] at hm
   have HM := qh hm
   clear hm ht hk1
   go_wp2_with fail
   go_ret
   exact ⟨by rw [← HM.out]; rfl, rfl⟩
