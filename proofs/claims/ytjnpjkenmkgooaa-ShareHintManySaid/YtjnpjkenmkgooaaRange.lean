/-
  A range over a function whose iterator keeps a state of its own in cells: what the statement comes to, by what the iterator says of its rounds.
-/
import Derived.RangeFuncNested
import Derived.RangeFuncBound
import Derived.RangeFuncCalls
import Derived.RangeFuncLeaves
import Derived.Test.YtjnpjkenmkgooaaBase
namespace Go.Proofs.Ytjnpjkenmkgooaa
open Go.RowKit
set_option linter.unusedVariables false

/-- the loop's own two blocks: whether a round may begin, or has said 'no more' by a jump -/
structure Mark (rec : LoopState → Option Code → Loop) (st : LoopState) (pe : Option Code) (l D : Nat) (W : World) : Prop where
  loop : W.heap[l]? = some (.loop (rec st pe))
  calls : W.heap[D]? = some (.deferred (some []))
theorem Mark.ext {rec : LoopState → Option Code → Loop} {st : LoopState} {pe : Option Code} {l D : Nat} {S : Nat → Prop} {W W' : World} (h : Mark rec st pe l D W) (e : Ext S W W') (hl : ¬ S l) (hD : ¬ S D) : Mark rec st pe l D W' :=
  ⟨(e.block l (Array.getElem?_eq_some_iff.1 h.loop).1 hl).trans h.loop, (e.block D (Array.getElem?_eq_some_iff.1 h.calls).1 hD).trans h.calls⟩
theorem ext_putObj (W : World) (l : Nat) (o : Obj) : Ext (fun i => i = l) W (W.putObj l o) :=
  ⟨rfl, rfl, rfl, by simp, fun k _ hn => World.putObj_heap_other hn⟩
theorem Mark.put {rec : LoopState → Option Code → Loop} {st st' : LoopState} {pe pe' : Option Code} {l D : Nat} {W : World} (h : Mark rec st pe l D W) (hne : D ≠ l) : Mark rec st' pe' l D (W.putObj l (.loop (rec st' pe'))) :=
  ⟨World.putObj_heap_same (Array.getElem?_eq_some_iff.1 h.loop).1, (World.putObj_heap_other hne).trans h.calls⟩
/-- how a round is left -/
def roundEnd {α : Type} (BW BX : Nat → Prop) (I : List α → World → Prop) (Ix : Code → List α → World → Prop) (xs : List α) (W : World) : Exit → Act → World → Prop
  | .normal, _, W' => Ext BW W W' ∧ I xs W'
  | .ret, _, W' => Ext BX W W' ∧ Ix .ret xs W'
  | .exit id, _, W' => Ext BX W W' ∧ Ix (.exit id) xs W'
  | .goto t, _, W' => Ext BX W W' ∧ Ix (.goto t) xs W'
  | .panic _, _, _ => False
  | .outgrown, _, _ => False
/-- what the iterator promises: at whatever the caller keeps through its writes, it calls yield on one element behind the other, and returns -/
def Iter {α : Type} (n : Nat) (P : Program) (g : Nat) (lb : Array Value) (encs : α → Array Value) (RW BW : Nat → Prop) (Ri : World → Prop) (S : List α → World → Prop) (Sp : List α → Prop) (N : Nat) (w0 : World) : Prop :=
  ∀ (l : Nat) (J Jx : List α → World → Prop) (W : World), Pure w0 W → (∀ pre A B, J pre A → Ext RW A B → J pre B) →
    (∀ pre x W1, J pre W1 → Ri W1 → pre.length < N → YieldAt Fence.wide (n - 1) P l (encs x) W1 fun e W' => (e = .returned (.bool true) ∧ J (pre ++ [x]) W' ∧ Ext BW W1 W') ∨ (e = .returned (.bool false) ∧ Jx (pre ++ [x]) W')) →
    J [] W → CallsIn Fence.wide n P g (#[.func (.yield l) #[] #[]] ++ lb) W fun e W' => (∃ v, e = .returned v) ∧ ((∃ xs, S xs W' ∧ J xs W') ∨ (∃ xs, Sp xs ∧ Jx xs W'))

theorem range_iter {α : Type} {n : Nat} {P : Program} {g : Operand} {ps : Array Tmp} {assign body : Code} {Q : Exit → Act → World → Prop} {a : Act} {w : World} {gf : Nat} {lb : Array Value}
    (hg : a.eval g = .func (.func gf) #[] lb) (eg : ∀ args w, (callFunc gf args).run P w = .ok (.enter gf args) w) {encs : α → Array Value} (hps : ∀ x, (encs x).size = ps.size)
    {RW BW BX : Nat → Prop} (hRW : ∀ i, RW i → i < w.heap.size) (hBW : ∀ i, BW i → i < w.heap.size ∨ w.heap.size + 1 < i) (hBX : ∀ i, BX i → i < w.heap.size ∨ w.heap.size + 1 < i) {Ri : World → Prop} (hRi : ∀ A B, Ri A → Ext (fun i => w.heap.size ≤ i) A B → Ri B) {S : List α → World → Prop} {Sp : List α → Prop} {N : Nat} (hit : Iter (n - 1) P gf lb encs RW BW Ri S Sp N w)
    (hSx : ∀ xs A B, S xs A → Ext (fun i => w.heap.size ≤ i) A B → S xs B)
    (I : List α → World → Prop) (Ix : Code → List α → World → Prop) (hI : ∀ pre A B, I pre A → Ext (fun i => w.heap.size ≤ i ∧ ∃ o, A.heap[i]? = some o ∧ o.isCells = false) A B → I pre B) (hIx : ∀ c xs A B, Ix c xs A → Ext (fun i => w.heap.size ≤ i ∧ ∃ o, A.heap[i]? = some o ∧ o.isCells = false) A B → Ix c xs B)
    (hIR : ∀ pre A B, I pre A → Ext RW A B → I pre B) (h0 : I [] w) (a₁ : Array Value → α → Act)
    (hassign : ∀ (l : Nat) (x : α) (W : World) (K : Act → World → Prop), K (a₁ a.tmps x) W → assign.wpIn (Fence.wide.inRound l) (n - 1 - 1) P (Exit.then K (fun _ _ _ => False)) { tmps := (ps.zip (encs x)).foldl (fun t (p, v) => t.setIfInBounds p v) a.tmps, defers := [] } W)
    (hbody : ∀ (l : Nat) (pre : List α) (x : α) (W : World), l = w.heap.size + 1 → I pre W → Ri W → pre.length < N → (∃ r, W.heap[l]? = some (.loop r)) → body.wpIn (Fence.wide.inRound l) (n - 1 - 1) P (roundEnd BW BX I Ix (pre ++ [x]) W) (a₁ a.tmps x) W)
    (hdone : ∀ (D : Nat) (xs : List α) (W : World), D = w.heap.size → S xs W → I xs W → W.heap[D]? = some (.deferred (some [])) → Q .normal { a with defers := { target := .collected D, args := #[] } :: a.defers } W)
    (hstop : ∀ (D : Nat) (c : Code) (xs : List α) (W : World), D = w.heap.size → Sp xs → Ix c xs W → W.heap[D]? = some (.deferred (some [])) → c.wpIn Fence.wide n P Q { a with defers := { target := .collected D, args := #[] } :: a.defers } W) :
    (Code.rangeFunc g ps assign body).wpIn Fence.wide n P Q a w := by
  refine wpIn_rangeFunc fun fn hfn => ?_
  let rec' : LoopState → Option Code → Loop := fun st pe => { state := st, pending := pe, fn := fn, tmps := a.tmps, params := ps, assign := assign, body := body, defers := w.heap.size }
  obtain ⟨rc, hrc⟩ : ∃ rc, rc = rec' := ⟨_, rfl⟩
  obtain ⟨D, hD⟩ : ∃ D, D = w.heap.size := ⟨_, rfl⟩
  obtain ⟨W1, hW1⟩ : ∃ W1, W1 = (w.alloc (.deferred (some []))).alloc (.loop (rc .ready none)) := ⟨_, rfl⟩
  have hP1 : Pure w W1 := hW1 ▸ ((Ext.refl _ w).alloc _).alloc _
  have hM1 : Mark rc .ready none (D + 1) D W1 := by
    refine ⟨?_, ?_⟩
    · have := World.alloc_heap_new (w.alloc (.deferred (some []))) (.loop (rc .ready none))
      rw [World.size_alloc, ← hD] at this; rw [hW1]; exact this
    · rw [hW1, hD]; exact (Below.heap_alloc _ _ _ (by simp)).trans (World.alloc_heap_new w _)
  have hnew : ∀ A B, Pure A B → Ext (fun i => w.heap.size ≤ i ∧ ∃ o, A.heap[i]? = some o ∧ o.isCells = false) A B := fun A B h => h.mono (fun _ _ e => e.elim)
  have hput : ∀ st pe o' A, Mark rc st pe (D + 1) D A → Ext (fun i => w.heap.size ≤ i ∧ ∃ o, A.heap[i]? = some o ∧ o.isCells = false) A (A.putObj (D + 1) o') := fun st pe o' A h =>
    (ext_putObj A (D + 1) o').mono (fun i _ e => by
      have e' : i = D + 1 := e
      subst e'
      exact ⟨by omega, _, h.loop, rfl⟩)
  refine ⟨D + 1, [{ target := .collected D, args := #[] }], W1, { target := .fn (.func gf) lb, args := #[.func (.yield (D + 1)) #[] #[]] }, W1, gf, #[.func (.yield (D + 1)) #[] #[]] ++ lb, W1, ?_, ?_, fun _ _ => trivial, ?_, (fun h => by cases h), ?_⟩
  · rw [hW1, hrc, hD]; exact run_enterLoop_outer _ _ _ _ _
  · simp only [resolve, hg]
    simp [go_sem]
  · simp [invoke, go_sem, eg]
  · refine (hit (D + 1) (fun pre W => I pre W ∧ Mark rc .ready none (D + 1) D W) (fun xs W => ∃ c, Ix c xs W ∧ Mark rc .done (some c) (D + 1) D W) W1 hP1
      (fun pre A B hA hE => ⟨hIR pre A B hA.1 hE, hA.2.ext hE (fun e => by have := hRW _ e; omega) (fun e => by have := hRW _ e; omega)⟩)
      (fun pre x W hJ hri hN => ?_) ⟨hI [] w W1 h0 (hnew _ _ hP1), hM1⟩).mono ?_
    · obtain ⟨hi, hm⟩ := hJ
      have hy := run_yield (P := P) (args := encs x) hm.loop (by rw [hrc]; exact hps x)
      have hb := run_beginRound (P := P) hm.loop (by rw [hrc])
      have hrs : ∀ st st' pe pe', ({ rc st pe with state := st', pending := pe' } : Loop) = rc st' pe' := fun _ _ _ _ => by rw [hrc]
      have hrs1 : ∀ st st' pe, ({ rc st pe with state := st' } : Loop) = rc st' pe := fun _ _ _ => by rw [hrc]
      rw [hrs1] at hb
      have hm2 : Mark rc .busy none (D + 1) D (W.putObj (D + 1) (.loop (rc .busy none))) := hm.put (by omega)
      have hi2 := hI pre W _ hi (hput _ _ (.loop (rc .busy none)) W hm)
      have hri2 : Ri (W.putObj (D + 1) (.loop (rc .busy none))) := hRi _ _ hri ((ext_putObj W (D + 1) _).mono (fun i _ e => by have e' : i = D + 1 := e; omega))
      have fin : ∀ (jump : Option Code) (W3 : World) (BB : Nat → Prop) (hBB : ∀ i, BB i → i < w.heap.size ∨ w.heap.size + 1 < i), Ext BB (W.putObj (D + 1) (.loop (rc .busy none))) W3 →
          (Instr.endRound (D + 1) jump).run P W3 = .ok (.bool jump.isNone) (W3.putObj (D + 1) (.loop (rc (if jump.isNone then .ready else .done) jump))) ∧ Mark rc .busy none (D + 1) D W3 ∧
          Mark rc (if jump.isNone then .ready else .done) jump (D + 1) D (W3.putObj (D + 1) (.loop (rc (if jump.isNone then .ready else .done) jump))) := fun jump W3 BB hBB hE => by
        have hm3 := hm2.ext hE (fun e => by have := hBB _ e; omega) (fun e => by have := hBB _ e; omega)
        have h := run_endRound (P := P) jump hm3.loop
        rw [hrs] at h
        exact ⟨h, hm3, hm3.put (by omega)⟩
      have hback : ∀ W3, Ext BW (W.putObj (D + 1) (.loop (rc .busy none))) W3 → Ext BW W (W3.putObj (D + 1) (.loop (rc .ready none))) := fun W3 hE => by
        refine ⟨hE.os, hE.tape, hE.output, by have := hE.size; simp at this ⊢; exact this, fun k hk hn => ?_⟩
        by_cases e : k = D + 1
        · subst e
          rw [World.putObj_heap_same (by have := hE.size; simp at this; omega), hm.loop]
        · rw [World.putObj_heap_other e, hE.block k (by simpa using hk) hn, World.putObj_heap_other e]
      refine ⟨fn, _, assign, body, by rw [hrc] at hy; exact hy, roundIn_of_wpIn hfn (hassign _ x W _ ⟨_, hb, wpIn_mono (hbody _ pre x _ (by omega) hi2 hri2 hN ⟨_, hm2.loop⟩) ?_⟩)⟩
      rintro e a3 W3 hp
      cases e with
      | normal =>
        obtain ⟨hE, hi3⟩ := hp
        obtain ⟨h1, h2, h3⟩ := fin none W3 BW hBW hE
        exact ⟨_, _, h1, .inl ⟨rfl, ⟨hI _ _ _ hi3 (hput _ _ _ W3 h2), h3⟩, hback W3 hE⟩⟩
      | ret =>
        obtain ⟨hE, hi3⟩ := hp
        obtain ⟨h1, h2, h3⟩ := fin (some .ret) W3 BX hBX hE
        exact ⟨_, _, h1, .inr ⟨rfl, .ret, hIx _ _ _ _ hi3 (hput _ _ _ W3 h2), h3⟩⟩
      | exit id =>
        obtain ⟨hE, hi3⟩ := hp
        obtain ⟨h1, h2, h3⟩ := fin (some (.exit id)) W3 BX hBX hE
        exact ⟨_, _, h1, .inr ⟨rfl, .exit id, hIx _ _ _ _ hi3 (hput _ _ _ W3 h2), h3⟩⟩
      | goto t =>
        obtain ⟨hE, hi3⟩ := hp
        obtain ⟨h1, h2, h3⟩ := fin (some (.goto t)) W3 BX hBX hE
        exact ⟨_, _, h1, .inr ⟨rfl, .goto t, hIx _ _ _ _ hi3 (hput _ _ _ W3 h2), h3⟩⟩
      | panic ch => exact hp.elim
      | outgrown => exact hp.elim
    · have hl2 : ∀ st pe A, Mark rc st pe (D + 1) D A → Ext (fun i => w.heap.size ≤ i) A (A.putObj (D + 1) (.loop (rc .exhausted pe))) := fun st pe A _ =>
        (ext_putObj A (D + 1) _).mono (fun i _ e => by have e' : i = D + 1 := e; omega)
      rintro e W2 ⟨⟨v, rfl⟩, (⟨xs, hS, hi, hm⟩ | ⟨xs, hSp, c, hi, hm⟩)⟩
      · have h := run_endLoop (P := P) hm.loop (by rw [hrc]; simp)
        rw [show ({ rc .ready none with state := .exhausted } : Loop) = rc .exhausted none from by rw [hrc], show (rc .ready none).pending = none from by rw [hrc]] at h
        exact ⟨none, _, h, hdone D xs _ (by omega) (hSx xs _ _ hS (hl2 _ _ _ hm)) (hI _ _ _ hi (hput _ _ _ W2 hm)) (hm.put (st' := .exhausted) (pe' := none) (by omega)).calls⟩
      · have h := run_endLoop (P := P) hm.loop (by rw [hrc]; simp)
        rw [show ({ rc .done (some c) with state := .exhausted } : Loop) = rc .exhausted (some c) from by rw [hrc], show (rc .done (some c)).pending = some c from by rw [hrc]] at h
        exact ⟨some c, _, h, hstop D c xs _ (by omega) hSp (hIx c xs _ _ hi (hput _ _ _ W2 hm)) (hm.put (st' := .exhausted) (pe' := some c) (by omega)).calls⟩
end Go.Proofs.Ytjnpjkenmkgooaa
