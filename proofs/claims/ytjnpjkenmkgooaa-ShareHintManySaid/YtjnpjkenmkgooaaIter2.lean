/-
  Walked: the iterator from a reader with an error; the maker of the iterator; a row gone over.
-/
import Derived.Test.YtjnpjkenmkgooaaIter
namespace Go.Proofs.Ytjnpjkenmkgooaa
open Go.RowKit Go.Shelf C27
set_option linter.unusedVariables false
attribute [local go_sem] Oper.semAt_some

def Stuck (rr rb : Nat) (bl : List UInt8) (er : Int) (a : Option Addr) (c : Nat) (xs : List El) (W : World) : Prop := xs = [] ∧ ∃ p, RS W rr rb bl (p, er) a c
set_option maxHeartbeats 2000000 in
set_option maxRecDepth 100000 in
theorem iter_err (m rr rb nb rx wb : Nat) (bl : List UInt8) (p n wd : Nat) (er : Int) (her : er ≠ 0) (hwd : wd ≤ 32) (a : Option Addr) (c : Nat) (BW : Nat → Prop) (w0 : World) (hRS : RS w0 rr rb bl (p, er) a c) (hl : bl.length ≤ 10000000) (hn : n ≤ 1000000000)
    (c1 : w0.cell? ⟨nb, 0, none⟩ = some (.int .i64 n)) (c2 : w0.cell? ⟨rx, 0, none⟩ = some (.pointer (some ⟨rr, 0, none⟩))) (c3 : w0.cell? ⟨wb, 0, none⟩ = some (.int .i64 wd))
    (d2 : ¬ RdS rr rb rx) :
    Iter m Try.prog 56 #[.pointer (some ⟨nb, 0, none⟩), .pointer (some ⟨rx, 0, none⟩), .pointer (some ⟨wb, 0, none⟩)] encEl (RdS rr rb) BW (ReadOk rr rb bl a c) (Stuck rr rb bl er a c) (Part bl p n wd hwd) n w0 := by
  intro l J Jx W hPW hJR hY h0
  have hR := hRS.pure hPW
  have c1 := hPW.cell_some c1 id
  have c2 := hPW.cell_some c2 id
  have c3 := hPW.cell_some c3 id
  clear hRS hPW
  refine callsIn_of_wp (R := IterPost (Stuck rr rb bl er a c) (Part bl p n wd hwd) J Jx) Try.func56 rfl trivial ?_ rfl
  simp only [Try.ntmps56, List.size_toArray, List.length_cons, List.length_nil, Nat.reduceAdd, Nat.reduceSub, Array.replicate_succ, Array.replicate_zero, List.push_toArray, List.append_toArray, List.nil_append, List.cons_append]
  gi_wp2
  gi_loopw [8, 5, 6] (fun i _ _ wr => i = .int .i64 0 ∧ wr = W) (fun i _ _ _ => 0)
  case atStart => exact ⟨rfl, rfl⟩
  case round =>
    obtain ⟨rfl, hw⟩ := hrel
    obtain rfl := hw.symm
    by_cases hlt : 0 < n
    · have hki : (0 : Int) < (n : Int) := by omega
      have hnum := num_any rr rb bl (p, er) a c wd W hR hwd hl
      unfold NumRes at hnum
      rw [num1_err (show ((p, er) : St).2 ≠ 0 from her)] at hnum
      have HN := Lib.hid (callsIn_wide (n := m - 1) |>.2 hnum)
      have hne : (er != 0) = true := by simpa using her
      have hne2 : (er == 0) = false := by simpa using her
      have HE := Lib.hid her
      clear hnum her
      gi_wp2_with fail
      refine ⟨trivial, (fun h => by cases h), HN.out.mono ?_⟩
      rintro e w2 ⟨rfl, hR2, hE2⟩
      have e1 : w2.cell? ⟨rr, 0 + 1, none⟩ = some (.int .i64 er) := hR2.blk.cell 1
      have c2'' := hE2.cell_some c2 d2
      have hJ2 := hJR _ _ _ h0 hE2
      gi_wp2
      refine ⟨fun _ h => (by cases h), ?_⟩
      gi_wp2
      refine bodyPost_ret (results_none rfl _ _ _) rfl ?_
      exact ⟨⟨_, rfl⟩, .inl ⟨_, ⟨rfl, p, hR2⟩, hJ2⟩⟩
    · have hki : ¬ (0 : Int) < (n : Int) := by omega
      have h0' : W.cell? ⟨rr, 0, none⟩ = some (.pointer (some ⟨rb, 0, none⟩)) := hR.blk.cell 0
      have hle := hR.le
      have hle2 : p ≤ 8 * bl.length := hle
      have HA := Lib.hid (callsIn_wide (n := m - 1) |>.2 (ralign_any rb true bl p a c W hR.rd (by omega)))
      gi_wp2_with fail
      refine ⟨trivial, (fun h => by cases h), HA.out.mono ?_⟩
      rintro e w2 ⟨rfl, hRd2, hE2⟩
      have hE2' : Ext (RdS rr rb) W w2 := hE2.mono (fun i _ e => Or.inr e)
      have hJ2 := hJR _ _ _ h0 hE2'
      have hR2 : RS w2 rr rb bl (al8 p, er) a c := ⟨hR.blk.ext hE2 hR.ne, hRd2, by show 8 * ((p + 7) / 8) ≤ _; omega, hR.ne, hR.ap⟩
      gi_wp2
      go_end0
      exact ⟨⟨_, rfl⟩, .inl ⟨_, ⟨rfl, _, hR2⟩, hJ2⟩⟩
/-- the iterator's value, and its boxes -/
def RowRet (w : World) (rr : Nat) (n wd : Int) (e : Ending) (w' : World) : Prop :=
  e = .returned (.func (.func 56) #[] #[.pointer (some ⟨w.heap.size + 1, 0, none⟩), .pointer (some ⟨w.heap.size, 0, none⟩), .pointer (some ⟨w.heap.size + 2, 0, none⟩)]) ∧ Pure w w' ∧ w'.heap.size = w.heap.size + 3 ∧
    w'.cell? ⟨w.heap.size + 1, 0, none⟩ = some (.int .i64 n) ∧ w'.cell? ⟨w.heap.size, 0, none⟩ = some (.pointer (some ⟨rr, 0, none⟩)) ∧ w'.cell? ⟨w.heap.size + 2, 0, none⟩ = some (.int .i64 wd)
theorem mkrow_any (rr : Nat) (n wd : Int) (w : World) : Calls Try.prog 48 #[.pointer (some ⟨rr, 0, none⟩), .int .i64 n, .int .i64 wd] w (RowRet w rr n wd) := by
  go_enter Try.func48, Try.ntmps48
  go_wp2_with fail
  go_ret
  have h0 := (((BlockIs.new w [.pointer (some ⟨rr, 0, none⟩)] 60).alloc (.cells #[.int .i64 n] 3)).alloc (.cells #[.int .i64 wd] 3)).cell 0
  have h1 : BlockIs ((w.alloc (.cells #[.pointer (some ⟨rr, 0, none⟩)] 60)).alloc (.cells #[.int .i64 n] 3)) (w.heap.size + 1) [.int .i64 n] 3 := by
    have := BlockIs.new (w.alloc (.cells #[.pointer (some ⟨rr, 0, none⟩)] 60)) [.int .i64 n] 3
    rwa [World.size_alloc] at this
  have h2 : BlockIs (((w.alloc (.cells #[.pointer (some ⟨rr, 0, none⟩)] 60)).alloc (.cells #[.int .i64 n] 3)).alloc (.cells #[.int .i64 wd] 3)) (w.heap.size + 2) [.int .i64 wd] 3 := by
    have := BlockIs.new ((w.alloc (.cells #[.pointer (some ⟨rr, 0, none⟩)] 60)).alloc (.cells #[.int .i64 n] 3)) [.int .i64 wd] 3
    rwa [World.size_alloc, World.size_alloc] at this
  exact ⟨rfl, ((ext_alloc w _).pure (ext_alloc _ _)).pure (ext_alloc _ _), by simp, (h1.alloc _).cell 0, h0, h2.cell 0⟩
theorem zip_two {α β : Type} (p q : α) (x y : β) : (#[p, q]).zip #[x, y] = #[(p, x), (q, y)] := by apply Array.toList_inj.1; simp
theorem BlockIs.cells {W W' : World} {b : Nat} {cs : List Value} {T : TypeId} {B : Nat} (h : BlockIs W b cs T) (hE : Ext (fun i => B ≤ i ∧ ∃ o, W.heap[i]? = some o ∧ o.isCells = false) W W') : BlockIs W' b cs T :=
  h.ext hE (fun ⟨_, o, ho, hc⟩ => by
    have h' : W.heap[b]? = some (.cells cs.toArray T (0, 0)) := h
    rw [h'] at ho; cases ho; cases hc)
/-- where a reader stands when so many numbers were gone over -/
def Over (bs : List Bool) (s : St) (n w : Nat) (s' : St) : Prop := (s.2 ≠ 0 → s'.2 = s.2) ∧ (s.2 = 0 → if s.1 + n * w ≤ bs.length then s' = (al8 (s.1 + n * w), 0) else s'.2 = 10)
def SkipRes (rr rb : Nat) (bl : List UInt8) (s : St) (n wd : Nat) (a : Option Addr) (c : Nat) (W : World) (e : Ending) (W' : World) : Prop := e = .returned (.tuple #[]) ∧ ∃ s', Over (bitsOf true bl) s n wd s' ∧ RS W' rr rb bl s' a c ∧ Ext (RdS rr rb) W W'
theorem fit_all {L p w n K : Nat} (h : Fit L p w n K) : K = n ↔ p + n * w ≤ L := by
  constructor
  · intro e; rw [← e]; exact h.fits
  · intro e
    rcases Nat.lt_or_ge K n with h1 | h1
    · have h2 := h.cut h1
      have h3 : (K + 1) * w ≤ n * w := Nat.mul_le_mul_right w h1
      omega
    · have := h.le; omega
theorem Iter.mono {α : Type} {n : Nat} {P : Program} {g : Nat} {lb : Array Value} {encs : α → Array Value} {RW BW : Nat → Prop} {Ri : World → Prop} {S S' : List α → World → Prop} {Sp : List α → Prop} {N : Nat} {w0 : World} (h : Iter n P g lb encs RW BW Ri S Sp N w0) (hS : ∀ xs W, S xs W → S' xs W) : Iter n P g lb encs RW BW Ri S' Sp N w0 :=
  fun l J Jx W hP hJ hY h0 => (h l J Jx W hP hJ hY h0).mono fun e W' ⟨hv, h'⟩ => ⟨hv, h'.imp (fun ⟨xs, a, b⟩ => ⟨xs, hS _ _ a, b⟩) id⟩
/-- whatever error the reader has -/
def Gone (rr rb : Nat) (bl : List UInt8) (s : St) (n wd : Nat) (hwd : wd ≤ 32) (a : Option Addr) (c : Nat) (xs : List El) (W : World) : Prop :=
  ∃ s', Over (bitsOf true bl) s n wd s' ∧ RS W rr rb bl s' a c ∧ (s'.2 = 0 → xs = els (bitsOf true bl) s.1 wd n hwd) ∧ ∃ k, k ≤ n ∧ xs = els (bitsOf true bl) s.1 wd k hwd
theorem iter_any (m rr rb nb rx wb : Nat) (bl : List UInt8) (s : St) (n wd : Nat) (hwd : wd ≤ 32) (a : Option Addr) (c : Nat) (BW : Nat → Prop) (w0 : World) (hRS : RS w0 rr rb bl s a c) (hl : bl.length ≤ 10000000) (hn : n ≤ 1000000000)
    (c1 : w0.cell? ⟨nb, 0, none⟩ = some (.int .i64 n)) (c2 : w0.cell? ⟨rx, 0, none⟩ = some (.pointer (some ⟨rr, 0, none⟩))) (c3 : w0.cell? ⟨wb, 0, none⟩ = some (.int .i64 wd))
    (d1 : ¬ RdS rr rb nb) (d2 : ¬ RdS rr rb rx) (d3 : ¬ RdS rr rb wb) (b1 : ¬ BW nb) (b2 : ¬ BW rx) (b3 : ¬ BW wb) (b4 : ¬ BW rr) (b5 : ¬ BW rb) (b6 : ∀ g, a = some g → ¬ BW g.block) :
    Iter m Try.prog 56 #[.pointer (some ⟨nb, 0, none⟩), .pointer (some ⟨rx, 0, none⟩), .pointer (some ⟨wb, 0, none⟩)] encEl (RdS rr rb) BW (ReadOk rr rb bl a c) (Gone rr rb bl s n wd hwd a c) (Part bl s.1 n wd hwd) n w0 := by
  obtain ⟨p, er⟩ := s
  by_cases her : er = 0
  · subst her
    refine (iter_ok m rr rb nb rx wb bl p n wd hwd a c BW w0 hRS hl hn c1 c2 c3 d1 d2 d3 b1 b2 b3 b4 b5 b6).mono ?_
    rintro xs W ⟨K, hF, rfl, hR⟩
    refine ⟨_, ⟨fun h => absurd rfl h, fun _ => ?_⟩, hR, fun h => ?_, K, hF.le, rfl⟩
    · by_cases hk : K = n
      · rw [if_pos ((fit_all hF).1 hk), if_pos hk]
      · rw [if_neg (fun e => hk ((fit_all hF).2 e)), if_neg hk]
    · by_cases hk : K = n
      · rw [hk]
      · rw [if_neg hk] at h; cases h
  · refine (iter_err m rr rb nb rx wb bl p n wd er her hwd a c BW w0 hRS hl hn c1 c2 c3 d2).mono ?_
    rintro xs W ⟨rfl, p', hR⟩
    exact ⟨(p', er), ⟨fun _ => rfl, fun h => absurd h her⟩, hR, fun h => absurd h her, 0, Nat.zero_le _, rfl⟩
set_option maxHeartbeats 2000000 in
set_option maxRecDepth 100000 in
theorem skip_any (rr rb : Nat) (bl : List UInt8) (s : St) (n wd : Nat) (hwd : wd ≤ 32) (a : Option Addr) (c : Nat) (w : World) (hRS : RS w rr rb bl s a c) (hl : bl.length ≤ 10000000) (hn : n ≤ 1000000000) (hlt : ∀ g, a = some g → g.block < w.heap.size) :
    Calls Try.prog 49 #[.pointer (some ⟨rr, 0, none⟩), .int .i64 n, .int .i64 wd] w (SkipRes rr rb bl s n wd a c w) := by
  have hrr := hRS.blk.lt
  have hrb := hRS.rd.blk.lt
  refine callsIn_wide.1 (callsIn_of_wp_marks (n := 5) Try.func49 rfl trivial ?_ rfl)
  simp only [Try.ntmps49, List.size_toArray, List.length_cons, List.length_nil, Nat.reduceAdd, Nat.reduceSub, Array.replicate_succ, Array.replicate_zero, List.push_toArray, List.append_toArray, List.nil_append, List.cons_append]
  gi_wp2_with fail
  have hB1 := BlockIs.new w [.int .i64 0] 3
  have hP1 := ext_alloc w (.cells #[.int .i64 0] 3)
  have hz1 : (w.alloc (.cells #[.int .i64 0] 3)).heap.size = w.heap.size + 1 := World.size_alloc _ _
  generalize w.alloc (.cells #[.int .i64 0] 3) = w1 at *
  refine ⟨trivial, (callsIn_wide.2 (mkrow_any rr n wd w1)).mono ?_⟩
  rintro e w2 ⟨rfl, hE2, hs2, k1, k2, k3⟩
  gi_wp2_with fail
  rw [hz1] at k1 k2 k3
  have hsz : w2.heap.size = w.heap.size + 4 := by omega
  have hRS2 := hRS.pure (hP1.pure hE2)
  refine range_iter (n := 5) rfl (enters_of Try.func56 (by kernel_rfl) rfl) (fun x => rfl) (RW := RdS rr rb) (BW := fun i => i = w.heap.size) (BX := fun _ => False) (fun i e => by rcases e with e | e <;> omega) (fun i e => by have e' : i = w.heap.size := e; omega) (fun i e => e.elim) (fun A B ⟨p, h⟩ hE => ⟨p, h.ext hE (fun e => by omega) (fun e => by omega) (fun g hg e => by have := hlt g hg; omega)⟩)
    (iter_any 4 rr rb _ _ _ bl s n wd hwd a c _ w2 hRS2 hl hn k1 k2 k3 (fun e => by rcases e with e | e <;> omega) (fun e => by rcases e with e | e <;> omega) (fun e => by rcases e with e | e <;> omega) (fun e => by omega) (fun e => by omega) (fun e => by omega) (fun e => by omega) (fun e => by omega) (fun g hg e => by have := hlt g hg; omega))
    (fun xs A B ⟨s', ho, hR, hx⟩ hE => ⟨s', ho, hR.ext hE (fun e => by omega) (fun e => by omega) (fun g hg e => by have := hlt g hg; omega), hx⟩)
    (fun pre W => BlockIs W w.heap.size [.int .i64 (pre.length : Nat)] 3 ∧ Ext (RdS rr rb) w W) (fun _ _ _ => False)
    (fun pre A B ⟨hB, hE⟩ hE' => ⟨hB.cells hE', hE.trans hE' (fun i hi e => by have := e.1; omega)⟩) (fun _ _ _ _ h _ => h)
    (fun pre A B ⟨hB, hE⟩ hE' => ⟨hB.ext hE' (fun e => by rcases e with e | e <;> omega), hE.trans hE' (fun _ _ e => e)⟩)
    ⟨hB1.ext hE2 id, (hP1.pure hE2).mono (fun _ _ e => e.elim)⟩
    (fun _ x => { tmps := #[.pointer (some ⟨rr, 0, none⟩), .int .i64 n, .int .i64 wd, undef, undef, undef, .pointer (some ⟨w.heap.size, 0, none⟩), .pointer (some ⟨rr, 0, none⟩), .int .i64 n, .int .i64 wd, .func (.func 56) #[] #[.pointer (some ⟨w.heap.size + 1 + 1, 0, none⟩), .pointer (some ⟨w.heap.size + 1, 0, none⟩), .pointer (some ⟨w.heap.size + 1 + 2, 0, none⟩)], .int .i64 (x.1 : Nat), .int .i64 (x.2.val : Nat), undef, undef], defers := [] }) ?assign ?body ?done ?stop
  case assign =>
    intro l x W K hK
    unfold encEl
    gi_wp2
    rw [zip_two]
    simpa using hK
  case body =>
    rintro l pre x W hle ⟨hB, hE⟩ _ hN ⟨r, hr⟩
    have hc : W.cell? ⟨w.heap.size, 0, none⟩ = some (.int .i64 (pre.length : Nat)) := hB.cell 0
    have hf : W.frozen? ⟨w.heap.size, 0, none⟩ = false := hB.free 0
    obtain ⟨k, hk⟩ : ∃ k, k = pre.length := ⟨_, rfl⟩
    rw [← hk] at hc hB hN
    have HK := Lib.hid hk
    clear hk
    gi_wp2
    refine ⟨(Ext.refl (fun i => i = w.heap.size) W).setCell (p := ⟨w.heap.size, 0, none⟩) (fun _ => rfl) _, ?_, hE.setCell (p := ⟨w.heap.size, 0, none⟩) (fun h => absurd h (Nat.lt_irrefl _)) _⟩
    have := hB.set 0 (.int .i64 ((k : Int) + 1))
    rw [List.length_append, ← HK.out]
    simpa using this
  case done =>
    rintro D xs W hD ⟨s', ho, hR, _⟩ ⟨hB, hE⟩ hK
    gi_wp2
    refine ⟨by simp, .inl ⟨_, _, rfl, run_takeDeferred hK, ?_⟩⟩
    have hE' := ext_putObj W D (.deferred none)
    refine ⟨_, results_none rfl _ _ _, rfl, s', ho, hR.ext hE' (fun e => by omega) (fun e => by omega) (fun g hg e => by have := hlt g hg; omega), hE.trans hE' (fun i hi e => by have e' : i = D := e; omega)⟩
  case stop =>
    rintro D c xs W _ _ h _
    exact h.elim
end Go.Proofs.Ytjnpjkenmkgooaa
