/-
  Walked: the program's reader: the rows of all pages.
-/
import Derived.Test.YtdhejhgpjeenaaaHead
import Derived.OwnWalk
namespace Go.Proofs.Ytdhejhgpjeenaaa
open Go.RowKit C26
set_option linter.unusedVariables false

def headV (bs : List Bool) : List Value := [intV (h0 bs), intV (h1 bs), intV (h2 bs), intV (h3 bs), intV (h4 bs), intV (h6 bs), intV (h8 bs), intV (h9 bs), intV (h10 bs), intV (h11 bs)]
theorem chain3 {bs : List Bool} {n : Nat} {e1 e2 e3 : Int} (E1 : RowE bs 288 n (h2 bs) (okO (h0 bs)) e1) (E2 : (e1 ≠ 0 ∧ e2 = e1) ∨ (e1 = 0 ∧ RowE bs (q1 bs n) n (h4 bs) (okL (h3 bs)) e2)) (E3 : (e2 ≠ 0 ∧ e3 = e2) ∨ (e2 = 0 ∧ RowE bs (q2 bs n) n (h9 bs) okC e3)) :
    (e3 ≠ 0 → Rest1 bs n (dErr e3)) ∧ (e3 = 0 → e1 = 0 ∧ e2 = 0 ∧ RowE bs (q2 bs n) n (h9 bs) okC 0 ∧ ∀ r, Rest4 bs n r → Rest1 bs n r) := by
  rcases E2 with ⟨a, rfl⟩ | ⟨rfl, E2⟩
  · rcases E3 with ⟨b, rfl⟩ | ⟨h, _⟩
    · exact ⟨fun _ => ⟨_, E1, Or.inl ⟨a, rfl⟩⟩, fun h => absurd h a⟩
    · exact absurd h a
  · rcases E3 with ⟨b, rfl⟩ | ⟨rfl, E3⟩
    · exact ⟨fun _ => ⟨0, E1, Or.inr ⟨rfl, ⟨_, E2, Or.inl ⟨b, rfl⟩⟩⟩⟩, fun h => absurd h b⟩
    · exact ⟨fun h => ⟨0, E1, Or.inr ⟨rfl, 0, E2, Or.inr ⟨rfl, ⟨_, E3, Or.inl ⟨h, rfl⟩⟩⟩⟩⟩, fun h => by subst h; exact ⟨rfl, rfl, E3, fun r hr => ⟨0, E1, Or.inr ⟨rfl, ⟨0, E2, Or.inr ⟨rfl, ⟨0, E3, Or.inr ⟨rfl, hr⟩⟩⟩⟩⟩⟩⟩⟩
theorem chain7 {bs : List Bool} {n : Nat} {e4 e5 e6 e7 : Int} (E4 : RowE bs (q3 bs n) (mny bs n) (h10 bs) okS e4) (E5 : (e4 ≠ 0 ∧ e5 = e4) ∨ (e4 = 0 ∧ RowE bs (q4 bs n) (mny bs n) (h11 bs) okA e5)) (E6 : (e5 ≠ 0 ∧ e6 = e5) ∨ (e5 = 0 ∧ RowE bs (q5 bs n) n (h6 bs) okA e6)) (E7 : (e6 ≠ 0 ∧ e7 = e6) ∨ (e6 = 0 ∧ RowE bs (q6 bs n) n (h8 bs) okA e7)) :
    (e7 ≠ 0 → Rest4 bs n (dErr e7)) ∧ (e7 = 0 → e4 = 0 ∧ Rest4 bs n (good bs n)) := by
  have K7 : (e7 ≠ 0 → e6 = 0 → Rest7 bs n (dErr e7)) ∧ (e7 = 0 → e6 = 0 ∧ Rest7 bs n (good bs n)) := by
    rcases E7 with ⟨a, rfl⟩ | ⟨rfl, E⟩
    · exact ⟨fun _ h => absurd h a, fun h => absurd h a⟩
    · exact ⟨fun h _ => ⟨_, E, Or.inl ⟨h, rfl⟩⟩, fun h => by subst h; exact ⟨rfl, ⟨0, E, Or.inr ⟨rfl, rfl⟩⟩⟩⟩
  have K6 : (e7 ≠ 0 → e5 = 0 → Rest6 bs n (dErr e7)) ∧ (e7 = 0 → e5 = 0 ∧ Rest6 bs n (good bs n)) := by
    rcases E6 with ⟨a, rfl⟩ | ⟨rfl, E⟩
    · exact ⟨fun _ h => absurd h a, fun h => absurd (K7.2 h).1 a⟩
    · by_cases h6 : e6 = 0
      · subst h6
        exact ⟨fun h _ => ⟨0, E, Or.inr ⟨rfl, K7.1 h rfl⟩⟩, fun h => ⟨rfl, ⟨0, E, Or.inr ⟨rfl, (K7.2 h).2⟩⟩⟩⟩
      · have e : e7 = e6 := (E7.resolve_right (fun h => h6 h.1)).2
        subst e
        exact ⟨fun h _ => ⟨_, E, Or.inl ⟨h, rfl⟩⟩, fun h => absurd h h6⟩
  have K5 : (e7 ≠ 0 → e4 = 0 → Rest5 bs n (dErr e7)) ∧ (e7 = 0 → e4 = 0 ∧ Rest5 bs n (good bs n)) := by
    rcases E5 with ⟨a, rfl⟩ | ⟨rfl, E⟩
    · exact ⟨fun _ h => absurd h a, fun h => absurd (K6.2 h).1 a⟩
    · by_cases h5 : e5 = 0
      · subst h5
        exact ⟨fun h _ => ⟨0, E, Or.inr ⟨rfl, K6.1 h rfl⟩⟩, fun h => ⟨rfl, ⟨0, E, Or.inr ⟨rfl, (K6.2 h).2⟩⟩⟩⟩
      · have e6' : e6 = e5 := (E6.resolve_right (fun h => h5 h.1)).2
        have e7' : e7 = e5 := by
          subst e6'
          exact (E7.resolve_right (fun h => h5 h.1)).2
        exact ⟨fun h _ => ⟨_, E, Or.inl ⟨h5, by rw [e7']⟩⟩, fun h => absurd (e7' ▸ h) h5⟩
  by_cases h4 : e4 = 0
  · subst h4
    exact ⟨fun h => ⟨0, E4, Or.inr ⟨rfl, K5.1 h rfl⟩⟩, fun h => ⟨rfl, ⟨0, E4, Or.inr ⟨rfl, (K5.2 h).2⟩⟩⟩⟩
  · refine ⟨fun h => ?_, fun h => absurd (K5.2 h).1 h4⟩
    have e5' : e5 = e4 := (E5.resolve_right (fun h => h4 h.1)).2
    have e6' : e6 = e4 := by rw [← e5']; exact (E6.resolve_right (fun h => h4 (e5' ▸ h.1))).2
    have e7' : e7 = e4 := by rw [← e6']; exact (E7.resolve_right (fun h => h4 (e6' ▸ h.1))).2
    exact ⟨_, E4, Or.inl ⟨h4, by rw [e7']⟩⟩
theorem made_ints (n : Nat) : (madeCells #[Value.int .i64 0] n).toList = (List.replicate n 0).map intV := by
  apply List.ext_getElem?
  intro i
  unfold madeCells
  by_cases h : i < n
  · simp [h, intV, Nat.mod_one]
  · simp [h]
/-- the first k pages have their shared numbers; of old blocks only those of A were written -/
structure CutIn (A : Nat → Prop) (w0 W : World) (ob N : Nat) (os ls : List Int) (xs cs : List Nat) (k : Nat) (ps : List PH) : Prop where
  out : OutIs W ob N ps
  hos : ps.map (fun p => p.o) = os
  hls : ps.map (fun p => p.l) = ls
  hsh : (ps.take k).map (fun p => p.sh) = (cut (cs.take k) xs).map (fun l => l.map (fun x : Nat => (x : Int)))
  sub : ∀ p ∈ ps.take k, RowOf W p.sa (p.sh.map numV) ∧ (p.sh.length ≤ p.sc ∧ p.sc ≤ maxLen ∧ (p.sa = none → p.sc = 0)) ∧ ∀ g, p.sa = some g → ¬ A g.block
  ext : Ext A w0 W
theorem CutIn.step {A : Nat → Prop} {w0 W W' : World} {ob N k c c' j : Nat} {os ls : List Int} {xs cs : List Nat} {ps : List PH} {a : Option Addr} (h : CutIn A w0 W ob N os ls xs cs k ps) (hA : A ob) (hk : k < N) (hc : cs[k]? = some c) (hE : Pure W W') (hj : j = (cs.take k).sum)
    (hrow : RowOf W' a (((xs.drop j).take c).map intV)) (hl : ((xs.drop j).take c).length = c) (hfit : c ≤ c' ∧ c' ≤ maxLen ∧ (a = none → c' = 0)) (hfr : ∀ g, a = some g → ¬ A g.block) :
    (∃ y, W'.cell? ⟨ob, k * 3 + 2, none⟩ = some y) ∧ W'.frozen? ⟨ob, k * 3 + 2, none⟩ = false ∧ ∃ ps', CutIn A w0 (W'.setCell ⟨ob, k * 3 + 2, none⟩ (.slice a c c')) ob N os ls xs cs (k + 1) ps' := by
  subst hj
  have hkp : k < ps.length := by have := h.out.len; omega
  obtain ⟨p', hp'⟩ : ∃ p' : PH, p' = { ps[k] with sa := a, sc := c', sh := ((xs.drop (cs.take k).sum).take c).map (fun x : Nat => (x : Int)) } := ⟨_, rfl⟩
  obtain ⟨hy, hf, hO⟩ := (h.out.ext hE id).set k 2 hkp (by omega) (.slice a c c') p' (by rw [hp']; simp only [cellsP, List.length_map, hl]; rfl)
  have hX : Ext (fun i => i = ob) W' (W'.setCell ⟨ob, k * 3 + 2, none⟩ (.slice a c c')) := (Ext.refl (fun i => i = ob) W').setCell (p := ⟨ob, k * 3 + 2, none⟩) (fun _ => rfl) _
  refine ⟨hy, hf, _, hO, ?_, ?_, ?_, ?_, (h.ext.pure hE).trans hX (fun i _ e => by have e' : i = ob := e; rw [e']; exact hA)⟩
  · rw [map_set_same (fun p : PH => p.o) ps k p' hkp (by rw [hp'])]; exact h.hos
  · rw [map_set_same (fun p : PH => p.l) ps k p' hkp (by rw [hp'])]; exact h.hls
  · rw [take_map_set (fun p : PH => p.sh) ps k p' hkp, h.hsh, cut_take_succ cs xs k c hc, List.map_append, hp']; rfl
  · intro p hp
    rw [List.take_succ_eq_append_getElem (by simpa using hkp), List.mem_append] at hp
    rcases hp with hp | hp
    · rw [List.take_set_of_le (Nat.le_refl _)] at hp
      obtain ⟨r, f, n⟩ := h.sub p hp
      exact ⟨(r.ext hE (fun _ _ => id)).ext hX (fun g hg e => n g hg (by have e' : g.block = ob := e; rw [e']; exact hA)), f, n⟩
    · rw [List.getElem_set_self, List.mem_singleton] at hp
      rw [hp, hp']
      refine ⟨?_, ?_, hfr⟩
      · have := hrow.ext hX (fun g hg e => hfr g hg (by have e' : g.block = ob := e; rw [e']; exact hA))
        simp only [List.map_map]
        exact this
      · simp only [List.length_map, hl]; exact hfit
theorem CutIn.other {A : Nat → Prop} {w0 W W' : World} {ob N k s : Nat} {os ls : List Int} {xs cs : List Nat} {ps : List PH} (h : CutIn A w0 W ob N os ls xs cs k ps) (e : Ext (fun i => i = s) W W') (hs : A s) (hne : ob ≠ s) : CutIn A w0 W' ob N os ls xs cs k ps :=
  ⟨h.out.ext e (fun x => hne x), h.hos, h.hls, h.hsh, fun p hp => by
    obtain ⟨r, f, n⟩ := h.sub p hp
    exact ⟨r.ext e (fun g hg x => n g hg (by have x' : g.block = s := x; rw [x']; exact hs)), f, n⟩, h.ext.trans e (fun i _ x => by have x' : i = s := x; rw [x']; exact hs)⟩
theorem CutIn.hints {A : Nat → Prop} {w0 W : World} {ob N : Nat} {os ls : List Int} {xs cs : List Nat} {ps : List PH} (h : CutIn A w0 W ob N os ls xs cs N ps) : Hints W (some ⟨ob, 0, none⟩) ps := by
  have ht : ps.take N = ps := List.take_of_length_le (by have := h.out.len; omega)
  have hs := h.sub
  rw [ht] at hs
  exact ⟨own_row h.out.own, fun p hp => (hs p hp).1, fun p hp => (hs p hp).2.1⟩
/-- what is left of the shared numbers -/
structure ShIs (W : World) (sb xb m : Nat) (sa : Option Addr) (zs : List Nat) : Prop where
  box : BlockIs W sb [.slice sa m m] 47
  row : RowOf W sa (zs.map intV)
  nil : sa = none → m = 0
  blk : ∀ g, sa = some g → g.block = xb
theorem add_block (x : Addr) (i : Nat) : (x.add i).block = x.block := by unfold Addr.add; split <;> rfl
theorem ShIs.step {S : Nat → Prop} {W W' : World} {sb xb m c' : Nat} {sa : Option Addr} {zs : List Nat} (h : ShIs W sb xb m sa zs) (hl : zs.length = m) (hc : c' ≤ m) (hE : Ext S W W') (h1 : ¬ S sb) (h2 : ¬ S xb) (hne : xb ≠ sb) :
    ShIs (W'.setCell ⟨sb, 0, none⟩ (.slice (if m = c' then sa else sa.map fun x => x.add c') (m - c') (m - c'))) sb xb (m - c') (if m = c' then sa else sa.map fun x => x.add c') (zs.drop c') := by
  have hX : ∀ v, Ext (fun i => i = sb) W' (W'.setCell ⟨sb, 0, none⟩ v) := fun v => (Ext.refl (fun i => i = sb) W').setCell (p := ⟨sb, 0, none⟩) (fun _ => rfl) v
  refine ⟨?_, ?_, ?_, ?_⟩
  · exact (h.box.ext hE h1).set 0 _
  · by_cases e : m = c'
    · have : zs.drop c' = [] := List.drop_eq_nil_of_le (by omega)
      rw [this]; exact row_nil _ _
    · rw [if_neg e, List.map_drop]
      refine ((row_drop h.row c').ext hE (fun g hg e => ?_)).ext (hX _) (fun g hg e => ?_)
      · cases hs : sa with
        | none => rw [hs] at hg; cases hg
        | some x =>
          rw [hs] at hg; cases hg
          have e' : S (x.add c').block := e
          rw [add_block, h.blk x hs] at e'
          exact h2 e'
      · cases hs : sa with
        | none => rw [hs] at hg; cases hg
        | some x =>
          rw [hs] at hg; cases hg
          have e' : (x.add c').block = sb := e
          rw [add_block, h.blk x hs] at e'
          exact hne e'
  · intro hn
    by_cases e : m = c'
    · omega
    · rw [if_neg e] at hn
      have := h.nil (by simpa using hn)
      omega
  · intro g hg
    by_cases e : m = c'
    · rw [if_pos e] at hg; exact h.blk g hg
    · rw [if_neg e] at hg
      cases hs : sa with
      | none => rw [hs] at hg; cases hg
      | some x => rw [hs] at hg; cases hg; exact (add_block x c').trans (h.blk x hs)
def PagesTo (rr rb : Nat) (l : List UInt8) (a : Option Addr) (c n : Nat) (W : World) (e : Ending) (W' : World) : Prop :=
  ∃ (oa : Option Addr) (len oc q : Nat) (er : Int), e = .returned (.slice oa len oc) ∧ RS W' rr rb l (q, er) a c ∧ Ext (RdS rr rb) W W' ∧
    ((er ≠ 0 ∧ Rest1 (bitsOf true l) n (dErr er)) ∨ (er = 0 ∧ Rest1 (bitsOf true l) n (good (bitsOf true l) n) ∧ q = q7 (bitsOf true l) n ∧ len = n ∧ ∃ ps, Hints W' oa ps ∧ ps.length = n ∧ ps.map (fun p => (p.o, p.l, p.sh)) = resV (good (bitsOf true l) n)))
set_option maxHeartbeats 8000000 in
set_option maxRecDepth 100000 in
theorem pages_any (rr rb : Nat) (l : List UInt8) (a : Option Addr) (c N : Nat) (W : World) (hRS : RS W rr rb l (288, 0) a c) (hok : HeadOk (bitsOf true l)) (hN1 : 1 ≤ N) (hN2 : N ≤ 2048) (hl : l.length ≤ 5000000) (halt : ∀ g, a = some g → g.block < W.heap.size) :
    Calls Try.prog 40 #[.pointer (some ⟨rr, 0, none⟩), .agg (headV (bitsOf true l)).toArray, .int .i64 N] W (PagesTo rr rb l a c N W) := by
  obtain ⟨k1, k2, k3, k4, k5, k6, k7, k8⟩ := hok
  obtain ⟨v0, hv0⟩ : ∃ z, z = h0 (bitsOf true l) := ⟨_, rfl⟩
  obtain ⟨v1, hv1⟩ : ∃ z, z = h1 (bitsOf true l) := ⟨_, rfl⟩
  obtain ⟨v2, hv2⟩ : ∃ z, z = h2 (bitsOf true l) := ⟨_, rfl⟩
  obtain ⟨v3, hv3⟩ : ∃ z, z = h3 (bitsOf true l) := ⟨_, rfl⟩
  obtain ⟨v4, hv4⟩ : ∃ z, z = h4 (bitsOf true l) := ⟨_, rfl⟩
  obtain ⟨v6, hv6⟩ : ∃ z, z = h6 (bitsOf true l) := ⟨_, rfl⟩
  obtain ⟨v8, hv8⟩ : ∃ z, z = h8 (bitsOf true l) := ⟨_, rfl⟩
  obtain ⟨v9, hv9⟩ : ∃ z, z = h9 (bitsOf true l) := ⟨_, rfl⟩
  obtain ⟨v10, hv10⟩ : ∃ z, z = h10 (bitsOf true l) := ⟨_, rfl⟩
  obtain ⟨v11, hv11⟩ : ∃ z, z = h11 (bitsOf true l) := ⟨_, rfl⟩
  have hhv : (headV (bitsOf true l)).toArray = #[.int .i64 (v0 : Nat), .int .i64 (v1 : Nat), .int .i64 (v2 : Nat), .int .i64 (v3 : Nat), .int .i64 (v4 : Nat), .int .i64 (v6 : Nat), .int .i64 (v8 : Nat), .int .i64 (v9 : Nat), .int .i64 (v10 : Nat), .int .i64 (v11 : Nat)] := by
    rw [hv0, hv1, hv2, hv3, hv4, hv6, hv8, hv9, hv10, hv11]; rfl
  rw [hhv]
  have lv0 : v0 < 4294967296 := hv0 ▸ numAt_lt32 _ _ 32 (by omega)
  have lv3 : v3 < 4294967296 := hv3 ▸ numAt_lt32 _ _ 32 (by omega)
  rw [← hv1] at k1
  rw [← hv2] at k2
  rw [← hv4] at k3
  rw [← hv6] at k4
  rw [← hv8] at k5
  rw [← hv9] at k6
  rw [← hv10] at k7
  rw [← hv11] at k8
  have HV0 := Lib.hid hv0
  have HV2 := Lib.hid hv2
  have HV3 := Lib.hid hv3
  have HV4 := Lib.hid hv4
  have HV6 := Lib.hid hv6
  have HV8 := Lib.hid hv8
  have HV9 := Lib.hid hv9
  have HV10 := Lib.hid hv10
  have HV11 := Lib.hid hv11
  clear hv0 hv1 hv2 hv3 hv4 hv6 hv8 hv9 hv10 hv11 hhv
  obtain ⟨pb, hpb⟩ : ∃ z, z = W.heap.size := ⟨_, rfl⟩
  have hrr := hRS.blk.lt
  have hrb := hRS.rd.blk.lt
  rw [← hpb] at hrr hrb halt
  obtain ⟨pi, hpi, hpz, hps, hpbb⟩ := info_parts infoPage
  have HPI := Lib.hid hpi
  have HPZ := Lib.hid hpz
  have HPS := Lib.hid hps
  have HPB := Lib.hid hpbb
  obtain ⟨ii, hii, hiz, his, hib⟩ := info_parts infoInt
  have HII := Lib.hid hii
  have HIZ := Lib.hid hiz
  have HIS := Lib.hid his
  have HIB := Lib.hid hib
  obtain ⟨W1, hW1⟩ : ∃ z, z = (W.alloc (.cells #[.pointer (some ⟨rr, 0, none⟩)] 69)).alloc (.cells #[.int .i64 (v0 : Nat), .int .i64 (v1 : Nat), .int .i64 (v2 : Nat), .int .i64 (v3 : Nat), .int .i64 (v4 : Nat), .int .i64 (v6 : Nat), .int .i64 (v8 : Nat), .int .i64 (v9 : Nat), .int .i64 (v10 : Nat), .int .i64 (v11 : Nat)] 75) := ⟨_, rfl⟩
  have hPb : BlockIs W1 pb [.pointer (some ⟨rr, 0, none⟩)] 69 := by rw [hW1, hpb]; exact (BlockIs.new W _ _).alloc _
  have hHb : BlockIs W1 (pb + 1) [.int .i64 (v0 : Nat), .int .i64 (v1 : Nat), .int .i64 (v2 : Nat), .int .i64 (v3 : Nat), .int .i64 (v4 : Nat), .int .i64 (v6 : Nat), .int .i64 (v8 : Nat), .int .i64 (v9 : Nat), .int .i64 (v10 : Nat), .int .i64 (v11 : Nat)] 75 := by
    rw [hW1, hpb, show W.heap.size + 1 = (W.alloc (.cells #[.pointer (some ⟨rr, 0, none⟩)] 69)).heap.size from (World.size_alloc _ _).symm]
    exact BlockIs.new _ _ _
  obtain ⟨hv, hhv⟩ : ∃ z : List Value, z = [.int .i64 (v0 : Nat), .int .i64 (v1 : Nat), .int .i64 (v2 : Nat), .int .i64 (v3 : Nat), .int .i64 (v4 : Nat), .int .i64 (v6 : Nat), .int .i64 (v8 : Nat), .int .i64 (v9 : Nat), .int .i64 (v10 : Nat), .int .i64 (v11 : Nat)] := ⟨_, rfl⟩
  rw [← hhv] at hHb
  obtain ⟨hb, hhb⟩ : ∃ z, z = pb + 1 := ⟨_, rfl⟩
  rw [← hhb] at hHb
  have f0 : hv[0]? = some (.int .i64 (v0 : Nat)) := by rw [hhv]; rfl
  have f2 : hv[2]? = some (.int .i64 (v2 : Nat)) := by rw [hhv]; rfl
  have f3 : hv[3]? = some (.int .i64 (v3 : Nat)) := by rw [hhv]; rfl
  have f4 : hv[4]? = some (.int .i64 (v4 : Nat)) := by rw [hhv]; rfl
  have f5 : hv[5]? = some (.int .i64 (v6 : Nat)) := by rw [hhv]; rfl
  have f6 : hv[6]? = some (.int .i64 (v8 : Nat)) := by rw [hhv]; rfl
  have f7 : hv[7]? = some (.int .i64 (v9 : Nat)) := by rw [hhv]; rfl
  have f8 : hv[8]? = some (.int .i64 (v10 : Nat)) := by rw [hhv]; rfl
  have f9 : hv[9]? = some (.int .i64 (v11 : Nat)) := by rw [hhv]; rfl
  have HF := Lib.hid (And.intro f0 (And.intro f2 (And.intro f3 (And.intro f4 (And.intro f5 (And.intro f6 (And.intro f7 (And.intro f8 f9))))))))
  have HHv := Lib.hid hhv
  clear f0 f2 f3 f4 f5 f6 f7 f8 f9 hhv
  have hP1 : Pure W W1 := by rw [hW1]; exact ((Ext.refl _ W).alloc _).alloc _
  have hS1 := hRS.pure hP1
  have hz1 : W1.heap.size = pb + 2 := by rw [hW1, hpb, World.size_alloc, World.size_alloc]
  have hX1 : Ext (RdS rr rb) W W1 := hP1.mono (fun _ _ e => e.elim)
  have HW1 := Lib.hid hW1
  have HPb := Lib.hid hpb
  obtain ⟨ob, hob⟩ : ∃ z, z = W1.heap.size := ⟨_, rfl⟩
  have hpo : ob = hb + 1 := by omega
  have hbp : pb < hb := by omega
  have hobp : hb < ob := by omega
  have hWpb : W.heap.size ≤ pb := by omega
  have HOb := Lib.hid hob
  have HPo := Lib.hid hpo
  have HHb := Lib.hid hhb
  clear hpi hpz hps hpbb hii hiz his hib hW1 hRS hP1 hpb hz1 hob hpo hhb
  go_enter Try.func40, Try.ntmps40
  go_wp2_with (refine wpList_make_full _ rfl (.tmp 14) (.tmp 14) 22 rfl ob 49 pi (.agg #[.int .i64 0, .int .i64 0, .slice none 0 0]) 3 Try.underlying22 HPI.out HPZ.out HPS.out .i64 .i64 (N : Int) (N : Int) N rfl rfl rfl rfl (by rw [HPB.out]; omega) (by unfold maxLen; omega) (by rw [← HW1.out]; exact Nat.le_of_eq HOb.out) ?_)
  rw [← HW1.out, ← HPb.out, ← HHb.out, ← HPo.out]
  intro W2 hO2 hg2
  rw [made_pages] at hO2
  have hA2 : Pure W1 W2 := (ext_of_grown hg2).mono (fun _ _ e => by cases e)
  have hOut2 : OutIs W2 ob N (List.replicate N noPage) := ⟨hO2, List.length_replicate⟩
  have hS2 := hS1.pure hA2
  have hPb2 := hPb.ext hA2 id
  have hHb2 := hHb.ext hA2 id
  have hX2 := hX1.pure hA2
  obtain ⟨ub, hub⟩ : ∃ z, z = W2.heap.size := ⟨_, rfl⟩
  have hou : ob < ub := by rw [hub]; exact hOut2.lt
  obtain ⟨W3, hW3⟩ : ∃ z, z = W2.alloc (.cells #[.slice (some ⟨ob, 0, none⟩) N N] 22) := ⟨_, rfl⟩
  have hP3 : Pure W2 W3 := hW3 ▸ ext_alloc W2 _
  have hU3 : BlockIs W3 ub [.slice (some ⟨ob, 0, none⟩) N N] 22 := by rw [hW3, hub]; exact BlockIs.new W2 _ _
  have hB3 : PBox W3 rr hb ub pb ob N hv := ⟨hHb2.ext hP3 id, hU3, hPb2.ext hP3 id⟩
  have hOut3 := hOut2.ext hP3 id
  have hS3 := hS2.pure hP3
  have hX3 := hX2.pure hP3
  have c0 : W2.cell? ⟨pb, 0, none⟩ = some (.pointer (some ⟨rr, 0, none⟩)) := hPb2.cell 0
  have c2 : W2.cell? ⟨hb, 2, none⟩ = some (.int .i64 (v2 : Nat)) := (hHb2.cell 2).trans HF.out.2.1
  have hz2 : pb < W2.heap.size := hPb2.lt
  have hz2' : hb < W2.heap.size := hHb2.lt
  have HNE : Hid (ob ≠ rr ∧ ob ≠ rb ∧ (∀ g, a = some g → g.block ≠ ob) ∧ hb ≠ ob ∧ ub ≠ ob ∧ pb ≠ ob ∧ ub ≠ rr ∧ pb ≠ rr ∧ hb ≠ rr ∧ hb ≠ rb ∧ ub ≠ rb ∧ pb ≠ rb) := Lib.hid ⟨by omega, by omega, fun g hg => by have := halt g hg; omega, by omega, by omega, by omega, by omega, by omega, by omega, by omega, by omega, by omega⟩
  have HR1 := Lib.hid (row1_any rr rb l a c 288 288 hb ub pb ob N v2 v0 hv (List.replicate N noPage) 0 W3 hB3 HF.out.1 (fun _ => ⟨rfl, hOut3⟩) hN2 k2 lv0 (by omega) hS3 HNE.out)
  have HW3 := Lib.hid hW3
  have HUb := Lib.hid hub
  clear hO2 hg2 hA2 hOut2 hS2 hPb2 hHb2 hX2 hW3 hP3 hU3 hub hS3 hOut3 hPb hHb hS1 hX1
  go_wp2_with fail
  rw [← HUb.out, ← HW3.out]
  refine HR1.out.mono ?_
  rintro e W4 ⟨rfl, q1', er1, ps1, hS4, hX4, hE1, hD1⟩
  have HE1 : Hid (RowE (bitsOf true l) 288 N v2 (okO v0) er1) := Lib.hid (hE1.resolve_left (fun h => h.1 rfl)).2
  have hB4 := hB3.ext hX4 (by omega) (by omega) (by omega)
  have hXW4 := hX3.trans hX4 (fun i hi e => by rcases e with e | e | e; exact Or.inl e; exact Or.inr e; omega)
  have HR2 := Lib.hid (row2_any rr rb l a c q1' (al8 (288 + N * v2)) hb ub pb ob N v4 v3 hv ps1 er1 W4 hB4 HF.out.2.2.1 (fun h => ⟨(hD1 h).1, (hD1 h).2.1⟩) hN2 k3 lv3 (by omega) hS4 HNE.out)
  have HD1 := Lib.hid hD1
  have c0 : W4.cell? ⟨pb, 0, none⟩ = some (.pointer (some ⟨rr, 0, none⟩)) := hB4.p.cell 0
  have c4 : W4.cell? ⟨hb, 4, none⟩ = some (.int .i64 (v4 : Nat)) := (hB4.h.cell 4).trans HF.out.2.2.2.1
  clear HR1 hE1 hB3 hX3 hX4 hS4 hD1 c2 HUb HW3
  go_wp2_with fail
  refine HR2.out.mono ?_
  rintro e W5 ⟨rfl, q2', er2, ps2, hS5, hX5, hE2, hD2⟩
  have hB5 := hB4.ext hX5 (by omega) (by omega) (by omega)
  have hXW5 := hXW4.trans hX5 (fun i hi e => by rcases e with e | e | e; exact Or.inl e; exact Or.inr e; omega)
  have HE2 := Lib.hid hE2
  have HD2 := Lib.hid hD2
  clear HR2 hE2 hD2 hX5 hXW4 hB4 c4 c0
  obtain ⟨mb, hmb⟩ : ∃ z, z = W5.heap.size := ⟨_, rfl⟩
  have hum : ub < mb := by rw [hmb]; exact hB5.u.lt
  obtain ⟨W6, hW6⟩ : ∃ z, z = W5.alloc (.cells #[.int .i64 0] 3) := ⟨_, rfl⟩
  have hP6 : Pure W5 W6 := hW6 ▸ ext_alloc W5 _
  have hM6 : BlockIs W6 mb [intV 0] 3 := by rw [hW6, hmb]; exact BlockIs.new W5 _ _
  obtain ⟨cb, hcb⟩ : ∃ z, z = mb + 1 := ⟨_, rfl⟩
  have hcb6 : cb = W6.heap.size := by rw [hcb, hW6, hmb, World.size_alloc]
  have hmc : mb < cb := by omega
  have HW6 := Lib.hid hW6
  have HMb := Lib.hid hmb
  have HCb := Lib.hid hcb
  have HCb6 := Lib.hid hcb6
  clear hW6 hmb hcb hcb6
  go_wp2_with (refine wpList_make_full _ rfl (.tmp 28) (.tmp 28) 47 rfl cb 3 ii (.int .i64 0) 1 Try.underlying47 HII.out HIZ.out HIS.out .i64 .i64 (N : Int) (N : Int) N rfl rfl rfl rfl (by rw [HIB.out]; omega) (by unfold maxLen; omega) (by rw [← HW6.out]; exact Nat.le_of_eq HCb6.out) ?_)
  rw [← HW6.out, ← HMb.out, ← HCb.out]
  intro W7 hO7 hg7
  have hP7 : Pure W6 W7 := (ext_of_grown hg7).mono (fun _ _ e => by cases e)
  obtain ⟨kb, hkb⟩ : ∃ z, z = W7.heap.size := ⟨_, rfl⟩
  have hck : cb < kb := by rw [hkb]; exact (hO7.lt _ rfl).2
  obtain ⟨W8, hW8⟩ : ∃ z, z = W7.alloc (.cells #[.slice (some ⟨cb, 0, none⟩) N N] 47) := ⟨_, rfl⟩
  have hP8 : Pure W7 W8 := hW8 ▸ ext_alloc W7 _
  have hP58 : Pure W5 W8 := (hP6.pure hP7).pure hP8
  generalize (madeCells #[Value.int .i64 0] N).toList = xs0 at hO7
  have hR8 : RBox W8 kb cb N xs0 := ⟨by rw [hW8, hkb]; exact BlockIs.new W7 _ _, own_ext hO7 hP8 (fun _ _ => id)⟩
  have hM8 := hM6.ext (hP7.pure hP8) id
  have hB7 := hB5.ext (hP6.pure hP7) id id id
  have hB8 := hB5.ext hP58 id id id
  have hS8 := hS5.pure hP58
  have hXW8 := hXW5.pure hP58
  have c0 : W7.cell? ⟨pb, 0, none⟩ = some (.pointer (some ⟨rr, 0, none⟩)) := hB7.p.cell 0
  have c7 : W7.cell? ⟨hb, 7, none⟩ = some (.int .i64 (v9 : Nat)) := (hB7.h.cell 7).trans HF.out.2.2.2.2.2.2.1
  have hz7 := hB7.p.lt
  have hz7' := hB7.h.lt
  have HNE3 : Hid (cb ≠ rr ∧ cb ≠ rb ∧ mb ≠ rr ∧ mb ≠ rb ∧ (∀ g, a = some g → g.block ≠ cb ∧ g.block ≠ mb) ∧ kb ≠ cb ∧ kb ≠ mb ∧ kb ≠ rr ∧ pb ≠ rr ∧ pb ≠ cb ∧ pb ≠ mb ∧ cb ≠ mb ∧ kb ≠ rb ∧ pb ≠ rb) := Lib.hid ⟨by omega, by omega, by omega, by omega, fun g hg => by have := halt g hg; exact ⟨by omega, by omega⟩, by omega, by omega, by omega, by omega, by omega, by omega, by omega, by omega, by omega⟩
  have HR3 := Lib.hid (row3_any rr rb l a c q2' (al8 (al8 (288 + N * v2) + N * v4)) kb cb mb pb N v9 xs0 er2 W8 hR8 hM8 hB8.p (fun h => (HD2.out h).1) hN2 k6 (by omega) hS8 HNE3.out)
  have HW8 := Lib.hid hW8
  have HKb := Lib.hid hkb
  clear hO7 hg7 hP6 hP7 hP8 hM6 hkb hW8 hR8 hM8 hS8 hS5 hXW5 hB5 hB7
  go_wp2_with fail
  rw [← HKb.out, ← HW8.out]
  refine HR3.out.mono ?_
  rintro e W9 ⟨rfl, q3', er3, hS9, hX9, hE3, hD3⟩
  have hB9 := hB8.ext hX9 (by omega) (by omega) (by omega)
  have hXW9 := hXW8.trans hX9 (fun i hi e => by rcases e with e | e | e | e; exact Or.inl e; exact Or.inr e; omega; omega)
  have HE3 := Lib.hid hE3
  have HD3 := Lib.hid hD3
  have c0 : W9.cell? ⟨pb, 0, none⟩ = some (.pointer (some ⟨rr, 0, none⟩)) := hB9.p.cell 0
  have g1 : W9.cell? ⟨rr, 0 + 1, none⟩ = some (.int .i64 er3) := hS9.blk.cell 1
  clear HR3 hE3 hD3 hXW8 hB8 c7 HKb HW8 HW6 HMb
  have HC3 := Lib.hid (chain3 (bs := bitsOf true l) (n := N) (e1 := er1) (e2 := er2) (e3 := er3) (by rw [← HV2.out, ← HV0.out]; exact HE1.out) (by rw [← HV4.out, ← HV3.out, q1, ← HV2.out]; exact HE2.out) (by rw [← HV9.out, q2, ← HV4.out, q1, ← HV2.out]; exact HE3.out))
  by_cases he3 : er3 = 0
  · subst he3
    obtain ⟨z1, z2, z3, hR14⟩ := HC3.out.2 rfl
    obtain ⟨hq2', hOut5, hls, hos⟩ := HD2.out z2
    obtain ⟨_, _, hos1, _⟩ := HD1.out z1
    obtain ⟨hq3', hR9, hM9⟩ := HD3.out rfl
    have hmny : (vals (bitsOf true l) (al8 (al8 (288 + N * v2) + N * v4)) v9 N).sum ≤ 65536 := by
      have h := (z3.zero rfl).2
      rw [q2, q1, ← HV9.out, ← HV4.out, ← HV2.out] at h
      exact h
    obtain ⟨C, hC⟩ : ∃ z, z = vals (bitsOf true l) (al8 (al8 (288 + N * v2) + N * v4)) v9 N := ⟨_, rfl⟩
    rw [← hC] at hmny hR9 hM9
    obtain ⟨t, ht⟩ : ∃ z, z = C.sum := ⟨_, rfl⟩
    rw [← ht] at hmny hM9
    have hOut9 := (hOut5.ext hP58 id).ext hX9 (by omega)
    have HR14 := Lib.hid hR14
    have HQ3 := Lib.hid hq3'
    have HLs := Lib.hid hls
    have HOs := Lib.hid (hos.trans hos1)
    have HC := Lib.hid hC
    have HT := Lib.hid ht
    clear hR14 hq3' hls hos hos1 hC ht hq2' z1 z2 z3 hOut5 HC3 HD3 HD2 HD1 HE3 HE2 HE1 hP58 hX9
    obtain ⟨xb, hxb⟩ : ∃ z, z = W9.heap.size := ⟨_, rfl⟩
    have hkx : kb < xb := by rw [hxb]; exact hR9.box.lt
    have cm : W9.cell? ⟨mb, 0, none⟩ = some (.int .i64 (t : Nat)) := hM9.cell 0
    have HXb := Lib.hid hxb
    clear hxb
    go_wp2_with (refine wpList_make_full _ rfl (.tmp 41) (.tmp 41) 47 rfl xb 3 ii (.int .i64 0) 1 Try.underlying47 HII.out HIZ.out HIS.out .i64 .i64 (t : Int) (t : Int) t rfl rfl rfl rfl (by rw [HIB.out]; omega) (by unfold maxLen; omega) (Nat.le_of_eq HXb.out) ?_)
    rw [← HXb.out]
    intro W10 hO10 hg10
    rw [made_ints] at hO10
    have hP10 : Pure W9 W10 := (ext_of_grown hg10).mono (fun _ _ e => by cases e)
    obtain ⟨sb, hsb⟩ : ∃ z, z = W10.heap.size := ⟨_, rfl⟩
    have hxs : xb < sb := by rw [hsb]; exact (hO10.lt _ rfl).2
    obtain ⟨W11, hW11⟩ : ∃ z, z = W10.alloc (.cells #[.slice (some ⟨xb, 0, none⟩) t t] 47) := ⟨_, rfl⟩
    have hP11 : Pure W10 W11 := hW11 ▸ ext_alloc W10 _
    have hP911 := hP10.pure hP11
    have hT11 : RBox W11 sb xb t ((List.replicate t 0).map intV) := ⟨by rw [hW11, hsb]; exact BlockIs.new W10 _ _, own_ext hO10 hP11 (fun _ _ => id)⟩
    have hR11 := hR9.ext hP911 id id
    have hM10 := hM9.ext hP10 id
    have hM11 := hM9.ext hP911 id
    have hB10 := hB9.ext hP10 id id id
    have hB11 := hB9.ext hP911 id id id
    have hOut11 := hOut9.ext hP911 id
    have hS11 := hS9.pure hP911
    have hXW11 := hXW9.pure hP911
    have c0' : W10.cell? ⟨pb, 0, none⟩ = some (.pointer (some ⟨rr, 0, none⟩)) := hB10.p.cell 0
    have cm' : W10.cell? ⟨mb, 0, none⟩ = some (.int .i64 (t : Nat)) := hM10.cell 0
    have c8 : W10.cell? ⟨hb, 8, none⟩ = some (.int .i64 (v10 : Nat)) := (hB10.h.cell 8).trans HF.out.2.2.2.2.2.2.2.1
    have y0 := hB10.p.lt
    have y1 := hB10.h.lt
    have y2 := hM10.lt
    have HNE4 : Hid (xb ≠ rr ∧ xb ≠ rb ∧ (∀ g, a = some g → g.block ≠ xb) ∧ sb ≠ xb ∧ sb ≠ rr ∧ pb ≠ rr ∧ pb ≠ xb ∧ sb ≠ rb ∧ pb ≠ rb) := Lib.hid ⟨by omega, by omega, fun g hg => by have := halt g hg; omega, by omega, by omega, by omega, by omega, by omega, by omega⟩
    have HR4 := Lib.hid (row4_any rr rb l a c q3' (al8 (al8 (al8 (288 + N * v2) + N * v4) + N * v9)) sb xb pb t v10 (List.replicate t 0) 0 W11 hT11 hB11.p (fun _ => HQ3.out) hmny k7 (by omega) hS11 HNE4.out)
    have HW11 := Lib.hid hW11
    have HSb := Lib.hid hsb
    clear hO10 hg10 hP10 hP11 hP911 hsb hW11 hT11 hM10 hB10 hS11 hXW9 hB9 hOut9 hR9 hM9 hS9 c0 cm g1
    go_wp2_with fail
    rw [← HSb.out, ← HW11.out]
    refine HR4.out.mono ?_
    rintro e W12 ⟨rfl, q4', er4, ys, hS12, hX12, hE4, hT12, hD4⟩
    have hB12 := hB11.ext hX12 (by omega) (by omega) (by omega)
    have hR12 := hR11.ext hX12 (by omega) (by omega)
    have hM12 := hM11.ext hX12 (by omega)
    have hOut12 := hOut11.ext hX12 (by omega)
    have hXW12 := hXW11.trans hX12 (fun i hi e => by rcases e with e | e | e; exact Or.inl e; exact Or.inr e; omega)
    have HE4 := Lib.hid (hE4.resolve_left (fun h => h.1 rfl)).2
    have HD4 := Lib.hid hD4
    have HR5 := Lib.hid (row5_any rr rb l a c q4' (al8 (al8 (al8 (al8 (288 + N * v2) + N * v4) + N * v9) + t * v10)) t v11 er4 W12 (fun h => (hD4 h).1) hmny k8 (by omega) hS12)
    have c0 : W12.cell? ⟨pb, 0, none⟩ = some (.pointer (some ⟨rr, 0, none⟩)) := hB12.p.cell 0
    have cm : W12.cell? ⟨mb, 0, none⟩ = some (.int .i64 (t : Nat)) := hM12.cell 0
    have c9 : W12.cell? ⟨hb, 9, none⟩ = some (.int .i64 (v11 : Nat)) := (hB12.h.cell 9).trans HF.out.2.2.2.2.2.2.2.2
    clear HR4 hE4 hD4 hX12 hB11 hR11 hM11 hOut11 hXW11 HSb HW11 c0' cm' c8 y0 y1 y2
    go_wp2_with fail
    refine HR5.out.mono ?_
    rintro e W13 ⟨rfl, q5', er5, hS13, hX13, hE5, hD5⟩
    have hNO : ∀ i, pb ≤ i → ¬ RdS rr rb i := fun i hi e => by rcases e with e | e <;> omega
    have hB13 := hB12.ext hX13 (hNO _ (by omega)) (hNO _ (by omega)) (hNO _ (by omega))
    have hR13 := hR12.ext hX13 (hNO _ (by omega)) (hNO _ (by omega))
    have hT13 := hT12.ext hX13 (hNO _ (by omega)) (hNO _ (by omega))
    have hOut13 := hOut12.ext hX13 (hNO _ (by omega))
    have hXW13 := hXW12.trans hX13 (fun i hi e => e)
    have HE5 := Lib.hid hE5
    have HR6 := Lib.hid (row5_any rr rb l a c q5' (al8 (al8 (al8 (al8 (al8 (288 + N * v2) + N * v4) + N * v9) + t * v10) + t * v11)) N v6 er5 W13 hD5 (by omega) k4 (by omega) hS13)
    have c0' : W13.cell? ⟨pb, 0, none⟩ = some (.pointer (some ⟨rr, 0, none⟩)) := hB13.p.cell 0
    have c5 : W13.cell? ⟨hb, 5, none⟩ = some (.int .i64 (v6 : Nat)) := (hB13.h.cell 5).trans HF.out.2.2.2.2.1
    clear HR5 hE5 hD5 hX13 hB12 hR12 hM12 hOut12 hXW12 c0 cm c9 hT12
    go_wp2_with fail
    refine HR6.out.mono ?_
    rintro e W14 ⟨rfl, q6', er6, hS14, hX14, hE6, hD6⟩
    have hB14 := hB13.ext hX14 (hNO _ (by omega)) (hNO _ (by omega)) (hNO _ (by omega))
    have hR14 := hR13.ext hX14 (hNO _ (by omega)) (hNO _ (by omega))
    have hT14 := hT13.ext hX14 (hNO _ (by omega)) (hNO _ (by omega))
    have hOut14 := hOut13.ext hX14 (hNO _ (by omega))
    have hXW14 := hXW13.trans hX14 (fun i hi e => e)
    have HE6 := Lib.hid hE6
    have HR7 := Lib.hid (row5_any rr rb l a c q6' (al8 (al8 (al8 (al8 (al8 (al8 (288 + N * v2) + N * v4) + N * v9) + t * v10) + t * v11) + N * v6)) N v8 er6 W14 hD6 (by omega) k5 (by omega) hS14)
    have c0 : W14.cell? ⟨pb, 0, none⟩ = some (.pointer (some ⟨rr, 0, none⟩)) := hB14.p.cell 0
    have c6 : W14.cell? ⟨hb, 6, none⟩ = some (.int .i64 (v8 : Nat)) := (hB14.h.cell 6).trans HF.out.2.2.2.2.2.1
    clear HR6 hE6 hD6 hX14 hB13 hR13 hT13 hOut13 hXW13 c0' c5
    go_wp2_with fail
    refine HR7.out.mono ?_
    rintro e W15 ⟨rfl, q7', er7, hS15, hX15, hE7, hD7⟩
    have hB15 := hB14.ext hX15 (hNO _ (by omega)) (hNO _ (by omega)) (hNO _ (by omega))
    have hR15 := hR14.ext hX15 (hNO _ (by omega)) (hNO _ (by omega))
    have hT15 := hT14.ext hX15 (hNO _ (by omega)) (hNO _ (by omega))
    have hOut15 := hOut14.ext hX15 (hNO _ (by omega))
    have hXW15 := hXW14.trans hX15 (fun i hi e => e)
    have HE7 := Lib.hid hE7
    have HD7 := Lib.hid hD7
    clear HR7 hE7 hD7 hX15 hB14 hR14 hT14 hOut14 hXW14 c0 c6
    have HQ3' : Hid (al8 (al8 (al8 (288 + N * v2) + N * v4) + N * v9) = q3 (bitsOf true l) N) := Lib.hid (by rw [q3, q2, q1, HV2.out, HV4.out, HV9.out])
    have HTm : Hid (t = mny (bitsOf true l) N) := Lib.hid (by rw [HT.out, HC.out, mny, cnts, q2, q1, HV2.out, HV4.out, HV9.out])
    have HF4 : RowE (bitsOf true l) (q3 (bitsOf true l) N) (mny (bitsOf true l) N) (h10 (bitsOf true l)) okS er4 := by rw [← HQ3'.out, ← HTm.out, ← HV10.out]; exact HE4.out
    have HF5 : (er4 ≠ 0 ∧ er5 = er4) ∨ (er4 = 0 ∧ RowE (bitsOf true l) (q4 (bitsOf true l) N) (mny (bitsOf true l) N) (h11 (bitsOf true l)) okA er5) := by rw [q4, ← HQ3'.out, ← HTm.out, ← HV10.out, ← HV11.out]; exact HE5.out
    have HF6 : (er5 ≠ 0 ∧ er6 = er5) ∨ (er5 = 0 ∧ RowE (bitsOf true l) (q5 (bitsOf true l) N) N (h6 (bitsOf true l)) okA er6) := by rw [q5, q4, ← HQ3'.out, ← HTm.out, ← HV10.out, ← HV11.out, ← HV6.out]; exact HE6.out
    have HF7 : (er6 ≠ 0 ∧ er7 = er6) ∨ (er6 = 0 ∧ RowE (bitsOf true l) (q6 (bitsOf true l) N) N (h8 (bitsOf true l)) okA er7) := by rw [q6, q5, q4, ← HQ3'.out, ← HTm.out, ← HV10.out, ← HV11.out, ← HV6.out, ← HV8.out]; exact HE7.out
    have HFF := Lib.hid (chain7 HF4 HF5 HF6 HF7)
    have HQ7 : Hid (al8 (al8 (al8 (al8 (al8 (al8 (al8 (288 + N * v2) + N * v4) + N * v9) + t * v10) + t * v11) + N * v6) + N * v8) = q7 (bitsOf true l) N) := Lib.hid (by rw [q7, q6, q5, q4, ← HQ3'.out, ← HTm.out, ← HV10.out, ← HV11.out, ← HV6.out, ← HV8.out])
    have HX1 : Hid (C = vals (bitsOf true l) (q2 (bitsOf true l) N) (h9 (bitsOf true l)) N) := Lib.hid (by rw [HC.out, q2, q1, HV2.out, HV4.out, HV9.out])
    have HX2 : Hid (vals (bitsOf true l) (al8 (al8 (al8 (288 + N * v2) + N * v4) + N * v9)) v10 t = vals (bitsOf true l) (q3 (bitsOf true l) N) (h10 (bitsOf true l)) (mny (bitsOf true l) N)) := Lib.hid (by rw [HQ3'.out, HTm.out, HV10.out])
    clear HF4 HF5 HF6 HF7 HE4 HE5 HE6 HE7
    have hyl : ys.length = t := by have := hT15.row.1; rw [List.length_map] at this; omega
    have hCl : C.length = N := by rw [HC.out]; exact vals_len _ _ _ _
    have hcut0 : CutIn (fun i => i = ob ∨ i = sb) W15 W15 ob N (ps2.map (fun p => p.o)) (ps2.map (fun p => p.l)) ys C 0 ps2 := ⟨hOut15, rfl, rfl, by simp [cut], (fun p hp => by simp at hp), Ext.refl _ _⟩
    have hsh0 : ShIs W15 sb xb (t - 0) (some ⟨xb, 0, none⟩) (ys.drop 0) := ⟨hT15.box, own_row hT15.row, (fun h => by cases h), (fun g hg => by cases hg; rfl)⟩
    have hRowC := own_row hR15.row
    have ck : W15.cell? ⟨kb, 0, none⟩ = some (.slice (some ⟨cb, 0, none⟩) N N) := hR15.box.cell 0
    have HCl := Lib.hid hCl
    have HYl := Lib.hid hyl
    obtain ⟨os, hos⟩ : ∃ z, z = ps2.map (fun p => p.o) := ⟨_, rfl⟩
    obtain ⟨ls, hls⟩ : ∃ z, z = ps2.map (fun p => p.l) := ⟨_, rfl⟩
    rw [← hos, ← hls] at hcut0
    rw [← hos] at HOs
    rw [← hls] at HLs
    clear hCl hyl hos hls hOut15 hT15 hR15
    go_wp2_with fail
    go_loopw [69] (fun i W' => ∃ (k : Nat) (qs : List PH) (sa : Option Addr), k ≤ N ∧ i = .int .i64 k ∧ CutIn (fun i => i = ob ∨ i = sb) W15 W' ob N os ls ys C k qs ∧ ShIs W' sb xb (t - (C.take k).sum) sa (ys.drop (C.take k).sum)) (fun i _ => N - (intOf i).toNat)
    case atStart => exact ⟨0, ps2, some ⟨xb, 0, none⟩, Nat.zero_le _, rfl, hcut0, hsh0⟩
    case round =>
      obtain ⟨k, qs, sa, hk, rfl, hCut, hSh⟩ := hrel
      clear hcut0 hsh0 ck
      obtain ⟨j, hj⟩ : ∃ z, z = (C.take k).sum := ⟨_, rfl⟩
      rw [← hj] at hSh
      have hcE := hCut.ext
      by_cases hlt : k < N
      · have hki : (k : Int) < (N : Int) := by omega
        obtain ⟨c', hc⟩ : ∃ c', C[k]? = some c' := ⟨_, List.getElem?_eq_getElem (by rw [HCl.out]; exact hlt)⟩
        have hj1 : (C.take (k + 1)).sum = j + c' := by rw [sum_take_succ C k c' hc, hj]
        have hjt : j + c' ≤ t := by
          have h1 := sum_take_le C (k + 1)
          have h2 := HT.out
          omega
        obtain ⟨_, _, he', hcc⟩ := (hRowC.ext hcE (fun g hg e => by cases hg; rcases e with e | e <;> simp only at e <;> omega)) k (intV c') (by rw [List.getElem?_map, hc]; rfl)
        cases he'
        have hcc2 : wr.cell? ⟨cb, k, none⟩ = some (.int .i64 c') := by rw [Nat.zero_add] at hcc; exact hcc
        obtain ⟨m, hm⟩ : ∃ m, m = t - j := ⟨_, rfl⟩
        rw [← hm] at hSh
        have hcm : c' ≤ m := by omega
        have hcmi : (c' : Int) ≤ (m : Int) := by omega
        have hm6 : m ≤ 65536 := by omega
        have hdl : (ys.drop j).length = m := by rw [List.length_drop, HYl.out]; exact hm.symm
        obtain ⟨new, hnew⟩ : ∃ z, z = (ys.drop j).take c' := ⟨_, rfl⟩
        have hnl : new.length = c' := by rw [hnew, List.length_take, hdl]; omega
        have u0 : wr.drew.cell? ⟨ub, 0, none⟩ = some (.slice (some ⟨ob, 0, none⟩) N N) := by
          have := (hB15.u.ext hcE (fun e => by rcases e with e | e <;> omega)).cell 0
          exact this
        have s0 : wr.drew.cell? ⟨sb, 0, none⟩ = some (.slice sa m m) := hSh.box.cell 0
        have ku := fun w' (hS : Ext (fun i => i = ob ∨ i = sb) wr.drew w') => hS.cell_some u0 (fun e => by rcases e with e | e <;> simp only at e <;> omega)
        have HNr : Hid (RowOf wr.drew sa (new.map intV)) := Lib.hid (by
          rw [hnew, List.map_take]; exact (row_take hSh.row c').ext ((Ext.refl (fun _ => False) wr).drew) (fun _ _ => id))
        have hnil := hSh.nil
        have HCn := Lib.hid (clone_int sa m new wr.drew HNr.out hnil (by omega) (by omega))
        rw [hnl] at HCn
        have HJ := Lib.hid hj
        have HJ1 := Lib.hid hj1
        have HHC := Lib.hid hc
        have HM := Lib.hid hm
        have HNew := Lib.hid hnew
        have HNl := Lib.hid hnl
        have HDl := Lib.hid hdl
        have HCut := Lib.hid hCut
        have HSh := Lib.hid hSh
        clear hcc hj hj1 hc hm hnew hnl hdl hCut hSh hcE
        have hobl : ob < wr.drew.heap.size := HCut.out.out.lt
        have hsbl : sb < wr.drew.heap.size := HSh.out.box.lt
        go_wp2_with fail
        refine region_start (fun i => i = ob ∨ i = sb) (by kernel_rfl) ?_
        try simp only [Act.put, List.setIfInBounds_toArray, List.set_cons_zero, List.set_cons_succ]
        refine region_take 0 74 (v := ?vpl0) rfl rfl (by kernel_rfl) (by kernel_rfl) (by kernel_rfl) (fun _ _ _ h => h) (by rfl) (fun w' hS => ?hpl0) ?rpl0
        case hpl0 => go_simp; with_reducible rfl
        try simp only [Act.put, List.setIfInBounds_toArray, List.set_cons_zero, List.set_cons_succ]
        refine region_take 1 75 (v := ?vpl1) rfl rfl (by kernel_rfl) (by kernel_rfl) (by kernel_rfl) (fun _ _ _ h => h) (by rfl) (fun w' hS => ?hpl1) ?rpl1
        case hpl1 => go_simp; with_reducible rfl
        try simp only [Act.put, List.setIfInBounds_toArray, List.set_cons_zero, List.set_cons_succ]
        refine region_take 3 77 (v := ?vpl3) rfl rfl (by kernel_rfl) (by kernel_rfl) (by kernel_rfl) (fun _ _ _ h => h) (by rfl) (fun w' hS => ?hpl3) ?rpl3
        case hpl3 => go_simp; with_reducible rfl
        try simp only [Act.put, List.setIfInBounds_toArray, List.set_cons_zero, List.set_cons_succ]
        refine region_take 7 81 (v := ?vpl7) rfl rfl (by kernel_rfl) (by kernel_rfl) (by kernel_rfl) (fun _ _ _ h => h) (by rfl) (fun w' hS => ?hpl7) ?rpl7
        case hpl7 => go_simp; with_reducible rfl
        try simp only [Act.put, List.setIfInBounds_toArray, List.set_cons_zero, List.set_cons_succ]
        refine wpAnyH_ready (rs := [2, 6]) (by kernel_rfl) (by simp) (AllReadyH.cons rfl (fun K hK => ?_) (AllReadyH.cons rfl (fun K hK => ?_) (AllReadyH.nil)))
        go_simp
        refine hK.out _ _ (Ext.refl _ _) (fun hHeld => ?_)
        clear hK K hHeld
        refine region_now (Ext.refl _ _) ?_
        try simp only [Act.put, List.setIfInBounds_toArray, List.set_cons_zero, List.set_cons_succ]
        refine region_take 4 78 (v := ?vplq04) rfl rfl (by kernel_rfl) (by kernel_rfl) (by kernel_rfl) (fun _ _ _ h => h) (by rfl) (fun w' hS => ?hplq04) ?rplq04
        case hplq04 => go_simp; with_reducible rfl
        try simp only [Act.put, List.setIfInBounds_toArray, List.set_cons_zero, List.set_cons_succ]
        refine wpAnyH_ready (rs := [5, 6]) (by kernel_rfl) (by simp) (AllReadyH.cons rfl (fun K hK => ?_) (AllReadyH.cons rfl (fun K hK => ?_) (AllReadyH.nil)))
        go_simp
        refine HCn.out.mono ?_
        rintro e w3 ⟨a3, c3, he3, hN3⟩
        rw [HNl.out] at he3
        subst he3
        have hX3 : Ext (fun i => i = ob ∨ i = sb) wr.drew w3 := hN3.ext.mono (fun _ _ e => e.elim)
        obtain ⟨⟨y, hy⟩, hf, qs', hCut'⟩ := HCut.out.step (Or.inl rfl) hlt HHC.out (show Pure wr w3 from ((Ext.refl (fun _ => False) wr).drew).pure hN3.ext) HJ.out (by rw [← HNew.out]; exact hN3.row) (by rw [← HNew.out]; exact HNl.out) ⟨by have := hN3.le; rw [HNl.out] at this; exact this, hN3.most, hN3.nil⟩ (fun g hg e => by have := hN3.fresh g hg; rcases e with e | e <;> omega)
        have s3 : w3.cell? ⟨sb, 0, none⟩ = some (.slice sa m m) := hN3.ext.cell_some s0 id
        have fs3 : w3.frozen? ⟨sb, 0, none⟩ = false := (HSh.out.box.drew.ext hN3.ext id).free 0
        refine hK.out _ _ (hX3) (fun hHeld => ?_)
        clear hK K hHeld
        refine region_now (hX3) ?_
        try simp only [Act.put, List.setIfInBounds_toArray, List.set_cons_zero, List.set_cons_succ]
        refine region_take 9 83 (v := ?vplq0q09) rfl rfl (by kernel_rfl) (by kernel_rfl) (by kernel_rfl) (fun _ _ _ h => h) (by rfl) (fun w' hS => ?hplq0q09) ?rplq0q09
        case hplq0q09 => go_simp; with_reducible rfl
        try simp only [Act.put, List.setIfInBounds_toArray, List.set_cons_zero, List.set_cons_succ]
        refine region_take 10 84 (v := ?vplq0q010) rfl rfl (by kernel_rfl) (by kernel_rfl) (by kernel_rfl) (fun _ _ _ h => h) (by rfl) (fun w' hS => ?hplq0q010) ?rplq0q010
        case hplq0q010 => go_simp; with_reducible rfl
        try simp only [Act.put, List.setIfInBounds_toArray, List.set_cons_zero, List.set_cons_succ]
        refine wpAnyH_ready (rs := [6, 11]) (by kernel_rfl) (by simp) (AllReadyH.cons rfl (fun K hK => ?_) (AllReadyH.cons rfl (fun K hK => ?_) (AllReadyH.nil)))
        go_simp
        refine hK.out _ _ (Ext.refl _ _) (fun hHeld => ?_)
        clear hK K hHeld
        refine region_now (Ext.refl _ _) ?_
        try simp only [Act.put, List.setIfInBounds_toArray, List.set_cons_zero, List.set_cons_succ]
        refine region_take 8 82 (v := ?vplq0q0q08) rfl rfl (by kernel_rfl) (by kernel_rfl) (by kernel_rfl) (fun _ _ _ h => h) (by rfl) (fun w' hS => ?hplq0q0q08) ?rplq0q0q08
        case hplq0q0q08 => go_simp; with_reducible rfl
        try simp only [Act.put, List.setIfInBounds_toArray, List.set_cons_zero, List.set_cons_succ]
        refine wpAnyH_ready (rs := [11]) (by kernel_rfl) (by simp) (AllReadyH.cons rfl (fun K hK => ?_) AllReadyH.nil)
        go_simp
        refine hK.out _ _ ((Ext.refl (fun i => i = ob ∨ i = sb) _).setCell (p := ⟨ob, k * 3 + 2, none⟩) (fun _ => Or.inl rfl) _) (fun hHeld => ?_)
        clear hK K hHeld
        refine region_now ((Ext.refl (fun i => i = ob ∨ i = sb) _).setCell (p := ⟨ob, k * 3 + 2, none⟩) (fun _ => Or.inl rfl) _) ?_
        try simp only [Act.put, List.setIfInBounds_toArray, List.set_cons_zero, List.set_cons_succ]
        refine wpAnyH_ready (rs := [12]) (by kernel_rfl) (by simp) (AllReadyH.cons rfl (fun K hK => ?_) AllReadyH.nil)
        go_simp
        refine hK.out _ _ ((Ext.refl (fun i => i = ob ∨ i = sb) _).setCell (p := ⟨sb, 0, none⟩) (fun _ => Or.inr rfl) _) (fun hHeld => ?_)
        clear hK K hHeld
        refine region_now ((Ext.refl (fun i => i = ob ∨ i = sb) _).setCell (p := ⟨sb, 0, none⟩) (fun _ => Or.inr rfl) _) ?_
        try simp only [Act.put, List.setIfInBounds_toArray, List.set_cons_zero, List.set_cons_succ]
        refine wpAnyH_done (by kernel_rfl) ?_ _
        rotate_left
        go_simp
        refine hK.out _ _ ((Ext.refl (fun i => i = ob ∨ i = sb) _).setCell (p := ⟨ob, k * 3 + 2, none⟩) (fun _ => Or.inl rfl) _) (fun hHeld => ?_)
        clear hK K hHeld
        refine region_now ((Ext.refl (fun i => i = ob ∨ i = sb) _).setCell (p := ⟨ob, k * 3 + 2, none⟩) (fun _ => Or.inl rfl) _) ?_
        try simp only [Act.put, List.setIfInBounds_toArray, List.set_cons_zero, List.set_cons_succ]
        refine wpAnyH_ready (rs := [6]) (by kernel_rfl) (by simp) (AllReadyH.cons rfl (fun K hK => ?_) AllReadyH.nil)
        go_simp
        refine hK.out _ _ (Ext.refl _ _) (fun hHeld => ?_)
        clear hK K hHeld
        refine region_now (Ext.refl _ _) ?_
        try simp only [Act.put, List.setIfInBounds_toArray, List.set_cons_zero, List.set_cons_succ]
        refine region_take 8 82 (v := ?vplq0q0q18) rfl rfl (by kernel_rfl) (by kernel_rfl) (by kernel_rfl) (fun _ _ _ h => h) (by rfl) (fun w' hS => ?hplq0q0q18) ?rplq0q0q18
        case hplq0q0q18 => go_simp; with_reducible rfl
        try simp only [Act.put, List.setIfInBounds_toArray, List.set_cons_zero, List.set_cons_succ]
        refine wpAnyH_ready (rs := [12]) (by kernel_rfl) (by simp) (AllReadyH.cons rfl (fun K hK => ?_) AllReadyH.nil)
        go_simp
        refine hK.out _ _ ((Ext.refl (fun i => i = ob ∨ i = sb) _).setCell (p := ⟨sb, 0, none⟩) (fun _ => Or.inr rfl) _) (fun hHeld => ?_)
        clear hK K hHeld
        refine region_now ((Ext.refl (fun i => i = ob ∨ i = sb) _).setCell (p := ⟨sb, 0, none⟩) (fun _ => Or.inr rfl) _) ?_
        try simp only [Act.put, List.setIfInBounds_toArray, List.set_cons_zero, List.set_cons_succ]
        refine wpAnyH_done (by kernel_rfl) ?_ _
        rotate_left
        go_simp
        refine hK.out _ _ (Ext.refl _ _) (fun hHeld => ?_)
        clear hK K hHeld
        refine region_now (Ext.refl _ _) ?_
        try simp only [Act.put, List.setIfInBounds_toArray, List.set_cons_zero, List.set_cons_succ]
        refine region_take 8 82 (v := ?vplq0q18) rfl rfl (by kernel_rfl) (by kernel_rfl) (by kernel_rfl) (fun _ _ _ h => h) (by rfl) (fun w' hS => ?hplq0q18) ?rplq0q18
        case hplq0q18 => go_simp; with_reducible rfl
        try simp only [Act.put, List.setIfInBounds_toArray, List.set_cons_zero, List.set_cons_succ]
        refine wpAnyH_ready (rs := [5]) (by kernel_rfl) (by simp) (AllReadyH.cons rfl (fun K hK => ?_) AllReadyH.nil)
        go_simp
        refine HCn.out.mono ?_
        rintro e w3 ⟨a3, c3, he3, hN3⟩
        rw [HNl.out] at he3
        subst he3
        have hX3 : Ext (fun i => i = ob ∨ i = sb) wr.drew w3 := hN3.ext.mono (fun _ _ e => e.elim)
        obtain ⟨⟨y, hy⟩, hf, qs', hCut'⟩ := HCut.out.step (Or.inl rfl) hlt HHC.out (show Pure wr w3 from ((Ext.refl (fun _ => False) wr).drew).pure hN3.ext) HJ.out (by rw [← HNew.out]; exact hN3.row) (by rw [← HNew.out]; exact HNl.out) ⟨by have := hN3.le; rw [HNl.out] at this; exact this, hN3.most, hN3.nil⟩ (fun g hg e => by have := hN3.fresh g hg; rcases e with e | e <;> omega)
        have s3 : w3.cell? ⟨sb, 0, none⟩ = some (.slice sa m m) := hN3.ext.cell_some s0 id
        have fs3 : w3.frozen? ⟨sb, 0, none⟩ = false := (HSh.out.box.drew.ext hN3.ext id).free 0
        refine hK.out _ _ (hX3) (fun hHeld => ?_)
        clear hK K hHeld
        refine region_now (hX3) ?_
        try simp only [Act.put, List.setIfInBounds_toArray, List.set_cons_zero, List.set_cons_succ]
        refine region_take 9 83 (v := ?vplq0q19) rfl rfl (by kernel_rfl) (by kernel_rfl) (by kernel_rfl) (fun _ _ _ h => h) (by rfl) (fun w' hS => ?hplq0q19) ?rplq0q19
        case hplq0q19 => go_simp; with_reducible rfl
        try simp only [Act.put, List.setIfInBounds_toArray, List.set_cons_zero, List.set_cons_succ]
        refine region_take 10 84 (v := ?vplq0q110) rfl rfl (by kernel_rfl) (by kernel_rfl) (by kernel_rfl) (fun _ _ _ h => h) (by rfl) (fun w' hS => ?hplq0q110) ?rplq0q110
        case hplq0q110 => go_simp; with_reducible rfl
        try simp only [Act.put, List.setIfInBounds_toArray, List.set_cons_zero, List.set_cons_succ]
        refine wpAnyH_ready (rs := [11]) (by kernel_rfl) (by simp) (AllReadyH.cons rfl (fun K hK => ?_) AllReadyH.nil)
        go_simp
        refine hK.out _ _ ((Ext.refl (fun i => i = ob ∨ i = sb) _).setCell (p := ⟨ob, k * 3 + 2, none⟩) (fun _ => Or.inl rfl) _) (fun hHeld => ?_)
        clear hK K hHeld
        refine region_now ((Ext.refl (fun i => i = ob ∨ i = sb) _).setCell (p := ⟨ob, k * 3 + 2, none⟩) (fun _ => Or.inl rfl) _) ?_
        try simp only [Act.put, List.setIfInBounds_toArray, List.set_cons_zero, List.set_cons_succ]
        refine wpAnyH_ready (rs := [12]) (by kernel_rfl) (by simp) (AllReadyH.cons rfl (fun K hK => ?_) AllReadyH.nil)
        go_simp
        refine hK.out _ _ ((Ext.refl (fun i => i = ob ∨ i = sb) _).setCell (p := ⟨sb, 0, none⟩) (fun _ => Or.inr rfl) _) (fun hHeld => ?_)
        clear hK K hHeld
        refine region_now ((Ext.refl (fun i => i = ob ∨ i = sb) _).setCell (p := ⟨sb, 0, none⟩) (fun _ => Or.inr rfl) _) ?_
        try simp only [Act.put, List.setIfInBounds_toArray, List.set_cons_zero, List.set_cons_succ]
        refine wpAnyH_done (by kernel_rfl) ?_ _
        rotate_left
        go_simp
        refine hK.out _ _ (Ext.refl _ _) (fun hHeld => ?_)
        clear hK K hHeld
        refine region_now (Ext.refl _ _) ?_
        try simp only [Act.put, List.setIfInBounds_toArray, List.set_cons_zero, List.set_cons_succ]
        refine region_take 8 82 (v := ?vplq18) rfl rfl (by kernel_rfl) (by kernel_rfl) (by kernel_rfl) (fun _ _ _ h => h) (by rfl) (fun w' hS => ?hplq18) ?rplq18
        case hplq18 => go_simp; with_reducible rfl
        try simp only [Act.put, List.setIfInBounds_toArray, List.set_cons_zero, List.set_cons_succ]
        refine wpAnyH_ready (rs := [2]) (by kernel_rfl) (by simp) (AllReadyH.cons rfl (fun K hK => ?_) AllReadyH.nil)
        go_simp
        refine hK.out _ _ (Ext.refl _ _) (fun hHeld => ?_)
        clear hK K hHeld
        refine region_now (Ext.refl _ _) ?_
        try simp only [Act.put, List.setIfInBounds_toArray, List.set_cons_zero, List.set_cons_succ]
        refine region_take 4 78 (v := ?vplq14) rfl rfl (by kernel_rfl) (by kernel_rfl) (by kernel_rfl) (fun _ _ _ h => h) (by rfl) (fun w' hS => ?hplq14) ?rplq14
        case hplq14 => go_simp; with_reducible rfl
        try simp only [Act.put, List.setIfInBounds_toArray, List.set_cons_zero, List.set_cons_succ]
        refine wpAnyH_ready (rs := [5]) (by kernel_rfl) (by simp) (AllReadyH.cons rfl (fun K hK => ?_) AllReadyH.nil)
        go_simp
        refine HCn.out.mono ?_
        rintro e w3 ⟨a3, c3, he3, hN3⟩
        rw [HNl.out] at he3
        subst he3
        have hX3 : Ext (fun i => i = ob ∨ i = sb) wr.drew w3 := hN3.ext.mono (fun _ _ e => e.elim)
        obtain ⟨⟨y, hy⟩, hf, qs', hCut'⟩ := HCut.out.step (Or.inl rfl) hlt HHC.out (show Pure wr w3 from ((Ext.refl (fun _ => False) wr).drew).pure hN3.ext) HJ.out (by rw [← HNew.out]; exact hN3.row) (by rw [← HNew.out]; exact HNl.out) ⟨by have := hN3.le; rw [HNl.out] at this; exact this, hN3.most, hN3.nil⟩ (fun g hg e => by have := hN3.fresh g hg; rcases e with e | e <;> omega)
        have s3 : w3.cell? ⟨sb, 0, none⟩ = some (.slice sa m m) := hN3.ext.cell_some s0 id
        have fs3 : w3.frozen? ⟨sb, 0, none⟩ = false := (HSh.out.box.drew.ext hN3.ext id).free 0
        refine hK.out _ _ (hX3) (fun hHeld => ?_)
        clear hK K hHeld
        refine region_now (hX3) ?_
        try simp only [Act.put, List.setIfInBounds_toArray, List.set_cons_zero, List.set_cons_succ]
        refine region_take 9 83 (v := ?vplq19) rfl rfl (by kernel_rfl) (by kernel_rfl) (by kernel_rfl) (fun _ _ _ h => h) (by rfl) (fun w' hS => ?hplq19) ?rplq19
        case hplq19 => go_simp; with_reducible rfl
        try simp only [Act.put, List.setIfInBounds_toArray, List.set_cons_zero, List.set_cons_succ]
        refine region_take 10 84 (v := ?vplq110) rfl rfl (by kernel_rfl) (by kernel_rfl) (by kernel_rfl) (fun _ _ _ h => h) (by rfl) (fun w' hS => ?hplq110) ?rplq110
        case hplq110 => go_simp; with_reducible rfl
        try simp only [Act.put, List.setIfInBounds_toArray, List.set_cons_zero, List.set_cons_succ]
        refine wpAnyH_ready (rs := [11]) (by kernel_rfl) (by simp) (AllReadyH.cons rfl (fun K hK => ?_) AllReadyH.nil)
        go_simp
        refine hK.out _ _ ((Ext.refl (fun i => i = ob ∨ i = sb) _).setCell (p := ⟨ob, k * 3 + 2, none⟩) (fun _ => Or.inl rfl) _) (fun hHeld => ?_)
        clear hK K hHeld
        refine region_now ((Ext.refl (fun i => i = ob ∨ i = sb) _).setCell (p := ⟨ob, k * 3 + 2, none⟩) (fun _ => Or.inl rfl) _) ?_
        try simp only [Act.put, List.setIfInBounds_toArray, List.set_cons_zero, List.set_cons_succ]
        refine wpAnyH_ready (rs := [12]) (by kernel_rfl) (by simp) (AllReadyH.cons rfl (fun K hK => ?_) AllReadyH.nil)
        go_simp
        refine hK.out _ _ ((Ext.refl (fun i => i = ob ∨ i = sb) _).setCell (p := ⟨sb, 0, none⟩) (fun _ => Or.inr rfl) _) (fun hHeld => ?_)
        clear hK K hHeld
        refine region_now ((Ext.refl (fun i => i = ob ∨ i = sb) _).setCell (p := ⟨sb, 0, none⟩) (fun _ => Or.inr rfl) _) ?_
        try simp only [Act.put, List.setIfInBounds_toArray, List.set_cons_zero, List.set_cons_succ]
        refine wpAnyH_done (by kernel_rfl) ?_ _
        rotate_left
        all_goals
          obtain ⟨w4, hw4⟩ : ∃ z, z = w3.setCell ⟨ob, k * 3 + 2, none⟩ (.slice a3 c' c3) := ⟨_, rfl⟩
          have hX4 : Ext (fun i => i = ob) w3 w4 := hw4 ▸ (Ext.refl (fun i => i = ob) w3).setCell (p := ⟨ob, k * 3 + 2, none⟩) (fun _ => rfl) _
          rw [← hw4] at hCut'
          rw [← hw4]
          have hX04 : Ext (fun i => i = ob) wr w4 := (((Ext.refl (fun _ => False) wr).drew).pure hN3.ext).trans' hX4 (fun _ _ e => e.elim) (fun _ _ e => e)
          have hSh5 := HSh.out.step HDl.out hcm hX04 (by omega) (by omega) (by omega)
          have hX5 : Ext (fun i => i = sb) w4 (w4.setCell ⟨sb, 0, none⟩ (.slice (if m = c' then sa else sa.map fun x => x.add c') (m - c') (m - c'))) := (Ext.refl (fun i => i = sb) w4).setCell (p := ⟨sb, 0, none⟩) (fun _ => rfl) _
          have hCut5 := hCut'.other hX5 (Or.inr rfl) (by omega)
          generalize (if m = c' then sa else sa.map fun x => x.add c') = saN at hSh5 hCut5 ⊢
          generalize w4.setCell ⟨sb, 0, none⟩ (.slice saN (m - c') (m - c')) = w5 at hSh5 hCut5 ⊢
          clear hw4 hX4 hX04 hX5 hCut' hX3 hN3 s3 fs3 hy hf ku u0 s0
          go_wp2_with fail
          go_roundw
          case rel =>
            refine ⟨k + 1, qs', saN, by omega, by go_num, hCut5, ?_⟩
            rw [HJ1.out, show t - (j + c') = m - c' from by have := HM.out; omega, ← List.drop_drop]
            exact hSh5
          case measure => simp [intOf]; omega
      · have hki : ¬ (k : Int) < (N : Int) := by omega
        obtain rfl : N = k := by omega
        have u0 : wr.cell? ⟨ub, 0, none⟩ = some (.slice (some ⟨ob, 0, none⟩) N N) := (hB15.u.ext hcE (fun e => by rcases e with e | e <;> omega)).cell 0
        have HCut := Lib.hid hCut
        have hSE := hS15.ext hcE (fun e => by rcases e with e | e <;> omega) (fun e => by rcases e with e | e <;> omega) (fun g hg e => by have := halt g hg; rcases e with e | e <;> omega)
        have hXE := hXW15.trans hcE (fun i hi e => by rcases e with e | e <;> omega)
        clear hCut hSh hj hcE
        go_wp2_with fail
        go_ret
        have HC7 := HFF.out
        refine ⟨some ⟨ob, 0, none⟩, N, N, q7', er7, rfl, hSE, hXE, ?_⟩
        by_cases he7 : er7 = 0
        · subst he7
          obtain ⟨z4, hG⟩ := HC7.2 rfl
          refine Or.inr ⟨rfl, HR14.out _ hG, ?_, rfl, qs, HCut.out.hints, HCut.out.out.len, resV_of qs _ ?_ ?_ ?_⟩
          · rw [HD7.out rfl]; exact HQ7.out
          · rw [HCut.out.hos, HOs.out]; simp only [good, List.map_map, HV0.out, HV2.out]; rfl
          · rw [HCut.out.hls, HLs.out]; simp only [good, List.map_map, HV3.out, HV4.out, q1, HV2.out]; rfl
          · have h1 := HCut.out.hsh
            rw [List.take_of_length_le (by have := HCut.out.out.len; omega), List.take_of_length_le (by rw [HCl.out]; exact Nat.le_refl _)] at h1
            rw [h1, (HD4.out z4).2]
            simp only [good, cnts]
            rw [HX1.out, HX2.out]
        · exact Or.inl ⟨he7, HR14.out _ (HC7.1 he7)⟩
  · have hne3 : (er3 != 0) = true := by simpa using he3
    have HRe := Lib.hid (HC3.out.1 he3)
    clear HC3 he3
    go_wp2_with fail
    go_ret
    exact ⟨none, 0, 0, q3', er3, rfl, hS9, hXW9, Or.inl ⟨by simpa using hne3, HRe.out⟩⟩
end Go.Proofs.Ytdhejhgpjeenaaa
