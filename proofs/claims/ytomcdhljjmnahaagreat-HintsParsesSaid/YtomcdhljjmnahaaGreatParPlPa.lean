import Derived.Test.YtomcdhljjmnahaaGreatObjHPa
import Derived.Test.YtomcdhljjmnahaaGreatSqPa
set_option linter.unusedVariables false
set_option linter.unusedSimpArgs false
namespace Go.Proofs.YtomcdhljjmnahaaGreat
open Go.RowKit
def pv3 (p : PH) : Int × Int × List Int := (p.o, p.l, p.sh)
def intsN (l : List Nat) : List Int := l.map (fun x : Nat => (x : Int))
def hOf (l : LT) (d : P26.DRes) (qs : List PH) (r : S27.DRes) : HT := ⟨l.fo, d.a, qs, r.o, r.a, r.f, intsN r.ls⟩
def zeroH : HT := ⟨0, 0, [], 0, 0, 0, []⟩
def parN (o : Ob) : Int := (o.v.get keyS).1.n
def parOk (o : Ob) : Prop := o.st = true ∧ (o.v.get keyS).1.kind = 2 ∧ 0 ≤ parN o ∧ parN o ≤ o.data.size
def b1 (o : Ob) : List UInt8 := (o.data.extract 0 (parN o).toNat).data.toList
def b2 (o : Ob) : List UInt8 := (o.data.extract (parN o).toNat o.data.size).data.toList
def ParP (o : Ob) (l : LT) (H : HT) (er : Int) : Prop :=
 (¬ parOk o ∧ H = zeroH ∧ er = 27) ∨ (parOk o ∧
  ((H = zeroH ∧ er = 27 ∧ ∃ d, P26.DecTo (bitsOf true (b1 o)) l.pg d ∧ d.e ≠ 0) ∨
   (H = zeroH ∧ er = 27 ∧ ∃ r, S27.DecTo (bitsOf true (b2 o)) r ∧ r.e ≠ 0) ∨
   (∃ d r qs, P26.DecTo (bitsOf true (b1 o)) l.pg d ∧ d.e = 0 ∧ S27.DecTo (bitsOf true (b2 o)) r ∧ r.e = 0 ∧ qs.map pv3 = P26.resV d ∧
    ((chkE (hOf l d qs r) l = 0 ∧ H = hOf l d qs r ∧ er = 0) ∨ (chkE (hOf l d qs r) l ≠ 0 ∧ H = zeroH ∧ er = 27)))))
theorem vals26 (bs : List Bool) (p w k : Nat) : (C26.vals bs p w k).length = k := by simp [C26.vals]
theorem vals27 (bs : List Bool) (p w k : Nat) : (C27.vals bs p w k).length = k := by simp [C27.vals]
theorem cut_small (cs : List Nat) : ∀ (xs : List Nat), ∀ row ∈ P26.cut cs xs, row.length ≤ xs.length := by
 induction cs with
 | nil => intro xs row h; cases h
 | cons c cs ih =>
   intro xs row h
   rcases List.mem_cons.1 h with rfl | h
   ·rw [List.length_take]; omega
   ·have := ih _ _ h
    rw [List.length_drop] at this
    omega
theorem first_get {E : Int → Prop} {r : P26.DRes} {k : Prop} (h : P26.First E r k) (he : r.e = 0) : (∃ e, E e ∧ e = 0) ∧ k := by
 obtain ⟨e, h1, ⟨h2, rfl⟩ | ⟨h2, h3⟩⟩ := h
 ·exact absurd he h2
 ·exact ⟨⟨e, h1, h2⟩, h3⟩
theorem dec26_small {bs : List Bool} {n : Int} {d : P26.DRes} (h : P26.DecTo bs n d) (he : d.e = 0) : ∀ row ∈ d.shs, row.length ≤ 65536 := by
 rcases h with ⟨_, rfl⟩ | ⟨_, ⟨_, rfl⟩ | ⟨_, ⟨_, rfl⟩ | ⟨_, h⟩⟩⟩
 ·cases he
 ·cases he
 ·cases he
 ·have h2 := (first_get h he).2
  have h3 := (first_get h2 he).2
  obtain ⟨⟨e, h4, rfl⟩, h5⟩ := first_get h3 he
  have h6 := (first_get (first_get (first_get (first_get h5 he).2 he).2 he).2 he).2
  subst h6
  have hc := (P26.RowE.zero h4 rfl).2
  intro row hr
  have := cut_small _ _ _ hr
  rw [vals26] at this
  unfold P26.okC at hc
  exact Nat.le_trans this hc
theorem dec27_small {bs : List Bool} {r : S27.DRes} (h : S27.DecTo bs r) : r.ls.length ≤ 4096 := by
 rcases h with ⟨_, rfl⟩ | ⟨_, ⟨_, rfl⟩ | ⟨hk, s', out, hr, ⟨_, rfl⟩ | ⟨h0, rfl⟩⟩⟩
 ·exact Nat.zero_le _
 ·exact Nat.zero_le _
 ·exact Nat.zero_le _
 ·obtain ⟨K, _, ⟨_, h2⟩ | ⟨_, ⟨_, h2⟩ | ⟨_, _, h3⟩⟩⟩ := hr
  ·rw [h0] at h2; cases h2
  ·rw [h0] at h2; cases h2
  ·simp only [h3, List.length_map]
   rw [vals27]
   exact hk.2.2.1
theorem dec_mod {bs : List Bool} {n : Int} {d : P26.DRes} {qs : List PH} (h : P26.DecTo bs n d) (he : d.e = 0) (hq : qs.map pv3 = P26.resV d) (hl : qs.length ≤ 2048) : P26.Mod2 qs := by
 refine ⟨by omega, fun p hp => ?_⟩
 have hm : pv3 p ∈ P26.resV d := by rw [← hq]; exact List.mem_map_of_mem hp
 unfold P26.resV at hm
 obtain ⟨t, ht, e⟩ := List.mem_map.1 hm
 have h1 := (List.of_mem_zip (List.of_mem_zip ht).2).2
 have h2 := dec26_small h he _ h1
 have h3 : p.sh = t.2.2.map (fun x : Nat => (x : Int)) := (congrArg (fun z => z.2.2) e).symm
 rw [h3, List.length_map]
 exact Nat.le_trans h2 (by decide)
theorem dec26_pos {bs : List Bool} {n : Int} {d : P26.DRes} (h : P26.DecTo bs n d) (he : d.e = 0) : ∀ x ∈ d.os, 1 ≤ x := by
 rcases h with ⟨_, rfl⟩ | ⟨_, ⟨_, rfl⟩ | ⟨_, ⟨_, rfl⟩ | ⟨_, h⟩⟩⟩
 ·cases he
 ·cases he
 ·cases he
 ·obtain ⟨⟨e, h1, rfl⟩, h2⟩ := first_get h he
  have h3 := (first_get h2 he).2
  have h6 := (first_get (first_get (first_get (first_get (first_get h3 he).2 he).2 he).2 he).2 he).2
  subst h6
  have hc := (P26.RowE.zero h1 rfl).2
  intro x hx
  obtain ⟨y, hy, rfl⟩ := List.mem_map.1 hx
  have := P26.inB_true.1 (hc y hy)
  omega
theorem dec27_pos {bs : List Bool} {r : S27.DRes} (h : S27.DecTo bs r) : ∀ x ∈ r.ls, 1 ≤ x := by
 rcases h with ⟨_, rfl⟩ | ⟨_, ⟨_, rfl⟩ | ⟨hk, s', out, hr, ⟨_, rfl⟩ | ⟨h0, rfl⟩⟩⟩
 ·intro x hx; cases hx
 ·intro x hx; cases hx
 ·intro x hx; cases hx
 ·obtain ⟨K, hF, ⟨_, h2⟩ | ⟨hall, ⟨_, h2⟩ | ⟨hfit, h3, h4⟩⟩⟩ := hr
  ·rw [h0] at h2; cases h2
  ·rw [h0] at h2; cases h2
  ·intro x hx
   simp only [h4] at hx
   obtain ⟨y, hy, rfl⟩ := List.mem_map.1 hx
   have hK : K = S27.hN bs := by
    refine hF.unique ⟨Nat.le_refl _, hfit.1, fun h => absurd h (Nat.lt_irrefl _)⟩
   rw [hK] at hall
   have := S27.inB_true.1 (hall y hy)
   omega
theorem HMem.store {W W' : World} {h : HT} {pa la : Option Addr} {pc lc B : Nat} (H : HMem W h pa pc la lc) (e : Ext (fun i => i = B) W W') (h0 : ∀ (k : Nat) (v : Int), W.cell? ⟨B, k, none⟩ = some (.int .i64 v) → v = 0)
 (hp : ∀ p ∈ h.ps, 1 ≤ p.o) (hs : ∀ x ∈ h.sh, 1 ≤ x) (hf : ∀ p ∈ h.ps, ∀ g, p.sa = some g → g.block ≠ B) : HMem W' h pa pc la lc := by
 refine ⟨?_, ?_, H.pn, H.sn, H.lcap, H.lnil⟩
 ·by_cases hz : 0 < h.ps.length
  ·refine H.pages.ext e (fun a ha => ?_) hf
   obtain ⟨b, o, hb, c0, _, _⟩ := H.pages.at 0 hz
   rw [ha] at hb
   cases hb
   intro hB
   have hB' : b = B := hB
   subst hB'
   have h1 := h0 _ _ c0
   have h2 := hp _ (List.getElem_mem hz)
   omega
  ·obtain ⟨fo, fa, ps, so, sa, sf, sh⟩ := h
   obtain rfl : ps = [] := List.length_eq_zero_iff.1 (by simp only at hz; omega)
   exact ⟨row_nil _ _, (fun p hp => by cases hp), (fun p hp => by cases hp)⟩
 ·by_cases hz : 0 < h.sh.length
  ·refine RowOf.ext H.share e (fun a ha => ?_)
   obtain ⟨b, o, hb, c0⟩ := zV_at H.share 0 hz
   rw [ha] at hb
   cases hb
   intro hB
   have hB' : b = B := hB
   subst hB'
   have h1 := h0 _ _ c0
   have h2 := hs _ (List.getElem_mem hz)
   omega
  ·have hz2 : h.sh = [] := List.length_eq_zero_iff.1 (by omega)
   rw [hz2]
   exact row_nil _ _
theorem zero_block {W : World} {b : Nat} {T : TypeId} (h : BlockIs W b [.int .i64 0, .int .i64 0, .slice none 0 0, .int .i64 0, .int .i64 0, .int .i64 0, .slice none 0 0] T) : ∀ (k : Nat) (v : Int), W.cell? ⟨b, k, none⟩ = some (.int .i64 v) → v = 0 := by
 intro k v hv
 rw [h.cell k] at hv
 match k, hv with
 | 0, hv => cases hv; rfl
 | 1, hv => cases hv; rfl
 | 2, hv => cases hv
 | 3, hv => cases hv; rfl
 | 4, hv => cases hv; rfl
 | 5, hv => cases hv; rfl
 | 6, hv => cases hv
 | k + 7, hv => simp at hv
theorem pos_of {bs : List Bool} {n : Int} {d : P26.DRes} {qs : List PH} (h : P26.DecTo bs n d) (he : d.e = 0) (hq : qs.map pv3 = P26.resV d) : ∀ p ∈ qs, 1 ≤ p.o := by
 intro p hp
 have hm : pv3 p ∈ P26.resV d := by rw [← hq]; exact List.mem_map_of_mem hp
 unfold P26.resV at hm
 obtain ⟨t, ht, e⟩ := List.mem_map.1 hm
 have h1 := dec26_pos h he _ (List.of_mem_zip ht).1
 have h3 : p.o = (t.1 : Int) := (congrArg (fun z => z.1) e).symm
 omega
theorem zero_mem (W : World) : HMem W zeroH none 0 none 0 :=
 ⟨⟨row_nil _ _, (fun p hp => by cases hp), (fun p hp => by cases hp)⟩, row_nil _ _, Nat.zero_le _, Nat.zero_le _, ⟨Nat.le_refl _, Nat.le_refl _⟩, fun _ => rfl⟩
