import Derived.Test.YtipmbcalnnomjaaGreatSeenWVw
import Derived.Test.YtipmbcalnnomjaaGreatClosVw
import Derived.Test.YtipmbcalnnomjaaGreatOrderOfVw
import Derived.Deep.DeepCutAuto
import Derived.Test.YtipmbcalnnomjaaGreatSqVw
set_option linter.unusedVariables false
set_option linter.unusedSimpArgs false
set_option maxRecDepth 100000
namespace Go.Proofs.YtipmbcalnnomjaaGreat
open Go.RowKit Go.Maps
theorem top_in {A : Nat → Prop} {w0 W : World} {d : Nat} {v : V} {cs : List Value} (h : Top w0 W d v cs) (hP : Pure w0 W) (hA : ∀ b, b < w0.heap.size → A b) (hrow : v.l ≠ [] → ∀ x n c, cs[3]? = some (.slice (some x) n c) → A x.block) : LiesIn A W (d + 1) v cs := by
 obtain ⟨a, c, xs, h1, h2, h3, h4, h5, h6, h7⟩ := h
 obtain ⟨rows, rfl, e1, e2, e3⟩ := h5.rows
 refine ⟨a, c, rows, h1, e1, e2, h6, h2, h3, fun e => (h4 e).2, fun i u r hu hr => LiesIn.pure hP ((e3 i u r hu hr).within.mono (fun b _ hb => hA b hb)), h7, fun x hx hne => ?_⟩
 subst hx
 refine hrow (fun e => ?_) x v.l.length c (by rw [h1]; rfl)
 rw [e] at e1
 exact hne (List.length_eq_zero_iff.1 e1)
theorem drop_in {w wd W : World} {d : Nat} {v : V} {cs cs' : List Value} {key : ByteArray} (hL : Lies w (d + 1) v cs) (hT : Top w W d (v.dropped key) cs') (hP : Pure w W) (hO : ∀ b, b < wd.heap.size → Off b cs → Off b cs') :
 LiesIn (fun b => b < w.heap.size ∨ wd.heap.size ≤ b) W (d + 1) (v.dropped key) cs' := by
 refine top_in hT hP (fun b hb => Or.inl hb) (fun hne x n c hx => ?_)
 by_cases h1 : x.block < w.heap.size
 ·exact Or.inl h1
 ·by_cases h2 : wd.heap.size ≤ x.block
  ·exact Or.inr h2
  ·exfalso
   refine hO x.block (by omega) (fun y m c' hy e => ?_) x n c hx rfl
   have hvl : v.l ≠ [] := fun e0 => hne (by
    have := dropped_len v key
    rw [e0] at this
    exact List.length_eq_zero_iff.1 (Nat.le_zero.1 this))
   obtain ⟨a, c2, rows, q1, q2, _, _, _, _, _, _, _, q10⟩ := hL.within
   rw [q1] at hy
   cases hy
   have := q10 y rfl (fun e0 => hvl (by rw [e0] at q2; exact List.length_eq_zero_iff.1 q2.symm))
   omega
theorem ObsIn.snoc {A : Nat → Prop} {W : World} {d : Nat} {l : List Ob} {rows : List (List Value)} (h : ObsIn A W d l rows) {o : Ob} {cs : List Value} (hL : LiesIn A W d o.v cs) : ObsIn A W d (l ++ [o]) (rows ++ [cs ++ [.bool o.st, .string o.data]]) := by
 refine ⟨by rw [List.length_append, List.length_append, h.len]; rfl, fun r hr => ?_, fun i u r hu hr => ?_⟩
 ·rcases List.mem_append.1 hr with hr | hr
  ·exact h.six r hr
  ·rw [List.mem_singleton] at hr
   rw [hr, List.length_append, hL.lies.len]
   rfl
 ·by_cases hi : i < l.length
  ·rw [List.getElem?_append_left hi] at hu
   rw [List.getElem?_append_left (by rw [h.len]; exact hi)] at hr
   exact h.lies i u r hu hr
  ·have hi2 : i = l.length := by
    have := (List.getElem?_eq_some_iff.1 hu).1
    rw [List.length_append, List.length_singleton] at this
    omega
   subst hi2
   rw [List.getElem?_append_right (Nat.le_refl _), Nat.sub_self] at hu
   rw [List.getElem?_append_right (by rw [h.len]; exact Nat.le_refl _), h.len, Nat.sub_self] at hr
   cases hu
   cases hr
   exact ⟨cs, rfl, hL⟩
structure RenI (w w4 : World) (d pb : Nat) (l : List Ob) (tl : List Value) (oa : Option Addr) (oc : Nat) (rows : List (List Value)) (W : World) : Prop where
 blk : BlockIs W pb (.slice oa l.length oc :: tl) 50
 row : W.ownsRow w4.heap.size 61 6 (.slice oa l.length oc) l.length (rows.flatMap id)
 obs : ObsIn (fun b => b < w.heap.size ∨ (w4.heap.size ≤ b ∧ b < W.heap.size ∧ ∀ x, oa = some x → x.block ≠ b)) W (d + 1) l rows
 ext : Ext (fun b => b = pb) w4 W
 lo : w.heap.size ≤ pb ∧ pb < w4.heap.size
section
variable {w w4 W W' : World} {d pb : Nat} {l : List Ob} {tl : List Value} {oa : Option Addr} {oc : Nat} {rows : List (List Value)}
theorem RenI.pure (h : RenI w w4 d pb l tl oa oc rows W) (hP : Pure W W') : RenI w w4 d pb l tl oa oc rows W' :=
 ⟨h.blk.ext hP id, own_ext h.row hP (fun _ _ => id), (h.obs.ext hP (fun _ _ => id)).mono (fun b hb => hb.imp id (fun q => ⟨q.1, Nat.lt_of_lt_of_le q.2.1 hP.size, q.2.2⟩)), h.ext.trans hP (fun _ _ e => e.elim), h.lo⟩
theorem RenI.step (h : RenI w w4 d pb l tl oa oc rows W) {W6 : World} {a6 : Option Addr} {c6 : Nat} {o : Ob} {cs : List Value}
 (hL : LiesIn (fun b => b < w.heap.size ∨ (w4.heap.size ≤ b ∧ ∀ x, oa = some x → x.block ≠ b)) W (d + 1) o.v cs)
 (hO : W6.ownsRow w4.heap.size 61 6 (.slice a6 (l.length + 1) c6) (l.length + 1) (rows.flatMap id ++ (cs ++ [.bool o.st, .string o.data]))) (hg : W.grownBy W6 (Value.slice oa l.length oc).ownBlock)
 (hf : ∀ x, a6 = some x → (Value.slice oa l.length oc).ownBlock = some x.block ∨ W.heap.size ≤ x.block) :
 RenI w w4 d pb (l ++ [o]) tl a6 c6 (rows ++ [cs ++ [.bool o.st, .string o.data]]) (W6.setCell ⟨pb, 0, none⟩ (.slice a6 (l.length + 1) c6)) := by
 have hE := ext_of_grown hg
 have hlo := h.lo
 have hown : ∀ k, (Value.slice oa l.length oc).ownBlock = some k → ∃ x : Addr, oa = some x ∧ x.block = k := fun k hk => by
  cases oa with
  | none => cases hk
  | some x => exact ⟨x, rfl, Option.some.inj hk⟩
 have hpb : ¬ (Value.slice oa l.length oc).ownBlock = some pb := fun e => by have := (h.row.lt pb e).1; omega
 have hX : Ext (fun b => b = pb) W6 (W6.setCell ⟨pb, 0, none⟩ (.slice a6 (l.length + 1) c6)) := Ext.setCell (S := fun b => b = pb) (Ext.refl _ _) (p := ⟨pb, 0, none⟩) (fun _ => rfl) _
 have hs := hE.size
 have hl1 : (l ++ [o]).length = l.length + 1 := by rw [List.length_append, List.length_singleton]
 refine ⟨?_, ?_, ?_, ?_, hlo⟩
 ·rw [hl1]
  exact (h.blk.ext hE hpb).set 0 (.slice a6 (l.length + 1) c6)
 ·rw [hl1, List.flatMap_append, show ([cs ++ [Value.bool o.st, Value.string o.data]]).flatMap id = cs ++ [Value.bool o.st, Value.string o.data] by simp]
  exact own_ext hO hX (fun g hg e => by have := (hO.lt g hg).1; omega)
 ·have h1 : ObsIn (fun b => b < w.heap.size ∨ (w4.heap.size ≤ b ∧ b < W.heap.size ∧ ∀ x, oa = some x → x.block ≠ b)) W (d + 1) (l ++ [o]) (rows ++ [cs ++ [.bool o.st, .string o.data]]) := h.obs.snoc (hL.mono (fun b hb q => q.imp id (fun q => ⟨q.1, hb, q.2⟩)))
  have h2 := h1.ext hE (fun b hb e => by
   obtain ⟨x, hx, hxb⟩ := hown b e
   have := (h.row.lt b e).1
   rcases hb with hb | hb
   ·omega
   ·exact hb.2.2 x hx hxb)
  have h3 := h2.ext hX (fun b hb e => by rcases hb with hb | hb <;> omega)
  refine h3.mono (fun b hb => hb.imp id (fun q => ⟨q.1, by have := hX.size; omega, fun x hx e => ?_⟩))
  rcases hf x hx with hf | hf
  ·obtain ⟨y, hy, hyb⟩ := hown _ hf
   exact q.2.2 y hy (hyb.trans e)
  ·omega
 ·exact (h.ext.trans hE (fun i hi e => by have := (h.row.lt i e).1; omega)).trans hX (fun _ _ e => e)
end
theorem take_snoc {α : Type _} {l : List α} {k : Nat} {x : α} (h : l[k]? = some x) : l.take (k + 1) = l.take k ++ [x] := by
 obtain ⟨hk, rfl⟩ := List.getElem?_eq_some_iff.1 h
 exact List.take_succ_eq_append_getElem hk
def firstV (k : Nat) (v : V) : V := if k = 0 then v.dropped "Parent".toUTF8 else v
def RenSt (w wd : World) (d bk : Nat) (v1 : V) (st : Bool) (dt : ByteArray) (W : World) : Prop :=
 ∃ cs, BlockIs W bk (cs ++ [.bool st, .string dt]) 61 ∧ LiesIn (fun b => b < w.heap.size ∨ wd.heap.size ≤ b) W (d + 1) v1 cs ∧ Ext (fun b => b = bk) wd W
structure ObsOld (w0 W : World) (d : Nat) (l : List Ob) (a : Option Addr) (rows : List (List Value)) : Prop where
 len : rows.length = l.length
 six : ∀ r ∈ rows, r.length = 6
 row : RowOf W a (rows.flatMap id)
 lies : ∀ (i : Nat) (o : Ob) (r : List Value), l[i]? = some o → rows[i]? = some r → ∃ cs, r = cs ++ [.bool o.st, .string o.data] ∧ Lies w0 d o.v cs
theorem ObsOld.at {w0 W : World} {d : Nat} {l : List Ob} {a : Option Addr} {rows : List (List Value)} (h : ObsOld w0 W d l a rows) (k : Nat) (u : Ob) (hk : l[k]? = some u) :
 ∃ b o cs, a = some ⟨b, o, none⟩ ∧ W.rangeAt b (o + k * 6) cs ∧ cs.length = 4 ∧ Lies w0 d u.v cs ∧ W.rangeAt b (o + k * 6) (cs ++ [.bool u.st, .string u.data]) := by
 obtain ⟨hkl, rfl⟩ := List.getElem?_eq_some_iff.1 hk
 have hkr : k < rows.length := by rw [h.len]; exact hkl
 have h6 := h.six _ (List.getElem_mem hkr)
 obtain ⟨cs, hcs, hL⟩ := h.lies k _ _ hk (List.getElem?_eq_getElem hkr)
 have h4 : cs.length = 4 := by have := congrArg List.length hcs; rw [h6] at this; simp at this; omega
 have hg : ∀ j, j < 6 → (rows.flatMap id)[k * 6 + j]? = rows[k][j]? := fun j hj => flat_get id rows (fun r hr => h.six r hr) k hkr j hj
 obtain ⟨b, o, ha, _⟩ := h.row (k * 6 + 0) _ ((hg 0 (by omega)).trans (List.getElem?_eq_getElem (by omega)))
 have hr : W.rangeAt b (o + k * 6) (cs ++ [.bool l[k].st, .string l[k].data]) := fun j v hv => by
  rw [← hcs] at hv
  have hj : j < 6 := by have := (List.getElem?_eq_some_iff.1 hv).1; omega
  obtain ⟨b', o', ha', hc⟩ := h.row (k * 6 + j) v ((hg j hj).trans hv)
  rw [ha] at ha'
  cases ha'
  rw [Nat.add_assoc]; exact hc
 exact ⟨b, o, cs, ha, fun j v hv => hr j v (by rw [List.getElem?_append_left (by have := (List.getElem?_eq_some_iff.1 hv).1; omega)]; exact hv), h4, hL, hr⟩
def RenTo (w0 : World) (B : Nat → Prop) (P : PageP) (d : Nat) (w : World) (e : Ending) (w' : World) : Prop :=
 ∃ oa oc rows gcs, e = .returned (.agg (Value.slice oa P.obs.length oc :: gcs).toArray) ∧ ObsIn (fun b => b < w0.heap.size ∨ w.heap.size ≤ b) w' (d + 1) P.obs rows ∧ RowOf w' oa (rows.flatMap id) ∧ (∀ x, oa = some x → w.heap.size ≤ x.block) ∧ LiesIn (fun b => B b ∨ w.heap.size ≤ b) w' (d + 1) P.given gcs ∧ Pure w w'
end Go.Proofs.YtipmbcalnnomjaaGreat
namespace Go.Proofs.YtipmbcalnnomjaaGreat
open Go.RowKit Go.Maps
theorem zip_take {row : List Int} {k : Nat} {x : Int} (h : row[k]? = some x) : (row.zipIdx 1).take (k + 1) = (row.zipIdx 1).take k ++ [(x, k + 1)] := by
 refine take_snoc ?_
 rw [List.getElem?_zipIdx, h]
 show some (x, 1 + k) = some (x, k + 1)
 rw [Nat.add_comm]
theorem zip_pos {row : List Int} {k : Nat} : ∀ q ∈ (row.zipIdx 1).take k, 0 < q.2 := fun q hq => by
 have := List.mem_zipIdx (x := q.1) (i := q.2) (List.mem_of_mem_take hq)
 omega
theorem sizePg : (Tryz.prog.info? 50).map (·.size) = some 5 := by kernel_rfl
theorem intsV_at (l : List Int) (i : Nat) : (intsV l)[i]? = l[i]?.map (Value.int .i64) := by rw [intsV, List.getElem?_map]
set_option maxHeartbeats 8000000 in
theorem renum_any (d : Nat) (obs : List Ob) (row : List Int) (ra oa : Option Addr) (rc oc : Nat) (rws : List (List Value)) (g : V) (gcs : List Value) (w0 w : World) (hP0 : Pure w0 w) (B : Nat → Prop) (hBw : ∀ b, B b → b < w.heap.size)
 (hR : RowOf w ra (intsV row)) (hOK : ObsOld w0 w (d + 1) obs oa rws) (hg : LiesIn B w (d + 1) g gcs) (hrl : row.length ≤ 1000000) (hol : obs.length ≤ 1000000) (hsz : ∀ o ∈ obs, o.v.size ≤ 100000) (hgz : g.size ≤ 100000) :
 Calls Tryz.prog 41 #[.slice ra row.length rc, .slice oa obs.length oc, .agg gcs.toArray] w (RenTo w0 B ⟨obs.mapIdx (seenOb (rowTo row)), g.seen (rowTo row)⟩ d w) := by
 have HP0 := qh hP0
 have HBw := qh hBw
 have HWw : Hid (w0.heap.size ≤ w.heap.size) := qh hP0.size
 obtain ⟨TO, hTO⟩ : ∃ z, z = rowTo row := ⟨_, rfl⟩
 obtain ⟨M, hM⟩ : ∃ z : Nat, z = 4096 := ⟨_, rfl⟩
 have HTl : Hid (TO.length = M) := qh (by rw [hTO, rowTo_len, hM])
 have HTo : Hid (TO = toP (row.zipIdx 1) M) := qh (by rw [hTO, hM]; rfl)
 rw [← hTO]
 have HM := qh hM
 have hMb : M ≤ 5000 := by omega
 obtain ⟨gk, gn, gs, ga, gm, gc, hgcs⟩ := hg.lies.form
 rw [hgcs] at hg ⊢
 obtain ⟨n, hn⟩ : ∃ z, z = row.length := ⟨_, rfl⟩
 obtain ⟨m, hm⟩ : ∃ z, z = obs.length := ⟨_, rfl⟩
 rw [← hn] at hrl ⊢
 rw [← hm] at hol ⊢
 have HN := qh hn
 have HMm := qh hm
 have HR := qh hR
 have HOK := qh hOK
 have HGl := qh hg
 have HSz := qh hsz
 have HGz := qh hgz
 obtain ⟨tb, htb⟩ : ∃ z, z = w.heap.size := ⟨_, rfl⟩
 obtain ⟨w2, hw2⟩ : ∃ z, z = (w.alloc (.cells #[.int .i64 gk, .int .i64 gn, .string gs, .slice ga gm gc] 48)).alloc (.cells #[.slice none 0 0, .int .i64 0, .int .i64 0, .string ⟨#[]⟩, .slice none 0 0] 50) := ⟨_, rfl⟩
 have HW2 : Hid ((w.alloc (.cells #[.int .i64 gk, .int .i64 gn, .string gs, .slice ga gm gc] 48)).alloc (.cells #[.slice none 0 0, .int .i64 0, .int .i64 0, .string ⟨#[]⟩, .slice none 0 0] 50) = w2) := qh hw2.symm
 have HB1 : Hid (BlockIs w2 tb [.int .i64 gk, .int .i64 gn, .string gs, .slice ga gm gc] 48) := qh (by rw [hw2, htb]; exact (BlockIs.new w _ _).alloc _)
 have HB2 : Hid (BlockIs w2 (tb + 1) [.slice none 0 0, .int .i64 0, .int .i64 0, .string ⟨#[]⟩, .slice none 0 0] 50) := qh (by rw [hw2, htb]; exact blk_alloc w _ _ _)
 have HS2 : Hid (w2.heap.size = tb + 2) := qh (by rw [hw2, World.size_alloc, World.size_alloc, htb])
 have HP2 : Hid (Pure w w2) := qh (by rw [hw2]; exact (ext_alloc w _).pure (ext_alloc _ _))
 have HTb := qh htb
 obtain ⟨gb, hgb⟩ : ∃ z, z = w2.heap.size := ⟨_, rfl⟩
 obtain ⟨W1, hW1⟩ : ∃ z, z = w2.alloc (.cells (intsV (List.replicate M 0)).toArray 3) := ⟨_, rfl⟩
 have HW1 : Hid (w2.alloc (.cells (madeCells #[.int .i64 0] M) 3) = W1) := qh (by rw [hW1]; exact rep_ints M _ w2)
 have HG0 : Hid (BlockIs W1 gb (intsV (toP ((row.zipIdx 1).take 0) M)) 3) := qh (by rw [List.take_zero, toP_nil, hW1, hgb]; exact BlockIs.new w2 _ _)
 have HPW1 : Hid (Pure w2 W1) := qh (by rw [hW1]; exact ext_alloc _ _)
 have HGb := qh hgb
 obtain ⟨ii, hi, hz, hsize, hby⟩ := info_parts infoI
 have HI := qh hi
 have HZi := qh hz
 have HSi := qh hsize
 have HBy : Hid (ii.bytes * M ≤ 281474976710656) := qh (by rw [hby]; omega)
 have HMx : Hid (M ≤ 9223372036854775807) := qh (by omega)
 clear hP0 hBw hTO hM hgcs hg hn hm hR hOK hsz hgz htb hw2 hgb hW1 hi hz hsize hby
 go_enter Tryz.func41, Tryz.ntmps41
 go_upto_region 1 with (fail)
 rw [HW2.out, ← HTb.out]
 go_upto_region 2 with (refine wpList_make_row _ rfl (.const (.int .i64 4096)) (.const (.int .i64 4096)) 25 rfl 3 ii (.int .i64 0) Tryz.underlying25 HI.out HZi.out HSi.out rfl .i64 .i64 M (by rw [HM.out]; rfl) (by rw [HM.out]; rfl) HBy.out HMx.out ?_; rw [HW1.out, ← HGb.out])
 go_wp2_with fail
 go_loopw [8, 9, 16] (fun _ _ i W => ∃ K : Nat, K ≤ n ∧ i = .int .i64 K ∧ Hid (BlockIs W gb (intsV (toP ((row.zipIdx 1).take K) M)) 3) ∧ Hid (Ext (fun b => b = gb) W1 W)) (fun _ _ i _ => n - (intOf i).toNat)
 case atStart => exact ⟨0, Nat.zero_le _, rfl, HG0, qh (Ext.refl _ _)⟩
 case round =>
  obtain ⟨K, hkn, rfl, HB, HE⟩ := hrel
  have hPr : Pure w wr := (HP2.out.pure HPW1.out).trans HE.out (fun i hi e => by have h1 := HGb.out; have h2 := HP2.out.size; have e2 : i = gb := e; omega)
  by_cases hlt : K < n
  ·have hki : (K : Int) < (n : Int) := by omega
   have hk0 : (0 : Int) ≤ (K : Int) := by omega
   have hkr : K < row.length := by rw [← HN.out]; exact hlt
   obtain ⟨xb, xo, rfl, hxc0⟩ := HR.out K _ (intsV_get hkr)
   have HTk := qh (zip_take (List.getElem?_eq_getElem hkr))
   obtain ⟨x, hx⟩ : ∃ z, z = row[K] := ⟨_, rfl⟩
   rw [← hx] at hxc0 HTk
   have hxc := hPr.cell_some hxc0 id
   clear hx hkr hxc0 hPr
   have HSn := qh (toP_snoc ((row.zipIdx 1).take K) M x (K + 1) (by omega) zip_pos)
   rw [← HTk.out] at HSn
   by_cases hx1 : x < 1
   ·have HB2 : Hid (BlockIs wr gb (intsV (toP ((row.zipIdx 1).take (K + 1)) M)) 3) := qh (by rw [HSn.out.2.2 (by omega)]; exact HB.out)
    clear HSn HTk HB
    go_wp2_with fail
    go_roundw
    case rel => exact ⟨K + 1, by omega, by go_num, HB2, HE⟩
    case measure => simp [intOf]; omega
   ·by_cases hx2 : x ≤ 4096
    ·obtain ⟨y, rfl⟩ : ∃ y : Nat, x = (y : Int) + 1 := ⟨(x - 1).toNat, by omega⟩
     have hyM : y < M := by have := HM.out; omega
     have hyi : (y : Int) < (M : Int) := by omega
     have hy0 : (0 : Int) ≤ (y : Int) := by omega
     have hy1 : (y : Int) + 1 - 1 = (y : Int) := by omega
     have hx3 : (y : Int) + 1 ≥ 1 := by omega
     obtain ⟨z, hz⟩ : ∃ z, (toP ((row.zipIdx 1).take K) M)[y]? = some z := ⟨_, List.getElem?_eq_getElem (by rw [toP_len]; exact hyM)⟩
     have c0 : wr.cell? ⟨gb, y, none⟩ = some (.int .i64 z) := by rw [HB.out.cell, intsV_at, hz]; rfl
     have f0 : wr.frozen? ⟨gb, y, none⟩ = false := HB.out.free y
     have hgl := HB.out.lt
     by_cases hz0 : z = 0
     ·subst hz0
      have HB2 : Hid (BlockIs (wr.setCell ⟨gb, y, none⟩ (.int .i64 ((K : Int) + 1))) gb (intsV (toP ((row.zipIdx 1).take (K + 1)) M)) 3) := qh (by
       have h := HB.out.set y (.int .i64 ((K : Int) + 1))
       rw [intsV_set'] at h
       rw [HSn.out.1 y hyM rfl hz]
       rw [show ((K + 1 : Nat) : Int) = (K : Int) + 1 by omega]
       exact h)
      have HE2 : Hid (Ext (fun b => b = gb) W1 (wr.setCell ⟨gb, y, none⟩ (.int .i64 ((K : Int) + 1)))) := qh (HE.out.setCell (p := ⟨gb, y, none⟩) (fun _ => rfl) _)
      clear HSn HTk HB hz
      go_wp2_with fail
      go_roundw
      case rel => exact ⟨K + 1, by omega, by go_num, HB2, HE2⟩
      case measure => simp [intOf]; omega
     ·have HB2 : Hid (BlockIs wr gb (intsV (toP ((row.zipIdx 1).take (K + 1)) M)) 3) := qh (by
       rw [HSn.out.2.1 y hyM rfl (by rw [hz]; exact fun e => hz0 (Option.some.inj e))]
       exact HB.out)
      have hzb : (z == 0) = false := by simpa using hz0
      clear HSn HTk HB hz
      go_wp2_with fail
      go_roundw
      case rel => exact ⟨K + 1, by omega, by go_num, HB2, HE⟩
      case measure => simp [intOf]; omega
    ·have HB2 : Hid (BlockIs wr gb (intsV (toP ((row.zipIdx 1).take (K + 1)) M)) 3) := qh (by rw [HSn.out.2.2 (by have := HM.out; omega)]; exact HB.out)
     clear HSn HTk HB
     go_wp2_with fail
     go_roundw
     case rel => exact ⟨K + 1, by omega, by go_num, HB2, HE⟩
     case measure => simp [intOf]; omega
  ·have hki : ¬ (K : Int) < (n : Int) := by omega
   obtain rfl : K = n := by omega
   have HBt : Hid (BlockIs wr gb (intsV TO) 3) := qh (by
    rw [HTo.out]
    have h := HB.out
    rwa [List.take_of_length_le (by rw [List.length_zipIdx, ← HN.out]; exact Nat.le_refl _)] at h)
   have HPr := qh hPr
   have hB1 := (HB1.out.ext HPW1.out id).ext HE.out (fun e => by have h1 := HGb.out; have h2 := HS2.out; omega)
   have HB2r := qh ((HB2.out.ext HPW1.out id).ext HE.out (fun e => by have h1 := HGb.out; have h2 := HS2.out; omega))
   have y0 : wr.cell? ⟨tb, 0, none⟩ = some (.int .i64 gk) := hB1.cell 0
   have y1 : wr.cell? ⟨tb, 1, none⟩ = some (.int .i64 gn) := hB1.cell 1
   have y2 : wr.cell? ⟨tb, 2, none⟩ = some (.string gs) := hB1.cell 2
   have y3 : wr.cell? ⟨tb, 3, none⟩ = some (.slice ga gm gc) := hB1.cell 3
   have hbt : tb < wr.heap.size := hB1.lt
   have hC := seen_any B wr (fun b hb => by have := HPr.out.size; have := HBw.out b hb; omega) TO (some ⟨gb, 0, none⟩) M (fun i u hu => ⟨gb, 0, rfl, by rw [HBt.out.cell, Nat.zero_add]; exact hu⟩) (by rw [HTl.out]; omega) (d + 1) g _ wr (LiesIn.pure HPr.out HGl.out) (Ext.refl _ _) HGz.out
   rw [HTl.out] at hC
   have HC := qh hC
   clear hC hB1 HB hPr hlt hkn HE
   go_wp2_with fail
   refine HC.out.mono ?_
   rintro e W3 ⟨g3, rfl, hL3, hP3⟩
   obtain ⟨k3, n3, s3, a3, m3, c3, rfl⟩ := hL3.lies.form
   clear y0 y1 y2 y3 hbt HC
   go_upto_region 9 with (fail)
   obtain ⟨pb, hpb⟩ : ∃ z, z = W3.heap.size := ⟨_, rfl⟩
   obtain ⟨W4, hW4⟩ : ∃ z, z = W3.alloc (.cells #[.slice none 0 0, .int .i64 k3, .int .i64 n3, .string s3, .slice a3 m3 c3] 50) := ⟨_, rfl⟩
   have HW4 : Hid (W3.alloc (.cells #[.slice none 0 0, .int .i64 k3, .int .i64 n3, .string s3, .slice a3 m3 c3] 50) = W4) := qh hW4.symm
   have hP4 : Pure W3 W4 := by rw [hW4]; exact ext_alloc _ _
   have hs4 : W4.heap.size = pb + 1 := by rw [hW4, World.size_alloc, hpb]
   have hwp : w.heap.size ≤ pb := by have := HPr.out.size; have := hP3.size; omega
   have HI0 : Hid (RenI w0 W4 d pb ((obs.mapIdx (seenOb TO)).take 0) [.int .i64 k3, .int .i64 n3, .string s3, .slice a3 m3 c3] none 0 [] W4) := qh (by
    rw [List.take_zero]
    exact ⟨by rw [hW4, hpb]; exact BlockIs.new W3 [.slice none 0 0, .int .i64 k3, .int .i64 n3, .string s3, .slice a3 m3 c3] _, World.ownsRow_nil _ _ _ _, ⟨rfl, (fun r hr => by cases hr), (fun i o r ho => by simp at ho)⟩, Ext.refl _ _, by have := HWw.out; omega, by omega⟩)
   have htq := HB2r.out.lt
   have HG4 : Hid (LiesIn (fun b => (B b ∨ w.heap.size ≤ b) ∧ b < pb ∧ b ≠ tb + 1) W4 (d + 1) (g.seen TO) [.int .i64 k3, .int .i64 n3, .string s3, .slice a3 m3 c3]) := qh (LiesIn.pure hP4 (hL3.mono (fun b hb h => by
    have h1 := HTb.out
    have h2 := HPr.out.size
    rcases h with h | h
    ·have h3 := HBw.out b h
     exact ⟨Or.inl h, by omega, by omega⟩
    ·exact ⟨Or.inr (by omega), by omega, by omega⟩)))
   have HP4 := qh (HPr.out.pure (hP3.pure hP4))
   have hPr4 := hP3.pure hP4
   have HT4 := qh (HBt.out.ext hPr4 id)
   have HR4 := qh (HB2r.out.ext hPr4 id)
   have HGp : Hid (gb < pb ∧ tb + 1 < pb ∧ w.heap.size ≤ gb) := qh ⟨by have := HBt.out.lt; have := hP3.size; omega, by have := HB2r.out.lt; have := hP3.size; omega, by have h1 := HGb.out; have h2 := HP2.out.size; omega⟩
   have HPb := qh hpb
   have HWp := qh hwp
   have HS4 := qh hs4
   rw [HW4.out, ← HPb.out]
   have HMl : Hid ((obs.mapIdx (seenOb TO)).length = m) := qh (by rw [List.length_mapIdx, HMm.out])
   clear hpb hW4 hP4 hs4 hwp hPr4 hP3 hL3
   go_wp2_with fail
   go_loopw [11, 12, 48] (fun _ _ i W => ∃ (j : Nat) (ao : Option Addr) (co : Nat) (rows : List (List Value)), j ≤ m ∧ i = .int .i64 j ∧ Hid (RenI w0 W4 d pb ((obs.mapIdx (seenOb TO)).take j) [.int .i64 k3, .int .i64 n3, .string s3, .slice a3 m3 c3] ao co rows W)) (fun _ _ i _ => m - (intOf i).toNat)
   case atStart => exact ⟨0, none, 0, [], Nat.zero_le _, rfl, HI0⟩
   case round =>
    obtain ⟨j, ao, co, rows, hjm, rfl, HRi⟩ := hrel
    have HLj : Hid (((obs.mapIdx (seenOb TO)).take j).length = j) := qh (by rw [List.length_take, HMl.out]; omega)
    have hPj : Pure w wr := HP4.out.trans HRi.out.ext (fun i hi e => by have := HWp.out; have e2 : i = pb := e; omega)
    by_cases hltj : j < m
    ·have hji : (j : Int) < (m : Int) := by omega
     have hj0 : (0 : Int) ≤ (j : Int) := by omega
     have hjo : j < obs.length := by rw [← HMm.out]; exact hltj
     obtain ⟨b, o, cs, rfl, _, hl4, hL, hr0⟩ := HOK.out.at j _ (List.getElem?_eq_getElem hjo)
     have HTk : Hid ((obs.mapIdx (seenOb TO)).take (j + 1) = (obs.mapIdx (seenOb TO)).take j ++ [seenOb TO j obs[j]]) := qh (take_snoc (by rw [List.getElem?_mapIdx, List.getElem?_eq_getElem hjo]; rfl))
     have hus := HSz.out _ (List.getElem_mem hjo)
     obtain ⟨u, hu⟩ : ∃ z, z = obs[j] := ⟨_, rfl⟩
     rw [← hu] at hL hr0 HTk hus
     obtain ⟨uk, un, us, ua, um, uc, hcs⟩ := hL.form
     subst hcs
     have hr := range_ext hr0 hPj
     have HSn : Hid (seenOb TO j u = ⟨(firstV j u.v).seen TO, u.st, u.data⟩) := qh rfl
     have HUs : Hid ((firstV j u.v).size ≤ 100000) := qh (by unfold firstV; split; exact Nat.le_trans (dropped_size _ _) hus; exact hus)
     have HUl : Hid (u.v.l.length ≤ 100000) := qh (Nat.le_trans (V.len_size u.v) hus)
     obtain ⟨st, hst⟩ : ∃ z, z = u.st := ⟨_, rfl⟩
     obtain ⟨dt, hdt⟩ : ∃ z, z = u.data := ⟨_, rfl⟩
     rw [← hst, ← hdt] at hr HSn
     obtain ⟨wd, hwd⟩ : ∃ z, z = wr.alloc (.cells #[.int .i64 uk, .int .i64 un, .string us, .slice ua um uc, .bool st, .string dt] 61) := ⟨_, rfl⟩
     have HWd : Hid (wr.alloc (.cells #[.int .i64 uk, .int .i64 un, .string us, .slice ua um uc, .bool st, .string dt] 61) = wd) := qh hwd.symm
     obtain ⟨bk, hbk⟩ : ∃ z, z = wr.heap.size := ⟨_, rfl⟩
     have HBk : Hid (BlockIs wd bk [.int .i64 uk, .int .i64 un, .string us, .slice ua um uc, .bool st, .string dt] 61) := qh (by rw [hwd, hbk]; exact BlockIs.new wr [.int .i64 uk, .int .i64 un, .string us, .slice ua um uc, .bool st, .string dt] _)
     have HPd : Hid (Pure wr wd) := qh (by rw [hwd]; exact ext_alloc _ _)
     have HSd : Hid (wd.heap.size = bk + 1) := qh (by rw [hwd, World.size_alloc, hbk])
     have HPj := qh hPj
     have HBe := qh hbk
     have HL := qh hL
     simp only [List.cons_append, List.nil_append] at hr
     have HSz6 : Hid ((Tryz.prog.info? 61).map (·.size) = some ([.int .i64 uk, .int .i64 un, .string us, .slice ua um uc, .bool st, .string dt] : List Value).length) := qh size43
     clear hu hst hdt hwd hbk hl4 hL hr0 hus hjo hPj
     go_upto_if 54 with (with_reducible refine at_load 61 (.tmp 51) ?_; refine wpList_load_mid rfl 61 (.tmp 51) rfl b (o + j * 6) rfl [.int .i64 uk, .int .i64 un, .string us, .slice ua um uc, .bool st, .string dt] _ hr Tryz.underlying61 rfl HSz6.out ?_)
     rw [HWd.out, ← HBe.out]
     go_cut [11] (fun x W => x = .int .i64 (j : Int) ∧ Hid (RenSt w0 wd d bk (firstV j u.v) st dt W))
     case first =>
      by_cases hj : j = 0
      ·subst hj
       have hPw := HP0.out.pure (HPj.out.pure HPd.out)
       have hDr := drop_top w0 d u.v [.int .i64 uk, .int .i64 un, .string us, .slice ua um uc] "Parent".toUTF8 wd hPw (HL.out.top.pure hPw) HUl.out
       rw [← k_parent] at hDr
       have HDr := qh hDr
       have g0 : wd.cell? ⟨bk, 0, none⟩ = some (.int .i64 uk) := HBk.out.cell 0
       have g1 : wd.cell? ⟨bk, 1, none⟩ = some (.int .i64 un) := HBk.out.cell 1
       have g2 : wd.cell? ⟨bk, 2, none⟩ = some (.string us) := HBk.out.cell 2
       have g3 : wd.cell? ⟨bk, 3, none⟩ = some (.slice ua um uc) := HBk.out.cell 3
       have hbl := HBk.out.lt
       have HPw := qh hPw
       clear hDr hPw
       go_wp2_with fail
       refine HDr.out.mono ?_
       rintro e W5 ⟨cs1, rfl, hT1, hQ1, hO1⟩
       rw [k_parent] at hT1
       have hl1 := hT1.len
       have hB5 := HBk.out.ext hQ1 id
       have HTh := qh (show W5.there bk 0 cs1.toArray.size by rw [show cs1.toArray.size = 4 by simpa using hl1]; exact fun j hj => hB5.there 6 rfl j (by omega))
       have HSi : Hid ((Tryz.prog.info? 48).map (·.size) = some cs1.toArray.size) := qh (by rw [List.size_toArray, hl1]; exact size24)
       have HOn := qh hT1.one
       obtain ⟨Ws, hws⟩ : ∃ z, z = W5.setCells bk 0 cs1 := ⟨_, rfl⟩
       have HWs : Hid (W5.setCells bk 0 cs1.toArray.toList = Ws) := qh (by rw [hws])
       have hXs : Ext (fun b => b = bk) W5 Ws := by rw [hws]; exact Ext.setCells (S := fun b => b = bk) _ _ _ (Ext.refl _ _) (fun _ => rfl)
       have HNew : Hid (RenSt w0 wd d bk (firstV 0 u.v) st dt Ws) := qh (by
        have hb1 := HBe.out
        have hb2 := HSd.out
        have hb3 := HPj.out.size
        have hb4 := HWw.out
        have hI := drop_in (wd := wd) HL.out hT1 (HPw.out.pure hQ1) hO1
        refine ⟨cs1, ?_, hI.ext hXs (fun b hb e => by have e2 : b = bk := e; omega), (hQ1.mono (fun _ _ e => e.elim)).trans hXs (fun _ _ e => e)⟩
        rw [hws]
        exact BlockIs.setMid (post := [.bool st, .string dt]) cs1 [] [.int .i64 uk, .int .i64 un, .string us, .slice ua um uc] W5 hB5 hl1.symm)
       clear hT1 hQ1 hO1 hl1 hB5 hws hXs g0 g1 g2 g3 hbl HDr
       go_wp2_with (with_reducible refine at_store 48 (.tmp 58) (.tmp 57) ?_; refine wpList_store_mid rfl 48 (.tmp 58) (.tmp 57) rfl bk 0 cs1.toArray rfl rfl HTh.out HSi.out HOn.out ?_; rw [HWs.out])
       go_meet
       exact ⟨rfl, HNew⟩
      ·have hjb : ((j : Int) == 0) = false := by simp; omega
       have HNew : Hid (RenSt w0 wd d bk (firstV j u.v) st dt wd) := qh (by
        unfold firstV
        rw [if_neg hj]
        exact ⟨_, HBk.out, (LiesIn.pure (HP0.out.pure (HPj.out.pure HPd.out)) HL.out.within).mono (fun b _ h => Or.inl h), Ext.refl _ _⟩)
       go_wp2_with fail
       go_meet
       exact ⟨rfl, HNew⟩
     case rest =>
      obtain ⟨rfl, HS⟩ := hcut
      obtain ⟨Wt, rfl⟩ : ∃ z : World, z = wc := ⟨_, rfl⟩
      obtain ⟨v1, hv1⟩ : ∃ z, z = firstV j u.v := ⟨_, rfl⟩
      rw [← hv1] at HS HSn HUs
      obtain ⟨cs1, hBt, hLt, hEt⟩ := HS.out
      obtain ⟨k1, n1, s1, a1, m1, c1, hcs1⟩ := hLt.lies.form
      subst hcs1
      have hb1 := HBe.out
      have hb2 := HSd.out
      have hPt : Pure wr Wt := HPd.out.trans hEt (fun i hi e => by have e2 : i = bk := e; omega)
      have HPt := qh hPt
      have hTt := (HT4.out.ext HRi.out.ext (fun e => by have := HGp.out.1; have e2 : gb = pb := e; omega)).ext hPt id
      have hC := seen_any (fun b => (b < w0.heap.size ∨ wd.heap.size ≤ b) ∧ b < Wt.heap.size) Wt (fun b hb => hb.2) TO (some ⟨gb, 0, none⟩) M (fun i u hu => ⟨gb, 0, rfl, by rw [hTt.cell, Nat.zero_add]; exact hu⟩) (by rw [HTl.out]; omega) (d + 1) v1 _ Wt (hLt.mono (fun b hb h => ⟨h, hb⟩)) (Ext.refl _ _) HUs.out
      rw [HTl.out] at hC
      have HC := qh hC
      have HBt := qh hBt
      have HEt := qh hEt
      have HTk2 : Hid ((obs.mapIdx (seenOb TO)).take (j + 1) = (obs.mapIdx (seenOb TO)).take j ++ [⟨v1.seen TO, st, dt⟩]) := qh (by rw [HTk.out, HSn.out])
      have g0 : Wt.cell? ⟨bk, 0, none⟩ = some (.int .i64 k1) := hBt.cell 0
      have g1 : Wt.cell? ⟨bk, 1, none⟩ = some (.int .i64 n1) := hBt.cell 1
      have g2 : Wt.cell? ⟨bk, 2, none⟩ = some (.string s1) := hBt.cell 2
      have g3 : Wt.cell? ⟨bk, 3, none⟩ = some (.slice a1 m1 c1) := hBt.cell 3
      have hbl := hBt.lt
      clear hv1 hLt hEt hPt hTt hC hBt hb1 hb2 HS HTk HSn
      go_wp2_with fail
      refine HC.out.mono ?_
      rintro e W5 ⟨cs5, rfl, hL5, hP5⟩
      obtain ⟨k5, n5, s5, a5, m5, c5, rfl⟩ := hL5.lies.form
      have hB5 := HBt.out.ext hP5 id
      obtain ⟨W6, hW6⟩ : ∃ z, z = W5.setCells bk 0 [.int .i64 k5, .int .i64 n5, .string s5, .slice a5 m5 c5] := ⟨_, rfl⟩
      have HW6 : Hid (W5.setCells bk 0 (#[.int .i64 k5, .int .i64 n5, .string s5, .slice a5 m5 c5] : Array Value).toList = W6) := qh (by rw [hW6])
      have hX6 : Ext (fun b => b = bk) W5 W6 := by rw [hW6]; exact Ext.setCells (S := fun b => b = bk) _ _ _ (Ext.refl _ _) (fun _ => rfl)
      have hB6 : BlockIs W6 bk [.int .i64 k5, .int .i64 n5, .string s5, .slice a5 m5 c5, .bool st, .string dt] 61 := by rw [hW6]; exact BlockIs.setMid (post := [.bool st, .string dt]) [.int .i64 k5, .int .i64 n5, .string s5, .slice a5 m5 c5] [] [.int .i64 k1, .int .i64 n1, .string s1, .slice a1 m1 c1] W5 hB5 rfl
      have hb1 := HBe.out
      have hb2 := HSd.out
      have hb3 := HEt.out.size
      have hb4 := HRi.out.ext.size
      have hb5 := HPj.out.size
      have hb7 := HWw.out
      have hb6 := HRi.out.lo
      have hP6 : Pure wr W6 := (HPt.out.pure hP5).trans hX6 (fun i hi e => by have e2 : i = bk := e; omega)
      have hL6 : LiesIn (fun b => b < w0.heap.size ∨ (W4.heap.size ≤ b ∧ ∀ x, ao = some x → x.block ≠ b)) W6 (d + 1) (v1.seen TO) [.int .i64 k5, .int .i64 n5, .string s5, .slice a5 m5 c5] := (hL5.ext hX6 (fun b hb e => by have e2 : b = bk := e; omega)).mono (fun b hb h => by
       by_cases hbw : b < w0.heap.size
       ·exact Or.inl hbw
       ·refine Or.inr ⟨by omega, fun x hx e => ?_⟩
        have := (HRi.out.row.lt x.block (by rw [hx]; rfl)).2
        omega)
      obtain ⟨W7, hW7⟩ : ∃ z, z = W6.alloc (.cells #[.int .i64 k5, .int .i64 n5, .string s5, .slice a5 m5 c5, .bool st, .string dt] 61) := ⟨_, rfl⟩
      have HW7 : Hid (W6.alloc (.cells #[.int .i64 k5, .int .i64 n5, .string s5, .slice a5 m5 c5, .bool st, .string dt] 61) = W7) := qh hW7.symm
      have hP7 : Pure W6 W7 := by rw [hW7]; exact ext_alloc _ _
      have hR7 := HRi.out.pure (hP6.pure hP7)
      have HR7 := qh hR7
      have HL7 := qh (LiesIn.pure hP7 hL6)
      have p0 : W6.cell? ⟨pb, 0, none⟩ = some (.slice ao j co) := by have := (HRi.out.pure hP6).blk.cell 0; rw [HLj.out] at this; exact this
      have z0 : W6.cell? ⟨bk, 0, none⟩ = some (.int .i64 k5) := hB6.cell 0
      have z1 : W6.cell? ⟨bk, 1, none⟩ = some (.int .i64 n5) := hB6.cell 1
      have z2 : W6.cell? ⟨bk, 2, none⟩ = some (.string s5) := hB6.cell 2
      have z3 : W6.cell? ⟨bk, 3, none⟩ = some (.slice a5 m5 c5) := hB6.cell 3
      have z4 : W6.cell? ⟨bk, 4, none⟩ = some (.bool st) := hB6.cell 4
      have z5 : W6.cell? ⟨bk, 5, none⟩ = some (.string dt) := hB6.cell 5
      have hbl6 := hB6.lt
      have HTh : Hid (W5.there bk 0 (#[.int .i64 k5, .int .i64 n5, .string s5, .slice a5 m5 c5] : Array Value).size) := qh (fun j hj => hB5.there 6 rfl j (by have : j < 4 := hj; omega))
      have HSi : Hid ((Tryz.prog.info? 48).map (·.size) = some (#[.int .i64 k5, .int .i64 n5, .string s5, .slice a5 m5 c5] : Array Value).size) := qh size24
      have HOn : Hid (((#[.int .i64 k5, .int .i64 n5, .string s5, .slice a5 m5 c5] : Array Value).all fun u => u.oneCell') = true) := qh hL5.lies.one
      have HO7 : Hid (W7.ownsRow W4.heap.size 61 6 (.slice ao j co) j (rows.flatMap id)) := qh (by have h := hR7.row; rw [HLj.out] at h; exact h)
      have HRw : Hid (RowOf W7 (some ⟨W6.heap.size, 0, none⟩) [.int .i64 k5, .int .i64 n5, .string s5, .slice a5 m5 c5, .bool st, .string dt]) := qh (fun i u hu => ⟨W6.heap.size, 0, rfl, by rw [hW7, (BlockIs.new W6 [.int .i64 k5, .int .i64 n5, .string s5, .slice a5 m5 c5, .bool st, .string dt] 61).cell, Nat.zero_add]; exact hu⟩)
      have HOne : Hid (∀ u ∈ ([.int .i64 k5, .int .i64 n5, .string s5, .slice a5 m5 c5, .bool st, .string dt] : List Value), u.oneCell' = true) := qh (by intro u hu; simp only [List.mem_cons, List.not_mem_nil, or_false] at hu; rcases hu with rfl | rfl | rfl | rfl | rfl | rfl <;> rfl)
      have HB1' : Hid ((j + 1) * 80 ≤ 140737488355328) := qh (by omega)
      have HB2' : Hid (j + 1 ≤ maxLen) := qh (by unfold maxLen; omega)
      have HRs : Hid (W4.heap.size ≤ W7.heap.size) := qh (by have := hP6.size; have := hP7.size; omega)
      have HK8 : Hid (∀ W8, W7.grownBy W8 (Value.slice ao j co).ownBlock → W8.cell? ⟨pb, 0, none⟩ = some (.slice ao j co) ∧ W8.frozen? ⟨pb, 0, none⟩ = false ∧ pb < W8.heap.size) := qh (fun W8 hg => by
       have hb := hR7.blk.ext (ext_of_grown hg) (fun e => by have := (HO7.out.lt pb e).1; omega)
       have h0 := hb.cell 0
       rw [HLj.out] at h0
       exact ⟨h0, hb.free 0, hb.lt⟩)
      clear hL5 hP5 hB5 hW6 hX6 hB6 hb1 hb2 hb3 hb4 hb5 hb6 hb7 hP6 hL6 hW7 hP7 hR7 g0 g1 g2 g3 hbl HC
      go_wp2_with (first
       | (with_reducible refine at_store 48 (.tmp 63) (.tmp 62) ?_; refine wpList_store_mid rfl 48 (.tmp 63) (.tmp 62) rfl bk 0 #[.int .i64 k5, .int .i64 n5, .string s5, .slice a5 m5 c5] rfl rfl HTh.out HSi.out HOn.out ?_; rw [HW6.out])
       | (at_builtin; rw [HW7.out]; refine wpList_append_fresh rfl (.tmp 65) (.tmp 67) 22 rfl W4.heap.size 61 (.agg #[.int .i64 0, .int .i64 0, .string ⟨#[]⟩, .slice none 0 0, .bool false, .string ⟨#[]⟩]) 6 80 Tryz.underlying22 infoOb rfl (by decide) (.slice ao j co) j (rows.flatMap id) rfl HO7.out (some ⟨W6.heap.size, 0, none⟩) 1 1 [.int .i64 k5, .int .i64 n5, .string s5, .slice a5 m5 c5, .bool st, .string dt] rfl (fun e => by cases e) rfl HRw.out HOne.out (j + 1) rfl (rows.flatMap id ++ [.int .i64 k5, .int .i64 n5, .string s5, .slice a5 m5 c5, .bool st, .string dt]) rfl HB1'.out HB2'.out HRs.out ?_; intro a8 c8 W8 hO8 hg8 hf8; obtain ⟨q0, q1, q2⟩ := HK8.out _ hg8))
      have HNew : Hid (RenI w0 W4 d pb ((obs.mapIdx (seenOb TO)).take (j + 1)) [.int .i64 k3, .int .i64 n3, .string s3, .slice a3 m3 c3] a8 c8 (rows ++ [[.int .i64 k5, .int .i64 n5, .string s5, .slice a5 m5 c5, .bool st, .string dt]]) (W8.setCell ⟨pb, 0, none⟩ (.slice a8 (j + 1) c8))) := qh (by
       have h := HR7.out.step (o := ⟨v1.seen TO, st, dt⟩) (cs := [.int .i64 k5, .int .i64 n5, .string s5, .slice a5 m5 c5]) HL7.out (W6 := W8) (a6 := a8) (c6 := c8) (by rw [HLj.out]; exact hO8) (by rw [HLj.out]; exact hg8) (by rw [HLj.out]; exact hf8)
       rw [HLj.out, ← HTk2.out] at h
       exact h)
      go_roundw
      case rel => exact ⟨j + 1, a8, c8, _, by omega, by go_num, HNew⟩
      case measure => simp [intOf]; omega
    ·have hji : ¬ (j : Int) < (m : Int) := by omega
     obtain rfl : j = m := by omega
     have HRz : Hid (RenI w0 W4 d pb (obs.mapIdx (seenOb TO)) [.int .i64 k3, .int .i64 n3, .string s3, .slice a3 m3 c3] ao co rows wr) := qh (by
      have h := HRi.out
      rwa [List.take_of_length_le (by rw [HMl.out]; exact Nat.le_refl _)] at h)
     have hbk := HRz.out.blk
     rw [HMl.out] at hbk
     have y0 : wr.cell? ⟨pb, 0, none⟩ = some (.slice ao j co) := hbk.cell 0
     have y1 : wr.cell? ⟨pb, 1, none⟩ = some (.int .i64 k3) := hbk.cell 1
     have y2 : wr.cell? ⟨pb, 2, none⟩ = some (.int .i64 n3) := hbk.cell 2
     have y3 : wr.cell? ⟨pb, 3, none⟩ = some (.string s3) := hbk.cell 3
     have y4 : wr.cell? ⟨pb, 4, none⟩ = some (.slice a3 m3 c3) := hbk.cell 4
     have hpl := hbk.lt
     have hRz := HR4.out.ext HRi.out.ext (fun e => by have := HGp.out.2.1; have e2 : tb + 1 = pb := e; omega)
     have HTh : Hid (wr.there (tb + 1) 0 (#[.slice ao j co, .int .i64 k3, .int .i64 n3, .string s3, .slice a3 m3 c3] : Array Value).size) := qh (hRz.there 5 rfl)
     have HSi : Hid ((Tryz.prog.info? 50).map (·.size) = some (#[.slice ao j co, .int .i64 k3, .int .i64 n3, .string s3, .slice a3 m3 c3] : Array Value).size) := qh sizePg
     have HOn : Hid (((#[.slice ao j co, .int .i64 k3, .int .i64 n3, .string s3, .slice a3 m3 c3] : Array Value).all fun u => u.oneCell') = true) := qh (all_oneCell_toArray (by intro u hu; simp only [List.mem_cons, List.not_mem_nil, or_false] at hu; rcases hu with rfl | rfl | rfl | rfl | rfl <;> rfl))
     have HBz := qh (hRz.setAll [.slice ao j co, .int .i64 k3, .int .i64 n3, .string s3, .slice a3 m3 c3] rfl)
     have HPj := qh hPj
     clear hbk hRz hPj HRi
     go_wp2_with (with_reducible refine at_store 50 (.tmp 6) (.tmp 71) ?_; refine wpList_store_mid rfl 50 (.tmp 6) (.tmp 71) rfl (tb + 1) 0 #[.slice ao j co, .int .i64 k3, .int .i64 n3, .string s3, .slice a3 m3 c3] rfl rfl HTh.out HSi.out HOn.out ?_)
     have hXs : Ext (fun b => b = tb + 1) wr (wr.setCells (tb + 1) 0 [.slice ao j co, .int .i64 k3, .int .i64 n3, .string s3, .slice a3 m3 c3]) := Ext.setCells (S := fun b => b = tb + 1) _ 0 _ (Ext.refl _ _) (fun _ => rfl)
     refine bodyPost_ret (results_row1 rfl _ _ (tb + 1) _ [.slice ao j co, .int .i64 k3, .int .i64 n3, .string s3, .slice a3 m3 c3] _ rfl HBz.out Tryz.underlying50 rfl sizePg) rfl ?_
     have hgp := HGp.out
     have hlo := HRz.out.lo
     have htb := HTb.out
     have hwp := HWp.out
     have hww := HWw.out
     have hob := HRz.out.obs.ext hXs (fun b hb e => by have e2 : b = tb + 1 := e; omega)
     have hrw := own_ext HRz.out.row hXs (fun g hg e => by have := (HRz.out.row.lt g hg).1; have e2 : g = tb + 1 := e; omega)
     refine ⟨ao, co, rows, [.int .i64 k3, .int .i64 n3, .string s3, .slice a3 m3 c3], by rw [HMl.out], hob.mono (fun b hb => hb.imp id (fun q => by omega)), own_row hrw, fun x hx => ?_, ?_, HPj.out.trans hXs (fun i hi e => by have e2 : i = tb + 1 := e; omega)⟩
     ·have := (HRz.out.row.lt x.block (by rw [hx]; rfl)).1
      omega
     ·exact ((HG4.out.ext HRz.out.ext (fun b hb e => by have e2 : b = pb := e; omega)).ext hXs (fun b hb e => hb.2.2 e)).mono (fun b _ hb => hb.1)
