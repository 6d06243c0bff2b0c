import Derived.Test.YtipmbcalnnomjaaGreatFindPlVw
import Derived.Test.YtipmbcalnnomjaaGreatNodeVw
import Derived.Test.YtipmbcalnnomjaaGreatPutVw
import Derived.Deep.DeepCutAuto
import Derived.Test.YtipmbcalnnomjaaGreatDropPVw
import Derived.Test.YtipmbcalnnomjaaGreatSqVw
set_option linter.unusedVariables false
set_option linter.unusedSimpArgs false
set_option maxRecDepth 100000
namespace Go.Proofs.YtipmbcalnnomjaaGreat
open Go.RowKit
def InhTo (w : World) (e : Ending) (w' : World) : Prop := ∃ nb, e = .returned (.slice (some ⟨nb, 0, none⟩) 4 4) ∧ BlockIs w' nb (inhL.map Value.string) 9 ∧ w.heap.size ≤ nb ∧ Pure w w'
set_option maxHeartbeats 1000000 in
theorem inh_any (w : World) : Calls Tryz.prog 104 #[] w (InhTo w) := by
 go_enter Tryz.func104, Tryz.ntmps104
 go_wp2_with fail
 go_ret
 exact ⟨w.heap.size, rfl, BlockIs.new w (inhL.map Value.string) _, Nat.le_refl _, ext_alloc w _⟩
theorem inh_cell {W : World} {nb : Nat} {T : TypeId} (h : BlockIs W nb (inhL.map Value.string) T) {k : Nat} (hk : k < 4) : W.cell? ⟨nb, k, none⟩ = some (.string (inhK k)) := by
 rw [h.cell]
 unfold inhK
 match k, hk with
 | 0, _ => rfl
 | 1, _ => rfl
 | 2, _ => rfl
 | 3, _ => rfl
theorem inhK_size {k : Nat} (hk : k < 4) : (inhK k).size ≤ maxLen := by
 unfold inhK
 match k, hk with
 | 0, _ => decide
 | 1, _ => decide
 | 2, _ => decide
 | 3, _ => decide
def GiveTo (w0 : World) (g : V) (d : Nat) (gcs : List Value) (w : World) (e : Ending) (w' : World) : Prop :=
 ∃ cs', e = .returned (.agg cs'.toArray) ∧ Top w0 w' d g cs' ∧ Pure w w' ∧ (∀ b, b < w.heap.size → Off b gcs → Off b cs') ∧ (g.l = [] → ∀ b, Off b cs')
structure GiveI (w0 w W1 : World) (d tb : Nat) (g : V) (gcs0 gcs : List Value) (W : World) : Prop where
 top : Top w0 W d g gcs
 blk : BlockIs W tb gcs 48
 off : ∀ b, b < W1.heap.size → (w.heap.size ≤ b ∨ Off b gcs0) → Off b gcs
 free : g.l = [] → ∀ b, Off b gcs
 ext : Ext (fun b => b = tb) W1 W
set_option maxHeartbeats 4000000 in
theorem give_any (w0 : World) (d : Nat) (g : V) (gcs : List Value) (v : V) (vcs : List Value) (w : World) (hP0 : Pure w0 w) (h : Top w0 w (d + 1) g gcs) (hv : Lies w0 (d + 1) v vcs) (h7 : g.kind = 7) (hf : g.l = [] → ∀ b, Off b gcs) (hl : g.l.length ≤ 80000) (hvl : v.l.length ≤ 1000000) :
 Calls Tryz.prog 74 #[.agg gcs.toArray, .agg vcs.toArray] w (GiveTo w0 (giveP g v) (d + 1) gcs w) := by
 have HGet := qh (fun key W (hP : Pure w W) => getw_any d v vcs key w0 W (hP0.pure hP) hv hvl)
 obtain ⟨va, vc, vrows, hvc, _⟩ := hv.kids
 obtain ⟨ga, gc, gxs, hgc, _⟩ := h.parts
 obtain ⟨wz, hwz⟩ : ∃ z, z = ((w.alloc (.cells gcs.toArray 48)).alloc (.cells vcs.toArray 48)).alloc (.cells zeroCs.toArray 48) := ⟨_, rfl⟩
 obtain ⟨tb, htb⟩ : ∃ z, z = w.heap.size := ⟨_, rfl⟩
 have hs1 : (w.alloc (.cells gcs.toArray 48)).heap.size = tb + 1 := by rw [World.size_alloc, htb]
 have hs2 : ((w.alloc (.cells gcs.toArray 48)).alloc (.cells vcs.toArray 48)).heap.size = tb + 1 + 1 := by rw [World.size_alloc, hs1]
 have HBg : Hid (BlockIs wz tb gcs 48) := qh (by rw [hwz, htb]; exact ((BlockIs.new w gcs 48).alloc _).alloc _)
 have HBv : Hid (BlockIs wz (tb + 1) vcs 48) := qh (by rw [hwz, ← hs1]; exact (BlockIs.new _ vcs 48).alloc _)
 have HBr : Hid (BlockIs wz (tb + 1 + 1) zeroCs 48) := qh (by rw [hwz, ← hs2]; exact BlockIs.new _ zeroCs 48)
 have HPz : Hid (Pure w wz) := qh (by rw [hwz]; exact ((ext_alloc w _).pure (ext_alloc _ _)).pure (ext_alloc _ _))
 have HWz : Hid (((w.alloc (.cells gcs.toArray 48)).alloc (.cells vcs.toArray 48)).alloc (.cells #[.int .i64 0, .int .i64 0, .string ⟨#[]⟩, .slice none 0 0] 48) = wz) := qh hwz.symm
 have HTb := qh htb
 have HT := qh h
 have HP0 := qh hP0
 have HF := qh hf
 have H7 := qh h7
 have HGl := qh hl
 have HGc := qh hgc
 clear hwz htb hs1 hs2 h hP0 hf hv h7 hl
 obtain ⟨vl, hvl2⟩ : ∃ z, z = v.l.length := ⟨_, rfl⟩
 rw [← hvl2] at hvc
 have HVc := qh hvc
 clear hvl hvl2
 rw [hgc, hvc] at HWz ⊢
 rw [hvc] at HBv HGet
 clear hgc hvc
 generalize v.kind = vk at *
 generalize v.n = vn at *
 generalize v.s = vs at *
 go_enter Tryz.func74, Tryz.ntmps74
 go_upto_region 1 with (fail)
 rw [HWz.out, ← HTb.out]
 go_wp2_with fail
 refine (inh_any wz).mono ?_
 rintro e W1 ⟨nb, rfl, hN, hlo, hP⟩
 have HN := qh hN
 have HP1 := qh (HPz.out.pure hP)
 have hg1 : BlockIs W1 tb gcs 48 := HBg.out.ext hP id
 have HBv1 := qh (HBv.out.ext hP id)
 have HBr1 := qh (HBr.out.ext hP id)
 have HLo := qh (show tb + 1 + 1 < nb by have := HBr.out.lt; omega)
 have HI0 : Hid (GiveI w0 w W1 (d + 1) tb g gcs gcs W1) := qh ⟨HT.out.pure HP1.out, hg1, fun b hb ho => ho.elim (fun hb2 => HT.out.off_new HF.out hb2) id, HF.out, Ext.refl _ _⟩
 clear hN hP hg1 hlo HBv HBr HBg HPz
 go_wp2_with fail
 go_loopw [11] (fun x wr => ∃ (k : Nat) (cs : List Value), k ≤ 4 ∧ x = .int .i64 k ∧ Hid (GiveI w0 w W1 (d + 1) tb (giveN g v k) gcs cs wr)) (fun x _ => 4 - (intOf x).toNat)
 case atStart => exact ⟨0, gcs, by omega, rfl, HI0⟩
 case round =>
  obtain ⟨k, cs, hk, rfl, HI⟩ := hrel
  by_cases hlt : k < 4
  ·have hki : (k : Int) < 4 := by omega
   have hk0 : (0 : Int) ≤ (k : Int) := by omega
   have hPr : Pure w wr := HP1.out.trans HI.out.ext (fun b hb e => by have := HTb.out; omega)
   have cn : wr.cell? ⟨nb, k, none⟩ = some (.string (inhK k)) := inh_cell (HN.out.ext HI.out.ext (by have := HLo.out; omega)) hlt
   have hvb := HBv1.out.ext HI.out.ext (by omega)
   have v0 : wr.cell? ⟨tb + 1, 0, none⟩ = some (.int .i64 vk) := hvb.cell 0
   have v1 : wr.cell? ⟨tb + 1, 1, none⟩ = some (.int .i64 vn) := hvb.cell 1
   have v2 : wr.cell? ⟨tb + 1, 2, none⟩ = some (.string vs) := hvb.cell 2
   have v3 : wr.cell? ⟨tb + 1, 3, none⟩ = some (.slice va vl vc) := hvb.cell 3
   have HPr := qh hPr
   have HKs := qh (inhK_size hlt)
   have HStep : Hid (giveN g v (k + 1) = if (v.get (inhK k)).2 = true then (giveN g v k).put (inhK k) (v.get (inhK k)).1 else giveN g v k) := qh rfl
   have HG := qh (HGet.out (inhK k))
   obtain ⟨nm, hnm⟩ : ∃ z, z = inhK k := ⟨_, rfl⟩
   rw [← hnm] at cn HKs HStep HG
   obtain ⟨X, hX⟩ : ∃ z, z = v.get nm := ⟨_, rfl⟩
   rw [← hX] at HStep HG
   obtain ⟨u, B⟩ := X
   have hltv : tb + 1 < wr.heap.size := hvb.lt
   clear hnm hX hPr hvb
   go_wp2_with fail
   refine (HG.out wr HPr.out).mono ?_
   rintro e W2 ⟨us, rfl, hL, hP⟩
   obtain ⟨ua, uc, urows, hus, _⟩ := hL.kids
   have HL := qh hL
   have HUs := qh hus
   have HP2 := qh hP
   simp only
   rw [hus]
   clear hL hus hP v0 v1 v2 v3 cn HG hltv
   generalize u.l.length = um at *
   generalize u.kind = uk at *
   generalize u.n = un at *
   generalize u.s = usx at *
   cases B with
   | true =>
     obtain ⟨gk, hgk⟩ : ∃ z, z = giveN g v k := ⟨_, rfl⟩
     have hk7 : gk.kind = 7 := by rw [hgk]; exact giveN_kind v H7.out k
     have hkl : gk.l.length ≤ 90000 := by have h1 := giveN_len v H7.out k; have h2 := HGl.out; rw [← hgk] at h1; omega
     rw [← hgk] at HI HStep
     have HNx : Hid (giveN g v (k + 1) = gk.put nm u) := qh (by rw [HStep.out]; rfl)
     have hNe := (put_len gk nm u hk7).2
     have HNe := qh hNe
     have HPut := qh (fun W (hP : Pure wr W) => put_top w0 d gk cs nm u us W ((HP0.out.pure HPr.out).pure hP) (HI.out.top.pure hP) HL.out hkl HKs.out)
     obtain ⟨ca, cc, cxs, hcc, _⟩ := HI.out.top.parts
     have hgb := HI.out.blk.ext HP2.out id
     have HGb := qh (HI.out.blk)
     rw [hcc] at hgb HPut
     rw [HUs.out] at HPut
     have g0 : W2.cell? ⟨tb, 0, none⟩ = some (.int .i64 gk.kind) := hgb.cell 0
     have g1 : W2.cell? ⟨tb, 1, none⟩ = some (.int .i64 gk.n) := hgb.cell 1
     have g2 : W2.cell? ⟨tb, 2, none⟩ = some (.string gk.s) := hgb.cell 2
     have g3 : W2.cell? ⟨tb, 3, none⟩ = some (.slice ca gk.l.length cc) := hgb.cell 3
     have hltg : tb < W2.heap.size := hgb.lt
     have HCc := qh hcc
     clear hgk hk7 hkl hNe hcc hgb
     unfold ValTop at HPut
     obtain ⟨gp, hgp⟩ : ∃ z, z = gk.put nm u := ⟨_, rfl⟩
     rw [← hgp] at HPut HNx HNe
     clear hgp
     generalize gk.l.length = gl at *
     generalize gk.kind = gkk at *
     generalize gk.n = gkn at *
     generalize gk.s = gks at *
     go_wp2_with fail
     refine (HPut.out _ (HP2.out.pure (ext_alloc W2 _))).mono ?_
     rintro e W4 ⟨cs2, rfl, hT, hP4, hO⟩
     have hP5 := (HP2.out.pure (ext_alloc W2 (.cells #[.int .i64 uk, .int .i64 un, .string usx, .slice ua um uc] 48))).pure hP4
     have hB4 := HGb.out.ext hP5 id
     have hoff : ∀ b, b < W1.heap.size → (w.heap.size ≤ b ∨ Off b gcs) → Off b cs2 := fun b hb ho => hO b (by rw [World.size_alloc]; have h1 := HI.out.ext.size; have h2 := HP2.out.size; omega) (by rw [← HCc.out]; exact HI.out.off b hb ho)
     have hlt4 : tb < W1.heap.size := by have := HBv1.out.lt; omega
     have hotb : Off tb cs2 := hoff tb hlt4 (Or.inl (by have := HTb.out; omega))
     have h4 := hT.len
     have HTh : Hid (W4.there tb 0 cs2.toArray.size) := qh (by rw [List.size_toArray, h4]; exact hB4.there 4 (by rw [HI.out.top.len]))
     have HSi : Hid ((Tryz.prog.info? 48).map (·.size) = some cs2.toArray.size) := qh (by rw [List.size_toArray, h4]; exact size24)
     have HOn := qh hT.one
     obtain ⟨W5, hW5⟩ : ∃ z, z = W4.setCells tb 0 cs2 := ⟨_, rfl⟩
     have hX5 : Ext (fun b => b = tb) W4 W5 := by rw [hW5]; exact Ext.setCells (S := fun b => b = tb) _ 0 _ (Ext.refl _ _) (fun _ => rfl)
     have HNew : Hid (GiveI w0 w W1 (d + 1) tb (giveN g v (k + 1)) gcs cs2 W5) := qh ⟨by rw [HNx.out]; exact hT.ext hX5 (fun b hb => by subst hb; exact hotb), by rw [hW5]; exact hB4.setAll cs2 (by rw [h4, HI.out.top.len]), hoff, by rw [HNx.out]; exact fun he => absurd he HNe.out, HI.out.ext.trans ((show Ext (fun b => b = tb) wr W4 from hP5.mono (fun _ _ e => e.elim)).trans hX5 (fun _ _ e => e)) (fun _ _ e => e)⟩
     have HWs : Hid (W4.setCells tb 0 cs2.toArray.toList = W5) := qh (by rw [hW5])
     clear hT hP4 hO hP5 hB4 hoff hlt4 hotb h4 hW5 hX5 g0 g1 g2 g3 hltg HPut
     go_wp2_with (with_reducible refine at_store 48 (.tmp 2) (.tmp 25) ?_; refine wpList_store_mid rfl 48 (.tmp 2) (.tmp 25) rfl tb 0 cs2.toArray rfl rfl HTh.out HSi.out HOn.out ?_; rw [HWs.out])
     go_roundw
     case rel => exact ⟨k + 1, cs2, by omega, by go_num, HNew⟩
     case measure => simp [intOf]; omega
   | false =>
     have HNx : Hid (giveN g v (k + 1) = giveN g v k) := qh (by rw [HStep.out]; rfl)
     have hP5 := HP2.out.pure (ext_alloc W2 (.cells #[.int .i64 uk, .int .i64 un, .string usx, .slice ua um uc] 48))
     have HNew : Hid (GiveI w0 w W1 (d + 1) tb (giveN g v (k + 1)) gcs cs (W2.alloc (.cells #[.int .i64 uk, .int .i64 un, .string usx, .slice ua um uc] 48))) := qh ⟨by rw [HNx.out]; exact HI.out.top.pure hP5, HI.out.blk.ext hP5 id, HI.out.off, by rw [HNx.out]; exact HI.out.free, HI.out.ext.pure hP5⟩
     clear hP5
     go_wp2_with fail
     go_roundw
     case rel => exact ⟨k + 1, cs, by omega, by go_num, HNew⟩
     case measure => simp [intOf]; omega
  ·have hki : ¬ (k : Int) < 4 := by omega
   obtain rfl : k = 4 := by omega
   have HFin : Hid (GiveI w0 w W1 (d + 1) tb (giveP g v) gcs cs wr) := HI
   obtain ⟨gp, hgp⟩ : ∃ z, z = giveP g v := ⟨_, rfl⟩
   rw [← hgp] at HFin
   have HGp := qh hgp
   clear hgp HI
   obtain ⟨ca, cc, cxs, hcc, _⟩ := HFin.out.top.parts
   have hgb := HFin.out.blk
   have HCc := qh hcc
   rw [hcc] at hgb
   have g0 : wr.cell? ⟨tb, 0, none⟩ = some (.int .i64 gp.kind) := hgb.cell 0
   have g1 : wr.cell? ⟨tb, 1, none⟩ = some (.int .i64 gp.n) := hgb.cell 1
   have g2 : wr.cell? ⟨tb, 2, none⟩ = some (.string gp.s) := hgb.cell 2
   have g3 : wr.cell? ⟨tb, 3, none⟩ = some (.slice ca gp.l.length cc) := hgb.cell 3
   have hBr := HBr1.out.ext HFin.out.ext (by omega)
   have hT4 : wr.there (tb + 1 + 1) 0 4 := hBr.there 4 rfl
   have hlt1 : tb + 1 + 1 < W1.heap.size := HBr1.out.lt
   have hX : Ext (fun b => b = tb + 1 + 1) wr (wr.setCells (tb + 1 + 1) 0 cs) := Ext.setCells (S := fun b => b = tb + 1 + 1) _ 0 _ (Ext.refl _ _) (fun _ => rfl)
   have HBz : Hid (BlockIs (wr.setCells (tb + 1 + 1) 0 cs) (tb + 1 + 1) cs 48) := qh (hBr.setAll cs (by rw [HFin.out.top.len]; rfl))
   have HTz := qh (HFin.out.top.ext hX (fun b hb => by subst hb; exact HFin.out.off _ hlt1 (Or.inl (by have := HTb.out; omega))))
   have HPz : Hid (Pure w (wr.setCells (tb + 1 + 1) 0 cs)) := qh ((HP1.out.trans HFin.out.ext (fun b hb e => by have := HTb.out; omega)).trans hX (fun b hb e => by have := HTb.out; omega))
   have HOz : Hid (∀ b, b < w.heap.size → Off b gcs → Off b cs) := qh (fun b hb ho => HFin.out.off b (by have := HP1.out.size; omega) (Or.inr ho))
   have HFz := qh HFin.out.free
   have HOn := qh HFin.out.top.one
   have HLen := qh HFin.out.top.len
   rw [HCc.out] at HBz HTz HPz HOz HFz HOn
   clear hBr hX hgb hcc HFin hlt1
   generalize gp.l.length = gl at *
   generalize gp.kind = gkk at *
   generalize gp.n = gkn at *
   generalize gp.s = gks at *
   have HTh : Hid (wr.there (tb + 1 + 1) 0 (#[.int .i64 gkk, .int .i64 gkn, .string gks, .slice ca gl cc] : Array Value).size) := qh hT4
   clear hT4
   have HSi : Hid ((Tryz.prog.info? 48).map (·.size) = some (#[.int .i64 gkk, .int .i64 gkn, .string gks, .slice ca gl cc] : Array Value).size) := qh size24
   go_wp2_with (with_reducible refine at_store 48 (.tmp 4) (.tmp 27) ?_; refine wpList_store_mid rfl 48 (.tmp 4) (.tmp 27) rfl (tb + 1 + 1) 0 #[.int .i64 gkk, .int .i64 gkn, .string gks, .slice ca gl cc] rfl rfl HTh.out HSi.out HOn.out ?_)
   refine bodyPost_ret (results_row1 rfl _ _ (tb + 1 + 1) _ [.int .i64 gkk, .int .i64 gkn, .string gks, .slice ca gl cc] _ rfl HBz.out Tryz.underlying48 rfl size24) rfl ?_
   rw [← HGp.out, ← HGc.out]
   exact ⟨_, rfl, HTz.out, HPz.out, HOz.out, HFz.out⟩
theorem size55 : (Tryz.prog.info? 92).map (·.size) = some 6 := by kernel_rfl
theorem one6l (n : Int) (a : Option Addr) (m c : Nat) (k x : Int) (s : ByteArray) (b : Option Addr) (q r : Nat) : ((#[Value.int .i64 n, .slice a m c, .int .i64 k, .int .i64 x, .string s, .slice b q r] : Array Value).all fun u => u.oneCell') = true := all_oneCell_toArray (by intro u hu; simp only [List.mem_cons, List.not_mem_nil, or_false] at hu; rcases hu with rfl | rfl | rfl | rfl | rfl | rfl <;> rfl)
def LeafTo (w0 : World) (n : Int) (pa : Option Addr) (pm pc : Nat) (g : V) (d : Nat) (gcs : List Value) (w : World) (e : Ending) (w' : World) : Prop :=
 ∃ cs', e = .returned (.agg (Value.int .i64 n :: Value.slice pa pm pc :: cs').toArray) ∧ Top w0 w' d g cs' ∧ Pure w w' ∧ (g.l ≠ [] → ∀ b, b < w.heap.size → Off b gcs → Off b cs')
structure LeafI (w0 w W1 : World) (d tb : Nat) (g : V) (gcs0 gcs : List Value) (W : World) : Prop where
 top : Top w0 W d g gcs
 blk : BlockIs W tb gcs 48
 off : g.l ≠ [] → ∀ b, b < W1.heap.size → (w.heap.size ≤ b ∨ Off b gcs0) → Off b gcs
 ext : Ext (fun b => b = tb) W1 W
theorem dropped_ne {v : V} {key : ByteArray} (h : (v.dropped key).l ≠ []) : v.l ≠ [] := by
 intro e
 have := dropped_len v key
 rw [e] at this
 exact h (List.length_eq_zero_iff.1 (by simpa using this))
set_option maxHeartbeats 4000000 in
theorem leaf_any (w0 : World) (d : Nat) (n : Int) (pa : Option Addr) (pm pc : Nat) (g : V) (gcs : List Value) (v : V) (vcs : List Value) (w : World) (hP0 : Pure w0 w) (h : Top w0 w (d + 1) g gcs) (hv : Lies w0 (d + 1) v vcs) (hl : g.l.length ≤ 100000) (hvl : v.l.length ≤ 1000000) :
 Calls Tryz.prog 75 #[.int .i64 n, .agg vcs.toArray, .slice pa pm pc, .agg gcs.toArray] w (LeafTo w0 n pa pm pc (leafP g v) (d + 1) gcs w) := by
 have HGet := qh (fun key W (hP : Pure w W) => getw_any d v vcs key w0 W (hP0.pure hP) hv hvl)
 obtain ⟨va, vc, vrows, hvc, _⟩ := hv.kids
 obtain ⟨ga, gc, gxs, hgc, _⟩ := h.parts
 obtain ⟨wz, hwz⟩ : ∃ z, z = ((w.alloc (.cells vcs.toArray 48)).alloc (.cells gcs.toArray 48)).alloc (.cells #[.int .i64 0, .slice none 0 0, .int .i64 0, .int .i64 0, .string ⟨#[]⟩, .slice none 0 0] 92) := ⟨_, rfl⟩
 obtain ⟨tb, htb⟩ : ∃ z, z = w.heap.size := ⟨_, rfl⟩
 have hs1 : (w.alloc (.cells vcs.toArray 48)).heap.size = tb + 1 := by rw [World.size_alloc, htb]
 have hs2 : ((w.alloc (.cells vcs.toArray 48)).alloc (.cells gcs.toArray 48)).heap.size = tb + 1 + 1 := by rw [World.size_alloc, hs1]
 have HBv : Hid (BlockIs wz tb vcs 48) := qh (by rw [hwz, htb]; exact ((BlockIs.new w vcs 48).alloc _).alloc _)
 have HBg : Hid (BlockIs wz (tb + 1) gcs 48) := qh (by rw [hwz, ← hs1]; exact (BlockIs.new _ gcs 48).alloc _)
 have HBr : Hid (BlockIs wz (tb + 1 + 1) [.int .i64 0, .slice none 0 0, .int .i64 0, .int .i64 0, .string ⟨#[]⟩, .slice none 0 0] 92) := qh (by rw [hwz, ← hs2]; exact BlockIs.new _ [.int .i64 0, .slice none 0 0, .int .i64 0, .int .i64 0, .string ⟨#[]⟩, .slice none 0 0] 92)
 have HPz : Hid (Pure w wz) := qh (by rw [hwz]; exact ((ext_alloc w _).pure (ext_alloc _ _)).pure (ext_alloc _ _))
 have HWz : Hid (((w.alloc (.cells vcs.toArray 48)).alloc (.cells gcs.toArray 48)).alloc (.cells #[.int .i64 0, .slice none 0 0, .int .i64 0, .int .i64 0, .string ⟨#[]⟩, .slice none 0 0] 92) = wz) := qh hwz.symm
 have HTb := qh htb
 have HT := qh h
 have HP0 := qh hP0
 have HGl := qh hl
 have HGc := qh hgc
 clear hwz htb hs1 hs2 h hP0 hv hl
 obtain ⟨vl, hvl2⟩ : ∃ z, z = v.l.length := ⟨_, rfl⟩
 rw [← hvl2] at hvc
 clear hvl hvl2
 rw [hgc, hvc] at HWz ⊢
 rw [hvc] at HBv HGet
 clear hgc hvc
 generalize v.kind = vk at *
 generalize v.n = vn at *
 generalize v.s = vs at *
 go_enter Tryz.func75, Tryz.ntmps75
 go_upto_region 1 with (fail)
 rw [HWz.out, ← HTb.out]
 go_wp2_with fail
 refine (inh_any wz).mono ?_
 rintro e W1 ⟨nb, rfl, hN, hlo, hP⟩
 have HN := qh hN
 have HP1 := qh (HPz.out.pure hP)
 have hg1 : BlockIs W1 (tb + 1) gcs 48 := HBg.out.ext hP id
 have HBv1 := qh (HBv.out.ext hP id)
 have HBr1 := qh (HBr.out.ext hP id)
 have HLo := qh (show tb + 1 + 1 < nb by have := HBr.out.lt; omega)
 have HI0 : Hid (LeafI w0 w W1 (d + 1) (tb + 1) g gcs gcs W1) := qh ⟨HT.out.pure HP1.out, hg1, fun hne b hb ho => ho.elim (fun hb2 => HT.out.off_new (fun he => absurd he hne) hb2) id, Ext.refl _ _⟩
 clear hN hP hg1 hlo HBv HBr HBg HPz
 go_wp2_with fail
 go_loopw [15] (fun x wr => ∃ (k : Nat) (cs : List Value), k ≤ 4 ∧ x = .int .i64 k ∧ Hid (LeafI w0 w W1 (d + 1) (tb + 1) (leafN g v k) gcs cs wr)) (fun x _ => 4 - (intOf x).toNat)
 case atStart => exact ⟨0, gcs, by omega, rfl, HI0⟩
 case round =>
  obtain ⟨k, cs, hk, rfl, HI⟩ := hrel
  by_cases hlt : k < 4
  ·have hki : (k : Int) < 4 := by omega
   have hk0 : (0 : Int) ≤ (k : Int) := by omega
   have hPr : Pure w wr := HP1.out.trans HI.out.ext (fun b hb e => by have := HTb.out; omega)
   have cn : wr.cell? ⟨nb, k, none⟩ = some (.string (inhK k)) := inh_cell (HN.out.ext HI.out.ext (by have := HLo.out; omega)) hlt
   have hvb := HBv1.out.ext HI.out.ext (by omega)
   have v0 : wr.cell? ⟨tb, 0, none⟩ = some (.int .i64 vk) := hvb.cell 0
   have v1 : wr.cell? ⟨tb, 1, none⟩ = some (.int .i64 vn) := hvb.cell 1
   have v2 : wr.cell? ⟨tb, 2, none⟩ = some (.string vs) := hvb.cell 2
   have v3 : wr.cell? ⟨tb, 3, none⟩ = some (.slice va vl vc) := hvb.cell 3
   have HPr := qh hPr
   have HStep : Hid (leafN g v (k + 1) = if (v.get (inhK k)).2 = true then (leafN g v k).dropped (inhK k) else leafN g v k) := qh rfl
   have HG := qh (HGet.out (inhK k))
   obtain ⟨nm, hnm⟩ : ∃ z, z = inhK k := ⟨_, rfl⟩
   rw [← hnm] at cn HStep HG
   obtain ⟨X, hX⟩ : ∃ z, z = v.get nm := ⟨_, rfl⟩
   rw [← hX] at HStep HG
   obtain ⟨u, B⟩ := X
   have hltv : tb < wr.heap.size := hvb.lt
   clear hnm hX hPr hvb
   go_wp2_with fail
   refine (HG.out wr HPr.out).mono ?_
   rintro e W2 ⟨us, rfl, hL, hP⟩
   obtain ⟨ua, uc, urows, hus, _⟩ := hL.kids
   have HP2 := qh hP
   simp only
   rw [hus]
   clear hL hus hP v0 v1 v2 v3 cn HG hltv
   generalize u.l.length = um at *
   generalize u.kind = uk at *
   generalize u.n = un at *
   generalize u.s = usx at *
   cases B with
   | true =>
     obtain ⟨gk, hgk⟩ : ∃ z, z = leafN g v k := ⟨_, rfl⟩
     have hkl : gk.l.length ≤ 100000 := by have h1 := leafN_len g v k; have h2 := HGl.out; rw [← hgk] at h1; omega
     rw [← hgk] at HI HStep
     have HNx : Hid (leafN g v (k + 1) = gk.dropped nm) := qh (by rw [HStep.out]; rfl)
     have HNe : Hid ((gk.dropped nm).l ≠ [] → gk.l ≠ []) := qh dropped_ne
     have HDr := qh (fun W (hP : Pure wr W) => drop_top w0 (d + 1) gk cs nm W ((HP0.out.pure HPr.out).pure hP) (HI.out.top.pure hP) hkl)
     obtain ⟨ca, cc, cxs, hcc, _⟩ := HI.out.top.parts
     have hgb := HI.out.blk.ext HP2.out id
     have HGb := qh (HI.out.blk)
     have HGe := qh (show gk.l ≠ [] → ∀ b, b < W1.heap.size → (w.heap.size ≤ b ∨ Off b gcs) → Off b cs from HI.out.off)
     rw [hcc] at hgb HDr
     have g0 : W2.cell? ⟨tb + 1, 0, none⟩ = some (.int .i64 gk.kind) := hgb.cell 0
     have g1 : W2.cell? ⟨tb + 1, 1, none⟩ = some (.int .i64 gk.n) := hgb.cell 1
     have g2 : W2.cell? ⟨tb + 1, 2, none⟩ = some (.string gk.s) := hgb.cell 2
     have g3 : W2.cell? ⟨tb + 1, 3, none⟩ = some (.slice ca gk.l.length cc) := hgb.cell 3
     have hltg : tb + 1 < W2.heap.size := hgb.lt
     have HCc := qh hcc
     clear hgk hkl hcc hgb
     unfold ValTop at HDr
     obtain ⟨gp, hgp⟩ : ∃ z, z = gk.dropped nm := ⟨_, rfl⟩
     rw [← hgp] at HDr HNx HNe
     clear hgp
     generalize gk.l.length = gl at *
     generalize gk.kind = gkk at *
     generalize gk.n = gkn at *
     generalize gk.s = gks at *
     go_wp2_with fail
     refine (HDr.out _ (HP2.out.pure (ext_alloc W2 _))).mono ?_
     rintro e W4 ⟨cs2, rfl, hT, hP4, hO⟩
     have hP5 := (HP2.out.pure (ext_alloc W2 (.cells #[.int .i64 uk, .int .i64 un, .string usx, .slice ua um uc] 48))).pure hP4
     have hB4 := HGb.out.ext hP5 id
     have hoff : gp.l ≠ [] → ∀ b, b < W1.heap.size → (w.heap.size ≤ b ∨ Off b gcs) → Off b cs2 := fun hne b hb ho => hO b (by rw [World.size_alloc]; have h1 := HI.out.ext.size; have h2 := HP2.out.size; omega) (by rw [← HCc.out]; exact HGe.out (HNe.out hne) b hb ho)
     have hlt4 : tb + 1 < W1.heap.size := by have := HBr1.out.lt; omega
     have h4 := hT.len
     have HTh : Hid (W4.there (tb + 1) 0 cs2.toArray.size) := qh (by rw [List.size_toArray, h4]; exact hB4.there 4 (by rw [HI.out.top.len]))
     have HSi : Hid ((Tryz.prog.info? 48).map (·.size) = some cs2.toArray.size) := qh (by rw [List.size_toArray, h4]; exact size24)
     have HOn := qh hT.one
     obtain ⟨W5, hW5⟩ : ∃ z, z = W4.setCells (tb + 1) 0 cs2 := ⟨_, rfl⟩
     have hX5 : Ext (fun b => b = tb + 1) W4 W5 := by rw [hW5]; exact Ext.setCells (S := fun b => b = tb + 1) _ 0 _ (Ext.refl _ _) (fun _ => rfl)
     have HNew : Hid (LeafI w0 w W1 (d + 1) (tb + 1) (leafN g v (k + 1)) gcs cs2 W5) := qh ⟨by rw [HNx.out]; exact hT.ext' hX5 (fun b hb hne => by subst hb; exact hoff hne _ hlt4 (Or.inl (by have := HTb.out; omega))), by rw [hW5]; exact hB4.setAll cs2 (by rw [h4, HI.out.top.len]), by rw [HNx.out]; exact hoff, HI.out.ext.trans ((show Ext (fun b => b = tb + 1) wr W4 from hP5.mono (fun _ _ e => e.elim)).trans hX5 (fun _ _ e => e)) (fun _ _ e => e)⟩
     have HWs : Hid (W4.setCells (tb + 1) 0 cs2.toArray.toList = W5) := qh (by rw [hW5])
     clear hT hP4 hO hP5 hB4 hoff hlt4 h4 hW5 hX5 g0 g1 g2 g3 hltg HDr
     go_wp2_with (with_reducible refine at_store 48 (.tmp 7) (.tmp 28) ?_; refine wpList_store_mid rfl 48 (.tmp 7) (.tmp 28) rfl (tb + 1) 0 cs2.toArray rfl rfl HTh.out HSi.out HOn.out ?_; rw [HWs.out])
     go_roundw
     case rel => exact ⟨k + 1, cs2, by omega, by go_num, HNew⟩
     case measure => simp [intOf]; omega
   | false =>
     have HNx : Hid (leafN g v (k + 1) = leafN g v k) := qh (by rw [HStep.out]; rfl)
     have hP5 := HP2.out.pure (ext_alloc W2 (.cells #[.int .i64 uk, .int .i64 un, .string usx, .slice ua um uc] 48))
     have HNew : Hid (LeafI w0 w W1 (d + 1) (tb + 1) (leafN g v (k + 1)) gcs cs (W2.alloc (.cells #[.int .i64 uk, .int .i64 un, .string usx, .slice ua um uc] 48))) := qh ⟨by rw [HNx.out]; exact HI.out.top.pure hP5, HI.out.blk.ext hP5 id, by rw [HNx.out]; exact HI.out.off, HI.out.ext.pure hP5⟩
     clear hP5
     go_wp2_with fail
     go_roundw
     case rel => exact ⟨k + 1, cs, by omega, by go_num, HNew⟩
     case measure => simp [intOf]; omega
  ·have hki : ¬ (k : Int) < 4 := by omega
   obtain rfl : k = 4 := by omega
   have HFin : Hid (LeafI w0 w W1 (d + 1) (tb + 1) (leafP g v) gcs cs wr) := HI
   obtain ⟨gp, hgp⟩ : ∃ z, z = leafP g v := ⟨_, rfl⟩
   rw [← hgp] at HFin
   have HGp := qh hgp
   clear hgp HI
   obtain ⟨ca, cc, cxs, hcc, _⟩ := HFin.out.top.parts
   have hgb := HFin.out.blk
   have HCc := qh hcc
   rw [hcc] at hgb
   have g0 : wr.cell? ⟨tb + 1, 0, none⟩ = some (.int .i64 gp.kind) := hgb.cell 0
   have g1 : wr.cell? ⟨tb + 1, 1, none⟩ = some (.int .i64 gp.n) := hgb.cell 1
   have g2 : wr.cell? ⟨tb + 1, 2, none⟩ = some (.string gp.s) := hgb.cell 2
   have g3 : wr.cell? ⟨tb + 1, 3, none⟩ = some (.slice ca gp.l.length cc) := hgb.cell 3
   have hBr := HBr1.out.ext HFin.out.ext (by omega)
   have hlt1 : tb + 1 + 1 < W1.heap.size := HBr1.out.lt
   obtain ⟨Wz, hWz⟩ : ∃ z, z = wr.setCells (tb + 1 + 1) 0 (.int .i64 n :: .slice pa pm pc :: cs) := ⟨_, rfl⟩
   have hX : Ext (fun b => b = tb + 1 + 1) wr Wz := by rw [hWz]; exact Ext.setCells (S := fun b => b = tb + 1 + 1) _ 0 _ (Ext.refl _ _) (fun _ => rfl)
   have HBz : Hid (BlockIs Wz (tb + 1 + 1) (.int .i64 n :: .slice pa pm pc :: cs) 92) := qh (by rw [hWz]; exact hBr.setAll _ (by have h := HFin.out.top.len; simp only [List.length_cons, List.length_nil]; omega))
   have HTz := qh (HFin.out.top.ext' hX (fun b hb hne => by subst hb; exact HFin.out.off hne _ hlt1 (Or.inl (by have := HTb.out; omega))))
   have HPz : Hid (Pure w Wz) := qh ((HP1.out.trans HFin.out.ext (fun b hb e => by have := HTb.out; omega)).trans hX (fun b hb e => by have := HTb.out; omega))
   have HOf : Hid (gp.l ≠ [] → ∀ b, b < w.heap.size → Off b gcs → Off b cs) := qh (fun hne b hb ho => HFin.out.off hne b (by have := HP1.out.size; omega) (Or.inr ho))
   have HWz2 : Hid (wr.setCells (tb + 1 + 1) 0 (.int .i64 n :: .slice pa pm pc :: cs) = Wz) := qh hWz.symm
   rw [HCc.out] at HBz HTz HWz2 HOf
   have HTh : Hid (wr.there (tb + 1 + 1) 0 (#[.int .i64 n, .slice pa pm pc, .int .i64 gp.kind, .int .i64 gp.n, .string gp.s, .slice ca gp.l.length cc] : Array Value).size) := qh (hBr.there 6 rfl)
   clear hBr hX hgb hcc HFin hlt1 hWz
   generalize gp.l.length = gl at *
   generalize gp.kind = gkk at *
   generalize gp.n = gkn at *
   generalize gp.s = gks at *
   have HSi : Hid ((Tryz.prog.info? 92).map (·.size) = some (#[.int .i64 n, .slice pa pm pc, .int .i64 gkk, .int .i64 gkn, .string gks, .slice ca gl cc] : Array Value).size) := qh size55
   have HOn := qh (one6l n pa pm pc gkk gkn gks ca gl cc)
   have HWs : Hid (wr.setCells (tb + 1 + 1) 0 (#[.int .i64 n, .slice pa pm pc, .int .i64 gkk, .int .i64 gkn, .string gks, .slice ca gl cc] : Array Value).toList = Wz) := qh HWz2.out
   go_wp2_with (with_reducible refine at_store 92 (.tmp 8) (.tmp 33) ?_; refine wpList_store_mid rfl 92 (.tmp 8) (.tmp 33) rfl (tb + 1 + 1) 0 #[.int .i64 n, .slice pa pm pc, .int .i64 gkk, .int .i64 gkn, .string gks, .slice ca gl cc] rfl rfl HTh.out HSi.out HOn.out ?_; rw [HWs.out])
   refine bodyPost_ret (results_row1 rfl _ _ (tb + 1 + 1) _ [.int .i64 n, .slice pa pm pc, .int .i64 gkk, .int .i64 gkn, .string gks, .slice ca gl cc] _ rfl HBz.out Tryz.underlying92 rfl size55) rfl ?_
   rw [← HGp.out, ← HGc.out]
   exact ⟨_, rfl, HTz.out, HPz.out, HOf.out⟩
