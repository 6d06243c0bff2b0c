import Derived.Test.YtnpiemcfbnpfdaaGreatRLeavesSp
import Derived.Test.YtnpiemcfbnpfdaaGreatRRowSp
import Derived.Test.YtnpiemcfbnpfdaaGreatClosSp
import Derived.Test.YtnpiemcfbnpfdaaGreatZDocSp
import Derived.Test.YtnpiemcfbnpfdaaGreatSplitDSp
import Derived.Test.YtnpiemcfbnpfdaaGreatSqSp
set_option linter.unusedVariables false
set_option linter.unusedSimpArgs false
set_option maxRecDepth 100000
namespace Go.Proofs.YtnpiemcfbnpfdaaGreat
open Go.RowKit Go.Maps
theorem own_apart {w : World} {B B' e e' size size' n n' : Nat} {v v' : Value} {xs xs' : List Value} (h : w.ownsRow B e size v n xs) (h' : w.ownsRow B' e' size' v' n' xs') (he : e ≠ e') : ∀ g, v.ownBlock = some g → ¬ v'.ownBlock = some g := by
 intro g hg hg'
 rcases h.2 with ⟨hv, _⟩ | ⟨g1, cap, cur, hv, _, hh, _⟩
 ·rw [hv] at hg; cases hg
 ·rcases h'.2 with ⟨hv', _⟩ | ⟨g2, cap', cur', hv', _, hh', _⟩
  ·rw [hv'] at hg'; cases hg'
  ·rw [hv] at hg
   rw [hv'] at hg';have e1 : g1 = g := Option.some.inj hg;have e2 : g2 = g := Option.some.inj hg';subst e1;subst e2;rw [hh] at hh'
   injection hh' with hh'
   injection hh' with _ h2 _
   exact he h2
def RClTo (xs : List Int) (w : World) (e : Ending) (w' : World) : Prop :=
 ∃ (a : Option Addr) (c : Nat) (oa : Option Addr) (m oc : Nat), e = .returned (.tuple #[.slice a xs.length c, .slice oa m oc, .int .i64 0, .int .i64 0]) ∧ w'.ownsRow w.heap.size 3 1 (.slice a xs.length c) xs.length (intsV xs) ∧ Pure w w'
set_option maxHeartbeats 8000000 in
theorem refclosure_any (d e0 : Nat) (l : List Ob) (oa : Option Addr) (oc : Nat) (root : Int) (rows : List (List Value)) (n : Int) (pa : Option Addr) (pm pc : Nat) (g : V) (gcs : List Value) (w0 w : World) (hP0 : Pure w0 w) (hD : DocOk w0 d l oa rows root)
 (hg : Lies w (e0 + 1) g gcs) (hgz : g.size ≤ 100000) :
 Calls Tryz.prog 21 #[.agg #[.bool true, .slice oa l.length oc, .slice none 0 0, .slice none 0 0, .slice none 0 0, .int .i64 root], .agg (Value.int .i64 n :: Value.slice pa pm pc :: gcs).toArray] w (RClTo (closP l n g) w) := by
 have HG := qh (fun i W (hP : Pure w W) => refgetdoc_any d l oa oc rows root i w0 W (hP0.pure hP) hD);have HZ := qh hD.at_size;have HFst := qh (fun i cs W (hP : Pure w W) (hL : Lies w0 (d + 1) (obAt l i).v cs) => first21_any d e0 (obAt l i).v cs g gcs W (hL.pure (hP0.pure hP)) (hg.pure hP) (hD.at_size i) hgz);have HNx := qh (fun i cs W (hP : Pure w W) (hL : Lies w0 (d + 1) (obAt l i).v cs) => next21_any (d + 1) (obAt l i).v cs W (hL.pure (hP0.pure hP)) (hD.at_size i));have HGz := qh hgz;unfold OwnI at HFst HNx;unfold ObW at HG;obtain ⟨gk, gn, gs, ga, gm, gc, hgc⟩ := hg.form;subst hgc;obtain ⟨ln, hln⟩ : ∃ z, z = l.length := ⟨_, rfl⟩;rw [← hln] at HG ⊢;obtain ⟨w1, hw1⟩ : ∃ z, z = (w.alloc (.cells #[.bool true, .slice oa ln oc, .slice none 0 0, .slice none 0 0, .slice none 0 0, .int .i64 root] 64)).alloc (.cells #[.int .i64 n, .slice pa pm pc, .int .i64 gk, .int .i64 gn, .string gs, .slice ga gm gc] 72) := ⟨_, rfl⟩;have HP1 : Hid (Pure w w1) := qh (by rw [hw1]; exact (ext_alloc w _).pure (ext_alloc _ _));have HBf1 : Hid (BlockIs w1 w.heap.size [.bool true, .slice oa ln oc, .slice none 0 0, .slice none 0 0, .slice none 0 0, .int .i64 root] 64) := qh (by rw [hw1]; exact (BlockIs.new w _ _).alloc _);have HBl1 : Hid (BlockIs w1 (w.heap.size + 1) [.int .i64 n, .slice pa pm pc, .int .i64 gk, .int .i64 gn, .string gs, .slice ga gm gc] 72) := qh (by
  have := BlockIs.new (w.alloc (.cells #[.bool true, .slice oa ln oc, .slice none 0 0, .slice none 0 0, .slice none 0 0, .int .i64 root] 64)) [.int .i64 n, .slice pa pm pc, .int .i64 gk, .int .i64 gn, .string gs, .slice ga gm gc] 72;rw [World.size_alloc] at this;rw [hw1]; exact this)
 have HW1 := qh hw1.symm;obtain ⟨tb, htb⟩ : ∃ z, z = w.heap.size := ⟨_, rfl⟩;rw [← htb] at HBf1 HBl1;have HTb := qh htb.symm;obtain ⟨w2, hw2⟩ : ∃ z, z = w1.alloc (.cells #[.int .i64 n] 3) := ⟨_, rfl⟩;have HP12 : Hid (Pure w1 w2) := qh (by rw [hw2]; exact ext_alloc _ _);have HO2 : Hid (w2.ownsRow w1.heap.size 3 1 (.slice (some ⟨w1.heap.size, 0, none⟩) 1 1) 1 (intsV [n])) := qh (by rw [hw2]; exact own_new (cs := [.int .i64 n]) rfl (by decide) _ (Nat.le_refl _));have HW2 := qh hw2.symm;have l0 : w1.cell? ⟨tb + 1, 0, none⟩ = some (.int .i64 n) := HBl1.out.cell 0;clear hP0 hD hg hgz hln hw1 htb hw2
 go_enter Tryz.func21, Tryz.ntmps21
 go_upto_region 1 with (fail)
 rw [HW1.out, HTb.out]
 go_upto_region 2 with (fail)
 rw [HW2.out]
 go_wp2_with fail
 go_loopw [10, 8, 9] (fun i r o W => ∃ (k m : Nat) (xs : List Int) (a : Option Addr) (c : Nat) (ob : Option Addr) (ocp : Nat) (rws : List Value), k ≤ m ∧ i = .int .i64 k ∧ r = .slice a m c ∧ o = .slice ob k ocp ∧ Hid (m = xs.length) ∧ Hid (closP l n g = closR l g (5000 - k) xs k) ∧ Hid (Lim n xs) ∧ Hid (W.ownsRow w1.heap.size 3 1 (.slice a m c) m (intsV xs)) ∧ Hid (W.ownsRow w1.heap.size 50 6 (.slice ob k ocp) k rws) ∧ Hid (Pure w1 W)) (fun i _ _ _ => 5000 - (intOf i).toNat)
 case atStart => exact ⟨0, 1, [n], some ⟨w1.heap.size, 0, none⟩, 1, none, 0, [], by omega, rfl, rfl, rfl, qh rfl, qh rfl, qh ⟨by simp, fun x hx => Or.inl (List.mem_singleton.1 hx)⟩, HO2, qh (World.ownsRow_nil _ _ _ _), HP12⟩
 case round =>
  obtain ⟨k, m, xs, a, c, ob, ocp, rws, hk, rfl, rfl, rfl, HM, HC, HL, HO, HQ, HE⟩ := hrel;have hm := HL.out.len;rw [← HM.out] at hm
  by_cases hlt : k < m
  ·have hki : (k : Int) < (m : Int) := by omega
   have hk0 : (0 : Int) ≤ (k : Int) := by omega
   have hkx : k < xs.length := by rw [← HM.out]; exact hlt
   obtain ⟨kb, ko, rfl, hyc⟩ := (own_row HO.out) k _ (intsV_get hkx);have HGo : Hid (closP l n g = closR l g (5000 - (k + 1)) (onP xs (if k = 0 then firstR (obAt l xs[k]).v g else nextR (obAt l xs[k]).v)) (k + 1)) := qh (by rw [HC.out, closR_go (by omega) hkx, Nat.sub_sub])
   obtain ⟨x, hx⟩ : ∃ z, z = xs[k] := ⟨_, rfl⟩;rw [← hx] at hyc HGo;have HKc := qh hyc;have HPr : Hid (Pure w wr) := qh (HP1.out.pure HE.out);have HGx := qh (HG.out x);have HFx := qh (HFst.out x);have HNxx := qh (HNx.out x);have HZx := qh (HZ.out x);have HLf := qh (firstR_len (obAt l x).v g);have HLn := qh (nextR_len (obAt l x).v);obtain ⟨xst, hxst⟩ : ∃ z, z = (obAt l x).st := ⟨_, rfl⟩;obtain ⟨xdt, hxdt⟩ : ∃ z, z = (obAt l x).data := ⟨_, rfl⟩;obtain ⟨xv, hxv⟩ : ∃ z, z = (obAt l x).v := ⟨_, rfl⟩;rw [← hxst, ← hxdt, ← hxv] at HGx;rw [← hxv] at HFx HNxx HZx HLf HLn HGo;clear hx hkx HC hyc hxst hxdt hxv
   go_upto_region 6 with (fail)
   go_cut [11, 12, 13] from 23 to 32 (fun v t1 t2 W => ∃ (vb : Nat) (us : List Value), v = .pointer (some ⟨vb, 0, none⟩) ∧ t1 = .int .i64 0 ∧ t2 = .int .i64 0 ∧ Hid (BlockIs W vb (us ++ [.bool xst, .string xdt]) 50) ∧ Hid (Lies w0 (d + 1) xv us) ∧ Hid (wr.heap.size ≤ vb) ∧ Hid (Pure wr W))
   case first =>
    rename_i J0 K0 hJ0 hK0
    obtain ⟨wd, hwd⟩ : ∃ z, z = wr.drew := ⟨_, rfl⟩;have hPd : Pure wr wd := by rw [hwd]; exact (Ext.refl _ wr).drew
    have HSd : Hid (wd.heap.size = wr.heap.size) := qh (by rw [hwd]; rfl);have HBfd := qh (HBf1.out.ext (HE.out.pure hPd) id);have HKd : Hid (wd.cell? ⟨kb, ko + k, none⟩ = some (.int .i64 x)) := qh (hPd.cell_some HKc.out id);have HLt : Hid (¬ wd.heap.size ≤ tb ∧ ¬ wd.heap.size ≤ kb) := qh ⟨by have := HBfd.out.lt; omega, by have := World.block_lt_of_cell? wd _ HKd.out; simp only at this; omega⟩;have hPw : Pure wd wd := Ext.refl _ _;refine region_start (fun b => wd.heap.size ≤ b) (by kernel_rfl) ?_
    try simp only [Act.put, sA, sZ, sS]
    rw [← hwd];clear hwd;refine rU 0 24 (v := ?vcl0) (fun w' hS => ?hcl0) ?rcl0
    case hcl0 => (refine exec_loadF (x := .tmp 2) ?_ ?_ (HBfd.out.ext hS HLt.out.1) rfl <;> rfl)
    try simp only [Act.put, sA, sZ, sS]
    refine rT 1 25 ?_;refine rT 2 26 ?_;refine rT 3 27 ?_;refine rU 4 28 (v := ?vcl4) (fun w' hS => ?hcl4) ?rcl4
    case hcl4 => (have e : w'.cell? ⟨kb, ko + k, none⟩ = some (.int .i64 x) := hS.cell_some HKd.out HLt.out.2; go_simp; with_reducible rfl)
    try simp only [Act.put, sA, sZ, sS]
    refine wpAnyH_ready (rs := [5, 10]) (by kernel_rfl) (by simp) (AllReadyH.cons rfl (fun K hK => ?_) (AllReadyH.cons rfl (fun K hK => ?_) (AllReadyH.nil)))
    go_simp
    refine (HGx.out wd (HPr.out.pure (hPd.pure hPw))).mono ?_;rintro e V1 ⟨us, rfl, hL, hP⟩;obtain ⟨uk, un, ust, ua, um, uc, hus⟩ := hL.form;subst hus;have HLf0 := qh hL;have hPw := hPw.pure hP;clear hL;refine hK.out _ _ (hP.mono (fun _ _ e => e.elim)) (fun hHeld => ?_);clear hK K hHeld;refine region_now (hP.mono (fun _ _ e => e.elim)) ?_
    try simp only [Act.put, sA, sZ, sS]
    refine rT 6 23 ?_;refine rT 7 30 ?_;refine rT 8 31 ?_;refine rT 9 32 ?_;refine rR 10 (fun K hK => ?_)
    go_simp
    obtain ⟨V2, hwn⟩ : ∃ z, z = V1.alloc (.cells #[.int .i64 0, .int .i64 0, .string ⟨#[]⟩, .slice none 0 0, .bool false, .string ⟨#[]⟩] 50) := ⟨_, rfl⟩;have hP : Pure V1 V2 := by rw [hwn]; exact ext_alloc _ _
    have hBv : BlockIs V2 V1.heap.size [.int .i64 0, .int .i64 0, .string ⟨#[]⟩, .slice none 0 0, .bool false, .string ⟨#[]⟩] 50 := by rw [hwn]; exact BlockIs.new _ _ _
    rw [← hwn];obtain ⟨vb, hvb⟩ : ∃ z, z = V1.heap.size := ⟨_, rfl⟩;rw [← hvb] at hBv ⊢;have hvd : wd.heap.size ≤ vb := by rw [hvb]; exact hPw.size
    have hPw := hPw.pure hP;clear hwn hvb;refine hK.out _ _ (hP.mono (fun _ _ e => e.elim)) (fun hHeld => ?_);clear hK K hHeld;refine region_now (hP.mono (fun _ _ e => e.elim)) ?_
    try simp only [Act.put, sA, sZ, sS]
    refine rR 11 (fun K hK => ?_);have hTh : V2.there vb 0 (#[.int .i64 uk, .int .i64 un, .string ust, .slice ua um uc, .bool xst, .string xdt] : Array Value).size := hBv.there 6 rfl;have hSi : (Tryz.prog.info? 50).map (·.size) = some (#[.int .i64 uk, .int .i64 un, .string ust, .slice ua um uc, .bool xst, .string xdt] : Array Value).size := size43;have hOn : (#[.int .i64 uk, .int .i64 un, .string ust, .slice ua um uc, .bool xst, .string xdt] : Array Value).all (fun u => u.oneCell') = true := one_obj HLf0.out.one;obtain ⟨V3, hV3⟩ : ∃ z, z = V2.setCells vb 0 [.int .i64 uk, .int .i64 un, .string ust, .slice ua um uc, .bool xst, .string xdt] := ⟨_, rfl⟩;have hX : Ext (fun b => wd.heap.size ≤ b) V2 V3 := by rw [hV3]; exact Ext.setCells (S := fun b => wd.heap.size ≤ b) _ 0 _ (Ext.refl _ _) (b := vb) (fun _ => hvd)
    have HBf0 : Hid (BlockIs V3 vb ([.int .i64 uk, .int .i64 un, .string ust, .slice ua um uc] ++ [.bool xst, .string xdt]) 50) := qh (by rw [hV3]; exact hBv.setAll _ rfl);have HPf0 : Hid (Pure wr V3) := qh (hPd.pure (hPw.trans hX (fun i hi e => by omega)));have HVf : Hid (wr.heap.size ≤ vb) := qh (by have := HSd.out; omega);have HV3 : Hid (V2.setCells vb 0 (#[.int .i64 uk, .int .i64 un, .string ust, .slice ua um uc, .bool xst, .string xdt] : Array Value).toList = V3) := qh (by rw [hV3]);clear hV3;refine step_of_list ?_;refine wpList_store_mid rfl 50 (.tmp 11) (.tmp 30) rfl vb 0 #[.int .i64 uk, .int .i64 un, .string ust, .slice ua um uc, .bool xst, .string xdt] rfl rfl hTh hSi hOn ?_;rw [HV3.out];refine hK.out _ _ (hX) (fun hHeld => ?_);clear hK K hHeld;refine region_now (hX) ?_
    try simp only [Act.put, sA, sZ, sS]
    refine rT 12 12 ?_;refine rT 13 13 ?_;refine wpAnyH_done (by kernel_rfl) ?_ _
    rotate_left
    go_simp
    obtain ⟨V1, hwn⟩ : ∃ z, z = wd.alloc (.cells #[.int .i64 0, .int .i64 0, .string ⟨#[]⟩, .slice none 0 0, .bool false, .string ⟨#[]⟩] 50) := ⟨_, rfl⟩;have hP : Pure wd V1 := by rw [hwn]; exact ext_alloc _ _
    have hBv : BlockIs V1 wd.heap.size [.int .i64 0, .int .i64 0, .string ⟨#[]⟩, .slice none 0 0, .bool false, .string ⟨#[]⟩] 50 := by rw [hwn]; exact BlockIs.new _ _ _
    rw [← hwn];obtain ⟨vb, hvb⟩ : ∃ z, z = wd.heap.size := ⟨_, rfl⟩;rw [← hvb] at hBv ⊢;have hvd : wd.heap.size ≤ vb := by rw [hvb]; exact hPw.size
    have hPw := hPw.pure hP;clear hwn hvb;refine hK.out _ _ (hP.mono (fun _ _ e => e.elim)) (fun hHeld => ?_);clear hK K hHeld;refine region_now (hP.mono (fun _ _ e => e.elim)) ?_
    try simp only [Act.put, sA, sZ, sS]
    refine rR 5 (fun K hK => ?_)
    go_simp
    refine (HGx.out V1 (HPr.out.pure (hPd.pure hPw))).mono ?_;rintro e V2 ⟨us, rfl, hL, hP⟩;obtain ⟨uk, un, ust, ua, um, uc, hus⟩ := hL.form;subst hus;have HLf0 := qh hL;have hPw := hPw.pure hP;have hBv := hBv.ext hP id;clear hL;refine hK.out _ _ (hP.mono (fun _ _ e => e.elim)) (fun hHeld => ?_);clear hK K hHeld;refine region_now (hP.mono (fun _ _ e => e.elim)) ?_
    try simp only [Act.put, sA, sZ, sS]
    refine rT 6 23 ?_;refine rT 7 30 ?_;refine rT 8 31 ?_;refine rT 9 32 ?_;refine rR 11 (fun K hK => ?_);have hTh : V2.there vb 0 (#[.int .i64 uk, .int .i64 un, .string ust, .slice ua um uc, .bool xst, .string xdt] : Array Value).size := hBv.there 6 rfl;have hSi : (Tryz.prog.info? 50).map (·.size) = some (#[.int .i64 uk, .int .i64 un, .string ust, .slice ua um uc, .bool xst, .string xdt] : Array Value).size := size43;have hOn : (#[.int .i64 uk, .int .i64 un, .string ust, .slice ua um uc, .bool xst, .string xdt] : Array Value).all (fun u => u.oneCell') = true := one_obj HLf0.out.one;obtain ⟨V3, hV3⟩ : ∃ z, z = V2.setCells vb 0 [.int .i64 uk, .int .i64 un, .string ust, .slice ua um uc, .bool xst, .string xdt] := ⟨_, rfl⟩;have hX : Ext (fun b => wd.heap.size ≤ b) V2 V3 := by rw [hV3]; exact Ext.setCells (S := fun b => wd.heap.size ≤ b) _ 0 _ (Ext.refl _ _) (b := vb) (fun _ => hvd)
    have HBf0 : Hid (BlockIs V3 vb ([.int .i64 uk, .int .i64 un, .string ust, .slice ua um uc] ++ [.bool xst, .string xdt]) 50) := qh (by rw [hV3]; exact hBv.setAll _ rfl);have HPf0 : Hid (Pure wr V3) := qh (hPd.pure (hPw.trans hX (fun i hi e => by omega)));have HVf : Hid (wr.heap.size ≤ vb) := qh (by have := HSd.out; omega);have HV3 : Hid (V2.setCells vb 0 (#[.int .i64 uk, .int .i64 un, .string ust, .slice ua um uc, .bool xst, .string xdt] : Array Value).toList = V3) := qh (by rw [hV3]);clear hV3;refine step_of_list ?_;refine wpList_store_mid rfl 50 (.tmp 11) (.tmp 30) rfl vb 0 #[.int .i64 uk, .int .i64 un, .string ust, .slice ua um uc, .bool xst, .string xdt] rfl rfl hTh hSi hOn ?_;rw [HV3.out];refine hK.out _ _ (hX) (fun hHeld => ?_);clear hK K hHeld;refine region_now (hX) ?_
    try simp only [Act.put, sA, sZ, sS]
    refine rT 12 12 ?_;refine rT 13 13 ?_;refine wpAnyH_done (by kernel_rfl) ?_ _
    rotate_left
    all_goals
     go_simp
     try simp only [Act.put, sA, sZ, sS]
     refine hK0 _ _ ?_
     go_meet
     exact ⟨_, _, rfl, rfl, rfl, HBf0, HLf0, HVf, HPf0⟩
   obtain ⟨vb, us, rfl, rfl, rfl, HBx, HLx, HVb, HPr8⟩ := hcut;obtain ⟨w8, rfl⟩ : ∃ z : World, z = wc := ⟨_, rfl⟩;obtain ⟨xk, xm, xs', xa, xc, xd, hxs⟩ := HLx.out.form;subst hxs;have HE8 := qh (HE.out.pure HPr8.out);have HP8 := qh (HPr.out.pure HPr8.out);have HO8 := qh (own_ext HO.out HPr8.out (fun _ _ => id));have HQ8 := qh (own_ext HQ.out HPr8.out (fun _ _ => id));have HBx8 : Hid (BlockIs w8 vb [.int .i64 xk, .int .i64 xm, .string xs', .slice xa xc xd, .bool xst, .string xdt] 50) := HBx;have HBl8 := qh (HBl1.out.ext HE8.out id);have hx0 : w8.cell? ⟨vb, 0, none⟩ = some (.int .i64 xk) := HBx8.out.cell 0;have hx1 : w8.cell? ⟨vb, 1, none⟩ = some (.int .i64 xm) := HBx8.out.cell 1;have hx2 : w8.cell? ⟨vb, 2, none⟩ = some (.string xs') := HBx8.out.cell 2;have hx3 : w8.cell? ⟨vb, 3, none⟩ = some (.slice xa xc xd) := HBx8.out.cell 3;clear HO HQ HE HPr HPr8 HBx HKc HGx
   by_cases hk1 : k = 0
   ·subst hk1
    rw [if_pos rfl] at HGo;have y2 : w8.cell? ⟨tb + 1, 2, none⟩ = some (.int .i64 gk) := HBl8.out.cell 2;have y3 : w8.cell? ⟨tb + 1, 3, none⟩ = some (.int .i64 gn) := HBl8.out.cell 3;have y4 : w8.cell? ⟨tb + 1, 4, none⟩ = some (.string gs) := HBl8.out.cell 4;have y5 : w8.cell? ⟨tb + 1, 5, none⟩ = some (.slice ga gm gc) := HBl8.out.cell 5;obtain ⟨Y, hY⟩ : ∃ z, z = firstR xv g := ⟨_, rfl⟩;have HYz : Hid (Y.length ≤ 200000) := qh (by rw [hY]; have := HLf.out; have := HZx.out; have := HGz.out; omega);have HYi : Hid (∀ y ∈ Y, 1 ≤ y ∧ y ≤ 4096) := qh (by rw [hY]; exact firstR_in);have HCl := qh (HFx.out _ w8 HP8.out HLx.out);rw [← hY] at HCl HGo;clear hY HFx HNxx HZx HLf HLn;obtain ⟨yn, hyn⟩ : ∃ z, z = Y.length := ⟨_, rfl⟩;rw [← hyn] at HCl HYz;have HYn := qh hyn;clear hyn
    go_wp2_with fail
    refine HCl.out.mono ?_;rintro e w9 ⟨ya, yc, rfl, hOy, hP9⟩;have HE9 := qh (HE8.out.pure hP9);have HO9 := qh (own_ext HO8.out hP9 (fun _ _ => id));have HQ9 := qh (own_ext HQ8.out hP9 (fun _ _ => id));have HBx9 := qh (HBx8.out.ext hP9 id);have hon := on21_any xs Y (some ⟨kb, ko, none⟩) ya c yc w9 (own_row HO9.out) (fun e => by cases e) (own_row hOy) (by have := HM.out; have := HYz.out; have := HYn.out; omega);rw [← HM.out, ← HYn.out] at hon;have HOn := qh hon;unfold OwnI at HOn;obtain ⟨Z, hZ⟩ : ∃ z, z = onP xs Y := ⟨_, rfl⟩;have HZl : Hid (Lim n Z) := qh (by rw [hZ]; exact HL.out.on HYi.out);have HZg : Hid (m ≤ Z.length) := qh (by rw [hZ, HM.out]; exact onP_len_ge xs Y);rw [← hZ] at HOn HGo;obtain ⟨zn, hzn⟩ : ∃ z, z = Z.length := ⟨_, rfl⟩;rw [← hzn] at HOn HZg;have HZn := qh hzn;clear hZ hzn hOy hP9 hon HCl HO8 HQ8 HBx8
    go_wp2_with fail
    refine HOn.out.mono ?_;rintro e wA ⟨za, zc, rfl, hOz, hPA⟩;have HEA := qh (HE9.out.pure hPA);have HBxA := qh (HBx9.out.ext hPA id);have hx0 : wA.cell? ⟨vb, 0, none⟩ = some (.int .i64 xk) := HBxA.out.cell 0;have hx1 : wA.cell? ⟨vb, 0 + 1, none⟩ = some (.int .i64 xm) := HBxA.out.cell 1;have hx2 : wA.cell? ⟨vb, 0 + 2, none⟩ = some (.string xs') := HBxA.out.cell 2;have hx3 : wA.cell? ⟨vb, 0 + 3, none⟩ = some (.slice xa xc xd) := HBxA.out.cell 3;have hx4 : wA.cell? ⟨vb, 0 + 4, none⟩ = some (.bool xst) := HBxA.out.cell 4;have hx5 : wA.cell? ⟨vb, 0 + 5, none⟩ = some (.string xdt) := HBxA.out.cell 5;obtain ⟨wB, hwB⟩ : ∃ z, z = wA.alloc (.cells #[.int .i64 xk, .int .i64 xm, .string xs', .slice xa xc xd, .bool xst, .string xdt] 50) := ⟨_, rfl⟩;have hPB : Pure wA wB := by rw [hwB]; exact ext_alloc _ _
    have HRw : Hid (RowOf wB (some ⟨wA.heap.size, 0, none⟩) [.int .i64 xk, .int .i64 xm, .string xs', .slice xa xc xd, .bool xst, .string xdt]) := qh (by rw [hwB]; exact row_at _ rfl rfl);have HEB := qh (HEA.out.pure hPB);have HOB := qh (own_base (own_ext hOz hPB (fun _ _ => id)) (HE9.out.size));have HQB := qh (own_ext (own_ext HQ9.out hPA (fun _ _ => id)) hPB (fun _ _ => id));have HWB := qh hwB.symm;have HOne : Hid (∀ u ∈ ([.int .i64 xk, .int .i64 xm, .string xs', .slice xa xc xd, .bool xst, .string xdt] : List Value), u.oneCell' = true) := qh (by intro u hu; simp only [List.mem_cons, List.not_mem_nil, or_false] at hu; rcases hu with rfl | rfl | rfl | rfl | rfl | rfl <;> rfl);have HB1 : Hid ((0 + 1) * 80 ≤ 140737488355328) := qh (by omega);have HB2 : Hid (0 + 1 ≤ maxLen) := qh (by unfold maxLen; omega);have HRs := qh HEB.out.size;clear hwB hPB hPA hOz HO9 HQ9 HBx9 HOn
    go_wp2_with (at_builtin; rw [HWB.out]; refine wpList_append_fresh rfl (.tmp 51) (.tmp 53) 22 rfl w1.heap.size 50 (.agg #[.int .i64 0, .int .i64 0, .string ⟨#[]⟩, .slice none 0 0, .bool false, .string ⟨#[]⟩]) 6 80 Tryz.underlying22 infoOb rfl (by decide) (.slice ob 0 ocp) 0 rws rfl HQB.out (some ⟨wA.heap.size, 0, none⟩) 1 1 [.int .i64 xk, .int .i64 xm, .string xs', .slice xa xc xd, .bool xst, .string xdt] rfl (fun e => by cases e) rfl HRw.out HOne.out (0 + 1) rfl (rws ++ [.int .i64 xk, .int .i64 xm, .string xs', .slice xa xc xd, .bool xst, .string xdt]) rfl HB1.out HB2.out HRs.out ?_; intro a6 c6 w6 hO6 hg6 hf6)
    have HON : Hid (w6.ownsRow w1.heap.size 3 1 (.slice za zn zc) zn (intsV Z)) := qh (own_ext HOB.out (ext_of_grown hg6) (fun g hg e => own_apart HOB.out HQB.out (by decide) g hg e));have HEN : Hid (Pure w1 w6) := qh (HEB.out.trans (ext_of_grown hg6) (fun i hi e => by have := (HQB.out.lt i e).1; omega));have HQN := qh hO6;clear hO6 hg6 hf6 hx0 hx1 hx2 hx3 hx4 hx5
    go_wp2_with fail
    go_roundw
    case rel => exact ⟨0 + 1, zn, Z, za, zc, a6, c6, _, by have := HZg.out; omega, by go_num, rfl, rfl, HZn, HGo, HZl, HON, HQN, HEN⟩
    case measure => (simp [intOf]) <;> omega
   ·rw [if_neg hk1] at HGo
    have hkb : ((k : Int) == 0) = false := by simp; omega
    obtain ⟨Y, hY⟩ : ∃ z, z = nextR xv := ⟨_, rfl⟩;have HYz : Hid (Y.length ≤ 200000) := qh (by rw [hY]; have := HLn.out; have := HZx.out; omega);have HYi : Hid (∀ y ∈ Y, 1 ≤ y ∧ y ≤ 4096) := qh (by rw [hY]; exact nextR_in);have HCl := qh (HNxx.out _ w8 HP8.out HLx.out);rw [← hY] at HCl HGo;clear hY HFx HNxx HZx HLf HLn;obtain ⟨yn, hyn⟩ : ∃ z, z = Y.length := ⟨_, rfl⟩;rw [← hyn] at HCl HYz;have HYn := qh hyn;clear hyn
    go_wp2_with fail
    refine HCl.out.mono ?_;rintro e w9 ⟨ya, yc, rfl, hOy, hP9⟩;have HE9 := qh (HE8.out.pure hP9);have HO9 := qh (own_ext HO8.out hP9 (fun _ _ => id));have HQ9 := qh (own_ext HQ8.out hP9 (fun _ _ => id));have HBx9 := qh (HBx8.out.ext hP9 id);have hon := on21_any xs Y (some ⟨kb, ko, none⟩) ya c yc w9 (own_row HO9.out) (fun e => by cases e) (own_row hOy) (by have := HM.out; have := HYz.out; have := HYn.out; omega);rw [← HM.out, ← HYn.out] at hon;have HOn := qh hon;unfold OwnI at HOn;obtain ⟨Z, hZ⟩ : ∃ z, z = onP xs Y := ⟨_, rfl⟩;have HZl : Hid (Lim n Z) := qh (by rw [hZ]; exact HL.out.on HYi.out);have HZg : Hid (m ≤ Z.length) := qh (by rw [hZ, HM.out]; exact onP_len_ge xs Y);rw [← hZ] at HOn HGo;obtain ⟨zn, hzn⟩ : ∃ z, z = Z.length := ⟨_, rfl⟩;rw [← hzn] at HOn HZg;have HZn := qh hzn;clear hZ hzn hOy hP9 hon HCl HO8 HQ8 HBx8
    go_wp2_with fail
    refine HOn.out.mono ?_;rintro e wA ⟨za, zc, rfl, hOz, hPA⟩;have HEA := qh (HE9.out.pure hPA);have HBxA := qh (HBx9.out.ext hPA id);have hx0 : wA.cell? ⟨vb, 0, none⟩ = some (.int .i64 xk) := HBxA.out.cell 0;have hx1 : wA.cell? ⟨vb, 0 + 1, none⟩ = some (.int .i64 xm) := HBxA.out.cell 1;have hx2 : wA.cell? ⟨vb, 0 + 2, none⟩ = some (.string xs') := HBxA.out.cell 2;have hx3 : wA.cell? ⟨vb, 0 + 3, none⟩ = some (.slice xa xc xd) := HBxA.out.cell 3;have hx4 : wA.cell? ⟨vb, 0 + 4, none⟩ = some (.bool xst) := HBxA.out.cell 4;have hx5 : wA.cell? ⟨vb, 0 + 5, none⟩ = some (.string xdt) := HBxA.out.cell 5;obtain ⟨wB, hwB⟩ : ∃ z, z = wA.alloc (.cells #[.int .i64 xk, .int .i64 xm, .string xs', .slice xa xc xd, .bool xst, .string xdt] 50) := ⟨_, rfl⟩;have hPB : Pure wA wB := by rw [hwB]; exact ext_alloc _ _
    have HRw : Hid (RowOf wB (some ⟨wA.heap.size, 0, none⟩) [.int .i64 xk, .int .i64 xm, .string xs', .slice xa xc xd, .bool xst, .string xdt]) := qh (by rw [hwB]; exact row_at _ rfl rfl);have HEB := qh (HEA.out.pure hPB);have HOB := qh (own_base (own_ext hOz hPB (fun _ _ => id)) (HE9.out.size));have HQB := qh (own_ext (own_ext HQ9.out hPA (fun _ _ => id)) hPB (fun _ _ => id));have HWB := qh hwB.symm;have HOne : Hid (∀ u ∈ ([.int .i64 xk, .int .i64 xm, .string xs', .slice xa xc xd, .bool xst, .string xdt] : List Value), u.oneCell' = true) := qh (by intro u hu; simp only [List.mem_cons, List.not_mem_nil, or_false] at hu; rcases hu with rfl | rfl | rfl | rfl | rfl | rfl <;> rfl);have HB1 : Hid ((k + 1) * 80 ≤ 140737488355328) := qh (by omega);have HB2 : Hid (k + 1 ≤ maxLen) := qh (by unfold maxLen; omega);have HRs := qh HEB.out.size;clear hwB hPB hPA hOz HO9 HQ9 HBx9 HOn
    go_wp2_with (at_builtin; rw [HWB.out]; refine wpList_append_fresh rfl (.tmp 51) (.tmp 53) 22 rfl w1.heap.size 50 (.agg #[.int .i64 0, .int .i64 0, .string ⟨#[]⟩, .slice none 0 0, .bool false, .string ⟨#[]⟩]) 6 80 Tryz.underlying22 infoOb rfl (by decide) (.slice ob k ocp) k rws rfl HQB.out (some ⟨wA.heap.size, 0, none⟩) 1 1 [.int .i64 xk, .int .i64 xm, .string xs', .slice xa xc xd, .bool xst, .string xdt] rfl (fun e => by cases e) rfl HRw.out HOne.out (k + 1) rfl (rws ++ [.int .i64 xk, .int .i64 xm, .string xs', .slice xa xc xd, .bool xst, .string xdt]) rfl HB1.out HB2.out HRs.out ?_; intro a6 c6 w6 hO6 hg6 hf6)
    have HON : Hid (w6.ownsRow w1.heap.size 3 1 (.slice za zn zc) zn (intsV Z)) := qh (own_ext HOB.out (ext_of_grown hg6) (fun g hg e => own_apart HOB.out HQB.out (by decide) g hg e));have HEN : Hid (Pure w1 w6) := qh (HEB.out.trans (ext_of_grown hg6) (fun i hi e => by have := (HQB.out.lt i e).1; omega));have HQN := qh hO6;clear hO6 hg6 hf6 hx0 hx1 hx2 hx3 hx4 hx5
    go_wp2_with fail
    go_roundw
    case rel => exact ⟨k + 1, zn, Z, za, zc, a6, c6, _, by have := HZg.out; omega, by go_num, rfl, rfl, HZn, HGo, HZl, HON, HQN, HEN⟩
    case measure => (simp [intOf]) <;> omega
  ·have hki : ¬ (k : Int) < (m : Int) := by omega
   obtain rfl : k = m := by omega
   have HCe : Hid (closP l n g = xs) := qh (by rw [HC.out, HM.out]; exact closR_end l g _ xs)
   go_wp2_with fail
   refine bodyPost_ret (results_tmp4 rfl _ _ _) rfl ?_;refine ⟨a, c, ob, k, ocp, by rw [HCe.out, ← HM.out]; rfl, ?_, HP1.out.pure HE.out⟩;rw [HCe.out, ← HM.out];exact own_base HO.out HP1.out.size
set_option maxHeartbeats 4000000 in
theorem refrows_any (d : Nat) (l : List Ob) (oa : Option Addr) (oc : Nat) (rows : List (List Value)) (root : Int) (w : World) (hD : DocOk w d l oa rows root) (hds : ∀ u ∈ l, u.data.size ≤ maxLen) (hE : docE l root = 0)
 (T : Tr) (n0 : Int) (kids : List Int) (q : Int) (Rs : List (Int × List Int × V)) (hDF : DocFine l root T) (hTop : TopOk l root n0 kids q) (hRq : (Rs.length : Int) = q) (hRT : Rs.length = T.pages.length)
 (hRs : ∀ (p : Nat) (hp : p < Rs.length), findP l 64 n0 kids q (p : Int) [] emptyV = some Rs[p] ∧ LeafGood l root T (p : Int) Rs[p]) :
 Calls Tryz.prog 8 #[.agg #[.slice oa l.length oc, .int .i64 root]] w (RwsTo2 (rowsL l Rs) w) := by
 have HDo := qh (fun W (hP : Pure w W) => (hE ▸ refdoc_any d l oa oc rows root W (hD.pure hP) hds : Calls Tryz.prog 18 #[.agg #[.slice oa l.length oc, .int .i64 root]] W (IntTo 0 W)));have HLv := qh (fun W (hP : Pure w W) => refleaves_any d l oa oc root rows n0 w W hP hD kids q hTop Rs hRq (fun p hp => (hRs p hp).1));have HCl := qh (fun W (hP : Pure w W) (x : Int) pa pm pc g gcs (hg : Lies W (d + 1 + 1) g gcs) hgz => refclosure_any d (d + 1) l oa oc root rows x pa pm pc g gcs w W hP hD hg hgz);have HOf := qh (fun W => refof_any oa l.length oc root W);have hq2 : Rs.length ≤ 2048 := by have := (node_typed hTop.node).2.2.2; omega
 have HLn : Hid (l.length ≤ 5000) := qh hD.len;obtain ⟨n, hn⟩ : ∃ z, z = l.length := ⟨_, rfl⟩;rw [← hn] at HOf HCl HDo ⊢;have HN := qh hn;obtain ⟨pn, hpn⟩ : ∃ z, z = Rs.length := ⟨_, rfl⟩;have HPn := qh hpn;unfold LeavesTo at HLv;unfold RClTo at HCl;rw [← hpn] at HLv hq2;rw [← hn] at HLv;have HRs := qh hRs;have HRT := qh hRT;have HDF := qh hDF;clear hn hpn hRs hRT hDF hTop hRq hD hds hE;obtain ⟨w1, hw1⟩ : ∃ z, z = w.alloc (.cells #[.slice oa n oc, .int .i64 root] 24) := ⟨_, rfl⟩;have HP1 : Hid (Pure w w1) := qh (by rw [hw1]; exact ext_alloc w _);have HBd : Hid (BlockIs w1 w.heap.size [.slice oa n oc, .int .i64 root] 24) := qh (by rw [hw1]; exact BlockIs.new w _ _);have HW1 := qh hw1.symm;obtain ⟨tb, htb⟩ : ∃ z, z = w.heap.size := ⟨_, rfl⟩;rw [← htb] at HBd;have HTb := qh htb.symm;clear hw1 htb;have d0 : w1.cell? ⟨tb, 0, none⟩ = some (.slice oa n oc) := HBd.out.cell 0;have d1 : w1.cell? ⟨tb, 0 + 1, none⟩ = some (.int .i64 root) := HBd.out.cell 1
 go_enter Tryz.func8, Tryz.ntmps8
 go_upto_region 1 with (fail)
 rw [HW1.out, HTb.out]
 go_wp2_with fail
 refine (HDo.out w1 HP1.out).mono ?_;rintro e w2 ⟨rfl, hP⟩;have HP2 := qh (HP1.out.pure hP);have hB2 := HBd.out.ext hP id;have e0 : w2.cell? ⟨tb, 0, none⟩ = some (.slice oa n oc) := hB2.cell 0;have e1 : w2.cell? ⟨tb, 0 + 1, none⟩ = some (.int .i64 root) := hB2.cell 1;clear hP hB2 d0 d1
 go_wp2_with fail
 refine (HOf.out w2).mono ?_;rintro e w3 ⟨rfl, hP⟩;have HP3 := qh (HP2.out.pure hP);obtain ⟨w5, hw5⟩ : ∃ z, z = w3.alloc (.cells #[.bool true, .slice oa n oc, .slice none 0 0, .slice none 0 0, .slice none 0 0, .int .i64 root] 64) := ⟨_, rfl⟩;have HP5 := qh (HP3.out.pure (show Pure w3 w5 by rw [hw5]; exact ext_alloc _ _));have HBf : Hid (BlockIs w5 w3.heap.size [.bool true, .slice oa n oc, .slice none 0 0, .slice none 0 0, .slice none 0 0, .int .i64 root] 64) := qh (by rw [hw5]; exact BlockIs.new _ _ _);have HW5 := qh hw5.symm;obtain ⟨fb, hfb⟩ : ∃ z, z = w3.heap.size := ⟨_, rfl⟩;rw [← hfb] at HBf;have HFb := qh hfb.symm;have f0 : w5.cell? ⟨fb, 0, none⟩ = some (.bool true) := HBf.out.cell 0;have f1 : w5.cell? ⟨fb, 0 + 1, none⟩ = some (.slice oa n oc) := HBf.out.cell 1;have f2 : w5.cell? ⟨fb, 0 + 2, none⟩ = some (.slice none 0 0) := HBf.out.cell 2;have f3 : w5.cell? ⟨fb, 0 + 3, none⟩ = some (.slice none 0 0) := HBf.out.cell 3;have f4 : w5.cell? ⟨fb, 0 + 4, none⟩ = some (.slice none 0 0) := HBf.out.cell 4;have f5 : w5.cell? ⟨fb, 0 + 5, none⟩ = some (.int .i64 root) := HBf.out.cell 5;clear hP hw5 hfb e0 e1
 go_upto_region 5 with (fail)
 rw [HW5.out, HFb.out]
 go_wp2_with fail
 refine (HLv.out w5 HP5.out).mono ?_;rintro e w6 ⟨la, lc, rws, rfl, hRw, hrl, hrow, hPf⟩;have HP6 := qh (HP5.out.pure hPf);have HB6 := qh (HBf.out.ext hPf id);have HRw := qh hRw;have HRl := qh hrl;have HRo := qh hrow;clear hPf hRw hrl hrow HLv f0 f1 f2 f3 f4 f5;obtain ⟨R, hR⟩ : ∃ z, z = w6.heap.size := ⟨_, rfl⟩;have HRz := qh hR;clear hR
 go_wp2_with fail
 go_loopw [10, 9] (fun x v wr => ∃ (k : Nat) (κ : Nat → Nat) (a : Option Addr) (c : Nat) (rs : List CRow), k ≤ pn ∧ x = .int .i64 k ∧ v = .slice a k c ∧ Hid (rs.length = k ∧ lsR rs = (rowsL l Rs).take k) ∧ Hid (OwnC κ R 3 35 wr a c (rs.map CRow.v)) ∧ Hid (RwC κ R wr rs) ∧ Hid (∀ b, b < R → κ b = 0) ∧ Hid (Pure w6 wr)) (fun x _ _ => pn - (intOf x).toNat)
 case atStart => exact ⟨0, fun _ => 0, none, 0, [], Nat.zero_le _, rfl, rfl, qh ⟨rfl, rfl⟩, qh (OwnC.nil _ _ _ _ _), qh (fun i q hq => by cases hq), qh (fun _ _ => rfl), qh (Ext.refl _ _)⟩
 case round =>
  obtain ⟨k, κ, a, c, rs, hk, rfl, rfl, HL, HO, HRc, HK, HPr⟩ := hrel
  by_cases hlt : k < pn
  ·have hki : (k : Int) < (pn : Int) := by omega
   have hk0 : (0 : Int) ≤ (k : Int) := by omega
   have hkR : k < Rs.length := by rw [← HPn.out]; exact hlt
   have hkr : k < rws.length := by rw [HRl.out]; exact hlt
   have h6 : ∀ r ∈ rws, r.length = 6 := fun r hr => by
    obtain ⟨i, hi, rfl⟩ := List.getElem_of_mem hr;exact (HRo.out i _ _ (List.getElem?_eq_getElem (by rw [← HPn.out, ← HRl.out]; exact hi)) (List.getElem?_eq_getElem hi)).len
   obtain ⟨lb, lo, rfl, hcell⟩ := six_at h6 HRw.out hkr;have hL := HRo.out k _ _ (List.getElem?_eq_getElem hkR) (List.getElem?_eq_getElem hkr);have hG := (HRs.out k hkR).2;have HTk := qh (rowsL_get l Rs k hkR);obtain ⟨rw6, hrw6⟩ : ∃ z, z = rws[k] := ⟨_, rfl⟩;obtain ⟨Rk, hRe⟩ : ∃ z, z = Rs[k] := ⟨_, rfl⟩;rw [← hrw6] at hcell hL;rw [← hRe] at hL hG HTk;clear hrw6 hRe h6 hkr;obtain ⟨Rn, Rp, Rg⟩ := Rk;obtain ⟨hPg, hPt, hGd, hRpl⟩ := hG;simp only at hPg hPt hGd hRpl;obtain ⟨pta, ptc, gcs, rfl, hPath, hTp⟩ := hL;have hLg : Lies w6 (d + 1 + 1) Rg gcs := hTp.lies HP6.out;simp only at hPath hcell hLg HTk;have hkp : k < T.pages.length := by rw [← HRT.out]; exact hkR
   have hPk : T.pages[k] = Rn := by
    rw [Int.toNat_natCast, List.getElem?_eq_getElem hkp] at hPg;exact Option.some.inj hPg
   have HRnW : Hid ((Lit.int .i64 Rn).wf = true) := qh (by
    have h1 := HDF.out.tok.lo Rn (Or.inr (by rw [← hPk]; exact List.getElem_mem hkp));have h2 := HLn.out;exact num_wf (by omega) (by omega))
   obtain ⟨ca, cc, crows, hcc, _⟩ := hLg.kids;have HClo := qh (fun W (hP : Pure w6 W) => HCl.out W (HP6.out.pure hP) Rn pta Rp.length ptc Rg gcs (hLg.pure hP) hGd.size);rw [hcc] at hcell HClo;clear hPg hPk hkp hLg hPath hPt hGd hTp hcc hkR HCl;obtain ⟨pl, hpl⟩ : ∃ z, z = Rp.length := ⟨_, rfl⟩;rw [← hpl] at hcell HClo;obtain ⟨L, hLe⟩ : ∃ z, z = closP l Rn Rg := ⟨_, rfl⟩;rw [← hLe] at HTk HClo;obtain ⟨fl, hfl⟩ : ∃ z, z = Rg.l.length := ⟨_, rfl⟩;rw [← hfl] at hcell HClo;generalize Rg.kind = gk at *;generalize Rg.n = gn at *;generalize Rg.s = gs at *;clear hpl hLe hfl;have hr : wr.rangeAt lb (lo + k * 6) [.int .i64 Rn, .slice pta pl ptc, .int .i64 gk, .int .i64 gn, .string gs, .slice ca fl cc] := fun j v hv => by
    exact HPr.out.cell_some (hcell j v hv) id
   have HSg : Hid (R ≤ wr.heap.size) := qh (by rw [HRz.out]; exact HPr.out.size);clear hcell hRpl
   go_upto_region 10 with (fail)
   obtain ⟨W2, hW2⟩ : ∃ z, z = wr.drew := ⟨_, rfl⟩;have HP2 : Hid (Pure wr W2) := qh (by rw [hW2]; exact (Ext.refl _ wr).drew);have hPw : Pure W2 W2 := Ext.refl _ _;have HBfd := qh (HB6.out.ext (HPr.out.pure HP2.out) id);have HRd : Hid (∀ W, Pure W2 W → W.rangeAt lb (lo + k * 6) [.int .i64 Rn, .slice pta pl ptc, .int .i64 gk, .int .i64 gn, .string gs, .slice ca fl cc]) := qh (fun W hP j v hv => (HP2.out.pure hP).cell_some (hr j v hv) id);clear hr;refine region_start (fun _ => False) (by kernel_rfl) ?_
   try simp only [Act.put, sA, sZ, sS]
   rw [← hW2];clear hW2;refine rU 0 35 (v := ?vrr0) (fun w' hS => ?hrr0) ?rrr0
   case hrr0 => (refine exec_loadF (x := .tmp 5) ?_ ?_ (HBfd.out.ext hS id) rfl <;> rfl)
   try simp only [Act.put, sA, sZ, sS]
   refine rT 1 36 ?_;refine rT 2 37 ?_;refine rT 3 38 ?_;refine rU 4 39 (v := ?vrr4) (fun w' hS => ?hrr4) ?rrr4
   case hrr4 => (have hx := HRd.out w' (hPw.pure hS); have e0 : w'.cell? ⟨lb, lo + k * 6, none⟩ = some (.int .i64 Rn) := hx 0 _ rfl; have e1 : w'.cell? ⟨lb, lo + k * 6 + 1, none⟩ = some (.slice pta pl ptc) := hx 1 _ rfl; have e2 : w'.cell? ⟨lb, lo + k * 6 + 2, none⟩ = some (.int .i64 gk) := hx 2 _ rfl; have e3 : w'.cell? ⟨lb, lo + k * 6 + 3, none⟩ = some (.int .i64 gn) := hx 3 _ rfl; have e4 : w'.cell? ⟨lb, lo + k * 6 + 4, none⟩ = some (.string gs) := hx 4 _ rfl; have e5 : w'.cell? ⟨lb, lo + k * 6 + 5, none⟩ = some (.slice ca fl cc) := hx 5 _ rfl; clear hx; go_simp; with_reducible rfl)
   try simp only [Act.put, sA, sZ, sS]
   refine rR 5 (fun K hK => ?_)
   go_simp
   refine (HClo.out _ (HPr.out.pure (HP2.out.pure hPw))).mono ?_;rintro e W3 ⟨ra, rc, oa3, m3, oc3, rfl, hO3, hP⟩;have hPw := hPw.pure hP;refine hK.out _ _ (hP) (fun hHeld => ?_);clear hK K hHeld;refine region_now (hP) ?_
   try simp only [Act.put, sA, sZ, sS]
   refine rT 6 34 ?_;refine rT 7 41 ?_;refine rT 8 42 ?_;refine rT 9 43 ?_;refine rT 10 44 ?_;refine rT 11 11 ?_;refine rT 12 12 ?_;refine rT 13 13 ?_;refine rT 14 14 ?_;refine wpAnyH_done (by kernel_rfl) ?_ _;have HP3 := qh (HP2.out.pure hPw);have HO3 := qh hO3;have hSg2 : wr.heap.size ≤ W2.heap.size := HP2.out.size;obtain ⟨ln, hln⟩ : ∃ z, z = L.length := ⟨_, rfl⟩;rw [← hln] at HO3 ⊢;have HLn2 := qh hln;obtain ⟨W4, hW4⟩ : ∃ z, z = W3.alloc (.cells #[.slice ra ln rc] 35) := ⟨_, rfl⟩;have HPa : Hid (Pure W3 W4) := qh (by rw [hW4]; exact ext_alloc _ _);have HRw1 : Hid (RowOf W4 (some ⟨W3.heap.size, 0, none⟩) [.slice ra ln rc]) := qh (by rw [hW4]; exact row_at _ rfl rfl);have HW4 : Hid (W3.alloc (.cells #[.slice ra ln rc] 35) = W4) := qh hW4.symm;have HRs4 : Hid (R ≤ W4.heap.size) := qh (Nat.le_trans HSg.out (Nat.le_trans HP3.out.size HPa.out.size));obtain ⟨κ2, hκ2⟩ : ∃ z, z = paint wr κ (20 + rs.length) := ⟨_, rfl⟩;have hag : Agree wr κ κ2 := by rw [hκ2]; exact paint_agree wr κ _
   have HOr : Hid (OwnC κ2 R (20 + rs.length) 3 W4 ra rc (intsV L)) := qh ⟨by
    rw [intsV_len, ← HLn2.out];exact own_ext (own_base HO3.out (Nat.le_trans HSg.out hSg2)) HPa.out (fun _ _ => id), fun x hx => by
    rw [hκ2];exact paint_new (Nat.le_trans hSg2 (HO3.out.lt x.block (by rw [hx]; rfl)).1)⟩
   have HOo : Hid (OwnC κ2 R 3 35 W4 a c (rs.map CRow.v)) := qh ((HO.out.keep (HP3.out.pure HPa.out) (fun _ _ => id) hag));have HRc4 : Hid (RwC κ2 R W4 rs) := qh (HRc.out.keep (HP3.out.pure HPa.out) (fun _ _ => id) hag);have HK2 : Hid (∀ b, b < R → κ2 b = 0) := qh (fun b hb => (hag b (Nat.lt_of_lt_of_le hb HSg.out)).trans (HK.out b hb));have HOs : Hid (W4.ownsRow R 35 1 (.slice a k c) k (rs.map CRow.v)) := qh (by
    have h := HOo.out.row;rw [List.length_map, HL.out.1] at h;exact h)
   have HP64 : Hid (Pure w6 W4) := qh (HPr.out.pure (HP3.out.pure HPa.out));clear hW4 hκ2 hag hO3 hPw hln hSg2
   go_simp
   try simp only [Act.put, sA, sZ, sS]
   go_wp2_with (at_builtin; rw [HW4.out]; refine wpList_append_fresh rfl (.tmp 45) (.tmp 47) 27 rfl R 35 (.slice none 0 0) 1 24 Tryz.underlying27 infoR rfl (by decide) (.slice a k c) k (rs.map CRow.v) rfl HOs.out (some ⟨W3.heap.size, 0, none⟩) 1 1 [.slice ra ln rc] rfl (fun e => by cases e) rfl HRw1.out (fun u hu => by simp at hu; subst hu; rfl) (k + 1) rfl (rs.map CRow.v ++ [.slice ra ln rc]) rfl (by omega) (by unfold maxLen; omega) HRs4.out ?_; intro a7 c7 W7 hO7 hg7 hf7)
   have hgr := HOo.out.grow (a2 := a7) (c2 := c7) (u := .slice ra ln rc) (Ext.refl _ _) (by rw [List.length_map, HL.out.1]; exact hg7) (by rw [List.length_map, HL.out.1]; exact hO7) (by rw [List.length_map, HL.out.1]; exact hf7);have hag7 := paint_agree W4 κ2 3;have HOo7 : Hid (OwnC (paint W4 κ2 3) R 3 35 W7 a7 c7 ((rs ++ [CRow.mk ra rc L]).map CRow.v)) := qh (by
    rw [List.map_append]
    show OwnC (paint W4 κ2 3) R 3 35 W7 a7 c7 (rs.map CRow.v ++ [.slice ra L.length rc])
    rw [← HLn2.out];exact hgr.1)
   have HRc7 : Hid (RwC (paint W4 κ2 3) R W7 (rs ++ [CRow.mk ra rc L])) := qh ((HRc4.out.keep hgr.2 (fun b hb e => by omega) hag7).snoc (HOr.out.keep hgr.2 (fun b hb e => by omega) hag7));have HK7 : Hid (∀ b, b < R → paint W4 κ2 3 b = 0) := qh (fun b hb => (hag7 b (Nat.lt_of_lt_of_le hb HRs4.out)).trans (HK2.out b hb));have HP67 : Hid (Pure w6 W7) := qh (pure_old HP64.out hgr.2 (fun b hb => HK2.out b (by rw [HRz.out]; exact hb)) (fun b e => by omega));have HL7 : Hid ((rs ++ [CRow.mk ra rc L]).length = k + 1 ∧ lsR (rs ++ [CRow.mk ra rc L]) = (rowsL l Rs).take (k + 1)) := qh ⟨by rw [List.length_append, HL.out.1]; rfl, by
    have e : lsR (rs ++ [CRow.mk ra rc L]) = lsR rs ++ [L] := by unfold lsR; rw [List.map_append]; rfl
    rw [e, HL.out.2, HTk.out]⟩
   clear hgr hag7 hO7 hg7 hf7;go_roundw
   case rel => exact ⟨k + 1, _, a7, c7, _, by omega, by go_num, rfl, HL7, HOo7, HRc7, HK7, HP67⟩
   case measure => simp [intOf]; omega
  ·have hki : ¬ (k : Int) < (pn : Int) := by omega
   obtain rfl : k = pn := by omega
   have HLf : Hid (lsR rs = rowsL l Rs) := qh (by rw [HL.out.2, List.take_of_length_le (by unfold rowsL; rw [List.length_map, ← HPn.out]; exact Nat.le_refl _)])
   go_wp2_with fail
   go_ret2;have hok : ∀ q ∈ rs, q.ok wr := fun q hq => by
    obtain ⟨i, hi, rfl⟩ := List.mem_iff_getElem.1 hq;exact (HRc.out i _ (List.getElem?_eq_getElem hi)).ok
   obtain ⟨q1, q2, q3⟩ := HO.out.read;exact ⟨a, c, rs, by rw [HL.out.1]; rfl, HLf.out, ⟨q1, fun q hq => (hok q hq).1⟩, hok, q2, by rw [List.length_map] at q3; exact q3, HP6.out.pure HPr.out⟩
