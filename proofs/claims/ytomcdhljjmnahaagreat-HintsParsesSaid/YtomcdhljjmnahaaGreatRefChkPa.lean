import Derived.Test.YtomcdhljjmnahaaGreatChkHPa
import Derived.Test.YtomcdhljjmnahaaGreatRefOwnPa
import Derived.Test.YtomcdhljjmnahaaGreatLibPDPa
import Derived.Test.YtomcdhljjmnahaaGreatLibSCPa
import Derived.Test.YtomcdhljjmnahaaGreatSqPa
set_option linter.unusedVariables false
set_option linter.unusedSimpArgs false
set_option maxRecDepth 100000
namespace Go.Proofs.YtomcdhljjmnahaaGreat
open Go.RowKit
theorem rshared_any (h : HT) (pa la : Option Addr) (pc lc : Nat) (w : World) :
 Calls Tryz.prog 29 #[.agg (hC h pa pc la lc).toArray] w fun e w' => e = .returned (S27.tblV h.so h.sa h.sf la h.sh.length lc) ∧ Pure w w' := by
 obtain ⟨fo, fa, ps, so, sa, sf, sh⟩ := h
 unfold hC S27.tblV
 simp only
 generalize ps.length = pn
 generalize sh.length = sn
 go_enter Tryz.func29, Tryz.ntmps29
 go_wp2_with fail
 refine bodyPost_ret (v := .agg #[.int .i64 so, .int .i64 sa, .int .i64 sf, .slice la sn lc]) (by simp [results, Tryz.results29, go_sem]) rfl ⟨rfl, ?_⟩
 repeat (first | exact Ext.refl _ _ | refine Ext.setCell ?_ (fun e => by simp at e) _ | refine Ext.alloc ?_ _)
theorem sum_bound {l : List Int} (h : ∀ x ∈ l, 0 ≤ x ∧ x ≤ 2147483647) : 0 ≤ sumL l ∧ sumL l ≤ 2147483647 * l.length := by
 induction l with
 | nil => simp [sumL]
 | cons x l ih =>
   have h1 := h x List.mem_cons_self
   have h2 := ih (fun y hy => h y (List.mem_cons_of_mem _ hy))
   rw [sumL, List.length_cons]
   omega
set_option maxHeartbeats 1000000 in
theorem sum_any (l : List Int) (a : Option Addr) (c : Nat) (w : World) (hr : RowOf w a (l.map zV)) (hl : l.length ≤ 100000) (hb : ∀ x ∈ l, 0 ≤ x ∧ x ≤ 2147483647) :
 Calls Tryz.prog 40 #[.slice a l.length c] w (IntTo (sumL l) w) := by
 obtain ⟨F, hF⟩ : ∃ F, F = sumL l := ⟨_, rfl⟩
 rw [← hF]
 obtain ⟨ln, hln⟩ : ∃ z, z = l.length := ⟨_, rfl⟩
 rw [← hln] at hl ⊢
 have HF := qh hF
 have HN := qh hln
 have HB := qh hb
 clear hF hln hb
 go_enter Tryz.func40, Tryz.ntmps40
 go_wp2_with fail
 go_loopw [3, 4] (fun n i W => ∃ (k : Nat) (nn : Int), k ≤ ln ∧ i = .int .i64 k ∧ n = .int .i64 nn ∧ Hid (nn = sumL (l.take k)) ∧ Pure w W) (fun _ i _ => ln - (intOf i).toNat)
 case atStart => exact ⟨0, 0, Nat.zero_le _, rfl, rfl, qh (by rw [List.take_zero]; rfl), Ext.refl _ _⟩
 case round =>
  obtain ⟨k, nn, hk, rfl, rfl, HS, hE⟩ := hrel
  by_cases hlt : k < ln
  ·have hki : (k : Int) < (ln : Int) := by omega
   have hkl : k < l.length := by rw [← HN.out]; exact hlt
   obtain ⟨b, o, rfl, c0⟩ := zV_at (hr.ext hE (fun _ _ => id)) k hkl
   have hx := HB.out l[k] (List.getElem_mem hkl)
   have hs := sum_bound (l := l.take k) (fun x hx => HB.out x (List.mem_of_mem_take hx))
   rw [List.length_take, ← HS.out] at hs
   have HS2 : Hid (nn + l[k] = sumL (l.take (k + 1))) := qh (by rw [sumL_take_succ hkl, HS.out])
   obtain ⟨x, hxe⟩ : ∃ z, z = l[k] := ⟨_, rfl⟩
   rw [← hxe] at c0 hx HS2
   have hw2 : wrap64 (nn + x) = nn + x := by unfold wrap64; omega
   clear hxe hkl hs
   go_wp2_with fail
   go_roundw
   case rel => exact ⟨k + 1, nn + x, by omega, by go_num, by rw [hw2], HS2, hE⟩
   case measure => simp [intOf]; omega
  ·have hki : ¬ (k : Int) < (ln : Int) := by omega
   have HFr : Hid (F = nn) := qh (by have := HS.out; rw [List.take_of_length_le (by rw [← HN.out]; omega)] at this; rw [HF.out, this])
   clear HS
   go_wp2_with fail
   go_ret
   exact ⟨by rw [HFr.out]; rfl, hE⟩
def eP0 (h : HT) (l : LT) (k : Nat) : Int := l.fe + sumL (((lensP h.ps).take k).drop 1)
theorem tables_len {h : HT} {l : LT} (ht : tablesP h l = true) : (∀ x ∈ h.sh, 1 ≤ x ∧ x ≤ 2147483647) ∧ h.sh.length ≤ 4096 ∧ ∀ x ∈ lensP h.ps, 1 ≤ x ∧ x ≤ 2147483647 := by
 unfold tablesP at ht
 simp only [Bool.and_eq_true, decide_eq_true_eq] at ht
 have hT := S27.okT_true.1 ht.2
 refine ⟨fun x hx => ?_, hT.2.2.1, fun x hx => ?_⟩
 ·have h1 := hT.2.2.2.2
  have h2 : S27.odd x = false := by
   by_cases ho : S27.odd x = true
   ·exfalso
    have := List.any_eq_true.2 ⟨x, hx, ho⟩
    rw [h1] at this; cases this
   ·simpa using ho
  unfold S27.odd at h2
  exact S27.inB_true.1 (by simpa using h2 : S27.inB x 1 2147483647 = true)
 ·have hc := ht.1.2
  unfold P26.chk at hc
  by_cases hb : (P26.inB h.fa 0 2147483647 && (P26.inB (h.ps.length : Int) 1 2048 && h.ps.all P26.okP)) = true
  ·simp only [Bool.and_eq_true, List.all_eq_true] at hb
   obtain ⟨p, hp, rfl⟩ := List.mem_map.1 hx
   have := hb.2.2 p hp
   unfold P26.okP at this
   simp only [Bool.and_eq_true] at this
   exact P26.inB_true.1 this.2
  ·rw [if_neg hb] at hc; cases hc
theorem first_ref {h : HT} {l : LT} (ht : tablesP h l = true) : firstP h l = ((ownP h l 0).isSome && decide (((ownP h l 0).getD (0, 0)).2 = l.fe) && decide (sumL (h.sh.take h.sf.toNat) = (lensP h.ps)[0]?.getD 0)) := by
 rw [first_eq]
 obtain ⟨g1, g2, g3⟩ := tables_len ht
 have hpl := (tables_ok ht).2
 have hl0 : (lensP h.ps)[0]?.getD 0 ≤ 2147483647 := by
  rw [List.getElem?_eq_getElem (by rw [lensP_len]; omega)]
  exact (g3 _ (List.getElem_mem _)).2
 have hp : allPos (h.sh.take h.sf.toNat) = true := by
  unfold allPos
  rw [List.all_eq_true]
  exact fun x hx => decide_eq_true (by have := g1 x (List.mem_of_mem_take hx); omega)
 by_cases hs : sumL (h.sh.take h.sf.toNat) ≤ 2147483647
 ·rw [addL_val hp hs]; simp
 ·have h2 : ¬ (addL (h.sh.take h.sf.toNat)).2 = 0 := fun e => hs (addL_ok.1 e).2
  rw [decide_eq_false h2, decide_eq_false (show ¬ sumL (h.sh.take h.sf.toNat) = (lensP h.ps)[0]?.getD 0 by omega)]
  simp
theorem own_ref {h : HT} {l : LT} (ht : tablesP h l = true) (h0 : 0 ≤ l.fe) (k : Nat) (h1 : 1 ≤ k) (hk : k < h.ps.length) (e : Int) (he : e = eP0 h l k) :
 ownP h l k = if e + h.ps[k].l ≤ 2147483647 then some (e, e + h.ps[k].l) else none := by
 obtain ⟨g1, g2, g3⟩ := tables_len ht
 have hq := lensP_get hk
 have hlk : (lensP h.ps)[((k : Nat) : Int).toNat]?.getD 0 = h.ps[k].l := hq
 have hl1 : 1 ≤ h.ps[k].l := (g3 _ (by unfold lensP; exact List.mem_map_of_mem (List.getElem_mem hk))).1
 unfold ownP
 rw [if_pos (by omega), if_neg (by omega), hlk, show ((k : Nat) : Int).toNat = k from rfl]
 unfold pieceP
 have hA : allPos (l.fe :: ((lensP h.ps).take k).drop 1) = true := by
  unfold allPos
  rw [List.all_eq_true]
  intro x hx
  rcases List.mem_cons.1 hx with rfl | hx
  ·exact decide_eq_true h0
  ·have := g3 x (List.mem_of_mem_take (List.mem_of_mem_drop hx))
   exact decide_eq_true (by omega)
 have hS : sumL (l.fe :: ((lensP h.ps).take k).drop 1) = e := by rw [he]; rfl
 rw [hS]
 by_cases hc : e + h.ps[k].l ≤ 2147483647
 ·rw [if_pos ⟨hA, hl1, hc⟩, if_pos hc]
 ·rw [if_neg (fun h => hc h.2.2), if_neg hc]
theorem eP0_succ {h : HT} {l : LT} {k : Nat} (h1 : 1 ≤ k) (hk : k < h.ps.length) : eP0 h l (k + 1) = eP0 h l k + h.ps[k].l := by
 unfold eP0
 have hk' : k < (lensP h.ps).length := by rw [lensP_len]; exact hk
 rw [List.take_succ_eq_append_getElem hk', List.drop_append_of_le_length (by rw [List.length_take]; omega), sumL_append, sumL, sumL]
 have : (lensP h.ps)[k]'hk' = h.ps[k].l := by simp [lensP]
 omega
set_option maxHeartbeats 8000000 in
theorem refcheck_any (h : HT) (l : LT) (pa la : Option Addr) (pc lc : Nat) (w : World) (H : HMem w h pa pc la lc) (hm : P26.Mod2 h.ps) :
 Calls Tryz.prog 12 #[.agg (hC h pa pc la lc).toArray, .agg (lC l).toArray] w (IntTo (chkE h l) w) := by
 obtain ⟨F, hF⟩ : ∃ F, F = chkE h l := ⟨_, rfl⟩
 rw [← hF]
 unfold chkE at hF
 rw [chk_eq] at hF
 have HF := qh hF
 have HTd : Hid (tablesP h l = (h.fo == l.fo && decide ((h.ps.length : Int) = l.pg) && decide (P26.chk h.fa h.ps = 0) && S27.okT h.so h.sa h.sf h.sh)) := qh rfl
 have hpnb := H.pn
 have HC1 := qh (fun W (hP : Pure w W) => P26.refcheck_big h.fa pa pc h.ps W ((H.pure hP).pages) hm)
 have HC2 := qh (fun W (hP : Pure w W) => S27.refcheck_any h.so h.sa h.sf la lc h.sh W ((H.pure hP).share) (by have := H.sn; omega))
 have HSh := qh (fun W => rshared_any h pa la pc lc W)
 have HOw := qh (fun W (hP : Pure w W) (k : Int) => refown_any h l k pa la pc lc W (H.pure hP))
 have HGr := qh (fun W (hP : Pure w W) (k : Int) => refgroup_any h k pa la pc lc W (H.pure hP))
 have HMm := qh H
 have HMo := qh hm
 obtain ⟨cs, hcs⟩ : ∃ z, z = hC h pa pc la lc := ⟨_, rfl⟩
 obtain ⟨ds, hds⟩ : ∃ z, z = lC l := ⟨_, rfl⟩
 have HL7 : Hid (cs.length = 7) := qh (by rw [hcs]; rfl)
 have HM7 : Hid (ds.length = 7) := qh (by rw [hds]; rfl)
 have HCs := qh hcs
 have HDs := qh hds
 rw [← hcs, ← hds]
 have hD0 := Hd.new w cs ds
 obtain ⟨w2, hw2⟩ : ∃ z, z = ((w.alloc (.cells cs.toArray 25)).alloc (.cells ds.toArray 40)) := ⟨_, rfl⟩
 obtain ⟨tb, htb⟩ : ∃ z, z = w.heap.size := ⟨_, rfl⟩
 rw [← hw2, ← htb] at hD0
 have HW : Hid (((w.alloc (.cells cs.toArray 25)).alloc (.cells ds.toArray 40)) = w2) := qh hw2.symm
 have HTb := qh htb
 have HD := qh hD0
 have r0 : ((w.alloc (.cells cs.toArray 25)).alloc (.cells ds.toArray 40)).cell? ⟨w.heap.size, 0, none⟩ = some (.int .i64 h.fo) := by rw [HW.out, ← htb, hD0.b1.cell 0, hcs]; rfl
 have r1 : ((w.alloc (.cells cs.toArray 25)).alloc (.cells ds.toArray 40)).cell? ⟨w.heap.size, 1, none⟩ = some (.int .i64 h.fa) := by rw [HW.out, ← htb, hD0.b1.cell 1, hcs]; rfl
 have r2 : ((w.alloc (.cells cs.toArray 25)).alloc (.cells ds.toArray 40)).cell? ⟨w.heap.size, 2, none⟩ = some (.slice pa h.ps.length pc) := by rw [HW.out, ← htb, hD0.b1.cell 2, hcs]; rfl
 have s3 : ((w.alloc (.cells cs.toArray 25)).alloc (.cells ds.toArray 40)).cell? ⟨w.heap.size + 1, 3, none⟩ = some (.int .i64 l.fo) := by rw [HW.out, ← htb, hD0.b2.cell 3, hds]; rfl
 have s5 : ((w.alloc (.cells cs.toArray 25)).alloc (.cells ds.toArray 40)).cell? ⟨w.heap.size + 1, 5, none⟩ = some (.int .i64 l.pg) := by rw [HW.out, ← htb, hD0.b2.cell 5, hds]; rfl
 clear hcs hds hw2 htb hD0
 rw [← HCs.out] at HSh HGr
 rw [← HCs.out, ← HDs.out] at HOw
 have HRh : Hid (w2.rangeAt tb 0 cs) := qh HD.out.b1.range
 have HK2 : Hid (cs[2]? = some (.slice pa h.ps.length pc)) := qh (by rw [HCs.out]; rfl)
 have HK4 : Hid (cs[4]? = some (.int .i64 h.sa)) := qh (by rw [HCs.out]; rfl)
 have HK5 : Hid (cs[5]? = some (.int .i64 h.sf)) := qh (by rw [HCs.out]; rfl)
 have HK6 : Hid (cs[6]? = some (.slice la h.sh.length lc)) := qh (by rw [HCs.out]; rfl)
 have HE4 : Hid (ds[4]? = some (.int .i64 l.fe)) := qh (by rw [HDs.out]; rfl)
 have HE6 : Hid (ds[6]? = some (.int .i64 l.main)) := qh (by rw [HDs.out]; rfl)
 have HNo : Hid (tablesP h l = false → F = 27) := qh (fun h => by rw [HF.out, h]; rfl)
 clear H hm hF HCs HDs
 obtain ⟨pn, hpn⟩ : ∃ z, z = h.ps.length := ⟨_, rfl⟩
 have HPn := qh hpn
 rw [← hpn] at HTd HC1 HK2 hpnb r2
 clear hpn
 obtain ⟨a1, ha1⟩ : ∃ z, z = h.fo := ⟨_, rfl⟩
 obtain ⟨a2, ha2⟩ : ∃ z, z = l.fo := ⟨_, rfl⟩
 obtain ⟨pg, hpg⟩ : ∃ z, z = l.pg := ⟨_, rfl⟩
 obtain ⟨er, her⟩ : ∃ z, z = P26.chk h.fa h.ps := ⟨_, rfl⟩
 obtain ⟨ok, hok⟩ : ∃ z, z = S27.okT h.so h.sa h.sf h.sh := ⟨_, rfl⟩
 rw [← ha1, ← ha2, ← hpg, ← her, ← hok] at HTd
 rw [← ha1] at r0
 rw [← ha2] at s3
 rw [← hpg] at s5
 rw [← her] at HC1
 rw [← hok] at HC2
 clear ha1 ha2 hpg her hok
 by_cases h1 : a1 = a2
 case neg =>
  have e1 : (a1 != a2) = true := by simpa using h1
  have HFr : Hid (F = 27) := qh (HNo.out (by rw [HTd.out, show (a1 == a2) = false by simpa using h1]; rfl))
  clear h1
  go_enter Tryz.func12, Tryz.ntmps12
  go_wp2_with fail
  rw [HW.out]
  go_ret
  exact ⟨by rw [HFr.out]; rfl, HD.out.p⟩
 subst h1
 by_cases h2 : (pn : Int) = pg
 case neg =>
  have e2 : ((pn : Int) != pg) = true := by simpa using h2
  have HFr : Hid (F = 27) := qh (HNo.out (by rw [HTd.out, decide_eq_false h2]; simp))
  clear h2
  go_enter Tryz.func12, Tryz.ntmps12
  go_wp2_with fail
  rw [HW.out]
  go_ret
  exact ⟨by rw [HFr.out]; rfl, HD.out.p⟩
 subst h2
 by_cases h3 : er = 0
 case neg =>
  have e3 : (er != 0) = true := by simpa using h3
  have HFr : Hid (F = 27) := qh (HNo.out (by rw [HTd.out, decide_eq_false h3]; simp))
  clear h3
  go_enter Tryz.func12, Tryz.ntmps12
  go_wp2_with fail
  rw [HW.out]
  refine (HC1.out w2 HD.out.p).mono ?_
  rintro e w3 ⟨rfl, hP3⟩
  have HD := qh (HD.out.pure hP3)
  go_wp2_with fail
  go_ret
  exact ⟨by rw [HFr.out]; rfl, HD.out.p⟩
 subst h3
 go_enter Tryz.func12, Tryz.ntmps12
 go_wp2_with fail
 rw [HW.out, ← HTb.out]
 refine (HC1.out w2 HD.out.p).mono ?_
 rintro e w3 ⟨rfl, hP3⟩
 have HD := qh (HD.out.pure hP3)
 have HRh : Hid (w3.rangeAt tb 0 cs) := qh HD.out.b1.range
 clear hP3 r0 r1 r2 s3 s5 HC1
 go_wp2_with (with_reducible refine V11.at_load 25 (.tmp 2) ?_; refine wpList_load_h rfl (.tmp 2) rfl tb 0 rfl cs HRh.out HL7.out ?_)
 refine (HSh.out w3).mono ?_
 rintro e w4 ⟨rfl, hP4⟩
 have HD := qh (HD.out.pure hP4)
 clear hP4 HSh HRh
 go_wp2_with fail
 refine (HC2.out w4 HD.out.p).mono ?_
 rintro e w5 ⟨rfl, hP5⟩
 have HD := qh (HD.out.pure hP5)
 clear hP5 HC2
 cases ok with
 | false =>
   have HFr : Hid (F = 27) := qh (HNo.out (by rw [HTd.out]; simp))
   go_wp2_with fail
   go_ret
   exact ⟨by rw [HFr.out]; rfl, HD.out.p⟩
 | true =>
 have hT : tablesP h l = true := by rw [HTd.out]; simp
 have HT := qh hT
 have HFf := qh (first_ref hT)
 have HF : Hid (F = if (firstP h l && finP h l (othersP l.main l.fe ((lensP h.ps).drop 1))) = true then 0 else 27) := qh (by rw [HF.out, hT]; simp)
 clear hT HTd HNo
 have hO := HOw.out w5 HD.out.p 0
 obtain ⟨O, hOe⟩ : ∃ z, z = ownP h l 0 := ⟨_, rfl⟩
 rw [← hOe] at hO HFf
 unfold SpanIs spanV at hO
 obtain ⟨gx, hgx⟩ : ∃ z, z = (O.getD (0, 0)).1 := ⟨_, rfl⟩
 obtain ⟨gy, hgy⟩ : ∃ z, z = (O.getD (0, 0)).2 := ⟨_, rfl⟩
 obtain ⟨gi, hgi⟩ : ∃ z, z = O.isSome := ⟨_, rfl⟩
 rw [← hgx, ← hgy, ← hgi] at hO
 rw [← hgy, ← hgi] at HFf
 have HO := qh hO
 have HOe := qh hOe
 have HGy := qh hgy
 have HGi := qh hgi
 clear hO hOe hgx hgy hgi
 have HRh : Hid (w5.rangeAt tb 0 cs) := qh HD.out.b1.range
 have HRl : Hid (w5.rangeAt (tb + 1) 0 ds) := qh HD.out.b2.range
 go_wp2_with (first
  | (with_reducible refine V11.at_load 25 (.tmp 2) ?_; refine wpList_load_h rfl (.tmp 2) rfl tb 0 rfl cs HRh.out HL7.out ?_)
  | (with_reducible refine V11.at_load 40 (.tmp 3) ?_; refine wpList_load_l rfl (.tmp 3) rfl (tb + 1) 0 rfl ds HRl.out HM7.out ?_))
 refine HO.out.mono ?_
 rintro e w6 ⟨rfl, hP⟩
 have HD := qh (HD.out.pure hP)
 clear hP HO HRh HRl
 obtain ⟨w7, hw7⟩ : ∃ z, z = (w6.alloc (.cells #[.int .i64 0, .int .i64 0] 55)).setCells w6.heap.size 0 (#[.int .i64 gx, .int .i64 gy] : Array Value).toList := ⟨_, rfl⟩
 have hPs : Pure w6 w7 := hw7 ▸ (Ext.setCells _ 0 _ (ext_alloc w6 _) (b := w6.heap.size) (fun h => by omega))
 have hB5 : BlockIs w7 w6.heap.size [.int .i64 gx, .int .i64 gy] 55 := hw7 ▸ (BlockIs.new w6 [.int .i64 0, .int .i64 0] 55).setAll [.int .i64 gx, .int .i64 gy] rfl
 have HTh5 : Hid ((w6.alloc (.cells #[.int .i64 0, .int .i64 0] 55)).there w6.heap.size 0 (#[.int .i64 gx, .int .i64 gy] : Array Value).size) := qh (BlockIs.there (BlockIs.new w6 [.int .i64 0, .int .i64 0] 55) 2 rfl)
 have HSi5 : Hid ((Tryz.prog.info? 55).map (·.size) = some (#[.int .i64 gx, .int .i64 gy] : Array Value).size) := qh sizeSp
 have HOn5 : Hid (((#[.int .i64 gx, .int .i64 gy] : Array Value).all fun u => u.oneCell') = true) := qh (all_oneCell_toArray (by intro u hu; simp only [List.mem_cons, List.not_mem_nil, or_false] at hu; rcases hu with rfl | rfl <;> rfl))
 have HWw7 := qh hw7.symm
 clear hw7
 have HD := qh (HD.out.pure hPs)
 clear hPs
 go_wp2_with (with_reducible refine V11.at_store 55 (.tmp 5) (.tmp 46) ?_; refine wpList_store_mid rfl 55 (.tmp 5) (.tmp 46) rfl w6.heap.size 0 #[.int .i64 gx, .int .i64 gy] rfl rfl HTh5.out HSi5.out HOn5.out ?_; rw [HWw7.out])
 clear HTh5 HSi5 HOn5 HWw7
 obtain ⟨fe, hfe⟩ : ∃ z, z = l.fe := ⟨_, rfl⟩
 have HFe := qh hfe
 rw [← hfe] at HFf HE4
 clear hfe
 obtain ⟨f, hf⟩ : ∃ f : Nat, h.sf = (f : Int) := ⟨h.sf.toNat, by have := (tables_ok HT.out).1.1; omega⟩
 have HSf := qh hf
 have HLc : Hid (f ≤ lc) := qh (by have h1 := (tables_ok HT.out).1.2; have h2 := HMm.out.lcap.1; omega)
 have HP1 : Hid (0 < pn) := qh (by have h1 := (tables_ok HT.out).2; have := HPn.out; omega)
 rw [hf] at HK5
 clear hf
 have hB5 := hB5.drew
 have HD : Hid (Hd w w7.drew tb cs ds) := qh (HD.out.pure (Ext.refl (fun _ => False) w7).drew)
 have q1 : w7.drew.cell? ⟨w6.heap.size, 1, none⟩ = some (.int .i64 gy) := hB5.cell 1
 have q2 : w7.drew.cell? ⟨tb + 1, 4, none⟩ = some (.int .i64 fe) := by rw [HD.out.b2.cell 4]; exact HE4.out
 cases gi with
 | false =>
   have HFr : Hid (F = 27) := qh (by rw [HF.out, HFf.out]; rfl)
   refine region_start (fun _ => False) (by kernel_rfl) ?_
   try simp only [Act.put, sA, sZ, sS]
   refine region_take 0 48 (v := ?vra0) rfl rfl (by kernel_rfl) (by kernel_rfl) (by kernel_rfl) (fun _ _ _ h => h) (by rfl) (fun w' hS => ?hra0) ?rra0
   case hra0 => go_simp; with_reducible rfl
   try simp only [Act.put, sA, sZ, sS]
   refine region_take 1 49 (v := ?vra1) rfl rfl (by kernel_rfl) (by kernel_rfl) (by kernel_rfl) (fun _ _ _ h => h) (by rfl) (fun w' hS => ?hra1) ?rra1
   case hra1 => go_simp; with_reducible rfl
   try simp only [Act.put, sA, sZ, sS]
   refine region_take 2 50 (v := ?vra2) rfl rfl (by kernel_rfl) (by kernel_rfl) (by kernel_rfl) (fun _ _ _ h => h) (by rfl) (fun w' hS => ?hra2) ?rra2
   case hra2 => go_simp; with_reducible rfl
   try simp only [Act.put, sA, sZ, sS]
   refine region_skip 3 51 rfl rfl (by kernel_rfl) (by kernel_rfl) (by kernel_rfl) (fun _ _ _ h => h) (by rfl) ?_
   try simp only [Act.put, sA, sZ, sS]
   refine region_skip 4 52 rfl rfl (by kernel_rfl) (by kernel_rfl) (by kernel_rfl) (fun _ _ _ h => h) (by rfl) ?_
   try simp only [Act.put, sA, sZ, sS]
   refine region_skip 5 53 rfl rfl (by kernel_rfl) (by kernel_rfl) (by kernel_rfl) (fun _ _ _ h => h) (by rfl) ?_
   try simp only [Act.put, sA, sZ, sS]
   refine region_skip 6 54 rfl rfl (by kernel_rfl) (by kernel_rfl) (by kernel_rfl) (fun _ _ _ h => h) (by rfl) ?_
   try simp only [Act.put, sA, sZ, sS]
   refine region_skip 7 55 rfl rfl (by kernel_rfl) (by kernel_rfl) (by kernel_rfl) (fun _ _ _ h => h) (by rfl) ?_
   try simp only [Act.put, sA, sZ, sS]
   refine region_take 8 56 (v := ?vra8) rfl rfl (by kernel_rfl) (by kernel_rfl) (by kernel_rfl) (fun _ _ _ h => h) (by rfl) (fun w' hS => ?hra8) ?rra8
   case hra8 => go_simp; with_reducible rfl
   try simp only [Act.put, sA, sZ, sS]
   refine region_take 9 57 (v := ?vra9) rfl rfl (by kernel_rfl) (by kernel_rfl) (by kernel_rfl) (fun _ _ _ h => h) (by rfl) (fun w' hS => ?hra9) ?rra9
   case hra9 => go_simp; with_reducible rfl
   try simp only [Act.put, sA, sZ, sS]
   refine region_skip 10 58 rfl rfl (by kernel_rfl) (by kernel_rfl) (by kernel_rfl) (fun _ _ _ h => h) (by rfl) ?_
   try simp only [Act.put, sA, sZ, sS]
   refine region_skip 11 59 rfl rfl (by kernel_rfl) (by kernel_rfl) (by kernel_rfl) (fun _ _ _ h => h) (by rfl) ?_
   try simp only [Act.put, sA, sZ, sS]
   refine region_skip 12 60 rfl rfl (by kernel_rfl) (by kernel_rfl) (by kernel_rfl) (fun _ _ _ h => h) (by rfl) ?_
   try simp only [Act.put, sA, sZ, sS]
   refine region_skip 13 61 rfl rfl (by kernel_rfl) (by kernel_rfl) (by kernel_rfl) (fun _ _ _ h => h) (by rfl) ?_
   try simp only [Act.put, sA, sZ, sS]
   refine region_skip 14 62 rfl rfl (by kernel_rfl) (by kernel_rfl) (by kernel_rfl) (fun _ _ _ h => h) (by rfl) ?_
   try simp only [Act.put, sA, sZ, sS]
   refine region_skip 15 63 rfl rfl (by kernel_rfl) (by kernel_rfl) (by kernel_rfl) (fun _ _ _ h => h) (by rfl) ?_
   try simp only [Act.put, sA, sZ, sS]
   refine region_skip 16 64 rfl rfl (by kernel_rfl) (by kernel_rfl) (by kernel_rfl) (fun _ _ _ h => h) (by rfl) ?_
   try simp only [Act.put, sA, sZ, sS]
   refine region_skip 17 65 rfl rfl (by kernel_rfl) (by kernel_rfl) (by kernel_rfl) (fun _ _ _ h => h) (by rfl) ?_
   try simp only [Act.put, sA, sZ, sS]
   refine region_skip 18 66 rfl rfl (by kernel_rfl) (by kernel_rfl) (by kernel_rfl) (fun _ _ _ h => h) (by rfl) ?_
   try simp only [Act.put, sA, sZ, sS]
   refine region_skip 19 67 rfl rfl (by kernel_rfl) (by kernel_rfl) (by kernel_rfl) (fun _ _ _ h => h) (by rfl) ?_
   try simp only [Act.put, sA, sZ, sS]
   refine region_skip 20 68 rfl rfl (by kernel_rfl) (by kernel_rfl) (by kernel_rfl) (fun _ _ _ h => h) (by rfl) ?_
   try simp only [Act.put, sA, sZ, sS]
   refine region_skip 21 69 rfl rfl (by kernel_rfl) (by kernel_rfl) (by kernel_rfl) (fun _ _ _ h => h) (by rfl) ?_
   try simp only [Act.put, sA, sZ, sS]
   refine region_take 22 70 (v := ?vra22) rfl rfl (by kernel_rfl) (by kernel_rfl) (by kernel_rfl) (fun _ _ _ h => h) (by rfl) (fun w' hS => ?hra22) ?rra22
   case hra22 => go_simp; with_reducible rfl
   try simp only [Act.put, sA, sZ, sS]
   refine wpAnyH_done (by kernel_rfl) ?_ _
   go_simp
   try simp only [Act.put, sA, sZ, sS]
   go_wp2_with fail
   go_ret
   exact ⟨by rw [HFr.out]; rfl, HD.out.p⟩
 | true =>
 by_cases h4 : gy = fe
 case neg =>
  have e4 : (gy != fe) = true := by simpa using h4
  have HFr : Hid (F = 27) := qh (by rw [HF.out, HFf.out, decide_eq_false h4]; rfl)
  clear h4
  refine region_start (fun _ => False) (by kernel_rfl) ?_
  try simp only [Act.put, sA, sZ, sS]
  refine region_take 0 48 (v := ?vrb0) rfl rfl (by kernel_rfl) (by kernel_rfl) (by kernel_rfl) (fun _ _ _ h => h) (by rfl) (fun w' hS => ?hrb0) ?rrb0
  case hrb0 => go_simp; with_reducible rfl
  try simp only [Act.put, sA, sZ, sS]
  refine region_take 1 49 (v := ?vrb1) rfl rfl (by kernel_rfl) (by kernel_rfl) (by kernel_rfl) (fun _ _ _ h => h) (by rfl) (fun w' hS => ?hrb1) ?rrb1
  case hrb1 => go_simp; with_reducible rfl
  try simp only [Act.put, sA, sZ, sS]
  refine region_take 2 50 (v := ?vrb2) rfl rfl (by kernel_rfl) (by kernel_rfl) (by kernel_rfl) (fun _ _ _ h => h) (by rfl) (fun w' hS => ?hrb2) ?rrb2
  case hrb2 => go_simp; with_reducible rfl
  try simp only [Act.put, sA, sZ, sS]
  refine region_take 3 51 (v := ?vrb3) rfl rfl (by kernel_rfl) (by kernel_rfl) (by kernel_rfl) (fun _ _ _ h => h) (by rfl) (fun w' hS => ?hrb3) ?rrb3
  case hrb3 => go_simp; with_reducible rfl
  try simp only [Act.put, sA, sZ, sS]
  refine region_take 4 52 (v := ?vrb4) rfl rfl (by kernel_rfl) (by kernel_rfl) (by kernel_rfl) (fun _ _ _ h => h) (by rfl) (fun w' hS => ?hrb4) ?rrb4
  case hrb4 => (have e := hS.cell_some q1 id; go_simp; with_reducible rfl)
  try simp only [Act.put, sA, sZ, sS]
  refine region_take 5 53 (v := ?vrb5) rfl rfl (by kernel_rfl) (by kernel_rfl) (by kernel_rfl) (fun _ _ _ h => h) (by rfl) (fun w' hS => ?hrb5) ?rrb5
  case hrb5 => go_simp; with_reducible rfl
  try simp only [Act.put, sA, sZ, sS]
  refine region_take 6 54 (v := ?vrb6) rfl rfl (by kernel_rfl) (by kernel_rfl) (by kernel_rfl) (fun _ _ _ h => h) (by rfl) (fun w' hS => ?hrb6) ?rrb6
  case hrb6 => (have e := hS.cell_some q2 id; go_simp; with_reducible rfl)
  try simp only [Act.put, sA, sZ, sS]
  refine region_take 7 55 (v := ?vrb7) rfl rfl (by kernel_rfl) (by kernel_rfl) (by kernel_rfl) (fun _ _ _ h => h) (by rfl) (fun w' hS => ?hrb7) ?rrb7
  case hrb7 => go_simp; with_reducible rfl
  try simp only [Act.put, sA, sZ, sS]
  refine region_take 8 56 (v := ?vrb8) rfl rfl (by kernel_rfl) (by kernel_rfl) (by kernel_rfl) (fun _ _ _ h => h) (by rfl) (fun w' hS => ?hrb8) ?rrb8
  case hrb8 => go_simp; with_reducible rfl
  try simp only [Act.put, sA, sZ, sS]
  refine region_take 9 57 (v := ?vrb9) rfl rfl (by kernel_rfl) (by kernel_rfl) (by kernel_rfl) (fun _ _ _ h => h) (by rfl) (fun w' hS => ?hrb9) ?rrb9
  case hrb9 => go_simp; with_reducible rfl
  try simp only [Act.put, sA, sZ, sS]
  refine region_skip 10 58 rfl rfl (by kernel_rfl) (by kernel_rfl) (by kernel_rfl) (fun _ _ _ h => h) (by rfl) ?_
  try simp only [Act.put, sA, sZ, sS]
  refine region_skip 11 59 rfl rfl (by kernel_rfl) (by kernel_rfl) (by kernel_rfl) (fun _ _ _ h => h) (by rfl) ?_
  try simp only [Act.put, sA, sZ, sS]
  refine region_skip 12 60 rfl rfl (by kernel_rfl) (by kernel_rfl) (by kernel_rfl) (fun _ _ _ h => h) (by rfl) ?_
  try simp only [Act.put, sA, sZ, sS]
  refine region_skip 13 61 rfl rfl (by kernel_rfl) (by kernel_rfl) (by kernel_rfl) (fun _ _ _ h => h) (by rfl) ?_
  try simp only [Act.put, sA, sZ, sS]
  refine region_skip 14 62 rfl rfl (by kernel_rfl) (by kernel_rfl) (by kernel_rfl) (fun _ _ _ h => h) (by rfl) ?_
  try simp only [Act.put, sA, sZ, sS]
  refine region_skip 15 63 rfl rfl (by kernel_rfl) (by kernel_rfl) (by kernel_rfl) (fun _ _ _ h => h) (by rfl) ?_
  try simp only [Act.put, sA, sZ, sS]
  refine region_skip 16 64 rfl rfl (by kernel_rfl) (by kernel_rfl) (by kernel_rfl) (fun _ _ _ h => h) (by rfl) ?_
  try simp only [Act.put, sA, sZ, sS]
  refine region_skip 17 65 rfl rfl (by kernel_rfl) (by kernel_rfl) (by kernel_rfl) (fun _ _ _ h => h) (by rfl) ?_
  try simp only [Act.put, sA, sZ, sS]
  refine region_skip 18 66 rfl rfl (by kernel_rfl) (by kernel_rfl) (by kernel_rfl) (fun _ _ _ h => h) (by rfl) ?_
  try simp only [Act.put, sA, sZ, sS]
  refine region_skip 19 67 rfl rfl (by kernel_rfl) (by kernel_rfl) (by kernel_rfl) (fun _ _ _ h => h) (by rfl) ?_
  try simp only [Act.put, sA, sZ, sS]
  refine region_skip 20 68 rfl rfl (by kernel_rfl) (by kernel_rfl) (by kernel_rfl) (fun _ _ _ h => h) (by rfl) ?_
  try simp only [Act.put, sA, sZ, sS]
  refine region_skip 21 69 rfl rfl (by kernel_rfl) (by kernel_rfl) (by kernel_rfl) (fun _ _ _ h => h) (by rfl) ?_
  try simp only [Act.put, sA, sZ, sS]
  refine region_take 22 70 (v := ?vrb22) rfl rfl (by kernel_rfl) (by kernel_rfl) (by kernel_rfl) (fun _ _ _ h => h) (by rfl) (fun w' hS => ?hrb22) ?rrb22
  case hrb22 => go_simp; with_reducible rfl
  try simp only [Act.put, sA, sZ, sS]
  refine wpAnyH_done (by kernel_rfl) ?_ _
  go_simp
  try simp only [Act.put, sA, sZ, sS]
  go_wp2_with fail
  go_ret
  exact ⟨by rw [HFr.out]; rfl, HD.out.p⟩
 have HFi : Hid (firstP h l = decide (sumL (h.sh.take h.sf.toNat) = (lensP h.ps)[0]?.getD 0)) := qh (by rw [HFf.out, decide_eq_true h4]; simp)
 have HFe0 : Hid (0 ≤ l.fe) := qh (by
  have h1 := HOe.out
  have h2 := HGi.out
  have h3 := HGy.out
  obtain ⟨x, hx⟩ := Option.isSome_iff_exists.1 h2.symm
  rw [hx] at h3
  have h5 : gy = x.2 := h3
  rw [hx] at h1
  have h6 := h1.symm
  unfold ownP at h6
  rw [if_pos (by have := (tables_ok HT.out).2; omega), if_pos rfl] at h6
  obtain ⟨g1, g2, g3, g4⟩ := piece_some h6
  have hs := sumL_pos g1
  rw [g4] at h5
  simp only at h5
  rw [← HFe.out, ← h4, h5]; omega)
 obtain ⟨b, o, hpa, hpg⟩ := HMm.out.page 0 (by have h1 := HP1.out; have h2 := HPn.out; omega)
 have hln := lensP_get (ps := h.ps) (k := 0) (by have h1 := HP1.out; have h2 := HPn.out; omega)
 rw [hln] at HFi
 obtain ⟨ln, hLn⟩ : ∃ z, z = (h.ps[0]'(by have h1 := HP1.out; have h2 := HPn.out; omega)).l := ⟨_, rfl⟩
 rw [← hLn] at HFi hpg
 subst hpa
 have q8 : w7.drew.cell? ⟨b, o + 1, none⟩ = some (.int .i64 ln) := HD.out.p.cell_some (by have := hpg 1 _ rfl; simpa using this) id
 have q7 : w7.drew.cell? ⟨tb, 2, none⟩ = some (.slice (some ⟨b, o, none⟩) pn pc) := by rw [HD.out.b1.cell 2]; exact HK2.out
 have q6 : w7.drew.cell? ⟨tb, 6, none⟩ = some (.slice la h.sh.length lc) := by rw [HD.out.b1.cell 6]; exact HK6.out
 have q5 : w7.drew.cell? ⟨tb, 5, none⟩ = some (.int .i64 (f : Int)) := by rw [HD.out.b1.cell 5]; exact HK5.out
 have hSm := sum_any (h.sh.take h.sf.toNat) la lc w7.drew (by rw [List.map_take]; exact row_take (HMm.out.pure HD.out.p).share _) (by have := (tables_len HT.out).2.1; rw [List.length_take]; omega) (fun x hx => by have := (tables_len HT.out).1 x (List.mem_of_mem_take hx); omega)
 rw [show (h.sh.take h.sf.toNat).length = f by have h1 := (tables_ok HT.out).1.2; have h2 := HSf.out; rw [List.length_take]; omega] at hSm
 obtain ⟨sv, hsv⟩ : ∃ z, z = sumL (h.sh.take h.sf.toNat) := ⟨_, rfl⟩
 rw [← hsv] at hSm HFi
 have HSm := qh hSm
 clear hsv hSm hpg hln hLn HFf HOe HGy HGi
 subst h4
 refine region_start (fun _ => False) (by kernel_rfl) ?_
 try simp only [Act.put, sA, sZ, sS]
 refine region_take 0 48 (v := ?vrc0) rfl rfl (by kernel_rfl) (by kernel_rfl) (by kernel_rfl) (fun _ _ _ h => h) (by rfl) (fun w' hS => ?hrc0) ?rrc0
 case hrc0 => go_simp; with_reducible rfl
 try simp only [Act.put, sA, sZ, sS]
 refine region_take 1 49 (v := ?vrc1) rfl rfl (by kernel_rfl) (by kernel_rfl) (by kernel_rfl) (fun _ _ _ h => h) (by rfl) (fun w' hS => ?hrc1) ?rrc1
 case hrc1 => go_simp; with_reducible rfl
 try simp only [Act.put, sA, sZ, sS]
 refine region_take 2 50 (v := ?vrc2) rfl rfl (by kernel_rfl) (by kernel_rfl) (by kernel_rfl) (fun _ _ _ h => h) (by rfl) (fun w' hS => ?hrc2) ?rrc2
 case hrc2 => go_simp; with_reducible rfl
 try simp only [Act.put, sA, sZ, sS]
 refine region_take 3 51 (v := ?vrc3) rfl rfl (by kernel_rfl) (by kernel_rfl) (by kernel_rfl) (fun _ _ _ h => h) (by rfl) (fun w' hS => ?hrc3) ?rrc3
 case hrc3 => go_simp; with_reducible rfl
 try simp only [Act.put, sA, sZ, sS]
 refine region_take 4 52 (v := ?vrc4) rfl rfl (by kernel_rfl) (by kernel_rfl) (by kernel_rfl) (fun _ _ _ h => h) (by rfl) (fun w' hS => ?hrc4) ?rrc4
 case hrc4 => (have e := hS.cell_some q1 id; go_simp; with_reducible rfl)
 try simp only [Act.put, sA, sZ, sS]
 refine region_take 5 53 (v := ?vrc5) rfl rfl (by kernel_rfl) (by kernel_rfl) (by kernel_rfl) (fun _ _ _ h => h) (by rfl) (fun w' hS => ?hrc5) ?rrc5
 case hrc5 => go_simp; with_reducible rfl
 try simp only [Act.put, sA, sZ, sS]
 refine region_take 6 54 (v := ?vrc6) rfl rfl (by kernel_rfl) (by kernel_rfl) (by kernel_rfl) (fun _ _ _ h => h) (by rfl) (fun w' hS => ?hrc6) ?rrc6
 case hrc6 => (have e := hS.cell_some q2 id; go_simp; with_reducible rfl)
 try simp only [Act.put, sA, sZ, sS]
 refine region_take 7 55 (v := ?vrc7) rfl rfl (by kernel_rfl) (by kernel_rfl) (by kernel_rfl) (fun _ _ _ h => h) (by rfl) (fun w' hS => ?hrc7) ?rrc7
 case hrc7 => go_simp; with_reducible rfl
 try simp only [Act.put, sA, sZ, sS]
 refine region_take 8 56 (v := ?vrc8) rfl rfl (by kernel_rfl) (by kernel_rfl) (by kernel_rfl) (fun _ _ _ h => h) (by rfl) (fun w' hS => ?hrc8) ?rrc8
 case hrc8 => go_simp; with_reducible rfl
 try simp only [Act.put, sA, sZ, sS]
 refine region_take 9 57 (v := ?vrc9) rfl rfl (by kernel_rfl) (by kernel_rfl) (by kernel_rfl) (fun _ _ _ h => h) (by rfl) (fun w' hS => ?hrc9) ?rrc9
 case hrc9 => go_simp; with_reducible rfl
 try simp only [Act.put, sA, sZ, sS]
 refine region_take 10 58 (v := ?vrc10) rfl rfl (by kernel_rfl) (by kernel_rfl) (by kernel_rfl) (fun _ _ _ h => h) (by rfl) (fun w' hS => ?hrc10) ?rrc10
 case hrc10 => go_simp; with_reducible rfl
 try simp only [Act.put, sA, sZ, sS]
 refine region_take 11 59 (v := ?vrc11) rfl rfl (by kernel_rfl) (by kernel_rfl) (by kernel_rfl) (fun _ _ _ h => h) (by rfl) (fun w' hS => ?hrc11) ?rrc11
 case hrc11 => (have e := hS.cell_some q6 id; go_simp; with_reducible rfl)
 try simp only [Act.put, sA, sZ, sS]
 refine region_take 12 60 (v := ?vrc12) rfl rfl (by kernel_rfl) (by kernel_rfl) (by kernel_rfl) (fun _ _ _ h => h) (by rfl) (fun w' hS => ?hrc12) ?rrc12
 case hrc12 => go_simp; with_reducible rfl
 try simp only [Act.put, sA, sZ, sS]
 refine region_take 13 61 (v := ?vrc13) rfl rfl (by kernel_rfl) (by kernel_rfl) (by kernel_rfl) (fun _ _ _ h => h) (by rfl) (fun w' hS => ?hrc13) ?rrc13
 case hrc13 => (have e := hS.cell_some q5 id; go_simp; with_reducible rfl)
 try simp only [Act.put, sA, sZ, sS]
 refine region_take 14 62 (v := ?vrc14) rfl rfl (by kernel_rfl) (by kernel_rfl) (by kernel_rfl) (fun _ _ _ h => h) (by rfl) (fun w' hS => ?hrc14) ?rrc14
 case hrc14 => (have a1 := HLc.out; go_simp; with_reducible rfl)
 try simp only [Act.put, sA, sZ, sS]
 refine region_take 16 64 (v := ?vrc16) rfl rfl (by kernel_rfl) (by kernel_rfl) (by kernel_rfl) (fun _ _ _ h => h) (by rfl) (fun w' hS => ?hrc16) ?rrc16
 case hrc16 => go_simp; with_reducible rfl
 try simp only [Act.put, sA, sZ, sS]
 refine region_take 17 65 (v := ?vrc17) rfl rfl (by kernel_rfl) (by kernel_rfl) (by kernel_rfl) (fun _ _ _ h => h) (by rfl) (fun w' hS => ?hrc17) ?rrc17
 case hrc17 => (have e := hS.cell_some q7 id; go_simp; with_reducible rfl)
 try simp only [Act.put, sA, sZ, sS]
 refine region_take 18 66 (v := ?vrc18) rfl rfl (by kernel_rfl) (by kernel_rfl) (by kernel_rfl) (fun _ _ _ h => h) (by rfl) (fun w' hS => ?hrc18) ?rrc18
 case hrc18 => (have a1 := HP1.out; go_simp; with_reducible rfl)
 try simp only [Act.put, sA, sZ, sS]
 refine region_take 19 67 (v := ?vrc19) rfl rfl (by kernel_rfl) (by kernel_rfl) (by kernel_rfl) (fun _ _ _ h => h) (by rfl) (fun w' hS => ?hrc19) ?rrc19
 case hrc19 => go_simp; with_reducible rfl
 try simp only [Act.put, sA, sZ, sS]
 refine region_take 20 68 (v := ?vrc20) rfl rfl (by kernel_rfl) (by kernel_rfl) (by kernel_rfl) (fun _ _ _ h => h) (by rfl) (fun w' hS => ?hrc20) ?rrc20
 case hrc20 => (have e := hS.cell_some q8 id; go_simp; with_reducible rfl)
 try simp only [Act.put, sA, sZ, sS]
 refine wpAnyH_ready (rs := [15]) (by kernel_rfl) (by simp) (AllReadyH.cons rfl (fun K hK => ?_) AllReadyH.nil)
 go_simp
 refine HSm.out.mono ?_
 rintro e w8 ⟨rfl, hP8⟩
 have HD := qh (HD.out.pure hP8)
 have q8 := hP8.cell_some q8 id
 have q7 := hP8.cell_some q7 id
 refine hK.out _ _ (hP8) (fun hHeld => ?_)
 clear hK K hHeld
 refine region_now (hP8) ?_
 try simp only [Act.put, sA, sZ, sS]
 refine region_take 21 69 (v := ?vrc21) rfl rfl (by kernel_rfl) (by kernel_rfl) (by kernel_rfl) (fun _ _ _ h => h) (by rfl) (fun w' hS => ?hrc21) ?rrc21
 case hrc21 => go_simp; with_reducible rfl
 try simp only [Act.put, sA, sZ, sS]
 refine region_take 22 70 (v := ?vrc22) rfl rfl (by kernel_rfl) (by kernel_rfl) (by kernel_rfl) (fun _ _ _ h => h) (by rfl) (fun w' hS => ?hrc22) ?rrc22
 case hrc22 => go_simp; with_reducible rfl
 try simp only [Act.put, sA, sZ, sS]
 refine wpAnyH_done (by kernel_rfl) ?_ _
 go_simp
 try simp only [Act.put, sA, sZ, sS]
 clear q1 q2 q5 q6 q7 q8 HSm hB5
 by_cases h5 : sv = ln
 case neg =>
  have e5 : (sv != ln) = true := by simpa using h5
  have HFr : Hid (F = 27) := qh (by rw [HF.out, HFi.out, decide_eq_false h5]; rfl)
  clear h5
  go_wp2_with fail
  go_ret
  exact ⟨by rw [HFr.out]; rfl, HD.out.p⟩
 have e5 : (sv != ln) = false := by simpa using h5
 rw [e5]
 have HF : Hid (F = if finP h l (othersP l.main l.fe ((lensP h.ps).drop 1)) = true then 0 else 27) := qh (by rw [HF.out, HFi.out, decide_eq_true h5]; simp)
 clear HFi h5
 obtain ⟨mn, hmn⟩ : ∃ z, z = l.main := ⟨_, rfl⟩
 obtain ⟨sa, hsa⟩ : ∃ z, z = h.sa := ⟨_, rfl⟩
 obtain ⟨sn, hsn⟩ : ∃ z, z = h.sh.length := ⟨_, rfl⟩
 have HMn := qh hmn
 have HSa := qh hsa
 have HSn := qh hsn
 have hsnb := HMm.out.sn
 rw [← hsn] at HK6 hsnb
 rw [← hmn] at HE6 HF
 rw [← hsa] at HK4
 have HFsn : Hid (f ≤ sn) := qh (by have h1 := (tables_ok HT.out).1.2; have h2 := HSf.out; omega)
 have q2 : w8.cell? ⟨tb + 1, 4, none⟩ = some (.int .i64 gy) := by rw [HD.out.b2.cell 4]; exact HE4.out
 clear hmn hsa hsn
 go_wp2_with fail
 clear q2 e5
 go_loopw [7, 8, 9, 10] (fun en i _ _ W => ∃ (k : Nat) (e : Int), 1 ≤ k ∧ k ≤ pn ∧ i = .int .i64 k ∧ en = .int .i64 e ∧ Hid (e = eP0 h l k ∧ 0 ≤ e ∧ F = if finP h l (othersP mn e ((lensP h.ps).drop k)) = true then 0 else 27) ∧ Hid (Hd w W tb cs ds)) (fun _ i _ _ _ => pn - (intOf i).toNat)
 case atStart => exact ⟨1, gy, Nat.le_refl _, HP1.out, rfl, rfl, qh ⟨by rw [HFe.out]; unfold eP0; rw [show ((lensP h.ps).take 1).drop 1 = [] by rw [List.drop_eq_nil_iff, List.length_take]; omega, sumL]; omega, by rw [HFe.out]; exact HFe0.out, by rw [HF.out, HFe.out]⟩, HD⟩
 case round =>
  obtain ⟨k, en, hk1, hk, rfl, rfl, HEn, HD⟩ := hrel
  have c2 : wr.cell? ⟨tb, 2, none⟩ = some (.slice (some ⟨b, o, none⟩) pn pc) := by rw [HD.out.b1.cell 2]; exact HK2.out
  by_cases hlt : k < pn
  ·have hki : (k : Int) < (pn : Int) := by omega
   have hkl : k < h.ps.length := by rw [← HPn.out]; exact hlt
   have hown := own_ref HT.out HFe0.out k hk1 hkl en HEn.out.1
   have hnx := eP0_succ (l := l) hk1 hkl
   have hdr := lens_drop hkl
   have hl1 : 1 ≤ h.ps[k].l := ((tables_len HT.out).2.2 _ (by unfold lensP; exact List.mem_map_of_mem (List.getElem_mem hkl))).1
   obtain ⟨ln, hLn⟩ : ∃ z, z = h.ps[k].l := ⟨_, rfl⟩
   rw [← hLn] at hown hnx hdr hl1
   have HF2 : Hid (F = if finP h l (if 0 ≤ en ∧ 1 ≤ ln ∧ en + ln ≤ 2147483647 ∧ en + ln ≤ mn then othersP mn (en + ln) ((lensP h.ps).drop (k + 1)) else none) = true then 0 else 27) := qh (by rw [HEn.out.2.2, hdr]; rfl)
   have hOw := HOw.out wr HD.out.p k
   rw [hown] at hOw
   clear hdr hLn hown
   have HRh : Hid (wr.rangeAt tb 0 cs) := qh HD.out.b1.range
   have HRl : Hid (wr.rangeAt (tb + 1) 0 ds) := qh HD.out.b2.range
   by_cases hc1 : en + ln ≤ 2147483647
   case neg =>
    rw [if_neg hc1] at hOw
    have HOk := qh hOw
    have HFr : Hid (F = 27) := qh (by
     have hz : (if 0 ≤ en ∧ 1 ≤ ln ∧ en + ln ≤ 2147483647 ∧ en + ln ≤ mn then othersP mn (en + ln) ((lensP h.ps).drop (k + 1)) else none) = none := if_neg (fun q => hc1 q.2.2.1)
     rw [HF2.out, hz]; rfl)
    clear hOw hc1 hnx
    go_wp2_with (first
     | (with_reducible refine V11.at_load 25 (.tmp 2) ?_; refine wpList_load_h rfl (.tmp 2) rfl tb 0 rfl cs HRh.out HL7.out ?_)
     | (with_reducible refine V11.at_load 40 (.tmp 3) ?_; refine wpList_load_l rfl (.tmp 3) rfl (tb + 1) 0 rfl ds HRl.out HM7.out ?_))
    refine HOk.out.mono ?_
    rintro e w9 ⟨rfl, hP9⟩
    have HD := qh (HD.out.pure hP9)
    clear hP9 HOk HRh HRl c2
    rw [show spanV none = .agg #[.int .i64 0, .int .i64 0] from rfl, show (none : Option (Int × Int)).isSome = false from rfl]
    obtain ⟨w10, hw10⟩ : ∃ z, z = (w9.alloc (.cells #[.int .i64 0, .int .i64 0] 55)).setCells w9.heap.size 0 (#[.int .i64 0, .int .i64 0] : Array Value).toList := ⟨_, rfl⟩
    have hPs : Pure w9 w10 := hw10 ▸ (Ext.setCells _ 0 _ (ext_alloc w9 _) (b := w9.heap.size) (fun h => by omega))
    have hB9 : BlockIs w10 w9.heap.size [.int .i64 0, .int .i64 0] 55 := hw10 ▸ (BlockIs.new w9 [.int .i64 0, .int .i64 0] 55).setAll [.int .i64 0, .int .i64 0] rfl
    have HTh9 : Hid ((w9.alloc (.cells #[.int .i64 0, .int .i64 0] 55)).there w9.heap.size 0 (#[.int .i64 0, .int .i64 0] : Array Value).size) := qh (BlockIs.there (BlockIs.new w9 [.int .i64 0, .int .i64 0] 55) 2 rfl)
    have HSi9 : Hid ((Tryz.prog.info? 55).map (·.size) = some (#[.int .i64 0, .int .i64 0] : Array Value).size) := qh sizeSp
    have HOn9 : Hid (((#[.int .i64 0, .int .i64 0] : Array Value).all fun u => u.oneCell') = true) := qh (all_oneCell_toArray (by intro u hu; simp only [List.mem_cons, List.not_mem_nil, or_false] at hu; rcases hu with rfl | rfl <;> rfl))
    have HWw10 := qh hw10.symm
    clear hw10
    have HD := qh (HD.out.pure hPs)
    clear hPs
    go_wp2_with (with_reducible refine V11.at_store 55 (.tmp 9) (.tmp 85) ?_; refine wpList_store_mid rfl 55 (.tmp 9) (.tmp 85) rfl w9.heap.size 0 #[.int .i64 0, .int .i64 0] rfl rfl HTh9.out HSi9.out HOn9.out ?_; rw [HWw10.out])
    go_ret
    exact ⟨by rw [HFr.out]; rfl, HD.out.p⟩
   rw [if_pos hc1] at hOw
   have HOk := qh hOw
   clear hOw
   obtain ⟨e2, he2⟩ : ∃ z, z = en + ln := ⟨_, rfl⟩
   have HNx : Hid (e2 = eP0 h l (k + 1) ∧ 0 ≤ e2) := qh ⟨by rw [he2, hnx, ← HEn.out.1], by have := HEn.out.2.1; omega⟩
   have HF3 : Hid (F = if finP h l (if e2 ≤ mn then othersP mn e2 ((lensP h.ps).drop (k + 1)) else none) = true then 0 else 27) := qh (by
    rw [HF2.out, ← he2]
    have h1 := HEn.out.2.1
    have hz : (if 0 ≤ en ∧ 1 ≤ ln ∧ e2 ≤ 2147483647 ∧ e2 ≤ mn then othersP mn e2 ((lensP h.ps).drop (k + 1)) else none) = (if e2 ≤ mn then othersP mn e2 ((lensP h.ps).drop (k + 1)) else none) := by
     by_cases hc : e2 ≤ mn
     ·rw [if_pos ⟨h1, hl1, by omega, hc⟩, if_pos hc]
     ·rw [if_neg (fun q => hc q.2.2.2), if_neg hc]
    rw [hz])
   rw [← he2] at HOk
   clear he2 hnx hc1 HF2
   go_wp2_with (first
    | (with_reducible refine V11.at_load 25 (.tmp 2) ?_; refine wpList_load_h rfl (.tmp 2) rfl tb 0 rfl cs HRh.out HL7.out ?_)
    | (with_reducible refine V11.at_load 40 (.tmp 3) ?_; refine wpList_load_l rfl (.tmp 3) rfl (tb + 1) 0 rfl ds HRl.out HM7.out ?_))
   refine HOk.out.mono ?_
   rintro e w9 ⟨rfl, hP9⟩
   have HD := qh (HD.out.pure hP9)
   clear hP9 HOk HRh HRl c2
   rw [show spanV (some (en, e2)) = .agg #[.int .i64 en, .int .i64 e2] from rfl, show (some ((en, e2) : Int × Int)).isSome = true from rfl]
   obtain ⟨w10, hw10⟩ : ∃ z, z = (w9.alloc (.cells #[.int .i64 0, .int .i64 0] 55)).setCells w9.heap.size 0 (#[.int .i64 en, .int .i64 e2] : Array Value).toList := ⟨_, rfl⟩
   have hPs : Pure w9 w10 := hw10 ▸ (Ext.setCells _ 0 _ (ext_alloc w9 _) (b := w9.heap.size) (fun h => by omega))
   have hB9 : BlockIs w10 w9.heap.size [.int .i64 en, .int .i64 e2] 55 := hw10 ▸ (BlockIs.new w9 [.int .i64 0, .int .i64 0] 55).setAll [.int .i64 en, .int .i64 e2] rfl
   have HTh9 : Hid ((w9.alloc (.cells #[.int .i64 0, .int .i64 0] 55)).there w9.heap.size 0 (#[.int .i64 en, .int .i64 e2] : Array Value).size) := qh (BlockIs.there (BlockIs.new w9 [.int .i64 0, .int .i64 0] 55) 2 rfl)
   have HSi9 : Hid ((Tryz.prog.info? 55).map (·.size) = some (#[.int .i64 en, .int .i64 e2] : Array Value).size) := qh sizeSp
   have HOn9 : Hid (((#[.int .i64 en, .int .i64 e2] : Array Value).all fun u => u.oneCell') = true) := qh (all_oneCell_toArray (by intro u hu; simp only [List.mem_cons, List.not_mem_nil, or_false] at hu; rcases hu with rfl | rfl <;> rfl))
   have HWw10 := qh hw10.symm
   clear hw10
   have HD := qh (HD.out.pure hPs)
   have q1 : w10.cell? ⟨w9.heap.size, 1, none⟩ = some (.int .i64 e2) := hB9.cell 1
   have q2 : w10.cell? ⟨tb + 1, 6, none⟩ = some (.int .i64 mn) := by rw [HD.out.b2.cell 6]; exact HE6.out
   clear hPs hB9
   by_cases hc2 : e2 ≤ mn
   ·have hz : (if e2 ≤ mn then othersP mn e2 ((lensP h.ps).drop (k + 1)) else none) = othersP mn e2 ((lensP h.ps).drop (k + 1)) := if_pos hc2
    have HF4 : Hid (F = if finP h l (othersP mn e2 ((lensP h.ps).drop (k + 1))) = true then 0 else 27) := qh (by rw [HF3.out, hz])
    clear hz
    have i1 : decide (mn < e2) = false := decide_eq_false (by omega)
    clear hc2
    go_wp2_with (with_reducible refine V11.at_store 55 (.tmp 9) (.tmp 85) ?_; refine wpList_store_mid rfl 55 (.tmp 9) (.tmp 85) rfl w9.heap.size 0 #[.int .i64 en, .int .i64 e2] rfl rfl HTh9.out HSi9.out HOn9.out ?_; rw [HWw10.out])
    go_roundw
    case rel =>
     exact ⟨k + 1, e2, by omega, by omega, by go_num, rfl, qh ⟨HNx.out.1, HNx.out.2, HF4.out⟩, HD⟩
    case measure => simp [intOf]; omega
   ·have hz : (if e2 ≤ mn then othersP mn e2 ((lensP h.ps).drop (k + 1)) else none) = none := if_neg hc2
    have HFr : Hid (F = 27) := qh (by rw [HF3.out, hz]; rfl)
    clear hz
    have i1 : decide (mn < e2) = true := decide_eq_true (by omega)
    clear hc2
    go_wp2_with (with_reducible refine V11.at_store 55 (.tmp 9) (.tmp 85) ?_; refine wpList_store_mid rfl 55 (.tmp 9) (.tmp 85) rfl w9.heap.size 0 #[.int .i64 en, .int .i64 e2] rfl rfl HTh9.out HSi9.out HOn9.out ?_; rw [HWw10.out])
    go_ret
    exact ⟨by rw [HFr.out]; rfl, HD.out.p⟩
  ·have hki : ¬ (k : Int) < (pn : Int) := by omega
   obtain rfl : k = pn := by omega
   have HF5 : Hid (F = if (behindP h l en && idsP h) = true then 0 else 27) := qh (by
    rw [HEn.out.2.2, List.drop_of_length_le (by rw [lensP_len, ← HPn.out]; exact Nat.le_refl _)]; rfl)
   have c6 : wr.cell? ⟨tb, 6, none⟩ = some (.slice la sn lc) := by rw [HD.out.b1.cell 6]; exact HK6.out
   have c5 : wr.cell? ⟨tb, 5, none⟩ = some (.int .i64 (f : Int)) := by rw [HD.out.b1.cell 5]; exact HK5.out
   by_cases hsf : sn = f
   ·have i0 : decide ((f : Int) < (sn : Int)) = false := decide_eq_false (by omega)
    have i1 : ¬ f < sn := by omega
    have HFd : Hid (F = if idsP h = true then 0 else 27) := qh (by
     have hz : behindP h l en = true := by
      unfold behindP
      rw [if_pos (by rw [← HSn.out, HSf.out]; omega)]
     rw [HF5.out, hz]; rfl)
    clear HEn HOw HGr HF5 hsf
    go_wp2_with fail
    clear c2 c5 c6
    go_loopw [13, 14] (fun i _ W => ∃ p : Nat, p ≤ k ∧ i = .int .i64 p ∧ Hid ((h.ps.take p).all (fun p => p.sh.all (fun x => decide (x < (sn : Int)))) = true) ∧ Hid (Hd w W tb cs ds)) (fun i _ _ => k - (intOf i).toNat)
    case atStart => exact ⟨0, Nat.zero_le _, rfl, qh rfl, HD⟩
    case round =>
     obtain ⟨p, hp, rfl, HA, HD⟩ := hrel
     have c2 : wr.cell? ⟨tb, 2, none⟩ = some (.slice (some ⟨b, o, none⟩) k pc) := by rw [HD.out.b1.cell 2]; exact HK2.out
     by_cases hpt : p < k
     ·have hpi : (p : Int) < (k : Int) := by omega
      have hpl : p < h.ps.length := by rw [← HPn.out]; exact hpt
      obtain ⟨b', o', hbo, hpg⟩ := (HMm.out.pure HD.out.p).page p hpl
      cases hbo
      have HSub := qh (HMm.out.pages.sub _ (List.getElem_mem hpl))
      have hnum := HMo.out.numbers _ (List.getElem_mem hpl)
      have HId := qh (ids_take (n := (sn : Int)) hpl)
      have hmem := List.getElem_mem hpl
      obtain ⟨q, hq⟩ : ∃ q, q = h.ps[p] := ⟨_, rfl⟩
      rw [← hq] at hpg hnum HSub HId hmem
      have HMem := qh hmem
      clear hq hmem
      obtain ⟨po, pl, xa, xc, xs⟩ := q
      simp only at hpg hnum HSub HId
      obtain ⟨n, hn⟩ : ∃ n, n = xs.length := ⟨_, rfl⟩
      have HN := qh hn
      rw [← hn] at hpg hnum
      have HCl : Hid (∀ W, Pure w W → W.cell? ⟨b, o + p * 3 + 2, none⟩ = some (.slice xa n xc)) := qh (fun W hP => by
       obtain ⟨b3, o3, hb3, hp3⟩ := HMm.out.page p hpl
       cases hb3
       have h1 := hP.cell_some (hp3 2 _ rfl) id
       have h2 := HD.out.p.cell_some (hp3 2 _ rfl) id
       have h3 := hpg 2 _ rfl
       rw [h1]
       exact h2.symm.trans h3)
      have HBad : Hid (xs.all (fun x => decide (x < (sn : Int))) = false → F = 27) := qh (fun hb => by
       rw [HFd.out, if_neg]
       intro hi
       unfold idsP at hi
       rw [List.all_eq_true] at hi
       have h1 := hi _ HMem.out
       rw [← HSn.out] at h1
       simp only [] at h1
       rw [hb] at h1
       cases h1)
      clear hn hpg HMem
      go_wp2_with fail
      go_loopw [14] (fun i W => ∃ j : Nat, j ≤ n ∧ i = .int .i64 j ∧ Hid ((xs.take j).all (fun x => decide (x < (sn : Int))) = true) ∧ Hid (Hd w W tb cs ds)) (fun i _ => n - (intOf i).toNat)
      case atStart => exact ⟨0, Nat.zero_le _, rfl, qh rfl, HD⟩
      case round =>
       obtain ⟨j, hj, rfl, HJ, HD⟩ := hrel
       have c2 : wr.cell? ⟨tb, 2, none⟩ = some (.slice (some ⟨b, o, none⟩) k pc) := by rw [HD.out.b1.cell 2]; exact HK2.out
       have c6 : wr.cell? ⟨tb, 6, none⟩ = some (.slice la sn lc) := by rw [HD.out.b1.cell 6]; exact HK6.out
       have c9 := HCl.out wr HD.out.p
       by_cases hjt : j < n
       ·have hji : (j : Int) < (n : Int) := by omega
        have hjl : j < xs.length := by rw [← HN.out]; exact hjt
        obtain ⟨sb, so2, hxa, hsc⟩ := zV_at (ls := xs) (HSub.out.ext HD.out.p (fun _ _ => id)) j hjl
        have HTk : Hid ((xs.take (j + 1)).all (fun x => decide (x < (sn : Int))) = ((xs.take j).all (fun x => decide (x < (sn : Int))) && decide (xs[j] < (sn : Int)))) := qh (by
         rw [List.take_succ_eq_append_getElem hjl, List.all_append]; simp)
        have HXm := qh (List.getElem_mem hjl)
        obtain ⟨x, hx⟩ : ∃ z, z = xs[j] := ⟨_, rfl⟩
        rw [← hx] at hsc HTk HXm
        rw [hxa] at c9
        clear hx
        by_cases hxs : (sn : Int) ≤ x
        ·have HFr : Hid (F = 27) := qh (HBad.out (by
          rw [← Bool.not_eq_true, List.all_eq_true]
          intro hi
          have := of_decide_eq_true (hi _ HXm.out)
          omega))
         go_wp2_with fail
         go_quiet (fail)
         go_wp2_with fail
         go_ret
         exact ⟨by rw [HFr.out]; rfl, HD.out.p.drewN _⟩
        ·have HJ2 : Hid ((xs.take (j + 1)).all (fun x => decide (x < (sn : Int))) = true) := qh (by rw [HTk.out, HJ.out, decide_eq_true (by omega)]; rfl)
         go_wp2_with fail
         go_quiet (fail)
         go_wp2_with fail
         go_roundw
         case rel => exact ⟨j + 1, by omega, by go_num, HJ2, qh (HD.out.pure ((Ext.refl (fun _ => False) wr).drewN _))⟩
         case measure => simp [intOf]; omega
       ·have hji : ¬ (j : Int) < (n : Int) := by omega
        have HA2 : Hid ((h.ps.take (p + 1)).all (fun p => p.sh.all (fun x => decide (x < (sn : Int)))) = true) := qh (by
         have h1 := HJ.out
         rw [List.take_of_length_le (by rw [← HN.out]; omega)] at h1
         rw [HId.out, HA.out, h1]; rfl)
        go_wp2_with fail
        go_roundw
        case rel => exact ⟨p + 1, by omega, by go_num, HA2, HD⟩
        case measure => simp [intOf]; omega
     ·have hpi : ¬ (p : Int) < (k : Int) := by omega
      have HFr : Hid (F = 0) := qh (by
       rw [HFd.out, if_pos]
       have := HA.out
       rw [List.take_of_length_le (by rw [← HPn.out]; omega)] at this
       unfold idsP
       rw [← HSn.out]
       exact this)
      go_wp2_with fail
      go_ret
      exact ⟨by rw [HFr.out]; rfl, HD.out.p⟩
   ·have i0 : decide ((f : Int) < (sn : Int)) = true := decide_eq_true (by have := HFsn.out; omega)
    have i1 : f < sn := by have := HFsn.out; omega
    have hbe := behind_eq h l en (by rw [← HSn.out, HSf.out]; omega)
    rw [← HSn.out, ← HSa.out, ← HMn.out] at hbe
    have hGr := HGr.out wr HD.out.p ((sn : Int) - 1)
    obtain ⟨O, hOe⟩ : ∃ z, z = groupP h ((sn : Int) - 1) := ⟨_, rfl⟩
    rw [← hOe] at hGr hbe
    unfold SpanIs spanV at hGr
    obtain ⟨gx2, hgx⟩ : ∃ z, z = (O.getD (0, 0)).1 := ⟨_, rfl⟩
    obtain ⟨gy2, hgy⟩ : ∃ z, z = (O.getD (0, 0)).2 := ⟨_, rfl⟩
    obtain ⟨gi, hgi⟩ : ∃ z, z = O.isSome := ⟨_, rfl⟩
    rw [← hgx, ← hgy, ← hgi] at hGr
    rw [← hgy, ← hgi] at hbe
    have HBe := qh hbe
    have HGk := qh hGr
    have hw : wrap64 ((sn : Int) - 1) = (sn : Int) - 1 := by unfold wrap64; omega
    have HRh : Hid (wr.rangeAt tb 0 cs) := qh HD.out.b1.range
    have HRl : Hid (wr.rangeAt (tb + 1) 0 ds) := qh HD.out.b2.range
    clear hbe hGr hOe hgx hgy hgi HEn HOw hsf
    go_wp2_with (first
     | (with_reducible refine V11.at_load 25 (.tmp 2) ?_; refine wpList_load_h rfl (.tmp 2) rfl tb 0 rfl cs HRh.out HL7.out ?_))
    refine HGk.out.mono ?_
    rintro e w9 ⟨rfl, hP9⟩
    have HD := qh (HD.out.pure hP9)
    clear hP9 HGk HGr HRh HRl c2 c5 c6 hw
    obtain ⟨w10, hw10⟩ : ∃ z, z = (w9.alloc (.cells #[.int .i64 0, .int .i64 0] 55)).setCells w9.heap.size 0 (#[.int .i64 gx2, .int .i64 gy2] : Array Value).toList := ⟨_, rfl⟩
    have hPs : Pure w9 w10 := hw10 ▸ (Ext.setCells _ 0 _ (ext_alloc w9 _) (b := w9.heap.size) (fun h => by omega))
    have hB11 : BlockIs w10 w9.heap.size [.int .i64 gx2, .int .i64 gy2] 55 := hw10 ▸ (BlockIs.new w9 [.int .i64 0, .int .i64 0] 55).setAll [.int .i64 gx2, .int .i64 gy2] rfl
    have HTh11 : Hid ((w9.alloc (.cells #[.int .i64 0, .int .i64 0] 55)).there w9.heap.size 0 (#[.int .i64 gx2, .int .i64 gy2] : Array Value).size) := qh (BlockIs.there (BlockIs.new w9 [.int .i64 0, .int .i64 0] 55) 2 rfl)
    have HSi11 : Hid ((Tryz.prog.info? 55).map (·.size) = some (#[.int .i64 gx2, .int .i64 gy2] : Array Value).size) := qh sizeSp
    have HOn11 : Hid (((#[.int .i64 gx2, .int .i64 gy2] : Array Value).all fun u => u.oneCell') = true) := qh (all_oneCell_toArray (by intro u hu; simp only [List.mem_cons, List.not_mem_nil, or_false] at hu; rcases hu with rfl | rfl <;> rfl))
    have HWw10 := qh hw10.symm
    clear hw10
    have HD := qh (HD.out.pure hPs)
    have q1 : w10.cell? ⟨w9.heap.size, 1, none⟩ = some (.int .i64 gy2) := hB11.cell 1
    have q2 : w10.cell? ⟨tb + 1, 6, none⟩ = some (.int .i64 mn) := by rw [HD.out.b2.cell 6]; exact HE6.out
    have q4 : w10.cell? ⟨tb, 4, none⟩ = some (.int .i64 sa) := by rw [HD.out.b1.cell 4]; exact HK4.out
    clear hPs hB11
    by_cases j1 : en ≤ sa
    case neg =>
     have k1 : decide (sa < en) = true := decide_eq_true (by omega)
     have HFr : Hid (F = 27) := qh (by rw [HF5.out, HBe.out, decide_eq_false j1]; rfl)
     clear j1
     go_wp2_with (with_reducible refine V11.at_store 55 (.tmp 11) (.tmp 111) ?_; refine wpList_store_mid rfl 55 (.tmp 11) (.tmp 111) rfl w9.heap.size 0 #[.int .i64 gx2, .int .i64 gy2] rfl rfl HTh11.out HSi11.out HOn11.out ?_; rw [HWw10.out])
     go_ret
     exact ⟨by rw [HFr.out]; rfl, HD.out.p⟩
    have k1 : decide (sa < en) = false := decide_eq_false (by omega)
    cases gi with
    | false =>
      have HFr : Hid (F = 27) := qh (by rw [HF5.out, HBe.out]; simp)
      clear j1
      go_wp2_with (with_reducible refine V11.at_store 55 (.tmp 11) (.tmp 111) ?_; refine wpList_store_mid rfl 55 (.tmp 11) (.tmp 111) rfl w9.heap.size 0 #[.int .i64 gx2, .int .i64 gy2] rfl rfl HTh11.out HSi11.out HOn11.out ?_; rw [HWw10.out])
      go_ret
      exact ⟨by rw [HFr.out]; rfl, HD.out.p⟩
    | true =>
      by_cases j2 : gy2 ≤ mn
      case neg =>
       have k2 : decide (mn < gy2) = true := decide_eq_true (by omega)
       have HFr : Hid (F = 27) := qh (by rw [HF5.out, HBe.out, decide_eq_false j2]; simp)
       clear j1 j2
       go_wp2_with (with_reducible refine V11.at_store 55 (.tmp 11) (.tmp 111) ?_; refine wpList_store_mid rfl 55 (.tmp 11) (.tmp 111) rfl w9.heap.size 0 #[.int .i64 gx2, .int .i64 gy2] rfl rfl HTh11.out HSi11.out HOn11.out ?_; rw [HWw10.out])
       go_ret
       exact ⟨by rw [HFr.out]; rfl, HD.out.p⟩
      have k2 : decide (mn < gy2) = false := decide_eq_false (by omega)
      have HFd : Hid (F = if idsP h = true then 0 else 27) := qh (by rw [HF5.out, HBe.out, decide_eq_true j1, decide_eq_true j2]; simp)
      clear j1 j2 HF5 HBe
      go_wp2_with (with_reducible refine V11.at_store 55 (.tmp 11) (.tmp 111) ?_; refine wpList_store_mid rfl 55 (.tmp 11) (.tmp 111) rfl w9.heap.size 0 #[.int .i64 gx2, .int .i64 gy2] rfl rfl HTh11.out HSi11.out HOn11.out ?_; rw [HWw10.out])
      clear q1 q2 q4
      go_loopw [13, 14] (fun i _ W => ∃ p : Nat, p ≤ k ∧ i = .int .i64 p ∧ Hid ((h.ps.take p).all (fun p => p.sh.all (fun x => decide (x < (sn : Int)))) = true) ∧ Hid (Hd w W tb cs ds)) (fun i _ _ => k - (intOf i).toNat)
      case atStart => exact ⟨0, Nat.zero_le _, rfl, qh rfl, HD⟩
      case round =>
       obtain ⟨p, hp, rfl, HA, HD⟩ := hrel
       have c2 : wr.cell? ⟨tb, 2, none⟩ = some (.slice (some ⟨b, o, none⟩) k pc) := by rw [HD.out.b1.cell 2]; exact HK2.out
       by_cases hpt : p < k
       ·have hpi : (p : Int) < (k : Int) := by omega
        have hpl : p < h.ps.length := by rw [← HPn.out]; exact hpt
        obtain ⟨b', o', hbo, hpg⟩ := (HMm.out.pure HD.out.p).page p hpl
        cases hbo
        have HSub := qh (HMm.out.pages.sub _ (List.getElem_mem hpl))
        have hnum := HMo.out.numbers _ (List.getElem_mem hpl)
        have HId := qh (ids_take (n := (sn : Int)) hpl)
        have hmem := List.getElem_mem hpl
        obtain ⟨q, hq⟩ : ∃ q, q = h.ps[p] := ⟨_, rfl⟩
        rw [← hq] at hpg hnum HSub HId hmem
        have HMem := qh hmem
        clear hq hmem
        obtain ⟨po, pl, xa, xc, xs⟩ := q
        simp only at hpg hnum HSub HId
        obtain ⟨n, hn⟩ : ∃ n, n = xs.length := ⟨_, rfl⟩
        have HN := qh hn
        rw [← hn] at hpg hnum
        have HCl : Hid (∀ W, Pure w W → W.cell? ⟨b, o + p * 3 + 2, none⟩ = some (.slice xa n xc)) := qh (fun W hP => by
         obtain ⟨b3, o3, hb3, hp3⟩ := HMm.out.page p hpl
         cases hb3
         have h1 := hP.cell_some (hp3 2 _ rfl) id
         have h2 := HD.out.p.cell_some (hp3 2 _ rfl) id
         have h3 := hpg 2 _ rfl
         rw [h1]
         exact h2.symm.trans h3)
        have HBad : Hid (xs.all (fun x => decide (x < (sn : Int))) = false → F = 27) := qh (fun hb => by
         rw [HFd.out, if_neg]
         intro hi
         unfold idsP at hi
         rw [List.all_eq_true] at hi
         have h1 := hi _ HMem.out
         rw [← HSn.out] at h1
         simp only [] at h1
         rw [hb] at h1
         cases h1)
        clear hn hpg HMem
        go_wp2_with fail
        go_loopw [14] (fun i W => ∃ j : Nat, j ≤ n ∧ i = .int .i64 j ∧ Hid ((xs.take j).all (fun x => decide (x < (sn : Int))) = true) ∧ Hid (Hd w W tb cs ds)) (fun i _ => n - (intOf i).toNat)
        case atStart => exact ⟨0, Nat.zero_le _, rfl, qh rfl, HD⟩
        case round =>
         obtain ⟨j, hj, rfl, HJ, HD⟩ := hrel
         have c2 : wr.cell? ⟨tb, 2, none⟩ = some (.slice (some ⟨b, o, none⟩) k pc) := by rw [HD.out.b1.cell 2]; exact HK2.out
         have c6 : wr.cell? ⟨tb, 6, none⟩ = some (.slice la sn lc) := by rw [HD.out.b1.cell 6]; exact HK6.out
         have c9 := HCl.out wr HD.out.p
         by_cases hjt : j < n
         ·have hji : (j : Int) < (n : Int) := by omega
          have hjl : j < xs.length := by rw [← HN.out]; exact hjt
          obtain ⟨sb, so2, hxa, hsc⟩ := zV_at (ls := xs) (HSub.out.ext HD.out.p (fun _ _ => id)) j hjl
          have HTk : Hid ((xs.take (j + 1)).all (fun x => decide (x < (sn : Int))) = ((xs.take j).all (fun x => decide (x < (sn : Int))) && decide (xs[j] < (sn : Int)))) := qh (by
           rw [List.take_succ_eq_append_getElem hjl, List.all_append]; simp)
          have HXm := qh (List.getElem_mem hjl)
          obtain ⟨x, hx⟩ : ∃ z, z = xs[j] := ⟨_, rfl⟩
          rw [← hx] at hsc HTk HXm
          rw [hxa] at c9
          clear hx
          by_cases hxs : (sn : Int) ≤ x
          ·have HFr : Hid (F = 27) := qh (HBad.out (by
            rw [← Bool.not_eq_true, List.all_eq_true]
            intro hi
            have := of_decide_eq_true (hi _ HXm.out)
            omega))
           go_wp2_with fail
           go_quiet (fail)
           go_wp2_with fail
           go_ret
           exact ⟨by rw [HFr.out]; rfl, HD.out.p.drewN _⟩
          ·have HJ2 : Hid ((xs.take (j + 1)).all (fun x => decide (x < (sn : Int))) = true) := qh (by rw [HTk.out, HJ.out, decide_eq_true (by omega)]; rfl)
           go_wp2_with fail
           go_quiet (fail)
           go_wp2_with fail
           go_roundw
           case rel => exact ⟨j + 1, by omega, by go_num, HJ2, qh (HD.out.pure ((Ext.refl (fun _ => False) wr).drewN _))⟩
           case measure => simp [intOf]; omega
         ·have hji : ¬ (j : Int) < (n : Int) := by omega
          have HA2 : Hid ((h.ps.take (p + 1)).all (fun p => p.sh.all (fun x => decide (x < (sn : Int)))) = true) := qh (by
           have h1 := HJ.out
           rw [List.take_of_length_le (by rw [← HN.out]; omega)] at h1
           rw [HId.out, HA.out, h1]; rfl)
          go_wp2_with fail
          go_roundw
          case rel => exact ⟨p + 1, by omega, by go_num, HA2, HD⟩
          case measure => simp [intOf]; omega
       ·have hpi : ¬ (p : Int) < (k : Int) := by omega
        have HFr : Hid (F = 0) := qh (by
         rw [HFd.out, if_pos]
         have := HA.out
         rw [List.take_of_length_le (by rw [← HPn.out]; omega)] at this
         unfold idsP
         rw [← HSn.out]
         exact this)
        go_wp2_with fail
        go_ret
        exact ⟨by rw [HFr.out]; rfl, HD.out.p⟩
