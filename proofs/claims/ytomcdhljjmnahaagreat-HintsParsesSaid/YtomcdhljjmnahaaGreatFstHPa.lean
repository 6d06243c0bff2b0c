import Derived.Test.YtomcdhljjmnahaaGreatTabHPa
import Derived.Test.YtomcdhljjmnahaaGreatOwnHPa
import Derived.Test.YtomcdhljjmnahaaGreatGrpHPa
import Derived.Test.YtomcdhljjmnahaaGreatSqPa
set_option linter.unusedVariables false
set_option linter.unusedSimpArgs false
set_option maxRecDepth 100000
namespace Go.Proofs.YtomcdhljjmnahaaGreat
open Go.RowKit
theorem first_eq (h : HT) (l : LT) : firstP h l = ((ownP h l 0).isSome && decide (((ownP h l 0).getD (0, 0)).2 = l.fe) && decide ((addL (h.sh.take h.sf.toNat)).2 = 0) && decide ((addL (h.sh.take h.sf.toNat)).1 = (lensP h.ps)[0]?.getD 0)) := by
 unfold firstP
 cases ownP h l 0 with
 | none => rfl
 | some x =>
   rcases addL_cases (h.sh.take h.sf.toNat) with ⟨h1, _, h2, _⟩ | ⟨h1, _⟩
   ·simp only [h2]; rfl
   ·simp only [decide_eq_false h1]; simp
set_option maxHeartbeats 2000000 in
theorem first_any (h : HT) (l : LT) (pa la : Option Addr) (pc lc : Nat) (w : World) (H : HMem w h pa pc la lc) (hsf : 0 ≤ h.sf ∧ h.sf ≤ h.sh.length) (hpn : 1 ≤ h.ps.length) :
 Calls Tryz.prog 32 #[.agg (hC h pa pc la lc).toArray, .agg (lC l).toArray] w (BoolTo (firstP h l) w) := by
 obtain ⟨F, hF⟩ : ∃ F, F = firstP h l := ⟨_, rfl⟩
 rw [← hF]
 rw [first_eq] at hF
 have HOwn := qh (fun W (hP : Pure w W) => own_any h l 0 pa la pc lc W (H.pure hP) (Or.inl (Int.le_refl 0)))
 have HAdd := qh (fun W (hP : Pure w W) => add_any (h.sh.take h.sf.toNat) la lc W (by rw [List.map_take]; exact row_take (H.pure hP).share _) (by have := H.sn; rw [List.length_take]; omega))
 obtain ⟨f, hf⟩ : ∃ f : Nat, h.sf = (f : Int) := ⟨h.sf.toNat, by omega⟩
 have hlc : f ≤ lc := by have := H.lcap.1; omega
 have hfl : (h.sh.take h.sf.toNat).length = f := by rw [List.length_take]; omega
 rw [hfl] at HAdd
 have HMm := qh H
 obtain ⟨cs, hcs⟩ : ∃ z, z = hC h pa pc la lc := ⟨_, rfl⟩
 obtain ⟨ds, hds⟩ : ∃ z, z = lC l := ⟨_, rfl⟩
 have HL7 : Hid (cs.length = 7) := qh (by rw [hcs]; rfl)
 have HM7 : Hid (ds.length = 7) := qh (by rw [hds]; rfl)
 have HCs := qh hcs
 have HDs := qh hds
 rw [← hcs, ← hds]
 have hD0 := Hd.new w cs ds
 obtain ⟨w2, hw2⟩ : ∃ z, z = ((w.alloc (.cells cs.toArray 25)).alloc (.cells ds.toArray 40)) := ⟨_, rfl⟩
 obtain ⟨tb, htb⟩ : ∃ z, z = w.heap.size := ⟨_, rfl⟩
 rw [← hw2, ← htb] at hD0
 have HW : Hid (((w.alloc (.cells cs.toArray 25)).alloc (.cells ds.toArray 40)) = w2) := qh hw2.symm
 have HTb := qh htb
 have HD := qh hD0
 clear hcs hds hw2 htb hD0
 rw [← HCs.out, ← HDs.out] at HOwn
 have HRh0 : Hid (((w.alloc (.cells cs.toArray 25)).alloc (.cells ds.toArray 40)).rangeAt w.heap.size 0 cs) := qh (by rw [HW.out, ← HTb.out]; exact HD.out.b1.range)
 have HRl0 : Hid (((w.alloc (.cells cs.toArray 25)).alloc (.cells ds.toArray 40)).rangeAt (w.heap.size + 1) 0 ds) := qh (by rw [HW.out, ← HTb.out]; exact HD.out.b2.range)
 obtain ⟨G, hG⟩ : ∃ G, G = ownP h l 0 := ⟨_, rfl⟩
 obtain ⟨A, hA⟩ : ∃ A, A = addL (h.sh.take h.sf.toNat) := ⟨_, rfl⟩
 rw [← hG, ← hA] at hF
 rw [← hG] at HOwn
 rw [← hA] at HAdd
 unfold SpanIs spanV at HOwn
 obtain ⟨gx, hgx⟩ : ∃ z, z = (G.getD (0, 0)).1 := ⟨_, rfl⟩
 obtain ⟨gy, hgy⟩ : ∃ z, z = (G.getD (0, 0)).2 := ⟨_, rfl⟩
 obtain ⟨gi, hgi⟩ : ∃ z, z = G.isSome := ⟨_, rfl⟩
 rw [← hgy, ← hgi] at hF
 rw [← hgx, ← hgy, ← hgi] at HOwn
 obtain ⟨b, o, hpa, hpg⟩ := H.page 0 (by omega)
 have hln := lensP_get (ps := h.ps) (k := 0) (by omega)
 rw [hln] at hF
 obtain ⟨ln, hLn⟩ : ∃ z, z = (h.ps[0]'(by omega)).l := ⟨_, rfl⟩
 rw [← hLn] at hF hpg
 have HL0 : Hid (∀ W, Pure w W → W.cell? ⟨b, o + 1, none⟩ = some (.int .i64 ln)) := qh (fun W hP => hP.cell_some (by have := hpg 1 _ rfl; simpa using this) id)
 have HFe := qh hF
 have HSf := qh hf
 have hpn1 : (0 : Int) < (h.ps.length : Int) := by omega
 have h6 : cs[6]? = some (.slice la h.sh.length lc) := by rw [HCs.out]; rfl
 have h5 : cs[5]? = some (.int .i64 (f : Int)) := by rw [HCs.out]; show some (Value.int .i64 h.sf) = _; rw [hf]
 have h2 : cs[2]? = some (.slice (some ⟨b, o, none⟩) h.ps.length pc) := by rw [HCs.out, ← hpa]; rfl
 have d4 : ds[4]? = some (.int .i64 l.fe) := by rw [HDs.out]; rfl
 have H6 := qh h6
 have H5 := qh h5
 have H2 := qh h2
 have D4 := qh d4
 clear hF hG hA hgx hgy hgi H hln hLn hpg hpa hf h6 h5 h2 d4 hfl HCs HDs HMm hsf
 generalize h.ps.length = pn at *
 generalize h.sh.length = sn at *
 generalize l.fe = fe at *
 obtain ⟨ad, ae⟩ := A
 go_enter Tryz.func32, Tryz.ntmps32
 go_wp2_with (first
  | (with_reducible refine V11.at_load 25 (.tmp 2) ?_; refine wpList_load_h rfl (.tmp 2) rfl w.heap.size 0 rfl cs HRh0.out HL7.out ?_)
  | (with_reducible refine V11.at_load 40 (.tmp 3) ?_; refine wpList_load_l rfl (.tmp 3) rfl (w.heap.size + 1) 0 rfl ds HRl0.out HM7.out ?_))
 rw [HW.out, ← HTb.out]
 refine (HOwn.out w2 HD.out.p).mono ?_
 rintro e w3 ⟨rfl, hP3⟩
 have HD := qh (HD.out.pure hP3)
 clear hP3 HRh0 HRl0 HOwn
 have HTh : Hid ((w3.alloc (.cells #[.int .i64 0, .int .i64 0] 55)).there w3.heap.size 0 (#[.int .i64 gx, .int .i64 gy] : Array Value).size) := qh (BlockIs.there (BlockIs.new w3 [.int .i64 0, .int .i64 0] 55) 2 rfl)
 have HSi : Hid ((Tryz.prog.info? 55).map (·.size) = some (#[.int .i64 gx, .int .i64 gy] : Array Value).size) := qh sizeSp
 obtain ⟨w4, hw4⟩ : ∃ z, z = (w3.alloc (.cells #[.int .i64 0, .int .i64 0] 55)).setCells w3.heap.size 0 (#[.int .i64 gx, .int .i64 gy] : Array Value).toList := ⟨_, rfl⟩
 have hPs : Pure w3 w4 := hw4 ▸ (Ext.setCells _ 0 _ (ext_alloc w3 _) (b := w3.heap.size) (fun h => by omega))
 have hBs : BlockIs w4 w3.heap.size [.int .i64 gx, .int .i64 gy] 55 := hw4 ▸ (BlockIs.new w3 [.int .i64 0, .int .i64 0] 55).setAll [.int .i64 gx, .int .i64 gy] rfl
 have HWw4 := qh hw4.symm
 clear hw4
 have HD4 := qh (HD.out.pure hPs)
 have e6 : w4.cell? ⟨tb, 6, none⟩ = some (.slice la sn lc) := by rw [HD4.out.b1.cell 6]; exact H6.out
 have e5 : w4.cell? ⟨tb, 5, none⟩ = some (.int .i64 (f : Int)) := by rw [HD4.out.b1.cell 5]; exact H5.out
 rw [← HWw4.out] at e6 e5
 go_wp2_with (with_reducible refine V11.at_store 55 (.tmp 5) (.tmp 13) ?_; refine wpList_store_mid rfl 55 (.tmp 5) (.tmp 13) rfl w3.heap.size 0 #[.int .i64 gx, .int .i64 gy] rfl rfl HTh.out HSi.out (one2 _ _) ?_)
 rw [HWw4.out]
 refine (HAdd.out w4 HD4.out.p).mono ?_
 rintro e w5 ⟨rfl, hP5⟩
 have HD := qh (HD4.out.pure hP5)
 have hBs := hBs.ext hP5 id
 have q1 : w5.cell? ⟨w3.heap.size, 1, none⟩ = some (.int .i64 gy) := hBs.cell 1
 have q2 : w5.cell? ⟨tb, 2, none⟩ = some (.slice (some ⟨b, o, none⟩) pn pc) := by rw [HD.out.b1.cell 2]; exact H2.out
 have q3 : w5.cell? ⟨tb + 1, 4, none⟩ = some (.int .i64 fe) := by rw [HD.out.b2.cell 4]; exact D4.out
 have q4 : w5.cell? ⟨b, o + 1, none⟩ = some (.int .i64 ln) := HL0.out w5 HD.out.p
 clear hP5 HAdd hPs hBs HTh HSi HWw4 HD4 e6 e5
 cases gi with
 | false =>
   have HFr : Hid (F = false) := qh (by rw [HFe.out]; rfl)
   go_wp2_with fail
   go_ret
   exact ⟨by rw [HFr.out]; rfl, HD.out.p⟩
 | true =>
   by_cases c1 : gy = fe
   case neg =>
    have e1 : (gy == fe) = false := by simpa using c1
    have HFr : Hid (F = false) := qh (by rw [HFe.out, decide_eq_false c1]; rfl)
    clear c1
    go_wp2_with fail
    go_ret
    exact ⟨by rw [HFr.out]; rfl, HD.out.p⟩
   subst c1
   by_cases c2 : ae = 0
   case neg =>
    have e1 : (ae == 0) = false := by simpa using c2
    have HFr : Hid (F = false) := qh (by rw [HFe.out, decide_eq_false c2]; simp)
    clear c2
    go_wp2_with fail
    go_ret
    exact ⟨by rw [HFr.out]; rfl, HD.out.p⟩
   subst c2
   by_cases c3 : ad = ln
   case neg =>
    have e1 : (ad == ln) = false := by simpa using c3
    have HFr : Hid (F = false) := qh (by rw [HFe.out, decide_eq_false c3]; simp)
    clear c3
    go_wp2_with fail
    go_ret
    exact ⟨by rw [HFr.out]; rfl, HD.out.p⟩
   subst c3
   have HFr : Hid (F = true) := qh (by rw [HFe.out]; simp)
   go_wp2_with fail
   go_ret
   exact ⟨by rw [HFr.out]; rfl, HD.out.p⟩
theorem piece_one (e n : Int) : (0 ≤ e ∧ 1 ≤ n ∧ e + n ≤ 2147483647 ∧ pieceP [e] n = some (e, e + n)) ∨ (¬ (0 ≤ e ∧ 1 ≤ n ∧ e + n ≤ 2147483647) ∧ pieceP [e] n = none) := by
 unfold pieceP
 have h1 : (allPos [e] = true) = (0 ≤ e) := by simp [allPos]
 have h2 : sumL [e] = e := by simp [sumL]
 simp only [h1, h2]
 by_cases h : 0 ≤ e ∧ 1 ≤ n ∧ e + n ≤ 2147483647
 ·exact Or.inl ⟨h.1, h.2.1, h.2.2, if_pos h⟩
 ·exact Or.inr ⟨h, if_neg h⟩
def OthTo (o : Option Int) (w : World) (e : Ending) (w' : World) : Prop := e = .returned (.tuple #[.int .i64 (o.getD 0), .bool o.isSome]) ∧ Pure w w'
theorem lens_drop {ps : List PH} {k : Nat} (hk : k < ps.length) : (lensP ps).drop k = ps[k].l :: (lensP ps).drop (k + 1) := by
 rw [List.drop_eq_getElem_cons (by rw [lensP_len]; exact hk)]
 congr 1
 unfold lensP
 rw [List.getElem_map]
set_option maxHeartbeats 2000000 in
theorem others_any (h : HT) (l : LT) (pa la : Option Addr) (pc lc : Nat) (w : World) (H : HMem w h pa pc la lc) :
 Calls Tryz.prog 33 #[.agg (hC h pa pc la lc).toArray, .agg (lC l).toArray] w (OthTo (othersP l.main l.fe ((lensP h.ps).drop 1)) w) := by
 obtain ⟨F, hF⟩ : ∃ F, F = othersP l.main l.fe ((lensP h.ps).drop 1) := ⟨_, rfl⟩
 rw [← hF]
 have HF := qh hF
 have HMm := qh H
 have hpn := H.pn
 obtain ⟨cs, hcs⟩ : ∃ z, z = hC h pa pc la lc := ⟨_, rfl⟩
 obtain ⟨ds, hds⟩ : ∃ z, z = lC l := ⟨_, rfl⟩
 have HL7 : Hid (cs.length = 7) := qh (by rw [hcs]; rfl)
 have HM7 : Hid (ds.length = 7) := qh (by rw [hds]; rfl)
 have HCs := qh hcs
 have HDs := qh hds
 rw [← hcs, ← hds]
 have hD0 := Hd.new w cs ds
 obtain ⟨w2, hw2⟩ : ∃ z, z = ((w.alloc (.cells cs.toArray 25)).alloc (.cells ds.toArray 40)) := ⟨_, rfl⟩
 obtain ⟨tb, htb⟩ : ∃ z, z = w.heap.size := ⟨_, rfl⟩
 rw [← hw2, ← htb] at hD0
 have HW : Hid (((w.alloc (.cells cs.toArray 25)).alloc (.cells ds.toArray 40)) = w2) := qh hw2.symm
 have HTb := qh htb
 have HD := qh hD0
 have s4 : ((w.alloc (.cells cs.toArray 25)).alloc (.cells ds.toArray 40)).cell? ⟨w.heap.size + 1, 4, none⟩ = some (.int .i64 l.fe) := by rw [HW.out, ← htb, hD0.b2.cell 4, hds]; rfl
 clear hcs hds hw2 htb hD0
 have HC2 : Hid (cs[2]? = some (.slice pa h.ps.length pc)) := qh (by rw [HCs.out]; rfl)
 have HD6 : Hid (ds[6]? = some (.int .i64 l.main)) := qh (by rw [HDs.out]; rfl)
 obtain ⟨pn, hpN⟩ : ∃ z, z = h.ps.length := ⟨_, rfl⟩
 have HN := qh hpN
 rw [← hpN] at hpn HC2
 generalize hfe : l.fe = fe at *
 generalize hmn : l.main = mn at *
 clear hF H hpN HCs HDs hfe hmn
 go_enter Tryz.func33, Tryz.ntmps33
 go_wp2_with fail
 rw [HW.out, ← HTb.out]
 clear s4
 go_loopw [6, 7, 8] (fun en i _ W => ∃ (k : Nat) (e : Int), 1 ≤ k ∧ (k : Int) ≤ 1 + pn ∧ i = .int .i64 k ∧ en = .int .i64 e ∧ Hid (F = othersP mn e ((lensP h.ps).drop k)) ∧ Hid (Hd w W tb cs ds)) (fun _ i _ _ => pn + 1 - (intOf i).toNat)
 case atStart => exact ⟨1, fe, Nat.le_refl _, by omega, rfl, rfl, HF, HD⟩
 case round =>
  obtain ⟨k, en, hk1, hkn, rfl, rfl, HE, HD⟩ := hrel
  have r2 : wr.cell? ⟨tb, 2, none⟩ = some (.slice pa pn pc) := by rw [HD.out.b1.cell 2]; exact HC2.out
  by_cases hlt : k < pn
  ·have hki : (k : Int) < (pn : Int) := by omega
   have hkl : k < h.ps.length := by rw [← HN.out]; exact hlt
   obtain ⟨b, o, rfl, hpg⟩ := (HMm.out.pure HD.out.p).page k hkl
   have hdr := lens_drop hkl
   obtain ⟨ln, hLn⟩ : ∃ z, z = h.ps[k].l := ⟨_, rfl⟩
   rw [← hLn] at hpg hdr
   have rl : wr.cell? ⟨b, o + k * 3 + 1, none⟩ = some (.int .i64 ln) := hpg 1 _ rfl
   have HE2 : Hid (F = (if 0 ≤ en ∧ 1 ≤ ln ∧ en + ln ≤ 2147483647 ∧ en + ln ≤ mn then othersP mn (en + ln) ((lensP h.ps).drop (k + 1)) else none)) := qh (by rw [HE.out, hdr]; rfl)
   obtain ⟨w3, hw3⟩ : ∃ z, z = wr.alloc (.cells #[.int .i64 en] 3) := ⟨_, rfl⟩
   have hP3 : Pure wr w3 := hw3 ▸ ext_alloc wr _
   have HPc := qh (piece_any [en] ln (some ⟨wr.heap.size, 0, none⟩) 1 w3 (hw3 ▸ row_at ([en].map zV) rfl rfl) (by simp))
   have HW3 := qh hw3.symm
   have HD3 := qh (HD.out.pure hP3)
   have hP1 := piece_one en ln
   clear hpg hdr hLn hw3 hP3 HE
   unfold SpanTo spanV at HPc
   obtain ⟨G, hG⟩ : ∃ G, G = pieceP [en] ln := ⟨_, rfl⟩
   rw [← hG] at HPc hP1
   clear hG
   have HP1 := qh hP1
   clear hP1
   go_wp2_with fail
   rw [HW3.out]
   refine HPc.out.mono ?_
   rintro e w4 ⟨rfl, hP4⟩
   have HD4 := qh (HD3.out.pure hP4)
   clear hP4 HPc HW3
   rcases HP1.out with ⟨p0, p1, p2, hG⟩ | ⟨pno, hG⟩
   ·subst hG
    simp only [Option.getD_some]
    have hEq : ∀ w, (binOp .eql 55 (.agg #[.int .i64 en, .int .i64 (en + ln)]) (.agg #[.int .i64 0, .int .i64 0])).run Tryz.prog w = .ok (.bool false) w := fun w => eqlSp en (en + ln) false (by rw [decide_eq_false (show ¬ en + ln = 0 by omega)]; simp) w
    have HEq := qh hEq
    obtain ⟨en2, hen2⟩ : ∃ z, z = en + ln := ⟨_, rfl⟩
    rw [← hen2] at HEq ⊢
    have HE3 : Hid (F = (if en2 ≤ mn then othersP mn en2 ((lensP h.ps).drop (k + 1)) else none)) := qh (by
     rw [HE2.out, ← hen2]
     by_cases hc : en2 ≤ mn
     ·rw [if_pos ⟨p0, p1, by omega, hc⟩, if_pos hc]
     ·rw [if_neg (fun h => hc h.2.2.2), if_neg hc])
    clear hEq hen2 HE2 HP1 p0 p1 p2
    have HTh : Hid ((w4.alloc (.cells #[.int .i64 0, .int .i64 0] 55)).there w4.heap.size 0 (#[.int .i64 en, .int .i64 en2] : Array Value).size) := qh (BlockIs.there (BlockIs.new w4 [.int .i64 0, .int .i64 0] 55) 2 rfl)
    have HSi : Hid ((Tryz.prog.info? 55).map (·.size) = some (#[.int .i64 en, .int .i64 en2] : Array Value).size) := qh sizeSp
    obtain ⟨w5, hw5⟩ : ∃ z, z = (w4.alloc (.cells #[.int .i64 0, .int .i64 0] 55)).setCells w4.heap.size 0 (#[.int .i64 en, .int .i64 en2] : Array Value).toList := ⟨_, rfl⟩
    have hPs : Pure w4 w5 := hw5 ▸ (Ext.setCells _ 0 _ (ext_alloc w4 _) (b := w4.heap.size) (fun h => by omega))
    have hBs : BlockIs w5 w4.heap.size [.int .i64 en, .int .i64 en2] 55 := hw5 ▸ (BlockIs.new w4 [.int .i64 0, .int .i64 0] 55).setAll [.int .i64 en, .int .i64 en2] rfl
    have HWw5 := qh hw5.symm
    clear hw5
    have HD5 := qh (HD4.out.pure hPs)
    have q1 : w5.cell? ⟨w4.heap.size, 1, none⟩ = some (.int .i64 en2) := hBs.cell 1
    have q2 : w5.cell? ⟨tb + 1, 6, none⟩ = some (.int .i64 mn) := by rw [HD5.out.b2.cell 6]; exact HD6.out
    rw [← HWw5.out] at q1 q2
    have HRs : Hid (((w4.alloc (.cells #[.int .i64 0, .int .i64 0] 55)).setCells w4.heap.size 0 (#[.int .i64 en, .int .i64 en2] : Array Value).toList).rangeAt w4.heap.size 0 [.int .i64 en, .int .i64 en2]) := qh (by rw [HWw5.out]; exact hBs.range)
    clear hPs hBs r2 rl
    have hEq := HEq.out
    clear HEq
    by_cases hc : en2 ≤ mn
    ·have HFr : Hid (F = othersP mn en2 ((lensP h.ps).drop (k + 1))) := qh (by rw [HE3.out, if_pos hc])
     go_wp2_with (first
      | (with_reducible refine V11.at_store 55 (.tmp 8) (.tmp 26) ?_; refine wpList_store_mid rfl 55 (.tmp 8) (.tmp 26) rfl w4.heap.size 0 #[.int .i64 en, .int .i64 en2] rfl rfl HTh.out HSi.out (one2 _ _) ?_)
      | (with_reducible refine V11.at_load 55 (.tmp 8) ?_; refine wpList_load_mid rfl 55 (.tmp 8) rfl w4.heap.size 0 rfl [.int .i64 en, .int .i64 en2] _ HRs.out Tryz.underlying55 rfl (szSp _ _) ?_))
     rw [HWw5.out]
     go_roundw
     case rel => exact ⟨k + 1, en2, by omega, by omega, by go_num, rfl, HFr, HD5⟩
     case measure => simp [intOf]; omega
    ·have hc' : mn < en2 := by omega
     have HFr : Hid (F = none) := qh (by rw [HE3.out, if_neg hc])
     clear hc
     go_wp2_with (first
      | (with_reducible refine V11.at_store 55 (.tmp 8) (.tmp 26) ?_; refine wpList_store_mid rfl 55 (.tmp 8) (.tmp 26) rfl w4.heap.size 0 #[.int .i64 en, .int .i64 en2] rfl rfl HTh.out HSi.out (one2 _ _) ?_)
      | (with_reducible refine V11.at_load 55 (.tmp 8) ?_; refine wpList_load_mid rfl 55 (.tmp 8) rfl w4.heap.size 0 rfl [.int .i64 en, .int .i64 en2] _ HRs.out Tryz.underlying55 rfl (szSp _ _) ?_))
     rw [HWw5.out]
     go_ret2
     exact ⟨by rw [HFr.out]; rfl, HD5.out.p⟩
   ·subst hG
    simp only [Option.getD_none]
    have HFr : Hid (F = none) := qh (by rw [HE2.out, if_neg (fun h => pno ⟨h.1, h.2.1, h.2.2.1⟩)])
    clear HE2 HP1 pno
    have HTh : Hid ((w4.alloc (.cells #[.int .i64 0, .int .i64 0] 55)).there w4.heap.size 0 (#[.int .i64 0, .int .i64 0] : Array Value).size) := qh (BlockIs.there (BlockIs.new w4 [.int .i64 0, .int .i64 0] 55) 2 rfl)
    have HSi : Hid ((Tryz.prog.info? 55).map (·.size) = some (#[.int .i64 0, .int .i64 0] : Array Value).size) := qh sizeSp
    obtain ⟨w5, hw5⟩ : ∃ z, z = (w4.alloc (.cells #[.int .i64 0, .int .i64 0] 55)).setCells w4.heap.size 0 (#[.int .i64 0, .int .i64 0] : Array Value).toList := ⟨_, rfl⟩
    have hPs : Pure w4 w5 := hw5 ▸ (Ext.setCells _ 0 _ (ext_alloc w4 _) (b := w4.heap.size) (fun h => by omega))
    have hBs : BlockIs w5 w4.heap.size [.int .i64 0, .int .i64 0] 55 := hw5 ▸ (BlockIs.new w4 [.int .i64 0, .int .i64 0] 55).setAll [.int .i64 0, .int .i64 0] rfl
    have HWw5 := qh hw5.symm
    clear hw5
    have HD5 := qh (HD4.out.pure hPs)
    have HRs : Hid (((w4.alloc (.cells #[.int .i64 0, .int .i64 0] 55)).setCells w4.heap.size 0 (#[.int .i64 0, .int .i64 0] : Array Value).toList).rangeAt w4.heap.size 0 [.int .i64 0, .int .i64 0]) := qh (by rw [HWw5.out]; exact hBs.range)
    clear hPs hBs r2 rl
    go_wp2_with (first
     | (with_reducible refine V11.at_store 55 (.tmp 8) (.tmp 26) ?_; refine wpList_store_mid rfl 55 (.tmp 8) (.tmp 26) rfl w4.heap.size 0 #[.int .i64 0, .int .i64 0] rfl rfl HTh.out HSi.out (one2 _ _) ?_)
     | (with_reducible refine V11.at_load 55 (.tmp 8) ?_; refine wpList_load_mid rfl 55 (.tmp 8) rfl w4.heap.size 0 rfl [.int .i64 0, .int .i64 0] _ HRs.out Tryz.underlying55 rfl (szSp _ _) ?_))
    rw [HWw5.out]
    go_ret2
    exact ⟨by rw [HFr.out]; rfl, HD5.out.p⟩
  ·have hki : ¬ (k : Int) < (pn : Int) := by omega
   have HFr : Hid (F = some en) := qh (by rw [HE.out, List.drop_of_length_le (by rw [lensP_len, ← HN.out]; omega)]; rfl)
   clear HE
   go_wp2_with fail
   go_ret2
   exact ⟨by rw [HFr.out]; rfl, HD.out.p⟩
theorem behind_eq (h : HT) (l : LT) (e : Int) (hn : ¬ (h.sh.length : Int) = h.sf) : behindP h l e = (decide (e ≤ h.sa) && (groupP h ((h.sh.length : Int) - 1)).isSome && decide (((groupP h ((h.sh.length : Int) - 1)).getD (0, 0)).2 ≤ l.main)) := by
 unfold behindP
 rw [if_neg hn]
 cases groupP h ((h.sh.length : Int) - 1) with
 | none => simp
 | some x => simp
set_option maxHeartbeats 2000000 in
theorem behind_any (h : HT) (l : LT) (en : Int) (pa la : Option Addr) (pc lc : Nat) (w : World) (H : HMem w h pa pc la lc) :
 Calls Tryz.prog 34 #[.agg (hC h pa pc la lc).toArray, .agg (lC l).toArray, .int .i64 en] w (BoolTo (behindP h l en) w) := by
 obtain ⟨F, hF⟩ : ∃ F, F = behindP h l en := ⟨_, rfl⟩
 rw [← hF]
 have hsn := H.sn
 have HGr := qh (fun W (hP : Pure w W) => group_any h ((h.sh.length : Int) - 1) pa la pc lc W (H.pure hP))
 have hbe := behind_eq h l en
 obtain ⟨cs, hcs⟩ : ∃ z, z = hC h pa pc la lc := ⟨_, rfl⟩
 obtain ⟨ds, hds⟩ : ∃ z, z = lC l := ⟨_, rfl⟩
 have HL7 : Hid (cs.length = 7) := qh (by rw [hcs]; rfl)
 have HM7 : Hid (ds.length = 7) := qh (by rw [hds]; rfl)
 have HCs := qh hcs
 have HDs := qh hds
 rw [← hcs, ← hds]
 have hD0 := Hd.new w cs ds
 obtain ⟨w2, hw2⟩ : ∃ z, z = ((w.alloc (.cells cs.toArray 25)).alloc (.cells ds.toArray 40)) := ⟨_, rfl⟩
 obtain ⟨tb, htb⟩ : ∃ z, z = w.heap.size := ⟨_, rfl⟩
 rw [← hw2, ← htb] at hD0
 have HW : Hid (((w.alloc (.cells cs.toArray 25)).alloc (.cells ds.toArray 40)) = w2) := qh hw2.symm
 have HTb := qh htb
 have HD := qh hD0
 have r5 : ((w.alloc (.cells cs.toArray 25)).alloc (.cells ds.toArray 40)).cell? ⟨w.heap.size, 5, none⟩ = some (.int .i64 h.sf) := by rw [HW.out, ← htb, hD0.b1.cell 5, hcs]; rfl
 have r6 : ((w.alloc (.cells cs.toArray 25)).alloc (.cells ds.toArray 40)).cell? ⟨w.heap.size, 6, none⟩ = some (.slice la h.sh.length lc) := by rw [HW.out, ← htb, hD0.b1.cell 6, hcs]; rfl
 clear hcs hds hw2 htb hD0
 rw [← HCs.out] at HGr
 have HRh0 : Hid (((w.alloc (.cells cs.toArray 25)).alloc (.cells ds.toArray 40)).rangeAt w.heap.size 0 cs) := qh (by rw [HW.out, ← HTb.out]; exact HD.out.b1.range)
 have HC4 : Hid (cs[4]? = some (.int .i64 h.sa)) := qh (by rw [HCs.out]; rfl)
 have HD6 : Hid (ds[6]? = some (.int .i64 l.main)) := qh (by rw [HDs.out]; rfl)
 unfold behindP at hF
 by_cases h1 : (h.sh.length : Int) = h.sf
 ·have HFr : Hid (F = true) := qh (by rw [hF, if_pos h1])
  clear hF hbe H HCs HDs HGr HC4 HD6
  generalize h.sh.length = sn at *
  generalize h.sf = sf at *
  subst h1
  go_enter Tryz.func34, Tryz.ntmps34
  go_wp2_with fail
  rw [HW.out]
  go_ret
  exact ⟨by rw [HFr.out]; rfl, HD.out.p⟩
 have hFb := hbe h1
 have HFb : Hid (F = _) := qh ((show F = behindP h l en by rw [hF]; rfl).trans hFb)
 have e1 : ((h.sh.length : Int) == h.sf) = false := by simpa using h1
 clear hF hFb hbe H HCs HDs
 obtain ⟨G, hG⟩ : ∃ G, G = groupP h ((h.sh.length : Int) - 1) := ⟨_, rfl⟩
 rw [← hG] at HFb HGr
 unfold SpanIs spanV at HGr
 obtain ⟨gx, hgx⟩ : ∃ z, z = (G.getD (0, 0)).1 := ⟨_, rfl⟩
 obtain ⟨gy, hgy⟩ : ∃ z, z = (G.getD (0, 0)).2 := ⟨_, rfl⟩
 obtain ⟨gi, hgi⟩ : ∃ z, z = G.isSome := ⟨_, rfl⟩
 rw [← hgy, ← hgi] at HFb
 rw [← hgx, ← hgy, ← hgi] at HGr
 clear hG hgx hgy hgi h1
 generalize h.sh.length = sn at *
 generalize h.sf = sf at *
 generalize h.sa = sa at *
 generalize l.main = mn at *
 have hw : wrap64 ((sn : Int) - 1) = (sn : Int) - 1 := by unfold wrap64; omega
 go_enter Tryz.func34, Tryz.ntmps34
 go_wp2_with (with_reducible refine V11.at_load 25 (.tmp 3) ?_; refine wpList_load_h rfl (.tmp 3) rfl w.heap.size 0 rfl cs HRh0.out HL7.out ?_)
 rw [HW.out, ← HTb.out]
 clear r5 r6 HRh0
 refine (HGr.out w2 HD.out.p).mono ?_
 rintro e w3 ⟨rfl, hP3⟩
 have HD3 := qh (HD.out.pure hP3)
 clear hP3 HGr
 have HTh : Hid ((w3.alloc (.cells #[.int .i64 0, .int .i64 0] 55)).there w3.heap.size 0 (#[.int .i64 gx, .int .i64 gy] : Array Value).size) := qh (BlockIs.there (BlockIs.new w3 [.int .i64 0, .int .i64 0] 55) 2 rfl)
 have HSi : Hid ((Tryz.prog.info? 55).map (·.size) = some (#[.int .i64 gx, .int .i64 gy] : Array Value).size) := qh sizeSp
 obtain ⟨w4, hw4⟩ : ∃ z, z = (w3.alloc (.cells #[.int .i64 0, .int .i64 0] 55)).setCells w3.heap.size 0 (#[.int .i64 gx, .int .i64 gy] : Array Value).toList := ⟨_, rfl⟩
 have hPs : Pure w3 w4 := hw4 ▸ (Ext.setCells _ 0 _ (ext_alloc w3 _) (b := w3.heap.size) (fun h => by omega))
 have hBs : BlockIs w4 w3.heap.size [.int .i64 gx, .int .i64 gy] 55 := hw4 ▸ (BlockIs.new w3 [.int .i64 0, .int .i64 0] 55).setAll [.int .i64 gx, .int .i64 gy] rfl
 have HWw4 := qh hw4.symm
 clear hw4
 have HD4 := qh (HD3.out.pure hPs)
 have q1 : w4.cell? ⟨w3.heap.size, 1, none⟩ = some (.int .i64 gy) := hBs.cell 1
 have q2 : w4.cell? ⟨tb + 1, 6, none⟩ = some (.int .i64 mn) := by rw [HD4.out.b2.cell 6]; exact HD6.out
 have q4 : w4.cell? ⟨tb, 4, none⟩ = some (.int .i64 sa) := by rw [HD4.out.b1.cell 4]; exact HC4.out
 rw [← HWw4.out] at q1 q2 q4
 clear hPs hBs e1 hw
 by_cases c1 : en ≤ sa
 case neg =>
  have HFr : Hid (F = false) := qh (by rw [HFb.out, decide_eq_false c1]; simp)
  go_wp2_with (with_reducible refine V11.at_store 55 (.tmp 7) (.tmp 22) ?_; refine wpList_store_mid rfl 55 (.tmp 7) (.tmp 22) rfl w3.heap.size 0 #[.int .i64 gx, .int .i64 gy] rfl rfl HTh.out HSi.out (one2 _ _) ?_)
  rw [HWw4.out]
  go_ret
  exact ⟨by rw [HFr.out]; rfl, HD4.out.p⟩
 cases gi with
 | false =>
   have HFr : Hid (F = false) := qh (by rw [HFb.out]; simp)
   go_wp2_with (with_reducible refine V11.at_store 55 (.tmp 7) (.tmp 22) ?_; refine wpList_store_mid rfl 55 (.tmp 7) (.tmp 22) rfl w3.heap.size 0 #[.int .i64 gx, .int .i64 gy] rfl rfl HTh.out HSi.out (one2 _ _) ?_)
   rw [HWw4.out]
   go_ret
   exact ⟨by rw [HFr.out]; rfl, HD4.out.p⟩
 | true =>
   have HFr : Hid (F = decide (gy ≤ mn)) := qh (by rw [HFb.out, decide_eq_true c1]; simp)
   go_wp2_with (with_reducible refine V11.at_store 55 (.tmp 7) (.tmp 22) ?_; refine wpList_store_mid rfl 55 (.tmp 7) (.tmp 22) rfl w3.heap.size 0 #[.int .i64 gx, .int .i64 gy] rfl rfl HTh.out HSi.out (one2 _ _) ?_)
   rw [HWw4.out]
   go_ret
   exact ⟨by rw [HFr.out]; rfl, HD4.out.p⟩
