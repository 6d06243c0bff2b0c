import Derived.Test.YtomcdhljjmnahaaGreatFstHPa
import Derived.Test.YtomcdhljjmnahaaGreatSqPa
set_option linter.unusedVariables false
set_option linter.unusedSimpArgs false
set_option maxRecDepth 100000
namespace Go.Proofs.YtomcdhljjmnahaaGreat
open Go.RowKit
theorem chk1_any (x : Int) (tb : Nat) (la : Option Addr) (sn lc : Nat) (w : World) (hc : w.cell? ⟨tb, 6, none⟩ = some (.slice la sn lc)) :
 Calls Tryz.prog 36 (#[.int .i64 x] ++ #[.pointer (some ⟨tb, 0, none⟩)]) w (BoolTo (decide ((sn : Int) ≤ x)) w) := by
 show Calls Tryz.prog 36 #[.int .i64 x, .pointer (some ⟨tb, 0, none⟩)] w (BoolTo (decide ((sn : Int) ≤ x)) w)
 go_enter Tryz.func36, Tryz.ntmps36
 go_wp2_with fail
 go_ret
 exact ⟨rfl, Ext.refl _ _⟩
theorem ids_take {ps : List PH} {n : Int} {k : Nat} (hk : k < ps.length) : (ps.take (k + 1)).all (fun p => p.sh.all (fun x => decide (x < n))) = ((ps.take k).all (fun p => p.sh.all (fun x => decide (x < n))) && ps[k].sh.all (fun x => decide (x < n))) := by
 rw [List.take_succ_eq_append_getElem hk, List.all_append]; simp
theorem any_all (l : List Int) (n : Int) : l.any (fun x => decide (n ≤ x)) = !l.all (fun x => decide (x < n)) := by
 rw [List.not_all_eq_any_not]
 congr 1
 funext x
 by_cases h : n ≤ x
 ·rw [decide_eq_true h, decide_eq_false (by omega)]; rfl
 ·rw [decide_eq_false h, decide_eq_true (by omega)]; rfl
def IntTo (x : Int) (w : World) (e : Ending) (w' : World) : Prop := e = .returned (.int .i64 x) ∧ Pure w w'
theorem tables_ok {h : HT} {l : LT} (ht : tablesP h l = true) : (0 ≤ h.sf ∧ h.sf ≤ h.sh.length) ∧ 1 ≤ h.ps.length := by
 unfold tablesP at ht
 simp only [Bool.and_eq_true, decide_eq_true_eq] at ht
 obtain ⟨⟨⟨_, _⟩, h1⟩, h2⟩ := ht
 have h3 := S27.okT_true.1 h2
 refine ⟨h3.2.2.2.1, ?_⟩
 unfold P26.chk at h1
 by_cases hc : (P26.inB (h.ps.length : Int) 1 2048) = true
 ·have := P26.inB_true.1 hc; omega
 ·rw [show P26.inB (h.ps.length : Int) 1 2048 = false by simpa using hc] at h1
  simp at h1
def finP (h : HT) (l : LT) : Option Int → Bool
 | some e => behindP h l e && idsP h
 | none => false
theorem chk_eq (h : HT) (l : LT) : chkP h l = (tablesP h l && firstP h l && finP h l (othersP l.main l.fe ((lensP h.ps).drop 1))) := by
 unfold chkP finP
 cases othersP l.main l.fe ((lensP h.ps).drop 1) <;> rfl
set_option maxHeartbeats 2000000 in
theorem check_any (h : HT) (l : LT) (pa la : Option Addr) (pc lc : Nat) (w : World) (H : HMem w h pa pc la lc) (hm : P26.Mod2 h.ps) :
 Calls Tryz.prog 11 #[.agg (hC h pa pc la lc).toArray, .agg (lC l).toArray] w (IntTo (chkE h l) w) := by
 obtain ⟨F, hF⟩ : ∃ F, F = chkE h l := ⟨_, rfl⟩
 rw [← hF]
 unfold chkE at hF
 rw [chk_eq] at hF
 have hpn := H.pn
 have HTa := qh (fun W (hP : Pure w W) => tables_any h l pa la pc lc W (H.pure hP) hm)
 have HFs := qh (fun W (hP : Pure w W) (ht : tablesP h l = true) => first_any h l pa la pc lc W (H.pure hP) (tables_ok ht).1 (tables_ok ht).2)
 have HOt := qh (fun W (hP : Pure w W) => others_any h l pa la pc lc W (H.pure hP))
 have HBe := qh (fun W (hP : Pure w W) en => behind_any h l en pa la pc lc W (H.pure hP))
 have HMm := qh H
 have HMo := qh hm
 obtain ⟨cs, hcs⟩ : ∃ z, z = hC h pa pc la lc := ⟨_, rfl⟩
 obtain ⟨ds, hds⟩ : ∃ z, z = lC l := ⟨_, rfl⟩
 have HL7 : Hid (cs.length = 7) := qh (by rw [hcs]; rfl)
 have HM7 : Hid (ds.length = 7) := qh (by rw [hds]; rfl)
 have HCs := qh hcs
 have HDs := qh hds
 rw [← hcs, ← hds]
 have hD0 := Hd.new w cs ds
 obtain ⟨w2, hw2⟩ : ∃ z, z = ((w.alloc (.cells cs.toArray 25)).alloc (.cells ds.toArray 40)) := ⟨_, rfl⟩
 obtain ⟨tb, htb⟩ : ∃ z, z = w.heap.size := ⟨_, rfl⟩
 rw [← hw2, ← htb] at hD0
 have HW : Hid (((w.alloc (.cells cs.toArray 25)).alloc (.cells ds.toArray 40)) = w2) := qh hw2.symm
 have HTb := qh htb
 have HD := qh hD0
 clear hcs hds hw2 htb hD0
 rw [← HCs.out, ← HDs.out] at HTa HFs HOt HBe
 have HRh0 : Hid (((w.alloc (.cells cs.toArray 25)).alloc (.cells ds.toArray 40)).rangeAt w.heap.size 0 cs) := qh (by rw [HW.out, ← HTb.out]; exact HD.out.b1.range)
 have HRl0 : Hid (((w.alloc (.cells cs.toArray 25)).alloc (.cells ds.toArray 40)).rangeAt (w.heap.size + 1) 0 ds) := qh (by rw [HW.out, ← HTb.out]; exact HD.out.b2.range)
 have HC6 : Hid (cs[6]? = some (.slice la h.sh.length lc)) := qh (by rw [HCs.out]; rfl)
 have HC2 : Hid (cs[2]? = some (.slice pa h.ps.length pc)) := qh (by rw [HCs.out]; rfl)
 obtain ⟨T, hT⟩ : ∃ z, z = tablesP h l := ⟨_, rfl⟩
 rw [← hT] at hF HTa HFs
 have HF := qh hF
 clear hF hT HCs HDs H hm
 go_enter Tryz.func11, Tryz.ntmps11
 go_wp2_with (first
  | (with_reducible refine V11.at_load 25 (.tmp 2) ?_; refine wpList_load_h rfl (.tmp 2) rfl w.heap.size 0 rfl cs HRh0.out HL7.out ?_)
  | (with_reducible refine V11.at_load 40 (.tmp 3) ?_; refine wpList_load_l rfl (.tmp 3) rfl (w.heap.size + 1) 0 rfl ds HRl0.out HM7.out ?_))
 rw [HW.out, ← HTb.out]
 refine (HTa.out w2 HD.out.p).mono ?_
 rintro e w3 ⟨rfl, hP3⟩
 have HD := qh (HD.out.pure hP3)
 clear hP3 HTa HRh0 HRl0
 have HRh : Hid (w3.rangeAt tb 0 cs) := qh HD.out.b1.range
 have HRl : Hid (w3.rangeAt (tb + 1) 0 ds) := qh HD.out.b2.range
 cases T with
 | false =>
   have HFr : Hid (F = 27) := qh (by rw [HF.out]; rfl)
   go_wp2_with fail
   go_ret
   exact ⟨by rw [HFr.out]; rfl, HD.out.p⟩
 | true =>
 replace HFs := qh (fun W hP => HFs.out W hP rfl)
 go_wp2_with (first
  | (with_reducible refine V11.at_load 25 (.tmp 2) ?_; refine wpList_load_h rfl (.tmp 2) rfl tb 0 rfl cs HRh.out HL7.out ?_)
  | (with_reducible refine V11.at_load 40 (.tmp 3) ?_; refine wpList_load_l rfl (.tmp 3) rfl (tb + 1) 0 rfl ds HRl.out HM7.out ?_))
 refine (HFs.out w3 HD.out.p).mono ?_
 rintro e w4 ⟨rfl, hP4⟩
 have HD := qh (HD.out.pure hP4)
 clear hP4 HFs HRh HRl
 have HRh : Hid (w4.rangeAt tb 0 cs) := qh HD.out.b1.range
 have HRl : Hid (w4.rangeAt (tb + 1) 0 ds) := qh HD.out.b2.range
 obtain ⟨T, hT⟩ : ∃ z, z = firstP h l := ⟨_, rfl⟩
 rw [← hT]
 have HF : Hid (F = if (T && finP h l (othersP l.main l.fe ((lensP h.ps).drop 1))) = true then 0 else 27) := qh (by rw [HF.out, hT]; simp)
 clear hT
 cases T with
 | false =>
   have HFr : Hid (F = 27) := qh (by rw [HF.out]; rfl)
   go_wp2_with fail
   go_ret
   exact ⟨by rw [HFr.out]; rfl, HD.out.p⟩
 | true =>
 go_wp2_with (first
  | (with_reducible refine V11.at_load 25 (.tmp 2) ?_; refine wpList_load_h rfl (.tmp 2) rfl tb 0 rfl cs HRh.out HL7.out ?_)
  | (with_reducible refine V11.at_load 40 (.tmp 3) ?_; refine wpList_load_l rfl (.tmp 3) rfl (tb + 1) 0 rfl ds HRl.out HM7.out ?_))
 refine (HOt.out w4 HD.out.p).mono ?_
 rintro e w5 ⟨rfl, hP5⟩
 have HD := qh (HD.out.pure hP5)
 clear hP5 HOt HRh HRl
 have HRh : Hid (w5.rangeAt tb 0 cs) := qh HD.out.b1.range
 have HRl : Hid (w5.rangeAt (tb + 1) 0 ds) := qh HD.out.b2.range
 obtain ⟨G, hG⟩ : ∃ z, z = othersP l.main l.fe ((lensP h.ps).drop 1) := ⟨_, rfl⟩
 have HF : Hid (F = if finP h l G = true then 0 else 27) := qh (by rw [HF.out, hG]; simp)
 rw [← hG]
 clear hG
 cases G with
 | none =>
   have HFr : Hid (F = 27) := qh (by rw [HF.out]; rfl)
   simp only [Option.getD_none, Option.isSome_none]
   go_wp2_with fail
   go_ret
   exact ⟨by rw [HFr.out]; rfl, HD.out.p⟩
 | some en =>
 simp only [Option.getD_some, Option.isSome_some]
 go_wp2_with (first
  | (with_reducible refine V11.at_load 25 (.tmp 2) ?_; refine wpList_load_h rfl (.tmp 2) rfl tb 0 rfl cs HRh.out HL7.out ?_)
  | (with_reducible refine V11.at_load 40 (.tmp 3) ?_; refine wpList_load_l rfl (.tmp 3) rfl (tb + 1) 0 rfl ds HRl.out HM7.out ?_))
 refine (HBe.out w5 HD.out.p en).mono ?_
 rintro e w6 ⟨rfl, hP6⟩
 have HD := qh (HD.out.pure hP6)
 clear hP6 HBe HRh HRl
 obtain ⟨T, hT⟩ : ∃ z, z = behindP h l en := ⟨_, rfl⟩
 have HF : Hid (F = if (T && idsP h) = true then 0 else 27) := qh (by rw [HF.out, hT]; rfl)
 rw [← hT]
 clear hT
 cases T with
 | false =>
   have HFr : Hid (F = 27) := qh (by rw [HF.out]; rfl)
   go_wp2_with fail
   go_ret
   exact ⟨by rw [HFr.out]; rfl, HD.out.p⟩
 | true =>
 obtain ⟨pn, hpN⟩ : ∃ z, z = h.ps.length := ⟨_, rfl⟩
 have HN := qh hpN
 rw [← hpN] at hpn HC2
 obtain ⟨sn, hsN⟩ : ∃ z, z = h.sh.length := ⟨_, rfl⟩
 have HSn := qh hsN
 rw [← hsN] at HC6
 clear hpN hsN
 have HF : Hid (F = if idsP h = true then 0 else 27) := HF
 have c2 : w6.cell? ⟨tb, 2, none⟩ = some (.slice pa pn pc) := by rw [HD.out.b1.cell 2]; exact HC2.out
 go_wp2_with fail
 clear c2
 go_loopw [8, 37] (fun _ i W => ∃ (k : Nat), k ≤ pn ∧ i = .int .i64 k ∧ Hid ((h.ps.take k).all (fun p => p.sh.all (fun x => decide (x < (sn : Int)))) = true) ∧ Hid (Hd w W tb cs ds)) (fun _ i _ => pn - (intOf i).toNat)
 case atStart => exact ⟨0, Nat.zero_le _, rfl, qh rfl, HD⟩
 case round =>
  obtain ⟨k, hk, rfl, HA, HD⟩ := hrel
  by_cases hlt : k < pn
  ·have hki : (k : Int) < (pn : Int) := by omega
   have hkl : k < h.ps.length := by rw [← HN.out]; exact hlt
   obtain ⟨b, o, rfl, hpg⟩ := (HMm.out.pure HD.out.p).page k hkl
   have HSub := qh (((HMm.out.pure HD.out.p).pages).sub _ (List.getElem_mem hkl))
   have hnum := HMo.out.numbers _ (List.getElem_mem hkl)
   have HId := qh (ids_take (n := (sn : Int)) hkl)
   have hmem := List.getElem_mem hkl
   obtain ⟨p, hp⟩ : ∃ p, p = h.ps[k] := ⟨_, rfl⟩
   rw [← hp] at hpg hnum HSub HId hmem
   have HMem := qh hmem
   clear hp hmem
   obtain ⟨po, pl, sa, sc, sh⟩ := p
   simp only at hpg hnum HSub HId
   obtain ⟨n, hn⟩ : ∃ n, n = sh.length := ⟨_, rfl⟩
   obtain ⟨w7, hw7⟩ : ∃ z, z = (wr.alloc (.cells #[.int .i64 0, .int .i64 0, .slice none 0 0] 53)).setCells wr.heap.size 0 (#[.int .i64 po, .int .i64 pl, .slice sa n sc] : Array Value).toList := ⟨_, rfl⟩
   have hPs : Pure wr w7 := hw7 ▸ (Ext.setCells _ 0 _ (ext_alloc wr _) (b := wr.heap.size) (fun h => by omega))
   have hBs : BlockIs w7 wr.heap.size [.int .i64 po, .int .i64 pl, .slice sa n sc] 53 := hw7 ▸ (BlockIs.new wr [.int .i64 0, .int .i64 0, .slice none 0 0] 53).setAll [.int .i64 po, .int .i64 pl, .slice sa n sc] rfl
   have HTh : Hid ((wr.alloc (.cells #[.int .i64 0, .int .i64 0, .slice none 0 0] 53)).there wr.heap.size 0 (#[.int .i64 po, .int .i64 pl, .slice sa n sc] : Array Value).size) := qh (BlockIs.there (BlockIs.new wr [.int .i64 0, .int .i64 0, .slice none 0 0] 53) 3 rfl)
   have HSi : Hid ((Tryz.prog.info? 53).map (·.size) = some (#[.int .i64 po, .int .i64 pl, .slice sa n sc] : Array Value).size) := qh size51
   have HOn : Hid (((#[Value.int .i64 po, .int .i64 pl, .slice sa n sc] : Array Value).all fun u => u.oneCell') = true) := qh (all_oneCell_toArray (by intro u hu; simp only [List.mem_cons, List.not_mem_nil, or_false] at hu; rcases hu with rfl | rfl | rfl <;> rfl))
   have HW7 := qh hw7.symm
   have HD7 := qh (HD.out.pure hPs)
   have q2 : w7.cell? ⟨wr.heap.size, 2, none⟩ = some (.slice sa n sc) := hBs.cell 2
   rw [← HW7.out] at q2
   have hCo := contains_gen 36 #[.pointer (some ⟨tb, 0, none⟩)] (fun x => decide ((sn : Int) ≤ x)) sa sc sh w7 (HSub.out.ext hPs (fun _ _ => id)) (by omega)
    (qh (fun x W hP _ => chk1_any x tb la sn lc W (by rw [(HD7.out.pure hP).b1.cell 6]; exact HC6.out))) (enters1 Tryz.func36 (by decide +kernel) rfl)
   rw [← hn, any_all] at hCo
   have HCo := qh hCo
   have HRp : Hid (wr.rangeAt b (o + k * 3) [.int .i64 po, .int .i64 pl, .slice sa n sc]) := qh (by rw [hn]; exact hpg)
   have HBad : Hid (sh.all (fun x => decide (x < (sn : Int))) = false → F = 27) := qh (fun hb => by
    rw [HF.out, if_neg]
    intro hi
    unfold idsP at hi
    rw [List.all_eq_true] at hi
    have h1 := hi _ HMem.out
    rw [← HSn.out] at h1
    simp only [] at h1
    rw [hb] at h1
    cases h1)
   generalize sh.all (fun x => decide (x < (sn : Int))) = B at *
   rw [HA.out] at HId
   clear hw7 hPs hBs hCo hn hpg HSub HMem hnum
   go_wp2_with (first
    | (with_reducible refine V11.at_load 53 (.tmp 39) ?_; refine wpList_load_mid rfl 53 (.tmp 39) rfl b (o + k * 3) rfl [.int .i64 po, .int .i64 pl, .slice sa n sc] _ HRp.out Tryz.underlying53 rfl (szPg _ _ _) ?_)
    | (with_reducible refine V11.at_store 53 (.tmp 8) (.tmp 40) ?_; refine wpList_store_mid rfl 53 (.tmp 8) (.tmp 40) rfl wr.heap.size 0 #[.int .i64 po, .int .i64 pl, .slice sa n sc] rfl rfl HTh.out HSi.out HOn.out ?_))
   rw [HW7.out]
   refine HCo.out.mono ?_
   rintro e w8 ⟨rfl, hP8⟩
   have HD8 := qh (HD7.out.pure hP8)
   clear hP8 HCo q2 HTh HSi HOn HRp HW7
   cases B with
   | true =>
     go_wp2_with fail
     go_roundw
     case rel => exact ⟨k + 1, by omega, by go_num, qh (by rw [HId.out]; rfl), HD8⟩
     case measure => simp [intOf]; omega
   | false =>
     have HFr : Hid (F = 27) := qh (HBad.out (by first | rfl | trivial))
     go_wp2_with fail
     go_ret
     exact ⟨by rw [HFr.out]; rfl, HD8.out.p⟩
  ·have hki : ¬ (k : Int) < (pn : Int) := by omega
   have HFr : Hid (F = 0) := qh (by
    rw [HF.out, if_pos]
    have := HA.out
    rw [List.take_of_length_le (by rw [← HN.out]; omega)] at this
    unfold idsP
    rw [← HSn.out]
    exact this)
   go_wp2_with fail
   go_ret
   exact ⟨by rw [HFr.out]; rfl, HD.out.p⟩
