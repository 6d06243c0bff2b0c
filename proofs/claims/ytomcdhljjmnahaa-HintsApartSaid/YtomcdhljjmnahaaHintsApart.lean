/-
  HintsApart: of hints that may be the first page's bytes end where the file says, each other page's begin where those of the page ahead end, all end ahead of the main section; the shared objects' bytes follow one another, the first page's from its first byte up to its last one, the others behind all pages. No condition.
-/
import Derived.Test.YtomcdhljjmnahaaOpenH
import Derived.Test.YtomcdhljjmnahaaApart
namespace Go.Proofs.Ytomcdhljjmnahaa.hintsApart
open Go.ChangeShapes Go.WideShapes Go.ChangeAt Go.RowKit Go.Proofs.Ytomcdhljjmnahaa
set_option linter.unusedVariables false
set_option linter.unusedSimpArgs false

theorem gAt_sf {h : HT} {k : Nat} (hk : (k : Int) = h.sf) : gAt h k = h.sa := by
  unfold gAt
  rw [if_neg (by omega), show h.sf.toNat = k by omega, show ((h.sh.take k).drop k) = [] by rw [List.drop_eq_nil_iff, List.length_take]; omega, sumL]
  omega
theorem gAt_0 {h : HT} (hk : ((0 : Nat) : Int) ≠ h.sf) (h0 : 0 ≤ h.sf) : h.fa = gAt h 0 := by
  unfold gAt
  rw [if_pos (by omega), List.take_zero, sumL]
  omega
set_option maxHeartbeats 8000000 in
set_option maxRecDepth 100000 in
theorem walk (h : HT) (pa la : Option Addr) (pc lc : Nat) (l : LT) (w : World) (hR : HRaw w h pa pc la lc) :
    Calls Try.prog 5 #[.agg (hC h pa pc la lc).toArray, .agg (lC l).toArray] w fun e w' => e = .returned (.bool true) ∧ Below w.heap.size w w' := by
  have HFw := Lib.hid (fun W (hP : Pure w W) => fewh_any h pa la pc lc W (hR.pure hP).pages (by have := hR.pcap; unfold maxLen at this; omega) (by have := hR.lcap; unfold maxLen at this; omega))
  have HCk := Lib.hid (fun W (hP : Pure w W) (hf : fewH h = true) => check_any h l pa la pc lc W ((hR.pure hP).mem hf) (fewH_in hf).1.mod2)
  have HOw := Lib.hid (fun W (hP : Pure w W) (k : Int) (hf : fewH h = true) => own_any h l k pa la pc lc W ((hR.pure hP).mem hf) (Or.inr hR.pcap.1))
  have HGr := Lib.hid (fun W (hP : Pure w W) (k : Int) (hf : fewH h = true) => group_any h k pa la pc lc W ((hR.pure hP).mem hf))
  have HFi := Lib.hid (fun (hf : fewH h = true) => And.intro (fewH_in hf).1.pages (fewH_in hf).2)
  obtain ⟨cs, hcs⟩ : ∃ z, z = hC h pa pc la lc := ⟨_, rfl⟩
  obtain ⟨ds, hds⟩ : ∃ z, z = lC l := ⟨_, rfl⟩
  have HL7 : Hid (cs.length = 7) := Lib.hid (by rw [hcs]; rfl)
  have HM7 : Hid (ds.length = 7) := Lib.hid (by rw [hds]; rfl)
  have HCs := Lib.hid hcs
  have HDs := Lib.hid hds
  rw [← hcs, ← hds]
  have hD0 := Hd.new w cs ds
  obtain ⟨w2, hw2⟩ : ∃ z, z = ((w.alloc (.cells cs.toArray 25)).alloc (.cells ds.toArray 27)) := ⟨_, rfl⟩
  obtain ⟨tb, htb⟩ : ∃ z, z = w.heap.size := ⟨_, rfl⟩
  rw [← hw2, ← htb] at hD0
  have HW : Hid (((w.alloc (.cells cs.toArray 25)).alloc (.cells ds.toArray 27)) = w2) := Lib.hid hw2.symm
  have HTb := Lib.hid htb
  have HD := Lib.hid hD0
  clear hcs hds hw2 htb hD0
  rw [← HCs.out] at HFw HGr
  rw [← HCs.out, ← HDs.out] at HCk HOw
  have HRh0 : Hid (((w.alloc (.cells cs.toArray 25)).alloc (.cells ds.toArray 27)).rangeAt w.heap.size 0 cs) := Lib.hid (by rw [HW.out, ← HTb.out]; exact HD.out.b1.range)
  have HRl0 : Hid (((w.alloc (.cells cs.toArray 25)).alloc (.cells ds.toArray 27)).rangeAt (w.heap.size + 1) 0 ds) := Lib.hid (by rw [HW.out, ← HTb.out]; exact HD.out.b2.range)
  have HC1 : Hid (cs[1]? = some (.int .i64 h.fa)) := Lib.hid (by rw [HCs.out]; rfl)
  have HC2 : Hid (cs[2]? = some (.slice pa h.ps.length pc)) := Lib.hid (by rw [HCs.out]; rfl)
  have HC4 : Hid (cs[4]? = some (.int .i64 h.sa)) := Lib.hid (by rw [HCs.out]; rfl)
  have HC5 : Hid (cs[5]? = some (.int .i64 h.sf)) := Lib.hid (by rw [HCs.out]; rfl)
  have HC6 : Hid (cs[6]? = some (.slice la h.sh.length lc)) := Lib.hid (by rw [HCs.out]; rfl)
  have HD4 : Hid (ds[4]? = some (.int .i64 l.fe)) := Lib.hid (by rw [HDs.out]; rfl)
  have HD6 : Hid (ds[6]? = some (.int .i64 l.main)) := Lib.hid (by rw [HDs.out]; rfl)
  obtain ⟨fw, hfw⟩ : ∃ z, z = fewH h := ⟨_, rfl⟩
  rw [← hfw] at HFw HCk HOw HGr HFi
  clear hfw hR HCs HDs
  go_enter Try.func5, Try.ntmps5
  go_wp2_with (first
    | (with_reducible refine V11.at_load 25 (.tmp 2) ?_; refine wpList_load_h rfl (.tmp 2) rfl w.heap.size 0 rfl cs HRh0.out HL7.out ?_))
  rw [HW.out, ← HTb.out]
  refine (HFw.out w2 HD.out.p).mono ?_
  rintro e w3 ⟨rfl, hP⟩
  have HD := Lib.hid (HD.out.pure hP)
  clear hP HFw HRh0 HRl0
  cases fw with
  | false =>
    clear HCk HOw HGr HFi
    go_wp2_with fail
    refine (works_any _).mono ?_
    rintro e wz ⟨rfl, hPz⟩
    go_wp2_with fail
    go_ret
    exact ⟨rfl, (HD.out.p.pure hPz).below⟩
  | true =>
  replace HCk := Lib.hid (fun W hP => HCk.out W hP rfl)
  replace HOw := Lib.hid (fun W hP k => HOw.out W hP k rfl)
  replace HGr := Lib.hid (fun W hP k => HGr.out W hP k rfl)
  replace HFi := Lib.hid (HFi.out rfl)
  have HRh : Hid (w3.rangeAt tb 0 cs) := Lib.hid HD.out.b1.range
  have HRl : Hid (w3.rangeAt (tb + 1) 0 ds) := Lib.hid HD.out.b2.range
  go_wp2_with (first
    | (with_reducible refine V11.at_load 25 (.tmp 2) ?_; refine wpList_load_h rfl (.tmp 2) rfl tb 0 rfl cs HRh.out HL7.out ?_)
    | (with_reducible refine V11.at_load 27 (.tmp 3) ?_; refine wpList_load_l rfl (.tmp 3) rfl (tb + 1) 0 rfl ds HRl.out HM7.out ?_))
  refine (HCk.out w3 HD.out.p).mono ?_
  rintro e w4 ⟨rfl, hP⟩
  have HD := Lib.hid (HD.out.pure hP)
  clear hP HCk HRh HRl
  obtain ⟨ce, hce⟩ : ∃ z, z = chkE h l := ⟨_, rfl⟩
  rw [← hce]
  by_cases hc0 : ce = 0
  case neg =>
    have e1 : (ce != 0) = true := by simpa using hc0
    clear hc0 HOw HGr hce
    go_wp2_with fail
    refine (works_any _).mono ?_
    rintro e wz ⟨rfl, hPz⟩
    go_wp2_with fail
    go_ret
    exact ⟨rfl, (HD.out.p.pure hPz).below⟩
  subst hc0
  have HCe : Hid (chkE h l = 0) := Lib.hid hce.symm
  have HTk : Hid (0 ≤ h.sf ∧ 1 ≤ h.ps.length) := Lib.hid (by
    have h1 := hce.symm
    unfold chkE at h1
    have hp : chkP h l = true := by
      by_cases hp : chkP h l = true
      · exact hp
      · rw [if_neg hp] at h1; cases h1
    rw [chk_eq, Bool.and_eq_true, Bool.and_eq_true] at hp
    have h3 := tables_ok hp.1.1
    exact ⟨h3.1.1, h3.2⟩)
  have HA := Lib.hid (fun k hk => apart_own hce.symm k hk)
  have HB := Lib.hid (fun k hk => apart_group hce.symm k hk)
  clear hce
  obtain ⟨pn, hpn⟩ : ∃ z, z = h.ps.length := ⟨_, rfl⟩
  obtain ⟨sn, hsn⟩ : ∃ z, z = h.sh.length := ⟨_, rfl⟩
  have HPn := Lib.hid hpn
  have HSn := Lib.hid hsn
  rw [← hpn] at HC2
  rw [← hsn] at HC6
  have hpl : pn ≤ 40 := by rw [hpn]; exact HFi.out.1
  have hsl : sn ≤ 100 := by rw [hsn]; exact HFi.out.2
  obtain ⟨fe, hfe⟩ : ∃ z, z = l.fe := ⟨_, rfl⟩
  obtain ⟨mn, hmn⟩ : ∃ z, z = l.main := ⟨_, rfl⟩
  obtain ⟨fa, hfa⟩ : ∃ z, z = h.fa := ⟨_, rfl⟩
  obtain ⟨sa, hsa⟩ : ∃ z, z = h.sa := ⟨_, rfl⟩
  obtain ⟨f, hf⟩ : ∃ f : Nat, h.sf = (f : Int) := ⟨h.sf.toNat, by have := HTk.out.1; omega⟩
  have HFe := Lib.hid hfe
  have HMn := Lib.hid hmn
  have HFa := Lib.hid hfa
  have HSa := Lib.hid hsa
  have HSf := Lib.hid hf
  rw [← hfe] at HD4
  rw [← hmn] at HD6
  rw [← hfa] at HC1
  rw [← hsa] at HC4
  rw [hf] at HC5
  clear hpn hsn hfe hmn hfa hsa hf
  go_wp2_with fail
  go_loopw [5, 6, 7, 8] (fun en i _ _ W => ∃ (k : Nat) (e : Int), k ≤ pn ∧ i = .int .i64 k ∧ en = .int .i64 e ∧ Hid (0 < k → e = eP h l k) ∧ Hid (Hd w W tb cs ds)) (fun _ i _ _ _ => pn - (intOf i).toNat)
  case atStart => exact ⟨0, 0, Nat.zero_le _, rfl, rfl, Lib.hid (fun h => absurd h (Nat.lt_irrefl _)), HD⟩
  case round =>
    obtain ⟨k, en, hk, rfl, rfl, HEn, HD⟩ := hrel
    have c2 : wr.cell? ⟨tb, 2, none⟩ = some (.slice pa pn pc) := by rw [HD.out.b1.cell 2]; exact HC2.out
    by_cases hlt : k < pn
    · have hki : (k : Int) < (pn : Int) := by omega
      obtain ⟨⟨x1, x2⟩, hx, g1, g2, g3, g4⟩ := HA.out k (by rw [← HPn.out]; exact hlt)
      simp only at g1 g2 g3 g4
      have hOw := HOw.out wr HD.out.p k
      rw [hx] at hOw
      have HOk := Lib.hid hOw
      clear hOw hx
      have HRh : Hid (wr.rangeAt tb 0 cs) := Lib.hid HD.out.b1.range
      have HRl : Hid (wr.rangeAt (tb + 1) 0 ds) := Lib.hid HD.out.b2.range
      go_wp2_with (first
    | (with_reducible refine V11.at_load 25 (.tmp 2) ?_; refine wpList_load_h rfl (.tmp 2) rfl tb 0 rfl cs HRh.out HL7.out ?_)
    | (with_reducible refine V11.at_load 27 (.tmp 3) ?_; refine wpList_load_l rfl (.tmp 3) rfl (tb + 1) 0 rfl ds HRl.out HM7.out ?_))
      refine HOk.out.mono ?_
      rintro e w4 ⟨rfl, hP4⟩
      have HD := Lib.hid (HD.out.pure hP4)
      clear hP4 HOk HRh HRl c2
      rw [show spanV (some (x1, x2)) = .agg #[.int .i64 x1, .int .i64 x2] from rfl, show (some ((x1, x2) : Int × Int)).isSome = true from rfl]
      obtain ⟨w5, hw5⟩ : ∃ z, z = (w4.alloc (.cells #[.int .i64 0, .int .i64 0] 31)).setCells w4.heap.size 0 (#[.int .i64 x1, .int .i64 x2] : Array Value).toList := ⟨_, rfl⟩
      have hPs : Pure w4 w5 := hw5 ▸ (Ext.setCells _ 0 _ (ext_alloc w4 _) (b := w4.heap.size) (fun h => by omega))
      have hB7 : BlockIs w5 w4.heap.size [.int .i64 x1, .int .i64 x2] 31 := hw5 ▸ (BlockIs.new w4 [.int .i64 0, .int .i64 0] 31).setAll [.int .i64 x1, .int .i64 x2] rfl
      have HTh7 : Hid ((w4.alloc (.cells #[.int .i64 0, .int .i64 0] 31)).there w4.heap.size 0 (#[.int .i64 x1, .int .i64 x2] : Array Value).size) := Lib.hid (BlockIs.there (BlockIs.new w4 [.int .i64 0, .int .i64 0] 31) 2 rfl)
      have HSi7 : Hid ((Try.prog.info? 31).map (·.size) = some (#[.int .i64 x1, .int .i64 x2] : Array Value).size) := Lib.hid sizeSp
      have HOn7 : Hid (((#[.int .i64 x1, .int .i64 x2] : Array Value).all fun u => u.oneCell') = true) := Lib.hid (all_oneCell_toArray (by intro u hu; simp only [List.mem_cons, List.not_mem_nil, or_false] at hu; rcases hu with rfl | rfl <;> rfl))
      have HWw5 := Lib.hid hw5.symm
      clear hw5
      have HD := Lib.hid (HD.out.pure hPs)
      have q0 : w5.cell? ⟨w4.heap.size, 0, none⟩ = some (.int .i64 x1) := hB7.cell 0
      have q1 : w5.cell? ⟨w4.heap.size, 1, none⟩ = some (.int .i64 x2) := hB7.cell 1
      have q2 : w5.cell? ⟨tb + 1, 4, none⟩ = some (.int .i64 fe) := by rw [HD.out.b2.cell 4]; exact HD4.out
      have q3 : w5.cell? ⟨tb + 1, 6, none⟩ = some (.int .i64 mn) := by rw [HD.out.b2.cell 6]; exact HD6.out
      have i1 : decide (x2 ≤ x1) = false := decide_eq_false (by omega)
      have HNx : Hid (x2 = eP h l (k + 1)) := Lib.hid g4
      clear hPs hB7 g1 g4
      by_cases hk0 : k = 0
      · have i2 : (x2 != fe) = false := by have h1 := g2 hk0; rw [h1, HFe.out]; simp
        subst hk0
        clear g2 g3
        go_wp2_with (with_reducible refine V11.at_store 31 (.tmp 7) (.tmp 35) ?_; refine wpList_store_mid rfl 31 (.tmp 7) (.tmp 35) rfl w4.heap.size 0 #[.int .i64 x1, .int .i64 x2] rfl rfl HTh7.out HSi7.out HOn7.out ?_; rw [HWw5.out])
        go_roundw
        case rel => exact ⟨1, x2, by omega, rfl, rfl, Lib.hid (fun _ => HNx.out), HD⟩
        case measure => simp [intOf]; omega
      · obtain ⟨h1, h2⟩ := g3 (by omega)
        have i2 : (x1 != en) = false := by rw [h1, HEn.out (by omega)]; simp
        have i3 : decide (mn < x2) = false := decide_eq_false (by rw [HMn.out]; omega)
        have i4 : ((k : Int) == 0) = false := by simpa using (by omega : ¬ (k : Int) = 0)
        have i5 : decide ((0 : Int) < (k : Int)) = true := decide_eq_true (by omega)
        have i6 : ¬ k = 0 := hk0
        have i7 : 0 < k := by omega
        clear g2 g3 h1 h2 hk0
        go_wp2_with (with_reducible refine V11.at_store 31 (.tmp 7) (.tmp 35) ?_; refine wpList_store_mid rfl 31 (.tmp 7) (.tmp 35) rfl w4.heap.size 0 #[.int .i64 x1, .int .i64 x2] rfl rfl HTh7.out HSi7.out HOn7.out ?_; rw [HWw5.out])
        go_roundw
        case rel => exact ⟨k + 1, x2, by omega, by go_num, rfl, Lib.hid (fun _ => HNx.out), HD⟩
        case measure => simp [intOf]; omega
    · have hki : ¬ (k : Int) < (pn : Int) := by omega
      obtain rfl : k = pn := by omega
      have HEe : Hid (en = eP h l h.ps.length) := Lib.hid (by rw [HEn.out (by rw [HPn.out]; have := HTk.out.2; omega), HPn.out])
      have c1 : wr.cell? ⟨tb, 1, none⟩ = some (.int .i64 fa) := by rw [HD.out.b1.cell 1]; exact HC1.out
      clear HEn HA HOw
      go_wp2_with fail
      clear c2 c1
      go_loopw [9, 10, 11, 12] (fun a i _ _ W => ∃ (j : Nat) (av : Int), j ≤ sn ∧ i = .int .i64 j ∧ a = .int .i64 av ∧ Hid ((j : Int) ≠ h.sf → av = gAt h j) ∧ Hid (Hd w W tb cs ds)) (fun _ i _ _ _ => sn - (intOf i).toNat)
      case atStart => exact ⟨0, fa, Nat.zero_le _, rfl, rfl, Lib.hid (fun hh => by rw [HFa.out]; exact gAt_0 hh HTk.out.1), HD⟩
      case round =>
        obtain ⟨j, av, hj, rfl, rfl, HAv, HD⟩ := hrel
        have c6 : wr.cell? ⟨tb, 6, none⟩ = some (.slice la sn lc) := by rw [HD.out.b1.cell 6]; exact HC6.out
        by_cases hjt : j < sn
        · have hji : (j : Int) < (sn : Int) := by omega
          obtain ⟨⟨x1, x2⟩, hx, g1, g2, g3, g4, g5⟩ := HB.out j (by rw [← HSn.out]; exact hjt)
          simp only at g1 g2 g3 g4
          have hGr := HGr.out wr HD.out.p j
          rw [hx] at hGr
          have HGk := Lib.hid hGr
          clear hGr hx
          have c5 : wr.cell? ⟨tb, 5, none⟩ = some (.int .i64 (f : Int)) := by rw [HD.out.b1.cell 5]; exact HC5.out
          have c4 : wr.cell? ⟨tb, 4, none⟩ = some (.int .i64 sa) := by rw [HD.out.b1.cell 4]; exact HC4.out
          have HNx : Hid (((j + 1 : Nat) : Int) ≠ h.sf → x2 = gAt h (j + 1)) := Lib.hid (fun hh => g4 (by omega))
          have HRh : Hid (wr.rangeAt tb 0 cs) := Lib.hid HD.out.b1.range
          have HRl : Hid (wr.rangeAt (tb + 1) 0 ds) := Lib.hid HD.out.b2.range
          rw [HSf.out] at g2 g3 g5
          obtain ⟨w4, W4⟩ : ∃ (w4 : World), w4 = wr := ⟨_, rfl⟩
          by_cases hjf : j = f
          · have hje : (j : Int) = (f : Int) := by omega
            have i0 : ((j : Int) == (f : Int)) = true := by simpa using hje
            have i1 : decide (sa < en) = false := decide_eq_false (by have h1 := g5 hje; rw [HSa.out, HEe.out]; omega)
            have i2 : (x1 != sa) = false := by rw [g1, gAt_sf (by rw [HSf.out]; exact hje), HSa.out]; simp
            have i3 : decide (mn < x2) = false := decide_eq_false (by have h1 := g3 (by omega); rw [HMn.out]; omega)
            have i4 : ¬ (j : Int) < (f : Int) := by omega
            have i5 : ¬ j < f := by omega
            have i6 : f ≤ j := by omega
            clear g1 g2 g3 g4 g5 HAv hje W4
            subst hjf
            go_wp2_with (first
    | (with_reducible refine V11.at_load 25 (.tmp 2) ?_; refine wpList_load_h rfl (.tmp 2) rfl tb 0 rfl cs HRh.out HL7.out ?_))
            refine HGk.out.mono ?_
            rintro e w4 ⟨rfl, hP4⟩
            have HD := Lib.hid (HD.out.pure hP4)
            clear hP4 HGk HRh HRl c4 c5 c6
            rw [show spanV (some (x1, x2)) = .agg #[.int .i64 x1, .int .i64 x2] from rfl, show (some ((x1, x2) : Int × Int)).isSome = true from rfl]
            obtain ⟨w5, hw5⟩ : ∃ z, z = (w4.alloc (.cells #[.int .i64 0, .int .i64 0] 31)).setCells w4.heap.size 0 (#[.int .i64 x1, .int .i64 x2] : Array Value).toList := ⟨_, rfl⟩
            have hPs : Pure w4 w5 := hw5 ▸ (Ext.setCells _ 0 _ (ext_alloc w4 _) (b := w4.heap.size) (fun h => by omega))
            have hB11 : BlockIs w5 w4.heap.size [.int .i64 x1, .int .i64 x2] 31 := hw5 ▸ (BlockIs.new w4 [.int .i64 0, .int .i64 0] 31).setAll [.int .i64 x1, .int .i64 x2] rfl
            have HTh11 : Hid ((w4.alloc (.cells #[.int .i64 0, .int .i64 0] 31)).there w4.heap.size 0 (#[.int .i64 x1, .int .i64 x2] : Array Value).size) := Lib.hid (BlockIs.there (BlockIs.new w4 [.int .i64 0, .int .i64 0] 31) 2 rfl)
            have HSi11 : Hid ((Try.prog.info? 31).map (·.size) = some (#[.int .i64 x1, .int .i64 x2] : Array Value).size) := Lib.hid sizeSp
            have HOn11 : Hid (((#[.int .i64 x1, .int .i64 x2] : Array Value).all fun u => u.oneCell') = true) := Lib.hid (all_oneCell_toArray (by intro u hu; simp only [List.mem_cons, List.not_mem_nil, or_false] at hu; rcases hu with rfl | rfl <;> rfl))
            have HWw5 := Lib.hid hw5.symm
            clear hw5
            have HD := Lib.hid (HD.out.pure hPs)
            have q0 : w5.cell? ⟨w4.heap.size, 0, none⟩ = some (.int .i64 x1) := hB11.cell 0
            have q1 : w5.cell? ⟨w4.heap.size, 1, none⟩ = some (.int .i64 x2) := hB11.cell 1
            have q2 : w5.cell? ⟨tb + 1, 4, none⟩ = some (.int .i64 fe) := by rw [HD.out.b2.cell 4]; exact HD4.out
            have q3 : w5.cell? ⟨tb + 1, 6, none⟩ = some (.int .i64 mn) := by rw [HD.out.b2.cell 6]; exact HD6.out
            have q4 : w5.cell? ⟨tb, 5, none⟩ = some (.int .i64 (j : Int)) := by rw [HD.out.b1.cell 5]; exact HC5.out
            clear hPs hB11
            go_wp2_with (with_reducible refine V11.at_store 31 (.tmp 11) (.tmp 99) ?_; refine wpList_store_mid rfl 31 (.tmp 11) (.tmp 99) rfl w4.heap.size 0 #[.int .i64 x1, .int .i64 x2] rfl rfl HTh11.out HSi11.out HOn11.out ?_; rw [HWw5.out])
            go_roundw
            case rel => exact ⟨j + 1, x2, by omega, by go_num, rfl, HNx, HD⟩
            case measure => simp [intOf]; omega
          · have hjne : ¬ (j : Int) = (f : Int) := by omega
            have i0 : ((j : Int) == (f : Int)) = false := by simpa using hjne
            have i2 : (x1 != av) = false := by rw [g1, HAv.out (by rw [HSf.out]; exact hjne)]; simp
            by_cases hjl : j < f
            · have i4 : (j : Int) < (f : Int) := by omega
              have i5 : ¬ (f : Int) ≤ (j : Int) := by omega
              have i6 : ¬ f ≤ j := by omega
              have i3 : decide (fe < x2) = false := decide_eq_false (by have h1 := g2 i4; rw [HFe.out]; omega)
              clear g1 g2 g3 g4 g5 HAv W4 c4
              go_wp2_with (first
    | (with_reducible refine V11.at_load 25 (.tmp 2) ?_; refine wpList_load_h rfl (.tmp 2) rfl tb 0 rfl cs HRh.out HL7.out ?_))
              refine HGk.out.mono ?_
              rintro e w4 ⟨rfl, hP4⟩
              have HD := Lib.hid (HD.out.pure hP4)
              clear hP4 HGk HRh HRl c5 c6
              rw [show spanV (some (x1, x2)) = .agg #[.int .i64 x1, .int .i64 x2] from rfl, show (some ((x1, x2) : Int × Int)).isSome = true from rfl]
              obtain ⟨w5, hw5⟩ : ∃ z, z = (w4.alloc (.cells #[.int .i64 0, .int .i64 0] 31)).setCells w4.heap.size 0 (#[.int .i64 x1, .int .i64 x2] : Array Value).toList := ⟨_, rfl⟩
              have hPs : Pure w4 w5 := hw5 ▸ (Ext.setCells _ 0 _ (ext_alloc w4 _) (b := w4.heap.size) (fun h => by omega))
              have hB11 : BlockIs w5 w4.heap.size [.int .i64 x1, .int .i64 x2] 31 := hw5 ▸ (BlockIs.new w4 [.int .i64 0, .int .i64 0] 31).setAll [.int .i64 x1, .int .i64 x2] rfl
              have HTh11 : Hid ((w4.alloc (.cells #[.int .i64 0, .int .i64 0] 31)).there w4.heap.size 0 (#[.int .i64 x1, .int .i64 x2] : Array Value).size) := Lib.hid (BlockIs.there (BlockIs.new w4 [.int .i64 0, .int .i64 0] 31) 2 rfl)
              have HSi11 : Hid ((Try.prog.info? 31).map (·.size) = some (#[.int .i64 x1, .int .i64 x2] : Array Value).size) := Lib.hid sizeSp
              have HOn11 : Hid (((#[.int .i64 x1, .int .i64 x2] : Array Value).all fun u => u.oneCell') = true) := Lib.hid (all_oneCell_toArray (by intro u hu; simp only [List.mem_cons, List.not_mem_nil, or_false] at hu; rcases hu with rfl | rfl <;> rfl))
              have HWw5 := Lib.hid hw5.symm
              clear hw5
              have HD := Lib.hid (HD.out.pure hPs)
              have q0 : w5.cell? ⟨w4.heap.size, 0, none⟩ = some (.int .i64 x1) := hB11.cell 0
              have q1 : w5.cell? ⟨w4.heap.size, 1, none⟩ = some (.int .i64 x2) := hB11.cell 1
              have q2 : w5.cell? ⟨tb + 1, 4, none⟩ = some (.int .i64 fe) := by rw [HD.out.b2.cell 4]; exact HD4.out
              have q3 : w5.cell? ⟨tb + 1, 6, none⟩ = some (.int .i64 mn) := by rw [HD.out.b2.cell 6]; exact HD6.out
              have q4 : w5.cell? ⟨tb, 5, none⟩ = some (.int .i64 (f : Int)) := by rw [HD.out.b1.cell 5]; exact HC5.out
              clear hPs hB11
              go_wp2_with (with_reducible refine V11.at_store 31 (.tmp 11) (.tmp 99) ?_; refine wpList_store_mid rfl 31 (.tmp 11) (.tmp 99) rfl w4.heap.size 0 #[.int .i64 x1, .int .i64 x2] rfl rfl HTh11.out HSi11.out HOn11.out ?_; rw [HWw5.out])
              go_roundw
              case rel => exact ⟨j + 1, x2, by omega, by go_num, rfl, HNx, HD⟩
              case measure => simp [intOf]; omega
            · have i4 : ¬ (j : Int) < (f : Int) := by omega
              have i5 : (f : Int) ≤ (j : Int) := by omega
              have i6 : f ≤ j := by omega
              have i3 : decide (mn < x2) = false := decide_eq_false (by have h1 := g3 i5; rw [HMn.out]; omega)
              clear g1 g2 g3 g4 g5 HAv W4 c4
              go_wp2_with (first
    | (with_reducible refine V11.at_load 25 (.tmp 2) ?_; refine wpList_load_h rfl (.tmp 2) rfl tb 0 rfl cs HRh.out HL7.out ?_))
              refine HGk.out.mono ?_
              rintro e w4 ⟨rfl, hP4⟩
              have HD := Lib.hid (HD.out.pure hP4)
              clear hP4 HGk HRh HRl c5 c6
              rw [show spanV (some (x1, x2)) = .agg #[.int .i64 x1, .int .i64 x2] from rfl, show (some ((x1, x2) : Int × Int)).isSome = true from rfl]
              obtain ⟨w5, hw5⟩ : ∃ z, z = (w4.alloc (.cells #[.int .i64 0, .int .i64 0] 31)).setCells w4.heap.size 0 (#[.int .i64 x1, .int .i64 x2] : Array Value).toList := ⟨_, rfl⟩
              have hPs : Pure w4 w5 := hw5 ▸ (Ext.setCells _ 0 _ (ext_alloc w4 _) (b := w4.heap.size) (fun h => by omega))
              have hB11 : BlockIs w5 w4.heap.size [.int .i64 x1, .int .i64 x2] 31 := hw5 ▸ (BlockIs.new w4 [.int .i64 0, .int .i64 0] 31).setAll [.int .i64 x1, .int .i64 x2] rfl
              have HTh11 : Hid ((w4.alloc (.cells #[.int .i64 0, .int .i64 0] 31)).there w4.heap.size 0 (#[.int .i64 x1, .int .i64 x2] : Array Value).size) := Lib.hid (BlockIs.there (BlockIs.new w4 [.int .i64 0, .int .i64 0] 31) 2 rfl)
              have HSi11 : Hid ((Try.prog.info? 31).map (·.size) = some (#[.int .i64 x1, .int .i64 x2] : Array Value).size) := Lib.hid sizeSp
              have HOn11 : Hid (((#[.int .i64 x1, .int .i64 x2] : Array Value).all fun u => u.oneCell') = true) := Lib.hid (all_oneCell_toArray (by intro u hu; simp only [List.mem_cons, List.not_mem_nil, or_false] at hu; rcases hu with rfl | rfl <;> rfl))
              have HWw5 := Lib.hid hw5.symm
              clear hw5
              have HD := Lib.hid (HD.out.pure hPs)
              have q0 : w5.cell? ⟨w4.heap.size, 0, none⟩ = some (.int .i64 x1) := hB11.cell 0
              have q1 : w5.cell? ⟨w4.heap.size, 1, none⟩ = some (.int .i64 x2) := hB11.cell 1
              have q2 : w5.cell? ⟨tb + 1, 4, none⟩ = some (.int .i64 fe) := by rw [HD.out.b2.cell 4]; exact HD4.out
              have q3 : w5.cell? ⟨tb + 1, 6, none⟩ = some (.int .i64 mn) := by rw [HD.out.b2.cell 6]; exact HD6.out
              have q4 : w5.cell? ⟨tb, 5, none⟩ = some (.int .i64 (f : Int)) := by rw [HD.out.b1.cell 5]; exact HC5.out
              clear hPs hB11
              go_wp2_with (with_reducible refine V11.at_store 31 (.tmp 11) (.tmp 99) ?_; refine wpList_store_mid rfl 31 (.tmp 11) (.tmp 99) rfl w4.heap.size 0 #[.int .i64 x1, .int .i64 x2] rfl rfl HTh11.out HSi11.out HOn11.out ?_; rw [HWw5.out])
              go_roundw
              case rel => exact ⟨j + 1, x2, by omega, by go_num, rfl, HNx, HD⟩
              case measure => simp [intOf]; omega
        · have hji : ¬ (j : Int) < (sn : Int) := by omega
          clear HGr HB HAv
          go_wp2_with fail
          refine (works_any _).mono ?_
          rintro e wz ⟨rfl, hPz⟩
          go_wp2_with fail
          go_ret
          exact ⟨rfl, (HD.out.p.pure hPz).below⟩

set_option maxRecDepth 100000 in
theorem lifted (os : Os) (started : os.Started) (H : Type) (enc : TypeId × Value → H) :
    ReturnsInHanded {} Try.checked os 5 .any (Rows.hintsApartSpec.pre6 enc Try.prog Try.f5 Rows.hintsApartRow.domain false) (Rows.hintsApartSpec.post enc Try.prog Try.f5 false true false false) := by
  refine returnsInHanded_of_change (C := Try.checked) own started (by kernel_rfl) Try.func5
    (ChangeSpec.witness6 (enc := enc) (C := Try.checked) false ⟨#[], #[.agg #[.int .i64 0, .int .i64 0, .slice none 0 0, .int .i64 0, .int .i64 0, .int .i64 0, .slice none 0 0], .agg #[.int .i64 0, .int .i64 0, .int .i64 0, .int .i64 0, .int .i64 0, .int .i64 0, .int .i64 0]], []⟩ 8 (by kernel_rfl) (by kernel_rfl) (by kernel_rfl) (by kernel_rfl)) ?_
  intro W base args ds gs before hval0 hW hcnd _
  have hval : ∀ (j : Nat) t v, Try.f5.params[j]? = some t → args[j]? = some v → Value.okWide Try.prog W .any base t v := hval0
  have hW' := hW
  obtain ⟨p, q, hA0, hV, rfl, hfz, hnd⟩ := hW
  have hA : DataW.TrodAll enc Try.prog W 0 (fun _ => true) true Try.f5.params.toList args.toList ds p := hA0
  rw [Try.params5] at hA hval
  obtain ⟨v0, vs0, d0, ds0, p0, q0, hargs, rfl, rfl, h0, r0⟩ := trodAll_cons hA
  obtain ⟨v1, vs1, d1, ds1, p1, q1, rfl, rfl, rfl, h1, r1⟩ := trodAll_cons r0
  obtain ⟨rfl, rfl, rfl⟩ := trodAll_nil r1
  obtain rfl : args = #[v0, v1] := by cases args; simp_all
  obtain ⟨rfl, rfl⟩ := trodVars_none hV
  have k0 := h0
  have lt0 : ∀ x ∈ p0, x.block < W.heap.size := by obtain ⟨m, hm⟩ := k0; exact DataW.trod_lt m _ _ _ hm
  have k1 := h1
  have lt1 : ∀ x ∈ p1, x.block < W.heap.size := by obtain ⟨m, hm⟩ := k1; exact DataW.trod_lt m _ _ _ hm
  obtain ⟨h0', pa, la, pc, lc, rfl, hR⟩ := open_h (hval 0 25 v0 rfl rfl) h0
  obtain ⟨l0, rfl⟩ := open_l (hval 1 27 v1 rfl rfl) h1
  clear hA0 hval0
  refine (walk h0' pa la pc lc l0 W hR).mono fun e W' ⟨he, bel⟩ => ?_
  subst he
  exact ⟨_, rfl, _, _, _, [], _, [], hW', trodAll_mk1 (shut_bool Try.underlying4 _), (trodAll_cons_mk (Below.trod laidOut (by kernel_rfl) (of_decide_eq_true (by kernel_rfl)) k0 bel lt0) (trodAll_cons_mk (Below.trod laidOut (by kernel_rfl) (of_decide_eq_true (by kernel_rfl)) k1 bel lt1) trodAll_mk0)), rfl, bel.frame _, fun h => by cases h⟩

theorem proved : Rows.HintsApartSaid :=
  OpenClaim.holds_of_wide 5 Try.f5 rfl rfl rfl rfl rfl rfl rfl ⟨rfl, rfl, rfl, rfl, rfl⟩ rfl rfl rfl rfl rfl (by kernel_rfl) Try.func5 (by kernel_rfl)
    (of_decide_eq_true (by kernel_rfl)) (by unfold Func.isWrapper; first | (rw [if_pos (by decide +kernel)]; kernel_rfl) | (rw [if_neg (by decide +kernel)]; exact ⟨rfl, rfl⟩))
    (fun os started H enc _ => lifted os started H enc)
#print axioms proved
end Go.Proofs.Ytomcdhljjmnahaa.hintsApart
