/-
  Walked: the reference's Table.
-/
import Derived.Test.YtdhejhgpjeenaaaPageAt
import Derived.Test.YtdhejhgpjeenaaaRefFill
import Derived.Test.YtdhejhgpjeenaaaWid
import Derived.Deep.DeepCutAuto
namespace Go.Proofs.Ytdhejhgpjeenaaa
open Go.RowKit C26
set_option linter.unusedVariables false

theorem drewN_two' (w : World) (q n : Nat) : (w.drewN q).drewN n = w.drewN (q + n) := by unfold World.drewN; simp [Nat.add_assoc]
set_option maxHeartbeats 16000000 in
set_option maxRecDepth 100000 in
theorem table_any (a : Nat) (ad : Option Addr) (c : Nat) (ps : List PH) (rf rp rq fill : Nat) (w : World) (hW : Hints w ad ps) (hm : Mod ps) (hk : ChkOk a ps) (hf : rf ≤ 255) (hp : rp ≤ 255) (hq : rq ≤ 255) (hfill : fill < 4294967296) :
    Calls Try.prog 17 #[.int .i64 a, .slice ad ps.length c, .agg #[.int .u8 rf, .int .u8 rp, .int .u8 rq, .int .u32 fill]] w fun e w' => ∃ ra rc, e = .returned (.slice ra (pack true (tabB a (toN ps) ⟨rf % 33, rp % 33, rq % 33, fill⟩)).length rc) ∧ w'.ownsRow w.heap.size 5 1 (.slice ra (pack true (tabB a (toN ps) ⟨rf % 33, rp % 33, rq % 33, fill⟩)).length rc) (pack true (tabB a (toN ps) ⟨rf % 33, rp % 33, rq % 33, fill⟩)).length ((pack true (tabB a (toN ps) ⟨rf % 33, rp % 33, rq % 33, fill⟩)).map byV) ∧ Pure w w' := by
  obtain ⟨h, hh⟩ : ∃ h, h = toN ps := ⟨_, rfl⟩
  obtain ⟨n, hn⟩ : ∃ n, n = ps.length := ⟨_, rfl⟩
  obtain ⟨f, hf'⟩ : ∃ f, f = rf % 33 := ⟨_, rfl⟩
  obtain ⟨p, hp'⟩ : ∃ p, p = rp % 33 := ⟨_, rfl⟩
  obtain ⟨q, hq'⟩ : ∃ q, q = rq % 33 := ⟨_, rfl⟩
  rw [← hh, ← hn, ← hf', ← hp', ← hq']
  have hok : h.Ok := hh ▸ hk.ok
  have hnl : h.os.length = n := by rw [hh, hn, toN_os_len]
  have hn1 : 1 ≤ n := by have := hok.pos; omega
  have hn40 : n ≤ 40 := by have := hok.le; omega
  have hal : a ≤ 2147483647 := by have := hk.a; omega
  have hfl : f ≤ 32 := by omega
  have hpl : p ≤ 32 := by omega
  have hql : q ≤ 32 := by omega
  have hfm : ((rf : Nat) : Int) % 33 = (f : Int) := by omega
  have hpm : ((rp : Nat) : Int) % 33 = (p : Int) := by omega
  have hqm : ((rq : Nat) : Int) % 33 = (q : Int) := by omega
  have HPg := Lib.hid (fun W (hP : Pure w W) k (hk' : k < n) => page_at (hW.pure hP) hk.nat hm hh hn k hk')
  have HOK := Lib.hid hok
  have HNL := Lib.hid hnl
  have HFM := Lib.hid hfm
  have HPM := Lib.hid hpm
  have HQM := Lib.hid hqm
  obtain ⟨w1, hw1⟩ : ∃ w1, w1 = w.alloc (.cells #[.int .u8 rf, .int .u8 rp, .int .u8 rq, .int .u32 fill] 43) := ⟨_, rfl⟩
  have hB1 : BlockIs w1 w.heap.size [.int .u8 rf, .int .u8 rp, .int .u8 rq, .int .u32 fill] 43 := hw1 ▸ BlockIs.new w _ _
  have hP1 : Pure w w1 := hw1 ▸ ext_alloc w _
  clear hW hm hk hok hnl hfm hpm hqm hh hn hf' hp' hq'
  obtain ⟨b0, o0, on0, ln0, sa0, sc0, xs0, had, p0, p1, p2, hsub0, e0, e1, e2, bo0, bl0, bs0, bx0, bx1, bx2⟩ := HPg.out w1 hP1 0 (by omega)
  have hh0 : on0 = h.os.headD 0 := by
    have := HOK.out.pos
    cases hos : h.os with
    | nil => rw [hos] at e0; cases e0
    | cons x xs => rw [hos] at e0; simp at e0; simp [e0]
  have hh1 : ln0 = h.ls.headD 0 := by
    cases hos : h.ls with
    | nil => rw [hos] at e1; cases e1
    | cons x xs => rw [hos] at e1; simp at e1; simp [e1]
  subst had
  have HH0 : Hid (Acc h 0 on0 on0 ln0 ln0 0 0 0) := Lib.hid ⟨by rw [hh0]; rfl, by rw [hh0]; rfl, by rw [hh1]; rfl, by rw [hh1]; rfl, rfl, rfl, rfl⟩
  have hB0 : 0 < n := by omega
  have hB0i : (0 : Int) < (n : Int) := by omega
  simp only [Nat.zero_mul, Nat.add_zero] at p0 p1
  clear e0 e1 e2 hsub0 hh0 hh1 p2 bs0
  go_enter Try.func17, Try.ntmps17
  go_wp2_with fail
  rw [← hw1]
  clear hw1
  go_quiet (fail)
  have hB2 := hB1.drewN nq
  have hP2 : Pure w (w1.drewN nq) := hP1.drewN nq
  clear p0 p1 hB1 hP1
  go_wp2_with fail
  obtain ⟨wA, hwA⟩ : ∃ W : World, W = w1.drewN nq := ⟨_, rfl⟩
  rw [← hwA] at hB2 hP2
  rw [← hwA]
  clear hwA
  go_loopw [7, 8, 9, 10, 11, 12, 13, 14, 15] (fun s7 s8 s9 s10 s11 s12 s13 i _ W => ∃ (k lo hi sh lg ct sd mn : Nat), k ≤ n ∧ i = .int .i64 k ∧ s7 = .int .i64 lo ∧ s8 = .int .i64 hi ∧ s9 = .int .i64 sh ∧ s10 = .int .i64 lg ∧ s11 = .int .i64 ct ∧ s12 = .int .i64 sd ∧ s13 = .int .i64 mn ∧ Hid (Acc h k lo hi sh lg ct sd mn) ∧ (lo ≤ 4096 ∧ hi ≤ 4096 ∧ sh ≤ 2147483647 ∧ lg ≤ 2147483647) ∧ (ct ≤ 3000 ∧ sd ≤ 4095 ∧ mn ≤ 3000 * k) ∧ Pure wA W) (fun _ _ _ _ _ _ _ i _ _ => n - (intOf i).toNat)
  case atStart => exact ⟨0, on0, on0, ln0, ln0, 0, 0, 0, Nat.zero_le _, rfl, rfl, rfl, rfl, rfl, rfl, rfl, rfl, HH0, ⟨by omega, by omega, by omega, by omega⟩, ⟨by omega, by omega, by omega⟩, Ext.refl _ _⟩
  case round =>
    obtain ⟨k, lo, hi, sh, lg, ct, sd, mn, hk, rfl, rfl, rfl, rfl, rfl, rfl, rfl, rfl, HA, ⟨u1, u2, u3, u4⟩, ⟨u5, u6, u7⟩, hPr⟩ := hrel
    by_cases hlt : k < n
    · have hki : (k : Int) < (n : Int) := by omega
      obtain ⟨b, o, on, ln, sa, sc, xs, had, p0, p1, p2, hsub, e0, e1, e2, bo, bl, bs, bx0, bx1, bx2⟩ := HPg.out wr (hP2.pure hPr) k hlt
      cases had
      have HSub := Lib.hid hsub
      have HE := Lib.hid (And.intro e0 (And.intro e1 e2))
      obtain ⟨xn, hxn⟩ : ∃ m, m = xs.length := ⟨_, rfl⟩
      have HXN := Lib.hid hxn
      rw [← hxn] at p2 bx0 bx1
      clear e0 e1 e2 hsub hxn bo0 bl0
      go_wp2_with fail
      go_quiet (fail)
      go_wp2_with fail
      go_quiet (fail)
      go_wp2_with fail
      go_loop [12, 15] (fun m i => ∃ (j t : Nat), j ≤ xn ∧ i = .int .i64 j ∧ m = .int .i64 t ∧ Hid (t = mx ((h.shs.take k).flatten ++ xs.take j)) ∧ t ≤ 4095) (fun _ i => xn - (intOf i).toNat)
      case atStart => exact ⟨0, sd, Nat.zero_le _, rfl, rfl, Lib.hid (by rw [List.take_zero, List.append_nil]; exact HA.out.sd), u6⟩
      case round =>
        obtain ⟨j, t, hj, rfl, rfl, HT, ht⟩ := hrel
        by_cases hjt : j < xn
        · have hji : (j : Int) < (xn : Int) := by omega
          have hjx : j < xs.length := by rw [← HXN.out]; exact hjt
          obtain ⟨x, hx⟩ : ∃ x, x = xs[j] := ⟨_, rfl⟩
          obtain ⟨sb, so, rfl, hsc⟩ := HSub.out j (intV x) (by rw [List.getElem?_map, List.getElem?_eq_getElem hjx, hx]; rfl)
          have hsc2 : wr.cell? ⟨sb, so + j, none⟩ = some (.int .i64 x) := hsc
          have hx4 : x ≤ 4095 := hx ▸ bs.out _ (List.getElem_mem hjx)
          have HT2 : Hid (max t x = mx ((h.shs.take k).flatten ++ xs.take (j + 1))) := Lib.hid (by rw [mx_snoc_at (List.getElem?_eq_getElem hjx), ← HT.out, hx])
          clear hx hsc hjx
          go_wp2_with fail
          go_round
          case rel => exact ⟨j + 1, max t x, by omega, by go_num, by congr 1; omega, HT2, by omega⟩
          case measure => simp [intOf]; omega
        · have hji : ¬ (j : Int) < (xn : Int) := by omega
          have HT2 : Hid (t = mx ((h.shs.take k).flatten ++ xs)) := Lib.hid (by have := HT.out; rwa [List.take_of_length_le (l := xs) (by rw [← HXN.out]; omega)] at this)
          have HA2 := Lib.hid (HA.out.succ HE.out.1 HE.out.2.1 HE.out.2.2 HT2.out)
          rw [← HXN.out] at HA2
          go_wp2_with fail
          go_roundw
          case rel => exact ⟨k + 1, min lo on, max hi on, min sh ln, max lg ln, max ct xn, t, mn + xn, by omega, by go_num, by congr 1; omega, by congr 1; omega, by congr 1; omega, by congr 1; omega, by congr 1; omega, rfl, by go_num, HA2, ⟨by omega, by omega, by omega, by omega⟩, ⟨by omega, ht, by omega⟩, hPr.drewN _⟩
          case measure => simp [intOf]; omega
    · have hki : ¬ (k : Int) < (n : Int) := by omega
      obtain rfl : n = k := by omega
      obtain ⟨h1, h2, h3, h4, h5, h6, h7⟩ := HA.out.done HOK.out HNL.out.symm
      have hlh : lo ≤ hi := by rw [h1, h2]; exact least_le_most (fun e => by have := HNL.out; rw [e] at this; simp at this; omega)
      have hsl : sh ≤ lg := by rw [h3, h4]; exact least_le_most (fun e => by have := HNL.out; have h8 := HOK.out.ll; rw [e] at h8; simp at h8; omega)
      obtain ⟨da, hda⟩ : ∃ d, d = hi - lo := ⟨_, rfl⟩
      obtain ⟨db, hdb⟩ : ∃ d, d = lg - sh := ⟨_, rfl⟩
      have hdai : (hi : Int) - (lo : Int) = (da : Int) := by omega
      have hdbi : (lg : Int) - (sh : Int) = (db : Int) := by omega
      obtain ⟨wa, hwa⟩ : ∃ l, l = h.wa := ⟨_, rfl⟩
      obtain ⟨wb, hwb⟩ : ∃ l, l = h.wb := ⟨_, rfl⟩
      obtain ⟨wc, hwc⟩ : ∃ l, l = h.wc := ⟨_, rfl⟩
      obtain ⟨wd, hwd⟩ : ∃ l, l = h.wd := ⟨_, rfl⟩
      have hva : wid da = wa := by rw [hwa, hda, h1, h2]; rfl
      have hvb : wid db = wb := by rw [hwb, hdb, h3, h4]; rfl
      have hvc : wid ct = wc := by rw [hwc, h5]; rfl
      have hvd : wid sd = wd := by rw [hwd, h6]; rfl
      have hla : wa ≤ 32 := by rw [← hva]; exact wid_le.2 (by omega)
      have hlb : wb ≤ 32 := by rw [← hvb]; exact wid_le.2 (by omega)
      have hlc : wc ≤ 32 := by rw [← hvc]; exact wid_le.2 (by omega)
      have hld : wd ≤ 32 := by rw [← hvd]; exact wid_le.2 (by omega)
      have HWA := Lib.hid (fun W => hva ▸ refwidth_any da W (by omega))
      have HWB := Lib.hid (fun W => hvb ▸ refwidth_any db W (by omega))
      have HWC := Lib.hid (fun W => hvc ▸ refwidth_any ct W (by omega))
      have HWD := Lib.hid (fun W => hvd ▸ refwidth_any sd W (by omega))
      have HLO := Lib.hid h1
      have HSH := Lib.hid h3
      have HMN := Lib.hid h7
      have HWa := Lib.hid hwa
      have HWb := Lib.hid hwb
      have HWc := Lib.hid hwc
      have HWd := Lib.hid hwd
      have ua : IntKind.u32.wrap (da : Int) = (da : Int) := IntWalk.u32_in _ (by omega)
      have ub : IntKind.u32.wrap (db : Int) = (db : Int) := IntWalk.u32_in _ (by omega)
      have uc : IntKind.u32.wrap (ct : Int) = (ct : Int) := IntWalk.u32_in _ (by omega)
      have ud : IntKind.u32.wrap (sd : Int) = (sd : Int) := IntWalk.u32_in _ (by omega)
      have hQ := hP2.pure hPr
      have hBr := hB2.ext hPr id
      clear h1 h2 h3 h4 h5 h6 h7 hva hvb hvc hvd hwa hwb hwc hwd hda hdb HA HH0 hP2 hB2 hPr bo0 bl0
      go_wp2_with fail
      refine (HWA.out _).mono ?_
      rintro e w2 ⟨rfl, hw2⟩
      obtain rfl := hw2.symm
      go_wp2_with fail
      refine (HWB.out _).mono ?_
      rintro e w2 ⟨rfl, hw2⟩
      obtain rfl := hw2.symm
      go_wp2_with fail
      refine (HWC.out _).mono ?_
      rintro e w2 ⟨rfl, hw2⟩
      obtain rfl := hw2.symm
      go_wp2_with fail
      refine (HWD.out _).mono ?_
      rintro e w2 ⟨rfl, hw2⟩
      obtain rfl := hw2.symm
      clear HWA HWB HWC HWD hdai hdbi ua ub uc ud
      go_wp2_with fail
      have r0 : wr.cell? ⟨w.heap.size, 0, none⟩ = some (.int .u8 rf) := hBr.cell 0
      have r1 : wr.cell? ⟨w.heap.size, 0 + 1, none⟩ = some (.int .u8 rp) := hBr.cell 1
      have r2 : wr.cell? ⟨w.heap.size, 0 + 2, none⟩ = some (.int .u8 rq) := hBr.cell 2
      have r3 : wr.cell? ⟨w.heap.size, 0 + 3, none⟩ = some (.int .u32 fill) := hBr.cell 3
      have v0 : IntKind.i64.wrap (rf : Int) = (rf : Int) := IntWalk.i64_in _ (by omega)
      have v1 : IntKind.i64.wrap (rp : Int) = (rp : Int) := IntWalk.i64_in _ (by omega)
      have v2 : IntKind.i64.wrap (rq : Int) = (rq : Int) := IntWalk.i64_in _ (by omega)
      have m0 : (rf : Int).tmod 33 = (f : Int) := by rw [Int.tmod_eq_emod_of_nonneg (by omega)]; exact HFM.out
      have m1 : (rp : Int).tmod 33 = (p : Int) := by rw [Int.tmod_eq_emod_of_nonneg (by omega)]; exact HPM.out
      have m2 : (rq : Int).tmod 33 = (q : Int) := by rw [Int.tmod_eq_emod_of_nonneg (by omega)]; exact HQM.out
      have n0 := HFM.out
      have n1 := HPM.out
      have n2 := HQM.out
      go_quiet (fail)
      obtain ⟨wC, hwC⟩ : ∃ W : World, W = wr.drewN nq := ⟨_, rfl⟩
      have hQC : Pure w wC := hwC ▸ hQ.drewN nq
      have hBC : BlockIs wC w.heap.size [.int .u8 rf, .int .u8 rp, .int .u8 rq, .int .u32 fill] 43 := hwC ▸ hBr.drewN nq
      rw [← hwC]
      clear hwC r0 r1 r2 r3 v0 v1 v2 m0 m1 m2 n0 n1 n2 hQ hBr
      have r0 : wC.cell? ⟨w.heap.size, 0, none⟩ = some (.int .u8 rf) := hBC.cell 0
      have r3 : wC.cell? ⟨w.heap.size, 0 + 3, none⟩ = some (.int .u32 fill) := hBC.cell 3
      obtain ⟨xx, hxx⟩ : ∃ x, x = RestN.x ⟨f, p, q, fill⟩ := ⟨_, rfl⟩
      have hxx2 : xx = if f + p + q = 0 then 0 else fill := hxx
      have HXX := Lib.hid hxx
      clear hxx
      go_upto_if 152 with (fail)
      go_cut [23] (fun x W => x = .int .i64 xx ∧ W = wC)
      case first =>
        by_cases hz : f + p + q = 0
        · have hzi : ((f : Int) + (p : Int) + (q : Int) == 0) = true := by simp; omega
          have hx0 : xx = 0 := by rw [hxx2, if_pos hz]
          clear hz
          go_wp2_with fail
          go_meet
          exact ⟨by rw [hx0]; rfl, rfl⟩
        · have hzi : ((f : Int) + (p : Int) + (q : Int) == 0) = false := by simp; omega
          have hx0 : xx = fill := by rw [hxx2, if_neg hz]
          clear hz
          go_wp2_with fail
          go_meet
          exact ⟨by rw [hx0], rfl⟩
      case rest =>
        obtain ⟨rfl, hwx⟩ := hcut
        obtain rfl := hwx.symm
        have hxl : xx < 4294967296 := by rw [hxx2]; split <;> omega
        clear hxx2
        have hT0 := TS.start hBC hQC
        have L0 := Lib.hid (show ([] : List Bool).length = 0 from rfl)
        have hm0 : ([] : List Bool).length ≤ 0 := Nat.le_refl _
        have HPut := Lib.hid (tsput hT0 lo 32 (by omega) (by omega) (by omega) (by omega))
        have L1 := Lib.hid (show (([] : List Bool) ++ bitsNum true lo 32).length = 32 by rw [List.length_append, L0.out, bitsNum_length])
        have hm1 : (([] : List Bool) ++ bitsNum true lo 32).length ≤ 32 := Nat.le_of_eq L1.out
        obtain ⟨q1, HQ1'⟩ : ∃ z, z = ([] : List Bool) ++ bitsNum true lo 32 := ⟨_, rfl⟩
        have HQ1 := Lib.hid HQ1'
        rw [← HQ1'] at HPut L1 hm1
        clear HQ1'
        try simp only [List.length_nil] at HPut
        go_wp2_with fail
        refine HPut.out.mono ?_
        rintro e v1 ⟨a1, c1, rfl, hT1, _⟩
        clear HPut hT0
        have HPut := Lib.hid (tsput hT1 a 32 (by omega) (by omega) (by omega) (by omega))
        have L2 := Lib.hid (show (q1 ++ bitsNum true a 32).length = 64 by rw [List.length_append, L1.out, bitsNum_length])
        have hm2 : (q1 ++ bitsNum true a 32).length ≤ 64 := Nat.le_of_eq L2.out
        obtain ⟨q2, HQ2'⟩ : ∃ z, z = q1 ++ bitsNum true a 32 := ⟨_, rfl⟩
        have HQ2 := Lib.hid HQ2'
        rw [← HQ2'] at HPut L2 hm2
        clear HQ2'
        try simp only [List.length_nil] at HPut
        go_wp2_with fail
        refine HPut.out.mono ?_
        rintro e v2 ⟨a2, c2, rfl, hT2, _⟩
        clear HPut hT1
        have HPut := Lib.hid (tsput hT2 wa 16 (by omega) (by omega) (by omega) (by omega))
        have L3 := Lib.hid (show (q2 ++ bitsNum true wa 16).length = 80 by rw [List.length_append, L2.out, bitsNum_length])
        have hm3 : (q2 ++ bitsNum true wa 16).length ≤ 80 := Nat.le_of_eq L3.out
        obtain ⟨q3, HQ3'⟩ : ∃ z, z = q2 ++ bitsNum true wa 16 := ⟨_, rfl⟩
        have HQ3 := Lib.hid HQ3'
        rw [← HQ3'] at HPut L3 hm3
        clear HQ3'
        try simp only [List.length_nil] at HPut
        go_wp2_with fail
        refine HPut.out.mono ?_
        rintro e v3 ⟨a3, c3, rfl, hT3, _⟩
        clear HPut hT2
        have HPut := Lib.hid (tsput hT3 sh 32 (by omega) (by omega) (by omega) (by omega))
        have L4 := Lib.hid (show (q3 ++ bitsNum true sh 32).length = 112 by rw [List.length_append, L3.out, bitsNum_length])
        have hm4 : (q3 ++ bitsNum true sh 32).length ≤ 112 := Nat.le_of_eq L4.out
        obtain ⟨q4, HQ4'⟩ : ∃ z, z = q3 ++ bitsNum true sh 32 := ⟨_, rfl⟩
        have HQ4 := Lib.hid HQ4'
        rw [← HQ4'] at HPut L4 hm4
        clear HQ4'
        try simp only [List.length_nil] at HPut
        go_wp2_with fail
        refine HPut.out.mono ?_
        rintro e v4 ⟨a4, c4, rfl, hT4, _⟩
        clear HPut hT3
        have HPut := Lib.hid (tsput hT4 wb 16 (by omega) (by omega) (by omega) (by omega))
        have L5 := Lib.hid (show (q4 ++ bitsNum true wb 16).length = 128 by rw [List.length_append, L4.out, bitsNum_length])
        have hm5 : (q4 ++ bitsNum true wb 16).length ≤ 128 := Nat.le_of_eq L5.out
        obtain ⟨q5, HQ5'⟩ : ∃ z, z = q4 ++ bitsNum true wb 16 := ⟨_, rfl⟩
        have HQ5 := Lib.hid HQ5'
        rw [← HQ5'] at HPut L5 hm5
        clear HQ5'
        try simp only [List.length_nil] at HPut
        go_wp2_with fail
        refine HPut.out.mono ?_
        rintro e v5 ⟨a5, c5, rfl, hT5, _⟩
        clear HPut hT4
        have HPut := Lib.hid (tsput hT5 xx 32 (by omega) (by omega) (by omega) (by omega))
        have L6 := Lib.hid (show (q5 ++ bitsNum true xx 32).length = 160 by rw [List.length_append, L5.out, bitsNum_length])
        have hm6 : (q5 ++ bitsNum true xx 32).length ≤ 160 := Nat.le_of_eq L6.out
        obtain ⟨q6, HQ6'⟩ : ∃ z, z = q5 ++ bitsNum true xx 32 := ⟨_, rfl⟩
        have HQ6 := Lib.hid HQ6'
        rw [← HQ6'] at HPut L6 hm6
        clear HQ6'
        try simp only [List.length_nil] at HPut
        go_wp2_with fail
        refine HPut.out.mono ?_
        rintro e v6 ⟨a6, c6, rfl, hT6, _⟩
        clear HPut hT5
        have HPut := Lib.hid (tsput hT6 p 16 (by omega) (by omega) (by omega) (by omega))
        have L7 := Lib.hid (show (q6 ++ bitsNum true p 16).length = 176 by rw [List.length_append, L6.out, bitsNum_length])
        have hm7 : (q6 ++ bitsNum true p 16).length ≤ 176 := Nat.le_of_eq L7.out
        obtain ⟨q7, HQ7'⟩ : ∃ z, z = q6 ++ bitsNum true p 16 := ⟨_, rfl⟩
        have HQ7 := Lib.hid HQ7'
        rw [← HQ7'] at HPut L7 hm7
        clear HQ7'
        try simp only [List.length_nil] at HPut
        go_wp2_with fail
        refine HPut.out.mono ?_
        rintro e v7 ⟨a7, c7, rfl, hT7, _⟩
        clear HPut hT6
        have HPut := Lib.hid (tsput hT7 xx 32 (by omega) (by omega) (by omega) (by omega))
        have L8 := Lib.hid (show (q7 ++ bitsNum true xx 32).length = 208 by rw [List.length_append, L7.out, bitsNum_length])
        have hm8 : (q7 ++ bitsNum true xx 32).length ≤ 208 := Nat.le_of_eq L8.out
        obtain ⟨q8, HQ8'⟩ : ∃ z, z = q7 ++ bitsNum true xx 32 := ⟨_, rfl⟩
        have HQ8 := Lib.hid HQ8'
        rw [← HQ8'] at HPut L8 hm8
        clear HQ8'
        try simp only [List.length_nil] at HPut
        go_wp2_with fail
        refine HPut.out.mono ?_
        rintro e v8 ⟨a8, c8, rfl, hT8, _⟩
        clear HPut hT7
        have HPut := Lib.hid (tsput hT8 q 16 (by omega) (by omega) (by omega) (by omega))
        have L9 := Lib.hid (show (q8 ++ bitsNum true q 16).length = 224 by rw [List.length_append, L8.out, bitsNum_length])
        have hm9 : (q8 ++ bitsNum true q 16).length ≤ 224 := Nat.le_of_eq L9.out
        obtain ⟨q9, HQ9'⟩ : ∃ z, z = q8 ++ bitsNum true q 16 := ⟨_, rfl⟩
        have HQ9 := Lib.hid HQ9'
        rw [← HQ9'] at HPut L9 hm9
        clear HQ9'
        try simp only [List.length_nil] at HPut
        go_wp2_with fail
        refine HPut.out.mono ?_
        rintro e v9 ⟨a9, c9, rfl, hT9, _⟩
        clear HPut hT8
        have HPut := Lib.hid (tsput hT9 wc 16 (by omega) (by omega) (by omega) (by omega))
        have L10 := Lib.hid (show (q9 ++ bitsNum true wc 16).length = 240 by rw [List.length_append, L9.out, bitsNum_length])
        have hm10 : (q9 ++ bitsNum true wc 16).length ≤ 240 := Nat.le_of_eq L10.out
        obtain ⟨q10, HQ10'⟩ : ∃ z, z = q9 ++ bitsNum true wc 16 := ⟨_, rfl⟩
        have HQ10 := Lib.hid HQ10'
        rw [← HQ10'] at HPut L10 hm10
        clear HQ10'
        try simp only [List.length_nil] at HPut
        go_wp2_with fail
        refine HPut.out.mono ?_
        rintro e v10 ⟨a10, c10, rfl, hT10, _⟩
        clear HPut hT9
        have HPut := Lib.hid (tsput hT10 wd 16 (by omega) (by omega) (by omega) (by omega))
        have L11 := Lib.hid (show (q10 ++ bitsNum true wd 16).length = 256 by rw [List.length_append, L10.out, bitsNum_length])
        have hm11 : (q10 ++ bitsNum true wd 16).length ≤ 256 := Nat.le_of_eq L11.out
        obtain ⟨q11, HQ11'⟩ : ∃ z, z = q10 ++ bitsNum true wd 16 := ⟨_, rfl⟩
        have HQ11 := Lib.hid HQ11'
        rw [← HQ11'] at HPut L11 hm11
        clear HQ11'
        try simp only [List.length_nil] at HPut
        go_wp2_with fail
        refine HPut.out.mono ?_
        rintro e v11 ⟨a11, c11, rfl, hT11, _⟩
        clear HPut hT10
        have HPut := Lib.hid (tsput hT11 f 16 (by omega) (by omega) (by omega) (by omega))
        have L12 := Lib.hid (show (q11 ++ bitsNum true f 16).length = 272 by rw [List.length_append, L11.out, bitsNum_length])
        have hm12 : (q11 ++ bitsNum true f 16).length ≤ 272 := Nat.le_of_eq L12.out
        obtain ⟨q12, HQ12'⟩ : ∃ z, z = q11 ++ bitsNum true f 16 := ⟨_, rfl⟩
        have HQ12 := Lib.hid HQ12'
        rw [← HQ12'] at HPut L12 hm12
        clear HQ12'
        try simp only [List.length_nil] at HPut
        go_wp2_with fail
        refine HPut.out.mono ?_
        rintro e v12 ⟨a12, c12, rfl, hT12, _⟩
        clear HPut hT11
        have HPut := Lib.hid (tsput hT12 1 16 (by omega) (by omega) (by omega) (by omega))
        have L13 := Lib.hid (show (q12 ++ bitsNum true 1 16).length = 288 by rw [List.length_append, L12.out, bitsNum_length])
        have hm13 : (q12 ++ bitsNum true 1 16).length ≤ 288 := Nat.le_of_eq L13.out
        obtain ⟨q13, HQ13'⟩ : ∃ z, z = q12 ++ bitsNum true 1 16 := ⟨_, rfl⟩
        have HQ13 := Lib.hid HQ13'
        rw [← HQ13'] at HPut L13 hm13
        clear HQ13'
        try simp only [List.length_nil] at HPut
        go_wp2_with fail
        refine HPut.out.mono ?_
        rintro e v13 ⟨a13, c13, rfl, hT13, _⟩
        clear HPut hT12
        have HHd : Hid (q13 = headB a h ⟨f, p, q, fill⟩) := Lib.hid (by
          rw [HQ13.out, HQ12.out, HQ11.out, HQ10.out, HQ9.out, HQ8.out, HQ7.out, HQ6.out, HQ5.out, HQ4.out, HQ3.out, HQ2.out, HQ1.out]
          unfold headB bN
          rw [← HLO.out, ← HSH.out, ← HWa.out, ← HWb.out, ← HWc.out, ← HWd.out, ← HXX.out, List.nil_append])
        clear HQ1 HQ2 HQ3 HQ4 HQ5 HQ6 HQ7 HQ8 HQ9 HQ10 HQ11 HQ12 HQ13 L1 L2 L3 L4 L5 L6 L7 L8 L9 L10 L11 L12 hm1 hm2 hm3 hm4 hm5 hm6 hm7 hm8 hm9 hm10 hm11 hm12
        go_wp2_with fail
        obtain ⟨ys1, hlst⟩ : ∃ z : List Nat, z = HN.above h.os := ⟨_, rfl⟩
        have hlsl : ys1.length = n := by rw [hlst]; exact (by unfold HN.above; rw [List.length_map]; exact HNL.out)
        have HLST1 := Lib.hid hlst
        have HLSL1 := Lib.hid hlsl
        clear hlst hlsl
        go_loopw [24, 25] (fun v i W => ∃ (k : Nat) (oa : Option Addr) (oc : Nat), k ≤ n ∧ i = .int .i64 k ∧ v = .slice oa (q13 ++ numsB (ys1.take k) wa).length oc ∧ TS 43 w W [.int .u8 rf, .int .u8 rp, .int .u8 rq, .int .u32 fill] (q13 ++ numsB (ys1.take k) wa) oa oc) (fun _ i _ => n - (intOf i).toNat)
        case atStart => exact ⟨0, a13, c13, Nat.zero_le _, rfl, by simp [numsB], by simpa [numsB] using hT13⟩
        case round =>
          obtain ⟨k, oa, oc, hk, rfl, rfl, hT⟩ := hrel
          clear hT13
          have hlk2 : (q13 ++ numsB (ys1.take k) wa).length ≤ 288 + 1280 := by
            rw [List.length_append, numsB_len, List.length_take]
            have : min k ys1.length * wa ≤ 40 * 32 := Nat.mul_le_mul (by rw [HLSL1.out]; omega) hla
            omega
          obtain ⟨pq, hpq⟩ : ∃ z, z = q13 ++ numsB (ys1.take k) wa := ⟨_, rfl⟩
          rw [← hpq] at hlk2 hT ⊢
          have HPQ := Lib.hid hpq
          clear hpq
          by_cases hlt' : k < n
          · have hki : (k : Int) < (n : Int) := by omega
            obtain ⟨b, o, on, ln, sa, sc, xs, had, p0, p1, p2, hsub, e0, e1, e2, bo, bl, bs, bx0, bx1, bx2⟩ := HPg.out wr hT.pure k hlt'
            cases had
            have hge : lo ≤ on := by rw [HLO.out]; exact least_le (mem_of_at e0)
            have hab : on - lo < 2 ^ wa := by rw [HLO.out, HWa.out]; exact above_lt (mem_of_at e0)
            obtain ⟨d, hdd⟩ : ∃ d, d = on - lo := ⟨_, rfl⟩
            have hd : ys1[k]? = some d := by rw [HLST1.out, hdd, HLO.out]; exact above_at e0
            have hdi : (on : Int) - (lo : Int) = (d : Int) := by omega
            have hd1 : d < 2 ^ wa := hdd ▸ hab
            have hd2 : d < 4294967296 := by omega
            clear hab hdd
            obtain ⟨nq, hnq⟩ : ∃ z, z = q13 ++ numsB (ys1.take (k + 1)) wa := ⟨_, rfl⟩
            have hs : pq ++ bitsNum true d wa = nq := by rw [hnq, numsB_take_at hd, HPQ.out, List.append_assoc]; rfl
            have HPut := Lib.hid (tsput hT d wa (by omega) hla hd2 hd1)
            rw [hs] at HPut
            have HNQ := Lib.hid hnq
            clear hd1 hT hsub e0 e1 e2 hd hs hnq bs
            go_wp2_with fail
            refine HPut.out.mono ?_
            rintro e w9 ⟨a9, c9, rfl, hT9, _⟩
            clear HPut
            go_wp2_with fail
            go_roundw
            case rel => exact ⟨k + 1, a9, c9, by omega, by go_num, by rw [← HNQ.out], by rw [← HNQ.out]; exact hT9⟩
            case measure => simp [intOf]; omega
          · have hki : ¬ (k : Int) < (n : Int) := by omega
            obtain rfl : n = k := by omega
            have HF := Lib.hid (tsfull hT (by omega))
            obtain ⟨g1, hpn⟩ : ∃ z, z = align pq := ⟨_, rfl⟩
            have hg1 : g1.length ≤ 288 + 1288 := by rw [hpn, align_length]; omega
            have HG1 : Hid (g1 = align (q13 ++ numsB ys1 wa)) := Lib.hid (by rw [hpn, HPQ.out, List.take_of_length_le (l := ys1) (by rw [HLSL1.out]; omega)])
            rw [← hpn] at HF
            clear hT hpn HPQ
            go_wp2_with fail
            refine HF.out.mono ?_
            rintro e x1 ⟨b1, d1, rfl, hU1, _⟩
            clear HF hlk2
            go_wp2_with fail
            obtain ⟨ys2, hlst⟩ : ∃ z : List Nat, z = HN.above h.ls := ⟨_, rfl⟩
            have hlsl : ys2.length = n := by rw [hlst]; exact (by unfold HN.above; rw [List.length_map, HOK.out.ll]; exact HNL.out)
            have HLST2 := Lib.hid hlst
            have HLSL2 := Lib.hid hlsl
            clear hlst hlsl
            go_loopw [24, 26] (fun v i W => ∃ (k : Nat) (oa : Option Addr) (oc : Nat), k ≤ n ∧ i = .int .i64 k ∧ v = .slice oa (g1 ++ numsB (ys2.take k) wb).length oc ∧ TS 43 w W [.int .u8 rf, .int .u8 rp, .int .u8 rq, .int .u32 fill] (g1 ++ numsB (ys2.take k) wb) oa oc) (fun _ i _ => n - (intOf i).toNat)
            case atStart => exact ⟨0, b1, d1, Nat.zero_le _, rfl, by simp [numsB], by simpa [numsB] using hU1⟩
            case round =>
              obtain ⟨k, oa, oc, hk, rfl, rfl, hT⟩ := hrel
              clear hU1
              have hlk2 : (g1 ++ numsB (ys2.take k) wb).length ≤ 1576 + 1280 := by
                rw [List.length_append, numsB_len, List.length_take]
                have : min k ys2.length * wb ≤ 40 * 32 := Nat.mul_le_mul (by rw [HLSL2.out]; omega) hlb
                omega
              obtain ⟨pq, hpq⟩ : ∃ z, z = g1 ++ numsB (ys2.take k) wb := ⟨_, rfl⟩
              rw [← hpq] at hlk2 hT ⊢
              have HPQ := Lib.hid hpq
              clear hpq
              by_cases hlt' : k < n
              · have hki : (k : Int) < (n : Int) := by omega
                obtain ⟨b, o, on, ln, sa, sc, xs, had, p0, p1, p2, hsub, e0, e1, e2, bo, bl, bs, bx0, bx1, bx2⟩ := HPg.out wr hT.pure k hlt'
                cases had
                have hge : sh ≤ ln := by rw [HSH.out]; exact least_le (mem_of_at e1)
                have hab : ln - sh < 2 ^ wb := by rw [HSH.out, HWb.out]; exact above_lt (mem_of_at e1)
                obtain ⟨d, hdd⟩ : ∃ d, d = ln - sh := ⟨_, rfl⟩
                have hd : ys2[k]? = some d := by rw [HLST2.out, hdd, HSH.out]; exact above_at e1
                have hdi : (ln : Int) - (sh : Int) = (d : Int) := by omega
                have hd1 : d < 2 ^ wb := hdd ▸ hab
                have hd2 : d < 4294967296 := by omega
                clear hab hdd
                obtain ⟨nq, hnq⟩ : ∃ z, z = g1 ++ numsB (ys2.take (k + 1)) wb := ⟨_, rfl⟩
                have hs : pq ++ bitsNum true d wb = nq := by rw [hnq, numsB_take_at hd, HPQ.out, List.append_assoc]; rfl
                have HPut := Lib.hid (tsput hT d wb (by omega) hlb hd2 hd1)
                rw [hs] at HPut
                have HNQ := Lib.hid hnq
                clear hd1 hT hsub e0 e1 e2 hd hs hnq bs
                go_wp2_with fail
                refine HPut.out.mono ?_
                rintro e w9 ⟨a9, c9, rfl, hT9, _⟩
                clear HPut
                go_wp2_with fail
                go_roundw
                case rel => exact ⟨k + 1, a9, c9, by omega, by go_num, by rw [← HNQ.out], by rw [← HNQ.out]; exact hT9⟩
                case measure => simp [intOf]; omega
              · have hki : ¬ (k : Int) < (n : Int) := by omega
                obtain rfl : n = k := by omega
                have HF := Lib.hid (tsfull hT (by omega))
                obtain ⟨g2, hpn⟩ : ∃ z, z = align pq := ⟨_, rfl⟩
                have hg2 : g2.length ≤ 1576 + 1288 := by rw [hpn, align_length]; omega
                have HG2 : Hid (g2 = align (g1 ++ numsB ys2 wb)) := Lib.hid (by rw [hpn, HPQ.out, List.take_of_length_le (l := ys2) (by rw [HLSL2.out]; omega)])
                rw [← hpn] at HF
                clear hT hpn HPQ
                go_wp2_with fail
                refine HF.out.mono ?_
                rintro e x2 ⟨b2, d2, rfl, hU2, _⟩
                clear HF hlk2
                go_wp2_with fail
                obtain ⟨ys3, hlst⟩ : ∃ z : List Nat, z = h.counts := ⟨_, rfl⟩
                have hlsl : ys3.length = n := by rw [hlst]; exact (by unfold HN.counts; rw [List.length_map, HOK.out.lsh]; exact HNL.out)
                have HLST3 := Lib.hid hlst
                have HLSL3 := Lib.hid hlsl
                clear hlst hlsl
                go_loopw [24, 27] (fun v i W => ∃ (k : Nat) (oa : Option Addr) (oc : Nat), k ≤ n ∧ i = .int .i64 k ∧ v = .slice oa (g2 ++ numsB (ys3.take k) wc).length oc ∧ TS 43 w W [.int .u8 rf, .int .u8 rp, .int .u8 rq, .int .u32 fill] (g2 ++ numsB (ys3.take k) wc) oa oc) (fun _ i _ => n - (intOf i).toNat)
                case atStart => exact ⟨0, b2, d2, Nat.zero_le _, rfl, by simp [numsB], by simpa [numsB] using hU2⟩
                case round =>
                  obtain ⟨k, oa, oc, hk, rfl, rfl, hT⟩ := hrel
                  clear hU2
                  have hlk2 : (g2 ++ numsB (ys3.take k) wc).length ≤ 2864 + 1280 := by
                    rw [List.length_append, numsB_len, List.length_take]
                    have : min k ys3.length * wc ≤ 40 * 32 := Nat.mul_le_mul (by rw [HLSL3.out]; omega) hlc
                    omega
                  obtain ⟨pq, hpq⟩ : ∃ z, z = g2 ++ numsB (ys3.take k) wc := ⟨_, rfl⟩
                  rw [← hpq] at hlk2 hT ⊢
                  have HPQ := Lib.hid hpq
                  clear hpq
                  by_cases hlt' : k < n
                  · have hki : (k : Int) < (n : Int) := by omega
                    obtain ⟨b, o, on, ln, sa, sc, xs, had, p0, p1, p2, hsub, e0, e1, e2, bo, bl, bs, bx0, bx1, bx2⟩ := HPg.out wr hT.pure k hlt'
                    cases had
                    have hab : xs.length < 2 ^ wc := by rw [HWc.out]; exact Nat.lt_of_le_of_lt (le_mx (mem_of_at (counts_at e2))) (lt_wid _)
                    obtain ⟨d, hdd⟩ : ∃ d, d = xs.length := ⟨_, rfl⟩
                    have hd : ys3[k]? = some d := by rw [HLST3.out, hdd]; exact counts_at e2
                    have hd1 : d < 2 ^ wc := hdd ▸ hab
                    rw [← hdd] at p2 bx0 bx1
                    have hd2 : d < 4294967296 := by omega
                    clear hab hdd
                    obtain ⟨nq, hnq⟩ : ∃ z, z = g2 ++ numsB (ys3.take (k + 1)) wc := ⟨_, rfl⟩
                    have hs : pq ++ bitsNum true d wc = nq := by rw [hnq, numsB_take_at hd, HPQ.out, List.append_assoc]; rfl
                    have HPut := Lib.hid (tsput hT d wc (by omega) hlc hd2 hd1)
                    rw [hs] at HPut
                    have HNQ := Lib.hid hnq
                    clear hd1 hT hsub e0 e1 e2 hd hs hnq bs
                    go_wp2_with fail
                    refine HPut.out.mono ?_
                    rintro e w9 ⟨a9, c9, rfl, hT9, _⟩
                    clear HPut
                    go_wp2_with fail
                    go_roundw
                    case rel => exact ⟨k + 1, a9, c9, by omega, by go_num, by rw [← HNQ.out], by rw [← HNQ.out]; exact hT9⟩
                    case measure => simp [intOf]; omega
                  · have hki : ¬ (k : Int) < (n : Int) := by omega
                    obtain rfl : n = k := by omega
                    have HF := Lib.hid (tsfull hT (by omega))
                    obtain ⟨g3, hpn⟩ : ∃ z, z = align pq := ⟨_, rfl⟩
                    have hg3 : g3.length ≤ 2864 + 1288 := by rw [hpn, align_length]; omega
                    have HG3 : Hid (g3 = align (g2 ++ numsB ys3 wc)) := Lib.hid (by rw [hpn, HPQ.out, List.take_of_length_le (l := ys3) (by rw [HLSL3.out]; omega)])
                    rw [← hpn] at HF
                    clear hT hpn HPQ
                    go_wp2_with fail
                    refine HF.out.mono ?_
                    rintro e x3 ⟨b3, d3, rfl, hU3, _⟩
                    clear HF hlk2
                    go_wp2_with fail
                    have HMany : Hid (h.all.length ≤ 65536) := Lib.hid HOK.out.many
                    go_loopw [24, 28, 29] (fun v i _ W => ∃ (k : Nat) (oa : Option Addr) (oc : Nat), k ≤ n ∧ i = .int .i64 k ∧ v = .slice oa (g3 ++ numsB (h.shs.take k).flatten wd).length oc ∧ TS 43 w W [.int .u8 rf, .int .u8 rp, .int .u8 rq, .int .u32 fill] (g3 ++ numsB (h.shs.take k).flatten wd) oa oc) (fun _ i _ _ => n - (intOf i).toNat)
                    case atStart => exact ⟨0, b3, d3, Nat.zero_le _, rfl, by simp [numsB], by simpa [numsB] using hU3⟩
                    case round =>
                      obtain ⟨k, oa, oc, hk, rfl, rfl, hT⟩ := hrel
                      clear hU3
                      by_cases hlt' : k < n
                      · have hki : (k : Int) < (n : Int) := by omega
                        obtain ⟨b, o, on, ln, sa, sc, xs, had, p0, p1, p2, hsub, e0, e1, e2, bo, bl, bs, bx0, bx1, bx2⟩ := HPg.out wr hT.pure k hlt'
                        cases had
                        obtain ⟨xn, hxn⟩ : ∃ z, z = xs.length := ⟨_, rfl⟩
                        have HXN := Lib.hid hxn
                        have hpre : ((h.shs.take k).flatten ++ xs).length ≤ 65536 := by
                          rw [← flat_take_succ e2]
                          refine Nat.le_trans ?_ HMany.out
                          unfold HN.all
                          rw [← List.take_append_drop (k + 1) h.shs, List.flatten_append, List.length_append]
                          simp
                        have HBd : Hid (∀ j, (g3 ++ numsB ((h.shs.take k).flatten ++ xs.take j) wd).length ≤ 4152 + 65536 * 32) := Lib.hid (fun j => by
                          rw [List.length_append, numsB_len]
                          have h1 : ((h.shs.take k).flatten ++ xs.take j).length ≤ 65536 := by
                            rw [List.length_append] at hpre ⊢
                            have := List.length_take_le j xs
                            have := List.length_take (i := j) (l := xs)
                            omega
                          have := Nat.mul_le_mul h1 hld
                          omega)
                        have HDW : Hid (∀ x ∈ xs, x < 2 ^ wd) := Lib.hid (fun x hx => by
                          rw [HWd.out]
                          refine Nat.lt_of_le_of_lt (le_mx ?_) (lt_wid _)
                          unfold HN.all
                          exact List.mem_flatten.2 ⟨xs, List.mem_of_getElem? e2, hx⟩)
                        have HE2 := Lib.hid e2
                        have HFl := Lib.hid (flat_take_succ e2)
                        obtain ⟨zz, hzz⟩ : ∃ z, z = (h.shs.take k).flatten := ⟨_, rfl⟩
                        rw [← hzz] at hT HBd HFl ⊢
                        clear p0 p1 p2 hsub e0 e1 e2 bo bl bx0 bx1 bx2 hxn hpre hzz
                        go_wp2_with fail
                        go_loopw [24, 29] (fun v i W => ∃ (j : Nat) (oa : Option Addr) (oc : Nat), j ≤ xn ∧ i = .int .i64 j ∧ v = .slice oa (g3 ++ numsB (zz ++ xs.take j) wd).length oc ∧ TS 43 w W [.int .u8 rf, .int .u8 rp, .int .u8 rq, .int .u32 fill] (g3 ++ numsB (zz ++ xs.take j) wd) oa oc) (fun _ i _ => xn - (intOf i).toNat)
                        case atStart => exact ⟨0, oa, oc, Nat.zero_le _, rfl, by simp, by simpa using hT⟩
                        case round =>
                          obtain ⟨j, oa2, oc2, hj, rfl, rfl, hT2⟩ := hrel
                          clear hT
                          obtain ⟨b, o, on, ln, sa, sc, xs', had, p0, p1, p2, hsub, e0, e1, e2, bo, bl, bs', bx0, bx1, bx2⟩ := HPg.out wr hT2.pure k hlt'
                          obtain rfl : xs = xs' := Option.some.inj (HE2.out.symm.trans e2)
                          cases had
                          rw [← HXN.out] at p2 bx0 bx1
                          have HSub := Lib.hid hsub
                          have hlk2 := HBd.out j
                          obtain ⟨pq, hpq⟩ : ∃ z, z = g3 ++ numsB (zz ++ xs.take j) wd := ⟨_, rfl⟩
                          rw [← hpq] at hlk2 hT2 ⊢
                          have HPQ := Lib.hid hpq
                          clear hpq hsub e0 e1 e2 bs'
                          by_cases hjt : j < xn
                          · have hji : (j : Int) < (xn : Int) := by omega
                            have hjx : j < xs.length := by rw [← HXN.out]; exact hjt
                            obtain ⟨x, hx⟩ : ∃ x, x = xs[j] := ⟨_, rfl⟩
                            obtain ⟨sb, so, rfl, hsc⟩ := HSub.out j (intV x) (by rw [List.getElem?_map, List.getElem?_eq_getElem hjx, hx]; rfl)
                            have hsc2 : wr.cell? ⟨sb, so + j, none⟩ = some (.int .i64 x) := hsc
                            have hx4 : x ≤ 4095 := hx ▸ bs.out _ (List.getElem_mem hjx)
                            have hxw : x < 2 ^ wd := hx ▸ HDW.out _ (List.getElem_mem hjx)
                            obtain ⟨nq, hnq⟩ : ∃ z, z = g3 ++ numsB (zz ++ xs.take (j + 1)) wd := ⟨_, rfl⟩
                            have hs : pq ++ bitsNum true x wd = nq := by rw [hnq, List.take_add_one, List.getElem?_eq_getElem hjx, ← hx, HPQ.out, ← List.append_assoc zz, numsB_append (zz ++ xs.take j), List.append_assoc]; simp [numsB, bN]
                            have HPut := Lib.hid (tsput hT2 x wd (by omega) hld (by omega) hxw)
                            rw [hs] at HPut
                            have HNQ := Lib.hid hnq
                            clear hx hsc hjx hxw hs hnq hT2
                            go_wp2_with fail
                            refine HPut.out.mono ?_
                            rintro e w9 ⟨a9, c9, rfl, hT9, _⟩
                            clear HPut
                            go_wp2_with fail
                            go_roundw
                            case rel => exact ⟨j + 1, a9, c9, by omega, by go_num, by rw [← HNQ.out], by rw [← HNQ.out]; exact hT9⟩
                            case measure => simp [intOf]; omega
                          · have hji : ¬ (j : Int) < (xn : Int) := by omega
                            obtain ⟨nq, hnq⟩ : ∃ z, z = g3 ++ numsB (h.shs.take (k + 1)).flatten wd := ⟨_, rfl⟩
                            have hs : pq = nq := by rw [hnq, HFl.out, HPQ.out, List.take_of_length_le (l := xs) (by rw [← HXN.out]; omega)]
                            rw [hs] at hT2 ⊢
                            have HNQ := Lib.hid hnq
                            clear hs hnq
                            go_wp2_with fail
                            go_roundw
                            case rel => exact ⟨k + 1, oa2, oc2, by omega, by go_num, by rw [← HNQ.out], by rw [← HNQ.out]; exact hT2⟩
                            case measure => simp [intOf]; omega
                      · have hki : ¬ (k : Int) < (n : Int) := by omega
                        obtain rfl : n = k := by omega
                        have hall : (h.shs.take n).flatten = h.all := by rw [List.take_of_length_le (by rw [HOK.out.lsh, HNL.out]; omega)]; rfl
                        rw [hall] at hT ⊢
                        have hlk3 : (g3 ++ numsB h.all wd).length ≤ 4152 + 65536 * 32 := by
                          rw [List.length_append, numsB_len]
                          have := Nat.mul_le_mul HMany.out hld
                          omega
                        obtain ⟨pq, hpq⟩ : ∃ z, z = g3 ++ numsB h.all wd := ⟨_, rfl⟩
                        rw [← hpq] at hT hlk3 ⊢
                        have HPQ := Lib.hid hpq
                        clear hall hpq
                        obtain ⟨g4, hg4⟩ : ∃ z, z = align pq := ⟨_, rfl⟩
                        obtain ⟨g5, hg5⟩ : ∃ z, z = align (g4 ++ fillN mn f fill) := ⟨_, rfl⟩
                        obtain ⟨g6, hg6⟩ : ∃ z, z = align (g5 ++ fillN n p fill) := ⟨_, rfl⟩
                        obtain ⟨g7, hg7⟩ : ∃ z, z = align (g6 ++ fillN n q fill) := ⟨_, rfl⟩
                        have hb4 : g4.length ≤ 2200000 := by rw [hg4, align_length]; omega
                        have hb5 : g5.length ≤ 6100000 := by
                          rw [hg5, align_length, List.length_append, fillN_len]
                          have : mn * f ≤ 120000 * 32 := Nat.mul_le_mul (by omega) hfl
                          omega
                        have hb6 : g6.length ≤ 6200000 := by
                          rw [hg6, align_length, List.length_append, fillN_len]
                          have : n * p ≤ 40 * 32 := Nat.mul_le_mul (by omega) hpl
                          omega
                        have hb7 : g7.length ≤ 6300000 := by
                          rw [hg7, align_length, List.length_append, fillN_len]
                          have : n * q ≤ 40 * 32 := Nat.mul_le_mul (by omega) hql
                          omega
                        have hTd := hT.later ((Ext.refl (fun _ => False) wr).drew)
                        have HF0 := tsfull hTd (by omega)
                        have HF1 := fun W oa oc (hT : TS 43 w W [.int .u8 rf, .int .u8 rp, .int .u8 rq, .int .u32 fill] g4 oa oc) => tsfill hT mn f fill (by omega) (by omega) hfl hfill
                        have HF2 := fun W oa oc (hT : TS 43 w W [.int .u8 rf, .int .u8 rp, .int .u8 rq, .int .u32 fill] g5 oa oc) => tsfill hT n p fill (by omega) (by omega) hpl hfill
                        have HF3 := fun W oa oc (hT : TS 43 w W [.int .u8 rf, .int .u8 rp, .int .u8 rq, .int .u32 fill] g6 oa oc) => tsfill hT n q fill (by omega) (by omega) hql hfill
                        have HG7 : Hid (g7 = tabB a h ⟨f, p, q, fill⟩) := Lib.hid (by
                          have e1 : g1 = part1 a h ⟨f, p, q, fill⟩ := by rw [HG1.out, HHd.out, HLST1.out, HWa.out]; rfl
                          have e2 : g2 = part2 a h ⟨f, p, q, fill⟩ := by rw [HG2.out, e1, HLST2.out, HWb.out]; rfl
                          have e3 : g3 = part3 a h ⟨f, p, q, fill⟩ := by rw [HG3.out, e2, HLST3.out, HWc.out]; rfl
                          have e4 : g4 = part4 a h ⟨f, p, q, fill⟩ := by rw [hg4, HPQ.out, e3, HWd.out]; rfl
                          have e5 : g5 = part5 a h ⟨f, p, q, fill⟩ := by rw [hg5, e4, HMN.out]; rfl
                          have e6 : g6 = part6 a h ⟨f, p, q, fill⟩ := by rw [hg6, e5, ← HNL.out]; rfl
                          rw [hg7, e6, ← HNL.out]; rfl)
                        rw [← hg4] at HF0
                        rw [← hg5] at HF1
                        rw [← hg6] at HF2
                        rw [← hg7] at HF3
                        have HF0' := Lib.hid HF0
                        have HF1' := Lib.hid HF1
                        have HF2' := Lib.hid HF2
                        have HF3' := Lib.hid HF3
                        have kb := fun w' (hS : Ext (fun i => w.heap.size < i) wr.drew w') => (hS.cell_some (hTd.cell 3) (Nat.lt_irrefl _) : w'.cell? ⟨w.heap.size, 0 + 3, none⟩ = some (.int .u32 fill))
                        clear HF0 HF1 HF2 HF3 HG1 HG2 HG3 HHd HLST1 HLST2 HLST3 HLSL1 HLSL2 HLSL3 HWa HWb HWc HWd HLO HSH HMN hg4 hg5 hg6 hg7 hT HPg HPQ HMany
                        go_wp2_with fail
                        refine region_start (fun i => w.heap.size < i) (by kernel_rfl) ?_
                        try simp only [Act.put, List.setIfInBounds_toArray, List.set_cons_zero, List.set_cons_succ]
                        refine region_take 0 262 (v := ?vtz0) rfl rfl (by kernel_rfl) (by kernel_rfl) (by kernel_rfl) (fun _ _ _ h => h) (by rfl) (fun w' hS => ?htz0) ?rtz0
                        case htz0 => go_simp; with_reducible rfl
                        try simp only [Act.put, List.setIfInBounds_toArray, List.set_cons_zero, List.set_cons_succ]
                        refine region_take 2 264 (v := ?vtz2) rfl rfl (by kernel_rfl) (by kernel_rfl) (by kernel_rfl) (fun _ _ _ h => h) (by rfl) (fun w' hS => ?htz2) ?rtz2
                        case htz2 => go_simp; with_reducible rfl
                        try simp only [Act.put, List.setIfInBounds_toArray, List.set_cons_zero, List.set_cons_succ]
                        refine region_take 3 265 (v := ?vtz3) rfl rfl (by kernel_rfl) (by kernel_rfl) (by kernel_rfl) (fun _ _ _ h => h) (by rfl) (fun w' hS => ?htz3) ?rtz3
                        case htz3 => go_simp; with_reducible rfl
                        try simp only [Act.put, List.setIfInBounds_toArray, List.set_cons_zero, List.set_cons_succ]
                        refine region_take 4 266 (v := ?vtz4) rfl rfl (by kernel_rfl) (by kernel_rfl) (by kernel_rfl) (fun _ _ _ h => h) (by rfl) (fun w' hS => ?htz4) ?rtz4
                        case htz4 => go_simp; with_reducible rfl
                        try simp only [Act.put, List.setIfInBounds_toArray, List.set_cons_zero, List.set_cons_succ]
                        refine region_take 5 267 (v := ?vtz5) rfl rfl (by kernel_rfl) (by kernel_rfl) (by kernel_rfl) (fun _ _ _ h => h) (by rfl) (fun w' hS => ?htz5) ?rtz5
                        case htz5 => go_simp; with_reducible rfl
                        try simp only [Act.put, List.setIfInBounds_toArray, List.set_cons_zero, List.set_cons_succ]
                        refine wpAnyH_ready (rs := [1]) (by kernel_rfl) (by simp) (AllReadyH.cons rfl (fun K hK => ?_) AllReadyH.nil)
                        go_simp
                        refine HF0'.out.mono ?_
                        rintro e y1 ⟨ja, jc, rfl, hV1, hE1⟩
                        refine hK.out _ _ (hE1) (fun hHeld => ?_)
                        clear hK K hHeld
                        refine region_now (hE1) ?_
                        try simp only [Act.put, List.setIfInBounds_toArray, List.set_cons_zero, List.set_cons_succ]
                        refine wpAnyH_ready (rs := [6]) (by kernel_rfl) (by simp) (AllReadyH.cons rfl (fun K hK => ?_) AllReadyH.nil)
                        go_simp
                        refine (HF1'.out y1 ja jc hV1).mono ?_
                        rintro e y2 ⟨ka, kc, rfl, hV2, hE2⟩
                        refine hK.out _ _ (hE2) (fun hHeld => ?_)
                        clear hK K hHeld
                        refine region_now (hE2) ?_
                        try simp only [Act.put, List.setIfInBounds_toArray, List.set_cons_zero, List.set_cons_succ]
                        refine region_take 7 24 (v := ?vtz7) rfl rfl (by kernel_rfl) (by kernel_rfl) (by kernel_rfl) (fun _ _ _ h => h) (by rfl) (fun w' hS => ?htz7) ?rtz7
                        case htz7 => go_simp; with_reducible rfl
                        try simp only [Act.put, List.setIfInBounds_toArray, List.set_cons_zero, List.set_cons_succ]
                        refine wpAnyH_done (by kernel_rfl) ?_ _
                        clear kb HF0' HF1'
                        have z3 : y2.cell? ⟨w.heap.size, 0 + 3, none⟩ = some (.int .u32 fill) := hV2.cell 3
                        go_wp2_with fail
                        refine (HF2'.out y2 ka kc hV2).mono ?_
                        rintro e y3 ⟨la, lc, rfl, hV3, hE3⟩
                        clear z3
                        have z3 : y3.cell? ⟨w.heap.size, 0 + 3, none⟩ = some (.int .u32 fill) := hV3.cell 3
                        go_wp2_with fail
                        refine (HF3'.out y3 la lc hV3).mono ?_
                        rintro e y4 ⟨ma, mc, rfl, hV4, hE4⟩
                        clear z3 HF2' HF3' hV2 hV3
                        have HBy := Lib.hid (refbytes_any true ma mc g7 y4 hV4.row (by omega))
                        go_wp2_with fail
                        refine HBy.out.mono ?_
                        rintro e y5 ⟨ra, rc, rfl, hO5, hP5⟩
                        go_wp2_with fail
                        go_ret
                        rw [← HG7.out]
                        exact ⟨ra, rc, rfl, own_base hO5 hV4.pure.size, hV4.pure.pure hP5⟩
end Go.Proofs.Ytdhejhgpjeenaaa
