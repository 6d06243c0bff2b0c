import Derived.Test.YtomcdhljjmnahaaGreatLibPDPa
import Derived.Test.YtomcdhljjmnahaaGreatLibPCPa
import Derived.Test.YtomcdhljjmnahaaGreatLibPAPa
import Derived.Test.YtomcdhljjmnahaaGreatLibPBPa
import Derived.Test.YtomcdhljjmnahaaGreatLibBBPa
import Derived.Test.YtomcdhljjmnahaaGreatSqPa
set_option linter.unusedVariables false
set_option linter.unusedSimpArgs false
set_option maxRecDepth 100000
namespace Go.Proofs.YtomcdhljjmnahaaGreat.P26
open Go.RowKit C26
theorem run_store_func (P : Program) (w : World) (a : Addr) (m : Mode) (f : Fn) (xs ys : Array Value) : (store a (.func f xs ys) m).run P w = stored P w a (.func f xs ys) m := run_store P w a _ m rfl
attribute [local go_sem] run_store_func
set_option maxHeartbeats 8000000 in
theorem encode_yes (a : Nat) (ad : Option Addr) (c : Nat) (ps : List PH) (w : World) (hW : Hints w ad ps) (hm : Mod ps) (hz : chk a ps = 0) :
 Calls Tryz.prog 20 #[.int .i64 a, .slice ad ps.length c] w (EncTo a ps w) := by
 have hk := chk_ok hz hm
 have HC0 := check_any a ad c ps w hW hm
 unfold IntRes at HC0
 rw [hz] at HC0
 have HC := qh HC0
 have hB : encB a ps = pack true (tabB a (toN ps) rest0) := by unfold encB; rw [if_pos hz]; rfl
 have HB := qh hB
 have HZ := qh hz
 obtain ⟨h, hh⟩ : ∃ h, h = toN ps := ⟨_, rfl⟩
 obtain ⟨n, hn⟩ : ∃ n, n = ps.length := ⟨_, rfl⟩
 rw [← hh] at HB
 rw [← hn] at HC ⊢
 have hok : h.Ok := hh ▸ hk.ok
 have hnl : h.os.length = n := by rw [hh, hn, toN_os_len]
 have hn1 : 1 ≤ n := by have := hok.pos; omega
 have hn40 : n ≤ 40 := by have := hok.le; omega
 have hal : a ≤ 2147483647 := by have := hk.a; omega
 have hct : ∀ x ∈ h.counts, x ≤ 3000 := by
  intro x hx
  rw [hh] at hx
  unfold HN.counts toN at hx
  obtain ⟨row, hr, rfl⟩ := List.mem_map.1 hx
  obtain ⟨p, hp, rfl⟩ := List.mem_map.1 hr
  rw [List.length_map]; exact hm.numbers p hp
 have HPg := qh (fun W (hP : Pure w W) k (hk' : k < n) => page_at (hW.pure hP) hk.nat hm hh hn k hk')
 have HOK := qh hok
 have HNL := qh hnl
 have HCT := qh hct
 clear hW hm hk hok hnl hh hn HC0 hz hB hct
 go_enter Tryz.func20, Tryz.ntmps20
 go_wp2_with fail
 refine HC.out.mono ?_
 rintro e w1 ⟨rfl, hP1⟩
 clear HC
 go_wp2_with fail
 obtain ⟨fb, hfb⟩ : ∃ fb, fb = w1.heap.size := ⟨_, rfl⟩
 have hF := BlockIs.new w1 [.func (.func 56) #[] #[]] 100
 have hP2 := hP1.pure (ext_alloc w1 (.cells #[.func (.func 56) #[] #[]] 100))
 have hfb1 : w.heap.size ≤ fb := by rw [hfb]; exact hP1.size
 rw [← hfb]
 rw [← hfb] at hF
 clear hfb hP1
 generalize w1.alloc (.cells #[.func (.func 56) #[] #[]] 100) = w2 at *
 have hMany : h.all.length ≤ 65536 := HOK.out.many
 have HMany := qh hMany
 clear hMany
 obtain ⟨wo, hwo⟩ : ∃ W : World, W = w2 := ⟨_, rfl⟩
 go_loopw [10, 12, 29] (fun v _ i W => ∃ (k m : Nat) (oa : Option Addr) (oc : Nat), k ≤ n ∧ i = .int .i64 k ∧ v = .slice oa m oc ∧ Hid (m = (h.shs.take k).flatten.length) ∧ m ≤ 3000 * k ∧ W.ownsRow wo.heap.size 3 1 (.slice oa m oc) m ((h.shs.take k).flatten.map intV) ∧ Pure wo W) (fun _ _ i _ => n - (intOf i).toNat)
 case atStart => exact ⟨0, 0, none, 0, Nat.zero_le _, rfl, rfl, qh rfl, by omega, by rw [List.take_zero]; exact World.ownsRow_nil _ _ _ _, hwo ▸ Ext.refl _ _⟩
 case round =>
  obtain ⟨k, m, oa, oc, hk, rfl, rfl, HMl, hml, hO, hE⟩ := hrel
  have hP2' : Pure w wo := by rw [hwo]; exact hP2
  by_cases hlt : k < n
  ·have hki : (k : Int) < (n : Int) := by omega
   obtain ⟨b, o, on, ln, sa, sc, xs, had, p0, p1, p2, hsub, e0, e1, e2, bo, bl, bs', bx0, bx1, bx2⟩ := HPg.out wr (hP2'.pure hE) k hlt
   subst had
   have HFl := qh (flat_take_succ e2)
   have hszB := hE.size
   have HSub := qh hsub
   obtain ⟨zs, hzs⟩ : ∃ zs, zs = (h.shs.take (k + 1)).flatten.map intV := ⟨_, rfl⟩
   have HZs := qh hzs
   clear hzs
   clear hsub e0 e1 e2 bs' hP2' hwo hP2 hF
   go_wp2_with (at_builtin; refine wpList_append_fresh rfl (.tmp 33) (.tmp 35) 23 rfl wo.heap.size 3 (.int .i64 0) 1 8 Tryz.underlying23 infoInt rfl (by decide) (.slice oa m oc) m ((h.shs.take k).flatten.map intV) rfl (hO.alloc _) sa xs.length sc (xs.map intV) rfl (fun e => ⟨by have := bx2 e; omega, bx2 e⟩) (by simp) (HSub.out.ext (ext_alloc wr _) (fun _ _ => id)) (intV_one _) (m + xs.length) rfl zs (by rw [HZs.out, HFl.out, List.map_append]) (by omega) (by unfold maxLen; omega) (by simp; omega) ?_)
   intro a2 c2 w3 hO3 hg3 hfr3
   have hE3 : Pure wo w3 := Ext.own (hE.alloc _) (hO.alloc _) hg3
   have HMl2 : Hid (m + xs.length = (h.shs.take (k + 1)).flatten.length) := qh (by rw [HFl.out, List.length_append, HMl.out])
   clear hE hO hg3 hfr3
   go_wp2_with fail
   go_roundw
   case rel => exact ⟨k + 1, m + xs.length, a2, c2, by omega, by go_num, rfl, HMl2, by omega, by rw [← HZs.out]; exact hO3, hE3⟩
   case measure => simp [intOf]; omega
  ·have hki : ¬ (k : Int) < (n : Int) := by omega
   obtain rfl : n = k := by omega
   have hall : (h.shs.take n).flatten = h.all := by rw [List.take_of_length_le (by rw [HOK.out.lsh, HNL.out]; omega)]; rfl
   rw [hall] at HMl hO
   have hF3 := (hwo ▸ hF : BlockIs wo fb _ _).ext hE id
   have hP3 := hP2'.pure hE
   have hfbl := hF3.lt
   have hAll := own_row hO
   have hOa : ∀ g, oa = some g → g.block < wr.heap.size := by
    obtain ⟨_, _, hh, _, _, _, h4⟩ := own_form hO
    cases hh
    exact fun g hg => (h4 g hg).2.1
   have hc3 : wr.cell? ⟨fb, 0, none⟩ = some (.func (.func 56) #[] #[]) := hF3.cell 0
   have HPg3 := qh (fun W (hP : Pure wr W) k (hk' : k < n) => HPg.out W (hP3.pure hP) k hk')
   have HBo := qh (fun W (hP : Pure wr W) => bounds_obj ad c n h W (qh (fun W' hP' => HPg3.out W' (hP.pure hP'))) hn1 hn40 HNL.out)
   have HBl := qh (fun W (hP : Pure wr W) => bounds_len ad c n h W (qh (fun W' hP' => HPg3.out W' (hP.pure hP'))) hn1 hn40 (by rw [HOK.out.ll]; exact HNL.out))
   have HMx := qh (fun W (hP : Pure wr W) => max_any ad c n h fb W (qh (fun W' hP' => HPg3.out W' (hP.pure hP'))) hn1 hn40 (by unfold HN.counts; rw [List.length_map, HOK.out.lsh]; exact HNL.out) (hP.cell_some hc3 id))
   have HC3 := qh hc3
   clear hwo hP2 hP2' hF hO hall hE hF3 hc3
   obtain ⟨lo, hlo⟩ : ∃ z, z = least h.os := ⟨_, rfl⟩
   obtain ⟨sh, hsh⟩ : ∃ z, z = least h.ls := ⟨_, rfl⟩
   obtain ⟨wa, hwa⟩ : ∃ z, z = width h.os := ⟨_, rfl⟩
   obtain ⟨wbb, hwbb⟩ : ∃ z, z = width h.ls := ⟨_, rfl⟩
   obtain ⟨ct, hct⟩ : ∃ z, z = mx h.counts := ⟨_, rfl⟩
   obtain ⟨wc, hwc⟩ : ∃ z, z = h.wc := ⟨_, rfl⟩
   obtain ⟨wd, hwd⟩ : ∃ z, z = h.wd := ⟨_, rfl⟩
   rw [← hlo, ← hwa] at HBo
   rw [← hsh, ← hwbb] at HBl
   rw [← hct] at HMx
   have hne1 : h.os ≠ [] := fun e => by have := HNL.out; rw [e] at this; simp at this; omega
   have hne2 : h.ls ≠ [] := fun e => by have := HNL.out; have h8 := HOK.out.ll; rw [e] at h8; simp at h8; omega
   have hlol : lo ≤ 4096 := by
    obtain ⟨x, hx⟩ := List.exists_mem_of_ne_nil _ hne1
    have := least_le hx; have := HOK.out.os x hx; omega
   have hshl : sh ≤ 2147483647 := by
    obtain ⟨x, hx⟩ := List.exists_mem_of_ne_nil _ hne2
    have := least_le hx; have := HOK.out.ls x hx; omega
   have hctl : ct ≤ 3000 := by
    rw [hct]; exact Nat.le_of_lt_succ (mx_lt (by decide) (fun y hy => by have := HCT.out y hy; omega))
   have hwal : wa ≤ 32 := by rw [hwa]; exact width_le (fun y hy => by have := HOK.out.os y hy; omega)
   have hwbl : wbb ≤ 32 := by rw [hwbb]; exact width_le (fun y hy => by have := HOK.out.ls y hy; omega)
   have hvc : wid ct = wc := by rw [hwc, hct]; rfl
   have hwcl : wc ≤ 32 := by rw [← hvc]; exact wid_le.2 (by omega)
   have hsdl : mx h.all ≤ 4095 := Nat.le_of_lt_succ (mx_lt (by decide) (fun y hy => by have := HOK.out.sh y hy; omega))
   have hwdl : wd ≤ 32 := by rw [hwd]; exact wid_le.2 (by omega)
   have HWC := qh (fun W => hvc ▸ width_any ct W (by omega))
   have huc : IntKind.u32.wrap (ct : Int) = (ct : Int) := IntWalk.u32_in _ (by omega)
   have HLO := qh hlo
   have HSH := qh hsh
   have HWa := qh hwa
   have HWb := qh hwbb
   have HWc := qh hwc
   have HWd := qh hwd
   have HSD := qh hsdl
   clear hlo hsh hwa hwbb hct hwc hwd hne1 hne2 hvc hsdl
   go_wp2_with fail
   refine (HBo.out wr (Ext.refl _ _)).mono ?_
   rintro e w4 ⟨rfl, hP4⟩
   have hL5 := BlockIs.new w4 [.int .i64 lo] 3
   have hP5 := hP4.pure (ext_alloc w4 (.cells #[.int .i64 lo] 3))
   have hz5 : fb < w4.heap.size := Nat.lt_of_lt_of_le hfbl hP4.size
   clear HBo hP4
   go_wp2_with fail
   obtain ⟨lb, hlb⟩ : ∃ z, z = w4.heap.size := ⟨_, rfl⟩
   rw [← hlb]
   rw [← hlb] at hL5 hz5
   clear hlb
   generalize w4.alloc (.cells #[.int .i64 lo] 3) = w5 at *
   refine (HBl.out w5 hP5).mono ?_
   rintro e w6 ⟨rfl, hP6⟩
   have hS7 := BlockIs.new w6 [.int .i64 sh] 3
   have hA7 := hP6.pure (ext_alloc w6 (.cells #[.int .i64 sh] 3))
   have hL7 := hL5.ext hA7 id
   have hP7 := hP5.pure hA7
   have hz7 : lb < w6.heap.size := Nat.lt_of_lt_of_le hL5.lt hP6.size
   clear HBl hP5 hP6 hL5 hA7
   go_wp2_with fail
   obtain ⟨sb, hsb⟩ : ∃ z, z = w6.heap.size := ⟨_, rfl⟩
   rw [← hsb]
   rw [← hsb] at hS7 hz7
   clear hsb
   generalize w6.alloc (.cells #[.int .i64 sh] 3) = w7 at *
   have hc7 : w7.drew.cell? ⟨fb, 0, none⟩ = some (.func (.func 56) #[] #[]) := hP7.cell_some HC3.out id
   have kf := fun w' (hS : Ext (fun _ => False) w7.drew w') => hS.cell_some hc7 id
   have HCt := qh (fun o l sa sc W => count_any o l sa ct sc W (by omega))
   unfold pageV at HCt
   refine region_start (fun _ => False) (by kernel_rfl) ?_
   try simp only [Act.put, sA, sZ, sS]
   refine region_take 0 50 (v := ?vea0) rfl rfl (by kernel_rfl) (by kernel_rfl) (by kernel_rfl) (fun _ _ _ h => h) (by rfl) (fun w' hS => ?hea0) ?rea0
   case hea0 => go_simp; with_reducible rfl
   try simp only [Act.put, sA, sZ, sS]
   refine region_take 1 51 (v := ?vea1) rfl rfl (by kernel_rfl) (by kernel_rfl) (by kernel_rfl) (fun _ _ _ h => h) (by rfl) (fun w' hS => ?hea1) ?rea1
   case hea1 => go_simp; with_reducible rfl
   try simp only [Act.put, sA, sZ, sS]
   refine wpAnyH_ready (rs := [2]) (by kernel_rfl) (by simp) (AllReadyH.cons rfl (fun K hK => ?_) AllReadyH.nil)
   go_simp
   refine hK.out _ _ (Ext.refl _ _) (fun hHeld => ?_)
   clear hK K hHeld
   refine region_now (Ext.refl _ _) ?_
   try simp only [Act.put, sA, sZ, sS]
   refine wpAnyH_ready (rs := [3]) (by kernel_rfl) (by simp) (AllReadyH.cons rfl (fun K hK => ?_) AllReadyH.nil)
   go_simp
   refine (HMx.out _ hP7.drew).mono ?_
   rintro e w8 ⟨om, lm, sm, cm, rfl, hP8⟩
   unfold pageV
   refine hK.out _ _ (hP8) (fun hHeld => ?_)
   clear hK K hHeld
   refine region_now (hP8) ?_
   try simp only [Act.put, sA, sZ, sS]
   refine wpAnyH_ready (rs := [4]) (by kernel_rfl) (by simp) (AllReadyH.cons rfl (fun K hK => ?_) AllReadyH.nil)
   go_simp
   refine (HCt.out om lm sm cm _).mono ?_
   rintro e w9 ⟨rfl, hP9⟩
   refine hK.out _ _ (hP9) (fun hHeld => ?_)
   clear hK K hHeld
   refine region_now (hP9) ?_
   try simp only [Act.put, sA, sZ, sS]
   refine region_take 5 55 (v := ?vea5) rfl rfl (by kernel_rfl) (by kernel_rfl) (by kernel_rfl) (fun _ _ _ h => h) (by rfl) (fun w' hS => ?hea5) ?rea5
   case hea5 => go_simp; with_reducible rfl
   try simp only [Act.put, sA, sZ, sS]
   refine wpAnyH_ready (rs := [6]) (by kernel_rfl) (by simp) (AllReadyH.cons rfl (fun K hK => ?_) AllReadyH.nil)
   go_simp
   refine (HWC.out _).mono ?_
   rintro e w10 ⟨rfl, hw10⟩
   obtain rfl := hw10.symm
   refine hK.out _ _ (Ext.refl _ _) (fun hHeld => ?_)
   clear hK K hHeld
   refine region_now (Ext.refl _ _) ?_
   try simp only [Act.put, sA, sZ, sS]
   refine region_take 7 17 (v := ?vea7) rfl rfl (by kernel_rfl) (by kernel_rfl) (by kernel_rfl) (fun _ _ _ h => h) (by rfl) (fun w' hS => ?hea7) ?rea7
   case hea7 => go_simp; with_reducible rfl
   try simp only [Act.put, sA, sZ, sS]
   refine wpAnyH_done (by kernel_rfl) ?_ _
   have hA9 : Pure w7 w9 := ((Ext.refl (fun _ => False) w7).drew.pure hP8).pure hP9
   have hL9 := hL7.ext hA9 id
   have hS9 := hS7.ext hA9 id
   have hP9' := hP7.pure hA9
   have hz9 := hA9.size
   clear kf hc7 HCt HMx HWC huc hP8 hP9 hA9 hL7 hS7 hP7
   have hAll9 := hAll.ext hP9' (fun _ _ => id)
   have HMx0 := fun (hne : h.all ≠ []) => maxN_any oa oc h.all w9 hAll9 hne (by have := HMany.out; omega)
   rw [← HMl.out] at HMx0
   obtain ⟨sd, hsd⟩ : ∃ z, z = mx h.all := ⟨_, rfl⟩
   rw [← hsd] at HMx0
   have hsdl : sd ≤ 4095 := by rw [hsd]; exact HSD.out
   have hvd : wid sd = wd := by rw [HWd.out, hsd]; rfl
   have HWD := qh (fun W => hvd ▸ width_any sd W (by omega))
   have hud : IntKind.u32.wrap (sd : Int) = (sd : Int) := IntWalk.u32_in _ (by omega)
   have HSd := qh hsd
   have HVd := qh hvd
   have HMx := qh HMx0
   clear hsd hvd HMx0
   go_upto_if 59 with (fail)
   go_cut [18] (fun x W => x = .int .i64 wd ∧ W = w9)
   case first =>
    by_cases hm0 : (0 : Int) < (m : Int)
    ·have hne : h.all ≠ [] := fun e => by have := HMl.out; rw [e] at this; simp at this; omega
     have HMx2 := qh (HMx.out hne)
     clear hne
     go_wp2_with fail
     refine HMx2.out.mono ?_
     rintro e w10 ⟨rfl, hw10⟩
     obtain rfl := hw10.symm
     go_wp2_with fail
     refine (HWD.out _).mono ?_
     rintro e w10 ⟨rfl, hw10⟩
     obtain rfl := hw10.symm
     go_wp2_with fail
     go_meet
     exact ⟨rfl, rfl⟩
    ·have hwd0 : wd = 0 := by
      have h0 : h.all = [] := List.length_eq_zero_iff.1 (by have := HMl.out; omega)
      have := HVd.out
      rw [HSd.out, h0] at this
      rw [← this]; rfl
     clear HMx
     go_wp2_with fail
     go_meet
     exact ⟨by rw [hwd0]; rfl, rfl⟩
   case rest =>
    obtain ⟨rfl, hwx⟩ := hcut
    obtain rfl := hwx.symm
    clear HMx HWD hud HSd HVd
    go_wp2_with fail
    refine (new_any true w9).mono ?_
    rintro e w10 ⟨rfl, hW10, hP10⟩
    obtain ⟨wb, hwb⟩ : ∃ z, z = w9.heap.size := ⟨_, rfl⟩
    rw [← hwb] at hW10 ⊢
    have hl9 := hS9.lt
    have hl9b := hL9.lt
    have hwbl0 := hW10.blk.lt
    have hPc := BlockIs.new w10 [.pointer (some ⟨wb, 0, none⟩)] 107
    have hA11 := hP10.pure (ext_alloc w10 (.cells #[.pointer (some ⟨wb, 0, none⟩)] 107))
    have hW11 := hW10.pure (ext_alloc w10 (.cells #[.pointer (some ⟨wb, 0, none⟩)] 107))
    have hL11 := hL9.ext hA11 id
    have hS11 := hS9.ext hA11 id
    have hP11 := hP9'.pure hA11
    have hOw : ∀ g, oa = some g → g.block ≠ wb := fun g hg => by have := hOa g hg; have := hP9'.size; omega
    have hsw : sb ≠ wb := by omega
    have hlw : lb ≠ wb := by omega
    have hwr : wr.heap.size ≤ wb := by have := hP9'.size; omega
    have cl0 : (w10.alloc (.cells #[.pointer (some ⟨wb, 0, none⟩)] 107)).cell? ⟨lb, 0, none⟩ = some (.int .i64 lo) := hL11.cell 0
    clear hL9 hS9 hP9' hA11 hW10 hP10 hz9 hz7 hz5 hwb
    go_wp2_with fail
    clear cl0
    obtain ⟨pc, hpc⟩ : ∃ z, z = w10.heap.size := ⟨_, rfl⟩
    rw [← hpc]
    rw [← hpc] at hPc hwbl0
    have hzp : (w10.alloc (.cells #[.pointer (some ⟨wb, 0, none⟩)] 107)).heap.size = pc + 1 := by rw [World.size_alloc, hpc]
    have hpcn : pc ≠ wb := by omega
    clear hpc
    obtain ⟨w0, hw0⟩ : ∃ z, z = w10.alloc (.cells #[.pointer (some ⟨wb, 0, none⟩)] 107) := ⟨_, rfl⟩
    rw [← hw0] at hPc hW11 hL11 hS11 hP11 hzp
    have hz0 : w0.heap.size = pc + 1 := hzp
    clear hzp
    rw [← hw0]
    clear hw0
    have T0 : WSt w0 wb [] w0 := ⟨none, 0, hW11, Ext.refl _ _, fun g hg => (by cases hg), hW11.blk.lt⟩
    have HPC : Hid (w0.cell? ⟨pc, 0, none⟩ = some (.pointer (some ⟨wb, 0, none⟩))) := qh (hPc.cell 0)
    have HLB : Hid (w0.cell? ⟨lb, 0, none⟩ = some (.int .i64 lo)) := qh (hL11.cell 0)
    have HSB : Hid (w0.cell? ⟨sb, 0, none⟩ = some (.int .i64 sh)) := qh (hS11.cell 0)
    have HFB : Hid (w0.cell? ⟨fb, 0, none⟩ = some (.func (.func 56) #[] #[])) := qh (hP11.cell_some HC3.out id)
    have hfw : fb ≠ wb := by omega
    have HRow : Hid (RowOf w0 oa (h.all.map intV)) := qh (hAll.ext hP11 (fun _ _ => id))
    have HPw := qh (fun W (hE : Ext (fun i => i = wb) w0 W) k (hk' : k < n) => HPg3.out W (hP11.trans hE (fun i hi e => by have e' : i = wb := e; omega)) k hk')
    have HP0 : Hid (Pure w w0) := qh (hP3.pure hP11)
    have hl0 : ([] : List Bool).length ≤ 0 := Nat.le_refl _
    clear hPc hW11 hL11 hS11 hP11 hAll hAll9 hP3 HPg HPg3 HC3
    have cpc := T0.ext.cell_some HPC.out hpcn
    have csb := T0.ext.cell_some HSB.out hsw
    have clb := T0.ext.cell_some HLB.out hlw
    have cfb := T0.ext.cell_some HFB.out hfw
    have HPut := qh (fun (W : World) ab (hab : W.heap.size = ab) (hT : WSt w0 wb ([] : List Bool) W) => wsputc hT pc ab 2 2 32 [lo, a] #[.int .i64 lo, .int .i64 a] rfl hab rfl HPC.out hpcn (by omega) (by omega) (by omega) (by intro x hx; simp at hx; omega))
    skip
    refine (HPut.out _ _ hz0 T0).mono ?_
    rintro e v1 ⟨rfl, T1⟩
    clear HPut
    obtain ⟨q1, hbn⟩ : ∃ z, z = ([] : List Bool) ++ numsB [lo, a] 32 := ⟨_, rfl⟩
    rw [← hbn] at T1
    have hl1 : q1.length ≤ 64 := by rw [hbn, List.length_append, numsB_len]; simp only [List.length_cons, List.length_nil] at hl0 ⊢; omega
    have HQ1 := qh hbn
    clear hbn T0 cpc csb clb cfb
    have cpc := T1.ext.cell_some HPC.out hpcn
    have csb := T1.ext.cell_some HSB.out hsw
    have clb := T1.ext.cell_some HLB.out hlw
    have cfb := T1.ext.cell_some HFB.out hfw
    have HPut := qh (fun (W : World) ab (hab : W.heap.size = ab) (hT : WSt w0 wb q1 W) => wsputc hT pc ab 1 1 16 [wa] #[.int .i64 wa] rfl hab rfl HPC.out hpcn (by omega) (by omega) (by omega) (by intro x hx; simp at hx; omega))
    go_wp2_with fail
    refine (HPut.out _ _ rfl T1).mono ?_
    rintro e v2 ⟨rfl, T2⟩
    clear HPut
    obtain ⟨q2, hbn⟩ : ∃ z, z = q1 ++ numsB [wa] 16 := ⟨_, rfl⟩
    rw [← hbn] at T2
    have hl2 : q2.length ≤ 80 := by rw [hbn, List.length_append, numsB_len]; simp only [List.length_cons, List.length_nil] at hl1 ⊢; omega
    have HQ2 := qh hbn
    clear hbn T1 cpc csb clb cfb
    have cpc := T2.ext.cell_some HPC.out hpcn
    have csb := T2.ext.cell_some HSB.out hsw
    have clb := T2.ext.cell_some HLB.out hlw
    have cfb := T2.ext.cell_some HFB.out hfw
    have HPut := qh (fun (W : World) ab (hab : W.heap.size = ab) (hT : WSt w0 wb q2 W) => wsputc hT pc ab 1 1 32 [sh] #[.int .i64 sh] rfl hab rfl HPC.out hpcn (by omega) (by omega) (by omega) (by intro x hx; simp at hx; omega))
    go_wp2_with fail
    refine (HPut.out _ _ rfl T2).mono ?_
    rintro e v3 ⟨rfl, T3⟩
    clear HPut
    obtain ⟨q3, hbn⟩ : ∃ z, z = q2 ++ numsB [sh] 32 := ⟨_, rfl⟩
    rw [← hbn] at T3
    have hl3 : q3.length ≤ 112 := by rw [hbn, List.length_append, numsB_len]; simp only [List.length_cons, List.length_nil] at hl2 ⊢; omega
    have HQ3 := qh hbn
    clear hbn T2 cpc csb clb cfb
    have cpc := T3.ext.cell_some HPC.out hpcn
    have csb := T3.ext.cell_some HSB.out hsw
    have clb := T3.ext.cell_some HLB.out hlw
    have cfb := T3.ext.cell_some HFB.out hfw
    have HPut := qh (fun (W : World) ab (hab : W.heap.size = ab) (hT : WSt w0 wb q3 W) => wsputc hT pc ab 1 1 16 [wbb] #[.int .i64 wbb] rfl hab rfl HPC.out hpcn (by omega) (by omega) (by omega) (by intro x hx; simp at hx; omega))
    go_wp2_with fail
    refine (HPut.out _ _ rfl T3).mono ?_
    rintro e v4 ⟨rfl, T4⟩
    clear HPut
    obtain ⟨q4, hbn⟩ : ∃ z, z = q3 ++ numsB [wbb] 16 := ⟨_, rfl⟩
    rw [← hbn] at T4
    have hl4 : q4.length ≤ 128 := by rw [hbn, List.length_append, numsB_len]; simp only [List.length_cons, List.length_nil] at hl3 ⊢; omega
    have HQ4 := qh hbn
    clear hbn T3 cpc csb clb cfb
    have cpc := T4.ext.cell_some HPC.out hpcn
    have csb := T4.ext.cell_some HSB.out hsw
    have clb := T4.ext.cell_some HLB.out hlw
    have cfb := T4.ext.cell_some HFB.out hfw
    have HPut := qh (fun (W : World) ab (hab : W.heap.size = ab) (hT : WSt w0 wb q4 W) => wsputc hT pc ab 1 1 32 [0] #[.int .i64 0] rfl hab rfl HPC.out hpcn (by omega) (by omega) (by omega) (by intro x hx; simp at hx; omega))
    go_wp2_with fail
    refine (HPut.out _ _ rfl T4).mono ?_
    rintro e v5 ⟨rfl, T5⟩
    clear HPut
    obtain ⟨q5, hbn⟩ : ∃ z, z = q4 ++ numsB [0] 32 := ⟨_, rfl⟩
    rw [← hbn] at T5
    have hl5 : q5.length ≤ 160 := by rw [hbn, List.length_append, numsB_len]; simp only [List.length_cons, List.length_nil] at hl4 ⊢; omega
    have HQ5 := qh hbn
    clear hbn T4 cpc csb clb cfb
    have cpc := T5.ext.cell_some HPC.out hpcn
    have csb := T5.ext.cell_some HSB.out hsw
    have clb := T5.ext.cell_some HLB.out hlw
    have cfb := T5.ext.cell_some HFB.out hfw
    have HPut := qh (fun (W : World) ab (hab : W.heap.size = ab) (hT : WSt w0 wb q5 W) => wsputc hT pc ab 1 1 16 [0] #[.int .i64 0] rfl hab rfl HPC.out hpcn (by omega) (by omega) (by omega) (by intro x hx; simp at hx; omega))
    go_wp2_with fail
    refine (HPut.out _ _ rfl T5).mono ?_
    rintro e v6 ⟨rfl, T6⟩
    clear HPut
    obtain ⟨q6, hbn⟩ : ∃ z, z = q5 ++ numsB [0] 16 := ⟨_, rfl⟩
    rw [← hbn] at T6
    have hl6 : q6.length ≤ 176 := by rw [hbn, List.length_append, numsB_len]; simp only [List.length_cons, List.length_nil] at hl5 ⊢; omega
    have HQ6 := qh hbn
    clear hbn T5 cpc csb clb cfb
    have cpc := T6.ext.cell_some HPC.out hpcn
    have csb := T6.ext.cell_some HSB.out hsw
    have clb := T6.ext.cell_some HLB.out hlw
    have cfb := T6.ext.cell_some HFB.out hfw
    have HPut := qh (fun (W : World) ab (hab : W.heap.size = ab) (hT : WSt w0 wb q6 W) => wsputc hT pc ab 1 1 32 [0] #[.int .i64 0] rfl hab rfl HPC.out hpcn (by omega) (by omega) (by omega) (by intro x hx; simp at hx; omega))
    go_wp2_with fail
    refine (HPut.out _ _ rfl T6).mono ?_
    rintro e v7 ⟨rfl, T7⟩
    clear HPut
    obtain ⟨q7, hbn⟩ : ∃ z, z = q6 ++ numsB [0] 32 := ⟨_, rfl⟩
    rw [← hbn] at T7
    have hl7 : q7.length ≤ 208 := by rw [hbn, List.length_append, numsB_len]; simp only [List.length_cons, List.length_nil] at hl6 ⊢; omega
    have HQ7 := qh hbn
    clear hbn T6 cpc csb clb cfb
    have cpc := T7.ext.cell_some HPC.out hpcn
    have csb := T7.ext.cell_some HSB.out hsw
    have clb := T7.ext.cell_some HLB.out hlw
    have cfb := T7.ext.cell_some HFB.out hfw
    have HPut := qh (fun (W : World) ab (hab : W.heap.size = ab) (hT : WSt w0 wb q7 W) => wsputc hT pc ab 5 5 16 [0, wc, wd, 0, 1] #[.int .i64 0, .int .i64 wc, .int .i64 wd, .int .i64 0, .int .i64 1] rfl hab rfl HPC.out hpcn (by omega) (by omega) (by omega) (by intro x hx; simp at hx; omega))
    go_wp2_with fail
    refine (HPut.out _ _ rfl T7).mono ?_
    rintro e v8 ⟨rfl, T8⟩
    clear HPut
    obtain ⟨q8, hbn⟩ : ∃ z, z = q7 ++ numsB [0, wc, wd, 0, 1] 16 := ⟨_, rfl⟩
    rw [← hbn] at T8
    have hl8 : q8.length ≤ 288 := by rw [hbn, List.length_append, numsB_len]; simp only [List.length_cons, List.length_nil] at hl7 ⊢; omega
    have HQ8 := qh hbn
    clear hbn T7 cpc csb clb cfb
    have HHd : Hid (q8 = headB a h rest0) := qh (by
     rw [HQ8.out, HQ7.out, HQ6.out, HQ5.out, HQ4.out, HQ3.out, HQ2.out, HQ1.out]
     unfold headB HN.wa HN.wb
     rw [← HLO.out, ← HSH.out, ← HWa.out, ← HWb.out, ← HWc.out, ← HWd.out]
     simp [numsB, rest0, RestN.x])
    clear HQ1 HQ2 HQ3 HQ4 HQ5 HQ6 HQ7 HQ8 hl0 hl1 hl2 hl3 hl4 hl5 hl6 hl7
    have cpc := T8.ext.cell_some HPC.out hpcn
    have csb := T8.ext.cell_some HSB.out hsw
    have clb := T8.ext.cell_some HLB.out hlw
    have cfb := T8.ext.cell_some HFB.out hfw
    obtain ⟨g1, hgn⟩ : ∃ z, z = align (q8 ++ numsB (HN.above h.os) wa) := ⟨_, rfl⟩
    have hg1 : g1.length ≤ 1576 := by
     rw [hgn, align_length, List.length_append, numsB_len, (show (HN.above h.os).length = n by unfold HN.above; rw [List.length_map]; exact HNL.out)]
     have := Nat.mul_le_mul hn40 hwal
     omega
    have HRw := qh (fun (W : World) (hT : WSt w0 wb q8 W) => (by have hr := row_obj ad c n h w0 W wb q8 HPw hn40 (by unfold HN.above; rw [List.length_map]; exact HNL.out) hT (by omega) lb (fun x hx => (HOK.out.os x hx).2) (by rw [← HLO.out]; exact HLB.out) hlw; rw [show h.wa = wa from HWa.out.symm, ← hgn] at hr; exact hr : Calls Tryz.prog _ _ W (DoneTo w0 wb g1)))
    have HG1 := qh hgn
    clear hgn
    go_wp2_with fail
    refine (HRw.out _ T8).mono ?_
    rintro e x1 ⟨rfl, U1⟩
    clear HRw T8 cpc csb clb cfb
    have cpc := U1.ext.cell_some HPC.out hpcn
    have csb := U1.ext.cell_some HSB.out hsw
    have clb := U1.ext.cell_some HLB.out hlw
    have cfb := U1.ext.cell_some HFB.out hfw
    obtain ⟨g2, hgn⟩ : ∃ z, z = align (g1 ++ numsB (HN.above h.ls) wbb) := ⟨_, rfl⟩
    have hg2 : g2.length ≤ 2864 := by
     rw [hgn, align_length, List.length_append, numsB_len, (show (HN.above h.ls).length = n by unfold HN.above; rw [List.length_map, HOK.out.ll]; exact HNL.out)]
     have := Nat.mul_le_mul hn40 hwbl
     omega
    have HRw := qh (fun (W : World) (hT : WSt w0 wb g1 W) => (by have hr := row_len ad c n h w0 W wb g1 HPw hn40 (by unfold HN.above; rw [List.length_map, HOK.out.ll]; exact HNL.out) hT (by omega) sb (fun x hx => (HOK.out.ls x hx).2) (by rw [← HSH.out]; exact HSB.out) hsw; rw [show h.wb = wbb from HWb.out.symm, ← hgn] at hr; exact hr : Calls Tryz.prog _ _ W (DoneTo w0 wb g2)))
    have HG2 := qh hgn
    clear hgn
    go_wp2_with fail
    refine (HRw.out _ U1).mono ?_
    rintro e x2 ⟨rfl, U2⟩
    clear HRw U1 cpc csb clb cfb
    have cpc := U2.ext.cell_some HPC.out hpcn
    have csb := U2.ext.cell_some HSB.out hsw
    have clb := U2.ext.cell_some HLB.out hlw
    have cfb := U2.ext.cell_some HFB.out hfw
    obtain ⟨g3, hgn⟩ : ∃ z, z = align (g2 ++ numsB h.counts wc) := ⟨_, rfl⟩
    have hg3 : g3.length ≤ 4152 := by
     rw [hgn, align_length, List.length_append, numsB_len, (show h.counts.length = n by unfold HN.counts; rw [List.length_map, HOK.out.lsh]; exact HNL.out)]
     have := Nat.mul_le_mul hn40 hwcl
     omega
    have HRw := qh (fun (W : World) (hT : WSt w0 wb g2 W) => (by have hr := row_cnt ad c n h w0 W wb g2 HPw hn40 (by unfold HN.counts; rw [List.length_map, HOK.out.lsh]; exact HNL.out) hT (by omega) HCT.out; rw [show h.wc = wc from HWc.out.symm, ← hgn] at hr; exact hr : Calls Tryz.prog _ _ W (DoneTo w0 wb g3)))
    have HG3 := qh hgn
    clear hgn
    go_wp2_with fail
    refine (HRw.out _ U2).mono ?_
    rintro e x3 ⟨rfl, U3⟩
    clear HRw U2 cpc csb clb cfb
    have cpc := U3.ext.cell_some HPC.out hpcn
    have csb := U3.ext.cell_some HSB.out hsw
    have clb := U3.ext.cell_some HLB.out hlw
    have cfb := U3.ext.cell_some HFB.out hfw
    obtain ⟨g4, hgn⟩ : ∃ z, z = align (g3 ++ numsB h.all wd) := ⟨_, rfl⟩
    have hg4 : g4.length ≤ 2200000 := by
     rw [hgn, align_length, List.length_append, numsB_len, (show h.all.length = m from HMl.out.symm)]
     have := Nat.mul_le_mul (show m ≤ 65536 by rw [HMl.out]; exact HMany.out) hwdl
     omega
    have HRw := qh (fun (W : World) (hT : WSt w0 wb g3 W) => (by have hr := row_int oa oc m h.all w0 W wb g3 wd HRow.out hOw (by rw [HMl.out]; exact HMany.out) HMl.out.symm hT (by omega) (fun x hx => ⟨HOK.out.sh x hx, by rw [HWd.out]; exact Nat.lt_of_le_of_lt (le_mx hx) (lt_wid _)⟩) hwdl; rw [show wd = wd from rfl, ← hgn] at hr; exact hr : Calls Tryz.prog _ _ W (DoneTo w0 wb g4)))
    have HG4 := qh hgn
    clear hgn
    go_wp2_with fail
    refine (HRw.out _ U3).mono ?_
    rintro e x4 ⟨rfl, U4⟩
    clear HRw U3 cpc csb clb cfb
    have HG5 : Hid (g4 = tabB a h rest0) := qh (by
     have e1 : g1 = part1 a h rest0 := by rw [HG1.out, HHd.out, HWa.out]; rfl
     have e2 : g2 = part2 a h rest0 := by rw [HG2.out, e1, HWb.out]; rfl
     have e3 : g3 = part3 a h rest0 := by rw [HG3.out, e2, HWc.out]; rfl
     rw [tabB_plain, HG4.out, e3, HWd.out]; rfl)
    have hwwb : w.heap.size ≤ wb := by omega
    have cpc := U4.ext.cell_some HPC.out hpcn
    have hE4 := U4.ext
    obtain ⟨ya, yc, hWr, _, _, _⟩ := U4
    have hP4 : Pure w x4 := HP0.out.trans hE4 (fun i hi e => by have e' : i = wb := e; omega)
    have HBy := qh (bytes_any wb true g4 ya yc x4 hWr (by omega))
    clear hWr hE4
    go_wp2_with fail
    refine HBy.out.mono ?_
    rintro e x5 ⟨ra, rc, rfl, hN⟩
    go_wp2_with fail
    go_ret2
    rw [HG5.out, ← HB.out] at hN
    rw [HG5.out, ← HB.out]
    exact ⟨ra, rc, by rw [HZ.out]; rfl, hN.bytes, hP4.pure hN.ext, hN.nil, fun g hg => Nat.le_trans hP4.size (hN.fresh g hg), hN.lt, hN.le, hN.most⟩
theorem encode_any (a : Int) (ad : Option Addr) (c : Nat) (ps : List PH) (w : World) (h : Hints w ad ps) (hm : Mod ps) :
 Calls Tryz.prog 20 #[.int .i64 a, .slice ad ps.length c] w (EncTo a ps w) := by
 by_cases hz : chk a ps = 0
 ·have hk := chk_ok hz hm
  have e1 : a = (a.toNat : Int) := by have := hk.a; omega
  have key := encode_yes a.toNat ad c ps w h hm (by rw [← e1]; exact hz)
  rw [← e1] at key
  exact key
 ·have HC0 := check_any a ad c ps w h hm
  have hB : encB a ps = [] := if_neg hz
  have hne : (chk a ps != 0) = true := by simpa using hz
  unfold IntRes at HC0
  obtain ⟨E, hE⟩ : ∃ E, E = chk a ps := ⟨_, rfl⟩
  rw [← hE] at HC0 hne
  have HC := qh HC0
  have HB := qh hB
  have HE := qh hE
  clear HC0 hB hz hE h
  go_enter Tryz.func20, Tryz.ntmps20
  go_wp2_with fail
  refine HC.out.mono ?_
  rintro e w2 ⟨rfl, hP2⟩
  go_wp2_with fail
  go_ret2
  refine ⟨none, 0, by rw [HB.out, ← HE.out]; rfl, ?_⟩
  rw [HB.out]
  exact new_nil hP2
end Go.Proofs.YtomcdhljjmnahaaGreat.P26
namespace Go.Proofs.YtomcdhljjmnahaaGreat.P26
open Go.RowKit
def pv (p : PH) : Int × Int × List Int := (p.o, p.l, p.sh)
def SameRes (b : Bool) (w : World) (e : Ending) (w' : World) : Prop := e = .returned (.bool b) ∧ Pure w w'
theorem alike_no {ps qs : List PH} {k : Nat} (h : k < ps.length) (h' : k < qs.length) (hne : pv ps[k] ≠ pv qs[k]) : alikeB ps qs = false := by
 apply decide_eq_false
 intro e
 apply hne
 have := congrArg (fun l => l[k]?) e
 simpa [h, h', pv] using this
theorem alike_yes {ps qs : List PH} {k : Nat} (hk : ps.length ≤ k) (hl : ps.length = qs.length) (h : (ps.map pv).take k = (qs.map pv).take k) : alikeB ps qs = true := by
 apply decide_eq_true
 rw [List.take_of_length_le (by simpa using hk), List.take_of_length_le (by simp; omega)] at h
 exact h
theorem alike_take {ps qs : List PH} {k : Nat} (h : k < ps.length) (h' : k < qs.length) (ht : (ps.map pv).take k = (qs.map pv).take k) (hx : pv ps[k] = pv qs[k]) : (ps.map pv).take (k + 1) = (qs.map pv).take (k + 1) := by
 rw [List.take_succ_eq_append_getElem (by simpa using h), List.take_succ_eq_append_getElem (by simpa using h'), ht, List.getElem_map, List.getElem_map, hx]
theorem take_eq {l m : List Int} {k : Nat} (h : k < l.length) (h' : k < m.length) (he : l.take k = m.take k) (hx : l[k] = m[k]) : l.take (k + 1) = m.take (k + 1) := by
 rw [List.take_succ_eq_append_getElem h, List.take_succ_eq_append_getElem h', he, hx]
theorem alike_refl (ps qs : List PH) (h : ps.map pv = qs.map pv) : alikeB ps qs = true := decide_eq_true h
set_option maxHeartbeats 2000000 in
theorem same_any (ad : Option Addr) (c : Nat) (ps : List PH) (ae : Option Addr) (d : Nat) (qs : List PH) (w : World) (hp : Hints w ad ps) (hq : Hints w ae qs) (hl : (ps.length : Int) ≤ 9223372036854775807) (hm : (qs.length : Int) ≤ 9223372036854775807) :
 Calls Tryz.prog 50 #[.slice ad ps.length c, .slice ae qs.length d] w (SameRes (alikeB ps qs) w) := by
 obtain ⟨B, hB⟩ : ∃ B, B = alikeB ps qs := ⟨_, rfl⟩
 rw [← hB]
 by_cases hlen : ps.length = qs.length
 ·have hne : ((ps.length : Int) != (qs.length : Int)) = false := by simp; omega
  have HB := qh hB
  have HL := qh hlen
  have h1 : ps.length ≤ qs.length := by omega
  have h2 : qs.length ≤ ps.length := by omega
  clear hB hlen
  go_enter Tryz.func50, Tryz.ntmps50
  go_wp2_with fail
  go_loopw [5, 6] (fun i _ W => ∃ k : Nat, k ≤ ps.length ∧ i = .int .i64 k ∧ Hid ((ps.map pv).take k = (qs.map pv).take k) ∧ Pure w W) (fun i _ _ => ps.length - (intOf i).toNat)
  case atStart => exact ⟨0, Nat.zero_le _, rfl, qh (by simp), Ext.refl _ _⟩
  case round =>
   obtain ⟨k, hk, rfl, HT, hP⟩ := hrel
   by_cases hlt : k < ps.length
   ·have hki : (k : Int) < (ps.length : Int) := by omega
    have hkq : k < qs.length := by omega
    have hkj : (k : Int) < (qs.length : Int) := by omega
    obtain ⟨b, o, had, p0, p1, p2⟩ := (hp.pure hP).at k hlt
    obtain ⟨b', o', hae, q0, q1, q2⟩ := (hq.pure hP).at k hkq
    have hrp := hp.sub _ (List.getElem_mem hlt)
    have hrq := hq.sub _ (List.getElem_mem hkq)
    have hfp := (hp.fit _ (List.getElem_mem hlt)).2.1
    have hfq := (hq.fit _ (List.getElem_mem hkq)).2.1
    have hgp := (hp.fit _ (List.getElem_mem hlt)).1
    have hgq := (hq.fit _ (List.getElem_mem hkq)).1
    obtain ⟨p, hpp⟩ : ∃ p, p = ps[k] := ⟨_, rfl⟩
    obtain ⟨q, hqq⟩ : ∃ q, q = qs[k] := ⟨_, rfl⟩
    rw [← hpp] at p0 p1 p2 hrp hfp hgp
    rw [← hqq] at q0 q1 q2 hrq hfq hgq
    have HPP := qh hpp
    have HQQ := qh hqq
    obtain ⟨pn, hpn⟩ : ∃ n, n = p.sh.length := ⟨_, rfl⟩
    obtain ⟨qn, hqn⟩ : ∃ n, n = q.sh.length := ⟨_, rfl⟩
    have HPN := qh hpn
    have HQN := qh hqn
    unfold maxLen at hfp hfq
    rw [← hpn] at p2 hgp
    rw [← hqn] at q2 hgq
    subst had hae
    obtain ⟨po, hpo⟩ : ∃ x, x = p.o := ⟨_, rfl⟩
    obtain ⟨qo, hqo⟩ : ∃ x, x = q.o := ⟨_, rfl⟩
    obtain ⟨pl, hpl⟩ : ∃ x, x = p.l := ⟨_, rfl⟩
    obtain ⟨ql, hql⟩ : ∃ x, x = q.l := ⟨_, rfl⟩
    rw [← hpo] at p0
    rw [← hqo] at q0
    rw [← hpl] at p1
    rw [← hql] at q1
    have HNo : ∀ (h : pv p ≠ pv q), alikeB ps qs = false := fun h => alike_no hlt hkq (by rw [← HPP.out, ← HQQ.out]; exact h)
    by_cases c0 : po = qo
    ·have e0 : (po != qo) = false := by simp [c0]
     by_cases c1 : pl = ql
     ·have e1 : (pl != ql) = false := by simp [c1]
      by_cases c2 : pn = qn
      ·have e2 : ((pn : Int) != (qn : Int)) = false := by simp; omega
       have HOL : Hid (p.o = q.o ∧ p.l = q.l) := qh ⟨by rw [← hpo, ← hqo]; exact c0, by rw [← hpl, ← hql]; exact c1⟩
       have HNN : Hid (pn = qn) := qh c2
       have h3 : pn ≤ qn := by omega
       have h4 : qn ≤ pn := by omega
       have HNO := qh HNo
       have HHP := qh hp
       have HHQ := qh hq
       have HRP := qh hrp
       have HRQ := qh hrq
       clear c0 c1 c2 hpp hqq hpn hqn hpo hqo hpl hql hp hq HNo hrp hrq
       go_wp2_with fail
       go_quiet (fail)
       go_wp2_with fail
       obtain ⟨wo, hwo⟩ : ∃ W : World, W = wr.drewN nq := ⟨_, rfl⟩
       have hPo : Pure wr wo := hwo ▸ (Ext.refl (fun _ => False) wr).drewN nq
       rw [← hwo]
       clear hwo
       go_loopw [6] (fun i W => ∃ j : Nat, j ≤ pn ∧ i = .int .i64 j ∧ Hid (p.sh.take j = q.sh.take j) ∧ Pure wr W) (fun i _ => pn - (intOf i).toNat)
       case atStart => exact ⟨0, Nat.zero_le _, rfl, qh (by simp), hPo⟩
       case round =>
        obtain ⟨j, hj, rfl, HU, hPj⟩ := hrel
        have x2 := hPj.cell_some p2 id
        have y2 := hPj.cell_some q2 id
        by_cases hjt : j < pn
        ·have hji : (j : Int) < (pn : Int) := by omega
         have hjn : j < qn := by omega
         have hjm : (j : Int) < (qn : Int) := by omega
         obtain ⟨sb, so, hsa, hsc⟩ := numV_at ((HRP.out.ext hP (fun _ _ => id)).ext hPj (fun _ _ => id)) j (by rw [← HPN.out]; exact hjt)
         obtain ⟨sb', so', hsa', hsc'⟩ := numV_at ((HRQ.out.ext hP (fun _ _ => id)).ext hPj (fun _ _ => id)) j (by rw [← HQN.out]; exact hjn)
         obtain ⟨x, hx⟩ : ∃ x, x = p.sh[j]'(by rw [← HPN.out]; exact hjt) := ⟨_, rfl⟩
         obtain ⟨y, hy⟩ : ∃ x, x = q.sh[j]'(by rw [← HQN.out]; exact hjn) := ⟨_, rfl⟩
         rw [← hx] at hsc
         rw [← hy] at hsc'
         rw [hsa] at x2
         rw [hsa'] at y2
         have HX := qh hx
         have HY := qh hy
         clear hx hy hsa hsa'
         by_cases hxy : x = y
         ·have hE : (x != y) = false := by simp [hxy]
          have HS : Hid (p.sh.take (j + 1) = q.sh.take (j + 1)) := qh (take_eq (by rw [← HPN.out]; exact hjt) (by rw [← HQN.out]; exact hjn) HU.out (by rw [← HX.out, ← HY.out, hxy]))
          clear hxy p0 p1 p2 q0 q1 q2
          go_wp2_with fail
          go_quiet (fail)
          go_wp2_with fail
          go_roundw
          case rel => exact ⟨j + 1, by omega, by go_num, HS, hPj.drewN _⟩
          case measure => simp [intOf]; omega
         ·have hE : (x != y) = true := by simp [hxy]
          have HF : Hid (alikeB ps qs = false) := qh (HNO.out (fun e => hxy (by
           have e2 : p.sh = q.sh := congrArg (fun z => z.2.2) e
           rw [HX.out, HY.out]; simp only [e2])))
          clear hxy p0 p1 p2 q0 q1 q2
          go_wp2_with fail
          go_quiet (fail)
          go_wp2_with fail
          go_ret
          exact ⟨by rw [HB.out, HF.out]; rfl, hP.pure (hPj.drewN _)⟩
        ·have hji : ¬ (j : Int) < (pn : Int) := by omega
         have HS : Hid ((ps.map pv).take (k + 1) = (qs.map pv).take (k + 1)) := qh (alike_take hlt hkq HT.out (by
          rw [← HPP.out, ← HQQ.out]
          have e1 := HPN.out
          have e2 := HQN.out
          have e3 := HU.out
          rw [List.take_of_length_le (by omega), List.take_of_length_le (by omega)] at e3
          unfold pv
          rw [HOL.out.1, HOL.out.2, e3]))
         clear p0 p1 p2 q0 q1 q2
         go_wp2_with fail
         go_roundw
         case rel => exact ⟨k + 1, by omega, by go_num, HS, hP.pure hPj⟩
         case measure => simp [intOf]; omega
      ·have e2 : ((pn : Int) != (qn : Int)) = true := by simp; omega
       have HF : Hid (alikeB ps qs = false) := qh (HNo (fun e => c2 (by
        have e2 : p.sh = q.sh := congrArg (fun z => z.2.2) e
        rw [hpn, hqn, e2])))
       clear c0 c1 c2 hpp hqq hpn hqn hpo hqo hpl hql hp hq HNo hrp hrq
       go_wp2_with fail
       go_quiet (fail)
       go_wp2_with fail
       go_ret
       exact ⟨by rw [HB.out, HF.out]; rfl, hP.drewN _⟩
     ·have e1 : (pl != ql) = true := by simp [c1]
      have HF : Hid (alikeB ps qs = false) := qh (HNo (fun e => c1 (by
       rw [hpl, hql]; exact congrArg (fun z => z.2.1) e)))
      clear c0 c1 hpp hqq hpn hqn hpo hqo hpl hql hp hq HNo hrp hrq
      go_wp2_with fail
      go_quiet (fail)
      go_wp2_with fail
      go_ret
      exact ⟨by rw [HB.out, HF.out]; rfl, hP.drewN _⟩
    ·have e0 : (po != qo) = true := by simp [c0]
     have HF : Hid (alikeB ps qs = false) := qh (HNo (fun e => c0 (by
      rw [hpo, hqo]; exact congrArg (fun z => z.1) e)))
     clear c0 hpp hqq hpn hqn hpo hqo hpl hql hp hq HNo hrp hrq
     go_wp2_with fail
     go_quiet (fail)
     go_wp2_with fail
     go_ret
     exact ⟨by rw [HB.out, HF.out]; rfl, hP.drewN _⟩
   ·have hki : ¬ (k : Int) < (ps.length : Int) := by omega
    have HF : Hid (alikeB ps qs = true) := qh (alike_yes (by omega) HL.out HT.out)
    clear hp hq
    go_wp2_with fail
    go_ret
    exact ⟨by rw [HB.out, HF.out]; rfl, hP⟩
 ·have hne : ((ps.length : Int) != (qs.length : Int)) = true := by simp; omega
  have HF : Hid (alikeB ps qs = false) := qh (decide_eq_false (fun e => hlen (by have := congrArg List.length e; simpa using this)))
  have HB := qh hB
  clear hlen hB
  go_enter Tryz.func50, Tryz.ntmps50
  go_wp2_with fail
  go_ret
  exact ⟨by rw [HB.out, HF.out]; rfl, Ext.refl _ _⟩
end Go.Proofs.YtomcdhljjmnahaaGreat.P26
namespace Go.Proofs.YtomcdhljjmnahaaGreat.P26
open Go.RowKit C26
end Go.Proofs.YtomcdhljjmnahaaGreat.P26
namespace Go.Proofs.YtomcdhljjmnahaaGreat.P26
open Go.ChangeShapes Go.WideShapes Go.ChangeAt Go.RowKit C26
