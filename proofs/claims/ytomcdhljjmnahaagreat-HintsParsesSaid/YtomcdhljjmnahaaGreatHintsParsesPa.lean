import Derived.Test.YtomcdhljjmnahaaGreatOpenHPa
import Derived.Test.YtomcdhljjmnahaaGreatRefParPa
import Derived.Test.YtomcdhljjmnahaaGreatSqPa
set_option linter.unusedVariables false
set_option linter.unusedSimpArgs false
set_option maxRecDepth 100000
namespace Go.Proofs.YtomcdhljjmnahaaGreat.hintsParses
open Go.ChangeShapes Go.WideShapes Go.ChangeAt Go.RowKit Go.Proofs.YtomcdhljjmnahaaGreat
theorem par_one {o : Ob} {l : LT} {h k : HT} {er fr : Int} (hp : ParP o l h er) (hq : ParP o l k fr) : er = fr ∧ Alike h k := by
 rcases hp with ⟨hn, rfl, rfl⟩ | ⟨hy, hp⟩
 ·rcases hq with ⟨_, rfl, rfl⟩ | ⟨hy, _⟩
  ·exact ⟨rfl, Alike.refl _⟩
  ·exact absurd hy hn
 ·rcases hq with ⟨hn, _⟩ | ⟨_, hq⟩
  ·exact absurd hy hn
  ·rcases hp with ⟨rfl, rfl, d, hd, he⟩ | ⟨rfl, rfl, r, hr, he⟩ | ⟨d, r, qs, hd, he, hr, hf, hqs, hl⟩
   ·rcases hq with ⟨rfl, rfl, _⟩ | ⟨rfl, rfl, _⟩ | ⟨d', r', qs', hd', he', _⟩
    ·exact ⟨rfl, Alike.refl _⟩
    ·exact ⟨rfl, Alike.refl _⟩
    ·exact absurd (P26.dec_unique hd hd' ▸ he') he
   ·rcases hq with ⟨rfl, rfl, _⟩ | ⟨rfl, rfl, _⟩ | ⟨d', r', qs', hd', he', hr', hf', _⟩
    ·exact ⟨rfl, Alike.refl _⟩
    ·exact ⟨rfl, Alike.refl _⟩
    ·exact absurd (S27.dec_unique hr hr' ▸ hf') he
   ·rcases hq with ⟨rfl, rfl, d', hd', he'⟩ | ⟨rfl, rfl, r', hr', he'⟩ | ⟨d', r', qs', hd', he', hr', hf', hqs', hl'⟩
    ·exact absurd (P26.dec_unique hd' hd ▸ he) he'
    ·exact absurd (S27.dec_unique hr' hr ▸ hf) he'
    ·obtain rfl := P26.dec_unique hd hd'
     obtain rfl := S27.dec_unique hr hr'
     have hal : Alike (hOf l d qs r) (hOf l d qs' r) := ⟨rfl, rfl, hqs.trans hqs'.symm, rfl, rfl, rfl, rfl⟩
     have hce := chk_alike hal l
     rcases hl with ⟨h1, rfl, rfl⟩ | ⟨h1, rfl, rfl⟩ <;> rcases hl' with ⟨h2, rfl, rfl⟩ | ⟨h2, rfl, rfl⟩
     ·exact ⟨rfl, hal⟩
     ·exact absurd (hce.symm.trans h1) h2
     ·exact absurd (hce.trans h2) h1
     ·exact ⟨rfl, Alike.refl _⟩
set_option maxHeartbeats 4000000 in
theorem walk (d0 : Nat) (o : Ob) (os : List Value) (l : LT) (w : World) (hO0 : ObjIs w d0 o os) :
 Calls Tryz.prog 5 #[.agg os.toArray, .agg (lC l).toArray] w fun e w' => e = .returned (.bool true) ∧ Below w.heap.size w w' := by
 obtain ⟨vs, hos, hL0⟩ := hO0
 have hL := hL0.more
 have hO : ObjIs w (d0 + 1) o os := ⟨vs, hos, hL⟩
 have HFw := qh (fun W (hP : Pure w W) => V11.obfew_any d0 o vs W (hL0.pure hP) 400)
 rw [← hos] at HFw
 have HP1 := qh (fun W (hP : Pure w W) (hf : V11.obFew o 400 = true) => parse_any d0 o os l W (hO.pure hP) (by have := (V11.obfew_in hf).1; omega) (by have := (V11.obfew_in hf).2; omega))
 have HP2 := qh (fun W (hP : Pure w W) (hf : V11.obFew o 400 = true) => refparse_any d0 o os l W (hO.pure hP) (by have := (V11.obfew_in hf).1; omega) (by have := (V11.obfew_in hf).2; omega))
 have HO6 : Hid (os.length = 6) := qh hO.len
 obtain ⟨ds, hds⟩ : ∃ z, z = lC l := ⟨_, rfl⟩
 have HM7 : Hid (ds.length = 7) := qh (by rw [hds]; rfl)
 rw [← hds] at HP1 HP2
 rw [← hds]
 obtain ⟨w2, hw2⟩ : ∃ z, z = ((w.alloc (.cells os.toArray 32)).alloc (.cells ds.toArray 40)) := ⟨_, rfl⟩
 obtain ⟨tb, htb⟩ : ∃ z, z = w.heap.size := ⟨_, rfl⟩
 have hPw : Pure w w2 := hw2 ▸ (show Pure w (w.alloc (.cells os.toArray 32)) from ext_alloc w _).pure (ext_alloc _ _)
 have hB1 : BlockIs w2 tb os 32 := by rw [hw2, htb]; exact (BlockIs.new w os 32).alloc _
 have hB2 : BlockIs w2 (tb + 1) ds 40 := by
  have hh := BlockIs.new (w.alloc (.cells os.toArray 32)) ds 40
  rw [World.size_alloc] at hh
  rw [hw2, htb]; exact hh
 have HW : Hid (((w.alloc (.cells os.toArray 32)).alloc (.cells ds.toArray 40)) = w2) := qh hw2.symm
 have HTb := qh htb
 have HRo : Hid (((w.alloc (.cells os.toArray 32)).alloc (.cells ds.toArray 40)).rangeAt w.heap.size 0 os) := qh (by rw [HW.out, ← htb]; exact hB1.range)
 obtain ⟨fw, hfw⟩ : ∃ z, z = V11.obFew o 400 := ⟨_, rfl⟩
 rw [← hfw] at HFw HP1 HP2
 clear hfw hw2 htb hds hos hL0 hL hO
 go_enter Tryz.func5, Tryz.ntmps5
 go_wp2_with (with_reducible refine V11.at_load 32 (.tmp 2) ?_; refine wpList_load_mid rfl 32 (.tmp 2) rfl w.heap.size 0 rfl os _ HRo.out Tryz.underlying32 rfl (sz42 HO6.out) ?_)
 rw [HW.out, ← HTb.out]
 refine (HFw.out w2 hPw).mono ?_
 rintro e w3 ⟨rfl, hP⟩
 have hB1 := hB1.ext hP id
 have hB2 := hB2.ext hP id
 have hPw := hPw.pure hP
 clear hP HFw HRo
 cases fw with
 | false =>
   clear HP1 HP2
   go_wp2_with fail
   refine (works_any _).mono ?_
   rintro e wz ⟨rfl, hPz⟩
   go_wp2_with fail
   go_ret
   exact ⟨rfl, (hPw.pure hPz).below⟩
 | true =>
 replace HP1 := qh (fun W hP => HP1.out W hP rfl)
 replace HP2 := qh (fun W hP => HP2.out W hP rfl)
 have HRo : Hid (w3.rangeAt tb 0 os) := qh hB1.range
 have HRl : Hid (w3.rangeAt (tb + 1) 0 ds) := qh hB2.range
 go_wp2_with (first
  | (with_reducible refine V11.at_load 32 (.tmp 2) ?_; refine wpList_load_mid rfl 32 (.tmp 2) rfl tb 0 rfl os _ HRo.out Tryz.underlying32 rfl (sz42 HO6.out) ?_)
  | (with_reducible refine V11.at_load 40 (.tmp 3) ?_; refine wpList_load_l rfl (.tmp 3) rfl (tb + 1) 0 rfl ds HRl.out HM7.out ?_))
 refine (HP1.out w3 hPw).mono ?_
 rintro e w4 ⟨Hx, xa, xb, xc, xd, er, rfl, hpx, hMx, hP⟩
 have hB1 := hB1.ext hP id
 have hB2 := hB2.ext hP id
 have hPw := hPw.pure hP
 have HPx := qh hpx
 have HMx := qh hMx
 clear hP HP1 HRo HRl hpx hMx
 obtain ⟨xs, hxs⟩ : ∃ z, z = hC Hx xa xb xc xd := ⟨_, rfl⟩
 have HIx := qh hxs
 have HLx : Hid (xs.length = 7) := qh (by rw [hxs]; rfl)
 have HOn5 : Hid ((xs.toArray.all fun u => u.oneCell') = true) := qh (by
  rw [hxs]; unfold hC
  exact all_oneCell_toArray (by intro u hu; simp only [List.mem_cons, List.not_mem_nil, or_false] at hu; rcases hu with rfl | rfl | rfl | rfl | rfl | rfl | rfl <;> rfl))
 rw [← hxs]
 clear hxs
 obtain ⟨w5, hw5⟩ : ∃ z, z = (w4.alloc (.cells #[.int .i64 0, .int .i64 0, .slice none 0 0, .int .i64 0, .int .i64 0, .int .i64 0, .slice none 0 0] 25)).setCells w4.heap.size 0 xs.toArray.toList := ⟨_, rfl⟩
 have hPs : Pure w4 w5 := hw5 ▸ (Ext.setCells _ 0 _ (ext_alloc w4 _) (b := w4.heap.size) (fun h => by omega))
 have hB5 : BlockIs w5 w4.heap.size xs 25 := by
  have h := (BlockIs.new w4 [.int .i64 0, .int .i64 0, .slice none 0 0, .int .i64 0, .int .i64 0, .int .i64 0, .slice none 0 0] 25).setAll xs (by rw [HLx.out]; rfl)
  rw [hw5]; simpa using h
 have HTh5 : Hid ((w4.alloc (.cells #[.int .i64 0, .int .i64 0, .slice none 0 0, .int .i64 0, .int .i64 0, .int .i64 0, .slice none 0 0] 25)).there w4.heap.size 0 xs.toArray.size) := qh (by rw [show xs.toArray.size = 7 from by rw [List.size_toArray, HLx.out]]; exact BlockIs.there (BlockIs.new w4 [.int .i64 0, .int .i64 0, .slice none 0 0, .int .i64 0, .int .i64 0, .int .i64 0, .slice none 0 0] 25) 7 rfl)
 have HSi5 : Hid ((Tryz.prog.info? 25).map (·.size) = some xs.toArray.size) := qh (by rw [show xs.toArray.size = 7 from by rw [List.size_toArray, HLx.out]]; exact size25)
 have HWw5 := qh hw5.symm
 have hB1 := hB1.ext hPs id
 have hB2 := hB2.ext hPs id
 have hPw := hPw.pure hPs
 have HMx := qh (HMx.out.pure hPs)
 have HRo : Hid (w5.rangeAt tb 0 os) := qh hB1.range
 have HRl : Hid (w5.rangeAt (tb + 1) 0 ds) := qh hB2.range
 clear hPs hw5
 go_wp2_with (first
  | (with_reducible refine V11.at_store 25 (.tmp 5) (.tmp 17) ?_; refine wpList_store_mid rfl 25 (.tmp 5) (.tmp 17) rfl w4.heap.size 0 xs.toArray rfl rfl HTh5.out HSi5.out HOn5.out ?_; rw [HWw5.out])
  | (with_reducible refine V11.at_load 32 (.tmp 2) ?_; refine wpList_load_mid rfl 32 (.tmp 2) rfl tb 0 rfl os _ HRo.out Tryz.underlying32 rfl (sz42 HO6.out) ?_)
  | (with_reducible refine V11.at_load 40 (.tmp 3) ?_; refine wpList_load_l rfl (.tmp 3) rfl (tb + 1) 0 rfl ds HRl.out HM7.out ?_))
 refine (HP2.out w5 hPw).mono ?_
 rintro e w6 ⟨Hy, ya, yb, yc, yd, fr, rfl, hpy, hMy, hP⟩
 have hPw := hPw.pure hP
 have hB5 := hB5.ext hP id
 have HMx := qh (HMx.out.pure hP)
 obtain ⟨rfl, hAl⟩ := par_one HPx.out hpy
 have HAl := qh hAl
 have HMy := qh hMy
 clear hP HP2 HRo HRl hpy hMy hAl hB1 hB2 HPx HTh5 HSi5 HOn5 HWw5
 obtain ⟨ys, hys⟩ : ∃ z, z = hC Hy ya yb yc yd := ⟨_, rfl⟩
 have HIy := qh hys
 have HLy : Hid (ys.length = 7) := qh (by rw [hys]; rfl)
 have HOn7 : Hid ((ys.toArray.all fun u => u.oneCell') = true) := qh (by
  rw [hys]; unfold hC
  exact all_oneCell_toArray (by intro u hu; simp only [List.mem_cons, List.not_mem_nil, or_false] at hu; rcases hu with rfl | rfl | rfl | rfl | rfl | rfl | rfl <;> rfl))
 rw [← hys]
 clear hys
 obtain ⟨w7, hw7⟩ : ∃ z, z = (w6.alloc (.cells #[.int .i64 0, .int .i64 0, .slice none 0 0, .int .i64 0, .int .i64 0, .int .i64 0, .slice none 0 0] 25)).setCells w6.heap.size 0 ys.toArray.toList := ⟨_, rfl⟩
 have hPs : Pure w6 w7 := hw7 ▸ (Ext.setCells _ 0 _ (ext_alloc w6 _) (b := w6.heap.size) (fun h => by omega))
 have hB7 : BlockIs w7 w6.heap.size ys 25 := by
  have h := (BlockIs.new w6 [.int .i64 0, .int .i64 0, .slice none 0 0, .int .i64 0, .int .i64 0, .int .i64 0, .slice none 0 0] 25).setAll ys (by rw [HLy.out]; rfl)
  rw [hw7]; simpa using h
 have HTh7 : Hid ((w6.alloc (.cells #[.int .i64 0, .int .i64 0, .slice none 0 0, .int .i64 0, .int .i64 0, .int .i64 0, .slice none 0 0] 25)).there w6.heap.size 0 ys.toArray.size) := qh (by rw [show ys.toArray.size = 7 from by rw [List.size_toArray, HLy.out]]; exact BlockIs.there (BlockIs.new w6 [.int .i64 0, .int .i64 0, .slice none 0 0, .int .i64 0, .int .i64 0, .int .i64 0, .slice none 0 0] 25) 7 rfl)
 have HSi7 : Hid ((Tryz.prog.info? 25).map (·.size) = some ys.toArray.size) := qh (by rw [show ys.toArray.size = 7 from by rw [List.size_toArray, HLy.out]]; exact size25)
 have HWw7 := qh hw7.symm
 have hPw := hPw.pure hPs
 have HR5 : Hid (w7.rangeAt w4.heap.size 0 xs) := qh (hB5.ext hPs id).range
 have HR7 : Hid (w7.rangeAt w6.heap.size 0 ys) := qh hB7.range
 have hSm := same_yes Hx Hy xa xc xb xd ya yc yb yd w7 (HMx.out.pure hPs) (HMy.out.pure hPs) HAl.out
 rw [← HIx.out, ← HIy.out] at hSm
 have HSm := qh hSm
 clear hPs hw7 hSm hB5 hB7
 go_wp2_with (first
  | (with_reducible refine V11.at_store 25 (.tmp 7) (.tmp 23) ?_; refine wpList_store_mid rfl 25 (.tmp 7) (.tmp 23) rfl w6.heap.size 0 ys.toArray rfl rfl HTh7.out HSi7.out HOn7.out ?_; rw [HWw7.out])
  | (with_reducible refine V11.at_load 25 (.tmp 5) ?_; refine wpList_load_h rfl (.tmp 5) rfl w4.heap.size 0 rfl xs HR5.out HLx.out ?_)
  | (with_reducible refine V11.at_load 25 (.tmp 7) ?_; refine wpList_load_h rfl (.tmp 7) rfl w6.heap.size 0 rfl ys HR7.out HLy.out ?_))
 refine HSm.out.mono ?_
 rintro e w8 ⟨rfl, hP⟩
 have hPw := hPw.pure hP
 clear hP HSm HR5 HR7 HTh7 HSi7 HOn7 HWw7
 go_wp2_with fail
 refine (works_any _).mono ?_
 rintro e wz ⟨rfl, hPz⟩
 go_wp2_with fail
 go_ret
 exact ⟨rfl, (hPw.pure hPz).below⟩
theorem lifted (os : Os) (started : os.Started) (H : Type) (enc : TypeId × Value → H) :
 ReturnsInHanded {} Tryz.checked os 5 .any (Rows.hintsParsesSpec.pre6 enc Tryz.prog Tryz.f5 Rows.hintsParsesRow.domain false) (Rows.hintsParsesSpec.post enc Tryz.prog Tryz.f5 false true false false) := by
 refine returnsInHanded_of_change (C := Tryz.checked) own started (by kernel_rfl) Tryz.func5
  (ChangeSpec.witness6 (enc := enc) (C := Tryz.checked) false ⟨#[], #[.agg #[.int .i64 0, .int .i64 0, .string ⟨#[]⟩, .slice none 0 0, .bool false, .string ⟨#[]⟩], .agg #[.int .i64 0, .int .i64 0, .int .i64 0, .int .i64 0, .int .i64 0, .int .i64 0, .int .i64 0]], []⟩ 8 (by kernel_rfl) (by kernel_rfl) (by kernel_rfl) (by kernel_rfl)) ?_
 intro W base args ds gs before hval0 hW hcnd _
 have hval : ∀ (j : Nat) t v, Tryz.f5.params[j]? = some t → args[j]? = some v → Value.okWide Tryz.prog W .any base t v := hval0
 have hW' := hW
 obtain ⟨p, q, hA0, hV, rfl, hfz, hnd⟩ := hW
 have hA : DataW.TrodAll enc Tryz.prog W 0 (fun _ => true) true Tryz.f5.params.toList args.toList ds p := hA0
 rw [Tryz.params5] at hA hval
 obtain ⟨v0, vs0, d0, ds0, p0, q0, hargs, rfl, rfl, h0, r0⟩ := trodAll_cons hA
 obtain ⟨v1, vs1, d1, ds1, p1, q1, rfl, rfl, rfl, h1, r1⟩ := trodAll_cons r0
 obtain ⟨rfl, rfl, rfl⟩ := trodAll_nil r1
 obtain rfl : args = #[v0, v1] := by cases args; simp_all
 obtain ⟨rfl, rfl⟩ := trodVars_none hV
 have k0 := h0
 have lt0 : ∀ x ∈ p0, x.block < W.heap.size := by obtain ⟨m, hm⟩ := k0; exact DataW.trod_lt m _ _ _ hm
 have k1 := h1
 have lt1 : ∀ x ∈ p1, x.block < W.heap.size := by obtain ⟨m, hm⟩ := k1; exact DataW.trod_lt m _ _ _ hm
 obtain ⟨F0, o0, os0, rfl, hO0⟩ := V11.open_o (hval 0 32 v0 rfl rfl) h0
 obtain ⟨l0, rfl⟩ := open_l (hval 1 40 v1 rfl rfl) h1
 clear hA0 hval0
 refine (walk F0 o0 os0 l0 W hO0).mono fun e W' ⟨he, bel⟩ => ?_
 subst he
 exact ⟨_, rfl, _, _, _, [], _, [], hW', trodAll_mk1 (shut_bool Tryz.underlying4 _), (trodAll_cons_mk (Below.trod laidOut (by kernel_rfl) (of_decide_eq_true (by kernel_rfl)) k0 bel lt0) (trodAll_cons_mk (Below.trod laidOut (by kernel_rfl) (of_decide_eq_true (by kernel_rfl)) k1 bel lt1) trodAll_mk0)), rfl, bel.frame _, fun h => by cases h⟩
theorem proved : Rows.HintsParsesSaid :=
 OpenClaim.holds_of_wide 5 Tryz.f5 rfl rfl rfl rfl rfl rfl rfl ⟨rfl, rfl, rfl, rfl, rfl⟩ rfl rfl rfl rfl rfl (by kernel_rfl) Tryz.func5 (by kernel_rfl)
  (of_decide_eq_true (by kernel_rfl)) (by unfold Func.isWrapper; first | (rw [if_pos (by decide +kernel)]; kernel_rfl) | (rw [if_neg (by decide +kernel)]; exact ⟨rfl, rfl⟩))
  (fun os started H enc _ => lifted os started H enc)
#print axioms proved
