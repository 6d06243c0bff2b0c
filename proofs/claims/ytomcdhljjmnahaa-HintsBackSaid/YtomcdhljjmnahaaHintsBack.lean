/-
  HintsBack: hints that may be, of a file, come back from their stream. No condition.
-/
import Derived.Test.YtomcdhljjmnahaaOpenH
namespace Go.Proofs.Ytomcdhljjmnahaa.hintsBack
open Go.ChangeShapes Go.WideShapes Go.ChangeAt Go.RowKit Go.Proofs.Ytomcdhljjmnahaa
set_option linter.unusedVariables false
set_option linter.unusedSimpArgs false

set_option maxHeartbeats 4000000 in
set_option maxRecDepth 100000 in
theorem walk (h : HT) (pa la : Option Addr) (pc lc : Nat) (l : LT) (w : World) (hR : HRaw w h pa pc la lc) :
    Calls Try.prog 4 #[.agg (hC h pa pc la lc).toArray, .agg (lC l).toArray] w fun e w' => e = .returned (.bool true) ∧ Below w.heap.size w w' := by
  have HFw := Lib.hid (fun W (hP : Pure w W) => fewh_any h pa la pc lc W (hR.pure hP).pages (by have := hR.pcap; unfold maxLen at this; omega) (by have := hR.lcap; unfold maxLen at this; omega))
  have HCk := Lib.hid (fun W (hP : Pure w W) (hf : fewH h = true) => check_any h l pa la pc lc W ((hR.pure hP).mem hf) (fewH_in hf).1.mod2)
  have HOb := Lib.hid (fun W (hP : Pure w W) (hf : fewH h = true) => object_any h pa la pc lc W ((hR.pure hP).mem hf) (fewH_in hf).1)
  have HMe := Lib.hid (fun W (hP : Pure w W) (hf : fewH h = true) => (hR.pure hP).mem hf)
  have HMd := Lib.hid (fun (hf : fewH h = true) => (fewH_in hf).1)
  obtain ⟨cs, hcs⟩ : ∃ z, z = hC h pa pc la lc := ⟨_, rfl⟩
  obtain ⟨ds, hds⟩ : ∃ z, z = lC l := ⟨_, rfl⟩
  have HL7 : Hid (cs.length = 7) := Lib.hid (by rw [hcs]; rfl)
  have HM7 : Hid (ds.length = 7) := Lib.hid (by rw [hds]; rfl)
  have HCs := Lib.hid hcs
  have HDs := Lib.hid hds
  rw [← hcs, ← hds]
  have hD0 := Hd.new w cs ds
  obtain ⟨w2, hw2⟩ : ∃ z, z = ((w.alloc (.cells cs.toArray 25)).alloc (.cells ds.toArray 27)) := ⟨_, rfl⟩
  obtain ⟨tb, htb⟩ : ∃ z, z = w.heap.size := ⟨_, rfl⟩
  rw [← hw2, ← htb] at hD0
  have HW : Hid (((w.alloc (.cells cs.toArray 25)).alloc (.cells ds.toArray 27)) = w2) := Lib.hid hw2.symm
  have HTb := Lib.hid htb
  have HD := Lib.hid hD0
  clear hcs hds hw2 htb hD0
  rw [← HCs.out] at HFw HOb
  rw [← HCs.out, ← HDs.out] at HCk
  have HRh0 : Hid (((w.alloc (.cells cs.toArray 25)).alloc (.cells ds.toArray 27)).rangeAt w.heap.size 0 cs) := Lib.hid (by rw [HW.out, ← HTb.out]; exact HD.out.b1.range)
  have HRl0 : Hid (((w.alloc (.cells cs.toArray 25)).alloc (.cells ds.toArray 27)).rangeAt (w.heap.size + 1) 0 ds) := Lib.hid (by rw [HW.out, ← HTb.out]; exact HD.out.b2.range)
  obtain ⟨fw, hfw⟩ : ∃ z, z = fewH h := ⟨_, rfl⟩
  rw [← hfw] at HFw HCk HOb HMe HMd
  clear hfw hR
  go_enter Try.func4, Try.ntmps4
  go_wp2_with (first
    | (with_reducible refine V11.at_load 25 (.tmp 2) ?_; refine wpList_load_h rfl (.tmp 2) rfl w.heap.size 0 rfl cs HRh0.out HL7.out ?_))
  rw [HW.out, ← HTb.out]
  refine (HFw.out w2 HD.out.p).mono ?_
  rintro e w3 ⟨rfl, hP⟩
  have HD := Lib.hid (HD.out.pure hP)
  clear hP HFw HRh0 HRl0
  cases fw with
  | false =>
    clear HCk HOb HMe HMd
    go_wp2_with fail
    refine (works_any _).mono ?_
    rintro e wz ⟨rfl, hPz⟩
    go_wp2_with fail
    go_ret
    exact ⟨rfl, (HD.out.p.pure hPz).below⟩
  | true =>
  replace HCk := Lib.hid (fun W hP => HCk.out W hP rfl)
  replace HOb := Lib.hid (fun W hP => HOb.out W hP rfl)
  replace HMe := Lib.hid (fun W hP => HMe.out W hP rfl)
  replace HMd := Lib.hid (HMd.out rfl)
  have HRh : Hid (w3.rangeAt tb 0 cs) := Lib.hid HD.out.b1.range
  have HRl : Hid (w3.rangeAt (tb + 1) 0 ds) := Lib.hid HD.out.b2.range
  go_wp2_with (first
    | (with_reducible refine V11.at_load 25 (.tmp 2) ?_; refine wpList_load_h rfl (.tmp 2) rfl tb 0 rfl cs HRh.out HL7.out ?_)
    | (with_reducible refine V11.at_load 27 (.tmp 3) ?_; refine wpList_load_l rfl (.tmp 3) rfl (tb + 1) 0 rfl ds HRl.out HM7.out ?_))
  refine (HCk.out w3 HD.out.p).mono ?_
  rintro e w4 ⟨rfl, hP⟩
  have HD := Lib.hid (HD.out.pure hP)
  clear hP HCk HRh HRl
  obtain ⟨ce, hce⟩ : ∃ z, z = chkE h l := ⟨_, rfl⟩
  rw [← hce]
  by_cases hc0 : ce = 0
  case neg =>
    have e1 : (ce != 0) = true := by simpa using hc0
    clear hc0 HOb HMe HMd hce
    go_wp2_with fail
    refine (works_any _).mono ?_
    rintro e wz ⟨rfl, hPz⟩
    go_wp2_with fail
    go_ret
    exact ⟨rfl, (HD.out.p.pure hPz).below⟩
  subst hc0
  have HCe : Hid (chkE h l = 0) := Lib.hid hce.symm
  clear hce
  have hE := obj_err HCe.out
  rw [hE] at HOb
  clear hE
  have HRh : Hid (w4.rangeAt tb 0 cs) := Lib.hid HD.out.b1.range
  have HRl : Hid (w4.rangeAt (tb + 1) 0 ds) := Lib.hid HD.out.b2.range
  go_wp2_with (first
    | (with_reducible refine V11.at_load 25 (.tmp 2) ?_; refine wpList_load_h rfl (.tmp 2) rfl tb 0 rfl cs HRh.out HL7.out ?_))
  refine (HOb.out w4 HD.out.p).mono ?_
  rintro e w6 ⟨os, rfl, hO, hP6⟩
  have HD := Lib.hid (HD.out.pure hP6)
  have hO' := hO
  obtain ⟨vs, rfl, hLv⟩ := hO'
  obtain ⟨a4, c4, _, rfl, -⟩ := hLv.kids
  have hdd : (objO h).data.size ≤ 1000000 := by
    unfold objO
    rw [if_pos (obj_err HCe.out)]
    show (strOf _ ++ strOf _).size ≤ _
    rw [ByteArray.size_append, strOf_size, strOf_size]
    have h1 := enc26_len (a := h.fa) HMd.out
    have h2 := enc27_len h.so h.sa h.sf h.sh
    omega
  have hvl : (objO h).v.l.length ≤ 1000000 := by
    unfold objO
    rw [if_pos (obj_err HCe.out)]
    show (2 : Nat) ≤ _
    omega
  obtain ⟨O, hOo⟩ : ∃ z, z = objO h := ⟨_, rfl⟩
  rw [← hOo] at hO hdd hvl ⊢
  have HBk : Hid (∀ {H : HT} {er : Int}, ParP O l H er → er = 0 ∧ Alike H h) := Lib.hid (fun hp => par_back HMd.out HCe.out (by rw [← hOo]; exact hp))
  have HPr := Lib.hid (fun W (hP : Pure w6 W) => parse_any 1 O _ l W (hO.pure hP) hvl hdd)
  rw [← HDs.out] at HPr
  obtain ⟨l4, hl4⟩ : ∃ z, z = O.v.l.length := ⟨_, rfl⟩
  obtain ⟨k4, hk4⟩ : ∃ z, z = O.v.kind := ⟨_, rfl⟩
  obtain ⟨n4, hn4⟩ : ∃ z, z = O.v.n := ⟨_, rfl⟩
  obtain ⟨s4, hs4⟩ : ∃ z, z = O.v.s := ⟨_, rfl⟩
  obtain ⟨st, hst⟩ : ∃ z, z = O.st := ⟨_, rfl⟩
  obtain ⟨dd, hdt⟩ : ∃ z, z = O.data := ⟨_, rfl⟩
  rw [← hl4, ← hk4, ← hn4, ← hs4, ← hst, ← hdt] at HPr ⊢
  simp only [List.cons_append, List.nil_append] at HPr ⊢
  clear hOo hO hdd hvl hl4 hk4 hn4 hs4 hst hdt hLv hP6 HOb HRh HRl
  obtain ⟨w7, hw7⟩ : ∃ z, z = (w6.alloc (.cells #[.int .i64 0, .int .i64 0, .string ⟨#[]⟩, .slice none 0 0, .bool false, .string ⟨#[]⟩] 42)).setCells w6.heap.size 0 (#[.int .i64 k4, .int .i64 n4, .string s4, .slice a4 l4 c4, .bool st, .string dd] : Array Value).toList := ⟨_, rfl⟩
  have hPs : Pure w6 w7 := hw7 ▸ (Ext.setCells _ 0 _ (ext_alloc w6 _) (b := w6.heap.size) (fun h => by omega))
  have hB5 : BlockIs w7 w6.heap.size [.int .i64 k4, .int .i64 n4, .string s4, .slice a4 l4 c4, .bool st, .string dd] 42 := hw7 ▸ (BlockIs.new w6 [.int .i64 0, .int .i64 0, .string ⟨#[]⟩, .slice none 0 0, .bool false, .string ⟨#[]⟩] 42).setAll [.int .i64 k4, .int .i64 n4, .string s4, .slice a4 l4 c4, .bool st, .string dd] rfl
  have HTh5 : Hid ((w6.alloc (.cells #[.int .i64 0, .int .i64 0, .string ⟨#[]⟩, .slice none 0 0, .bool false, .string ⟨#[]⟩] 42)).there w6.heap.size 0 (#[.int .i64 k4, .int .i64 n4, .string s4, .slice a4 l4 c4, .bool st, .string dd] : Array Value).size) := Lib.hid (BlockIs.there (BlockIs.new w6 [.int .i64 0, .int .i64 0, .string ⟨#[]⟩, .slice none 0 0, .bool false, .string ⟨#[]⟩] 42) 6 rfl)
  have HSi5 : Hid ((Try.prog.info? 42).map (·.size) = some (#[.int .i64 k4, .int .i64 n4, .string s4, .slice a4 l4 c4, .bool st, .string dd] : Array Value).size) := Lib.hid size42
  have HOn5 : Hid (((#[.int .i64 k4, .int .i64 n4, .string s4, .slice a4 l4 c4, .bool st, .string dd] : Array Value).all fun u => u.oneCell') = true) := Lib.hid (all_oneCell_toArray (by intro u hu; simp only [List.mem_cons, List.not_mem_nil, or_false] at hu; rcases hu with rfl | rfl | rfl | rfl | rfl | rfl <;> rfl))
  have HWw7 := Lib.hid hw7.symm
  clear hw7
  have HD := Lib.hid (HD.out.pure hPs)
  have HPr := Lib.hid (HPr.out w7 hPs)
  have HR3 : Hid (w7.rangeAt w6.heap.size 0 [.int .i64 k4, .int .i64 n4, .string s4, .slice a4 l4 c4, .bool st, .string dd]) := Lib.hid hB5.range
  have HS6 : Hid (([.int .i64 k4, .int .i64 n4, .string s4, .slice a4 l4 c4, .bool st, .string dd] : List Value).length = 6) := Lib.hid rfl
  clear hPs hB5
  have HRh : Hid (w7.rangeAt tb 0 cs) := Lib.hid HD.out.b1.range
  have HRl : Hid (w7.rangeAt (tb + 1) 0 ds) := Lib.hid HD.out.b2.range
  go_wp2_with (first
    | (with_reducible refine V11.at_store 42 (.tmp 5) (.tmp 22) ?_; refine wpList_store_mid rfl 42 (.tmp 5) (.tmp 22) rfl w6.heap.size 0 #[.int .i64 k4, .int .i64 n4, .string s4, .slice a4 l4 c4, .bool st, .string dd] rfl rfl HTh5.out HSi5.out HOn5.out ?_; rw [HWw7.out])
    | (with_reducible refine V11.at_load 42 (.tmp 5) ?_; refine wpList_load_mid rfl 42 (.tmp 5) rfl w6.heap.size 0 rfl [.int .i64 k4, .int .i64 n4, .string s4, .slice a4 l4 c4, .bool st, .string dd] _ HR3.out Try.underlying42 rfl (sz42 HS6.out) ?_)
    | (with_reducible refine V11.at_load 27 (.tmp 3) ?_; refine wpList_load_l rfl (.tmp 3) rfl (tb + 1) 0 rfl ds HRl.out HM7.out ?_))
  refine HPr.out.mono ?_
  rintro e w8 ⟨Hx, xa, xc, ya, yc, er, rfl, hPar, hMx, hP8⟩
  have HD := Lib.hid (HD.out.pure hP8)
  obtain ⟨rfl, hAl⟩ := HBk.out hPar
  have HAl := Lib.hid hAl
  have HMx := Lib.hid hMx
  clear hP8 hAl hMx hPar HPr HR3 HRh HRl HS6 HTh5 HSi5 HOn5 HWw7 HBk
  obtain ⟨xs, hxs⟩ : ∃ z, z = hC Hx xa xc ya yc := ⟨_, rfl⟩
  have HXs := Lib.hid hxs
  have HX7 : Hid (xs.length = 7) := Lib.hid (by rw [hxs]; rfl)
  have hXo : (xs.toArray.all fun u => u.oneCell') = true := by
    rw [hxs]; unfold hC
    exact all_oneCell_toArray (by intro u hu; simp only [List.mem_cons, List.not_mem_nil, or_false] at hu; rcases hu with rfl | rfl | rfl | rfl | rfl | rfl | rfl <;> rfl)
  rw [← hxs]
  clear hxs
  obtain ⟨w9, hw9⟩ : ∃ z, z = (w8.alloc (.cells #[.int .i64 0, .int .i64 0, .slice none 0 0, .int .i64 0, .int .i64 0, .int .i64 0, .slice none 0 0] 25)).setCells w8.heap.size 0 xs.toArray.toList := ⟨_, rfl⟩
  have hPs : Pure w8 w9 := hw9 ▸ (Ext.setCells _ 0 _ (ext_alloc w8 _) (b := w8.heap.size) (fun h => by omega))
  have hB7 : BlockIs w9 w8.heap.size xs 25 := by
    have h := (BlockIs.new w8 [.int .i64 0, .int .i64 0, .slice none 0 0, .int .i64 0, .int .i64 0, .int .i64 0, .slice none 0 0] 25).setAll xs (by rw [HX7.out]; rfl)
    rw [hw9]; simpa using h
  have HTh7 : Hid ((w8.alloc (.cells #[.int .i64 0, .int .i64 0, .slice none 0 0, .int .i64 0, .int .i64 0, .int .i64 0, .slice none 0 0] 25)).there w8.heap.size 0 xs.toArray.size) := Lib.hid (by rw [show xs.toArray.size = 7 from by rw [List.size_toArray, HX7.out]]; exact BlockIs.there (BlockIs.new w8 [.int .i64 0, .int .i64 0, .slice none 0 0, .int .i64 0, .int .i64 0, .int .i64 0, .slice none 0 0] 25) 7 rfl)
  have HSi7 : Hid ((Try.prog.info? 25).map (·.size) = some xs.toArray.size) := Lib.hid (by rw [show xs.toArray.size = 7 from by rw [List.size_toArray, HX7.out]]; exact size25)
  have HOn7 := Lib.hid hXo
  have HWw9 := Lib.hid hw9.symm
  have HD := Lib.hid (HD.out.pure hPs)
  have HMx := Lib.hid (HMx.out.pure hPs)
  have HRh : Hid (w9.rangeAt tb 0 cs) := Lib.hid HD.out.b1.range
  have HRl : Hid (w9.rangeAt (tb + 1) 0 ds) := Lib.hid HD.out.b2.range
  have HR7 : Hid (w9.rangeAt w8.heap.size 0 xs) := Lib.hid hB7.range
  have hSm := same_yes Hx h xa ya xc yc pa la pc lc w9 HMx.out (HMe.out w9 HD.out.p) HAl.out
  rw [← HXs.out, ← HCs.out] at hSm
  have HSm := Lib.hid hSm
  clear hw9 hPs hXo hSm hB7
  go_wp2_with (first
    | (with_reducible refine V11.at_store 25 (.tmp 7) (.tmp 28) ?_; refine wpList_store_mid rfl 25 (.tmp 7) (.tmp 28) rfl w8.heap.size 0 xs.toArray rfl rfl HTh7.out HSi7.out HOn7.out ?_; rw [HWw9.out])
    | (with_reducible refine V11.at_load 25 (.tmp 2) ?_; refine wpList_load_h rfl (.tmp 2) rfl tb 0 rfl cs HRh.out HL7.out ?_)
    | (with_reducible refine V11.at_load 25 (.tmp 7) ?_; refine wpList_load_h rfl (.tmp 7) rfl w8.heap.size 0 rfl xs HR7.out HX7.out ?_))
  refine HSm.out.mono ?_
  rintro e w10 ⟨rfl, hP10⟩
  have HD := Lib.hid (HD.out.pure hP10)
  clear hP10 HSm HRh HRl HR7 HTh7 HSi7 HOn7 HWw9
  go_wp2_with fail
  refine (works_any _).mono ?_
  rintro e wz ⟨rfl, hPz⟩
  go_wp2_with fail
  go_ret
  exact ⟨rfl, (HD.out.p.pure hPz).below⟩

set_option maxRecDepth 100000 in
theorem lifted (os : Os) (started : os.Started) (H : Type) (enc : TypeId × Value → H) :
    ReturnsInHanded {} Try.checked os 4 .any (Rows.hintsBackSpec.pre6 enc Try.prog Try.f4 Rows.hintsBackRow.domain false) (Rows.hintsBackSpec.post enc Try.prog Try.f4 false true false false) := by
  refine returnsInHanded_of_change (C := Try.checked) own started (by kernel_rfl) Try.func4
    (ChangeSpec.witness6 (enc := enc) (C := Try.checked) false ⟨#[], #[.agg #[.int .i64 0, .int .i64 0, .slice none 0 0, .int .i64 0, .int .i64 0, .int .i64 0, .slice none 0 0], .agg #[.int .i64 0, .int .i64 0, .int .i64 0, .int .i64 0, .int .i64 0, .int .i64 0, .int .i64 0]], []⟩ 8 (by kernel_rfl) (by kernel_rfl) (by kernel_rfl) (by kernel_rfl)) ?_
  intro W base args ds gs before hval0 hW hcnd _
  have hval : ∀ (j : Nat) t v, Try.f4.params[j]? = some t → args[j]? = some v → Value.okWide Try.prog W .any base t v := hval0
  have hW' := hW
  obtain ⟨p, q, hA0, hV, rfl, hfz, hnd⟩ := hW
  have hA : DataW.TrodAll enc Try.prog W 0 (fun _ => true) true Try.f4.params.toList args.toList ds p := hA0
  rw [Try.params4] at hA hval
  obtain ⟨v0, vs0, d0, ds0, p0, q0, hargs, rfl, rfl, h0, r0⟩ := trodAll_cons hA
  obtain ⟨v1, vs1, d1, ds1, p1, q1, rfl, rfl, rfl, h1, r1⟩ := trodAll_cons r0
  obtain ⟨rfl, rfl, rfl⟩ := trodAll_nil r1
  obtain rfl : args = #[v0, v1] := by cases args; simp_all
  obtain ⟨rfl, rfl⟩ := trodVars_none hV
  have k0 := h0
  have lt0 : ∀ x ∈ p0, x.block < W.heap.size := by obtain ⟨m, hm⟩ := k0; exact DataW.trod_lt m _ _ _ hm
  have k1 := h1
  have lt1 : ∀ x ∈ p1, x.block < W.heap.size := by obtain ⟨m, hm⟩ := k1; exact DataW.trod_lt m _ _ _ hm
  obtain ⟨h0', pa, la, pc, lc, rfl, hR⟩ := open_h (hval 0 25 v0 rfl rfl) h0
  obtain ⟨l0, rfl⟩ := open_l (hval 1 27 v1 rfl rfl) h1
  clear hA0 hval0
  refine (walk h0' pa la pc lc l0 W hR).mono fun e W' ⟨he, bel⟩ => ?_
  subst he
  exact ⟨_, rfl, _, _, _, [], _, [], hW', trodAll_mk1 (shut_bool Try.underlying4 _), (trodAll_cons_mk (Below.trod laidOut (by kernel_rfl) (of_decide_eq_true (by kernel_rfl)) k0 bel lt0) (trodAll_cons_mk (Below.trod laidOut (by kernel_rfl) (of_decide_eq_true (by kernel_rfl)) k1 bel lt1) trodAll_mk0)), rfl, bel.frame _, fun h => by cases h⟩

theorem proved : Rows.HintsBackSaid :=
  OpenClaim.holds_of_wide 4 Try.f4 rfl rfl rfl rfl rfl rfl rfl ⟨rfl, rfl, rfl, rfl, rfl⟩ rfl rfl rfl rfl rfl (by kernel_rfl) Try.func4 (by kernel_rfl)
    (of_decide_eq_true (by kernel_rfl)) (by unfold Func.isWrapper; first | (rw [if_pos (by decide +kernel)]; kernel_rfl) | (rw [if_neg (by decide +kernel)]; exact ⟨rfl, rfl⟩))
    (fun os started H enc _ => lifted os started H enc)
#print axioms proved
end Go.Proofs.Ytomcdhljjmnahaa.hintsBack
