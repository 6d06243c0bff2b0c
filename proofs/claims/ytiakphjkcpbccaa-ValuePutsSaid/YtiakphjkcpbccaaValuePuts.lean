/-
  ValuePuts: what is put into a dictionary of an even number of values is got, and what is dropped is not; a dictionary that may be, with a value put in that may be, may be, if it is not too deep. No condition.
-/
import Derived.Test.YtiakphjkcpbccaaLoadG
import Derived.Test.YtiakphjkcpbccaaPutsPl2
namespace Go.Proofs.Ytiakphjkcpbccaa.valuePuts
open Go.ChangeShapes Go.WideShapes Go.ChangeAt Go.RowKit Go.Proofs.Ytiakphjkcpbccaa
set_option linter.unusedVariables false

set_option maxHeartbeats 8000000 in
set_option maxRecDepth 100000 in
theorem walk (d0 : Nat) (v : V) (cs : List Value) (d' : Nat) (u : V) (us : List Value) (key : ByteArray) (w : World) (h0 : Lies w d0 v cs) (h0' : Lies w d' u us) (hkm : key.size ≤ maxLen) :
    Calls Try.prog 6 #[.agg cs.toArray, .agg us.toArray, .string key] w fun e w' => e = .returned (.bool true) ∧ Below w.heap.size w w' := by
  have HC := Lib.hid h0.len
  have HU := Lib.hid h0'.len
  obtain ⟨d, hd⟩ : ∃ z, z = d0 + d' := ⟨_, rfl⟩
  have h : Lies w (d + 2) v cs := h0.mono (by omega)
  have h' : Lies w (d + 1) u us := h0'.mono (by omega)
  have HSv := Lib.hid (fun W (hP : Pure w W) => small_any (h.pure hP))
  have HSu := Lib.hid (fun W (hP : Pure w W) => small_any (h'.pure hP))
  have hlv := length_size v
  have HP1 := Lib.hid (fun W (hP : Pure w W) (hs : v.size ≤ 300) => put_top w d v cs key u us W hP (h.top.pure hP) h' (by omega) hkm)
  have HCv := Lib.hid (fun W (hP : Pure w W) (hs : v.size ≤ 300) => refcheck_any _ v cs W (h.pure hP) (by omega))
  have HCu := Lib.hid (fun W (hP : Pure w W) (hs : u.size ≤ 300) => refcheck_any _ u us W (h'.pure hP) (by omega))
  have HDu := Lib.hid (fun W (hP : Pure w W) (hs : u.size ≤ 300) => refdepth_any _ u us W (h'.pure hP) (by omega))
  have HLu := Lib.hid (fun W (hP : Pure w W) => h'.pure hP)
  have HPt := Lib.hid h.top.parts
  have HPe := Lib.hid (show ∀ p, p = v.put key u → p = v.put key u from fun _ e => e)
  have hdu := V.depth_size u
  have HD2 := Lib.hid (fun W (hP : Pure w W) (hs : v.size ≤ 300) => refdrop_top w (d + 1) v cs key W hP (h.top.pure hP) (by omega))
  have HZp := Lib.hid (size_put v key u)
  have HZd := Lib.hid (size_drop v key)
  obtain ⟨w1, hw1⟩ : ∃ z, z = w.alloc (.cells cs.toArray 24) := ⟨_, rfl⟩
  obtain ⟨tb, htb⟩ : ∃ z, z = w.heap.size := ⟨_, rfl⟩
  have hs1 : w1.heap.size = tb + 1 := by rw [hw1, World.size_alloc, htb]
  have hB1 : BlockIs w1 tb cs 24 := by rw [htb, hw1]; exact BlockIs.new w _ _
  obtain ⟨w2, hw2⟩ : ∃ z, z = w1.alloc (.cells us.toArray 24) := ⟨_, rfl⟩
  have hBv : BlockIs w2 tb cs 24 := hw2 ▸ hB1.alloc _
  have hBu : BlockIs w2 (tb + 1) us 24 := by rw [← hs1, hw2]; exact BlockIs.new w1 _ _
  have hPv : Pure w w2 := (show Pure w w1 from hw1 ▸ ext_alloc w _).pure (hw2 ▸ ext_alloc w1 _)
  have HW : Hid ((w.alloc (.cells cs.toArray 24)).alloc (.cells us.toArray 24) = w2) := Lib.hid (by rw [hw2, hw1])
  have HTb := Lib.hid htb
  have hRv : ((w.alloc (.cells cs.toArray 24)).alloc (.cells us.toArray 24)).rangeAt w.heap.size 0 cs := by rw [HW.out, ← HTb.out]; exact hBv.range
  obtain ⟨PV, hPV⟩ : ∃ z, z = v.put key u := ⟨_, rfl⟩
  rw [← hPV] at HP1 HZp
  have HPV := Lib.hid hPV
  clear hw1 hw2 h h' h0 h0' htb hs1 hB1 hPV hd
  by_cases hs : v.size ≤ 300
  · have HSz := Lib.hid hs
    have e1 : decide (v.size ≤ 300) = true := by simp [hs]
    rw [e1] at HSv
    clear e1 hs
    go_enter Try.func6, Try.ntmps6
    go_wp2_with (with_reducible refine at_load 24 (.tmp 3) ?_; refine wpList_load_g rfl (.tmp 3) rfl w.heap.size 0 rfl cs hRv HC.out ?_)
    rw [HW.out, ← HTb.out]
    refine (HSv.out w2 hPv).mono ?_
    rintro e w3 ⟨rfl, hP3⟩
    have hBv := hBv.ext hP3 id
    have hBu := hBu.ext hP3 id
    have hPv := hPv.pure hP3
    have hRu := hBu.range
    clear hRv hP3
    go_wp2_with (with_reducible refine at_load 24 (.tmp 4) ?_; refine wpList_load_g rfl (.tmp 4) rfl (tb + 1) 0 rfl us hRu HU.out ?_)
    by_cases hs' : u.size ≤ 300
    · have HSz' := Lib.hid hs'
      have e2 : decide (u.size ≤ 300) = true := by simp [hs']
      rw [e2] at HSu
      clear e2 hs'
      refine (HSu.out w3 hPv).mono ?_
      rintro e w4 ⟨rfl, hP4⟩
      have hBv := hBv.ext hP4 id
      have hBu := hBu.ext hP4 id
      have hPv := hPv.pure hP4
      clear hRu hP4
      by_cases hk : key.size ≤ 300
      · have hki : ¬ (300 : Int) < (key.size : Int) := by omega
        obtain ⟨a, c, xs, hcs, hlc, hcm, hnil, hfit, hrow, hsv⟩ := HPt.out
        have c0 : w4.cell? ⟨tb, 0, none⟩ = some (.int .i64 v.kind) := by rw [hBv.cell 0, hcs]; rfl
        have c3 : w4.cell? ⟨tb, 3, none⟩ = some (.slice a v.l.length c) := by rw [hBv.cell 3, hcs]; rfl
        clear hcs
        by_cases h7 : v.kind = 7
        rotate_left
        · have h7' : (v.kind != 7) = true := by simpa using h7
          obtain ⟨k0, hk0⟩ : ∃ z, z = v.kind := ⟨_, rfl⟩
          rw [← hk0] at h7' c0
          clear hk0 h7
          go_wp2_with fail
          refine (works_any w4).mono ?_
          rintro e wz ⟨rfl, hPz⟩
          go_wp2_with fail
          go_ret
          exact ⟨rfl, (hPv.pure hPz).below⟩
        have h7' : (v.kind != 7) = false := by simp [h7]
        by_cases hodd : v.l.length % 2 = 1
        · have ho : (v.l.length : Int) % 2 = 1 := by omega
          obtain ⟨k0, hk0⟩ : ∃ z, z = v.kind := ⟨_, rfl⟩
          rw [← hk0] at h7' c0
          obtain ⟨m0, hm0⟩ : ∃ z, z = v.l.length := ⟨_, rfl⟩
          rw [← hm0] at ho c3
          clear hlc hnil hodd h7 hk0 hm0
          go_wp2_with fail
          refine (works_any w4).mono ?_
          rintro e wz ⟨rfl, hPz⟩
          go_wp2_with fail
          go_ret
          exact ⟨rfl, (hPv.pure hPz).below⟩
        have ho : (v.l.length : Int) % 2 = 0 := by omega
        obtain ⟨ps, hps⟩ := pairs_of v.l (by omega)
        have hvd : v = dictV v.n v.s ps := by rw [← V.eta v, h7, hps]; rfl
        have HGet : Hid (PV.get key = (u, true)) := Lib.hid (by rw [HPV.out, hvd]; exact put_get _ _ _ _ _)
        have HChk : Hid (v.checkE = 0 → u.checkE = 0 → textB key = true → PV.checkE = if u.depth < 64 then 0 else 15) := Lib.hid (fun h1 h2 h3 => by rw [HPV.out]; rw [hvd] at h1 ⊢; exact put_check _ _ _ _ _ h1 h2 h3)
        have HDg : Hid (v.checkE = 0 → (PV.dropped key).get key = (nullV, false)) := Lib.hid (fun h1 => by rw [HPV.out]; rw [hvd] at h1 ⊢; exact drop_got _ _ _ _ _ h1)
        have HDd : Hid (PV.dropped key = v.dropped key) := Lib.hid (by rw [HPV.out, hvd]; exact put_drop _ _ _ _ _)
        have hlp := length_size PV
        have hlp2 : PV.l.length ≤ 100000 := by have h1 := HZp.out; have h2 := HSz.out; have h3 := HSz'.out; omega
        have HLp := Lib.hid hlp2
        have HZq : Hid (PV.size ≤ 100000) := Lib.hid (by have h1 := HZp.out; have h2 := HSz.out; have h3 := HSz'.out; omega)
        obtain ⟨k0, hk0⟩ : ∃ z, z = v.kind := ⟨_, rfl⟩
        rw [← hk0] at h7' c0
        obtain ⟨m0, hm0⟩ : ∃ z, z = v.l.length := ⟨_, rfl⟩
        rw [← hm0] at ho c3
        clear hlc hnil hodd h7 hps hvd hlp hlp2 hk0 hm0 hfit hrow
        have hRv := hBv.range
        have hRu := hBu.range
        go_wp2_with (first
          | (with_reducible refine at_load 24 (.tmp 3) ?_; refine wpList_load_g rfl (.tmp 3) rfl tb 0 rfl cs hRv HC.out ?_)
          | (with_reducible refine at_load 24 (.tmp 4) ?_; refine wpList_load_g rfl (.tmp 4) rfl (tb + 1) 0 rfl us hRu HU.out ?_))
        refine (HP1.out w4 hPv HSz.out).mono ?_
        rintro e w5 ⟨cp, rfl, hTp, hP5, _⟩
        have hBv := hBv.ext hP5 id
        have hBu := hBu.ext hP5 id
        have hPv := hPv.pure hP5
        have hLp := hTp.lies hPv
        obtain ⟨hth, hBcp, hPy⟩ := put_new (W := w5) _ rfl hLp
        have hone := hLp.one
        have hlen := hLp.len
        obtain ⟨w6, hww6⟩ : ∃ z, z = (w5.alloc (.cells zeroCs.toArray 24)).setCells w5.heap.size 0 cp := ⟨_, rfl⟩
        rw [← hww6] at hBcp hPy
        have HThcp := Lib.hid (show (w5.alloc (.cells #[.int .i64 0, .int .i64 0, .string ⟨#[]⟩, .slice none 0 0] 24)).there w5.heap.size 0 cp.toArray.size by rw [show cp.toArray.size = 4 by simpa using hlen]; exact hth)
        have HSicp : Hid ((Try.prog.info? 24).map (·.size) = some cp.toArray.size) := Lib.hid (by rw [show cp.toArray.size = 4 by simpa using hlen]; exact size24)
        have HOncp := Lib.hid hone
        have HLncp := Lib.hid hlen
        have HWw6 : Hid (w6 = (w5.alloc (.cells #[.int .i64 0, .int .i64 0, .string ⟨#[]⟩, .slice none 0 0] 24)).setCells w5.heap.size 0 cp.toArray.toList) := Lib.hid (by rw [hww6]; rfl)
        have hBv := hBv.ext hPy id
        have hBu := hBu.ext hPy id
        have hPv := hPv.pure hPy
        have hTp := hTp.pure hPy
        have hBp := hBcp
        have HLn := HLncp
        have hRp : w6.rangeAt w5.heap.size 0 cp := hBp.range
        clear hBcp hLp hPy
        clear hth hone hlen hww6
        go_wp2_with (first
          | (with_reducible refine at_store 24 (.tmp 7) (.tmp 42) ?_; refine wpList_store_mid rfl 24 (.tmp 7) (.tmp 42) rfl w5.heap.size 0 cp.toArray rfl rfl HThcp.out HSicp.out HOncp.out ?_; rw [← HWw6.out])
          | (with_reducible refine at_load 24 (.tmp 7) ?_; refine wpList_load_g rfl (.tmp 7) rfl w5.heap.size 0 rfl cp hRp HLn.out ?_))
        refine (get_any (d + 1) PV cp key w6 (hTp.lies hPv) (Nat.le_trans HLp.out (by decide))).mono ?_
        rintro e w7 ⟨cg, rfl, hLg, hP7⟩
        rw [HGet.out] at hLg ⊢
        have hBv := hBv.ext hP7 id
        have hBu := hBu.ext hP7 id
        have hBp := hBp.ext hP7 id
        have hTp := hTp.pure hP7
        have hPv := hPv.pure hP7
        obtain ⟨hth, hBcg, hPy⟩ := put_new (W := w7) _ rfl hLg
        have hone := hLg.one
        have hlen := hLg.len
        obtain ⟨w8, hww8⟩ : ∃ z, z = (w7.alloc (.cells zeroCs.toArray 24)).setCells w7.heap.size 0 cg := ⟨_, rfl⟩
        rw [← hww8] at hBcg hPy
        have HThcg := Lib.hid (show (w7.alloc (.cells #[.int .i64 0, .int .i64 0, .string ⟨#[]⟩, .slice none 0 0] 24)).there w7.heap.size 0 cg.toArray.size by rw [show cg.toArray.size = 4 by simpa using hlen]; exact hth)
        have HSicg : Hid ((Try.prog.info? 24).map (·.size) = some cg.toArray.size) := Lib.hid (by rw [show cg.toArray.size = 4 by simpa using hlen]; exact size24)
        have HOncg := Lib.hid hone
        have HLncg := Lib.hid hlen
        have HWw8 : Hid (w8 = (w7.alloc (.cells #[.int .i64 0, .int .i64 0, .string ⟨#[]⟩, .slice none 0 0] 24)).setCells w7.heap.size 0 cg.toArray.toList) := Lib.hid (by rw [hww8]; rfl)
        have hBv := hBv.ext hPy id
        have hBu := hBu.ext hPy id
        have hBp := hBp.ext hPy id
        have hTp := hTp.pure hPy
        have hPv := hPv.pure hPy
        have hLg := hLg.pure hPy
        have hRg : w8.rangeAt w7.heap.size 0 cg := hBcg.range
        have hRu := hBu.range
        have HLg := HLncg
        clear hPy hBcg
        clear hth hone hlen hww8
        go_wp2_with (first
          | (with_reducible refine at_store 24 (.tmp 8) (.tmp 47) ?_; refine wpList_store_mid rfl 24 (.tmp 8) (.tmp 47) rfl w7.heap.size 0 cg.toArray rfl rfl HThcg.out HSicg.out HOncg.out ?_; rw [← HWw8.out])
          | (with_reducible refine at_load 24 (.tmp 8) ?_; refine wpList_load_g rfl (.tmp 8) rfl w7.heap.size 0 rfl cg hRg HLg.out ?_)
          | (with_reducible refine at_load 24 (.tmp 4) ?_; refine wpList_load_g rfl (.tmp 4) rfl (tb + 1) 0 rfl us hRu HU.out ?_))
        refine (show Calls Try.prog 17 #[.agg cg.toArray, .agg us.toArray] w8 (BoolTo true w8) by have := refsame_any _ u cg _ u us w8 hLg (HLu.out w8 hPv) (by have := HSz'.out; omega) (by have := HSz'.out; omega); rw [cmp_self] at this; exact this).mono ?_
        rintro e w9 ⟨rfl, hP9⟩
        have hBv := hBv.ext hP9 id
        have hBu := hBu.ext hP9 id
        have hBp := hBp.ext hP9 id
        have hTp := hTp.pure hP9
        have hPv := hPv.pure hP9
        have hRv := hBv.range
        clear hLg hRg hRu hRp
        go_wp2_with (with_reducible refine at_load 24 (.tmp 3) ?_; refine wpList_load_g rfl (.tmp 3) rfl tb 0 rfl cs hRv HC.out ?_)
        refine (HCv.out w9 hPv HSz.out).mono ?_
        rintro e w10 ⟨rfl, hP10⟩
        have hBv := hBv.ext hP10 id
        have hBu := hBu.ext hP10 id
        have hBp := hBp.ext hP10 id
        have hTp := hTp.pure hP10
        have hPv := hPv.pure hP10
        by_cases hv0 : v.checkE = 0
        rotate_left
        · have hv0' : (v.checkE != 0) = true := by simpa using hv0
          generalize v.checkE = vE at *
          go_wp2_with fail
          refine (works_any w10).mono ?_
          rintro e wz ⟨rfl, hPz⟩
          go_wp2_with fail
          go_ret
          exact ⟨rfl, (hPv.pure hPz).below⟩
        rw [hv0]
        have hRu := hBu.range
        go_wp2_with (with_reducible refine at_load 24 (.tmp 4) ?_; refine wpList_load_g rfl (.tmp 4) rfl (tb + 1) 0 rfl us hRu HU.out ?_)
        refine (HCu.out w10 hPv HSz'.out).mono ?_
        rintro e w11 ⟨rfl, hP11⟩
        have hBv := hBv.ext hP11 id
        have hBu := hBu.ext hP11 id
        have hBp := hBp.ext hP11 id
        have hTp := hTp.pure hP11
        have hPv := hPv.pure hP11
        by_cases hu0 : u.checkE = 0
        rotate_left
        · have hu0' : (u.checkE != 0) = true := by simpa using hu0
          generalize u.checkE = uE at *
          go_wp2_with fail
          refine (works_any w11).mono ?_
          rintro e wz ⟨rfl, hPz⟩
          go_wp2_with fail
          go_ret
          exact ⟨rfl, (hPv.pure hPz).below⟩
        rw [hu0]
        go_wp2_with fail
        refine (text_any key w11 hkm).mono ?_
        rintro e w12 ⟨rfl, hw12⟩
        subst hw12
        by_cases hk1 : textB key = true
        rotate_left
        · have hk1' : textB key = false := by simpa using hk1
          rw [hk1']
          go_wp2_with fail
          refine (works_any w12).mono ?_
          rintro e wz ⟨rfl, hPz⟩
          go_wp2_with fail
          go_ret
          exact ⟨rfl, (hPv.pure hPz).below⟩
        rw [hk1]
        have HCE := Lib.hid (HChk.out hv0 hu0 hk1)
        have HGN := Lib.hid (HDg.out hv0)
        clear hv0 hu0 hk1 hRu HChk HDg
        have hRp := hBp.range
        go_wp2_with (with_reducible refine at_load 24 (.tmp 7) ?_; refine wpList_load_g rfl (.tmp 7) rfl w5.heap.size 0 rfl cp hRp HLn.out ?_)
        refine (drop_top w (d + 1) PV cp key w12 hPv hTp HLp.out).mono ?_
        rintro e w13 ⟨ce, rfl, hTe, hP13, _⟩
        have hBv := hBv.ext hP13 id
        have hBu := hBu.ext hP13 id
        have hBp := hBp.ext hP13 id
        have hTp := hTp.pure hP13
        have hPv := hPv.pure hP13
        have hLe := hTe.lies hPv
        go_wp2_with fail
        refine (get_any (d + 1) (PV.dropped key) ce key w13 hLe (by have h1 := length_size (PV.dropped key); have h2 := size_drop PV key; have h3 := HZq.out; omega)).mono ?_
        rintro e w14 ⟨cn, rfl, hLn, hP14⟩
        rw [HGN.out] at hLn ⊢
        have hBv := hBv.ext hP14 id
        have hBu := hBu.ext hP14 id
        have hBp := hBp.ext hP14 id
        have hTp := hTp.pure hP14
        have hPv := hPv.pure hP14
        obtain ⟨hth, hBcn, hPy⟩ := put_new (W := w14) _ rfl hLn
        have hone := hLn.one
        have hlen := hLn.len
        obtain ⟨w15, hww15⟩ : ∃ z, z = (w14.alloc (.cells zeroCs.toArray 24)).setCells w14.heap.size 0 cn := ⟨_, rfl⟩
        rw [← hww15] at hBcn hPy
        have HThcn := Lib.hid (show (w14.alloc (.cells #[.int .i64 0, .int .i64 0, .string ⟨#[]⟩, .slice none 0 0] 24)).there w14.heap.size 0 cn.toArray.size by rw [show cn.toArray.size = 4 by simpa using hlen]; exact hth)
        have HSicn : Hid ((Try.prog.info? 24).map (·.size) = some cn.toArray.size) := Lib.hid (by rw [show cn.toArray.size = 4 by simpa using hlen]; exact size24)
        have HOncn := Lib.hid hone
        have HLncn := Lib.hid hlen
        have HWw15 : Hid (w15 = (w14.alloc (.cells #[.int .i64 0, .int .i64 0, .string ⟨#[]⟩, .slice none 0 0] 24)).setCells w14.heap.size 0 cn.toArray.toList) := Lib.hid (by rw [hww15]; rfl)
        have hBv := hBv.ext hPy id
        have hBu := hBu.ext hPy id
        have hBp := hBp.ext hPy id
        have hTp := hTp.pure hPy
        have hPv := hPv.pure hPy
        have hRp := hBp.range
        clear hPy hBcn hLn hLe hTe
        clear hth hone hlen hww15
        go_wp2_with (first
          | (with_reducible refine at_store 24 (.tmp 10) (.tmp 77) ?_; refine wpList_store_mid rfl 24 (.tmp 10) (.tmp 77) rfl w14.heap.size 0 cn.toArray rfl rfl HThcn.out HSicn.out HOncn.out ?_; rw [← HWw15.out])
          | (with_reducible refine at_load 24 (.tmp 7) ?_; refine wpList_load_g rfl (.tmp 7) rfl w5.heap.size 0 rfl cp hRp HLn.out ?_))
        refine (check_any _ PV cp w15 (hTp.lies hPv) HZq.out).mono ?_
        rintro e w16 ⟨rfl, hP16⟩
        rw [HCE.out]
        have hBv := hBv.ext hP16 id
        have hBu := hBu.ext hP16 id
        have hBp := hBp.ext hP16 id
        have hTp := hTp.pure hP16
        have hPv := hPv.pure hP16
        obtain ⟨D, hD⟩ : ∃ z, z = u.depth := ⟨_, rfl⟩
        rw [← hD] at HDu hdu ⊢
        clear hD
        have hDb : D ≤ 300 := by have := HSz'.out; omega
        by_cases h64 : D < 64
        · rw [if_pos h64]
          have hd1 : (D : Int) < 64 := by omega
          have hd2 : decide ((64 : Int) ≤ (D : Int)) = false := decide_eq_false (by omega)
          go_wp2_with fail
          have hBv := hBv.drew
          have hBu := hBu.drew
          have hBp := hBp.drew
          have hTp := hTp.pure ((Ext.refl (fun _ => False) w16).drew)
          have hPv := hPv.drew
          refine region_start (fun _ => False) (by kernel_rfl) ?_
          try simp only [Act.put, List.setIfInBounds_toArray, List.set_cons_zero, List.set_cons_succ]
          refine region_take 0 81 (v := ?vra0) rfl rfl (by kernel_rfl) (by kernel_rfl) (by kernel_rfl) (fun _ _ _ h => h) (by rfl) (fun w' hS => ?hra0) ?rra0
          case hra0 => go_simp; with_reducible rfl
          try simp only [Act.put, List.setIfInBounds_toArray, List.set_cons_zero, List.set_cons_succ]
          refine region_take 1 82 (v := ?vra1) rfl rfl (by kernel_rfl) (by kernel_rfl) (by kernel_rfl) (fun _ _ _ h => h) (by rfl) (fun w' hS => ?hra1) ?rra1
          case hra1 => go_simp; with_reducible rfl
          try simp only [Act.put, List.setIfInBounds_toArray, List.set_cons_zero, List.set_cons_succ]
          refine region_take 2 83 (v := ?vra2) rfl rfl (by kernel_rfl) (by kernel_rfl) (by kernel_rfl) (fun _ _ _ h => h) (by rfl) (fun w' hS => ?hra2) ?rra2
          case hra2 => go_simp; with_reducible rfl
          try simp only [Act.put, List.setIfInBounds_toArray, List.set_cons_zero, List.set_cons_succ]
          refine region_take 3 84 (v := ?vra3) rfl rfl (by kernel_rfl) (by kernel_rfl) (by kernel_rfl) (fun _ _ _ h => h) (by rfl) (fun w' hS => ?hra3) ?rra3
          case hra3 => (refine exec_load (x := .tmp 4) ?_ ?_ (hBu.ext hS id) HU.out <;> rfl)
          try simp only [Act.put, List.setIfInBounds_toArray, List.set_cons_zero, List.set_cons_succ]
          refine wpAnyH_ready (rs := [4]) (by kernel_rfl) (by simp) (AllReadyH.cons rfl (fun K hK => ?_) AllReadyH.nil)
          go_simp
          refine (HDu.out _ hPv HSz'.out).mono ?_
          rintro e w17 ⟨rfl, hP⟩
          have hBv := hBv.ext hP id
          have hBu := hBu.ext hP id
          have hBp := hBp.ext hP id
          have hTp := hTp.pure hP
          have hPv := hPv.pure hP
          refine hK.out _ _ (hP) (fun hHeld => ?_)
          clear hK K hHeld
          refine region_now (hP) ?_
          try simp only [Act.put, List.setIfInBounds_toArray, List.set_cons_zero, List.set_cons_succ]
          refine region_take 5 86 (v := ?vra5) rfl rfl (by kernel_rfl) (by kernel_rfl) (by kernel_rfl) (fun _ _ _ h => h) (by rfl) (fun w' hS => ?hra5) ?rra5
          case hra5 => go_simp; with_reducible rfl
          try simp only [Act.put, List.setIfInBounds_toArray, List.set_cons_zero, List.set_cons_succ]
          refine region_take 6 87 (v := ?vra6) rfl rfl (by kernel_rfl) (by kernel_rfl) (by kernel_rfl) (fun _ _ _ h => h) (by rfl) (fun w' hS => ?hra6) ?rra6
          case hra6 => go_simp; with_reducible rfl
          try simp only [Act.put, List.setIfInBounds_toArray, List.set_cons_zero, List.set_cons_succ]
          refine region_skip 7 88 rfl rfl (by kernel_rfl) (by kernel_rfl) (by kernel_rfl) (fun _ _ _ h => h) (by rfl) ?_
          try simp only [Act.put, List.setIfInBounds_toArray, List.set_cons_zero, List.set_cons_succ]
          refine region_skip 8 89 rfl rfl (by kernel_rfl) (by kernel_rfl) (by kernel_rfl) (fun _ _ _ h => h) (by rfl) ?_
          try simp only [Act.put, List.setIfInBounds_toArray, List.set_cons_zero, List.set_cons_succ]
          refine region_take 9 90 (v := ?vra9) rfl rfl (by kernel_rfl) (by kernel_rfl) (by kernel_rfl) (fun _ _ _ h => h) (by rfl) (fun w' hS => ?hra9) ?rra9
          case hra9 => go_simp; with_reducible rfl
          try simp only [Act.put, List.setIfInBounds_toArray, List.set_cons_zero, List.set_cons_succ]
          refine region_take 10 91 (v := ?vra10) rfl rfl (by kernel_rfl) (by kernel_rfl) (by kernel_rfl) (fun _ _ _ h => h) (by rfl) (fun w' hS => ?hra10) ?rra10
          case hra10 => go_simp; with_reducible rfl
          try simp only [Act.put, List.setIfInBounds_toArray, List.set_cons_zero, List.set_cons_succ]
          refine region_take 11 92 (v := ?vra11) rfl rfl (by kernel_rfl) (by kernel_rfl) (by kernel_rfl) (fun _ _ _ h => h) (by rfl) (fun w' hS => ?hra11) ?rra11
          case hra11 => (refine exec_load (x := .tmp 4) ?_ ?_ (hBu.ext hS id) HU.out <;> rfl)
          try simp only [Act.put, List.setIfInBounds_toArray, List.set_cons_zero, List.set_cons_succ]
          refine wpAnyH_ready (rs := [12]) (by kernel_rfl) (by simp) (AllReadyH.cons rfl (fun K hK => ?_) AllReadyH.nil)
          go_simp
          refine (HDu.out _ hPv HSz'.out).mono ?_
          rintro e w18 ⟨rfl, hP⟩
          have hBv := hBv.ext hP id
          have hBu := hBu.ext hP id
          have hBp := hBp.ext hP id
          have hTp := hTp.pure hP
          have hPv := hPv.pure hP
          refine hK.out _ _ (hP) (fun hHeld => ?_)
          clear hK K hHeld
          refine region_now (hP) ?_
          try simp only [Act.put, List.setIfInBounds_toArray, List.set_cons_zero, List.set_cons_succ]
          refine region_take 13 94 (v := ?vra13) rfl rfl (by kernel_rfl) (by kernel_rfl) (by kernel_rfl) (fun _ _ _ h => h) (by rfl) (fun w' hS => ?hra13) ?rra13
          case hra13 => go_simp; with_reducible rfl
          try simp only [Act.put, List.setIfInBounds_toArray, List.set_cons_zero, List.set_cons_succ]
          refine region_take 14 95 (v := ?vra14) rfl rfl (by kernel_rfl) (by kernel_rfl) (by kernel_rfl) (fun _ _ _ h => h) (by rfl) (fun w' hS => ?hra14) ?rra14
          case hra14 => go_simp; with_reducible rfl
          try simp only [Act.put, List.setIfInBounds_toArray, List.set_cons_zero, List.set_cons_succ]
          refine region_take 15 96 (v := ?vra15) rfl rfl (by kernel_rfl) (by kernel_rfl) (by kernel_rfl) (fun _ _ _ h => h) (by rfl) (fun w' hS => ?hra15) ?rra15
          case hra15 => go_simp; with_reducible rfl
          try simp only [Act.put, List.setIfInBounds_toArray, List.set_cons_zero, List.set_cons_succ]
          refine region_take 16 97 (v := ?vra16) rfl rfl (by kernel_rfl) (by kernel_rfl) (by kernel_rfl) (fun _ _ _ h => h) (by rfl) (fun w' hS => ?hra16) ?rra16
          case hra16 => go_simp; with_reducible rfl
          try simp only [Act.put, List.setIfInBounds_toArray, List.set_cons_zero, List.set_cons_succ]
          refine region_take 17 98 (v := ?vra17) rfl rfl (by kernel_rfl) (by kernel_rfl) (by kernel_rfl) (fun _ _ _ h => h) (by rfl) (fun w' hS => ?hra17) ?rra17
          case hra17 => go_simp; with_reducible rfl
          try simp only [Act.put, List.setIfInBounds_toArray, List.set_cons_zero, List.set_cons_succ]
          refine region_take 18 99 (v := ?vra18) rfl rfl (by kernel_rfl) (by kernel_rfl) (by kernel_rfl) (fun _ _ _ h => h) (by rfl) (fun w' hS => ?hra18) ?rra18
          case hra18 => go_simp; with_reducible rfl
          try simp only [Act.put, List.setIfInBounds_toArray, List.set_cons_zero, List.set_cons_succ]
          refine region_take 19 100 (v := ?vra19) rfl rfl (by kernel_rfl) (by kernel_rfl) (by kernel_rfl) (fun _ _ _ h => h) (by rfl) (fun w' hS => ?hra19) ?rra19
          case hra19 => go_simp; with_reducible rfl
          try simp only [Act.put, List.setIfInBounds_toArray, List.set_cons_zero, List.set_cons_succ]
          refine region_take 20 101 (v := ?vra20) rfl rfl (by kernel_rfl) (by kernel_rfl) (by kernel_rfl) (fun _ _ _ h => h) (by rfl) (fun w' hS => ?hra20) ?rra20
          case hra20 => go_simp; with_reducible rfl
          try simp only [Act.put, List.setIfInBounds_toArray, List.set_cons_zero, List.set_cons_succ]
          refine region_take 21 102 (v := ?vra21) rfl rfl (by kernel_rfl) (by kernel_rfl) (by kernel_rfl) (fun _ _ _ h => h) (by rfl) (fun w' hS => ?hra21) ?rra21
          case hra21 => (refine exec_load (x := .tmp 7) ?_ ?_ (hBp.ext hS id) HLn.out <;> rfl)
          try simp only [Act.put, List.setIfInBounds_toArray, List.set_cons_zero, List.set_cons_succ]
          refine region_take 22 103 (v := ?vra22) rfl rfl (by kernel_rfl) (by kernel_rfl) (by kernel_rfl) (fun _ _ _ h => h) (by rfl) (fun w' hS => ?hra22) ?rra22
          case hra22 => go_simp; with_reducible rfl
          try simp only [Act.put, List.setIfInBounds_toArray, List.set_cons_zero, List.set_cons_succ]
          refine region_take 24 105 (v := ?vra24) rfl rfl (by kernel_rfl) (by kernel_rfl) (by kernel_rfl) (fun _ _ _ h => h) (by rfl) (fun w' hS => ?hra24) ?rra24
          case hra24 => (refine exec_load (x := .tmp 3) ?_ ?_ (hBv.ext hS id) HC.out <;> rfl)
          try simp only [Act.put, List.setIfInBounds_toArray, List.set_cons_zero, List.set_cons_succ]
          refine region_take 25 106 (v := ?vra25) rfl rfl (by kernel_rfl) (by kernel_rfl) (by kernel_rfl) (fun _ _ _ h => h) (by rfl) (fun w' hS => ?hra25) ?rra25
          case hra25 => go_simp; with_reducible rfl
          try simp only [Act.put, List.setIfInBounds_toArray, List.set_cons_zero, List.set_cons_succ]
          refine wpAnyH_ready (rs := [23]) (by kernel_rfl) (by simp) (AllReadyH.cons rfl (fun K hK => ?_) AllReadyH.nil)
          go_simp
          refine (drop_top w (d + 1) PV cp key _ hPv hTp HLp.out).mono ?_
          rintro e w20 ⟨cx, rfl, hTx, hP, _⟩
          have hBv := hBv.ext hP id
          have hBu := hBu.ext hP id
          have hBp := hBp.ext hP id
          have hTp := hTp.pure hP
          have hPv := hPv.pure hP
          refine hK.out _ _ (hP) (fun hHeld => ?_)
          clear hK K hHeld
          refine region_now (hP) ?_
          try simp only [Act.put, List.setIfInBounds_toArray, List.set_cons_zero, List.set_cons_succ]
          refine wpAnyH_ready (rs := [26]) (by kernel_rfl) (by simp) (AllReadyH.cons rfl (fun K hK => ?_) AllReadyH.nil)
          go_simp
          refine (HD2.out _ hPv HSz.out).mono ?_
          rintro e w21 ⟨cy, rfl, hTy, hP, _⟩
          have hTx := hTx.pure hP
          have hBv := hBv.ext hP id
          have hBu := hBu.ext hP id
          have hBp := hBp.ext hP id
          have hTp := hTp.pure hP
          have hPv := hPv.pure hP
          refine hK.out _ _ (hP) (fun hHeld => ?_)
          clear hK K hHeld
          refine region_now (hP) ?_
          try simp only [Act.put, List.setIfInBounds_toArray, List.set_cons_zero, List.set_cons_succ]
          refine wpAnyH_ready (rs := [27]) (by kernel_rfl) (by simp) (AllReadyH.cons rfl (fun K hK => ?_) AllReadyH.nil)
          go_simp
          refine (show Calls Try.prog 17 #[.agg cx.toArray, .agg cy.toArray] w21 (BoolTo true w21) by have := refsame_any _ (PV.dropped key) cx _ (v.dropped key) cy w21 (hTx.lies hPv) (hTy.lies hPv) (by have h2 := size_drop PV key; have h3 := HZq.out; omega) (by have h2 := HZd.out; have h3 := HSz.out; omega); rw [HDd.out, cmp_self] at this; exact this).mono ?_
          rintro e w22 ⟨rfl, hP⟩
          clear hTx hTy
          have hBv := hBv.ext hP id
          have hBu := hBu.ext hP id
          have hBp := hBp.ext hP id
          have hTp := hTp.pure hP
          have hPv := hPv.pure hP
          refine hK.out _ _ (hP) (fun hHeld => ?_)
          clear hK K hHeld
          refine region_now (hP) ?_
          try simp only [Act.put, List.setIfInBounds_toArray, List.set_cons_zero, List.set_cons_succ]
          refine region_take 28 109 (v := ?vra28) rfl rfl (by kernel_rfl) (by kernel_rfl) (by kernel_rfl) (fun _ _ _ h => h) (by rfl) (fun w' hS => ?hra28) ?rra28
          case hra28 => go_simp; with_reducible rfl
          try simp only [Act.put, List.setIfInBounds_toArray, List.set_cons_zero, List.set_cons_succ]
          refine region_take 29 110 (v := ?vra29) rfl rfl (by kernel_rfl) (by kernel_rfl) (by kernel_rfl) (fun _ _ _ h => h) (by rfl) (fun w' hS => ?hra29) ?rra29
          case hra29 => go_simp; with_reducible rfl
          try simp only [Act.put, List.setIfInBounds_toArray, List.set_cons_zero, List.set_cons_succ]
          refine wpAnyH_ready (rs := [30]) (by kernel_rfl) (by simp) (AllReadyH.cons rfl (fun K hK => ?_) AllReadyH.nil)
          go_simp
          refine (works_any _).mono ?_
          rintro e w23 ⟨rfl, hP⟩
          have hPv := hPv.pure hP
          refine hK.out _ _ (hP) (fun hHeld => ?_)
          clear hK K hHeld
          refine region_now (hP) ?_
          try simp only [Act.put, List.setIfInBounds_toArray, List.set_cons_zero, List.set_cons_succ]
          refine region_take 31 112 (v := ?vra31) rfl rfl (by kernel_rfl) (by kernel_rfl) (by kernel_rfl) (fun _ _ _ h => h) (by rfl) (fun w' hS => ?hra31) ?rra31
          case hra31 => go_simp; with_reducible rfl
          try simp only [Act.put, List.setIfInBounds_toArray, List.set_cons_zero, List.set_cons_succ]
          refine region_take 32 6 (v := ?vra32) rfl rfl (by kernel_rfl) (by kernel_rfl) (by kernel_rfl) (fun _ _ _ h => h) (by rfl) (fun w' hS => ?hra32) ?rra32
          case hra32 => go_simp; with_reducible rfl
          try simp only [Act.put, List.setIfInBounds_toArray, List.set_cons_zero, List.set_cons_succ]
          refine wpAnyH_done (by kernel_rfl) ?_ _
          go_wp2_with fail
          go_ret
          exact ⟨rfl, hPv.below⟩
        · rw [if_neg h64]
          have hd1 : ¬ (D : Int) < 64 := by omega
          have hd2 : (64 : Int) ≤ (D : Int) := by omega
          go_wp2_with fail
          have hBv := hBv.drew
          have hBu := hBu.drew
          have hBp := hBp.drew
          have hTp := hTp.pure ((Ext.refl (fun _ => False) w16).drew)
          have hPv := hPv.drew
          refine region_start (fun _ => False) (by kernel_rfl) ?_
          try simp only [Act.put, List.setIfInBounds_toArray, List.set_cons_zero, List.set_cons_succ]
          refine region_take 0 81 (v := ?vrb0) rfl rfl (by kernel_rfl) (by kernel_rfl) (by kernel_rfl) (fun _ _ _ h => h) (by rfl) (fun w' hS => ?hrb0) ?rrb0
          case hrb0 => go_simp; with_reducible rfl
          try simp only [Act.put, List.setIfInBounds_toArray, List.set_cons_zero, List.set_cons_succ]
          refine region_take 1 82 (v := ?vrb1) rfl rfl (by kernel_rfl) (by kernel_rfl) (by kernel_rfl) (fun _ _ _ h => h) (by rfl) (fun w' hS => ?hrb1) ?rrb1
          case hrb1 => go_simp; with_reducible rfl
          try simp only [Act.put, List.setIfInBounds_toArray, List.set_cons_zero, List.set_cons_succ]
          refine region_take 2 83 (v := ?vrb2) rfl rfl (by kernel_rfl) (by kernel_rfl) (by kernel_rfl) (fun _ _ _ h => h) (by rfl) (fun w' hS => ?hrb2) ?rrb2
          case hrb2 => go_simp; with_reducible rfl
          try simp only [Act.put, List.setIfInBounds_toArray, List.set_cons_zero, List.set_cons_succ]
          refine region_take 3 84 (v := ?vrb3) rfl rfl (by kernel_rfl) (by kernel_rfl) (by kernel_rfl) (fun _ _ _ h => h) (by rfl) (fun w' hS => ?hrb3) ?rrb3
          case hrb3 => (refine exec_load (x := .tmp 4) ?_ ?_ (hBu.ext hS id) HU.out <;> rfl)
          try simp only [Act.put, List.setIfInBounds_toArray, List.set_cons_zero, List.set_cons_succ]
          refine wpAnyH_ready (rs := [4]) (by kernel_rfl) (by simp) (AllReadyH.cons rfl (fun K hK => ?_) AllReadyH.nil)
          go_simp
          refine (HDu.out _ hPv HSz'.out).mono ?_
          rintro e w17 ⟨rfl, hP⟩
          have hBv := hBv.ext hP id
          have hBu := hBu.ext hP id
          have hBp := hBp.ext hP id
          have hTp := hTp.pure hP
          have hPv := hPv.pure hP
          refine hK.out _ _ (hP) (fun hHeld => ?_)
          clear hK K hHeld
          refine region_now (hP) ?_
          try simp only [Act.put, List.setIfInBounds_toArray, List.set_cons_zero, List.set_cons_succ]
          refine region_take 5 86 (v := ?vrb5) rfl rfl (by kernel_rfl) (by kernel_rfl) (by kernel_rfl) (fun _ _ _ h => h) (by rfl) (fun w' hS => ?hrb5) ?rrb5
          case hrb5 => go_simp; with_reducible rfl
          try simp only [Act.put, List.setIfInBounds_toArray, List.set_cons_zero, List.set_cons_succ]
          refine region_take 6 87 (v := ?vrb6) rfl rfl (by kernel_rfl) (by kernel_rfl) (by kernel_rfl) (fun _ _ _ h => h) (by rfl) (fun w' hS => ?hrb6) ?rrb6
          case hrb6 => go_simp; with_reducible rfl
          try simp only [Act.put, List.setIfInBounds_toArray, List.set_cons_zero, List.set_cons_succ]
          refine region_take 7 88 (v := ?vrb7) rfl rfl (by kernel_rfl) (by kernel_rfl) (by kernel_rfl) (fun _ _ _ h => h) (by rfl) (fun w' hS => ?hrb7) ?rrb7
          case hrb7 => go_simp; with_reducible rfl
          try simp only [Act.put, List.setIfInBounds_toArray, List.set_cons_zero, List.set_cons_succ]
          refine region_take 8 89 (v := ?vrb8) rfl rfl (by kernel_rfl) (by kernel_rfl) (by kernel_rfl) (fun _ _ _ h => h) (by rfl) (fun w' hS => ?hrb8) ?rrb8
          case hrb8 => go_simp; with_reducible rfl
          try simp only [Act.put, List.setIfInBounds_toArray, List.set_cons_zero, List.set_cons_succ]
          refine region_take 9 90 (v := ?vrb9) rfl rfl (by kernel_rfl) (by kernel_rfl) (by kernel_rfl) (fun _ _ _ h => h) (by rfl) (fun w' hS => ?hrb9) ?rrb9
          case hrb9 => go_simp; with_reducible rfl
          try simp only [Act.put, List.setIfInBounds_toArray, List.set_cons_zero, List.set_cons_succ]
          refine region_take 10 91 (v := ?vrb10) rfl rfl (by kernel_rfl) (by kernel_rfl) (by kernel_rfl) (fun _ _ _ h => h) (by rfl) (fun w' hS => ?hrb10) ?rrb10
          case hrb10 => go_simp; with_reducible rfl
          try simp only [Act.put, List.setIfInBounds_toArray, List.set_cons_zero, List.set_cons_succ]
          refine region_skip 11 92 rfl rfl (by kernel_rfl) (by kernel_rfl) (by kernel_rfl) (fun _ _ _ h => h) (by rfl) ?_
          try simp only [Act.put, List.setIfInBounds_toArray, List.set_cons_zero, List.set_cons_succ]
          refine region_skip 12 93 rfl rfl (by kernel_rfl) (by kernel_rfl) (by kernel_rfl) (fun _ _ _ h => h) (by rfl) ?_
          try simp only [Act.put, List.setIfInBounds_toArray, List.set_cons_zero, List.set_cons_succ]
          refine region_skip 13 94 rfl rfl (by kernel_rfl) (by kernel_rfl) (by kernel_rfl) (fun _ _ _ h => h) (by rfl) ?_
          try simp only [Act.put, List.setIfInBounds_toArray, List.set_cons_zero, List.set_cons_succ]
          refine region_skip 14 95 rfl rfl (by kernel_rfl) (by kernel_rfl) (by kernel_rfl) (fun _ _ _ h => h) (by rfl) ?_
          try simp only [Act.put, List.setIfInBounds_toArray, List.set_cons_zero, List.set_cons_succ]
          refine region_skip 15 96 rfl rfl (by kernel_rfl) (by kernel_rfl) (by kernel_rfl) (fun _ _ _ h => h) (by rfl) ?_
          try simp only [Act.put, List.setIfInBounds_toArray, List.set_cons_zero, List.set_cons_succ]
          refine region_skip 16 97 rfl rfl (by kernel_rfl) (by kernel_rfl) (by kernel_rfl) (fun _ _ _ h => h) (by rfl) ?_
          try simp only [Act.put, List.setIfInBounds_toArray, List.set_cons_zero, List.set_cons_succ]
          refine region_skip 17 98 rfl rfl (by kernel_rfl) (by kernel_rfl) (by kernel_rfl) (fun _ _ _ h => h) (by rfl) ?_
          try simp only [Act.put, List.setIfInBounds_toArray, List.set_cons_zero, List.set_cons_succ]
          refine region_take 18 99 (v := ?vrb18) rfl rfl (by kernel_rfl) (by kernel_rfl) (by kernel_rfl) (fun _ _ _ h => h) (by rfl) (fun w' hS => ?hrb18) ?rrb18
          case hrb18 => go_simp; with_reducible rfl
          try simp only [Act.put, List.setIfInBounds_toArray, List.set_cons_zero, List.set_cons_succ]
          refine region_take 19 100 (v := ?vrb19) rfl rfl (by kernel_rfl) (by kernel_rfl) (by kernel_rfl) (fun _ _ _ h => h) (by rfl) (fun w' hS => ?hrb19) ?rrb19
          case hrb19 => go_simp; with_reducible rfl
          try simp only [Act.put, List.setIfInBounds_toArray, List.set_cons_zero, List.set_cons_succ]
          refine region_take 20 101 (v := ?vrb20) rfl rfl (by kernel_rfl) (by kernel_rfl) (by kernel_rfl) (fun _ _ _ h => h) (by rfl) (fun w' hS => ?hrb20) ?rrb20
          case hrb20 => go_simp; with_reducible rfl
          try simp only [Act.put, List.setIfInBounds_toArray, List.set_cons_zero, List.set_cons_succ]
          refine region_take 21 102 (v := ?vrb21) rfl rfl (by kernel_rfl) (by kernel_rfl) (by kernel_rfl) (fun _ _ _ h => h) (by rfl) (fun w' hS => ?hrb21) ?rrb21
          case hrb21 => (refine exec_load (x := .tmp 7) ?_ ?_ (hBp.ext hS id) HLn.out <;> rfl)
          try simp only [Act.put, List.setIfInBounds_toArray, List.set_cons_zero, List.set_cons_succ]
          refine region_take 22 103 (v := ?vrb22) rfl rfl (by kernel_rfl) (by kernel_rfl) (by kernel_rfl) (fun _ _ _ h => h) (by rfl) (fun w' hS => ?hrb22) ?rrb22
          case hrb22 => go_simp; with_reducible rfl
          try simp only [Act.put, List.setIfInBounds_toArray, List.set_cons_zero, List.set_cons_succ]
          refine region_take 24 105 (v := ?vrb24) rfl rfl (by kernel_rfl) (by kernel_rfl) (by kernel_rfl) (fun _ _ _ h => h) (by rfl) (fun w' hS => ?hrb24) ?rrb24
          case hrb24 => (refine exec_load (x := .tmp 3) ?_ ?_ (hBv.ext hS id) HC.out <;> rfl)
          try simp only [Act.put, List.setIfInBounds_toArray, List.set_cons_zero, List.set_cons_succ]
          refine region_take 25 106 (v := ?vrb25) rfl rfl (by kernel_rfl) (by kernel_rfl) (by kernel_rfl) (fun _ _ _ h => h) (by rfl) (fun w' hS => ?hrb25) ?rrb25
          case hrb25 => go_simp; with_reducible rfl
          try simp only [Act.put, List.setIfInBounds_toArray, List.set_cons_zero, List.set_cons_succ]
          refine wpAnyH_ready (rs := [23]) (by kernel_rfl) (by simp) (AllReadyH.cons rfl (fun K hK => ?_) AllReadyH.nil)
          go_simp
          refine (drop_top w (d + 1) PV cp key _ hPv hTp HLp.out).mono ?_
          rintro e w20 ⟨cx, rfl, hTx, hP, _⟩
          have hBv := hBv.ext hP id
          have hBu := hBu.ext hP id
          have hBp := hBp.ext hP id
          have hTp := hTp.pure hP
          have hPv := hPv.pure hP
          refine hK.out _ _ (hP) (fun hHeld => ?_)
          clear hK K hHeld
          refine region_now (hP) ?_
          try simp only [Act.put, List.setIfInBounds_toArray, List.set_cons_zero, List.set_cons_succ]
          refine wpAnyH_ready (rs := [26]) (by kernel_rfl) (by simp) (AllReadyH.cons rfl (fun K hK => ?_) AllReadyH.nil)
          go_simp
          refine (HD2.out _ hPv HSz.out).mono ?_
          rintro e w21 ⟨cy, rfl, hTy, hP, _⟩
          have hTx := hTx.pure hP
          have hBv := hBv.ext hP id
          have hBu := hBu.ext hP id
          have hBp := hBp.ext hP id
          have hTp := hTp.pure hP
          have hPv := hPv.pure hP
          refine hK.out _ _ (hP) (fun hHeld => ?_)
          clear hK K hHeld
          refine region_now (hP) ?_
          try simp only [Act.put, List.setIfInBounds_toArray, List.set_cons_zero, List.set_cons_succ]
          refine wpAnyH_ready (rs := [27]) (by kernel_rfl) (by simp) (AllReadyH.cons rfl (fun K hK => ?_) AllReadyH.nil)
          go_simp
          refine (show Calls Try.prog 17 #[.agg cx.toArray, .agg cy.toArray] w21 (BoolTo true w21) by have := refsame_any _ (PV.dropped key) cx _ (v.dropped key) cy w21 (hTx.lies hPv) (hTy.lies hPv) (by have h2 := size_drop PV key; have h3 := HZq.out; omega) (by have h2 := HZd.out; have h3 := HSz.out; omega); rw [HDd.out, cmp_self] at this; exact this).mono ?_
          rintro e w22 ⟨rfl, hP⟩
          clear hTx hTy
          have hBv := hBv.ext hP id
          have hBu := hBu.ext hP id
          have hBp := hBp.ext hP id
          have hTp := hTp.pure hP
          have hPv := hPv.pure hP
          refine hK.out _ _ (hP) (fun hHeld => ?_)
          clear hK K hHeld
          refine region_now (hP) ?_
          try simp only [Act.put, List.setIfInBounds_toArray, List.set_cons_zero, List.set_cons_succ]
          refine region_take 28 109 (v := ?vrb28) rfl rfl (by kernel_rfl) (by kernel_rfl) (by kernel_rfl) (fun _ _ _ h => h) (by rfl) (fun w' hS => ?hrb28) ?rrb28
          case hrb28 => go_simp; with_reducible rfl
          try simp only [Act.put, List.setIfInBounds_toArray, List.set_cons_zero, List.set_cons_succ]
          refine region_take 29 110 (v := ?vrb29) rfl rfl (by kernel_rfl) (by kernel_rfl) (by kernel_rfl) (fun _ _ _ h => h) (by rfl) (fun w' hS => ?hrb29) ?rrb29
          case hrb29 => go_simp; with_reducible rfl
          try simp only [Act.put, List.setIfInBounds_toArray, List.set_cons_zero, List.set_cons_succ]
          refine wpAnyH_ready (rs := [30]) (by kernel_rfl) (by simp) (AllReadyH.cons rfl (fun K hK => ?_) AllReadyH.nil)
          go_simp
          refine (works_any _).mono ?_
          rintro e w23 ⟨rfl, hP⟩
          have hPv := hPv.pure hP
          refine hK.out _ _ (hP) (fun hHeld => ?_)
          clear hK K hHeld
          refine region_now (hP) ?_
          try simp only [Act.put, List.setIfInBounds_toArray, List.set_cons_zero, List.set_cons_succ]
          refine region_take 31 112 (v := ?vrb31) rfl rfl (by kernel_rfl) (by kernel_rfl) (by kernel_rfl) (fun _ _ _ h => h) (by rfl) (fun w' hS => ?hrb31) ?rrb31
          case hrb31 => go_simp; with_reducible rfl
          try simp only [Act.put, List.setIfInBounds_toArray, List.set_cons_zero, List.set_cons_succ]
          refine region_take 32 6 (v := ?vrb32) rfl rfl (by kernel_rfl) (by kernel_rfl) (by kernel_rfl) (fun _ _ _ h => h) (by rfl) (fun w' hS => ?hrb32) ?rrb32
          case hrb32 => go_simp; with_reducible rfl
          try simp only [Act.put, List.setIfInBounds_toArray, List.set_cons_zero, List.set_cons_succ]
          refine wpAnyH_done (by kernel_rfl) ?_ _
          go_wp2_with fail
          go_ret
          exact ⟨rfl, hPv.below⟩
      · have hki : (300 : Int) < (key.size : Int) := by omega
        go_wp2_with fail
        refine (works_any w4).mono ?_
        rintro e w5 ⟨rfl, hP5⟩
        go_wp2_with fail
        go_ret
        exact ⟨rfl, (hPv.pure hP5).below⟩
    · have e2 : decide (u.size ≤ 300) = false := by simp [hs']
      rw [e2] at HSu
      refine (HSu.out w3 hPv).mono ?_
      rintro e w4 ⟨rfl, hP4⟩
      have hPv := hPv.pure hP4
      go_wp2_with fail
      refine (works_any w4).mono ?_
      rintro e w5 ⟨rfl, hP5⟩
      go_wp2_with fail
      go_ret
      exact ⟨rfl, (hPv.pure hP5).below⟩
  · have e1 : decide (v.size ≤ 300) = false := by simp [hs]
    rw [e1] at HSv
    go_enter Try.func6, Try.ntmps6
    go_wp2_with (with_reducible refine at_load 24 (.tmp 3) ?_; refine wpList_load_g rfl (.tmp 3) rfl w.heap.size 0 rfl cs hRv HC.out ?_)
    rw [HW.out, ← HTb.out]
    refine (HSv.out w2 hPv).mono ?_
    rintro e w3 ⟨rfl, hP3⟩
    have hPv := hPv.pure hP3
    go_wp2_with fail
    refine (works_any w3).mono ?_
    rintro e w5 ⟨rfl, hP5⟩
    go_wp2_with fail
    go_ret
    exact ⟨rfl, (hPv.pure hP5).below⟩

set_option maxRecDepth 100000 in
theorem lifted (os : Os) (started : os.Started) (H : Type) (enc : TypeId × Value → H) :
    ReturnsInHanded {} Try.checked os 6 .any (Rows.valuePutsSpec.pre6 enc Try.prog Try.f6 Rows.valuePutsRow.domain false) (Rows.valuePutsSpec.post enc Try.prog Try.f6 false true false false) := by
  refine returnsInHanded_of_change (C := Try.checked) own started (by kernel_rfl) Try.func6
    (ChangeSpec.witness6 (enc := enc) (C := Try.checked) false ⟨#[], #[.agg #[.int .i64 0, .int .i64 0, .string ⟨#[]⟩, .slice none 0 0], .agg #[.int .i64 0, .int .i64 0, .string ⟨#[]⟩, .slice none 0 0], .string ⟨#[]⟩], []⟩ 8 (by kernel_rfl) (by kernel_rfl) (by kernel_rfl) (by kernel_rfl)) ?_
  intro W base args ds gs before hval0 hW hcnd _
  have hval : ∀ (j : Nat) t v, Try.f6.params[j]? = some t → args[j]? = some v → Value.okWide Try.prog W .any base t v := hval0
  have hW' := hW
  obtain ⟨p, q, hA0, hV, rfl, hfz, hnd⟩ := hW
  have hA : DataW.TrodAll enc Try.prog W 0 (fun _ => true) true Try.f6.params.toList args.toList ds p := hA0
  rw [Try.params6] at hA hval
  obtain ⟨v0, vs0, d0, ds0, p0, q0, hargs, rfl, rfl, h0, r0⟩ := trodAll_cons hA
  obtain ⟨v1, vs1, d1, ds1, p1, q1, rfl, rfl, rfl, h1, r1⟩ := trodAll_cons r0
  obtain ⟨v2, vs2, d2, ds2, p2, q2, rfl, rfl, rfl, h2, r2⟩ := trodAll_cons r1
  obtain ⟨rfl, rfl, rfl⟩ := trodAll_nil r2
  obtain rfl : args = #[v0, v1, v2] := by cases args; simp_all
  obtain ⟨rfl, rfl⟩ := trodVars_none hV
  have k0 := h0
  have lt0 : ∀ x ∈ p0, x.block < W.heap.size := by obtain ⟨m, hm⟩ := k0; exact DataW.trod_lt m _ _ _ hm
  have k1 := h1
  have lt1 : ∀ x ∈ p1, x.block < W.heap.size := by obtain ⟨m, hm⟩ := k1; exact DataW.trod_lt m _ _ _ hm
  have k2 := h2
  have lt2 : ∀ x ∈ p2, x.block < W.heap.size := by obtain ⟨m, hm⟩ := k2; exact DataW.trod_lt m _ _ _ hm
  obtain ⟨F0, u0, cs0, rfl, hL0⟩ := open_val (hval 0 24 v0 rfl rfl) h0
  obtain ⟨F1, u1, cs1, rfl, hL1⟩ := open_val (hval 1 24 v1 rfl rfl) h1
  obtain ⟨s2, rfl, rfl, rfl, hs2⟩ := Go.ChangeMaps.open_string Try.underlying9 (hval 2 9 v2 rfl rfl) h2
  clear hA0 hval0
  refine (walk F0 u0 cs0 F1 u1 cs1 s2 W hL0 hL1 hs2).mono fun e W' ⟨he, bel⟩ => ?_
  subst he
  exact ⟨_, rfl, _, _, _, [], _, [], hW', trodAll_mk1 (shut_bool Try.underlying4 _), (trodAll_cons_mk (Below.trod laidOut (by kernel_rfl) (of_decide_eq_true (by kernel_rfl)) k0 bel lt0) (trodAll_cons_mk (Below.trod laidOut (by kernel_rfl) (of_decide_eq_true (by kernel_rfl)) k1 bel lt1) (trodAll_cons_mk (Below.trod laidOut (by kernel_rfl) (of_decide_eq_true (by kernel_rfl)) k2 bel lt2) trodAll_mk0))), rfl, bel.frame _, fun h => by cases h⟩

theorem proved : Rows.ValuePutsSaid :=
  OpenClaim.holds_of_wide 6 Try.f6 rfl rfl rfl rfl rfl rfl rfl ⟨rfl, rfl, rfl, rfl, rfl⟩ rfl rfl rfl rfl rfl (by kernel_rfl) Try.func6 (by kernel_rfl)
    (of_decide_eq_true (by kernel_rfl)) (by unfold Func.isWrapper; first | (rw [if_pos (by decide +kernel)]; kernel_rfl) | (rw [if_neg (by decide +kernel)]; exact ⟨rfl, rfl⟩))
    (fun os started H enc _ => lifted os started H enc)
#print axioms proved
end Go.Proofs.Ytiakphjkcpbccaa.valuePuts
