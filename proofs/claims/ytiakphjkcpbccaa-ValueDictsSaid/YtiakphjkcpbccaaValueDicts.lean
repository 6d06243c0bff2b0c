/-
  ValueDicts: what any value has of a name, and what it is with another value put in, or without it, is as the document says. No condition.
-/
import Derived.Test.YtiakphjkcpbccaaLoadG
import Derived.Test.YtiakphjkcpbccaaSizes
namespace Go.Proofs.Ytiakphjkcpbccaa.valueDicts
open Go.ChangeShapes Go.WideShapes Go.ChangeAt Go.RowKit Go.Proofs.Ytiakphjkcpbccaa
set_option linter.unusedVariables false

set_option maxHeartbeats 8000000 in
set_option maxRecDepth 100000 in
theorem walk (d0 : Nat) (v : V) (cs : List Value) (d' : Nat) (u : V) (us : List Value) (key : ByteArray) (w : World) (h0 : Lies w d0 v cs) (h0' : Lies w d' u us) (hkm : key.size ≤ maxLen) :
    Calls Try.prog 5 #[.agg cs.toArray, .agg us.toArray, .string key] w fun e w' => e = .returned (.bool true) ∧ Below w.heap.size w w' := by
  have HC := Lib.hid h0.len
  have HU := Lib.hid h0'.len
  obtain ⟨d, hd⟩ : ∃ z, z = d0 + d' := ⟨_, rfl⟩
  have h : Lies w (d + 2) v cs := h0.mono (by omega)
  have h' : Lies w (d + 1) u us := h0'.mono (by omega)
  have HSv := Lib.hid (fun W (hP : Pure w W) => small_any (h.pure hP))
  have HSu := Lib.hid (fun W (hP : Pure w W) => small_any (h'.pure hP))
  have hlv := length_size v
  have HG1 := Lib.hid (fun W (hP : Pure w W) (hs : v.size ≤ 300) => get_any (d + 1) v cs key W (h.pure hP) (by omega))
  have HG2 := Lib.hid (fun W (hP : Pure w W) (hs : v.size ≤ 300) => refget_any (d + 1) v cs key W (h.pure hP) (by omega))
  have HP1 := Lib.hid (fun W (hP : Pure w W) (hs : v.size ≤ 300) => put_top w d v cs key u us W hP (h.top.pure hP) h' (by omega) hkm)
  have HP2 := Lib.hid (fun W (hP : Pure w W) (hs : v.size ≤ 300) => refput_top w d v cs key u us W hP (h.top.pure hP) h' (by omega) hkm)
  have HD1 := Lib.hid (fun W (hP : Pure w W) (hs : v.size ≤ 300) => drop_top w (d + 1) v cs key W hP (h.top.pure hP) (by omega))
  have HD2 := Lib.hid (fun W (hP : Pure w W) (hs : v.size ≤ 300) => refdrop_top w (d + 1) v cs key W hP (h.top.pure hP) (by omega))
  have HZg := Lib.hid (size_got v key)
  have HZp := Lib.hid (size_put v key u)
  have HZd := Lib.hid (size_drop v key)
  obtain ⟨w1, hw1⟩ : ∃ z, z = w.alloc (.cells cs.toArray 24) := ⟨_, rfl⟩
  obtain ⟨tb, htb⟩ : ∃ z, z = w.heap.size := ⟨_, rfl⟩
  have hs1 : w1.heap.size = tb + 1 := by rw [hw1, World.size_alloc, htb]
  have hB1 : BlockIs w1 tb cs 24 := by rw [htb, hw1]; exact BlockIs.new w _ _
  obtain ⟨w2, hw2⟩ : ∃ z, z = w1.alloc (.cells us.toArray 24) := ⟨_, rfl⟩
  have hBv : BlockIs w2 tb cs 24 := hw2 ▸ hB1.alloc _
  have hBu : BlockIs w2 (tb + 1) us 24 := by rw [← hs1, hw2]; exact BlockIs.new w1 _ _
  have hPv : Pure w w2 := (show Pure w w1 from hw1 ▸ ext_alloc w _).pure (hw2 ▸ ext_alloc w1 _)
  have HW : Hid ((w.alloc (.cells cs.toArray 24)).alloc (.cells us.toArray 24) = w2) := Lib.hid (by rw [hw2, hw1])
  have HTb := Lib.hid htb
  have hRv : ((w.alloc (.cells cs.toArray 24)).alloc (.cells us.toArray 24)).rangeAt w.heap.size 0 cs := by rw [HW.out, ← HTb.out]; exact hBv.range
  obtain ⟨G, hG⟩ : ∃ z, z = v.get key := ⟨_, rfl⟩
  obtain ⟨PV, hPV⟩ : ∃ z, z = v.put key u := ⟨_, rfl⟩
  obtain ⟨DV, hDV⟩ : ∃ z, z = v.dropped key := ⟨_, rfl⟩
  rw [← hG] at HG1 HG2 HZg
  rw [← hPV] at HP1 HP2 HZp
  rw [← hDV] at HD1 HD2 HZd
  clear hw1 hw2 h h' h0 h0' htb hs1 hB1 hG hPV hDV hd
  by_cases hs : v.size ≤ 300
  · have HSz := Lib.hid hs
    have e1 : decide (v.size ≤ 300) = true := by simp [hs]
    rw [e1] at HSv
    clear e1 hs
    go_enter Try.func5, Try.ntmps5
    go_wp2_with (with_reducible refine at_load 24 (.tmp 3) ?_; refine wpList_load_g rfl (.tmp 3) rfl w.heap.size 0 rfl cs hRv HC.out ?_)
    rw [HW.out, ← HTb.out]
    refine (HSv.out w2 hPv).mono ?_
    rintro e w3 ⟨rfl, hP3⟩
    have hBv := hBv.ext hP3 id
    have hBu := hBu.ext hP3 id
    have hPv := hPv.pure hP3
    have hRu := hBu.range
    clear hRv hP3
    go_wp2_with (with_reducible refine at_load 24 (.tmp 4) ?_; refine wpList_load_g rfl (.tmp 4) rfl (tb + 1) 0 rfl us hRu HU.out ?_)
    by_cases hs' : u.size ≤ 300
    · have HSz' := Lib.hid hs'
      have e2 : decide (u.size ≤ 300) = true := by simp [hs']
      rw [e2] at HSu
      clear e2 hs'
      refine (HSu.out w3 hPv).mono ?_
      rintro e w4 ⟨rfl, hP4⟩
      have hBv := hBv.ext hP4 id
      have hBu := hBu.ext hP4 id
      have hPv := hPv.pure hP4
      clear hRu hP4
      by_cases hk : key.size ≤ 300
      · have hki : ¬ (300 : Int) < (key.size : Int) := by omega
        have hRv := hBv.range
        go_wp2_with (with_reducible refine at_load 24 (.tmp 3) ?_; refine wpList_load_g rfl (.tmp 3) rfl tb 0 rfl cs hRv HC.out ?_)
        refine (HG1.out w4 hPv HSz.out).mono ?_
        rintro e w5 ⟨ca, rfl, hLca, hPx⟩
        have hBv := hBv.ext hPx id
        have hBu := hBu.ext hPx id
        have hPv := hPv.pure hPx
        skip
        obtain ⟨hth, hBca, hPy⟩ := put_new (W := w5) _ rfl hLca
        have hone := hLca.one
        have hlen := hLca.len
        obtain ⟨w6, hww6⟩ : ∃ z, z = (w5.alloc (.cells zeroCs.toArray 24)).setCells w5.heap.size 0 ca := ⟨_, rfl⟩
        rw [← hww6] at hBca hPy
        have HThca := Lib.hid (show (w5.alloc (.cells #[.int .i64 0, .int .i64 0, .string ⟨#[]⟩, .slice none 0 0] 24)).there w5.heap.size 0 ca.toArray.size by rw [show ca.toArray.size = 4 by simpa using hlen]; exact hth)
        have HSica : Hid ((Try.prog.info? 24).map (·.size) = some ca.toArray.size) := Lib.hid (by rw [show ca.toArray.size = 4 by simpa using hlen]; exact size24)
        have HOnca := Lib.hid hone
        have HLnca := Lib.hid hlen
        have HWw6 : Hid (w6 = (w5.alloc (.cells #[.int .i64 0, .int .i64 0, .string ⟨#[]⟩, .slice none 0 0] 24)).setCells w5.heap.size 0 ca.toArray.toList) := Lib.hid (by rw [hww6]; rfl)
        have hBv := hBv.ext hPy id
        have hBu := hBu.ext hPy id
        have hPv := hPv.pure hPy
        have hLca := hLca.pure hPy
        skip
        have hRv := hBv.range
        clear hth hone hlen hww6
        go_wp2_with (first
          | (with_reducible refine at_store 24 (.tmp 7) (.tmp 29) ?_; refine wpList_store_mid rfl 24 (.tmp 7) (.tmp 29) rfl w5.heap.size 0 ca.toArray rfl rfl HThca.out HSica.out HOnca.out ?_; rw [← HWw6.out])
          | (with_reducible refine at_load 24 (.tmp 3) ?_; refine wpList_load_g rfl (.tmp 3) rfl tb 0 rfl cs hRv HC.out ?_))
        refine (HG2.out w6 hPv HSz.out).mono ?_
        rintro e w7 ⟨cb, rfl, hLcb, hPx⟩
        have hBv := hBv.ext hPx id
        have hBu := hBu.ext hPx id
        have hPv := hPv.pure hPx
        have hBca := hBca.ext hPx id
        have hLca := hLca.pure hPx
        obtain ⟨hth, hBcb, hPy⟩ := put_new (W := w7) _ rfl hLcb
        have hone := hLcb.one
        have hlen := hLcb.len
        obtain ⟨w8, hww8⟩ : ∃ z, z = (w7.alloc (.cells zeroCs.toArray 24)).setCells w7.heap.size 0 cb := ⟨_, rfl⟩
        rw [← hww8] at hBcb hPy
        have HThcb := Lib.hid (show (w7.alloc (.cells #[.int .i64 0, .int .i64 0, .string ⟨#[]⟩, .slice none 0 0] 24)).there w7.heap.size 0 cb.toArray.size by rw [show cb.toArray.size = 4 by simpa using hlen]; exact hth)
        have HSicb : Hid ((Try.prog.info? 24).map (·.size) = some cb.toArray.size) := Lib.hid (by rw [show cb.toArray.size = 4 by simpa using hlen]; exact size24)
        have HOncb := Lib.hid hone
        have HLncb := Lib.hid hlen
        have HWw8 : Hid (w8 = (w7.alloc (.cells #[.int .i64 0, .int .i64 0, .string ⟨#[]⟩, .slice none 0 0] 24)).setCells w7.heap.size 0 cb.toArray.toList) := Lib.hid (by rw [hww8]; rfl)
        have hBv := hBv.ext hPy id
        have hBu := hBu.ext hPy id
        have hPv := hPv.pure hPy
        have hLcb := hLcb.pure hPy
        have hBca := hBca.ext hPy id
        have hLca := hLca.pure hPy
        have hRv := hBv.range
        clear hth hone hlen hww8
        go_wp2_with (first
          | (with_reducible refine at_store 24 (.tmp 9) (.tmp 35) ?_; refine wpList_store_mid rfl 24 (.tmp 9) (.tmp 35) rfl w7.heap.size 0 cb.toArray rfl rfl HThcb.out HSicb.out HOncb.out ?_; rw [← HWw8.out])
          | (with_reducible refine at_load 24 (.tmp 3) ?_; refine wpList_load_g rfl (.tmp 3) rfl tb 0 rfl cs hRv HC.out ?_))
        have HLa := Lib.hid hLca
        have HLb := Lib.hid hLcb
        have HSG := Lib.hid (fun W (hP : Pure w8 W) => by have := refsame_any _ G.1 ca _ G.1 cb W (hLca.pure hP) (hLcb.pure hP) (by have := HZg.out; have := HSz.out; omega) (by have := HZg.out; have := HSz.out; omega); rw [cmp_self] at this; exact this)
        have hBa := hBca
        have hBb := hBcb
        clear hLca hLcb hBca hBcb HG1 HG2
        obtain ⟨BG, hBG⟩ : ∃ z, z = G.2 := ⟨_, rfl⟩
        rw [← hBG]
        clear hBG hRv
        have hQ := (Ext.refl (fun _ => False) w8).drew
        have hBv := hBv.drew
        have hBu := hBu.drew
        have hBa := hBa.drew
        have hBb := hBb.drew
        have hPv := hPv.drew
        refine region_start (fun _ => False) (by kernel_rfl) ?_
        try simp only [Act.put, List.setIfInBounds_toArray, List.set_cons_zero, List.set_cons_succ]
        refine region_take 0 37 (v := ?vaa0) rfl rfl (by kernel_rfl) (by kernel_rfl) (by kernel_rfl) (fun _ _ _ h => h) (by rfl) (fun w' hS => ?haa0) ?raa0
        case haa0 => (refine exec_load (x := .tmp 7) ?_ ?_ (hBa.ext hS id) HLnca.out <;> rfl)
        try simp only [Act.put, List.setIfInBounds_toArray, List.set_cons_zero, List.set_cons_succ]
        refine region_take 1 38 (v := ?vaa1) rfl rfl (by kernel_rfl) (by kernel_rfl) (by kernel_rfl) (fun _ _ _ h => h) (by rfl) (fun w' hS => ?haa1) ?raa1
        case haa1 => (refine exec_load (x := .tmp 9) ?_ ?_ (hBb.ext hS id) HLncb.out <;> rfl)
        try simp only [Act.put, List.setIfInBounds_toArray, List.set_cons_zero, List.set_cons_succ]
        refine wpAnyH_ready (rs := [2]) (by kernel_rfl) (by simp) (AllReadyH.cons rfl (fun K hK => ?_) AllReadyH.nil)
        go_simp
        refine (HSG.out _ hQ).mono ?_
        rintro e w9 ⟨rfl, hP⟩
        have hBv := hBv.ext hP id
        have hBu := hBu.ext hP id
        have hPv := hPv.pure hP
        refine hK.out _ _ (hP) (fun hHeld => ?_)
        clear hK K hHeld
        refine region_now (hP) ?_
        try simp only [Act.put, List.setIfInBounds_toArray, List.set_cons_zero, List.set_cons_succ]
        refine region_take 3 40 (v := ?vaa3) rfl rfl (by kernel_rfl) (by kernel_rfl) (by kernel_rfl) (fun _ _ _ h => h) (by rfl) (fun w' hS => ?haa3) ?raa3
        case haa3 => go_simp; with_reducible rfl
        try simp only [Act.put, List.setIfInBounds_toArray, List.set_cons_zero, List.set_cons_succ]
        refine region_take 4 41 (v := ?vaa4) rfl rfl (by kernel_rfl) (by kernel_rfl) (by kernel_rfl) (fun _ _ _ h => h) (by rfl) (fun w' hS => ?haa4) ?raa4
        case haa4 => go_simp; with_reducible rfl
        try simp only [Act.put, List.setIfInBounds_toArray, List.set_cons_zero, List.set_cons_succ]
        refine region_take 5 42 (v := ?vaa5) rfl rfl (by kernel_rfl) (by kernel_rfl) (by kernel_rfl) (fun _ _ _ h => h) (by rfl) (fun w' hS => ?haa5) ?raa5
        case haa5 => go_simp; with_reducible rfl
        try simp only [Act.put, List.setIfInBounds_toArray, List.set_cons_zero, List.set_cons_succ]
        refine region_take 6 43 (v := ?vaa6) rfl rfl (by kernel_rfl) (by kernel_rfl) (by kernel_rfl) (fun _ _ _ h => h) (by rfl) (fun w' hS => ?haa6) ?raa6
        case haa6 => go_simp; with_reducible rfl
        try simp only [Act.put, List.setIfInBounds_toArray, List.set_cons_zero, List.set_cons_succ]
        refine region_take 7 44 (v := ?vaa7) rfl rfl (by kernel_rfl) (by kernel_rfl) (by kernel_rfl) (fun _ _ _ h => h) (by rfl) (fun w' hS => ?haa7) ?raa7
        case haa7 => go_simp; with_reducible rfl
        try simp only [Act.put, List.setIfInBounds_toArray, List.set_cons_zero, List.set_cons_succ]
        refine region_take 8 45 (v := ?vaa8) rfl rfl (by kernel_rfl) (by kernel_rfl) (by kernel_rfl) (fun _ _ _ h => h) (by rfl) (fun w' hS => ?haa8) ?raa8
        case haa8 => go_simp; with_reducible rfl
        try simp only [Act.put, List.setIfInBounds_toArray, List.set_cons_zero, List.set_cons_succ]
        refine region_take 9 46 (v := ?vaa9) rfl rfl (by kernel_rfl) (by kernel_rfl) (by kernel_rfl) (fun _ _ _ h => h) (by rfl) (fun w' hS => ?haa9) ?raa9
        case haa9 => (refine exec_load (x := .tmp 3) ?_ ?_ (hBv.ext hS id) HC.out <;> rfl)
        try simp only [Act.put, List.setIfInBounds_toArray, List.set_cons_zero, List.set_cons_succ]
        refine region_take 10 47 (v := ?vaa10) rfl rfl (by kernel_rfl) (by kernel_rfl) (by kernel_rfl) (fun _ _ _ h => h) (by rfl) (fun w' hS => ?haa10) ?raa10
        case haa10 => go_simp; with_reducible rfl
        try simp only [Act.put, List.setIfInBounds_toArray, List.set_cons_zero, List.set_cons_succ]
        refine region_take 11 48 (v := ?vaa11) rfl rfl (by kernel_rfl) (by kernel_rfl) (by kernel_rfl) (fun _ _ _ h => h) (by rfl) (fun w' hS => ?haa11) ?raa11
        case haa11 => (refine exec_load (x := .tmp 4) ?_ ?_ (hBu.ext hS id) HU.out <;> rfl)
        try simp only [Act.put, List.setIfInBounds_toArray, List.set_cons_zero, List.set_cons_succ]
        refine region_take 13 50 (v := ?vaa13) rfl rfl (by kernel_rfl) (by kernel_rfl) (by kernel_rfl) (fun _ _ _ h => h) (by rfl) (fun w' hS => ?haa13) ?raa13
        case haa13 => (refine exec_load (x := .tmp 3) ?_ ?_ (hBv.ext hS id) HC.out <;> rfl)
        try simp only [Act.put, List.setIfInBounds_toArray, List.set_cons_zero, List.set_cons_succ]
        refine region_take 14 51 (v := ?vaa14) rfl rfl (by kernel_rfl) (by kernel_rfl) (by kernel_rfl) (fun _ _ _ h => h) (by rfl) (fun w' hS => ?haa14) ?raa14
        case haa14 => go_simp; with_reducible rfl
        try simp only [Act.put, List.setIfInBounds_toArray, List.set_cons_zero, List.set_cons_succ]
        refine region_take 15 52 (v := ?vaa15) rfl rfl (by kernel_rfl) (by kernel_rfl) (by kernel_rfl) (fun _ _ _ h => h) (by rfl) (fun w' hS => ?haa15) ?raa15
        case haa15 => (refine exec_load (x := .tmp 4) ?_ ?_ (hBu.ext hS id) HU.out <;> rfl)
        try simp only [Act.put, List.setIfInBounds_toArray, List.set_cons_zero, List.set_cons_succ]
        refine wpAnyH_ready (rs := [12]) (by kernel_rfl) (by simp) (AllReadyH.cons rfl (fun K hK => ?_) AllReadyH.nil)
        go_simp
        refine (HP1.out _ hPv HSz.out).mono ?_
        rintro e w10 ⟨cp, rfl, hTp, hP, _⟩
        have hLp := hTp.lies (hPv.pure hP)
        clear hTp
        have hBv := hBv.ext hP id
        have hBu := hBu.ext hP id
        have hPv := hPv.pure hP
        refine hK.out _ _ (hP) (fun hHeld => ?_)
        clear hK K hHeld
        refine region_now (hP) ?_
        try simp only [Act.put, List.setIfInBounds_toArray, List.set_cons_zero, List.set_cons_succ]
        refine wpAnyH_ready (rs := [16]) (by kernel_rfl) (by simp) (AllReadyH.cons rfl (fun K hK => ?_) AllReadyH.nil)
        go_simp
        refine (HP2.out _ hPv HSz.out).mono ?_
        rintro e w11 ⟨cq, rfl, hTq, hP, _⟩
        have hLq := hTq.lies (hPv.pure hP)
        have hLp := hLp.pure hP
        clear hTq
        have hBv := hBv.ext hP id
        have hBu := hBu.ext hP id
        have hPv := hPv.pure hP
        refine hK.out _ _ (hP) (fun hHeld => ?_)
        clear hK K hHeld
        refine region_now (hP) ?_
        try simp only [Act.put, List.setIfInBounds_toArray, List.set_cons_zero, List.set_cons_succ]
        refine wpAnyH_ready (rs := [17]) (by kernel_rfl) (by simp) (AllReadyH.cons rfl (fun K hK => ?_) AllReadyH.nil)
        go_simp
        refine (show Calls Try.prog 17 #[.agg cp.toArray, .agg cq.toArray] w11 (BoolTo true w11) by have := refsame_any _ PV cp _ PV cq w11 hLp hLq (by have := HZp.out; have := HSz.out; have := HSz'.out; omega) (by have := HZp.out; have := HSz.out; have := HSz'.out; omega); rw [cmp_self] at this; exact this).mono ?_
        rintro e w12 ⟨rfl, hP⟩
        clear hLp hLq
        have hBv := hBv.ext hP id
        have hBu := hBu.ext hP id
        have hPv := hPv.pure hP
        refine hK.out _ _ (hP) (fun hHeld => ?_)
        clear hK K hHeld
        refine region_now (hP) ?_
        try simp only [Act.put, List.setIfInBounds_toArray, List.set_cons_zero, List.set_cons_succ]
        refine region_take 18 55 (v := ?vaa18) rfl rfl (by kernel_rfl) (by kernel_rfl) (by kernel_rfl) (fun _ _ _ h => h) (by rfl) (fun w' hS => ?haa18) ?raa18
        case haa18 => go_simp; with_reducible rfl
        try simp only [Act.put, List.setIfInBounds_toArray, List.set_cons_zero, List.set_cons_succ]
        refine region_take 19 56 (v := ?vaa19) rfl rfl (by kernel_rfl) (by kernel_rfl) (by kernel_rfl) (fun _ _ _ h => h) (by rfl) (fun w' hS => ?haa19) ?raa19
        case haa19 => go_simp; with_reducible rfl
        try simp only [Act.put, List.setIfInBounds_toArray, List.set_cons_zero, List.set_cons_succ]
        refine region_take 20 57 (v := ?vaa20) rfl rfl (by kernel_rfl) (by kernel_rfl) (by kernel_rfl) (fun _ _ _ h => h) (by rfl) (fun w' hS => ?haa20) ?raa20
        case haa20 => (refine exec_load (x := .tmp 3) ?_ ?_ (hBv.ext hS id) HC.out <;> rfl)
        try simp only [Act.put, List.setIfInBounds_toArray, List.set_cons_zero, List.set_cons_succ]
        refine region_take 21 58 (v := ?vaa21) rfl rfl (by kernel_rfl) (by kernel_rfl) (by kernel_rfl) (fun _ _ _ h => h) (by rfl) (fun w' hS => ?haa21) ?raa21
        case haa21 => go_simp; with_reducible rfl
        try simp only [Act.put, List.setIfInBounds_toArray, List.set_cons_zero, List.set_cons_succ]
        refine region_take 23 60 (v := ?vaa23) rfl rfl (by kernel_rfl) (by kernel_rfl) (by kernel_rfl) (fun _ _ _ h => h) (by rfl) (fun w' hS => ?haa23) ?raa23
        case haa23 => (refine exec_load (x := .tmp 3) ?_ ?_ (hBv.ext hS id) HC.out <;> rfl)
        try simp only [Act.put, List.setIfInBounds_toArray, List.set_cons_zero, List.set_cons_succ]
        refine region_take 24 61 (v := ?vaa24) rfl rfl (by kernel_rfl) (by kernel_rfl) (by kernel_rfl) (fun _ _ _ h => h) (by rfl) (fun w' hS => ?haa24) ?raa24
        case haa24 => go_simp; with_reducible rfl
        try simp only [Act.put, List.setIfInBounds_toArray, List.set_cons_zero, List.set_cons_succ]
        refine wpAnyH_ready (rs := [22]) (by kernel_rfl) (by simp) (AllReadyH.cons rfl (fun K hK => ?_) AllReadyH.nil)
        go_simp
        refine (HD1.out _ hPv HSz.out).mono ?_
        rintro e w13 ⟨ce, rfl, hTe, hP, _⟩
        have hLe := hTe.lies (hPv.pure hP)
        clear hTe
        have hBv := hBv.ext hP id
        have hBu := hBu.ext hP id
        have hPv := hPv.pure hP
        refine hK.out _ _ (hP) (fun hHeld => ?_)
        clear hK K hHeld
        refine region_now (hP) ?_
        try simp only [Act.put, List.setIfInBounds_toArray, List.set_cons_zero, List.set_cons_succ]
        refine wpAnyH_ready (rs := [25]) (by kernel_rfl) (by simp) (AllReadyH.cons rfl (fun K hK => ?_) AllReadyH.nil)
        go_simp
        refine (HD2.out _ hPv HSz.out).mono ?_
        rintro e w14 ⟨cf, rfl, hTf, hP, _⟩
        have hLf := hTf.lies (hPv.pure hP)
        have hLe := hLe.pure hP
        clear hTf
        have hBv := hBv.ext hP id
        have hBu := hBu.ext hP id
        have hPv := hPv.pure hP
        refine hK.out _ _ (hP) (fun hHeld => ?_)
        clear hK K hHeld
        refine region_now (hP) ?_
        try simp only [Act.put, List.setIfInBounds_toArray, List.set_cons_zero, List.set_cons_succ]
        refine wpAnyH_ready (rs := [26]) (by kernel_rfl) (by simp) (AllReadyH.cons rfl (fun K hK => ?_) AllReadyH.nil)
        go_simp
        refine (show Calls Try.prog 17 #[.agg ce.toArray, .agg cf.toArray] w14 (BoolTo true w14) by have := refsame_any _ DV ce _ DV cf w14 hLe hLf (by have := HZd.out; have := HSz.out; omega) (by have := HZd.out; have := HSz.out; omega); rw [cmp_self] at this; exact this).mono ?_
        rintro e w15 ⟨rfl, hP⟩
        clear hLe hLf
        have hBv := hBv.ext hP id
        have hBu := hBu.ext hP id
        have hPv := hPv.pure hP
        refine hK.out _ _ (hP) (fun hHeld => ?_)
        clear hK K hHeld
        refine region_now (hP) ?_
        try simp only [Act.put, List.setIfInBounds_toArray, List.set_cons_zero, List.set_cons_succ]
        refine region_take 27 64 (v := ?vaa27) rfl rfl (by kernel_rfl) (by kernel_rfl) (by kernel_rfl) (fun _ _ _ h => h) (by rfl) (fun w' hS => ?haa27) ?raa27
        case haa27 => go_simp; with_reducible rfl
        try simp only [Act.put, List.setIfInBounds_toArray, List.set_cons_zero, List.set_cons_succ]
        refine region_take 28 65 (v := ?vaa28) rfl rfl (by kernel_rfl) (by kernel_rfl) (by kernel_rfl) (fun _ _ _ h => h) (by rfl) (fun w' hS => ?haa28) ?raa28
        case haa28 => go_simp; with_reducible rfl
        try simp only [Act.put, List.setIfInBounds_toArray, List.set_cons_zero, List.set_cons_succ]
        refine wpAnyH_ready (rs := [29]) (by kernel_rfl) (by simp) (AllReadyH.cons rfl (fun K hK => ?_) AllReadyH.nil)
        go_simp
        refine (works_any _).mono ?_
        rintro e w16 ⟨rfl, hP⟩
        have hPv := hPv.pure hP
        refine hK.out _ _ (hP) (fun hHeld => ?_)
        clear hK K hHeld
        refine region_now (hP) ?_
        try simp only [Act.put, List.setIfInBounds_toArray, List.set_cons_zero, List.set_cons_succ]
        refine region_take 30 67 (v := ?vaa30) rfl rfl (by kernel_rfl) (by kernel_rfl) (by kernel_rfl) (fun _ _ _ h => h) (by rfl) (fun w' hS => ?haa30) ?raa30
        case haa30 => go_simp; with_reducible rfl
        try simp only [Act.put, List.setIfInBounds_toArray, List.set_cons_zero, List.set_cons_succ]
        refine region_take 31 6 (v := ?vaa31) rfl rfl (by kernel_rfl) (by kernel_rfl) (by kernel_rfl) (fun _ _ _ h => h) (by rfl) (fun w' hS => ?haa31) ?raa31
        case haa31 => go_simp; with_reducible rfl
        try simp only [Act.put, List.setIfInBounds_toArray, List.set_cons_zero, List.set_cons_succ]
        refine wpAnyH_done (by kernel_rfl) ?_ _
        go_wp2_with fail
        go_ret
        exact ⟨rfl, hPv.below⟩
      · have hki : (300 : Int) < (key.size : Int) := by omega
        go_wp2_with fail
        refine (works_any w4).mono ?_
        rintro e w5 ⟨rfl, hP5⟩
        go_wp2_with fail
        go_ret
        exact ⟨rfl, (hPv.pure hP5).below⟩
    · have e2 : decide (u.size ≤ 300) = false := by simp [hs']
      rw [e2] at HSu
      refine (HSu.out w3 hPv).mono ?_
      rintro e w4 ⟨rfl, hP4⟩
      have hPv := hPv.pure hP4
      go_wp2_with fail
      refine (works_any w4).mono ?_
      rintro e w5 ⟨rfl, hP5⟩
      go_wp2_with fail
      go_ret
      exact ⟨rfl, (hPv.pure hP5).below⟩
  · have e1 : decide (v.size ≤ 300) = false := by simp [hs]
    rw [e1] at HSv
    go_enter Try.func5, Try.ntmps5
    go_wp2_with (with_reducible refine at_load 24 (.tmp 3) ?_; refine wpList_load_g rfl (.tmp 3) rfl w.heap.size 0 rfl cs hRv HC.out ?_)
    rw [HW.out, ← HTb.out]
    refine (HSv.out w2 hPv).mono ?_
    rintro e w3 ⟨rfl, hP3⟩
    have hPv := hPv.pure hP3
    go_wp2_with fail
    refine (works_any w3).mono ?_
    rintro e w5 ⟨rfl, hP5⟩
    go_wp2_with fail
    go_ret
    exact ⟨rfl, (hPv.pure hP5).below⟩

set_option maxRecDepth 100000 in
theorem lifted (os : Os) (started : os.Started) (H : Type) (enc : TypeId × Value → H) :
    ReturnsInHanded {} Try.checked os 5 .any (Rows.valueDictsSpec.pre6 enc Try.prog Try.f5 Rows.valueDictsRow.domain false) (Rows.valueDictsSpec.post enc Try.prog Try.f5 false true false false) := by
  refine returnsInHanded_of_change (C := Try.checked) own started (by kernel_rfl) Try.func5
    (ChangeSpec.witness6 (enc := enc) (C := Try.checked) false ⟨#[], #[.agg #[.int .i64 0, .int .i64 0, .string ⟨#[]⟩, .slice none 0 0], .agg #[.int .i64 0, .int .i64 0, .string ⟨#[]⟩, .slice none 0 0], .string ⟨#[]⟩], []⟩ 8 (by kernel_rfl) (by kernel_rfl) (by kernel_rfl) (by kernel_rfl)) ?_
  intro W base args ds gs before hval0 hW hcnd _
  have hval : ∀ (j : Nat) t v, Try.f5.params[j]? = some t → args[j]? = some v → Value.okWide Try.prog W .any base t v := hval0
  have hW' := hW
  obtain ⟨p, q, hA0, hV, rfl, hfz, hnd⟩ := hW
  have hA : DataW.TrodAll enc Try.prog W 0 (fun _ => true) true Try.f5.params.toList args.toList ds p := hA0
  rw [Try.params5] at hA hval
  obtain ⟨v0, vs0, d0, ds0, p0, q0, hargs, rfl, rfl, h0, r0⟩ := trodAll_cons hA
  obtain ⟨v1, vs1, d1, ds1, p1, q1, rfl, rfl, rfl, h1, r1⟩ := trodAll_cons r0
  obtain ⟨v2, vs2, d2, ds2, p2, q2, rfl, rfl, rfl, h2, r2⟩ := trodAll_cons r1
  obtain ⟨rfl, rfl, rfl⟩ := trodAll_nil r2
  obtain rfl : args = #[v0, v1, v2] := by cases args; simp_all
  obtain ⟨rfl, rfl⟩ := trodVars_none hV
  have k0 := h0
  have lt0 : ∀ x ∈ p0, x.block < W.heap.size := by obtain ⟨m, hm⟩ := k0; exact DataW.trod_lt m _ _ _ hm
  have k1 := h1
  have lt1 : ∀ x ∈ p1, x.block < W.heap.size := by obtain ⟨m, hm⟩ := k1; exact DataW.trod_lt m _ _ _ hm
  have k2 := h2
  have lt2 : ∀ x ∈ p2, x.block < W.heap.size := by obtain ⟨m, hm⟩ := k2; exact DataW.trod_lt m _ _ _ hm
  obtain ⟨F0, u0, cs0, rfl, hL0⟩ := open_val (hval 0 24 v0 rfl rfl) h0
  obtain ⟨F1, u1, cs1, rfl, hL1⟩ := open_val (hval 1 24 v1 rfl rfl) h1
  obtain ⟨s2, rfl, rfl, rfl, hs2⟩ := Go.ChangeMaps.open_string Try.underlying9 (hval 2 9 v2 rfl rfl) h2
  clear hA0 hval0
  refine (walk F0 u0 cs0 F1 u1 cs1 s2 W hL0 hL1 hs2).mono fun e W' ⟨he, bel⟩ => ?_
  subst he
  exact ⟨_, rfl, _, _, _, [], _, [], hW', trodAll_mk1 (shut_bool Try.underlying4 _), (trodAll_cons_mk (Below.trod laidOut (by kernel_rfl) (of_decide_eq_true (by kernel_rfl)) k0 bel lt0) (trodAll_cons_mk (Below.trod laidOut (by kernel_rfl) (of_decide_eq_true (by kernel_rfl)) k1 bel lt1) (trodAll_cons_mk (Below.trod laidOut (by kernel_rfl) (of_decide_eq_true (by kernel_rfl)) k2 bel lt2) trodAll_mk0))), rfl, bel.frame _, fun h => by cases h⟩

theorem proved : Rows.ValueDictsSaid :=
  OpenClaim.holds_of_wide 5 Try.f5 rfl rfl rfl rfl rfl rfl rfl ⟨rfl, rfl, rfl, rfl, rfl⟩ rfl rfl rfl rfl rfl (by kernel_rfl) Try.func5 (by kernel_rfl)
    (of_decide_eq_true (by kernel_rfl)) (by unfold Func.isWrapper; first | (rw [if_pos (by decide +kernel)]; kernel_rfl) | (rw [if_neg (by decide +kernel)]; exact ⟨rfl, rfl⟩))
    (fun os started H enc _ => lifted os started H enc)
#print axioms proved
end Go.Proofs.Ytiakphjkcpbccaa.valueDicts
