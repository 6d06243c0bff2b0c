/-
  Walked: the reference's Put.
-/
import Derived.Test.YtiakphjkcpbccaaPutPl
namespace Go.Proofs.Ytiakphjkcpbccaa
open Go.RowKit
set_option linter.unusedVariables false

set_option maxHeartbeats 4000000 in
set_option maxRecDepth 100000 in
theorem refput_top (w0 : World) (d : Nat) (v : V) (cs : List Value) (key : ByteArray) (u : V) (us : List Value) (w : World) (hP0 : Pure w0 w) (h : Top w0 w (d + 1) v cs) (hu : Lies w0 (d + 1) u us) (hl : v.l.length ≤ 90000) (hk : key.size ≤ maxLen) :
    Calls Try.prog 16 #[.agg cs.toArray, .string key, .agg us.toArray] w (ValTop w0 (v.put key u) (d + 1) cs w) := by
  obtain ⟨w1, hw1⟩ : ∃ w1, w1 = w.alloc (.cells cs.toArray 24) := ⟨_, rfl⟩
  have hB1 : BlockIs w1 w.heap.size cs 24 := hw1 ▸ BlockIs.new w _ _
  have hP1 : Pure w w1 := hw1 ▸ ext_alloc w _
  obtain ⟨tb, htb⟩ : ∃ tb, tb = w.heap.size := ⟨_, rfl⟩
  have hs1 : w1.heap.size = tb + 1 := by rw [hw1, World.size_alloc, htb]
  have htw : w.heap.size ≤ tb := by omega
  rw [← htb] at hB1
  obtain ⟨w2, hw2⟩ : ∃ w2, w2 = w1.alloc (.cells us.toArray 24) := ⟨_, rfl⟩
  have hs2 : w2.heap.size = tb + 2 := by rw [hw2, World.size_alloc, hs1]
  have hB12 : BlockIs w2 tb cs 24 := hw2 ▸ hB1.alloc _
  have hB22 : BlockIs w2 (tb + 1) us 24 := by rw [← hs1, hw2]; exact BlockIs.new w1 _ _
  have hP2 : Pure w w2 := hP1.pure (hw2 ▸ ext_alloc w1 _)
  obtain ⟨w3, hw3⟩ : ∃ w3, w3 = w2.alloc (.cells zeroCs.toArray 24) := ⟨_, rfl⟩
  have hs3 : w3.heap.size = tb + 3 := by rw [hw3, World.size_alloc, hs2]
  have hB13 : BlockIs w3 tb cs 24 := hw3 ▸ hB12.alloc _
  have hB23 : BlockIs w3 (tb + 1) us 24 := hw3 ▸ hB22.alloc _
  have hB33 : BlockIs w3 (tb + 2) zeroCs 24 := by rw [← hs2, hw3]; exact BlockIs.new w2 _ _
  have hP3 : Pure w w3 := hP2.pure (hw3 ▸ ext_alloc w2 _)
  have HW : Hid (((w.alloc (.cells cs.toArray 24)).alloc (.cells us.toArray 24)).alloc (.cells #[.int .i64 0, .int .i64 0, .string ⟨#[]⟩, .slice none 0 0] 24) = w3) := Lib.hid (by rw [hw3, hw2, hw1]; rfl)
  have HTb := Lib.hid htb
  have HTw := Lib.hid htw
  have HS3 := Lib.hid hs3
  have HL := Lib.hid h
  have HU := Lib.hid hu
  have HUl := Lib.hid hu.len
  have HUo := Lib.hid hu.one
  have HOne := Lib.hid h.one
  have HCs := Lib.hid (show cs.length = 4 from h.len)
  clear hw1 hw2 hw3 htb hs1 hs2 hs3 h hu htw hB1 hB12 hB22 hP1 hP2
  obtain ⟨F, hF⟩ : ∃ F, F = v.put key u := ⟨_, rfl⟩
  rw [← hF]
  rw [put_eq] at hF
  have HFF := Lib.hid hF
  clear hF
  obtain ⟨a, c, xs, hcs0, hlc, hcm, hnil, hfit, hrow, hs⟩ := HL.out.parts
  have hcs := Lib.hid hcs0
  have c0 : w3.cell? ⟨tb, 0, none⟩ = some (.int .i64 v.kind) := by rw [hB13.cell 0, hcs0]; rfl
  have c3 : w3.cell? ⟨tb, 3, none⟩ = some (.slice a v.l.length c) := by rw [hB13.cell 3, hcs0]; rfl
  have z3 : w3.frozen? ⟨tb, 3, none⟩ = false := hB13.free 3
  clear hcs0
  by_cases h7 : v.kind = 7
  · have h7' : (v.kind != 7) = false := by simp [h7]
    obtain ⟨n, hn⟩ : ∃ n, n = v.l.length := ⟨_, rfl⟩
    have hxl := hfit.len
    have hone := hfit.one
    have hfd : v.find key = nextP (hit key) v.l := by rw [V.find, if_pos h7]
    rw [← hn] at hnil hlc hl hxl c3
    obtain ⟨p, hp⟩ : ∃ p, p = nextP (hit key) v.l := ⟨_, rfl⟩
    have HFN : Hid (F = v.putAt key u p) := Lib.hid (by rw [HFF.out, if_pos h7, ← hp])
    have HFd := Lib.hid (hfd.trans hp.symm)
    have HPl : Hid (∀ i, p = some i → i < n) := Lib.hid (fun i hi => by rw [hn]; exact (nextP_spec _ _ (hp.symm.trans hi)).1)
    have HN := Lib.hid hn
    have HXl := Lib.hid hxl
    have HXo := Lib.hid hone
    have HFit := Lib.hid hfit
    have HB13 := Lib.hid hB13
    have HB23 := Lib.hid hB23
    have HB33 := Lib.hid hB33
    have HP3 := Lib.hid hP3
    have c0w : (((w.alloc (.cells cs.toArray 24)).alloc (.cells us.toArray 24)).alloc (.cells #[.int .i64 0, .int .i64 0, .string ⟨#[]⟩, .slice none 0 0] 24)).cell? ⟨w.heap.size, 0, none⟩ = some (.int .i64 v.kind) := by rw [HW.out, ← HTb.out]; exact c0
    have c3w : (((w.alloc (.cells cs.toArray 24)).alloc (.cells us.toArray 24)).alloc (.cells #[.int .i64 0, .int .i64 0, .string ⟨#[]⟩, .slice none 0 0] 24)).cell? ⟨w.heap.size, 3, none⟩ = some (.slice a n c) := by rw [HW.out, ← HTb.out]; exact c3
    have hOl : ∃ FL, FL = (v.putAt key u p).l := ⟨_, rfl⟩
    obtain ⟨FL, hFL⟩ := hOl
    have HFN2 : Hid (F = .mk v.kind v.n v.s FL) := Lib.hid (by rw [HFN.out, hFL]; cases p <;> rfl)
    have HFL := Lib.hid hFL
    have HFi := Lib.hid (reffind_any (d + 1) v cs key w3 ((HL.out.lies hP0).pure hP3) (by rw [← hn]; omega))
    clear hxl hone hfit hp hfd hB13 hB23 hB33 hP3 hn h7 HFF hFL
    obtain ⟨u0, u1, u2, u3, rfl⟩ : ∃ u0 u1 u2 u3, us = [u0, u1, u2, u3] := by
      have := HUl.out
      match us, this with
      | [a, b, c, d], _ => exact ⟨a, b, c, d, rfl⟩
    obtain ⟨k0, hk0⟩ : ∃ k, k = v.kind := ⟨_, rfl⟩
    rw [← hk0] at h7' c0w c0
    have HK0 := Lib.hid hk0
    clear hk0
    have hR3 := HB13.out.range
    go_enter Try.func16, Try.ntmps16
    go_wp2_with (refine wpList_load_mid rfl 24 (.tmp 3) rfl tb 0 (by rw [HTb.out]; rfl) cs _ (by rw [HW.out]; exact hR3) Try.underlying24 rfl (by rw [HCs.out]; kernel_rfl) ?_; rw [HW.out, ← HTb.out])
    refine HFi.out.mono ?_
    rintro e w4 ⟨rfl, hP34⟩
    rw [HFd.out]
    have hP4 := HP3.out.pure hP34
    have hB14 := HB13.out.ext hP34 id
    have c3l : w4.cell? ⟨tb, 3, none⟩ = some (.slice a n c) := (hB14.cell 3).trans (by rw [hcs.out, ← HN.out]; rfl)
    have hB24 := HB23.out.ext hP34 id
    have hru := hB24.range
    have HP4 := Lib.hid hP4
    have HB14 := Lib.hid hB14
    have HB34 := Lib.hid (HB33.out.ext hP34 id)
    have hs4 : tb + 3 ≤ w4.heap.size := by have h1 := hP34.size; have h2 := HS3.out; omega
    have HS4 := Lib.hid hs4
    obtain ⟨rows, hrws, hK⟩ := (HFit.out.pure hP0).kids hrow
    have HP4k := Lib.hid hP4
    have HRw := Lib.hid hrow
    obtain ⟨l, hl0⟩ : ∃ l, l = v.l := ⟨_, rfl⟩
    have hN := HN.out
    rw [← hl0] at hK hN
    have HLL := Lib.hid hl0
    have HNN := Lib.hid hN
    have HK := Lib.hid hK
    have H1u : Hid (∀ x ∈ ([u0, u1, u2, u3] : List Value), x.oneCell' = true) := Lib.hid (Fit.single HU.out).one
    have HFn : Hid (Fit w0 (d + 1) [nameV key, u] [.int .i64 5, .int .i64 0, .string key, .slice none 0 0, u0, u1, u2, u3]) := Lib.hid ((Fit.single (Lies.leaf w0 d 5 0 key hk)).append (Fit.single HU.out))
    have H1n := Lib.hid HFn.out.one
    have HO0 : Hid (w4.ownsRow w4.heap.size 24 4 (.slice none 0 0) 0 []) := Lib.hid ⟨rfl, Or.inl ⟨rfl, rfl⟩⟩
    clear hrws hl0 hN hK hP4 hB14 hB24 hP34 hs4 hR3 hrow HFi c0 c0w c3 c3w z3 hcm hnil hk h7'
    obtain ⟨A0, hA0⟩ : ∃ z : Int, z = optI p := ⟨_, rfl⟩
    rw [← hA0]
    have HA0 := Lib.hid hA0
    clear hA0
    go_wp2_with fail
    cases p with
    | some i =>
      obtain rfl : A0 = i := HA0.out
      have hi := HPl.out i rfl
      have hie : i % 2 = 0 := by
        have := HFd.out
        rw [V.find] at this
        split at this
        · exact (nextP_spec _ _ this).2.2
        · cases this
      have HFS : Hid (FL = restS l i u 0) := Lib.hid (by rw [restS_zero l i u (by rw [← HNN.out]; exact hi), HFL.out, HLL.out]; rfl)
      have hi0 : ¬ (i : Int) < 0 := by omega
      clear HFN HFL
      go_loopw [7, 9, 10] (fun o dn k W => ∃ (K m : Nat) (ao : Option Addr) (co : Nat) (ys : List Value) (OUT : List V), K ≤ n + 1 ∧ K % 2 = 0 ∧ k = .int .i64 K ∧ dn = .bool false ∧ o = .slice ao m co ∧ Hid (m = OUT.length) ∧ Hid (W.ownsRow w4.heap.size 24 4 (.slice ao m co) m ys) ∧ Hid (Fit w0 (d + 1) OUT ys) ∧ Hid (OUT ++ restS l i u K = FL) ∧ Hid (Pure w4 W)) (fun _ _ i _ => n + 1 - (intOf i).toNat)
      case atStart => exact ⟨0, 0, none, 0, [], [], by omega, rfl, rfl, rfl, rfl, Lib.hid rfl, HO0, Lib.hid .nil, Lib.hid HFS.out.symm, Lib.hid (Ext.refl _ _)⟩
      case round =>
        obtain ⟨K, m, ao, co, ys, OUT, hkn, hK2, rfl, rfl, rfl, HM, HOc, HFt, HR, HEc⟩ := hrel
        have c3 : wr.cell? ⟨tb, 3, none⟩ = some (.slice a n c) := HEc.out.cell_some c3l id
        by_cases hlt : K < n
        · have hki : (K : Int) < (n : Int) := by omega
          obtain ⟨t, ht⟩ : ∃ t, l[K]? = some t := ⟨_, List.getElem?_eq_getElem (by rw [← HNN.out]; exact hlt)⟩
          obtain ⟨b, o, qq, rfl, hrp, hLp⟩ := HFit.out.full HRw.out K t (HLL.out ▸ ht)
          have hLp0 := hLp
          have HPP := Lib.hid hLp0
          have hrp0 := hrp
          have hrp : w4.rangeAt b (o + K * 4) [.int .i64 t.kind, .int .i64 t.n, .string t.s, qq] := fun j v hv => HP4.out.cell_some (hrp0 j v hv) id
          clear hrp0 hLp0
          have hmb : m ≤ 100000 := by
            have h1 := congrArg List.length HR.out
            have h2 := congrArg List.length HFS.out
            rw [restS_zero l i u (by rw [← HNN.out]; exact hi)] at h2
            simp only [List.length_append, List.length_take, List.length_drop, List.length_cons, List.length_nil] at h1 h2
            have := HM.out
            have := HNN.out
            omega
          by_cases hKi : K = i
          · subst hKi
            have HRR : Hid ((OUT ++ [t] ++ [u]) ++ restS l K u (K + 2) = FL) := Lib.hid (by rw [← HR.out, restS_hit l K u t ht]; simp)
            have H1p : Hid (∀ x ∈ ([.int .i64 t.kind, .int .i64 t.n, .string t.s, qq] : List Value), x.oneCell' = true) := Lib.hid (Fit.single hLp).one
            obtain ⟨kk, hkk⟩ : ∃ z, z = t.kind := ⟨_, rfl⟩
            obtain ⟨nn, hnn⟩ : ∃ z, z = t.n := ⟨_, rfl⟩
            obtain ⟨ss, hss⟩ : ∃ z, z = t.s := ⟨_, rfl⟩
            simp only [← hkk, ← hnn, ← hss] at *
            clear hkk hnn hss hLp
            clear ht
            go_wp2_with (first
              | (at_builtin
                 have hoa := own_ext HOc.out (ext_alloc wr (.cells #[.int .i64 kk, .int .i64 nn, .string ss, qq] 24)) (fun _ _ => id)
                 have hra : RowOf (wr.alloc (.cells #[.int .i64 kk, .int .i64 nn, .string ss, qq] 24)) (some ⟨wr.heap.size, 0, none⟩) [.int .i64 kk, .int .i64 nn, .string ss, qq] := row_at [.int .i64 kk, .int .i64 nn, .string ss, qq] rfl rfl
                 have hsz : w4.heap.size ≤ (wr.alloc (.cells #[.int .i64 kk, .int .i64 nn, .string ss, qq] 24)).heap.size := by have h1 := HEc.out.size; rw [World.size_alloc]; omega
                 refine wpList_append_any rfl (.tmp 56) (.tmp 62) 22 rfl w4.heap.size 24 (.agg #[.int .i64 0, .int .i64 0, .string ⟨#[]⟩, .slice none 0 0]) 4 56 Try.underlying22 info24 rfl (by decide) (.slice ao (m) co) (m) (ys) rfl hoa (some ⟨wr.heap.size, 0, none⟩) 1 1 [.int .i64 kk, .int .i64 nn, .string ss, qq] rfl (fun e => by cases e) rfl hra H1p.out (m + 1) rfl (ys ++ [.int .i64 kk, .int .i64 nn, .string ss, qq]) rfl (by omega) (by unfold maxLen; omega) hsz ?_
                 intro a1 c1 wa1 hO' hg'
                 have hE' := Ext.own (HEc.out.alloc _) hoa hg'
                 have HO1 := Lib.hid hO'
                 have HE1 := Lib.hid hE'
                 have c31 : wa1.cell? ⟨tb, 3, none⟩ = some (.slice (some ⟨b, o, none⟩) n c) := hE'.cell_some c3l id
                 clear hO' hE' hg' hoa hra hsz)
              | (with_reducible refine at_load 24 (.tmp 60) ?_; refine wpList_load_mid rfl 24 (.tmp 60) rfl b (o + K * 4) rfl [.int .i64 kk, .int .i64 nn, .string ss, qq] _ (range_ext hrp HEc.out) Try.underlying24 rfl (by kernel_rfl) ?_)
              | (at_builtin
                 have hoa := own_ext HO1.out (ext_alloc wa1 (.cells #[u0, u1, u2, u3] 24)) (fun _ _ => id)
                 have hra : RowOf (wa1.alloc (.cells #[u0, u1, u2, u3] 24)) (some ⟨wa1.heap.size, 0, none⟩) [u0, u1, u2, u3] := row_at [u0, u1, u2, u3] rfl rfl
                 have hsz : w4.heap.size ≤ (wa1.alloc (.cells #[u0, u1, u2, u3] 24)).heap.size := by have h1 := HE1.out.size; rw [World.size_alloc]; omega
                 refine wpList_append_any rfl (.tmp 67) (.tmp 69) 22 rfl w4.heap.size 24 (.agg #[.int .i64 0, .int .i64 0, .string ⟨#[]⟩, .slice none 0 0]) 4 56 Try.underlying22 info24 rfl (by decide) (.slice a1 (m + 1) c1) (m + 1) (ys ++ [.int .i64 kk, .int .i64 nn, .string ss, qq]) rfl hoa (some ⟨wa1.heap.size, 0, none⟩) 1 1 [u0, u1, u2, u3] rfl (fun e => by cases e) rfl hra H1u.out (m + 1 + 1) rfl (ys ++ [.int .i64 kk, .int .i64 nn, .string ss, qq] ++ [u0, u1, u2, u3]) rfl (by omega) (by unfold maxLen; omega) hsz ?_
                 intro a2 c2 wa2 hO' hg'
                 have hE' := Ext.own (HE1.out.alloc _) hoa hg'
                 have HO2 := Lib.hid hO'
                 have HE2 := Lib.hid hE'
                 have c32 : wa2.cell? ⟨tb, 3, none⟩ = some (.slice (some ⟨b, o, none⟩) n c) := hE'.cell_some c3l id
                 clear hO' hE' hg' hoa hra hsz)
              | (with_reducible refine at_load 24 (.tmp 5) ?_; refine wpList_load_mid rfl 24 (.tmp 5) rfl (tb + 1) 0 rfl [u0, u1, u2, u3] _ (range_ext hru HE1.out) Try.underlying24 rfl (by kernel_rfl) ?_))
            go_roundw
            case rel => exact ⟨K + 2, m + 1 + 1, _, _, _, OUT ++ [t] ++ [u], by omega, by omega, by go_num, rfl, rfl, Lib.hid (by simp [HM.out]), HO2, Lib.hid ((HFt.out.append (Fit.single HPP.out)).append (Fit.single HU.out)), HRR, HE2⟩
            case measure => simp [intOf]; omega
          · have hKi' : ¬ (K : Int) = (i : Int) := by omega
            have hKi'' : ((K : Int) == (i : Int)) = false := by simpa using hKi'
            have HRR := restS_miss l i u t K ht (by rw [← HNN.out]; exact hi) hie hK2 hKi
            have HRR : Hid (OUT ++ ([t] ++ ((l.drop (K + 1)).take 1 ++ restS l i u (K + 2))) = FL) := Lib.hid (by rw [← HR.out, HRR])
            clear hKi
            have H1p : Hid (∀ x ∈ ([.int .i64 t.kind, .int .i64 t.n, .string t.s, qq] : List Value), x.oneCell' = true) := Lib.hid (Fit.single hLp).one
            obtain ⟨kk, hkk⟩ : ∃ z, z = t.kind := ⟨_, rfl⟩
            obtain ⟨nn, hnn⟩ : ∃ z, z = t.n := ⟨_, rfl⟩
            obtain ⟨ss, hss⟩ : ∃ z, z = t.s := ⟨_, rfl⟩
            simp only [← hkk, ← hnn, ← hss] at *
            clear hkk hnn hss hLp
            by_cases hlt2 : K + 1 < n
            · have hki2 : (K : Int) + 1 < (n : Int) := by omega
              obtain ⟨t2, ht2⟩ : ∃ t2, l[K + 1]? = some t2 := ⟨_, List.getElem?_eq_getElem (by rw [← HNN.out]; exact hlt2)⟩
              obtain ⟨b2, o2, qq2, hbb, hrq0, hLq⟩ := HFit.out.full HRw.out (K + 1) t2 (HLL.out ▸ ht2)
              have hrq : w4.rangeAt b2 (o2 + (K + 1) * 4) [.int .i64 t2.kind, .int .i64 t2.n, .string t2.s, qq2] := fun j v hv => HP4.out.cell_some (hrq0 j v hv) id
              clear hrq0
              cases hbb
              have HRR2 : Hid ((OUT ++ [t] ++ [t2]) ++ restS l i u (K + 2) = FL) := Lib.hid (by rw [← HRR.out, take_one l (K + 1) t2 ht2]; simp)
              have H1q : Hid (∀ x ∈ ([.int .i64 t2.kind, .int .i64 t2.n, .string t2.s, qq2] : List Value), x.oneCell' = true) := Lib.hid (Fit.single hLq).one
              have HQQ := Lib.hid hLq
              obtain ⟨kk2, hkk2⟩ : ∃ z, z = t2.kind := ⟨_, rfl⟩
              obtain ⟨nn2, hnn2⟩ : ∃ z, z = t2.n := ⟨_, rfl⟩
              obtain ⟨ss2, hss2⟩ : ∃ z, z = t2.s := ⟨_, rfl⟩
              simp only [← hkk2, ← hnn2, ← hss2] at *
              clear hkk2 hnn2 hss2 hLq
              clear ht ht2
              go_wp2_with (first
                | (at_builtin
                   have hoa := own_ext HOc.out (ext_alloc wr (.cells #[.int .i64 kk, .int .i64 nn, .string ss, qq] 24)) (fun _ _ => id)
                   have hra : RowOf (wr.alloc (.cells #[.int .i64 kk, .int .i64 nn, .string ss, qq] 24)) (some ⟨wr.heap.size, 0, none⟩) [.int .i64 kk, .int .i64 nn, .string ss, qq] := row_at [.int .i64 kk, .int .i64 nn, .string ss, qq] rfl rfl
                   have hsz : w4.heap.size ≤ (wr.alloc (.cells #[.int .i64 kk, .int .i64 nn, .string ss, qq] 24)).heap.size := by have h1 := HEc.out.size; rw [World.size_alloc]; omega
                   refine wpList_append_any rfl (.tmp 56) (.tmp 62) 22 rfl w4.heap.size 24 (.agg #[.int .i64 0, .int .i64 0, .string ⟨#[]⟩, .slice none 0 0]) 4 56 Try.underlying22 info24 rfl (by decide) (.slice ao (m) co) (m) (ys) rfl hoa (some ⟨wr.heap.size, 0, none⟩) 1 1 [.int .i64 kk, .int .i64 nn, .string ss, qq] rfl (fun e => by cases e) rfl hra H1p.out (m + 1) rfl (ys ++ [.int .i64 kk, .int .i64 nn, .string ss, qq]) rfl (by omega) (by unfold maxLen; omega) hsz ?_
                   intro a1 c1 wa1 hO' hg'
                   have hE' := Ext.own (HEc.out.alloc _) hoa hg'
                   have HO1 := Lib.hid hO'
                   have HE1 := Lib.hid hE'
                   have c31 : wa1.cell? ⟨tb, 3, none⟩ = some (.slice (some ⟨b, o, none⟩) n c) := hE'.cell_some c3l id
                   clear hO' hE' hg' hoa hra hsz)
                | (with_reducible refine at_load 24 (.tmp 60) ?_; refine wpList_load_mid rfl 24 (.tmp 60) rfl b (o + K * 4) rfl [.int .i64 kk, .int .i64 nn, .string ss, qq] _ (range_ext hrp HEc.out) Try.underlying24 rfl (by kernel_rfl) ?_)
                | (at_builtin
                   have hoa := own_ext HO1.out (ext_alloc wa1 (.cells #[.int .i64 kk2, .int .i64 nn2, .string ss2, qq2] 24)) (fun _ _ => id)
                   have hra : RowOf (wa1.alloc (.cells #[.int .i64 kk2, .int .i64 nn2, .string ss2, qq2] 24)) (some ⟨wa1.heap.size, 0, none⟩) [.int .i64 kk2, .int .i64 nn2, .string ss2, qq2] := row_at [.int .i64 kk2, .int .i64 nn2, .string ss2, qq2] rfl rfl
                   have hsz : w4.heap.size ≤ (wa1.alloc (.cells #[.int .i64 kk2, .int .i64 nn2, .string ss2, qq2] 24)).heap.size := by have h1 := HE1.out.size; rw [World.size_alloc]; omega
                   refine wpList_append_any rfl (.tmp 77) (.tmp 84) 22 rfl w4.heap.size 24 (.agg #[.int .i64 0, .int .i64 0, .string ⟨#[]⟩, .slice none 0 0]) 4 56 Try.underlying22 info24 rfl (by decide) (.slice a1 (m + 1) c1) (m + 1) (ys ++ [.int .i64 kk, .int .i64 nn, .string ss, qq]) rfl hoa (some ⟨wa1.heap.size, 0, none⟩) 1 1 [.int .i64 kk2, .int .i64 nn2, .string ss2, qq2] rfl (fun e => by cases e) rfl hra H1q.out (m + 1 + 1) rfl (ys ++ [.int .i64 kk, .int .i64 nn, .string ss, qq] ++ [.int .i64 kk2, .int .i64 nn2, .string ss2, qq2]) rfl (by omega) (by unfold maxLen; omega) hsz ?_
                   intro a2 c2 wa2 hO' hg'
                   have hE' := Ext.own (HE1.out.alloc _) hoa hg'
                   have HO2 := Lib.hid hO'
                   have HE2 := Lib.hid hE'
                   have c32 : wa2.cell? ⟨tb, 3, none⟩ = some (.slice (some ⟨b, o, none⟩) n c) := hE'.cell_some c3l id
                   clear hO' hE' hg' hoa hra hsz)
                | (with_reducible refine at_load 24 (.tmp 82) ?_; refine wpList_load_mid rfl 24 (.tmp 82) rfl b (o + (K + 1) * 4) rfl [.int .i64 kk2, .int .i64 nn2, .string ss2, qq2] _ (range_ext hrq HE1.out) Try.underlying24 rfl (by kernel_rfl) ?_))
              go_roundw
              case rel => exact ⟨K + 2, m + 1 + 1, _, _, _, OUT ++ [t] ++ [t2], by omega, by omega, by go_num, rfl, rfl, Lib.hid (by simp [HM.out]), HO2, Lib.hid ((HFt.out.append (Fit.single HPP.out)).append (Fit.single HQQ.out)), HRR2, HE2⟩
              case measure => simp [intOf]; omega
            · have hki2 : ¬ (K : Int) + 1 < (n : Int) := by omega
              have HRR2 : Hid ((OUT ++ [t]) ++ restS l i u (K + 2) = FL) := Lib.hid (by rw [← HRR.out, take_none l (K + 1) (by rw [← HNN.out]; omega)]; simp)
              clear ht
              go_wp2_with (first
                | (at_builtin
                   have hoa := own_ext HOc.out (ext_alloc wr (.cells #[.int .i64 kk, .int .i64 nn, .string ss, qq] 24)) (fun _ _ => id)
                   have hra : RowOf (wr.alloc (.cells #[.int .i64 kk, .int .i64 nn, .string ss, qq] 24)) (some ⟨wr.heap.size, 0, none⟩) [.int .i64 kk, .int .i64 nn, .string ss, qq] := row_at [.int .i64 kk, .int .i64 nn, .string ss, qq] rfl rfl
                   have hsz : w4.heap.size ≤ (wr.alloc (.cells #[.int .i64 kk, .int .i64 nn, .string ss, qq] 24)).heap.size := by have h1 := HEc.out.size; rw [World.size_alloc]; omega
                   refine wpList_append_any rfl (.tmp 56) (.tmp 62) 22 rfl w4.heap.size 24 (.agg #[.int .i64 0, .int .i64 0, .string ⟨#[]⟩, .slice none 0 0]) 4 56 Try.underlying22 info24 rfl (by decide) (.slice ao (m) co) (m) (ys) rfl hoa (some ⟨wr.heap.size, 0, none⟩) 1 1 [.int .i64 kk, .int .i64 nn, .string ss, qq] rfl (fun e => by cases e) rfl hra H1p.out (m + 1) rfl (ys ++ [.int .i64 kk, .int .i64 nn, .string ss, qq]) rfl (by omega) (by unfold maxLen; omega) hsz ?_
                   intro a1 c1 wa1 hO' hg'
                   have hE' := Ext.own (HEc.out.alloc _) hoa hg'
                   have HO1 := Lib.hid hO'
                   have HE1 := Lib.hid hE'
                   have c31 : wa1.cell? ⟨tb, 3, none⟩ = some (.slice (some ⟨b, o, none⟩) n c) := hE'.cell_some c3l id
                   clear hO' hE' hg' hoa hra hsz)
                | (with_reducible refine at_load 24 (.tmp 60) ?_; refine wpList_load_mid rfl 24 (.tmp 60) rfl b (o + K * 4) rfl [.int .i64 kk, .int .i64 nn, .string ss, qq] _ (range_ext hrp HEc.out) Try.underlying24 rfl (by kernel_rfl) ?_))
              go_roundw
              case rel => exact ⟨K + 2, m + 1, _, _, _, OUT ++ [t], by omega, by omega, by go_num, rfl, rfl, Lib.hid (by simp [HM.out]), HO1, Lib.hid (HFt.out.append (Fit.single HPP.out)), HRR2, HE1⟩
              case measure => simp [intOf]; omega
        · have hki : ¬ (K : Int) < (n : Int) := by omega
          have HO2 : Hid (OUT = FL) := Lib.hid (by rw [← HR.out, restS_end l i u K (by rw [← HNN.out]; omega) (by rw [← HNN.out]; exact hi), List.append_nil])
          clear HR
          have z3 : wr.frozen? ⟨tb, 3, none⟩ = false := (HB14.out.ext HEc.out id).free 3
          obtain ⟨wz, csz, hRn⟩ := renew (w0 := w0) (v := v) (l := OUT) (hcs.out ▸ HB14.out.ext HEc.out id) (HB34.out.ext HEc.out id) (by omega) (HP4.out.pure HEc.out) HTw.out (by have := HTw.out; omega) HOc.out (by have := HS4.out; omega) (by have := HS4.out; omega) HFt.out hs HM.out
          have HRn := Lib.hid hRn
          have hR9 := hRn.block.range
          clear hRn
          go_wp2_with (first
            | (with_reducible refine at_load 24 (.tmp 3) ?_; refine wpList_load_mid rfl 24 (.tmp 3) rfl tb 0 rfl csz _ (by rw [← HRn.out.is]; exact hR9) Try.underlying24 rfl (by rw [HRn.out.len]; kernel_rfl) ?_; rw [← HRn.out.is])
            | (with_reducible refine at_store 24 (.tmp 6) (.tmp 100) ?_; refine wpList_store_mid rfl 24 (.tmp 6) (.tmp 100) rfl (tb + 1 + 1) 0 csz.toArray rfl rfl HRn.out.there HRn.out.info HRn.out.one ?_; try simp only [List.toArray_toList]))
          refine bodyPost_ret (results_row1 rfl _ _ (tb + 2) _ csz _ rfl HRn.out.after Try.underlying24 rfl (by rw [HRn.out.len]; exact size24)) rfl ?_
          exact ⟨csz, rfl, by rw [HFN2.out, ← HO2.out]; exact HRn.out.lies, HRn.out.pure, fun b hb _ => HRn.out.off b hb⟩
    | none =>
      obtain rfl : A0 = -1 := HA0.out
      obtain ⟨pl, hpl⟩ : ∃ p, p = placeOf v.l key := ⟨_, rfl⟩
      have hp0 : pl = (placeAt (over key) l 0).getD n := by rw [hpl, placeOf_at, HLL.out, HN.out]
      have HP0 := Lib.hid hp0
      have HFS : Hid (FL = restN l pl (nameV key) u 0) := Lib.hid (by rw [restN_zero, HFL.out, hpl, HLL.out]; rfl)
      clear HFN HFL hpl hp0
      go_loopw [7, 9, 10] (fun o dn k W => ∃ (K m : Nat) (D : Bool) (ao : Option Addr) (co : Nat) (ys : List Value) (OUT : List V), K ≤ n + 1 ∧ k = .int .i64 K ∧ dn = .bool D ∧ o = .slice ao m co ∧ Hid (m = OUT.length) ∧ Hid (W.ownsRow w4.heap.size 24 4 (.slice ao m co) m ys) ∧ Hid (Fit w0 (d + 1) OUT ys) ∧ Hid (D = false → pl = (placeAt (over key) l K).getD n) ∧ Hid (OUT ++ (if D = true then l.drop K else restN l pl (nameV key) u K) = FL) ∧ Hid (Pure w4 W)) (fun _ _ i _ => n + 1 - (intOf i).toNat)
      case atStart => exact ⟨0, 0, false, none, 0, [], [], by omega, rfl, rfl, rfl, Lib.hid rfl, HO0, Lib.hid .nil, Lib.hid (fun _ => HP0.out), Lib.hid HFS.out.symm, Lib.hid (Ext.refl _ _)⟩
      case round =>
        obtain ⟨K, m, D, ao, co, ys, OUT, hkn, rfl, rfl, rfl, HM, HOc, HFt, HD, HR, HEc⟩ := hrel
        have c3 : wr.cell? ⟨tb, 3, none⟩ = some (.slice a n c) := HEc.out.cell_some c3l id
        have hflen : FL.length ≤ n + 2 := by
          rw [HFS.out, restN_zero]
          simp only [List.length_append, List.length_take, List.length_drop, List.length_cons, List.length_nil]
          have := HNN.out
          omega
        have hmb : m ≤ 100000 := by
          have h1 := congrArg List.length HR.out
          simp only [List.length_append] at h1
          have := HM.out
          omega
        by_cases hlt : K < n
        · have hki : (K : Int) < (n : Int) := by omega
          obtain ⟨t, ht⟩ : ∃ t, l[K]? = some t := ⟨_, List.getElem?_eq_getElem (by rw [← HNN.out]; exact hlt)⟩
          obtain ⟨b, o, qq, rfl, hrp, hLp⟩ := HFit.out.full HRw.out K t (HLL.out ▸ ht)
          have hLp0 := hLp
          have HPP := Lib.hid hLp0
          have hrp0 := hrp
          have hrp : w4.rangeAt b (o + K * 4) [.int .i64 t.kind, .int .i64 t.n, .string t.s, qq] := fun j v hv => HP4.out.cell_some (hrp0 j v hv) id
          clear hrp0 hLp0
          have hKK : ¬ (K : Int) = (-1 : Int) := by omega
          have hKK' : ((K : Int) == (-1 : Int)) = false := by simp
          obtain ⟨B, hB⟩ : ∃ B, B = (!D && over key t) := ⟨_, rfl⟩
          cases B with
          | true =>
            have hD : D = false := by
              cases D with
              | false => rfl
              | true => cases hB
            subst hD
            have hov : over key t = true := by simpa using hB.symm
            have hpK : pl = K := by rw [HD.out rfl, placeAt_hit ht hov]; rfl
            have HRR : Hid ((OUT ++ [nameV key, u] ++ [t]) ++ ((l.drop (K + 1)).take 1 ++ l.drop (K + 2)) = FL) := Lib.hid (by
              have h1 := HR.out
              rw [if_neg (by decide), hpK, restN_hit l _ _ t K ht] at h1
              rw [← h1]; simp)
            unfold over at hov
            have e0 : wr.cell? ⟨b, o + K * 4, none⟩ = some (.int .i64 t.kind) := HEc.out.cell_some (hrp 0 _ rfl) id
            have e2 : wr.cell? ⟨b, o + K * 4 + 2, none⟩ = some (.string t.s) := HEc.out.cell_some (hrp 2 _ rfl) id
            clear hpK hB
            have H1p : Hid (∀ x ∈ ([.int .i64 t.kind, .int .i64 t.n, .string t.s, qq] : List Value), x.oneCell' = true) := Lib.hid (Fit.single hLp).one
            obtain ⟨kk, hkk⟩ : ∃ z, z = t.kind := ⟨_, rfl⟩
            obtain ⟨nn, hnn⟩ : ∃ z, z = t.n := ⟨_, rfl⟩
            obtain ⟨ss, hss⟩ : ∃ z, z = t.s := ⟨_, rfl⟩
            simp only [← hkk, ← hnn, ← hss] at *
            clear hkk hnn hss hLp
            have h5 : kk = 5 := by simp at hov; exact hov.1
            have hk5 : (kk == 5) = true := by simp [h5]
            have hrun := gtr_run ss key true (by simp at hov; exact hov.2)
            clear h5
            clear hov
            by_cases hlt2 : K + 1 < n
            · have hki2 : (K : Int) + 1 < (n : Int) := by omega
              obtain ⟨t2, ht2⟩ : ∃ t2, l[K + 1]? = some t2 := ⟨_, List.getElem?_eq_getElem (by rw [← HNN.out]; exact hlt2)⟩
              obtain ⟨b2, o2, qq2, hbb, hrq0, hLq⟩ := HFit.out.full HRw.out (K + 1) t2 (HLL.out ▸ ht2)
              have hrq : w4.rangeAt b2 (o2 + (K + 1) * 4) [.int .i64 t2.kind, .int .i64 t2.n, .string t2.s, qq2] := fun j v hv => HP4.out.cell_some (hrq0 j v hv) id
              clear hrq0
              cases hbb
              have HRR2 : Hid ((OUT ++ [nameV key, u] ++ [t] ++ [t2]) ++ (if true = true then l.drop (K + 2) else restN l pl (nameV key) u (K + 2)) = FL) := Lib.hid (by rw [if_pos rfl, ← HRR.out, take_one l (K + 1) t2 ht2]; simp)
              have H1q : Hid (∀ x ∈ ([.int .i64 t2.kind, .int .i64 t2.n, .string t2.s, qq2] : List Value), x.oneCell' = true) := Lib.hid (Fit.single hLq).one
              have HQQ := Lib.hid hLq
              obtain ⟨kk2, hkk2⟩ : ∃ z, z = t2.kind := ⟨_, rfl⟩
              obtain ⟨nn2, hnn2⟩ : ∃ z, z = t2.n := ⟨_, rfl⟩
              obtain ⟨ss2, hss2⟩ : ∃ z, z = t2.s := ⟨_, rfl⟩
              simp only [← hkk2, ← hnn2, ← hss2] at *
              clear hkk2 hnn2 hss2 hLq
              clear ht ht2
              go_wp2_with (first
                | (at_builtin
                   have hoa := own_ext HOc.out (ext_alloc wr (.cells #[.int .i64 5, .int .i64 0, .string key, .slice none 0 0, u0, u1, u2, u3] 24)) (fun _ _ => id)
                   have hra : RowOf (wr.alloc (.cells #[.int .i64 5, .int .i64 0, .string key, .slice none 0 0, u0, u1, u2, u3] 24)) (some ⟨wr.heap.size, 0, none⟩) [.int .i64 5, .int .i64 0, .string key, .slice none 0 0, u0, u1, u2, u3] := row_at [.int .i64 5, .int .i64 0, .string key, .slice none 0 0, u0, u1, u2, u3] rfl rfl
                   have hsz : w4.heap.size ≤ (wr.alloc (.cells #[.int .i64 5, .int .i64 0, .string key, .slice none 0 0, u0, u1, u2, u3] 24)).heap.size := by have h1 := HEc.out.size; rw [World.size_alloc]; omega
                   refine wpList_append_any rfl (.tmp 50) (.tmp 54) 22 rfl w4.heap.size 24 (.agg #[.int .i64 0, .int .i64 0, .string ⟨#[]⟩, .slice none 0 0]) 4 56 Try.underlying22 info24 rfl (by decide) (.slice ao (m) co) (m) (ys) rfl hoa (some ⟨wr.heap.size, 0, none⟩) 2 2 [.int .i64 5, .int .i64 0, .string key, .slice none 0 0, u0, u1, u2, u3] rfl (fun e => by cases e) rfl hra H1n.out (m + 2) rfl (ys ++ [.int .i64 5, .int .i64 0, .string key, .slice none 0 0, u0, u1, u2, u3]) rfl (by omega) (by unfold maxLen; omega) hsz ?_
                   intro a1 c1 wa1 hO' hg'
                   have hE' := Ext.own (HEc.out.alloc _) hoa hg'
                   have HO1 := Lib.hid hO'
                   have HE1 := Lib.hid hE'
                   have c31 : wa1.cell? ⟨tb, 3, none⟩ = some (.slice (some ⟨b, o, none⟩) n c) := hE'.cell_some c3l id
                   clear hO' hE' hg' hoa hra hsz)
                | (with_reducible refine at_load 24 (.tmp 5) ?_; refine wpList_load_mid rfl 24 (.tmp 5) rfl (tb + 1) 0 rfl [u0, u1, u2, u3] _ (range_ext hru HEc.out) Try.underlying24 rfl (by kernel_rfl) ?_)
                | (at_builtin
                   have hoa := own_ext HO1.out (ext_alloc wa1 (.cells #[.int .i64 kk, .int .i64 nn, .string ss, qq] 24)) (fun _ _ => id)
                   have hra : RowOf (wa1.alloc (.cells #[.int .i64 kk, .int .i64 nn, .string ss, qq] 24)) (some ⟨wa1.heap.size, 0, none⟩) [.int .i64 kk, .int .i64 nn, .string ss, qq] := row_at [.int .i64 kk, .int .i64 nn, .string ss, qq] rfl rfl
                   have hsz : w4.heap.size ≤ (wa1.alloc (.cells #[.int .i64 kk, .int .i64 nn, .string ss, qq] 24)).heap.size := by have h1 := HE1.out.size; rw [World.size_alloc]; omega
                   refine wpList_append_any rfl (.tmp 56) (.tmp 62) 22 rfl w4.heap.size 24 (.agg #[.int .i64 0, .int .i64 0, .string ⟨#[]⟩, .slice none 0 0]) 4 56 Try.underlying22 info24 rfl (by decide) (.slice a1 (m + 2) c1) (m + 2) (ys ++ [.int .i64 5, .int .i64 0, .string key, .slice none 0 0, u0, u1, u2, u3]) rfl hoa (some ⟨wa1.heap.size, 0, none⟩) 1 1 [.int .i64 kk, .int .i64 nn, .string ss, qq] rfl (fun e => by cases e) rfl hra H1p.out (m + 2 + 1) rfl (ys ++ [.int .i64 5, .int .i64 0, .string key, .slice none 0 0, u0, u1, u2, u3] ++ [.int .i64 kk, .int .i64 nn, .string ss, qq]) rfl (by omega) (by unfold maxLen; omega) hsz ?_
                   intro a2 c2 wa2 hO' hg'
                   have hE' := Ext.own (HE1.out.alloc _) hoa hg'
                   have HO2 := Lib.hid hO'
                   have HE2 := Lib.hid hE'
                   have c32 : wa2.cell? ⟨tb, 3, none⟩ = some (.slice (some ⟨b, o, none⟩) n c) := hE'.cell_some c3l id
                   clear hO' hE' hg' hoa hra hsz)
                | (with_reducible refine at_load 24 (.tmp 60) ?_; refine wpList_load_mid rfl 24 (.tmp 60) rfl b (o + K * 4) rfl [.int .i64 kk, .int .i64 nn, .string ss, qq] _ (range_ext hrp HE1.out) Try.underlying24 rfl (by kernel_rfl) ?_)
                | (at_builtin
                   have hoa := own_ext HO2.out (ext_alloc wa2 (.cells #[.int .i64 kk2, .int .i64 nn2, .string ss2, qq2] 24)) (fun _ _ => id)
                   have hra : RowOf (wa2.alloc (.cells #[.int .i64 kk2, .int .i64 nn2, .string ss2, qq2] 24)) (some ⟨wa2.heap.size, 0, none⟩) [.int .i64 kk2, .int .i64 nn2, .string ss2, qq2] := row_at [.int .i64 kk2, .int .i64 nn2, .string ss2, qq2] rfl rfl
                   have hsz : w4.heap.size ≤ (wa2.alloc (.cells #[.int .i64 kk2, .int .i64 nn2, .string ss2, qq2] 24)).heap.size := by have h1 := HE2.out.size; rw [World.size_alloc]; omega
                   refine wpList_append_any rfl (.tmp 77) (.tmp 84) 22 rfl w4.heap.size 24 (.agg #[.int .i64 0, .int .i64 0, .string ⟨#[]⟩, .slice none 0 0]) 4 56 Try.underlying22 info24 rfl (by decide) (.slice a2 (m + 2 + 1) c2) (m + 2 + 1) (ys ++ [.int .i64 5, .int .i64 0, .string key, .slice none 0 0, u0, u1, u2, u3] ++ [.int .i64 kk, .int .i64 nn, .string ss, qq]) rfl hoa (some ⟨wa2.heap.size, 0, none⟩) 1 1 [.int .i64 kk2, .int .i64 nn2, .string ss2, qq2] rfl (fun e => by cases e) rfl hra H1q.out (m + 2 + 1 + 1) rfl (ys ++ [.int .i64 5, .int .i64 0, .string key, .slice none 0 0, u0, u1, u2, u3] ++ [.int .i64 kk, .int .i64 nn, .string ss, qq] ++ [.int .i64 kk2, .int .i64 nn2, .string ss2, qq2]) rfl (by omega) (by unfold maxLen; omega) hsz ?_
                   intro a3 c3x wa3 hO' hg'
                   have hE' := Ext.own (HE2.out.alloc _) hoa hg'
                   have HO3 := Lib.hid hO'
                   have HE3 := Lib.hid hE'
                   have c33 : wa3.cell? ⟨tb, 3, none⟩ = some (.slice (some ⟨b, o, none⟩) n c) := hE'.cell_some c3l id
                   clear hO' hE' hg' hoa hra hsz)
                | (with_reducible refine at_load 24 (.tmp 82) ?_; refine wpList_load_mid rfl 24 (.tmp 82) rfl b (o + (K + 1) * 4) rfl [.int .i64 kk2, .int .i64 nn2, .string ss2, qq2] _ (range_ext hrq HE2.out) Try.underlying24 rfl (by kernel_rfl) ?_))
              go_roundw
              case rel => exact ⟨K + 2, m + 2 + 1 + 1, true, _, _, _, OUT ++ [nameV key, u] ++ [t] ++ [t2], by omega, by go_num, rfl, rfl, Lib.hid (by simp [HM.out]), HO3, Lib.hid (((HFt.out.append HFn.out).append (Fit.single HPP.out)).append (Fit.single HQQ.out)), Lib.hid (fun e => by cases e), HRR2, HE3⟩
              case measure => simp [intOf]; omega
            · have hki2 : ¬ (K : Int) + 1 < (n : Int) := by omega
              have HRR2 : Hid ((OUT ++ [nameV key, u] ++ [t]) ++ (if true = true then l.drop (K + 2) else restN l pl (nameV key) u (K + 2)) = FL) := Lib.hid (by rw [if_pos rfl, ← HRR.out, take_none l (K + 1) (by rw [← HNN.out]; omega)]; simp)
              clear ht
              go_wp2_with (first
                | (at_builtin
                   have hoa := own_ext HOc.out (ext_alloc wr (.cells #[.int .i64 5, .int .i64 0, .string key, .slice none 0 0, u0, u1, u2, u3] 24)) (fun _ _ => id)
                   have hra : RowOf (wr.alloc (.cells #[.int .i64 5, .int .i64 0, .string key, .slice none 0 0, u0, u1, u2, u3] 24)) (some ⟨wr.heap.size, 0, none⟩) [.int .i64 5, .int .i64 0, .string key, .slice none 0 0, u0, u1, u2, u3] := row_at [.int .i64 5, .int .i64 0, .string key, .slice none 0 0, u0, u1, u2, u3] rfl rfl
                   have hsz : w4.heap.size ≤ (wr.alloc (.cells #[.int .i64 5, .int .i64 0, .string key, .slice none 0 0, u0, u1, u2, u3] 24)).heap.size := by have h1 := HEc.out.size; rw [World.size_alloc]; omega
                   refine wpList_append_any rfl (.tmp 50) (.tmp 54) 22 rfl w4.heap.size 24 (.agg #[.int .i64 0, .int .i64 0, .string ⟨#[]⟩, .slice none 0 0]) 4 56 Try.underlying22 info24 rfl (by decide) (.slice ao (m) co) (m) (ys) rfl hoa (some ⟨wr.heap.size, 0, none⟩) 2 2 [.int .i64 5, .int .i64 0, .string key, .slice none 0 0, u0, u1, u2, u3] rfl (fun e => by cases e) rfl hra H1n.out (m + 2) rfl (ys ++ [.int .i64 5, .int .i64 0, .string key, .slice none 0 0, u0, u1, u2, u3]) rfl (by omega) (by unfold maxLen; omega) hsz ?_
                   intro a1 c1 wa1 hO' hg'
                   have hE' := Ext.own (HEc.out.alloc _) hoa hg'
                   have HO1 := Lib.hid hO'
                   have HE1 := Lib.hid hE'
                   have c31 : wa1.cell? ⟨tb, 3, none⟩ = some (.slice (some ⟨b, o, none⟩) n c) := hE'.cell_some c3l id
                   clear hO' hE' hg' hoa hra hsz)
                | (with_reducible refine at_load 24 (.tmp 5) ?_; refine wpList_load_mid rfl 24 (.tmp 5) rfl (tb + 1) 0 rfl [u0, u1, u2, u3] _ (range_ext hru HEc.out) Try.underlying24 rfl (by kernel_rfl) ?_)
                | (at_builtin
                   have hoa := own_ext HO1.out (ext_alloc wa1 (.cells #[.int .i64 kk, .int .i64 nn, .string ss, qq] 24)) (fun _ _ => id)
                   have hra : RowOf (wa1.alloc (.cells #[.int .i64 kk, .int .i64 nn, .string ss, qq] 24)) (some ⟨wa1.heap.size, 0, none⟩) [.int .i64 kk, .int .i64 nn, .string ss, qq] := row_at [.int .i64 kk, .int .i64 nn, .string ss, qq] rfl rfl
                   have hsz : w4.heap.size ≤ (wa1.alloc (.cells #[.int .i64 kk, .int .i64 nn, .string ss, qq] 24)).heap.size := by have h1 := HE1.out.size; rw [World.size_alloc]; omega
                   refine wpList_append_any rfl (.tmp 56) (.tmp 62) 22 rfl w4.heap.size 24 (.agg #[.int .i64 0, .int .i64 0, .string ⟨#[]⟩, .slice none 0 0]) 4 56 Try.underlying22 info24 rfl (by decide) (.slice a1 (m + 2) c1) (m + 2) (ys ++ [.int .i64 5, .int .i64 0, .string key, .slice none 0 0, u0, u1, u2, u3]) rfl hoa (some ⟨wa1.heap.size, 0, none⟩) 1 1 [.int .i64 kk, .int .i64 nn, .string ss, qq] rfl (fun e => by cases e) rfl hra H1p.out (m + 2 + 1) rfl (ys ++ [.int .i64 5, .int .i64 0, .string key, .slice none 0 0, u0, u1, u2, u3] ++ [.int .i64 kk, .int .i64 nn, .string ss, qq]) rfl (by omega) (by unfold maxLen; omega) hsz ?_
                   intro a2 c2 wa2 hO' hg'
                   have hE' := Ext.own (HE1.out.alloc _) hoa hg'
                   have HO2 := Lib.hid hO'
                   have HE2 := Lib.hid hE'
                   have c32 : wa2.cell? ⟨tb, 3, none⟩ = some (.slice (some ⟨b, o, none⟩) n c) := hE'.cell_some c3l id
                   clear hO' hE' hg' hoa hra hsz)
                | (with_reducible refine at_load 24 (.tmp 60) ?_; refine wpList_load_mid rfl 24 (.tmp 60) rfl b (o + K * 4) rfl [.int .i64 kk, .int .i64 nn, .string ss, qq] _ (range_ext hrp HE1.out) Try.underlying24 rfl (by kernel_rfl) ?_))
              go_roundw
              case rel => exact ⟨K + 2, m + 2 + 1, true, _, _, _, OUT ++ [nameV key, u] ++ [t], by omega, by go_num, rfl, rfl, Lib.hid (by simp [HM.out]), HO2, Lib.hid ((HFt.out.append HFn.out).append (Fit.single HPP.out)), Lib.hid (fun e => by cases e), HRR2, HE2⟩
              case measure => simp [intOf]; omega
          | false =>
            have HRR : Hid (OUT ++ ([t] ++ ((l.drop (K + 1)).take 1 ++ (if D = true then l.drop (K + 2) else restN l pl (nameV key) u (K + 2)))) = FL) := Lib.hid (by
              rw [← HR.out]
              cases D with
              | true => rw [if_pos rfl, if_pos rfl, drop_two l K t ht]
              | false =>
                have hov : over key t = false := by simpa using hB.symm
                have := HD.out rfl
                rw [placeAt_miss ht hov] at this
                rw [if_neg (by decide), if_neg (by decide), restN_miss l pl _ _ t K ht (place_two HNN.out this)])
            have HDD : Hid (D = false → pl = (placeAt (over key) l (K + 2)).getD n) := Lib.hid (fun e => by
              subst e
              have hov : over key t = false := by simpa using hB.symm
              rw [HD.out rfl, placeAt_miss ht hov])
            have e0 : wr.cell? ⟨b, o + K * 4, none⟩ = some (.int .i64 t.kind) := HEc.out.cell_some (hrp 0 _ rfl) id
            have e2 : wr.cell? ⟨b, o + K * 4 + 2, none⟩ = some (.string t.s) := HEc.out.cell_some (hrp 2 _ rfl) id
            have hway : D = true ∨ (D = false ∧ ¬ t.kind = 5) ∨ (D = false ∧ t.kind = 5 ∧ Op.bytesLess key.toList t.s.toList = false) := by
              cases D
              · by_cases h5 : t.kind = 5
                · exact Or.inr (Or.inr ⟨rfl, h5, by have := hB.symm; simp [over, h5] at this; exact this⟩)
                · exact Or.inr (Or.inl ⟨rfl, h5⟩)
              · exact Or.inl rfl
            clear hB HD
            have H1p : Hid (∀ x ∈ ([.int .i64 t.kind, .int .i64 t.n, .string t.s, qq] : List Value), x.oneCell' = true) := Lib.hid (Fit.single hLp).one
            obtain ⟨kk, hkk⟩ : ∃ z, z = t.kind := ⟨_, rfl⟩
            obtain ⟨nn, hnn⟩ : ∃ z, z = t.n := ⟨_, rfl⟩
            obtain ⟨ss, hss⟩ : ∃ z, z = t.s := ⟨_, rfl⟩
            simp only [← hkk, ← hnn, ← hss] at *
            clear hkk hnn hss hLp
            by_cases hlt2 : K + 1 < n
            · have hki2 : (K : Int) + 1 < (n : Int) := by omega
              obtain ⟨t2, ht2⟩ : ∃ t2, l[K + 1]? = some t2 := ⟨_, List.getElem?_eq_getElem (by rw [← HNN.out]; exact hlt2)⟩
              obtain ⟨b2, o2, qq2, hbb, hrq0, hLq⟩ := HFit.out.full HRw.out (K + 1) t2 (HLL.out ▸ ht2)
              have hrq : w4.rangeAt b2 (o2 + (K + 1) * 4) [.int .i64 t2.kind, .int .i64 t2.n, .string t2.s, qq2] := fun j v hv => HP4.out.cell_some (hrq0 j v hv) id
              clear hrq0
              cases hbb
              have HRR2 : Hid ((OUT ++ [t] ++ [t2]) ++ (if D = true then l.drop (K + 2) else restN l pl (nameV key) u (K + 2)) = FL) := Lib.hid (by rw [← HRR.out, take_one l (K + 1) t2 ht2]; simp)
              have H1q : Hid (∀ x ∈ ([.int .i64 t2.kind, .int .i64 t2.n, .string t2.s, qq2] : List Value), x.oneCell' = true) := Lib.hid (Fit.single hLq).one
              have HQQ := Lib.hid hLq
              obtain ⟨kk2, hkk2⟩ : ∃ z, z = t2.kind := ⟨_, rfl⟩
              obtain ⟨nn2, hnn2⟩ : ∃ z, z = t2.n := ⟨_, rfl⟩
              obtain ⟨ss2, hss2⟩ : ∃ z, z = t2.s := ⟨_, rfl⟩
              simp only [← hkk2, ← hnn2, ← hss2] at *
              clear hkk2 hnn2 hss2 hLq
              clear ht ht2
              have hway2 : D = true ∨ (D = false ∧ (kk == 5) = false) ∨ (D = false ∧ (kk == 5) = true ∧ ∀ W, (binOp .gtr 9 (.string ss) (.string key)).run Try.prog W = .ok (.bool false) W) := by
                rcases hway with h | ⟨h1, h2⟩ | ⟨h1, h2, h3⟩
                · exact Or.inl h
                · exact Or.inr (Or.inl ⟨h1, by simpa using h2⟩)
                · exact Or.inr (Or.inr ⟨h1, by simp [h2], gtr_run ss key false h3⟩)
              clear hway
              rcases hway2 with rfl | ⟨rfl, hk5⟩ | ⟨rfl, hk5, hrun⟩
              all_goals
                go_wp2_with (first
                  | (at_builtin
                     have hoa := own_ext HOc.out (ext_alloc wr (.cells #[.int .i64 kk, .int .i64 nn, .string ss, qq] 24)) (fun _ _ => id)
                     have hra : RowOf (wr.alloc (.cells #[.int .i64 kk, .int .i64 nn, .string ss, qq] 24)) (some ⟨wr.heap.size, 0, none⟩) [.int .i64 kk, .int .i64 nn, .string ss, qq] := row_at [.int .i64 kk, .int .i64 nn, .string ss, qq] rfl rfl
                     have hsz : w4.heap.size ≤ (wr.alloc (.cells #[.int .i64 kk, .int .i64 nn, .string ss, qq] 24)).heap.size := by have h1 := HEc.out.size; rw [World.size_alloc]; omega
                     refine wpList_append_any rfl (.tmp 56) (.tmp 62) 22 rfl w4.heap.size 24 (.agg #[.int .i64 0, .int .i64 0, .string ⟨#[]⟩, .slice none 0 0]) 4 56 Try.underlying22 info24 rfl (by decide) (.slice ao (m) co) (m) (ys) rfl hoa (some ⟨wr.heap.size, 0, none⟩) 1 1 [.int .i64 kk, .int .i64 nn, .string ss, qq] rfl (fun e => by cases e) rfl hra H1p.out (m + 1) rfl (ys ++ [.int .i64 kk, .int .i64 nn, .string ss, qq]) rfl (by omega) (by unfold maxLen; omega) hsz ?_
                     intro a1 c1 wa1 hO' hg'
                     have hE' := Ext.own (HEc.out.alloc _) hoa hg'
                     have HO1 := Lib.hid hO'
                     have HE1 := Lib.hid hE'
                     have c31 : wa1.cell? ⟨tb, 3, none⟩ = some (.slice (some ⟨b, o, none⟩) n c) := hE'.cell_some c3l id
                     clear hO' hE' hg' hoa hra hsz)
                  | (with_reducible refine at_load 24 (.tmp 60) ?_; refine wpList_load_mid rfl 24 (.tmp 60) rfl b (o + K * 4) rfl [.int .i64 kk, .int .i64 nn, .string ss, qq] _ (range_ext hrp HEc.out) Try.underlying24 rfl (by kernel_rfl) ?_)
                  | (at_builtin
                     have hoa := own_ext HO1.out (ext_alloc wa1 (.cells #[.int .i64 kk2, .int .i64 nn2, .string ss2, qq2] 24)) (fun _ _ => id)
                     have hra : RowOf (wa1.alloc (.cells #[.int .i64 kk2, .int .i64 nn2, .string ss2, qq2] 24)) (some ⟨wa1.heap.size, 0, none⟩) [.int .i64 kk2, .int .i64 nn2, .string ss2, qq2] := row_at [.int .i64 kk2, .int .i64 nn2, .string ss2, qq2] rfl rfl
                     have hsz : w4.heap.size ≤ (wa1.alloc (.cells #[.int .i64 kk2, .int .i64 nn2, .string ss2, qq2] 24)).heap.size := by have h1 := HE1.out.size; rw [World.size_alloc]; omega
                     refine wpList_append_any rfl (.tmp 77) (.tmp 84) 22 rfl w4.heap.size 24 (.agg #[.int .i64 0, .int .i64 0, .string ⟨#[]⟩, .slice none 0 0]) 4 56 Try.underlying22 info24 rfl (by decide) (.slice a1 (m + 1) c1) (m + 1) (ys ++ [.int .i64 kk, .int .i64 nn, .string ss, qq]) rfl hoa (some ⟨wa1.heap.size, 0, none⟩) 1 1 [.int .i64 kk2, .int .i64 nn2, .string ss2, qq2] rfl (fun e => by cases e) rfl hra H1q.out (m + 1 + 1) rfl (ys ++ [.int .i64 kk, .int .i64 nn, .string ss, qq] ++ [.int .i64 kk2, .int .i64 nn2, .string ss2, qq2]) rfl (by omega) (by unfold maxLen; omega) hsz ?_
                     intro a2 c2 wa2 hO' hg'
                     have hE' := Ext.own (HE1.out.alloc _) hoa hg'
                     have HO2 := Lib.hid hO'
                     have HE2 := Lib.hid hE'
                     have c32 : wa2.cell? ⟨tb, 3, none⟩ = some (.slice (some ⟨b, o, none⟩) n c) := hE'.cell_some c3l id
                     clear hO' hE' hg' hoa hra hsz)
                  | (with_reducible refine at_load 24 (.tmp 82) ?_; refine wpList_load_mid rfl 24 (.tmp 82) rfl b (o + (K + 1) * 4) rfl [.int .i64 kk2, .int .i64 nn2, .string ss2, qq2] _ (range_ext hrq HE1.out) Try.underlying24 rfl (by kernel_rfl) ?_))
                go_roundw
                case rel => exact ⟨K + 2, m + 1 + 1, _, _, _, _, OUT ++ [t] ++ [t2], by omega, by go_num, rfl, rfl, Lib.hid (by simp [HM.out]), HO2, Lib.hid ((HFt.out.append (Fit.single HPP.out)).append (Fit.single HQQ.out)), HDD, HRR2, HE2⟩
                case measure => simp [intOf]; omega
            · have hki2 : ¬ (K : Int) + 1 < (n : Int) := by omega
              have HRR2 : Hid ((OUT ++ [t]) ++ (if D = true then l.drop (K + 2) else restN l pl (nameV key) u (K + 2)) = FL) := Lib.hid (by rw [← HRR.out, take_none l (K + 1) (by rw [← HNN.out]; omega)]; simp)
              clear ht
              have hway2 : D = true ∨ (D = false ∧ (kk == 5) = false) ∨ (D = false ∧ (kk == 5) = true ∧ ∀ W, (binOp .gtr 9 (.string ss) (.string key)).run Try.prog W = .ok (.bool false) W) := by
                rcases hway with h | ⟨h1, h2⟩ | ⟨h1, h2, h3⟩
                · exact Or.inl h
                · exact Or.inr (Or.inl ⟨h1, by simpa using h2⟩)
                · exact Or.inr (Or.inr ⟨h1, by simp [h2], gtr_run ss key false h3⟩)
              clear hway
              rcases hway2 with rfl | ⟨rfl, hk5⟩ | ⟨rfl, hk5, hrun⟩
              all_goals
                go_wp2_with (first
                  | (at_builtin
                     have hoa := own_ext HOc.out (ext_alloc wr (.cells #[.int .i64 kk, .int .i64 nn, .string ss, qq] 24)) (fun _ _ => id)
                     have hra : RowOf (wr.alloc (.cells #[.int .i64 kk, .int .i64 nn, .string ss, qq] 24)) (some ⟨wr.heap.size, 0, none⟩) [.int .i64 kk, .int .i64 nn, .string ss, qq] := row_at [.int .i64 kk, .int .i64 nn, .string ss, qq] rfl rfl
                     have hsz : w4.heap.size ≤ (wr.alloc (.cells #[.int .i64 kk, .int .i64 nn, .string ss, qq] 24)).heap.size := by have h1 := HEc.out.size; rw [World.size_alloc]; omega
                     refine wpList_append_any rfl (.tmp 56) (.tmp 62) 22 rfl w4.heap.size 24 (.agg #[.int .i64 0, .int .i64 0, .string ⟨#[]⟩, .slice none 0 0]) 4 56 Try.underlying22 info24 rfl (by decide) (.slice ao (m) co) (m) (ys) rfl hoa (some ⟨wr.heap.size, 0, none⟩) 1 1 [.int .i64 kk, .int .i64 nn, .string ss, qq] rfl (fun e => by cases e) rfl hra H1p.out (m + 1) rfl (ys ++ [.int .i64 kk, .int .i64 nn, .string ss, qq]) rfl (by omega) (by unfold maxLen; omega) hsz ?_
                     intro a1 c1 wa1 hO' hg'
                     have hE' := Ext.own (HEc.out.alloc _) hoa hg'
                     have HO1 := Lib.hid hO'
                     have HE1 := Lib.hid hE'
                     have c31 : wa1.cell? ⟨tb, 3, none⟩ = some (.slice (some ⟨b, o, none⟩) n c) := hE'.cell_some c3l id
                     clear hO' hE' hg' hoa hra hsz)
                  | (with_reducible refine at_load 24 (.tmp 60) ?_; refine wpList_load_mid rfl 24 (.tmp 60) rfl b (o + K * 4) rfl [.int .i64 kk, .int .i64 nn, .string ss, qq] _ (range_ext hrp HEc.out) Try.underlying24 rfl (by kernel_rfl) ?_))
                go_roundw
                case rel => exact ⟨K + 2, m + 1, _, _, _, _, OUT ++ [t], by omega, by go_num, rfl, rfl, Lib.hid (by simp [HM.out]), HO1, Lib.hid (HFt.out.append (Fit.single HPP.out)), HDD, HRR2, HE1⟩
                case measure => simp [intOf]; omega
        · have hki : ¬ (K : Int) < (n : Int) := by omega
          cases D with
          | true =>
            have HO2 : Hid (OUT = FL) := Lib.hid (by rw [← HR.out, if_pos rfl, List.drop_eq_nil_of_le (by rw [← HNN.out]; omega), List.append_nil])
            clear HR HD
            have z3 : wr.frozen? ⟨tb, 3, none⟩ = false := (HB14.out.ext HEc.out id).free 3
            obtain ⟨wz, csz, hRn⟩ := renew (w0 := w0) (v := v) (l := OUT) (hcs.out ▸ HB14.out.ext HEc.out id) (HB34.out.ext HEc.out id) (by omega) (HP4.out.pure HEc.out) HTw.out (by have := HTw.out; omega) HOc.out (by have := HS4.out; omega) (by have := HS4.out; omega) HFt.out hs HM.out
            have HRn := Lib.hid hRn
            have hR9 := hRn.block.range
            clear hRn
            go_wp2_with (first
              | (with_reducible refine at_load 24 (.tmp 3) ?_; refine wpList_load_mid rfl 24 (.tmp 3) rfl tb 0 rfl csz _ (by rw [← HRn.out.is]; exact hR9) Try.underlying24 rfl (by rw [HRn.out.len]; kernel_rfl) ?_; rw [← HRn.out.is])
              | (with_reducible refine at_store 24 (.tmp 6) (.tmp 100) ?_; refine wpList_store_mid rfl 24 (.tmp 6) (.tmp 100) rfl (tb + 1 + 1) 0 csz.toArray rfl rfl HRn.out.there HRn.out.info HRn.out.one ?_; try simp only [List.toArray_toList]))
            refine bodyPost_ret (results_row1 rfl _ _ (tb + 2) _ csz _ rfl HRn.out.after Try.underlying24 rfl (by rw [HRn.out.len]; exact size24)) rfl ?_
            exact ⟨csz, rfl, by rw [HFN2.out, ← HO2.out]; exact HRn.out.lies, HRn.out.pure, fun b hb _ => HRn.out.off b hb⟩
          | false =>
            have hpn : pl = l.length := by rw [HD.out rfl, placeAt_end (by rw [← HNN.out]; omega)]; exact HNN.out
            have HO2 : Hid (OUT ++ [nameV key, u] = FL) := Lib.hid (by rw [← HR.out, if_neg (by decide), hpn, restN_end l _ _ K (by rw [← HNN.out]; omega)])
            clear HR HD hpn
            go_wp2_with (first
              | (at_builtin
                 have hoa := own_ext HOc.out (ext_alloc wr (.cells #[.int .i64 5, .int .i64 0, .string key, .slice none 0 0, u0, u1, u2, u3] 24)) (fun _ _ => id)
                 have hra : RowOf (wr.alloc (.cells #[.int .i64 5, .int .i64 0, .string key, .slice none 0 0, u0, u1, u2, u3] 24)) (some ⟨wr.heap.size, 0, none⟩) [.int .i64 5, .int .i64 0, .string key, .slice none 0 0, u0, u1, u2, u3] := row_at [.int .i64 5, .int .i64 0, .string key, .slice none 0 0, u0, u1, u2, u3] rfl rfl
                 have hsz : w4.heap.size ≤ (wr.alloc (.cells #[.int .i64 5, .int .i64 0, .string key, .slice none 0 0, u0, u1, u2, u3] 24)).heap.size := by have h1 := HEc.out.size; rw [World.size_alloc]; omega
                 refine wpList_append_any rfl (.tmp 92) (.tmp 96) 22 rfl w4.heap.size 24 (.agg #[.int .i64 0, .int .i64 0, .string ⟨#[]⟩, .slice none 0 0]) 4 56 Try.underlying22 info24 rfl (by decide) (.slice ao (m) co) (m) (ys) rfl hoa (some ⟨wr.heap.size, 0, none⟩) 2 2 [.int .i64 5, .int .i64 0, .string key, .slice none 0 0, u0, u1, u2, u3] rfl (fun e => by cases e) rfl hra H1n.out (m + 2) rfl (ys ++ [.int .i64 5, .int .i64 0, .string key, .slice none 0 0, u0, u1, u2, u3]) rfl (by omega) (by unfold maxLen; omega) hsz ?_
                 intro a1 c1 wa1 hO' hg'
                 have hE' := Ext.own (HEc.out.alloc _) hoa hg'
                 have HO1 := Lib.hid hO'
                 have HE1 := Lib.hid hE'
                 have c31 : wa1.cell? ⟨tb, 3, none⟩ = some (.slice a n c) := hE'.cell_some c3l id
                 have z3 : wa1.frozen? ⟨tb, 3, none⟩ = false := (HB14.out.ext HE1.out id).free 3
                 obtain ⟨wz, csz, hRn⟩ := renew (w0 := w0) (v := v) (l := OUT ++ [nameV key, u]) (hcs.out ▸ HB14.out.ext HE1.out id) (HB34.out.ext HE1.out id) (by omega) (HP4.out.pure HE1.out) HTw.out (by have := HTw.out; omega) HO1.out (by have := HS4.out; omega) (by have := HS4.out; omega) (HFt.out.append HFn.out) hs (by simp [HM.out])
                 have HRn := Lib.hid hRn
                 have hR9 := hRn.block.range
                 clear hRn hO' hE' hg' hoa hra hsz)
              | (with_reducible refine at_load 24 (.tmp 5) ?_; refine wpList_load_mid rfl 24 (.tmp 5) rfl (tb + 1) 0 rfl [u0, u1, u2, u3] _ (range_ext hru HEc.out) Try.underlying24 rfl (by kernel_rfl) ?_)
              | (with_reducible refine at_load 24 (.tmp 3) ?_; refine wpList_load_mid rfl 24 (.tmp 3) rfl tb 0 rfl csz _ (by rw [← HRn.out.is]; exact hR9) Try.underlying24 rfl (by rw [HRn.out.len]; kernel_rfl) ?_; rw [← HRn.out.is])
              | (with_reducible refine at_store 24 (.tmp 6) (.tmp 100) ?_; refine wpList_store_mid rfl 24 (.tmp 6) (.tmp 100) rfl (tb + 1 + 1) 0 csz.toArray rfl rfl HRn.out.there HRn.out.info HRn.out.one ?_; try simp only [List.toArray_toList]))
            refine bodyPost_ret (results_row1 rfl _ _ (tb + 2) _ csz _ rfl HRn.out.after Try.underlying24 rfl (by rw [HRn.out.len]; exact size24)) rfl ?_
            exact ⟨csz, rfl, by rw [HFN2.out, ← HO2.out]; exact HRn.out.lies, HRn.out.pure, fun b hb _ => HRn.out.off b hb⟩
  · have h7' : (v.kind != 7) = true := by simpa using h7
    have HFN : Hid (F = v) := Lib.hid (by rw [HFF.out, if_neg h7])
    have hB34 := hB33.setAll cs HCs.out.symm
    have hP4 := Ext.setCells cs 0 w3 hP3 (b := tb + 2) (fun h => by have := HTw.out; omega)
    have HB34 := Lib.hid hB34
    have HP4 := Lib.hid hP4
    have HTh := Lib.hid (show w3.there (tb + 2) 0 cs.toArray.size by rw [List.size_toArray, HCs.out]; exact hB33.there 4 rfl)
    have HSi : Hid ((Try.prog.info? 24).map (·.size) = some cs.toArray.size) := Lib.hid (by rw [List.size_toArray, HCs.out]; exact size24)
    have hR3 := hB13.range
    have c0w : (((w.alloc (.cells cs.toArray 24)).alloc (.cells us.toArray 24)).alloc (.cells #[.int .i64 0, .int .i64 0, .string ⟨#[]⟩, .slice none 0 0] 24)).cell? ⟨w.heap.size, 0, none⟩ = some (.int .i64 v.kind) := by rw [HW.out, ← HTb.out]; exact c0
    clear hB34 hP4 hB13 hB23 hB33 hP3 HFF h7 c0 c3 z3
    generalize v.kind = k0 at *
    go_enter Try.func16, Try.ntmps16
    go_wp2_with (first
      | (refine wpList_load_mid rfl 24 (.tmp 3) rfl tb 0 (by rw [HTb.out]; rfl) cs _ (by rw [HW.out]; exact hR3) Try.underlying24 rfl (by rw [HCs.out]; kernel_rfl) ?_; rw [HW.out, ← HTb.out])
      | (refine wpList_store_mid rfl 24 (.tmp 6) (.tmp 14) rfl (tb + 2) 0 cs.toArray rfl rfl HTh.out HSi.out HOne.out ?_; try simp only [List.toArray_toList]))
    refine bodyPost_ret (results_row1 rfl _ _ (tb + 2) _ cs _ rfl HB34.out Try.underlying24 rfl (by rw [HCs.out]; exact size24)) rfl ?_
    exact ⟨cs, rfl, by rw [HFN.out]; exact HL.out.pure HP4.out, HP4.out, fun _ _ h => h⟩
end Go.Proofs.Ytiakphjkcpbccaa
