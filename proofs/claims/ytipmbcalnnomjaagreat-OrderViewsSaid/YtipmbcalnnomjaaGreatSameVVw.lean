import Derived.Test.YtipmbcalnnomjaaGreatViewOfVw
import Derived.Test.YtipmbcalnnomjaaGreatValCmpVw
import Derived.Test.YtipmbcalnnomjaaGreatSqVw
set_option linter.unusedVariables false
set_option linter.unusedSimpArgs false
set_option maxRecDepth 100000
namespace Go.Proofs.YtipmbcalnnomjaaGreat
open Go.RowKit Go.Maps
theorem cmpI_self (x : Int) : cmpI x x = 0 := by unfold cmpI; rw [if_neg (by omega), if_neg (by omega)]
theorem bytes_self : ∀ a : List UInt8, Lib.compareBytes a a = 0
 | [] => rfl
 | a :: p => by rw [Lib.compareBytes, if_neg (by simp), if_neg (by simp)]; exact bytes_self p
mutual
theorem cmp_self : ∀ a : V, a.cmp a = 0
 | .mk k n s l => by
   simp only [V.cmp, cmpI_self, cmpS, bytes_self, cmp_selfL l, orI]
   decide
theorem cmp_selfL : ∀ a : List V, cmpL a a = 0
 | [] => by rw [cmpL]
 | a :: p => by rw [cmpL, cmp_self a, cmp_selfL p]; rfl
end
theorem vsame_yes (v : V) (d d' : Nat) (cs qs : List Value) (w : World) (h : Lies w d v cs) (k : Lies w d' v qs) (hsz : v.size ≤ 100000) : Calls Tryz.prog 46 #[.agg cs.toArray, .agg qs.toArray] w (BoolTo true w) := by
 have := valsame_any d v cs d' v qs w h k hsz hsz
 rwa [decide_eq_true (cmp_self v)] at this
set_option maxHeartbeats 2000000 in
theorem fsame_yes (o : Ob) (d d' : Nat) (cs qs : List Value) (w : World) (h : Lies w d o.v cs) (k : Lies w d' o.v qs) (hsz : o.v.size ≤ 100000) :
 Calls Tryz.prog 45 #[.agg (cs ++ [Value.bool o.st, Value.string o.data]).toArray, .agg (qs ++ [Value.bool o.st, Value.string o.data]).toArray] w (BoolTo true w) := by
 have HSm := qh (fun W (hP : Pure w W) => vsame_yes o.v d d' cs qs W (h.pure hP) (k.pure hP) hsz)
 obtain ⟨k1, n1, s1, a1, m1, c1, rfl⟩ := h.form
 obtain ⟨k2, n2, s2, a2, m2, c2, rfl⟩ := k.form
 generalize o.st = st at *
 generalize o.data = dt at *
 clear h k hsz
 simp only [List.cons_append, List.nil_append]
 go_enter Tryz.func45, Tryz.ntmps45
 go_wp2_with fail
 have hP : Pure w ((w.alloc (.cells #[.int .i64 k1, .int .i64 n1, .string s1, .slice a1 m1 c1, .bool st, .string dt] 61)).alloc (.cells #[.int .i64 k2, .int .i64 n2, .string s2, .slice a2 m2 c2, .bool st, .string dt] 61)) := (ext_alloc w _).pure (ext_alloc _ _)
 refine (HSm.out _ hP).mono ?_
 rintro e w3 ⟨rfl, hP3⟩
 go_wp2_with fail
 go_ret
 exact ⟨rfl, hP.pure hP3⟩
theorem fsame_goes : ∀ args w, (callFunc 45 args).run Tryz.prog w = .ok (.enter 45 args) w := by intro args w; rfl
set_option maxHeartbeats 1000000 in
theorem equal_yes (l : List Ob) (d d' : Nat) (a a' : Option Addr) (c c' : Nat) (rows rows' : List (List Value)) (w : World) (h : OKids w d l a rows) (k : OKids w d' l a' rows') (hl : l.length ≤ 1000000) (hsz : ∀ o ∈ l, o.v.size ≤ 100000) :
 Calls Tryz.prog 44 #[.slice a l.length c, .slice a' l.length c', .func (.func 45) #[] #[]] w (BoolTo true w) := by
 obtain ⟨n, hn⟩ : ∃ z, z = l.length := ⟨_, rfl⟩
 rw [← hn] at hl ⊢
 have HN := qh hn
 have HH := qh h
 have HK := qh k
 have HSz := qh hsz
 have hgo := fsame_goes
 clear hn h k hsz
 go_enter Tryz.func44, Tryz.ntmps44
 go_wp2_with fail
 go_loopw [7, 8, 9, 17] (fun _ _ _ i W => ∃ K : Nat, K ≤ n ∧ i = .int .i64 K ∧ Hid (Pure w W)) (fun _ _ _ i _ => n - (intOf i).toNat)
 case atStart => exact ⟨0, Nat.zero_le _, rfl, qh (Ext.refl _ _)⟩
 case round =>
  obtain ⟨K, hkn, rfl, HE⟩ := hrel
  by_cases hlt : K < n
  ·have hki : (K : Int) < (n : Int) := by omega
   have hk0 : (0 : Int) ≤ (K : Int) := by omega
   have hkl : K < l.length := by rw [← HN.out]; exact hlt
   obtain ⟨b, o, cs, rfl, _, _, hL, hr⟩ := HH.out.at K _ (List.getElem?_eq_getElem hkl)
   obtain ⟨b', o', qs, rfl, _, _, hM, hr'⟩ := HK.out.at K _ (List.getElem?_eq_getElem hkl)
   have hus := HSz.out _ (List.getElem_mem hkl)
   obtain ⟨u, hu⟩ : ∃ z, z = l[K] := ⟨_, rfl⟩
   rw [← hu] at hL hr hM hr' hus
   have HS := qh (fun W (hP : Pure w W) => fsame_yes u d d' cs qs W (hL.pure hP) (hM.pure hP) hus)
   obtain ⟨k1, n1, s1, a1, m1, c1, rfl⟩ := hL.form
   obtain ⟨k2, n2, s2, a2, m2, c2, rfl⟩ := hM.form
   generalize u.st = st at *
   generalize u.data = dt at *
   simp only [List.cons_append, List.nil_append] at hr hr' HS
   have hr1 := range_ext hr HE.out
   have hr2 := range_ext hr' (HE.out.pure (ext_alloc wr (.cells #[.int .i64 k1, .int .i64 n1, .string s1, .slice a1 m1 c1, .bool st, .string dt] 61)))
   have hPw : Pure w ((wr.alloc (.cells #[.int .i64 k1, .int .i64 n1, .string s1, .slice a1 m1 c1, .bool st, .string dt] 61)).alloc (.cells #[.int .i64 k2, .int .i64 n2, .string s2, .slice a2 m2 c2, .bool st, .string dt] 61)) := (HE.out.pure (ext_alloc wr _)).pure (ext_alloc _ _)
   have HPw := qh hPw
   have HSz1 : Hid ((Tryz.prog.info? 61).map (·.size) = some ([.int .i64 k1, .int .i64 n1, .string s1, .slice a1 m1 c1, .bool st, .string dt] : List Value).length) := qh size43
   have HSz2 : Hid ((Tryz.prog.info? 61).map (·.size) = some ([.int .i64 k2, .int .i64 n2, .string s2, .slice a2 m2 c2, .bool st, .string dt] : List Value).length) := qh size43
   clear hu hL hM hr hr' hus hkl hPw
   go_wp2_with (first
    | (with_reducible refine at_load 61 (.tmp 20) ?_; refine wpList_load_mid rfl 61 (.tmp 20) rfl b (o + K * 6) rfl [.int .i64 k1, .int .i64 n1, .string s1, .slice a1 m1 c1, .bool st, .string dt] _ hr1 Tryz.underlying61 rfl HSz1.out ?_)
    | (with_reducible refine at_load 61 (.tmp 24) ?_; refine wpList_load_mid rfl 61 (.tmp 24) rfl b' (o' + K * 6) rfl [.int .i64 k2, .int .i64 n2, .string s2, .slice a2 m2 c2, .bool st, .string dt] _ hr2 Tryz.underlying61 rfl HSz2.out ?_))
   refine (HS.out _ HPw.out).mono ?_
   rintro e w3 ⟨rfl, hP3⟩
   have HE3 := qh (HPw.out.pure hP3)
   clear hP3 hr1 hr2
   go_wp2_with fail
   go_roundw
   case rel => exact ⟨K + 1, by omega, by go_num, HE3⟩
   case measure => simp [intOf]; omega
  ·have hki : ¬ (K : Int) < (n : Int) := by omega
   go_wp2_with fail
   go_ret
   exact ⟨rfl, HE.out⟩
set_option maxHeartbeats 1000000 in
theorem viewsame_yes (P : PageP) (d d' : Nat) (a a' : Option Addr) (c c' : Nat) (rows rows' : List (List Value)) (gcs qcs : List Value) (w : World) (h : OKids w d P.obs a rows) (k : OKids w d' P.obs a' rows') (hg : Lies w d P.given gcs) (kg : Lies w d' P.given qcs)
 (hl : P.obs.length ≤ 1000000) (hsz : ∀ o ∈ P.obs, o.v.size ≤ 100000) (hgz : P.given.size ≤ 100000) :
 Calls Tryz.prog 18 #[.agg (Value.slice a P.obs.length c :: gcs).toArray, .agg (Value.slice a' P.obs.length c' :: qcs).toArray] w (BoolTo true w) := by
 have HEq := qh (fun W (hP : Pure w W) => equal_yes P.obs d d' a a' c c' rows rows' W (h.pure hP) (k.pure hP) hl hsz)
 have HSm := qh (fun W (hP : Pure w W) => vsame_yes P.given d d' gcs qcs W (hg.pure hP) (kg.pure hP) hgz)
 obtain ⟨k1, n1, s1, a1, m1, c1, rfl⟩ := hg.form
 obtain ⟨k2, n2, s2, a2, m2, c2, rfl⟩ := kg.form
 generalize P.obs.length = n at *
 clear h k hg kg hl hsz hgz
 go_enter Tryz.func18, Tryz.ntmps18
 obtain ⟨w2, hw2⟩ : ∃ z, z = (w.alloc (.cells #[.slice a n c, .int .i64 k1, .int .i64 n1, .string s1, .slice a1 m1 c1] 50)).alloc (.cells #[.slice a' n c', .int .i64 k2, .int .i64 n2, .string s2, .slice a2 m2 c2] 50) := ⟨_, rfl⟩
 have HW2 : Hid ((w.alloc (.cells #[.slice a n c, .int .i64 k1, .int .i64 n1, .string s1, .slice a1 m1 c1] 50)).alloc (.cells #[.slice a' n c', .int .i64 k2, .int .i64 n2, .string s2, .slice a2 m2 c2] 50) = w2) := qh hw2.symm
 have HP2 : Hid (Pure w w2) := qh (by rw [hw2]; exact (ext_alloc w _).pure (ext_alloc _ _))
 obtain ⟨tb, htb⟩ : ∃ z, z = w.heap.size := ⟨_, rfl⟩
 have HTb := qh htb
 have HB1 : Hid (BlockIs w2 tb [.slice a n c, .int .i64 k1, .int .i64 n1, .string s1, .slice a1 m1 c1] 50) := qh (by rw [hw2, htb]; exact (BlockIs.new w _ _).alloc _)
 have HB2 : Hid (BlockIs w2 (tb + 1) [.slice a' n c', .int .i64 k2, .int .i64 n2, .string s2, .slice a2 m2 c2] 50) := qh (by rw [hw2, htb]; exact blk_alloc w _ _ _)
 clear hw2 htb
 go_upto_region 1 with (fail)
 rw [HW2.out, ← HTb.out]
 have x0 : w2.cell? ⟨tb, 0, none⟩ = some (.slice a n c) := HB1.out.cell 0
 have y0 : w2.cell? ⟨tb + 1, 0, none⟩ = some (.slice a' n c') := HB2.out.cell 0
 go_wp2_with fail
 refine (HEq.out w2 HP2.out).mono ?_
 rintro e w3 ⟨rfl, hP3⟩
 have hB1 := HB1.out.ext hP3 id
 have hB2 := HB2.out.ext hP3 id
 have HP3 := qh (HP2.out.pure hP3)
 have x1 : w3.cell? ⟨tb, 1, none⟩ = some (.int .i64 k1) := hB1.cell 1
 have x2 : w3.cell? ⟨tb, 2, none⟩ = some (.int .i64 n1) := hB1.cell 2
 have x3 : w3.cell? ⟨tb, 3, none⟩ = some (.string s1) := hB1.cell 3
 have x4 : w3.cell? ⟨tb, 4, none⟩ = some (.slice a1 m1 c1) := hB1.cell 4
 have y1 : w3.cell? ⟨tb + 1, 1, none⟩ = some (.int .i64 k2) := hB2.cell 1
 have y2 : w3.cell? ⟨tb + 1, 2, none⟩ = some (.int .i64 n2) := hB2.cell 2
 have y3 : w3.cell? ⟨tb + 1, 3, none⟩ = some (.string s2) := hB2.cell 3
 have y4 : w3.cell? ⟨tb + 1, 4, none⟩ = some (.slice a2 m2 c2) := hB2.cell 4
 have hl1 := hB1.lt
 have hl2 := hB2.lt
 clear hP3 hB1 hB2 x0 y0
 go_wp2_with fail
 refine (HSm.out w3 HP3.out).mono ?_
 rintro e w4 ⟨rfl, hP4⟩
 go_wp2_with fail
 go_ret
 exact ⟨rfl, HP3.out.pure hP4⟩
