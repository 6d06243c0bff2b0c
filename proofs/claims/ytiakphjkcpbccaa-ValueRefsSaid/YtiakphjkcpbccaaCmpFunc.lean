/-
  Walked: slices.CompareFunc over values, handed the program's Compare.
-/
import Derived.Test.YtiakphjkcpbccaaRefCmp
namespace Go.Proofs.Ytiakphjkcpbccaa
open Go.RowKit
set_option linter.unusedVariables false

set_option maxHeartbeats 2000000 in
set_option maxRecDepth 100000 in
theorem cmpfunc_any (d d' : Nat) (l l' : List V) (a a' : Option Addr) (c c' : Nat) (rows rows' : List (List Value)) (w : World) (hK : Kids w d l a rows) (hK' : Kids w d' l' a' rows') (hcm : c ≤ maxLen) (hcm' : c' ≤ maxLen) (hlc : l.length ≤ c) (hlc' : l'.length ≤ c') (hszl : sizeL l ≤ 100000) (hszl' : sizeL l' ≤ 100000)
    (HI : Hid (∀ (u1 : V) (r : List Value) (u2 : V) (r' : List Value) (W : World), Lies W d u1 r → Lies W d' u2 r' → u1.size ≤ 100000 → u2.size ≤ 100000 → Calls Try.prog 33 #[.agg r.toArray, .agg r'.toArray] W (IntTo (u1.cmp u2) W))) :
    Calls Try.prog 53 #[.slice a l.length c, .slice a' l'.length c', .func (.func 33) #[] #[]] w (IntTo (cmpL l l') w) := by
  have hn1 : l.length ≤ 100000 := Nat.le_trans (length_sizeL _) hszl
  have hn1' : l'.length ≤ 100000 := Nat.le_trans (length_sizeL _) hszl'
  obtain ⟨n, hn⟩ : ∃ n, n = l.length := ⟨_, rfl⟩
  obtain ⟨n', hn'⟩ : ∃ n', n' = l'.length := ⟨_, rfl⟩
  rw [← hn] at hlc hn1 ⊢
  rw [← hn'] at hlc' hn1' ⊢
  obtain ⟨R, hR⟩ : ∃ R, R = cmpL l l' := ⟨_, rfl⟩
  rw [← hR]
  have HN := Lib.hid hn
  have HN' := Lib.hid hn'
  have HB := Lib.hid hR
  have HSz := Lib.hid hszl
  have HSz' := Lib.hid hszl'
  unfold maxLen at hcm hcm'
  clear hn hn' hR hszl hszl'
  go_enter Try.func53, Try.ntmps53
  go_wp2_with fail
  go_loopw [7, 8, 9, 10, 13] (fun _ _ _ _ i W => ∃ k : Nat, k ≤ n ∧ k ≤ n' ∧ i = .int .i64 k ∧ cmpL l l' = cmpL (l.drop k) (l'.drop k) ∧ Pure w W) (fun _ _ _ _ i _ => n - (intOf i).toNat)
  case atStart => exact ⟨0, Nat.zero_le _, Nat.zero_le _, rfl, rfl, Ext.refl _ _⟩
  case round =>
    obtain ⟨k, hk, hk', rfl, hceq, hE⟩ := hrel
    have HQ := Lib.hid hceq
    clear hceq
    by_cases h1 : k < n
    · have hki : (k : Int) < (n : Int) := by omega
      obtain ⟨u1, hu⟩ : ∃ u, l[k]? = some u := ⟨_, List.getElem?_eq_getElem (by rw [← HN.out]; exact h1)⟩
      obtain ⟨b, o, r, rfl, hr, hr4, hL⟩ := (hK.pure hE).at k u1 hu
      have hus : u1.size ≤ 100000 := Nat.le_trans (size_mem (List.mem_of_getElem? hu)) HSz.out
      obtain ⟨hth, hB3, hP3⟩ := put_new (W := wr) _ rfl hL
      have hone := hL.one
      obtain ⟨w3, hw3⟩ : ∃ z, z = (wr.alloc (.cells zeroCs.toArray 24)).setCells wr.heap.size 0 r := ⟨_, rfl⟩
      rw [← hw3] at hB3 hP3
      have HW3 := Lib.hid hw3
      have HOne := Lib.hid hone
      have hsr : r.toArray.size = 4 := by rw [List.size_toArray]; exact hr4
      have HTh := Lib.hid (show (wr.alloc (.cells #[.int .i64 0, .int .i64 0, .string ⟨#[]⟩, .slice none 0 0] 24)).there wr.heap.size 0 r.toArray.size by rw [hsr]; exact hth)
      have HSi : Hid ((Try.prog.info? 24).map (·.size) = some r.toArray.size) := Lib.hid (by rw [hsr]; kernel_rfl)
      have HR4 := Lib.hid hr4
      clear hw3 hone hth hr4 hsr
      by_cases h2 : k < n'
      · have hki' : ¬ (n' : Int) ≤ (k : Int) := by omega
        have hki2 : (k : Int) < (n' : Int) := by omega
        obtain ⟨u2, hu'⟩ : ∃ u, l'[k]? = some u := ⟨_, List.getElem?_eq_getElem (by rw [← HN'.out]; exact h2)⟩
        obtain ⟨b', o', r', rfl, hr', hr4', hL'⟩ := ((hK'.pure hE).pure hP3).at k u2 hu'
        have hus' : u2.size ≤ 100000 := Nat.le_trans (size_mem (List.mem_of_getElem? hu')) HSz'.out
        have hself := cmpL_self l k u1 u2 l' hu hu'
        obtain ⟨hth', hB5, hP5⟩ := put_new (W := w3) _ rfl hL'
        have hone' := hL'.one
        obtain ⟨w5, hw5⟩ : ∃ z, z = (w3.alloc (.cells zeroCs.toArray 24)).setCells w3.heap.size 0 r' := ⟨_, rfl⟩
        rw [← hw5] at hB5 hP5
        have HW5 := Lib.hid hw5
        have HOne' := Lib.hid hone'
        have hsr' : r'.toArray.size = 4 := by rw [List.size_toArray]; exact hr4'
        have HTh' := Lib.hid (show (w3.alloc (.cells #[.int .i64 0, .int .i64 0, .string ⟨#[]⟩, .slice none 0 0] 24)).there w3.heap.size 0 r'.toArray.size by rw [hsr']; exact hth')
        have HSi' : Hid ((Try.prog.info? 24).map (·.size) = some r'.toArray.size) := Lib.hid (by rw [hsr']; kernel_rfl)
        have HR4' := Lib.hid hr4'
        have hR3 := (hB3.ext hP5 id).range
        have hR5 := hB5.range
        have HC0 := HI.out u1 r u2 r' w5 ((hL.pure hP3).pure hP5) (hL'.pure hP5) hus hus'
        obtain ⟨z, hz⟩ : ∃ z, z = u1.cmp u2 := ⟨_, rfl⟩
        rw [← hz] at HC0 hself
        have HC := Lib.hid HC0
        have HSf := Lib.hid hself
        have HE5 := Lib.hid ((hE.pure hP3).pure hP5)
        have HE3 := Lib.hid (hE.pure hP3)
        clear hu hu' hus hus' hself hz hL hL' HI hK hK' hw5 hone' hth' hr4' hsr' HC0 hB3 hB5 hE hP3 hP5
        go_wp2_with (first
          | (refine wpList_load_mid rfl 24 (.tmp 16) rfl b (o + k * 4) rfl r _ hr Try.underlying24 rfl (by rw [HR4.out]; kernel_rfl) ?_)
          | (refine wpList_store_mid rfl 24 (.tmp 8) (.tmp 17) rfl wr.heap.size 0 r.toArray rfl rfl HTh.out HSi.out HOne.out ?_; rw [show (wr.alloc (.cells #[.int .i64 0, .int .i64 0, .string ⟨#[]⟩, .slice none 0 0] 24)).setCells wr.heap.size 0 r.toArray.toList = w3 from HW3.out.symm])
          | (refine wpList_load_mid rfl 24 (.tmp 24) rfl b' (o' + k * 4) rfl r' _ hr' Try.underlying24 rfl (by rw [HR4'.out]; kernel_rfl) ?_)
          | (refine wpList_store_mid rfl 24 (.tmp 9) (.tmp 25) rfl w3.heap.size 0 r'.toArray rfl rfl HTh'.out HSi'.out HOne'.out ?_; rw [show (w3.alloc (.cells #[.int .i64 0, .int .i64 0, .string ⟨#[]⟩, .slice none 0 0] 24)).setCells w3.heap.size 0 r'.toArray.toList = w5 from HW5.out.symm])
          | (refine wpList_load_mid rfl 24 (.tmp 8) rfl wr.heap.size 0 rfl r _ hR3 Try.underlying24 rfl (by rw [HR4.out]; kernel_rfl) ?_)
          | (refine wpList_load_mid rfl 24 (.tmp 9) rfl w3.heap.size 0 rfl r' _ hR5 Try.underlying24 rfl (by rw [HR4'.out]; kernel_rfl) ?_))
        refine HC.out.mono ?_
        rintro e w6 ⟨rfl, hP6⟩
        clear HC hR3 hR5 hr hr'
        by_cases hz0 : z = 0
        · subst hz0
          have HQ2 : Hid (cmpL l l' = cmpL (l.drop (k + 1)) (l'.drop (k + 1))) := Lib.hid (by rw [HQ.out, HSf.out, orI_zero])
          clear HQ HSf
          go_wp2_with fail
          go_roundw
          case rel => exact ⟨k + 1, by omega, by omega, by go_num, HQ2.out, HE5.out.pure hP6⟩
          case measure => simp [intOf]; omega
        · have HQ2 : Hid (R = z) := Lib.hid (by rw [HB.out, HQ.out, HSf.out, orI_ne _ hz0])
          clear HQ HSf HB
          go_wp2_with fail
          go_ret
          exact ⟨by rw [HQ2.out]; rfl, HE5.out.pure hP6⟩
      · have hki' : (n' : Int) ≤ (k : Int) := by omega
        have HB3 : Hid (R = 1) := Lib.hid (by
          rw [HB.out, HQ.out, cmpL_end l l' k (by rw [← HN.out]; exact hk) (by rw [← HN'.out]; exact hk') (by rw [← HN.out, ← HN'.out]; omega), if_neg (by rw [← HN.out, ← HN'.out]; omega), if_pos (by rw [← HN.out, ← HN'.out]; omega)])
        have HE3 := Lib.hid (hE.pure hP3)
        clear HI hK hK' HB HQ hu hus hL hE hP3 hB3
        go_wp2_with (first
          | (refine wpList_load_mid rfl 24 (.tmp 16) rfl b (o + k * 4) rfl r _ hr Try.underlying24 rfl (by rw [HR4.out]; kernel_rfl) ?_)
          | (refine wpList_store_mid rfl 24 (.tmp 8) (.tmp 17) rfl wr.heap.size 0 r.toArray rfl rfl HTh.out HSi.out HOne.out ?_; rw [show (wr.alloc (.cells #[.int .i64 0, .int .i64 0, .string ⟨#[]⟩, .slice none 0 0] 24)).setCells wr.heap.size 0 r.toArray.toList = w3 from HW3.out.symm]))
        go_ret
        exact ⟨by rw [HB3.out]; rfl, HE3.out⟩
    · have hki : ¬ (k : Int) < (n : Int) := by omega
      have HB2 : Hid (R = if n < n' then -1 else if n' < n then 1 else 0) := Lib.hid (by
        rw [HB.out, HQ.out, cmpL_end l l' k (by rw [← HN.out]; exact hk) (by rw [← HN'.out]; exact hk') (by rw [← HN.out, ← HN'.out]; omega), ← HN.out, ← HN'.out])
      clear HB HQ HI hK hK'
      by_cases h3 : n < n'
      · have hq1 : (n : Int) < (n' : Int) := by omega
        have HB3 : Hid (R = -1) := Lib.hid (by rw [HB2.out, if_pos (by omega)])
        go_wp2_with fail
        go_ret
        exact ⟨by rw [HB3.out]; rfl, hE⟩
      · have hq1 : ¬ (n : Int) < (n' : Int) := by omega
        have HB3 : Hid (R = 0) := Lib.hid (by rw [HB2.out, if_neg (by omega), if_neg (by omega)])
        go_wp2_with fail
        go_ret
        exact ⟨by rw [HB3.out]; rfl, hE⟩
end Go.Proofs.Ytiakphjkcpbccaa
