/-
  Walked: slices.Grow of none, slices.Concat.
-/
import Derived.Test.YtkkmppalifjgnaaRefsR
import Derived.Test.YtkkmppalifjgnaaSlx
namespace Go.Proofs.Ytkkmppalifjgnaa
open Go.RowKit
set_option linter.unusedVariables false
set_option linter.unusedSimpArgs false

/-- an empty row of the call's own -/
def NoneTo (w : World) (e : Ending) (w' : World) : Prop := ∃ a c, e = .returned (.slice a 0 c) ∧ w'.ownsRow w.heap.size 3 1 (.slice a 0 c) 0 [] ∧ Pure w w'
set_option maxHeartbeats 1000000 in
set_option maxRecDepth 100000 in
theorem grow_any (m : Nat) (w : World) (hm : m ≤ 1000000) : Calls Try.prog 52 #[.slice none 0 0, .int .i64 m] w (NoneTo w) := by
  have hm0 : ¬ (m : Int) < 0 := by omega
  by_cases h0 : m = 0
  · subst h0
    go_enter Try.func52, Try.ntmps52
    go_wp2_with fail
    go_ret
    exact ⟨none, 0, rfl, World.ownsRow_nil _ _ _ _, Ext.refl _ _⟩
  · have hm1 : (0 : Int) < (m : Int) := by omega
    have hm2 : 0 < m := by omega
    have HH : Hid (m ≤ 1000000) := Lib.hid hm
    clear h0
    go_enter Try.func52, Try.ntmps52
    go_wp2_with (at_builtin; refine wpList_append_make rfl (.tmp 20) (.tmp 21) 25 3 rfl 3 Try.underlying25 Try.underlying3 (.int .i64 0) 1 8 infoI rfl (by decide) none 0 0 m [] rfl rfl rfl (fun h => by simp at h) (fun _ => rfl) hm2 (by omega) (by omega) (by unfold maxLen; omega) ?_; intro w2 G r2 hB2 hl2 hG hG2 hP2)
    go_ret
    refine ⟨some ⟨w.heap.size, 0, none⟩, G, by simp, ⟨rfl, Or.inr ⟨w.heap.size, G, r2.toArray, rfl, Nat.le_refl _, ?_, Nat.zero_le _, hG2, ?_, rfl⟩⟩, hP2⟩
    · have h := hB2
      unfold BlockIs at h
      simpa using h
    · simp only [List.length_nil, Nat.add_zero] at hl2
      simpa using hl2
/-- one of the rows -/
structure CRow where
  a : Option Addr
  c : Nat
  l : List Int
def CRow.v (q : CRow) : Value := .slice q.a q.l.length q.c
def catR (rs : List CRow) : List Int := rs.flatMap (·.l)
theorem catR_take {rs : List CRow} {k : Nat} {q : CRow} (h : rs[k]? = some q) : catR (rs.take (k + 1)) = catR (rs.take k) ++ q.l := by
  obtain ⟨hk, rfl⟩ := List.getElem?_eq_some_iff.1 h
  rw [List.take_succ_eq_append_getElem hk, catR, List.flatMap_append]
  simp [catR]
theorem catR_le (rs : List CRow) (k : Nat) : (catR (rs.take k)).length ≤ (catR rs).length := by
  have h := congrArg catR (List.take_append_drop k rs)
  rw [catR, List.flatMap_append] at h
  rw [← h, List.length_append]
  exact Nat.le_add_right _ _
set_option maxHeartbeats 2000000 in
set_option maxRecDepth 100000 in
theorem concat_any (rs : List CRow) (ad : Option Addr) (cp : Nat) (w : World) (hr : RowOf w ad (rs.map CRow.v)) (hq : ∀ q ∈ rs, RowOf w q.a (intsV q.l) ∧ (q.a = none → q.c = 0) ∧ q.l.length ≤ q.c) (hl : (catR rs).length ≤ 1000000) (hn : rs.length ≤ 1000000) :
    Calls Try.prog 23 #[.slice ad rs.length cp] w (NumsTo (catR rs) w) := by
  have HR := Lib.hid hr
  have HQ := Lib.hid hq
  have HL := Lib.hid hl
  obtain ⟨n, hN⟩ : ∃ z, z = rs.length := ⟨_, rfl⟩
  rw [← hN] at hn ⊢
  have HN := Lib.hid hN
  clear hr hq hl hN
  go_enter Try.func23, Try.ntmps23
  go_wp2_with fail
  go_loopw [3, 11] (fun s i W => ∃ k : Nat, k ≤ n ∧ i = .int .i64 k ∧ s = .int .i64 ((catR (rs.take k)).length : Nat) ∧ W = w) (fun _ i _ => n - (intOf i).toNat)
  case atStart => exact ⟨0, Nat.zero_le _, rfl, rfl, rfl⟩
  case round =>
    obtain ⟨k, hk, rfl, rfl, rfl⟩ := hrel
    obtain ⟨m, hm⟩ : ∃ z, z = (catR (rs.take k)).length := ⟨_, rfl⟩
    have hm2 : m ≤ 1000000 := by rw [hm]; exact Nat.le_trans (catR_le rs k) HL.out
    rw [← hm]
    have HM := Lib.hid hm
    clear hm
    by_cases hlt : k < n
    · have hki : (k : Int) < (n : Int) := by omega
      obtain ⟨q, hqk⟩ : ∃ u, rs[k]? = some u := ⟨_, List.getElem?_eq_getElem (by rw [← HN.out]; exact hlt)⟩
      obtain ⟨b, o, rfl, hc⟩ := HR.out k q.v (by rw [List.getElem?_map, hqk]; rfl)
      have hs := congrArg List.length (catR_take hqk)
      rw [List.length_append, ← HM.out] at hs
      have hs2 : m + q.l.length ≤ 1000000 := by rw [← hs]; exact Nat.le_trans (catR_le rs (k + 1)) HL.out
      have HS := Lib.hid hs
      unfold CRow.v at hc
      obtain ⟨ql, hql⟩ : ∃ z, z = q.l.length := ⟨_, rfl⟩
      rw [← hql] at hc HS hs2
      generalize q.a = qa at *
      generalize q.c = qc at *
      have hnn : ¬ (m : Int) + (ql : Int) < 0 := by omega
      clear hqk hs hql
      go_wp2_with fail
      go_roundw
      case rel => exact ⟨k + 1, by omega, by go_num, by rw [HS.out]; go_num, trivial⟩
      case measure => simp [intOf]; omega
    · have hki : ¬ (k : Int) < (n : Int) := by omega
      obtain ⟨wo, rfl⟩ : ∃ wo : World, wo = wr := ⟨_, rfl⟩
      go_wp2_with fail
      refine (grow_any m _ hm2).mono ?_
      rintro e w2 ⟨ga, gc, rfl, hO, hP⟩
      obtain ⟨B, hB⟩ : ∃ z, z = wo.heap.size := ⟨_, rfl⟩
      rw [← hB] at hO
      have HO := Lib.hid hO
      have HP := Lib.hid hP
      have HBe := Lib.hid hB
      clear hO hP hB
      go_wp2_with fail
      go_loopw [6, 27] (fun s i W => ∃ (k : Nat) (a : Option Addr) (c : Nat), k ≤ n ∧ i = .int .i64 k ∧ s = .slice a (catR (rs.take k)).length c ∧ Hid (W.ownsRow B 3 1 (.slice a (catR (rs.take k)).length c) (catR (rs.take k)).length (intsV (catR (rs.take k)))) ∧ Hid (Pure wo W)) (fun _ i _ => n - (intOf i).toNat)
      case atStart => exact ⟨0, ga, gc, Nat.zero_le _, rfl, rfl, HO, HP⟩
      case round =>
        obtain ⟨k, a, c, hk, rfl, rfl, HOk, HPk⟩ := hrel
        obtain ⟨m, hm⟩ : ∃ z, z = (catR (rs.take k)).length := ⟨_, rfl⟩
        have hm2 : m ≤ 1000000 := by rw [hm]; exact Nat.le_trans (catR_le rs k) HL.out
        rw [← hm] at HOk ⊢
        have HM := Lib.hid hm
        clear hm
        by_cases hlt : k < n
        · have hki : (k : Int) < (n : Int) := by omega
          obtain ⟨q, hqk⟩ : ∃ u, rs[k]? = some u := ⟨_, List.getElem?_eq_getElem (by rw [← HN.out]; exact hlt)⟩
          obtain ⟨hq1, hq2, hq3⟩ := HQ.out q (List.mem_of_getElem? hqk)
          obtain ⟨b, o, rfl, hc⟩ := (HR.out.ext HPk.out (fun _ _ => id)) k q.v (by rw [List.getElem?_map, hqk]; rfl)
          have hs0 := catR_take hqk
          have hs := congrArg List.length hs0
          rw [List.length_append, ← HM.out] at hs
          have hs2 : m + q.l.length ≤ 1000000 := by rw [← hs]; exact Nat.le_trans (catR_le rs (k + 1)) HL.out
          have hRw := hq1.ext HPk.out (fun _ _ => id)
          have HRw := Lib.hid hRw
          have HS := Lib.hid hs
          have HS0 := Lib.hid (by rw [hs0]; exact List.map_append : intsV (catR (rs.take (k + 1))) = intsV (catR (rs.take k)) ++ intsV q.l)
          unfold CRow.v at hc
          have HIl := Lib.hid (intsV_len q.l)
          have HOne : Hid (∀ u ∈ intsV q.l, u.oneCell' = true) := Lib.hid (fun u hu => by
            unfold intsV at hu
            obtain ⟨x, _, rfl⟩ := List.mem_map.1 hu
            rfl)
          have HNil : Hid (q.a = none → q.l.length = 0 ∧ q.c = 0) := Lib.hid (fun h => by have := hq2 h; omega)
          obtain ⟨ql, hql⟩ : ∃ z, z = q.l.length := ⟨_, rfl⟩
          rw [← hql] at hc HS hs2 HIl HNil
          generalize q.a = qa at *
          generalize q.c = qc at *
          generalize intsV q.l = xs at *
          have HIl2 : Hid (xs.length = ql * 1) := Lib.hid (by rw [HIl.out, Nat.mul_one])
          have HBs : Hid (B ≤ wr.heap.size) := Lib.hid (by rw [HBe.out]; exact HPk.out.size)
          clear hqk hs hql hs0 hq1 hq2 hq3 hRw
          go_wp2_with (at_builtin; refine wpList_append_any rfl (.tmp 31) (.tmp 32) 25 rfl B 3 (.int .i64 0) 1 8 Try.underlying25 infoI rfl (by decide) (.slice a m c) m (intsV (catR (rs.take k))) rfl HOk.out qa ql qc xs rfl HNil.out HIl2.out HRw.out HOne.out (m + ql) rfl (intsV (catR (rs.take k)) ++ xs) rfl (by omega) (by unfold maxLen; omega) HBs.out ?_; intro a3 c3 w3 hO3 hg3)
          go_roundw
          case rel =>
            refine ⟨k + 1, a3, c3, by omega, by go_num, by rw [HS.out], Lib.hid (by rw [HS.out, HS0.out]; exact hO3), Lib.hid (HPk.out.grown hg3 (fun i hi hlt => ?_))⟩
            have := (HOk.out.lt i hi).1
            rw [HBe.out] at this
            omega
          case measure => simp [intOf]; omega
        · have hki : ¬ (k : Int) < (n : Int) := by omega
          go_wp2_with fail
          go_ret
          have e : rs.take k = rs := List.take_of_length_le (by rw [← HN.out]; omega)
          have h1 := HOk.out
          have h2 := HM.out
          rw [e] at h1 h2
          exact nums_own h1 rfl h2.symm HPk.out
end Go.Proofs.Ytkkmppalifjgnaa
