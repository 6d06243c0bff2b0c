/-
  Walked: the program's find and the reference's Find.
-/
import Derived.Test.YtnibjjpohhknkaaFit
import Derived.Test.YtnibjjpohhknkaaDict
namespace Go.Proofs.Ytnibjjpohhknkaa
open Go.RowKit
set_option linter.unusedVariables false
set_option linter.unusedSimpArgs false

/-- a place as a number; below 0: none -/
def optI : Option Nat → Int
  | some i => i
  | none => -1
theorem placeAt_zero (p : V → Bool) (l : List V) : placeAt p l 0 = nextP p l := by
  rw [placeAt, List.drop_zero]; cases nextP p l <;> rfl
set_option maxHeartbeats 1000000 in
set_option maxRecDepth 100000 in
theorem find_any (d : Nat) (v : V) (cs : List Value) (key : ByteArray) (w : World) (h : Lies w (d + 1) v cs) (hl : v.l.length ≤ 1000000) :
    Calls Try.prog 54 #[.agg cs.toArray, .string key] w (IntTo (optI (v.find key)) w) := by
  obtain ⟨a, c, rows, rfl, hlc, hcm, hnil, hK, hs⟩ := h.kids
  obtain ⟨E, hE⟩ : ∃ E, E = optI (v.find key) := ⟨_, rfl⟩
  rw [← hE]
  unfold V.find at hE
  obtain ⟨l, hll⟩ : ∃ l, l = v.l := ⟨_, rfl⟩
  rw [← hll] at hE hl hK ⊢
  generalize v.kind = k0 at *
  generalize v.n = n0 at *
  generalize v.s = s0 at *
  obtain ⟨n, hn⟩ : ∃ n, n = l.length := ⟨_, rfl⟩
  rw [← hn] at hl ⊢
  obtain ⟨w1, hw1⟩ : ∃ w1, w1 = w.alloc (.cells #[.int .i64 k0, .int .i64 n0, .string s0, .slice a n c] 24) := ⟨_, rfl⟩
  have hBx : BlockIs w1 w.heap.size [.int .i64 k0, .int .i64 n0, .string s0, .slice a n c] 24 := hw1 ▸ BlockIs.new w _ _
  have hP1 : Pure w w1 := hw1 ▸ ext_alloc w _
  have hK1 := hK.pure hP1
  obtain ⟨tb, htb⟩ : ∃ tb, tb = w.heap.size := ⟨_, rfl⟩
  rw [← htb] at hBx
  have HE := Lib.hid hE
  have HN := Lib.hid hn
  have HW1 := Lib.hid hw1
  have HTb := Lib.hid htb
  have HP1 := Lib.hid hP1
  have c0 : w1.cell? ⟨tb, 0, none⟩ = some (.int .i64 k0) := hBx.cell 0
  have c3 : w1.cell? ⟨tb, 3, none⟩ = some (.slice a n c) := hBx.cell 3
  clear hE hn hw1 htb hK h hll hBx hP1 hs
  by_cases h7 : k0 = 7
  · subst h7
    have HE1 : Hid (E = optI (nextP (hit key) l)) := Lib.hid (by rw [HE.out, if_pos rfl])
    clear HE
    go_enter Try.func54, Try.ntmps54
    go_wp2_with fail
    rw [← HW1.out, ← HTb.out]
    go_loop [5] (fun i => ∃ k : Nat, k ≤ n + 1 ∧ i = .int .i64 k ∧ Hid (E = optI (placeAt (hit key) l k))) (fun i => n + 1 - (intOf i).toNat)
    case atStart => exact ⟨0, by omega, rfl, Lib.hid (by rw [HE1.out, placeAt_zero])⟩
    case round =>
      obtain ⟨k, hk, rfl, HA⟩ := hrel
      by_cases hlt : k < n
      · have hki : (k : Int) < (n : Int) := by omega
        obtain ⟨u, hu⟩ : ∃ u, l[k]? = some u := ⟨_, List.getElem?_eq_getElem (by rw [← HN.out]; exact hlt)⟩
        obtain ⟨b, o, a', c', rfl, e0, e1, e2, e3⟩ := hK1.cells k u hu
        obtain ⟨H, hH⟩ : ∃ H, H = hit key u := ⟨_, rfl⟩
        have hyes : H = true → E = k := fun e => by rw [HA.out, placeAt_hit hu (hH.symm.trans e)]; rfl
        have hno : H = false → E = optI (placeAt (hit key) l (k + 2)) := fun e => by rw [HA.out, placeAt_miss hu (hH.symm.trans e)]
        unfold hit at hH
        generalize u.kind = kk at *
        generalize u.s = ss at *
        clear hu
        by_cases h5 : kk = 5
        · subst h5
          obtain ⟨Q, hQ⟩ : ∃ Q, Q = (ss.toList == key.toList) := ⟨_, rfl⟩
          have hHQ : H = Q := by rw [hH, hQ]; rfl
          have hQ' : (ss.toList == key.toList) = Q := hQ.symm
          subst hHQ
          have HY := Lib.hid hyes
          have HNo := Lib.hid hno
          clear hH hQ hyes hno
          cases H with
          | true =>
            have HB := Lib.hid (HY.out rfl)
            clear HY HNo HA
            go_wp2_with fail
            go_ret
            exact ⟨by rw [HB.out]; rfl, HP1.out⟩
          | false =>
            have HB := Lib.hid (HNo.out rfl)
            clear HY HNo HA
            go_wp2_with fail
            go_round
            case rel => exact ⟨k + 2, by omega, by go_num, HB⟩
            case measure => simp [intOf]; omega
        · have HB : Hid (E = optI (placeAt (hit key) l (k + 2))) := Lib.hid (hno (by rw [hH]; simp [h5]))
          have h5' : (kk == 5) = false := by simpa using h5
          clear hH hyes hno HA h5
          go_wp2_with fail
          go_round
          case rel => exact ⟨k + 2, by omega, by go_num, HB⟩
          case measure => simp [intOf]; omega
      · have hki : ¬ (k : Int) < (n : Int) := by omega
        have HB : Hid (E = -1) := Lib.hid (by rw [HA.out, placeAt_end (by rw [← HN.out]; omega)]; rfl)
        go_wp2_with fail
        go_ret
        exact ⟨by rw [HB.out]; rfl, HP1.out⟩
  · have HB : Hid (E = -1) := Lib.hid (by rw [HE.out, if_neg h7]; rfl)
    have h7' : (k0 != 7) = true := by simpa using h7
    have h7'' : (k0 == 7) = false := by simpa using h7
    clear h7 HE
    go_enter Try.func54, Try.ntmps54
    go_wp2_with fail
    skip
    go_ret
    exact ⟨by rw [HB.out]; rfl, by rw [← HW1.out]; exact HP1.out⟩
set_option maxHeartbeats 1000000 in
set_option maxRecDepth 100000 in
theorem reffind_any (d : Nat) (v : V) (cs : List Value) (key : ByteArray) (w : World) (h : Lies w (d + 1) v cs) (hl : v.l.length ≤ 1000000) :
    Calls Try.prog 57 #[.agg cs.toArray, .string key] w (IntTo (optI (v.find key)) w) := by
  obtain ⟨a, c, rows, rfl, hlc, hcm, hnil, hK, hs⟩ := h.kids
  obtain ⟨E, hE⟩ : ∃ E, E = optI (v.find key) := ⟨_, rfl⟩
  rw [← hE]
  unfold V.find at hE
  obtain ⟨l, hll⟩ : ∃ l, l = v.l := ⟨_, rfl⟩
  rw [← hll] at hE hl hK ⊢
  generalize v.kind = k0 at *
  generalize v.n = n0 at *
  generalize v.s = s0 at *
  obtain ⟨n, hn⟩ : ∃ n, n = l.length := ⟨_, rfl⟩
  rw [← hn] at hl ⊢
  obtain ⟨w1, hw1⟩ : ∃ w1, w1 = w.alloc (.cells #[.int .i64 k0, .int .i64 n0, .string s0, .slice a n c] 24) := ⟨_, rfl⟩
  have hBx : BlockIs w1 w.heap.size [.int .i64 k0, .int .i64 n0, .string s0, .slice a n c] 24 := hw1 ▸ BlockIs.new w _ _
  have hP1 : Pure w w1 := hw1 ▸ ext_alloc w _
  have hK1 := hK.pure hP1
  obtain ⟨tb, htb⟩ : ∃ tb, tb = w.heap.size := ⟨_, rfl⟩
  rw [← htb] at hBx
  have HE := Lib.hid hE
  have HN := Lib.hid hn
  have HW1 := Lib.hid hw1
  have HTb := Lib.hid htb
  have HP1 := Lib.hid hP1
  have c0 : w1.cell? ⟨tb, 0, none⟩ = some (.int .i64 k0) := hBx.cell 0
  have c3 : w1.cell? ⟨tb, 3, none⟩ = some (.slice a n c) := hBx.cell 3
  clear hE hn hw1 htb hK h hll hBx hP1 hs
  by_cases h7 : k0 = 7
  · subst h7
    have HE1 : Hid (E = optI (nextP (hit key) l)) := Lib.hid (by rw [HE.out, if_pos rfl])
    clear HE
    go_enter Try.func57, Try.ntmps57
    go_wp2_with fail
    rw [← HW1.out, ← HTb.out]
    go_loop [5] (fun i => ∃ k : Nat, k ≤ n + 1 ∧ i = .int .i64 k ∧ Hid (E = optI (placeAt (hit key) l k))) (fun i => n + 1 - (intOf i).toNat)
    case atStart => exact ⟨0, by omega, rfl, Lib.hid (by rw [HE1.out, placeAt_zero])⟩
    case round =>
      obtain ⟨k, hk, rfl, HA⟩ := hrel
      by_cases hlt : k < n
      · have hki : (k : Int) < (n : Int) := by omega
        obtain ⟨u, hu⟩ : ∃ u, l[k]? = some u := ⟨_, List.getElem?_eq_getElem (by rw [← HN.out]; exact hlt)⟩
        obtain ⟨b, o, a', c', rfl, e0, e1, e2, e3⟩ := hK1.cells k u hu
        obtain ⟨H, hH⟩ : ∃ H, H = hit key u := ⟨_, rfl⟩
        have hyes : H = true → E = k := fun e => by rw [HA.out, placeAt_hit hu (hH.symm.trans e)]; rfl
        have hno : H = false → E = optI (placeAt (hit key) l (k + 2)) := fun e => by rw [HA.out, placeAt_miss hu (hH.symm.trans e)]
        unfold hit at hH
        generalize u.kind = kk at *
        generalize u.s = ss at *
        clear hu
        by_cases h5 : kk = 5
        · subst h5
          obtain ⟨Q, hQ⟩ : ∃ Q, Q = (ss.toList == key.toList) := ⟨_, rfl⟩
          have hHQ : H = Q := by rw [hH, hQ]; rfl
          have hQ' : (ss.toList == key.toList) = Q := hQ.symm
          subst hHQ
          have HY := Lib.hid hyes
          have HNo := Lib.hid hno
          clear hH hQ hyes hno
          cases H with
          | true =>
            have HB := Lib.hid (HY.out rfl)
            clear HY HNo HA
            go_wp2_with fail
            go_ret
            exact ⟨by rw [HB.out]; rfl, HP1.out⟩
          | false =>
            have HB := Lib.hid (HNo.out rfl)
            clear HY HNo HA
            go_wp2_with fail
            go_round
            case rel => exact ⟨k + 2, by omega, by go_num, HB⟩
            case measure => simp [intOf]; omega
        · have HB : Hid (E = optI (placeAt (hit key) l (k + 2))) := Lib.hid (hno (by rw [hH]; simp [h5]))
          have h5' : (kk == 5) = false := by simpa using h5
          clear hH hyes hno HA h5
          go_wp2_with fail
          go_round
          case rel => exact ⟨k + 2, by omega, by go_num, HB⟩
          case measure => simp [intOf]; omega
      · have hki : ¬ (k : Int) < (n : Int) := by omega
        have HB : Hid (E = -1) := Lib.hid (by rw [HA.out, placeAt_end (by rw [← HN.out]; omega)]; rfl)
        go_wp2_with fail
        go_ret
        exact ⟨by rw [HB.out]; rfl, HP1.out⟩
  · have HB : Hid (E = -1) := Lib.hid (by rw [HE.out, if_neg h7]; rfl)
    have h7' : (k0 != 7) = true := by simpa using h7
    have h7'' : (k0 == 7) = false := by simpa using h7
    clear h7 HE
    go_enter Try.func57, Try.ntmps57
    go_wp2_with fail
    (refine wp_loop_rounds 1 ?_; rw [rounds_succ]; go_wp2_with fail)
    go_ret
    exact ⟨by rw [HB.out]; rfl, by rw [← HW1.out]; exact HP1.out⟩
end Go.Proofs.Ytnibjjpohhknkaa
