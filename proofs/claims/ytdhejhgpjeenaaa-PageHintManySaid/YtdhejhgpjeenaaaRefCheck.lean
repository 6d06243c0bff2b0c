/-
  Walked: which hints may be: the reference's Check.
-/
import Derived.Test.YtdhejhgpjeenaaaCheck
namespace Go.Proofs.Ytdhejhgpjeenaaa
open Go.RowKit
set_option linter.unusedVariables false

theorem odd_at {p : PH} {j : Nat} (hj : j < p.sh.length) (h : p.sh[j] < 0 ∨ 4095 < p.sh[j]) : okP p = false :=
  okP_no (Or.inl (any_of_at odd p.sh j hj (by unfold odd; rw [inB_false.2 h]; rfl)))
theorem odd_none {x : Int} (h : ¬ x < 0) (h' : ¬ 4095 < x) : odd x = false := by unfold odd; rw [inB_true.2 ⟨by omega, by omega⟩]; rfl
set_option maxHeartbeats 2000000 in
set_option maxRecDepth 100000 in
theorem refcheck_any (a : Int) (ad : Option Addr) (c : Nat) (ps : List PH) (w : World) (h : Hints w ad ps) (hm : Mod ps) :
    Calls Try.prog 16 #[.int .i64 a, .slice ad ps.length c] w (IntRes (chk a ps) w) := by
  have hps := hm.pages
  obtain ⟨B, hB⟩ : ∃ B, B = chk a ps := ⟨_, rfl⟩
  rw [← hB]
  by_cases a0 : a < 0
  · have HB : Hid (B = 2) := Lib.hid (by rw [hB, chk_head (Or.inl (inB_false.2 (Or.inl a0)))])
    clear hB h
    go_enter Try.func16, Try.ntmps16
    go_wp2_with fail
    go_ret
    exact ⟨by rw [HB.out]; rfl, Ext.refl _ _⟩
  · by_cases a1 : 2147483647 < a
    · have HB : Hid (B = 2) := Lib.hid (by rw [hB, chk_head (Or.inl (inB_false.2 (Or.inr a1)))])
      clear hB h
      go_enter Try.func16, Try.ntmps16
      go_wp2_with fail
      go_ret
      exact ⟨by rw [HB.out]; rfl, Ext.refl _ _⟩
    · by_cases n0 : (ps.length : Int) < 1
      · have HB : Hid (B = 2) := Lib.hid (by rw [hB, chk_head (Or.inr (inB_false.2 (Or.inl n0)))])
        clear hB h
        go_enter Try.func16, Try.ntmps16
        go_wp2_with fail
        go_ret
        exact ⟨by rw [HB.out]; rfl, Ext.refl _ _⟩
      · have HB := Lib.hid hB
        have HAt : Hid (inB a 0 2147483647 = true) := Lib.hid (inB_true.2 ⟨by omega, by omega⟩)
        have HNt : Hid (inB (ps.length : Int) 1 2048 = true) := Lib.hid (inB_true.2 ⟨by omega, by omega⟩)
        have HM := Lib.hid hm
        have n1 : ¬ (2048 : Int) < (ps.length : Int) := by omega
        have g1 : decide (a < 0) = false := decide_eq_false a0
        have g2 : decide ((2147483647 : Int) < a) = false := decide_eq_false a1
        have g3 : decide ((ps.length : Int) < 1) = false := decide_eq_false n0
        have g4 : decide ((2048 : Int) < (ps.length : Int)) = false := decide_eq_false n1
        clear hB hm
        go_enter Try.func16, Try.ntmps16
        go_wp2_with fail
        clear g1 g2 g3 g4
        go_loopw [5, 6, 7] (fun m i _ W => ∃ (k t : Nat), k ≤ ps.length ∧ i = .int .i64 k ∧ m = .int .i64 t ∧ Hid (t = min (totS (ps.take k)) 65537) ∧ t ≤ 65537 ∧ Hid (∀ p ∈ ps.take k, okP p = true) ∧ Pure w W) (fun _ i _ _ => ps.length - (intOf i).toNat)
        case atStart => exact ⟨0, 0, Nat.zero_le _, rfl, rfl, Lib.hid (by simp [totS]), by omega, Lib.hid (by simp), Ext.refl _ _⟩
        case round =>
          obtain ⟨k, t, hk, rfl, rfl, HT, ht, HO, hP⟩ := hrel
          by_cases hlt : k < ps.length
          · have hki : (k : Int) < (ps.length : Int) := by omega
            obtain ⟨b, o, had, p0, p1, p2⟩ := (h.pure hP).at k hlt
            have hsub := (h.sub _ (List.getElem_mem hlt)).ext hP (fun _ _ => id)
            have hnum := HM.out.numbers _ (List.getElem_mem hlt)
            have hfit := (h.fit _ (List.getElem_mem hlt)).1
            have HTS := Lib.hid (totS_take_succ hlt)
            have HBad := Lib.hid (fun e => chk_bad (a := a) hlt e)
            have HAll := Lib.hid (fun e => all_take_succ (P := fun p : PH => okP p = true) hlt HO.out e)
            obtain ⟨p, hpp⟩ : ∃ p, p = ps[k] := ⟨_, rfl⟩
            rw [← hpp] at p0 p1 p2 hsub hnum HTS HBad HAll hfit
            obtain ⟨po, pl, sa, sc, sh, rfl⟩ : ∃ po pl sa sc sh, p = ⟨po, pl, sa, sc, sh⟩ := ⟨p.o, p.l, p.sa, p.sc, p.sh, rfl⟩
            simp only at p0 p1 p2 hnum hsub HTS hfit
            obtain ⟨n, hn⟩ : ∃ n, n = sh.length := ⟨_, rfl⟩
            have HN := Lib.hid hn
            rw [← hn] at p2 hnum hfit
            have HSub := Lib.hid hsub
            subst had
            clear hpp hsub hn
            by_cases o0 : po < 1
            · have HF : Hid (chk a ps = 2) := Lib.hid (HBad.out (okP_no (Or.inr (Or.inl (inB_false.2 (Or.inl o0))))))
              go_wp2_with fail
              go_ret
              exact ⟨by rw [HB.out, HF.out]; rfl, hP⟩
            · by_cases o1 : 4096 < po
              · have HF : Hid (chk a ps = 2) := Lib.hid (HBad.out (okP_no (Or.inr (Or.inl (inB_false.2 (Or.inr o1))))))
                go_wp2_with fail
                go_ret
                exact ⟨by rw [HB.out, HF.out]; rfl, hP⟩
              · by_cases l0 : pl < 1
                · have HF : Hid (chk a ps = 2) := Lib.hid (HBad.out (okP_no (Or.inr (Or.inr (inB_false.2 (Or.inl l0))))))
                  go_wp2_with fail
                  go_ret
                  exact ⟨by rw [HB.out, HF.out]; rfl, hP⟩
                · by_cases l1 : 2147483647 < pl
                  · have HF : Hid (chk a ps = 2) := Lib.hid (HBad.out (okP_no (Or.inr (Or.inr (inB_false.2 (Or.inr l1))))))
                    go_wp2_with fail
                    go_ret
                    exact ⟨by rw [HB.out, HF.out]; rfl, hP⟩
                  · have HW1 : Hid (inB po 1 4096 = true) := Lib.hid (inB_true.2 ⟨by omega, by omega⟩)
                    have HW2 : Hid (inB pl 1 2147483647 = true) := Lib.hid (inB_true.2 ⟨by omega, by omega⟩)
                    have g1 : decide (po < 1) = false := decide_eq_false o0
                    have g2 : decide ((4096 : Int) < po) = false := decide_eq_false o1
                    have g3 : decide (pl < 1) = false := decide_eq_false l0
                    have g4 : decide ((2147483647 : Int) < pl) = false := decide_eq_false l1
                    go_wp2_with fail
                    clear g1 g2 g3 g4
                    obtain ⟨wo, hwo⟩ : ∃ W : World, W = wr := ⟨_, rfl⟩
                    go_loop [5, 7] (fun m i => ∃ j t' : Nat, j ≤ n ∧ i = .int .i64 j ∧ m = .int .i64 t' ∧ Hid (t' = min (t + j) 65537) ∧ t' ≤ 65537 ∧ Hid ((sh.take j).any odd = false)) (fun _ i => n - (intOf i).toNat)
                    case atStart => exact ⟨0, t, Nat.zero_le _, rfl, rfl, Lib.hid (by omega), ht, Lib.hid rfl⟩
                    case round =>
                      obtain ⟨j, t', hj, rfl, rfl, HT', ht', HNo⟩ := hrel
                      by_cases hjt : j < n
                      · have hji : (j : Int) < (n : Int) := by omega
                        obtain ⟨sb, so, rfl, hsc⟩ := iV_at HSub.out j (by rw [← HN.out]; exact hjt)
                        have HOd : Hid (sh[j]'(by rw [← HN.out]; exact hjt) < 0 ∨ 4095 < sh[j]'(by rw [← HN.out]; exact hjt) → chk a ps = 2) := Lib.hid (fun e => HBad.out (odd_at (p := ⟨po, pl, some ⟨sb, so, none⟩, sc, sh⟩) (by simp only; rw [← HN.out]; exact hjt) e))
                        have HNs : Hid (odd (sh[j]'(by rw [← HN.out]; exact hjt)) = false → (sh.take (j + 1)).any odd = false) := Lib.hid (fun e => by rw [any_take_succ odd sh j (by rw [← HN.out]; exact hjt), HNo.out, e]; rfl)
                        obtain ⟨x, hx⟩ : ∃ x, x = sh[j]'(by rw [← HN.out]; exact hjt) := ⟨_, rfl⟩
                        rw [← hx] at hsc HOd HNs
                        clear hx
                        by_cases x0 : x < 0
                        · have HF : Hid (chk a ps = 2) := Lib.hid (HOd.out (Or.inl x0))
                          go_wp2_with fail
                          go_ret
                          exact ⟨by rw [HB.out, HF.out]; rfl, hP⟩
                        · by_cases x1 : 4095 < x
                          · have HF : Hid (chk a ps = 2) := Lib.hid (HOd.out (Or.inr x1))
                            go_wp2_with fail
                            go_ret
                            exact ⟨by rw [HB.out, HF.out]; rfl, hP⟩
                          · have HN2 := Lib.hid (HNs.out (odd_none x0 x1))
                            have g1 : decide (x < 0) = false := decide_eq_false x0
                            have g2 : decide ((4095 : Int) < x) = false := decide_eq_false x1
                            by_cases ht2 : (t' : Int) ≤ 65536
                            · go_wp2_with fail
                              clear g1 g2
                              go_round
                              case rel => exact ⟨j + 1, t' + 1, by omega, by go_num, by go_num, Lib.hid (by have := HT'.out; omega), by omega, HN2⟩
                              case measure => simp [intOf]; omega
                            · go_wp2_with fail
                              clear g1 g2
                              go_round
                              case rel => exact ⟨j + 1, t', by omega, by go_num, rfl, Lib.hid (by have := HT'.out; omega), by omega, HN2⟩
                              case measure => simp [intOf]; omega
                      · have hji : ¬ (j : Int) < (n : Int) := by omega
                        have hno := HNo.out
                        rw [List.take_of_length_le (by rw [← HN.out]; omega)] at hno
                        have HAll2 := Lib.hid (HAll.out (okP_true (p := ⟨po, pl, sa, sc, sh⟩) hno HW1.out HW2.out))
                        have HT2 : Hid (t' = min (totS (ps.take (k + 1))) 65537) := Lib.hid (by rw [HTS.out]; have h1 := HT'.out; have h2 := HT.out; have h3 := HN.out; omega)
                        clear hno
                        go_wp2_with fail
                        go_roundw
                        case rel => exact ⟨k + 1, t', by omega, by go_num, rfl, HT2, ht', HAll2, hP⟩
                        case measure => simp [intOf]; omega
          · have hki : ¬ (k : Int) < (ps.length : Int) := by omega
            have hall : ∀ p ∈ ps, okP p = true := by have := HO.out; rwa [List.take_of_length_le (by omega)] at this
            have hT := HT.out
            rw [List.take_of_length_le (by omega)] at hT
            have hchk := chk_end HAt.out HNt.out hall
            by_cases h6 : (65536 : Int) < (t : Int)
            · have HF : Hid (chk a ps = 3) := Lib.hid (by rw [hchk, if_pos (by omega)])
              clear hchk hT hall
              go_wp2_with fail
              go_ret
              exact ⟨by rw [HB.out, HF.out]; rfl, hP⟩
            · have HF : Hid (chk a ps = 0) := Lib.hid (by rw [hchk, if_neg (by omega)])
              clear hchk hT hall
              go_wp2_with fail
              go_ret
              exact ⟨by rw [HB.out, HF.out]; rfl, hP⟩
end Go.Proofs.Ytdhejhgpjeenaaa
