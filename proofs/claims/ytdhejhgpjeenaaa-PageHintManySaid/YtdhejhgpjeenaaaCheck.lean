/-
  Walked: which hints may be: the program's Check and the reference's.
-/
import Derived.Test.YtdhejhgpjeenaaaWithin
namespace Go.Proofs.Ytdhejhgpjeenaaa
open Go.RowKit
set_option linter.unusedVariables false

/-- may what is known of a page be? -/
def okP (p : PH) : Bool := !p.sh.any odd && inB p.o 1 4096 && inB p.l 1 2147483647
def totS (ps : List PH) : Nat := (ps.map (fun p => p.sh.length)).sum
def chk (a : Int) (ps : List PH) : Int :=
  if inB a 0 2147483647 && (inB (ps.length : Int) 1 2048 && ps.all okP) then (if 65536 < totS ps then 3 else 0) else 2
/-- hints of a size that is played -/
structure Mod (ps : List PH) : Prop where
  pages : ps.length ≤ 40
  numbers : ∀ p ∈ ps, p.sh.length ≤ 3000
theorem totS_take_succ {ps : List PH} {k : Nat} (hk : k < ps.length) : totS (ps.take (k + 1)) = totS (ps.take k) + ps[k].sh.length := by
  unfold totS; rw [List.take_succ_eq_append_getElem hk, List.map_append, List.sum_append]; simp
theorem chk_bad {a : Int} {ps : List PH} {k : Nat} (hk : k < ps.length) (h : okP ps[k] = false) : chk a ps = 2 := by
  have : ps.all okP = false := by
    rw [← Bool.not_eq_true, List.all_eq_true]
    intro h'
    have := h' _ (List.getElem_mem hk)
    rw [h] at this; cases this
  unfold chk; rw [this]; simp
theorem chk_end {a : Int} {ps : List PH} (ha : inB a 0 2147483647 = true) (hl : inB (ps.length : Int) 1 2048 = true) (h : ∀ p ∈ ps, okP p = true) : chk a ps = if 65536 < totS ps then 3 else 0 := by
  have : ps.all okP = true := List.all_eq_true.2 h
  unfold chk; rw [this, ha, hl]; simp
theorem chk_head {a : Int} {ps : List PH} (h : inB a 0 2147483647 = false ∨ inB (ps.length : Int) 1 2048 = false) : chk a ps = 2 := by
  unfold chk; rcases h with h | h <;> rw [h] <;> simp
theorem okP_true {p : PH} (h1 : p.sh.any odd = false) (h2 : inB p.o 1 4096 = true) (h3 : inB p.l 1 2147483647 = true) : okP p = true := by unfold okP; rw [h1, h2, h3]; rfl
theorem okP_no {p : PH} (h : p.sh.any odd = true ∨ inB p.o 1 4096 = false ∨ inB p.l 1 2147483647 = false) : okP p = false := by
  unfold okP; rcases h with h | h | h <;> rw [h] <;> simp

def IntRes (x : Int) (w : World) (e : Ending) (w' : World) : Prop := e = .returned (.int .i64 x) ∧ Pure w w'
set_option maxHeartbeats 1000000 in
set_option maxRecDepth 100000 in
theorem check_any (a : Int) (ad : Option Addr) (c : Nat) (ps : List PH) (w : World) (h : Hints w ad ps) (hm : Mod ps) :
    Calls Try.prog 12 #[.int .i64 a, .slice ad ps.length c] w (IntRes (chk a ps) w) := by
  have hps := hm.pages
  obtain ⟨B, hB⟩ : ∃ B, B = chk a ps := ⟨_, rfl⟩
  rw [← hB]
  have HA := Lib.hid (within_any a 0 2147483647 w)
  have HN := Lib.hid (within_any (ps.length : Int) 1 2048 w)
  cases ha : inB a 0 2147483647 with
  | false =>
    have HB : Hid (B = 2) := Lib.hid (by rw [hB, chk_head (Or.inl ha)])
    rw [ha] at HA
    clear hB ha h
    go_enter Try.func12, Try.ntmps12
    go_wp2_with fail
    refine HA.out.mono ?_
    rintro e w2 ⟨rfl, hw2⟩
    obtain rfl := hw2.symm
    go_wp2_with fail
    go_ret
    exact ⟨by rw [HB.out]; rfl, Ext.refl _ _⟩
  | true =>
    rw [ha] at HA
    cases hn : inB (ps.length : Int) 1 2048 with
    | false =>
      have HB : Hid (B = 2) := Lib.hid (by rw [hB, chk_head (Or.inr hn)])
      rw [hn] at HN
      clear hB ha hn h
      go_enter Try.func12, Try.ntmps12
      go_wp2_with fail
      refine HA.out.mono ?_
      rintro e w2 ⟨rfl, hw2⟩
      obtain rfl := hw2.symm
      go_wp2_with fail
      refine HN.out.mono ?_
      rintro e w2 ⟨rfl, hw2⟩
      obtain rfl := hw2.symm
      go_wp2_with fail
      go_ret
      exact ⟨by rw [HB.out]; rfl, Ext.refl _ _⟩
    | true =>
      rw [hn] at HN
      have HB := Lib.hid hB
      have HAt := Lib.hid ha
      have HNt := Lib.hid hn
      have HM := Lib.hid hm
      clear hB ha hn hm
      go_enter Try.func12, Try.ntmps12
      go_wp2_with fail
      refine HA.out.mono ?_
      rintro e w2 ⟨rfl, hw2⟩
      obtain rfl := hw2.symm
      go_wp2_with fail
      refine HN.out.mono ?_
      rintro e w2 ⟨rfl, hw2⟩
      obtain rfl := hw2.symm
      clear HA HN
      go_wp2_with fail
      go_loopw [5, 7, 8, 20] (fun m _ _ i W => ∃ (k t : Nat), k ≤ ps.length ∧ i = .int .i64 k ∧ m = .int .i64 t ∧ Hid (t = min (totS (ps.take k)) 65537) ∧ t ≤ 65537 ∧ Hid (∀ p ∈ ps.take k, okP p = true) ∧ Pure w W) (fun _ _ _ i _ => ps.length - (intOf i).toNat)
      case atStart => exact ⟨0, 0, Nat.zero_le _, rfl, rfl, Lib.hid (by simp [totS]), by omega, Lib.hid (by simp), Ext.refl _ _⟩
      case round =>
        obtain ⟨k, t, hk, rfl, rfl, HT, ht, HO, hP⟩ := hrel
        by_cases hlt : k < ps.length
        · have hki : (k : Int) < (ps.length : Int) := by omega
          obtain ⟨b, o, had, p0, p1, p2⟩ := (h.pure hP).at k hlt
          have hsub := (h.sub _ (List.getElem_mem hlt)).ext hP (fun _ _ => id)
          have hnum := HM.out.numbers _ (List.getElem_mem hlt)
          have HTS := Lib.hid (totS_take_succ hlt)
          have HBad := Lib.hid (fun e => chk_bad (a := a) hlt e)
          have HAll := Lib.hid (fun e => all_take_succ (P := fun p : PH => okP p = true) hlt HO.out e)
          obtain ⟨p, hpp⟩ : ∃ p, p = ps[k] := ⟨_, rfl⟩
          rw [← hpp] at p0 p1 p2 hsub hnum HTS HBad HAll
          have HC0 := fun W' (hE : Pure wr W') => contains_any p.sa p.sc p.sh W' (hsub.ext hE (fun _ _ => id)) (by omega)
          have HW1 := Lib.hid (within_any p.o 1 4096)
          have HW2 := Lib.hid (within_any p.l 1 2147483647)
          obtain ⟨po, pl, sa, sc, sh, rfl⟩ : ∃ po pl sa sc sh, p = ⟨po, pl, sa, sc, sh⟩ := ⟨p.o, p.l, p.sa, p.sc, p.sh, rfl⟩
          simp only at p0 p1 p2 hnum HC0 HW1 HW2 HTS
          have HC := Lib.hid HC0
          obtain ⟨n, hn⟩ : ∃ n, n = sh.length := ⟨_, rfl⟩
          subst had
          clear hpp HC0 hsub
          cases hodd : sh.any odd with
          | true =>
            have HF : Hid (chk a ps = 2) := Lib.hid (HBad.out (okP_no (Or.inl hodd)))
            rw [hodd] at HC
            clear hodd hn
            go_wp2_with fail
            refine (HC.out _ (ext_alloc wr _)).mono ?_
            rintro e w2 ⟨rfl, rfl⟩
            go_wp2_with fail
            go_ret
            exact ⟨by rw [HB.out, HF.out]; rfl, hP.alloc _⟩
          | false =>
            rw [hodd] at HC
            cases hw1 : inB po 1 4096 with
            | false =>
              have HF : Hid (chk a ps = 2) := Lib.hid (HBad.out (okP_no (Or.inr (Or.inl hw1))))
              rw [hw1] at HW1
              clear hodd hw1 hn
              go_wp2_with fail
              refine (HC.out _ (ext_alloc wr _)).mono ?_
              rintro e w2 ⟨rfl, rfl⟩
              go_wp2_with fail
              refine (HW1.out _).mono ?_
              rintro e w2 ⟨rfl, rfl⟩
              go_wp2_with fail
              go_ret
              exact ⟨by rw [HB.out, HF.out]; rfl, hP.alloc _⟩
            | true =>
              rw [hw1] at HW1
              cases hw2 : inB pl 1 2147483647 with
              | false =>
                have HF : Hid (chk a ps = 2) := Lib.hid (HBad.out (okP_no (Or.inr (Or.inr hw2))))
                rw [hw2] at HW2
                clear hodd hw1 hw2 hn
                go_wp2_with fail
                refine (HC.out _ (ext_alloc wr _)).mono ?_
                rintro e w2 ⟨rfl, rfl⟩
                go_wp2_with fail
                refine (HW1.out _).mono ?_
                rintro e w2 ⟨rfl, rfl⟩
                go_wp2_with fail
                refine (HW2.out _).mono ?_
                rintro e w2 ⟨rfl, rfl⟩
                go_wp2_with fail
                go_ret
                exact ⟨by rw [HB.out, HF.out]; rfl, hP.alloc _⟩
              | true =>
                rw [hw2] at HW2
                have HAll2 := Lib.hid (HAll.out (okP_true hodd hw1 hw2))
                have hT2 : min (totS (ps.take (k + 1))) 65537 = min (t + sh.length) 65537 := by rw [HTS.out, HT.out]; omega
                have HT2 := Lib.hid hT2
                clear hodd hw1 hw2 hn hT2
                go_wp2_with fail
                refine (HC.out _ (ext_alloc wr _)).mono ?_
                rintro e w2 ⟨rfl, rfl⟩
                go_wp2_with fail
                refine (HW1.out _).mono ?_
                rintro e w2 ⟨rfl, rfl⟩
                go_wp2_with fail
                refine (HW2.out _).mono ?_
                rintro e w2 ⟨rfl, rfl⟩
                go_wp2_with fail
                go_roundw
                case rel => exact ⟨k + 1, min (t + sh.length) 65537, by omega, by go_num, by congr 1; omega, Lib.hid HT2.out.symm, by omega, HAll2, hP.alloc _⟩
                case measure => simp [intOf]; omega
        · have hki : ¬ (k : Int) < (ps.length : Int) := by omega
          have hall : ∀ p ∈ ps, okP p = true := by have := HO.out; rwa [List.take_of_length_le (by omega)] at this
          have hT := HT.out
          rw [List.take_of_length_le (by omega)] at hT
          have hchk := chk_end HAt.out HNt.out hall
          by_cases h6 : (65536 : Int) < (t : Int)
          · have HF : Hid (chk a ps = 3) := Lib.hid (by rw [hchk, if_pos (by omega)])
            clear hchk hT hall
            go_wp2_with fail
            go_ret
            exact ⟨by rw [HB.out, HF.out]; rfl, hP⟩
          · have HF : Hid (chk a ps = 0) := Lib.hid (by rw [hchk, if_neg (by omega)])
            clear hchk hT hall
            go_wp2_with fail
            go_ret
            exact ⟨by rw [HB.out, HF.out]; rfl, hP⟩
end Go.Proofs.Ytdhejhgpjeenaaa
