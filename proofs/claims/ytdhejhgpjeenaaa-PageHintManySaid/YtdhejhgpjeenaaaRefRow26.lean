/-
  Walked: the reference's row of numbers (chapter 26).
-/
import Derived.Test.YtdhejhgpjeenaaaRefPut26
namespace Go.Proofs.Ytdhejhgpjeenaaa.C26
open Go.RowKit Go.Proofs.Ytdhejhgpjeenaaa
set_option linter.unusedVariables false

theorem infoInt : (Try.prog.info? 3).map (fun i => (i.zero, i.size, i.bytes)) = some (some (.int .i64 0), 1, 8) := by kernel_rfl
def intV (x : Nat) : Value := .int .i64 (x : Int)
theorem intV_one (l : List Nat) : ∀ u ∈ l.map intV, u.oneCell' = true := by intro u hu; obtain ⟨y, _, rfl⟩ := List.mem_map.1 hu; rfl
/-- the first k numbers of a width, from a place on -/
def vals (bs : List Bool) (at' w k : Nat) : List Nat := (List.range k).map fun j => numAt bs (at' + j * w) w
theorem vals_len (bs : List Bool) (at' w k : Nat) : (vals bs at' w k).length = k := by simp [vals]
theorem vals_succ (bs : List Bool) (at' w k : Nat) : vals bs at' w (k + 1) = vals bs at' w k ++ [numAt bs (at' + k * w) w] := by simp [vals, List.range_succ]
/-- how many numbers of a width there are in L bits, from a place on -/
structure Fit (L at' w many K : Nat) : Prop where
  le : K ≤ many
  fits : at' + K * w ≤ L
  cut : K < many → L < at' + (K + 1) * w
theorem Fit.unique {L at' w many K K' : Nat} (h : Fit L at' w many K) (h' : Fit L at' w many K') : K = K' := by
  rcases Nat.lt_trichotomy K K' with h1 | h1 | h1
  · have a := h.cut (Nat.lt_of_lt_of_le h1 h'.le)
    have b := h'.fits
    have c : (K + 1) * w ≤ K' * w := Nat.mul_le_mul_right w h1
    omega
  · exact h1
  · have a := h'.cut (Nat.lt_of_lt_of_le h1 h.le)
    have b := h.fits
    have c : (K' + 1) * w ≤ K * w := Nat.mul_le_mul_right w h1
    omega
/-- the next whole byte -/
def al8 (x : Nat) : Nat := 8 * ((x + 7) / 8)

def RowRes (bs : List Bool) (at' many n : Nat) (w : World) (e : Ending) (w' : World) : Prop :=
  ∃ K oa oc, Fit bs.length at' n many K ∧ e = .returned (.tuple #[.slice oa K oc, .int .i64 (if K = many then (al8 (at' + many * n) : Nat) else 0), .bool (decide (K = many))]) ∧ w'.ownsRow w.heap.size 3 1 (.slice oa K oc) K ((vals bs at' n K).map intV) ∧ Pure w w'
set_option maxHeartbeats 1000000 in
set_option maxRecDepth 100000 in
theorem refrow_any (bs : List Bool) (a : Option Addr) (c : Nat) (at' many n : Nat) (w : World) (hr : RowOf w a (bs.map Value.bool)) (hcap : bs.length ≤ c) (hnil : a = none → c = 0) (hlen : bs.length ≤ 1000000000) (hn : n ≤ 32) (hat : at' ≤ bs.length) (hm : many ≤ 1000000000) :
    Calls Try.prog 44 #[.slice a bs.length c, .int .i64 at', .int .i64 many, .int .i64 n] w (RowRes bs at' many n w) := by
  go_enter Try.func44, Try.ntmps44
  go_wp2_with fail
  go_loopw [1, 11, 12, 13, 14] (fun p v i _ _ wr => ∃ (k : Nat) (oa : Option Addr) (oc : Nat), k ≤ many ∧ at' + k * n ≤ bs.length ∧ i = .int .i64 k ∧ p = .int .i64 ((at' + k * n : Nat) : Int) ∧ v = .slice oa k oc ∧ wr.ownsRow w.heap.size 3 1 v k ((vals bs at' n k).map intV) ∧ Pure w wr) (fun _ _ i _ _ _ => many - (intOf i).toNat)
  case atStart => exact ⟨0, none, 0, Nat.zero_le _, by omega, rfl, by simp, rfl, World.ownsRow_nil _ _ _ _, Ext.refl _ _⟩
  case round =>
    obtain ⟨k, oa, oc, hk, hfit, rfl, rfl, rfl, hO, hE⟩ := hrel
    obtain ⟨p, hp⟩ : ∃ p, p = at' + k * n := ⟨_, rfl⟩
    rw [← hp] at hfit ⊢
    have hpn : at' + (k + 1) * n = p + n := by rw [hp, Nat.add_mul]; omega
    have HP := Lib.hid hp
    have HPN := Lib.hid hpn
    clear hp hpn
    have hrow := hr.ext hE (fun _ _ => id)
    by_cases hlt : k < many
    · have hki : (k : Int) < (many : Int) := by omega
      by_cases hcut : bs.length < p + n
      · have HG := Lib.hid (refget_no bs a c p n wr hlen (by omega) hn hcut)
        have hne : ¬ k = many := by omega
        have hF : Fit bs.length at' n many k := ⟨hk, by have := HP.out; omega, fun _ => by have := HPN.out; omega⟩
        clear hcut
        go_wp2_with fail
        refine HG.out.mono ?_
        rintro e w2 ⟨rfl, hw2⟩
        obtain rfl := hw2.symm
        go_wp2_with fail
        go_ret3
        exact ⟨k, oa, oc, hF, by rw [if_neg hne, decide_eq_false hne]; rfl, hO, hE⟩
      · have hv := numAt_lt32 bs p n hn
        have HG0 := refget_yes bs a c p n wr hrow hcap hnil hlen hn (by omega)
        have hsucc := vals_succ bs at' n k
        rw [← HP.out] at hsucc
        obtain ⟨v, hvv⟩ : ∃ v, v = numAt bs p n := ⟨_, rfl⟩
        rw [← hvv] at hv HG0 hsucc
        have HG := Lib.hid HG0
        have HS := Lib.hid hsucc
        have hszB := hE.size
        have hpn2 : p + n ≤ bs.length := by omega
        clear HG0 hvv hsucc hcut hrow
        go_wp2_with fail
        refine HG.out.mono ?_
        rintro e w2 ⟨rfl, hw2⟩
        obtain rfl := hw2.symm
        clear HG
        go_wp2_with (at_builtin; refine wpList_append_fresh rfl (.tmp 30) (.tmp 32) 47 rfl w.heap.size 3 (.int .i64 0) 1 8 Try.underlying47 infoInt rfl (by decide) _ k ((vals bs at' n k).map intV) rfl (hO.alloc _) (some ⟨wr.heap.size, 0, none⟩) 1 1 [intV v] rfl (fun e => by cases e) rfl (row_at _ rfl rfl) (fun u hu => by simp at hu; subst hu; rfl) (k + 1) rfl ((vals bs at' n (k + 1)).map intV) (by rw [HS.out]; simp) (by omega) (by unfold maxLen; omega) (by simp; omega) ?_)
        intro a2 c2 w3 hO3 hg3 hfr3
        have hE3 : Pure w w3 := Ext.own (hE.alloc _) (hO.alloc _) hg3
        clear hE hO hg3 hfr3
        go_wp2_with fail
        go_roundw
        case rel => exact ⟨k + 1, a2, c2, by omega, by rw [HPN.out]; exact hpn2, by go_num, by rw [HPN.out]; go_num, rfl, hO3, hE3⟩
        case measure => simp [intOf]; omega
    · have hki : ¬ (k : Int) < (many : Int) := by omega
      obtain rfl : k = many := by omega
      have hF : Fit bs.length at' n k k := ⟨Nat.le_refl _, by have := HP.out; omega, fun h => absurd h (Nat.lt_irrefl _)⟩
      obtain ⟨wo, rfl⟩ : ∃ wo : World, wo = wr := ⟨_, rfl⟩
      go_wp2_with fail
      go_loopw [1] (fun p' wr' => ∃ q : Nat, p' = .int .i64 q ∧ p ≤ q ∧ q ≤ al8 p ∧ wr' = wo) (fun p' _ => al8 p - (intOf p').toNat)
      case atStart => exact ⟨p, rfl, Nat.le_refl _, by unfold al8; omega, rfl⟩
      case round =>
        obtain ⟨q, rfl, hq1, hq2, hw⟩ := hrel
        obtain rfl := hw.symm
        obtain ⟨A8, hA8⟩ : ∃ A8, A8 = al8 p := ⟨_, rfl⟩
        rw [← hA8] at hq2 ⊢
        have hA8' : A8 = 8 * ((p + 7) / 8) := hA8
        have hA9 : A8 ≤ 1000000008 := by omega
        by_cases h8 : q % 8 = 0
        · have h8' : ((q : Int) % 8 != 0) = false := by simp; omega
          have hqa : q = A8 := by omega
          have HQ := Lib.hid (hqa.trans (hA8.trans (by rw [HP.out])))
          clear hqa hA8 hA8' h8
          go_wp2_with fail
          go_ret3
          exact ⟨k, oa, oc, hF, by rw [if_pos rfl, decide_eq_true rfl, ← HQ.out]; rfl, hO, hE⟩
        · have h8' : ((q : Int) % 8 != 0) = true := by simp; omega
          have hq3 : q + 1 ≤ A8 := by omega
          have HA := Lib.hid hA8
          clear hA8 hA8' h8
          go_wp2_with fail
          go_roundw
          case rel => exact ⟨q + 1, by go_num, by omega, by first | exact hq3 | (rw [← HA.out]; exact hq3), by first | rfl | trivial⟩
          case measure => simp [intOf]; omega
end Go.Proofs.Ytdhejhgpjeenaaa.C26
