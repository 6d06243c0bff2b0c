import Derived.Test.YtomcdhljjmnahaaGreatLibBAPa
import Derived.OwnWalk
import Derived.Laws.OwnMore
import Derived.Test.YtomcdhljjmnahaaGreatRows
import Derived.ProofKit
import Derived.OpenShut
import Derived.ShutString
import Derived.ChangeOld
import Derived.Below
import Derived.Deep.Slices
import Derived.Laws.CopyOwn
import Derived.Lib.AppendZerosOnto
import Derived.Lib.AppendZeros
import Derived.Lib.Overlaps
import Derived.Laws.Externs
import Derived.Lib.Small
import Derived.Lib.BitFns
import Derived.Lib.Walk
import Derived.Lib.Strings
import Derived.Test.YtomcdhljjmnahaaGreatSqPa
set_option linter.unusedVariables false
set_option linter.unusedSimpArgs false
set_option maxRecDepth 100000
namespace Go.Proofs.YtomcdhljjmnahaaGreat
open Go.RowKit
theorem number_no1 (x n : Int) (high : Bool) (w : World) (hn : n < 0 ∨ 32 < n) :
 Calls Tryz.prog 134 #[.int .u32 x, .int .i64 n, .bool high] w fun e w' => e = .returned (.tuple #[.slice none 0 0, .bool false]) ∧ w' = w := by
 rcases hn with hn | hn
 ·go_enter Tryz.func134, Tryz.ntmps134
  go_wp2_with fail
  go_ret2
  exact ⟨rfl, rfl⟩
 ·have h0 : ¬ n < 0 := by omega
  go_enter Tryz.func134, Tryz.ntmps134
  go_wp2_with fail
  go_ret2
  exact ⟨rfl, rfl⟩
def byWt (high : Bool) (l : List Bool) : List Bool := if high then l else l.reverse
theorem byWt_len (high : Bool) (l : List Bool) : (byWt high l).length = l.length := by unfold byWt; cases high <;> simp
theorem byWt_at (high : Bool) (l : List Bool) (k : Nat) (hk : k < l.length) : (byWt high l)[k]'(by rw [byWt_len]; exact hk) = l[if high then k else l.length - 1 - k]'(by split <;> omega) := by
 unfold byWt; cases high
 ·simp
 ·simp
theorem refof_any (high : Bool) (ad : Option Addr) (cap : Nat) (l : List Bool) (w : World) (hr : RowOf w ad (l.map Value.bool)) (hl : l.length ≤ 32) :
 Calls Tryz.prog 129 #[.slice ad l.length cap, .bool high] w fun e w' => e = .returned (.int .u32 ((num high l : Nat) : Int)) ∧ w' = w := by
 have hnum : num high l = msb (byWt high l) := rfl
 have HN := qh hnum
 clear hnum
 have hbl := qh (byWt_len high l)
 go_enter Tryz.func129, Tryz.ntmps129
 go_wp2_with fail
 go_loopw [5, 6, 7] (fun v i _ w' => ∃ k : Nat, k ≤ l.length ∧ i = .int .i64 k ∧ v = .int .u32 ((msb ((byWt high l).take k) : Nat) : Int) ∧ w' = w) (fun _ i _ _ => l.length - (intOf i).toNat)
 case atStart => exact ⟨0, Nat.zero_le _, rfl, by simp [msb], rfl⟩
 case round =>
  obtain ⟨k, hk, rfl, rfl, hw⟩ := hrel
  obtain rfl := hw.symm
  obtain ⟨y, hy⟩ : ∃ y, y = msb ((byWt high l).take k) := ⟨_, rfl⟩
  rw [← hy]
  by_cases hlt : k < l.length
  ·have hki : (k : Int) < (l.length : Int) := by omega
   have hstep : msb ((byWt high l).take (k + 1)) = 2 * y + (l[if high then k else l.length - 1 - k]'(by split <;> omega)).toNat := by
    rw [List.take_add_one, List.getElem?_eq_getElem (by rw [hbl.out]; exact hlt), Option.toList, msb_snoc, ← hy, byWt_at high l k hlt]
   have hlim := msb_lt ((byWt high l).take (k + 1))
   have hpow : 2 ^ ((byWt high l).take (k + 1)).length ≤ 2 ^ 32 := Nat.pow_le_pow_right (by decide) (by rw [List.length_take, hbl.out]; omega)
   rw [hstep] at hlim
   have hlim := Nat.lt_of_lt_of_le hlim (show _ ≤ 4294967296 from hpow)
   have hy32 : 2 * y < 4294967296 := by omega
   have HY := qh hy
   have HS := qh hstep
   clear hy hstep hpow
   have e1 : IntKind.u32.wrap (2 * (y : Int)) = 2 * (y : Int) := IntWalk.u32_in _ (by omega)
   have ek : IntKind.i64.wrap ((l.length : Int) - 1) = (l.length : Int) - 1 := IntWalk.i64_in _ (by omega)
   have ek2 : IntKind.i64.wrap ((l.length : Int) - 1 - (k : Int)) = (l.length : Int) - 1 - (k : Int) := IntWalk.i64_in _ (by omega)
   cases high with
   | true =>
     simp only [if_true] at HS hlim
     obtain ⟨b, o, rfl, h0⟩ := hr k (.bool l[k]) (by simp [hlt])
     have hk0 : (0 : Int) ≤ (k : Int) := by omega
     cases hv : l[k] with
     | false =>
       rw [hv] at h0 HS
       clear hv
       go_wp2_with fail
       go_roundw
       case rel => exact ⟨k + 1, by omega, by go_num, by rw [HS.out]; simp, by first | rfl | trivial⟩
       case measure => simp [intOf]; omega
     | true =>
       rw [hv] at h0 HS hlim
       clear hv
       have e2 : IntKind.u32.wrap (2 * (y : Int) + 1) = 2 * (y : Int) + 1 := IntWalk.u32_in _ (by simp at hlim; omega)
       go_wp2_with fail
       go_roundw
       case rel => exact ⟨k + 1, by omega, by go_num, by rw [HS.out]; simp, by first | rfl | trivial⟩
       case measure => simp [intOf]; omega
   | false =>
     simp only [Bool.false_eq_true, if_false] at HS hlim
     obtain ⟨i, hi⟩ : ∃ i : Nat, i = l.length - 1 - k := ⟨_, rfl⟩
     have hi' : (l.length : Int) - 1 - (k : Int) = (i : Int) := by omega
     have hil : i < l.length := by omega
     have hS' : msb ((byWt false l).take (k + 1)) = 2 * y + (l[i]'hil).toNat := by subst hi; exact HS.out
     have hlim' : 2 * y + (l[i]'hil).toNat < 4294967296 := by subst hi; omega
     clear HS hi hlim
     have HS := qh hS'
     clear hS'
     obtain ⟨b, o, rfl, h0⟩ := hr i (.bool l[i]) (by simp [hil])
     have hi0 : (0 : Int) ≤ (i : Int) := by omega
     have hii : (i : Int) < (l.length : Int) := by omega
     cases hv : l[i] with
     | false =>
       rw [hv] at h0 HS
       clear hv
       go_wp2_with fail
       go_roundw
       case rel => exact ⟨k + 1, by omega, by go_num, by rw [HS.out]; simp, by first | rfl | trivial⟩
       case measure => simp [intOf]; omega
     | true =>
       rw [hv] at h0 HS hlim'
       clear hv
       have e2 : IntKind.u32.wrap (2 * (y : Int) + 1) = 2 * (y : Int) + 1 := IntWalk.u32_in _ (by simp at hlim'; omega)
       go_wp2_with fail
       go_roundw
       case rel => exact ⟨k + 1, by omega, by go_num, by rw [HS.out]; simp, by first | rfl | trivial⟩
       case measure => simp [intOf]; omega
  ·have hki : ¬ (k : Int) < (l.length : Int) := by omega
   have ht : (byWt high l).take k = byWt high l := List.take_of_length_le (by rw [hbl.out]; omega)
   rw [ht, ← HN.out] at hy
   have HY := qh hy
   clear hy ht
   go_wp2_with fail
   go_ret
   exact ⟨by rw [← HY.out]; rfl, by first | rfl | trivial⟩
end Go.Proofs.YtomcdhljjmnahaaGreat
namespace Go.Proofs.YtomcdhljjmnahaaGreat.C26
open Go.RowKit Go.Proofs.YtomcdhljjmnahaaGreat
theorem refget_no (bs : List Bool) (a : Option Addr) (c : Nat) (at' n : Nat) (w : World) (hlen : bs.length ≤ 1000000000) (hat : at' ≤ 1000000000000) (hn : n ≤ 32) (hcut : bs.length < at' + n) :
 Calls Tryz.prog 91 #[.slice a bs.length c, .int .i64 at', .int .i64 n] w fun e w' => e = .returned (.tuple #[.int .i64 0, .bool false]) ∧ w' = w := by
 have h0 : (bs.length : Int) - (at' : Int) < (n : Int) := by omega
 go_enter Tryz.func91, Tryz.ntmps91
 go_wp2_with fail
 go_ret2
 exact ⟨rfl, rfl⟩
def numAt (bs : List Bool) (at' n : Nat) : Nat := num true ((bs.drop at').take n)
theorem numAt_lt (bs : List Bool) (at' n : Nat) : numAt bs at' n < 2 ^ n := by
 have := num_lt true ((bs.drop at').take n)
 exact Nat.lt_of_lt_of_le this (Nat.pow_le_pow_right (by decide) (List.length_take_le _ _))
theorem numAt_lt32 (bs : List Bool) (at' n : Nat) (h : n ≤ 32) : numAt bs at' n < 4294967296 := Nat.lt_of_lt_of_le (numAt_lt bs at' n) (show 2 ^ n ≤ 2 ^ 32 from Nat.pow_le_pow_right (by decide) h)
set_option maxHeartbeats 1000000 in
theorem refget_yes (bs : List Bool) (a : Option Addr) (c : Nat) (at' n : Nat) (w : World) (hr : RowOf w a (bs.map Value.bool)) (hcap : bs.length ≤ c) (hnil : a = none → c = 0) (hlen : bs.length ≤ 1000000000) (hn : n ≤ 32) (hcut : at' + n ≤ bs.length) :
 Calls Tryz.prog 91 #[.slice a bs.length c, .int .i64 at', .int .i64 n] w fun e w' => e = .returned (.tuple #[.int .i64 (numAt bs at' n), .bool true]) ∧ w' = w := by
 have h0 : ¬ (bs.length : Int) - (at' : Int) < (n : Int) := by omega
 have hv := numAt_lt32 bs at' n hn
 obtain ⟨v, hvv⟩ : ∃ v, v = numAt bs at' n := ⟨_, rfl⟩
 have hlenS : ((bs.drop at').take n).length = n := by rw [List.length_take, List.length_drop]; omega
 have hrowS : RowOf w (a.map fun x => x.add at') (((bs.drop at').take n).map Value.bool) := by rw [List.map_take, List.map_drop]; exact row_take (row_drop hr at') n
 have HO := refof_any true (a.map fun x => x.add at') (c - at') _ w hrowS (by rw [hlenS]; exact hn)
 rw [hlenS, show num true ((bs.drop at').take n) = v from hvv.symm] at HO
 have HO' := qh HO
 have HV := qh hvv
 rw [← hvv] at hv ⊢
 have hsl : at' + n ≤ c := by omega
 clear HO hlenS hrowS hvv
 go_enter Tryz.func91, Tryz.ntmps91
 go_wp2_with fail
 ·obtain rfl : n = 0 := by omega
  have HO2 := refof_any true a 0 [] w (row_nil _ _) (by simp)
  rw [List.length_nil, show num true [] = v from by rw [HV.out]; unfold numAt; rw [List.take_zero]] at HO2
  refine HO2.mono ?_
  rintro e w6 ⟨rfl, hw6⟩
  obtain rfl := hw6.symm
  clear HO' HO2
  go_wp2_with fail
  go_ret2
  exact ⟨rfl, rfl⟩
 ·refine HO'.out.mono ?_
  rintro e w6 ⟨rfl, hw6⟩
  obtain rfl := hw6.symm
  clear HO'
  go_wp2_with fail
  go_ret2
  exact ⟨rfl, rfl⟩
theorem infoInt : (Tryz.prog.info? 3).map (fun i => (i.zero, i.size, i.bytes)) = some (some (.int .i64 0), 1, 8) := by kernel_rfl
def intV (x : Nat) : Value := .int .i64 (x : Int)
theorem intV_one (l : List Nat) : ∀ u ∈ l.map intV, u.oneCell' = true := by intro u hu; obtain ⟨y, _, rfl⟩ := List.mem_map.1 hu; rfl
def vals (bs : List Bool) (at' w k : Nat) : List Nat := (List.range k).map fun j => numAt bs (at' + j * w) w
theorem vals_len (bs : List Bool) (at' w k : Nat) : (vals bs at' w k).length = k := by simp [vals]
theorem vals_succ (bs : List Bool) (at' w k : Nat) : vals bs at' w (k + 1) = vals bs at' w k ++ [numAt bs (at' + k * w) w] := by simp [vals, List.range_succ]
structure Fit (L at' w many K : Nat) : Prop where
 le : K ≤ many
 fits : at' + K * w ≤ L
 cut : K < many → L < at' + (K + 1) * w
theorem Fit.unique {L at' w many K K' : Nat} (h : Fit L at' w many K) (h' : Fit L at' w many K') : K = K' := by
 rcases Nat.lt_trichotomy K K' with h1 | h1 | h1
 ·have a := h.cut (Nat.lt_of_lt_of_le h1 h'.le)
  have b := h'.fits
  have c : (K + 1) * w ≤ K' * w := Nat.mul_le_mul_right w h1
  omega
 ·exact h1
 ·have a := h'.cut (Nat.lt_of_lt_of_le h1 h.le)
  have b := h.fits
  have c : (K' + 1) * w ≤ K * w := Nat.mul_le_mul_right w h1
  omega
def al8 (x : Nat) : Nat := 8 * ((x + 7) / 8)
def RowRes (bs : List Bool) (at' many n : Nat) (w : World) (e : Ending) (w' : World) : Prop :=
 ∃ K oa oc, Fit bs.length at' n many K ∧ e = .returned (.tuple #[.slice oa K oc, .int .i64 (if K = many then (al8 (at' + many * n) : Nat) else 0), .bool (decide (K = many))]) ∧ w'.ownsRow w.heap.size 3 1 (.slice oa K oc) K ((vals bs at' n K).map intV) ∧ Pure w w'
set_option maxHeartbeats 1000000 in
theorem refrow_any (bs : List Bool) (a : Option Addr) (c : Nat) (at' many n : Nat) (w : World) (hr : RowOf w a (bs.map Value.bool)) (hcap : bs.length ≤ c) (hnil : a = none → c = 0) (hlen : bs.length ≤ 1000000000) (hn : n ≤ 32) (hat : at' ≤ bs.length) (hm : many ≤ 1000000000) :
 Calls Tryz.prog 92 #[.slice a bs.length c, .int .i64 at', .int .i64 many, .int .i64 n] w (RowRes bs at' many n w) := by
 go_enter Tryz.func92, Tryz.ntmps92
 go_wp2_with fail
 go_loopw [1, 11, 12, 13, 14] (fun p v i _ _ wr => ∃ (k : Nat) (oa : Option Addr) (oc : Nat), k ≤ many ∧ at' + k * n ≤ bs.length ∧ i = .int .i64 k ∧ p = .int .i64 ((at' + k * n : Nat) : Int) ∧ v = .slice oa k oc ∧ wr.ownsRow w.heap.size 3 1 v k ((vals bs at' n k).map intV) ∧ Pure w wr) (fun _ _ i _ _ _ => many - (intOf i).toNat)
 case atStart => exact ⟨0, none, 0, Nat.zero_le _, by omega, rfl, by simp, rfl, World.ownsRow_nil _ _ _ _, Ext.refl _ _⟩
 case round =>
  obtain ⟨k, oa, oc, hk, hfit, rfl, rfl, rfl, hO, hE⟩ := hrel
  obtain ⟨p, hp⟩ : ∃ p, p = at' + k * n := ⟨_, rfl⟩
  rw [← hp] at hfit ⊢
  have hpn : at' + (k + 1) * n = p + n := by rw [hp, Nat.add_mul]; omega
  have HP := qh hp
  have HPN := qh hpn
  clear hp hpn
  have hrow := hr.ext hE (fun _ _ => id)
  by_cases hlt : k < many
  ·have hki : (k : Int) < (many : Int) := by omega
   by_cases hcut : bs.length < p + n
   ·have HG := qh (refget_no bs a c p n wr hlen (by omega) hn hcut)
    have hne : ¬ k = many := by omega
    have hF : Fit bs.length at' n many k := ⟨hk, by have := HP.out; omega, fun _ => by have := HPN.out; omega⟩
    clear hcut
    go_wp2_with fail
    refine HG.out.mono ?_
    rintro e w2 ⟨rfl, hw2⟩
    obtain rfl := hw2.symm
    go_wp2_with fail
    go_ret3
    exact ⟨k, oa, oc, hF, by rw [if_neg hne, decide_eq_false hne]; rfl, hO, hE⟩
   ·have hv := numAt_lt32 bs p n hn
    have HG0 := refget_yes bs a c p n wr hrow hcap hnil hlen hn (by omega)
    have hsucc := vals_succ bs at' n k
    rw [← HP.out] at hsucc
    obtain ⟨v, hvv⟩ : ∃ v, v = numAt bs p n := ⟨_, rfl⟩
    rw [← hvv] at hv HG0 hsucc
    have HG := qh HG0
    have HS := qh hsucc
    have hszB := hE.size
    have hpn2 : p + n ≤ bs.length := by omega
    clear HG0 hvv hsucc hcut hrow
    go_wp2_with fail
    refine HG.out.mono ?_
    rintro e w2 ⟨rfl, hw2⟩
    obtain rfl := hw2.symm
    clear HG
    go_wp2_with (at_builtin; refine wpList_append_fresh rfl (.tmp 30) (.tmp 32) 23 rfl w.heap.size 3 (.int .i64 0) 1 8 Tryz.underlying23 infoInt rfl (by decide) _ k ((vals bs at' n k).map intV) rfl (hO.alloc _) (some ⟨wr.heap.size, 0, none⟩) 1 1 [intV v] rfl (fun e => by cases e) rfl (row_at _ rfl rfl) (fun u hu => by simp at hu; subst hu; rfl) (k + 1) rfl ((vals bs at' n (k + 1)).map intV) (by rw [HS.out]; simp) (by omega) (by unfold maxLen; omega) (by simp; omega) ?_)
    intro a2 c2 w3 hO3 hg3 hfr3
    have hE3 : Pure w w3 := Ext.own (hE.alloc _) (hO.alloc _) hg3
    clear hE hO hg3 hfr3
    go_wp2_with fail
    go_roundw
    case rel => exact ⟨k + 1, a2, c2, by omega, by rw [HPN.out]; exact hpn2, by go_num, by rw [HPN.out]; go_num, rfl, hO3, hE3⟩
    case measure => simp [intOf]; omega
  ·have hki : ¬ (k : Int) < (many : Int) := by omega
   obtain rfl : k = many := by omega
   have hF : Fit bs.length at' n k k := ⟨Nat.le_refl _, by have := HP.out; omega, fun h => absurd h (Nat.lt_irrefl _)⟩
   obtain ⟨wo, rfl⟩ : ∃ wo : World, wo = wr := ⟨_, rfl⟩
   go_wp2_with fail
   go_loopw [1] (fun p' wr' => ∃ q : Nat, p' = .int .i64 q ∧ p ≤ q ∧ q ≤ al8 p ∧ wr' = wo) (fun p' _ => al8 p - (intOf p').toNat)
   case atStart => exact ⟨p, rfl, Nat.le_refl _, by unfold al8; omega, rfl⟩
   case round =>
    obtain ⟨q, rfl, hq1, hq2, hw⟩ := hrel
    obtain rfl := hw.symm
    obtain ⟨A8, hA8⟩ : ∃ A8, A8 = al8 p := ⟨_, rfl⟩
    rw [← hA8] at hq2 ⊢
    have hA8' : A8 = 8 * ((p + 7) / 8) := hA8
    have hA9 : A8 ≤ 1000000008 := by omega
    by_cases h8 : q % 8 = 0
    ·have h8' : ((q : Int) % 8 != 0) = false := by simp; omega
     have hqa : q = A8 := by omega
     have HQ := qh (hqa.trans (hA8.trans (by rw [HP.out])))
     clear hqa hA8 hA8' h8
     go_wp2_with fail
     go_ret3
     exact ⟨k, oa, oc, hF, by rw [if_pos rfl, decide_eq_true rfl, ← HQ.out]; rfl, hO, hE⟩
    ·have h8' : ((q : Int) % 8 != 0) = true := by simp; omega
     have hq3 : q + 1 ≤ A8 := by omega
     have HA := qh hA8
     clear hA8 hA8' h8
     go_wp2_with fail
     go_roundw
     case rel => exact ⟨q + 1, by go_num, by omega, by first | exact hq3 | (rw [← HA.out]; exact hq3), by first | rfl | trivial⟩
     case measure => simp [intOf]; omega
abbrev St := Nat × Int
def num1 (bs : List Bool) (s : St) (w : Nat) : Nat × St :=
 if s.2 = 0 then (if s.1 + w ≤ bs.length then (numAt bs s.1 w, (s.1 + w, 0)) else (0, (s.1, 10))) else (0, s)
theorem num1_err {bs : List Bool} {s : St} {w : Nat} (h : s.2 ≠ 0) : num1 bs s w = (0, s) := by unfold num1; rw [if_neg h]
theorem num1_cut {bs : List Bool} {p : Nat} {w : Nat} (h : bs.length < p + w) : num1 bs (p, 0) w = (0, (p, 10)) := by unfold num1; rw [if_pos rfl, if_neg (by simp; omega)]
theorem num1_yes {bs : List Bool} {p : Nat} {w : Nat} (h : p + w ≤ bs.length) : num1 bs (p, 0) w = (numAt bs p w, (p + w, 0)) := by unfold num1; rw [if_pos rfl, if_pos h]
structure RS (W : World) (rr rb : Nat) (l : List UInt8) (s : St) (a : Option Addr) (c : Nat) : Prop where
 blk : BlockIs W rr [.pointer (some ⟨rb, 0, none⟩), .int .i64 s.2] 132
 rd : RdIs W rb true l s.1 a c
 le : s.1 ≤ 8 * l.length
 ne : rr ≠ rb
 ap : ∀ g, a = some g → g.block ≠ rr
def RdS (rr rb : Nat) (i : Nat) : Prop := i = rr ∨ i = rb
theorem RS.ext {S : Nat → Prop} {W W' : World} {rr rb : Nat} {l : List UInt8} {s : St} {a : Option Addr} {c : Nat} (h : RS W rr rb l s a c) (e : Ext S W W') (h1 : ¬ S rr) (h2 : ¬ S rb) (h3 : ∀ g, a = some g → ¬ S g.block) : RS W' rr rb l s a c :=
 ⟨h.blk.ext e h1, h.rd.ext e h2 h3, h.le, h.ne, h.ap⟩
theorem RS.pure {W W' : World} {rr rb : Nat} {l : List UInt8} {s : St} {a : Option Addr} {c : Nat} (h : RS W rr rb l s a c) (e : Pure W W') : RS W' rr rb l s a c := h.ext e id id (fun _ _ => id)
theorem RS.setErr {W : World} {rr rb : Nat} {l : List UInt8} {p : Nat} {e0 : Int} {a : Option Addr} {c : Nat} (h : RS W rr rb l (p, e0) a c) (e1 : Int) : RS (W.setCell ⟨rr, 1, none⟩ (.int .i64 e1)) rr rb l (p, e1) a c := by
 have hE : Ext (fun i => i = rr) W (W.setCell ⟨rr, 1, none⟩ (.int .i64 e1)) := (Ext.refl (fun i => i = rr) W).setCell (p := ⟨rr, 1, none⟩) (fun _ => rfl) _
 exact ⟨by simpa using h.blk.set 1 (.int .i64 e1), h.rd.ext hE (fun e => h.ne e.symm) (fun g hg e => h.ap g hg e), h.le, h.ne, h.ap⟩
def NumRes (rr rb : Nat) (l : List UInt8) (s : St) (n : Nat) (a : Option Addr) (c : Nat) (W : World) (e : Ending) (W' : World) : Prop :=
 e = .returned (.int .i64 ((num1 (bitsOf true l) s n).1 : Nat)) ∧ RS W' rr rb l (num1 (bitsOf true l) s n).2 a c ∧ Ext (RdS rr rb) W W'
theorem num_err (rr rb : Nat) (l : List UInt8) (p : Nat) (er : Int) (a : Option Addr) (c : Nat) (n : Nat) (W : World) (h : RS W rr rb l (p, er) a c) (he : er ≠ 0) :
 Calls Tryz.prog 115 #[.pointer (some ⟨rr, 0, none⟩), .int .i64 n] W (NumRes rr rb l (p, er) n a c W) := by
 have h1 : W.cell? ⟨rr, 0 + 1, none⟩ = some (.int .i64 er) := h.blk.cell 1
 have he' : (er != 0) = true := by simpa using he
 have HN := qh (num1_err (bs := bitsOf true l) (s := (p, er)) (w := n) he)
 clear he
 go_enter Tryz.func115, Tryz.ntmps115
 go_wp2_with fail
 go_ret
 unfold NumRes
 rw [HN.out]
 exact ⟨rfl, h, Ext.refl _ _⟩
theorem num_cut (rr rb : Nat) (l : List UInt8) (p : Nat) (a : Option Addr) (c : Nat) (n : Nat) (W : World) (h : RS W rr rb l (p, 0) a c) (hn : n ≤ 32) (hl : l.length ≤ 10000000) (hcut : 8 * l.length < p + n) :
 Calls Tryz.prog 115 #[.pointer (some ⟨rr, 0, none⟩), .int .i64 n] W (NumRes rr rb l (p, 0) n a c W) := by
 have h0 : W.cell? ⟨rr, 0, none⟩ = some (.pointer (some ⟨rb, 0, none⟩)) := h.blk.cell 0
 have h1 : W.cell? ⟨rr, 0 + 1, none⟩ = some (.int .i64 0) := h.blk.cell 1
 have f1 : W.frozen? ⟨rr, 0 + 1, none⟩ = false := h.blk.free 1
 have HG := qh (get_no2 rb true l p a c n W h.rd (by omega) h.le hn hcut)
 have HN := qh (num1_cut (bs := bitsOf true l) (p := p) (w := n) (by rw [bitsOf_length]; exact hcut))
 clear hcut
 go_enter Tryz.func115, Tryz.ntmps115
 go_wp2_with fail
 refine HG.out.mono ?_
 rintro e w1 ⟨rfl, q, rfl⟩
 go_wp2_with fail
 go_ret
 unfold NumRes
 rw [HN.out]
 refine ⟨rfl, ?_, ?_⟩
 ·have := (h.pure ((Ext.refl (fun _ => False) W).drewN q)).setErr 10
  first | exact this | exact (h.setErr 10).pure ((Ext.refl (fun _ => False) _).drewN q)
 ·first | exact ((Ext.refl (RdS rr rb) W).drewN q).setCell (p := ⟨rr, 1, none⟩) (fun _ => Or.inl rfl) _ | exact ((Ext.refl (RdS rr rb) W).setCell (p := ⟨rr, 1, none⟩) (fun _ => Or.inl rfl) _).drewN q
theorem num_yes (rr rb : Nat) (l : List UInt8) (p : Nat) (a : Option Addr) (c : Nat) (n : Nat) (W : World) (h : RS W rr rb l (p, 0) a c) (hn : n ≤ 32) (hl : l.length ≤ 10000000) (hcut : p + n ≤ 8 * l.length) :
 Calls Tryz.prog 115 #[.pointer (some ⟨rr, 0, none⟩), .int .i64 n] W (NumRes rr rb l (p, 0) n a c W) := by
 have h0 : W.cell? ⟨rr, 0, none⟩ = some (.pointer (some ⟨rb, 0, none⟩)) := h.blk.cell 0
 have h1 : W.cell? ⟨rr, 0 + 1, none⟩ = some (.int .i64 0) := h.blk.cell 1
 have hv := numAt_lt32 (bitsOf true l) p n hn
 have HG0 := get_yes rb true l p a c n W h.rd (by omega) hn hcut
 obtain ⟨v, hvv⟩ : ∃ v, v = numAt (bitsOf true l) p n := ⟨_, rfl⟩
 rw [show num true (((bitsOf true l).drop p).take n) = v from hvv.symm] at HG0
 have HN0 := num1_yes (bs := bitsOf true l) (p := p) (w := n) (by rw [bitsOf_length]; exact hcut)
 rw [← hvv] at hv HN0
 have HG := qh HG0
 have HN := qh HN0
 have HC := qh hcut
 have hne := h.ne
 have hap := h.ap
 have hblk := h.blk
 clear HG0 HN0 hvv hcut h
 go_enter Tryz.func115, Tryz.ntmps115
 go_wp2_with fail
 refine HG.out.mono ?_
 rintro e w1 ⟨rfl, hR, hE⟩
 have hblk1 := hblk.ext hE hne
 have c1 : w1.cell? ⟨rr, 0 + 1, none⟩ = some (.int .i64 0) := hblk1.cell 1
 have f1 : w1.frozen? ⟨rr, 0 + 1, none⟩ = false := hblk1.free 1
 clear HG
 go_wp2_with fail
 go_ret
 unfold NumRes
 rw [HN.out]
 have hRS : RS w1 rr rb l (p + n, 0) a c := ⟨hblk1, hR, HC.out, hne, hap⟩
 exact ⟨rfl, hRS.setErr 0, (hE.mono (T := RdS rr rb) (fun i _ e => Or.inr e)).setCell (p := ⟨rr, 1, none⟩) (fun _ => Or.inl rfl) _⟩
theorem num_any (rr rb : Nat) (l : List UInt8) (s : St) (a : Option Addr) (c : Nat) (n : Nat) (W : World) (h : RS W rr rb l s a c) (hn : n ≤ 32) (hl : l.length ≤ 10000000) :
 Calls Tryz.prog 115 #[.pointer (some ⟨rr, 0, none⟩), .int .i64 n] W (NumRes rr rb l s n a c W) := by
 obtain ⟨p, er⟩ := s
 by_cases he : er = 0
 ·subst he
  by_cases hcut : 8 * l.length < p + n
  ·exact num_cut rr rb l p a c n W h hn hl hcut
  ·exact num_yes rr rb l p a c n W h hn hl (by omega)
 ·exact num_err rr rb l p er a c n W h he
end Go.Proofs.YtomcdhljjmnahaaGreat.C26
namespace Go.Proofs.YtomcdhljjmnahaaGreat.C27
open Go.RowKit Go.Proofs.YtomcdhljjmnahaaGreat
theorem refget_no (bs : List Bool) (a : Option Addr) (c : Nat) (at' n : Nat) (w : World) (hlen : bs.length ≤ 1000000000) (hat : at' ≤ 1000000000000) (hn : n ≤ 32) (hcut : bs.length < at' + n) :
 Calls Tryz.prog 94 #[.slice a bs.length c, .int .i64 at', .int .i64 n] w fun e w' => e = .returned (.tuple #[.int .i64 0, .bool false]) ∧ w' = w := by
 have h0 : (bs.length : Int) - (at' : Int) < (n : Int) := by omega
 go_enter Tryz.func94, Tryz.ntmps94
 go_wp2_with fail
 go_ret2
 exact ⟨rfl, rfl⟩
def numAt (bs : List Bool) (at' n : Nat) : Nat := num true ((bs.drop at').take n)
theorem numAt_lt (bs : List Bool) (at' n : Nat) : numAt bs at' n < 2 ^ n := by
 have := num_lt true ((bs.drop at').take n)
 exact Nat.lt_of_lt_of_le this (Nat.pow_le_pow_right (by decide) (List.length_take_le _ _))
theorem numAt_lt32 (bs : List Bool) (at' n : Nat) (h : n ≤ 32) : numAt bs at' n < 4294967296 := Nat.lt_of_lt_of_le (numAt_lt bs at' n) (show 2 ^ n ≤ 2 ^ 32 from Nat.pow_le_pow_right (by decide) h)
set_option maxHeartbeats 1000000 in
theorem refget_yes (bs : List Bool) (a : Option Addr) (c : Nat) (at' n : Nat) (w : World) (hr : RowOf w a (bs.map Value.bool)) (hcap : bs.length ≤ c) (hnil : a = none → c = 0) (hlen : bs.length ≤ 1000000000) (hn : n ≤ 32) (hcut : at' + n ≤ bs.length) :
 Calls Tryz.prog 94 #[.slice a bs.length c, .int .i64 at', .int .i64 n] w fun e w' => e = .returned (.tuple #[.int .i64 (numAt bs at' n), .bool true]) ∧ w' = w := by
 have h0 : ¬ (bs.length : Int) - (at' : Int) < (n : Int) := by omega
 have hv := numAt_lt32 bs at' n hn
 obtain ⟨v, hvv⟩ : ∃ v, v = numAt bs at' n := ⟨_, rfl⟩
 have hlenS : ((bs.drop at').take n).length = n := by rw [List.length_take, List.length_drop]; omega
 have hrowS : RowOf w (a.map fun x => x.add at') (((bs.drop at').take n).map Value.bool) := by rw [List.map_take, List.map_drop]; exact row_take (row_drop hr at') n
 have HO := refof_any true (a.map fun x => x.add at') (c - at') _ w hrowS (by rw [hlenS]; exact hn)
 rw [hlenS, show num true ((bs.drop at').take n) = v from hvv.symm] at HO
 have HO' := qh HO
 have HV := qh hvv
 rw [← hvv] at hv ⊢
 have hsl : at' + n ≤ c := by omega
 clear HO hlenS hrowS hvv
 go_enter Tryz.func94, Tryz.ntmps94
 go_wp2_with fail
 ·obtain rfl : n = 0 := by omega
  have HO2 := refof_any true a 0 [] w (row_nil _ _) (by simp)
  rw [List.length_nil, show num true [] = v from by rw [HV.out]; unfold numAt; rw [List.take_zero]] at HO2
  refine HO2.mono ?_
  rintro e w6 ⟨rfl, hw6⟩
  obtain rfl := hw6.symm
  clear HO' HO2
  go_wp2_with fail
  go_ret2
  exact ⟨rfl, rfl⟩
 ·refine HO'.out.mono ?_
  rintro e w6 ⟨rfl, hw6⟩
  obtain rfl := hw6.symm
  clear HO'
  go_wp2_with fail
  go_ret2
  exact ⟨rfl, rfl⟩
theorem infoInt : (Tryz.prog.info? 3).map (fun i => (i.zero, i.size, i.bytes)) = some (some (.int .i64 0), 1, 8) := by kernel_rfl
def intV (x : Nat) : Value := .int .i64 (x : Int)
def vals (bs : List Bool) (at' w k : Nat) : List Nat := (List.range k).map fun j => numAt bs (at' + j * w) w
theorem vals_len (bs : List Bool) (at' w k : Nat) : (vals bs at' w k).length = k := by simp [vals]
theorem vals_succ (bs : List Bool) (at' w k : Nat) : vals bs at' w (k + 1) = vals bs at' w k ++ [numAt bs (at' + k * w) w] := by simp [vals, List.range_succ]
structure Fit (L at' w many K : Nat) : Prop where
 le : K ≤ many
 fits : at' + K * w ≤ L
 cut : K < many → L < at' + (K + 1) * w
theorem Fit.unique {L at' w many K K' : Nat} (h : Fit L at' w many K) (h' : Fit L at' w many K') : K = K' := by
 rcases Nat.lt_trichotomy K K' with h1 | h1 | h1
 ·have a := h.cut (Nat.lt_of_lt_of_le h1 h'.le)
  have b := h'.fits
  have c : (K + 1) * w ≤ K' * w := Nat.mul_le_mul_right w h1
  omega
 ·exact h1
 ·have a := h'.cut (Nat.lt_of_lt_of_le h1 h.le)
  have b := h.fits
  have c : (K' + 1) * w ≤ K * w := Nat.mul_le_mul_right w h1
  omega
def al8 (x : Nat) : Nat := 8 * ((x + 7) / 8)
def RowRes (bs : List Bool) (at' many n : Nat) (w : World) (e : Ending) (w' : World) : Prop :=
 ∃ K oa oc, Fit bs.length at' n many K ∧ e = .returned (.tuple #[.slice oa K oc, .int .i64 (if K = many then (al8 (at' + many * n) : Nat) else 0), .bool (decide (K = many))]) ∧ w'.ownsRow w.heap.size 3 1 (.slice oa K oc) K ((vals bs at' n K).map intV) ∧ Pure w w'
set_option maxHeartbeats 1000000 in
theorem refrow_any (bs : List Bool) (a : Option Addr) (c : Nat) (at' many n : Nat) (w : World) (hr : RowOf w a (bs.map Value.bool)) (hcap : bs.length ≤ c) (hnil : a = none → c = 0) (hlen : bs.length ≤ 1000000000) (hn : n ≤ 32) (hat : at' ≤ bs.length) (hm : many ≤ 1000000000) :
 Calls Tryz.prog 95 #[.slice a bs.length c, .int .i64 at', .int .i64 many, .int .i64 n] w (RowRes bs at' many n w) := by
 go_enter Tryz.func95, Tryz.ntmps95
 go_wp2_with fail
 go_loopw [1, 11, 12, 13, 14] (fun p v i _ _ wr => ∃ (k : Nat) (oa : Option Addr) (oc : Nat), k ≤ many ∧ at' + k * n ≤ bs.length ∧ i = .int .i64 k ∧ p = .int .i64 ((at' + k * n : Nat) : Int) ∧ v = .slice oa k oc ∧ wr.ownsRow w.heap.size 3 1 v k ((vals bs at' n k).map intV) ∧ Pure w wr) (fun _ _ i _ _ _ => many - (intOf i).toNat)
 case atStart => exact ⟨0, none, 0, Nat.zero_le _, by omega, rfl, by simp, rfl, World.ownsRow_nil _ _ _ _, Ext.refl _ _⟩
 case round =>
  obtain ⟨k, oa, oc, hk, hfit, rfl, rfl, rfl, hO, hE⟩ := hrel
  obtain ⟨p, hp⟩ : ∃ p, p = at' + k * n := ⟨_, rfl⟩
  rw [← hp] at hfit ⊢
  have hpn : at' + (k + 1) * n = p + n := by rw [hp, Nat.add_mul]; omega
  have HP := qh hp
  have HPN := qh hpn
  clear hp hpn
  have hrow := hr.ext hE (fun _ _ => id)
  by_cases hlt : k < many
  ·have hki : (k : Int) < (many : Int) := by omega
   by_cases hcut : bs.length < p + n
   ·have HG := qh (refget_no bs a c p n wr hlen (by omega) hn hcut)
    have hne : ¬ k = many := by omega
    have hF : Fit bs.length at' n many k := ⟨hk, by have := HP.out; omega, fun _ => by have := HPN.out; omega⟩
    clear hcut
    go_wp2_with fail
    refine HG.out.mono ?_
    rintro e w2 ⟨rfl, hw2⟩
    obtain rfl := hw2.symm
    go_wp2_with fail
    go_ret3
    exact ⟨k, oa, oc, hF, by rw [if_neg hne, decide_eq_false hne]; rfl, hO, hE⟩
   ·have hv := numAt_lt32 bs p n hn
    have HG0 := refget_yes bs a c p n wr hrow hcap hnil hlen hn (by omega)
    have hsucc := vals_succ bs at' n k
    rw [← HP.out] at hsucc
    obtain ⟨v, hvv⟩ : ∃ v, v = numAt bs p n := ⟨_, rfl⟩
    rw [← hvv] at hv HG0 hsucc
    have HG := qh HG0
    have HS := qh hsucc
    have hszB := hE.size
    have hpn2 : p + n ≤ bs.length := by omega
    clear HG0 hvv hsucc hcut hrow
    go_wp2_with fail
    refine HG.out.mono ?_
    rintro e w2 ⟨rfl, hw2⟩
    obtain rfl := hw2.symm
    clear HG
    go_wp2_with (at_builtin; refine wpList_append_fresh rfl (.tmp 30) (.tmp 32) 23 rfl w.heap.size 3 (.int .i64 0) 1 8 Tryz.underlying23 infoInt rfl (by decide) _ k ((vals bs at' n k).map intV) rfl (hO.alloc _) (some ⟨wr.heap.size, 0, none⟩) 1 1 [intV v] rfl (fun e => by cases e) rfl (row_at _ rfl rfl) (fun u hu => by simp at hu; subst hu; rfl) (k + 1) rfl ((vals bs at' n (k + 1)).map intV) (by rw [HS.out]; simp) (by omega) (by unfold maxLen; omega) (by simp; omega) ?_)
    intro a2 c2 w3 hO3 hg3 hfr3
    have hE3 : Pure w w3 := Ext.own (hE.alloc _) (hO.alloc _) hg3
    clear hE hO hg3 hfr3
    go_wp2_with fail
    go_roundw
    case rel => exact ⟨k + 1, a2, c2, by omega, by rw [HPN.out]; exact hpn2, by go_num, by rw [HPN.out]; go_num, rfl, hO3, hE3⟩
    case measure => simp [intOf]; omega
  ·have hki : ¬ (k : Int) < (many : Int) := by omega
   obtain rfl : k = many := by omega
   have hF : Fit bs.length at' n k k := ⟨Nat.le_refl _, by have := HP.out; omega, fun h => absurd h (Nat.lt_irrefl _)⟩
   obtain ⟨wo, rfl⟩ : ∃ wo : World, wo = wr := ⟨_, rfl⟩
   go_wp2_with fail
   go_loopw [1] (fun p' wr' => ∃ q : Nat, p' = .int .i64 q ∧ p ≤ q ∧ q ≤ al8 p ∧ wr' = wo) (fun p' _ => al8 p - (intOf p').toNat)
   case atStart => exact ⟨p, rfl, Nat.le_refl _, by unfold al8; omega, rfl⟩
   case round =>
    obtain ⟨q, rfl, hq1, hq2, hw⟩ := hrel
    obtain rfl := hw.symm
    obtain ⟨A8, hA8⟩ : ∃ A8, A8 = al8 p := ⟨_, rfl⟩
    rw [← hA8] at hq2 ⊢
    have hA8' : A8 = 8 * ((p + 7) / 8) := hA8
    have hA9 : A8 ≤ 1000000008 := by omega
    by_cases h8 : q % 8 = 0
    ·have h8' : ((q : Int) % 8 != 0) = false := by simp; omega
     have hqa : q = A8 := by omega
     have HQ := qh (hqa.trans (hA8.trans (by rw [HP.out])))
     clear hqa hA8 hA8' h8
     go_wp2_with fail
     go_ret3
     exact ⟨k, oa, oc, hF, by rw [if_pos rfl, decide_eq_true rfl, ← HQ.out]; rfl, hO, hE⟩
    ·have h8' : ((q : Int) % 8 != 0) = true := by simp; omega
     have hq3 : q + 1 ≤ A8 := by omega
     have HA := qh hA8
     clear hA8 hA8' h8
     go_wp2_with fail
     go_roundw
     case rel => exact ⟨q + 1, by go_num, by omega, by first | exact hq3 | (rw [← HA.out]; exact hq3), by first | rfl | trivial⟩
     case measure => simp [intOf]; omega
abbrev St := Nat × Int
def num1 (bs : List Bool) (s : St) (w : Nat) : Nat × St :=
 if s.2 = 0 then (if s.1 + w ≤ bs.length then (numAt bs s.1 w, (s.1 + w, 0)) else (0, (s.1, 10))) else (0, s)
theorem num1_err {bs : List Bool} {s : St} {w : Nat} (h : s.2 ≠ 0) : num1 bs s w = (0, s) := by unfold num1; rw [if_neg h]
theorem num1_cut {bs : List Bool} {p : Nat} {w : Nat} (h : bs.length < p + w) : num1 bs (p, 0) w = (0, (p, 10)) := by unfold num1; rw [if_pos rfl, if_neg (by simp; omega)]
theorem num1_yes {bs : List Bool} {p : Nat} {w : Nat} (h : p + w ≤ bs.length) : num1 bs (p, 0) w = (numAt bs p w, (p + w, 0)) := by unfold num1; rw [if_pos rfl, if_pos h]
structure RS (W : World) (rr rb : Nat) (l : List UInt8) (s : St) (a : Option Addr) (c : Nat) : Prop where
 blk : BlockIs W rr [.pointer (some ⟨rb, 0, none⟩), .int .i64 s.2] 140
 rd : RdIs W rb true l s.1 a c
 le : s.1 ≤ 8 * l.length
 ne : rr ≠ rb
 ap : ∀ g, a = some g → g.block ≠ rr
def RdS (rr rb : Nat) (i : Nat) : Prop := i = rr ∨ i = rb
theorem RS.ext {S : Nat → Prop} {W W' : World} {rr rb : Nat} {l : List UInt8} {s : St} {a : Option Addr} {c : Nat} (h : RS W rr rb l s a c) (e : Ext S W W') (h1 : ¬ S rr) (h2 : ¬ S rb) (h3 : ∀ g, a = some g → ¬ S g.block) : RS W' rr rb l s a c :=
 ⟨h.blk.ext e h1, h.rd.ext e h2 h3, h.le, h.ne, h.ap⟩
theorem RS.pure {W W' : World} {rr rb : Nat} {l : List UInt8} {s : St} {a : Option Addr} {c : Nat} (h : RS W rr rb l s a c) (e : Pure W W') : RS W' rr rb l s a c := h.ext e id id (fun _ _ => id)
theorem RS.setErr {W : World} {rr rb : Nat} {l : List UInt8} {p : Nat} {e0 : Int} {a : Option Addr} {c : Nat} (h : RS W rr rb l (p, e0) a c) (e1 : Int) : RS (W.setCell ⟨rr, 1, none⟩ (.int .i64 e1)) rr rb l (p, e1) a c := by
 have hE : Ext (fun i => i = rr) W (W.setCell ⟨rr, 1, none⟩ (.int .i64 e1)) := (Ext.refl (fun i => i = rr) W).setCell (p := ⟨rr, 1, none⟩) (fun _ => rfl) _
 exact ⟨by simpa using h.blk.set 1 (.int .i64 e1), h.rd.ext hE (fun e => h.ne e.symm) (fun g hg e => h.ap g hg e), h.le, h.ne, h.ap⟩
def NumRes (rr rb : Nat) (l : List UInt8) (s : St) (n : Nat) (a : Option Addr) (c : Nat) (W : World) (e : Ending) (W' : World) : Prop :=
 e = .returned (.int .i64 ((num1 (bitsOf true l) s n).1 : Nat)) ∧ RS W' rr rb l (num1 (bitsOf true l) s n).2 a c ∧ Ext (RdS rr rb) W W'
theorem num_err (rr rb : Nat) (l : List UInt8) (p : Nat) (er : Int) (a : Option Addr) (c : Nat) (n : Nat) (W : World) (h : RS W rr rb l (p, er) a c) (he : er ≠ 0) :
 Calls Tryz.prog 87 #[.pointer (some ⟨rr, 0, none⟩), .int .i64 n] W (NumRes rr rb l (p, er) n a c W) := by
 have h1 : W.cell? ⟨rr, 0 + 1, none⟩ = some (.int .i64 er) := h.blk.cell 1
 have he' : (er != 0) = true := by simpa using he
 have HN := qh (num1_err (bs := bitsOf true l) (s := (p, er)) (w := n) he)
 clear he
 go_enter Tryz.func87, Tryz.ntmps87
 go_wp2_with fail
 go_ret
 unfold NumRes
 rw [HN.out]
 exact ⟨rfl, h, Ext.refl _ _⟩
theorem num_cut (rr rb : Nat) (l : List UInt8) (p : Nat) (a : Option Addr) (c : Nat) (n : Nat) (W : World) (h : RS W rr rb l (p, 0) a c) (hn : n ≤ 32) (hl : l.length ≤ 10000000) (hcut : 8 * l.length < p + n) :
 Calls Tryz.prog 87 #[.pointer (some ⟨rr, 0, none⟩), .int .i64 n] W (NumRes rr rb l (p, 0) n a c W) := by
 have h0 : W.cell? ⟨rr, 0, none⟩ = some (.pointer (some ⟨rb, 0, none⟩)) := h.blk.cell 0
 have h1 : W.cell? ⟨rr, 0 + 1, none⟩ = some (.int .i64 0) := h.blk.cell 1
 have f1 : W.frozen? ⟨rr, 0 + 1, none⟩ = false := h.blk.free 1
 have HG := qh (get_no2 rb true l p a c n W h.rd (by omega) h.le hn hcut)
 have HN := qh (num1_cut (bs := bitsOf true l) (p := p) (w := n) (by rw [bitsOf_length]; exact hcut))
 clear hcut
 go_enter Tryz.func87, Tryz.ntmps87
 go_wp2_with fail
 refine HG.out.mono ?_
 rintro e w1 ⟨rfl, q, rfl⟩
 go_wp2_with fail
 go_ret
 unfold NumRes
 rw [HN.out]
 refine ⟨rfl, ?_, ?_⟩
 ·have := (h.pure ((Ext.refl (fun _ => False) W).drewN q)).setErr 10
  first | exact this | exact (h.setErr 10).pure ((Ext.refl (fun _ => False) _).drewN q)
 ·first | exact ((Ext.refl (RdS rr rb) W).drewN q).setCell (p := ⟨rr, 1, none⟩) (fun _ => Or.inl rfl) _ | exact ((Ext.refl (RdS rr rb) W).setCell (p := ⟨rr, 1, none⟩) (fun _ => Or.inl rfl) _).drewN q
theorem num_yes (rr rb : Nat) (l : List UInt8) (p : Nat) (a : Option Addr) (c : Nat) (n : Nat) (W : World) (h : RS W rr rb l (p, 0) a c) (hn : n ≤ 32) (hl : l.length ≤ 10000000) (hcut : p + n ≤ 8 * l.length) :
 Calls Tryz.prog 87 #[.pointer (some ⟨rr, 0, none⟩), .int .i64 n] W (NumRes rr rb l (p, 0) n a c W) := by
 have h0 : W.cell? ⟨rr, 0, none⟩ = some (.pointer (some ⟨rb, 0, none⟩)) := h.blk.cell 0
 have h1 : W.cell? ⟨rr, 0 + 1, none⟩ = some (.int .i64 0) := h.blk.cell 1
 have hv := numAt_lt32 (bitsOf true l) p n hn
 have HG0 := get_yes rb true l p a c n W h.rd (by omega) hn hcut
 obtain ⟨v, hvv⟩ : ∃ v, v = numAt (bitsOf true l) p n := ⟨_, rfl⟩
 rw [show num true (((bitsOf true l).drop p).take n) = v from hvv.symm] at HG0
 have HN0 := num1_yes (bs := bitsOf true l) (p := p) (w := n) (by rw [bitsOf_length]; exact hcut)
 rw [← hvv] at hv HN0
 have HG := qh HG0
 have HN := qh HN0
 have HC := qh hcut
 have hne := h.ne
 have hap := h.ap
 have hblk := h.blk
 clear HG0 HN0 hvv hcut h
 go_enter Tryz.func87, Tryz.ntmps87
 go_wp2_with fail
 refine HG.out.mono ?_
 rintro e w1 ⟨rfl, hR, hE⟩
 have hblk1 := hblk.ext hE hne
 have c1 : w1.cell? ⟨rr, 0 + 1, none⟩ = some (.int .i64 0) := hblk1.cell 1
 have f1 : w1.frozen? ⟨rr, 0 + 1, none⟩ = false := hblk1.free 1
 clear HG
 go_wp2_with fail
 go_ret
 unfold NumRes
 rw [HN.out]
 have hRS : RS w1 rr rb l (p + n, 0) a c := ⟨hblk1, hR, HC.out, hne, hap⟩
 exact ⟨rfl, hRS.setErr 0, (hE.mono (T := RdS rr rb) (fun i _ e => Or.inr e)).setCell (p := ⟨rr, 1, none⟩) (fun _ => Or.inl rfl) _⟩
theorem num_any (rr rb : Nat) (l : List UInt8) (s : St) (a : Option Addr) (c : Nat) (n : Nat) (W : World) (h : RS W rr rb l s a c) (hn : n ≤ 32) (hl : l.length ≤ 10000000) :
 Calls Tryz.prog 87 #[.pointer (some ⟨rr, 0, none⟩), .int .i64 n] W (NumRes rr rb l s n a c W) := by
 obtain ⟨p, er⟩ := s
 by_cases he : er = 0
 ·subst he
  by_cases hcut : 8 * l.length < p + n
  ·exact num_cut rr rb l p a c n W h hn hl hcut
  ·exact num_yes rr rb l p a c n W h hn hl (by omega)
 ·exact num_err rr rb l p er a c n W h he
end Go.Proofs.YtomcdhljjmnahaaGreat.C27
namespace Go.Proofs.YtomcdhljjmnahaaGreat.C26
open Go.RowKit Go.Proofs.YtomcdhljjmnahaaGreat
theorem numAt_mid {bs pre post : List Bool} {x n p : Nat} (hb : bs = pre ++ (bitsNum true x n ++ post)) (hp : p = pre.length) (hx : x < 2 ^ n) : numAt bs p n = x := by
 subst hb hp
 unfold numAt
 rw [List.drop_left' rfl, List.take_left' (bitsNum_length true x n)]
 exact num_bitsNum true x n hx
theorem vals_cons (bs : List Bool) (p w k : Nat) : vals bs p w (k + 1) = numAt bs p w :: vals bs (p + w) w k := by
 unfold vals
 rw [List.range_succ_eq_map, List.map_cons, List.map_map]
 congr 1
 ·rw [Nat.zero_mul, Nat.add_zero]
 ·refine List.map_congr_left fun j _ => ?_
  simp only [Function.comp, Nat.succ_eq_add_one]
  rw [show p + (j + 1) * w = p + w + j * w from by rw [Nat.add_mul]; omega]
theorem vals_flat {bs post : List Bool} {w p n : Nat} : ∀ (xs : List Nat) (pre : List Bool), bs = pre ++ (xs.flatMap (fun x => bitsNum true x w) ++ post) → p = pre.length → n = xs.length → (∀ x ∈ xs, x < 2 ^ w) → vals bs p w n = xs := by
 intro xs
 induction xs generalizing p n with
 | nil => intro pre _ _ hn _; subst hn; rfl
 | cons x xs ih =>
   intro pre hb hp hn hx
   subst hn
   rw [List.length_cons, vals_cons, numAt_mid (pre := pre) (post := xs.flatMap (fun x => bitsNum true x w) ++ post) (by rw [hb, List.flatMap_cons, List.append_assoc]) hp (hx x (by simp))]
   congr 1
   exact ih (pre ++ bitsNum true x w) (by rw [hb, List.flatMap_cons, List.append_assoc, List.append_assoc]) (by rw [List.length_append, bitsNum_length, hp]) rfl (fun y hy => hx y (by simp [hy]))
def bitN (b : Bool) : Nat := if b then 1 else 0
theorem sum_bits (l : List Bool) : (l.map bitN).sum = l.count true := by
 induction l with
 | nil => rfl
 | cons b l ih => rw [List.map_cons, List.sum_cons, ih, List.count_cons]; cases b <;> simp [bitN] <;> omega
theorem bitsOf_append (high : Bool) (x y : List UInt8) : bitsOf high (x ++ y) = bitsOf high x ++ bitsOf high y := by
 apply List.ext_getElem (by rw [List.length_append, bitsOf_length, bitsOf_length, bitsOf_length, List.length_append]; omega)
 intro k h1 h2
 have h1' : k < 8 * (x ++ y).length := by simpa [bitsOf_length] using h1
 have e1 := bitsOf_get high (x ++ y) k h1'
 rw [List.getD_eq_getElem?_getD, List.getElem?_eq_getElem h1, Option.getD_some] at e1
 rw [e1]
 by_cases h : k < (bitsOf high x).length
 ·rw [List.getElem_append_left h]
  have hk : k < 8 * x.length := by rwa [bitsOf_length] at h
  have e2 := bitsOf_get high x k hk
  rw [List.getD_eq_getElem?_getD, List.getElem?_eq_getElem h, Option.getD_some] at e2
  rw [e2]; unfold bitOf
  rw [List.getD_eq_getElem?_getD, List.getD_eq_getElem?_getD, List.getElem?_append_left (by omega)]
 ·have hge : 8 * x.length ≤ k := by rw [bitsOf_length] at h; omega
  have hk : k - (bitsOf high x).length < (bitsOf high y).length := by rw [List.length_append] at h2; omega
  rw [List.getElem_append_right (by omega)]
  have hk' : k - 8 * x.length < 8 * y.length := by rw [bitsOf_length, bitsOf_length] at hk; omega
  have e2 := bitsOf_get high y (k - (bitsOf high x).length) (by rw [bitsOf_length]; exact hk')
  rw [List.getD_eq_getElem?_getD, List.getElem?_eq_getElem hk, Option.getD_some] at e2
  rw [e2, bitsOf_length]; unfold bitOf
  rw [List.getD_eq_getElem?_getD, List.getD_eq_getElem?_getD, List.getElem?_append_right (by omega), show k / 8 - x.length = (k - 8 * x.length) / 8 from by omega, show (k - 8 * x.length) % 8 = k % 8 from by omega]
theorem al8_id {x : Nat} (h : x % 8 = 0) : al8 x = x := by unfold al8; omega
theorem al8_align (bs : List Bool) : (align bs).length = al8 bs.length := align_length bs
end Go.Proofs.YtomcdhljjmnahaaGreat.C26
namespace Go.Proofs.YtomcdhljjmnahaaGreat.C27
open Go.RowKit Go.Proofs.YtomcdhljjmnahaaGreat
theorem numAt_mid {bs pre post : List Bool} {x n p : Nat} (hb : bs = pre ++ (bitsNum true x n ++ post)) (hp : p = pre.length) (hx : x < 2 ^ n) : numAt bs p n = x := by
 subst hb hp
 unfold numAt
 rw [List.drop_left' rfl, List.take_left' (bitsNum_length true x n)]
 exact num_bitsNum true x n hx
theorem vals_cons (bs : List Bool) (p w k : Nat) : vals bs p w (k + 1) = numAt bs p w :: vals bs (p + w) w k := by
 unfold vals
 rw [List.range_succ_eq_map, List.map_cons, List.map_map]
 congr 1
 ·rw [Nat.zero_mul, Nat.add_zero]
 ·refine List.map_congr_left fun j _ => ?_
  simp only [Function.comp, Nat.succ_eq_add_one]
  rw [show p + (j + 1) * w = p + w + j * w from by rw [Nat.add_mul]; omega]
theorem vals_flat {bs post : List Bool} {w p n : Nat} : ∀ (xs : List Nat) (pre : List Bool), bs = pre ++ (xs.flatMap (fun x => bitsNum true x w) ++ post) → p = pre.length → n = xs.length → (∀ x ∈ xs, x < 2 ^ w) → vals bs p w n = xs := by
 intro xs
 induction xs generalizing p n with
 | nil => intro pre _ _ hn _; subst hn; rfl
 | cons x xs ih =>
   intro pre hb hp hn hx
   subst hn
   rw [List.length_cons, vals_cons, numAt_mid (pre := pre) (post := xs.flatMap (fun x => bitsNum true x w) ++ post) (by rw [hb, List.flatMap_cons, List.append_assoc]) hp (hx x (by simp))]
   congr 1
   exact ih (pre ++ bitsNum true x w) (by rw [hb, List.flatMap_cons, List.append_assoc, List.append_assoc]) (by rw [List.length_append, bitsNum_length, hp]) rfl (fun y hy => hx y (by simp [hy]))
def bitN (b : Bool) : Nat := if b then 1 else 0
theorem bits_flat (l : List Bool) : (l.map bitN).flatMap (fun x => bitsNum true x 1) = l := by
 induction l with
 | nil => rfl
 | cons b l ih => rw [List.map_cons, List.flatMap_cons, ih]; cases b <;> rfl
theorem vals_bits {bs pre post l : List Bool} {p n : Nat} (hb : bs = pre ++ (l ++ post)) (hp : p = pre.length) (hn : n = l.length) : vals bs p 1 n = l.map bitN :=
 vals_flat (post := post) (l.map bitN) pre (by rw [bits_flat]; exact hb) hp (by rw [List.length_map]; exact hn) (fun x hx => by obtain ⟨b, _, rfl⟩ := List.mem_map.1 hx; cases b <;> decide)
theorem sum_bits (l : List Bool) : (l.map bitN).sum = l.count true := by
 induction l with
 | nil => rfl
 | cons b l ih => rw [List.map_cons, List.sum_cons, ih, List.count_cons]; cases b <;> simp [bitN] <;> omega
theorem bitsOf_append (high : Bool) (x y : List UInt8) : bitsOf high (x ++ y) = bitsOf high x ++ bitsOf high y := by
 apply List.ext_getElem (by rw [List.length_append, bitsOf_length, bitsOf_length, bitsOf_length, List.length_append]; omega)
 intro k h1 h2
 have h1' : k < 8 * (x ++ y).length := by simpa [bitsOf_length] using h1
 have e1 := bitsOf_get high (x ++ y) k h1'
 rw [List.getD_eq_getElem?_getD, List.getElem?_eq_getElem h1, Option.getD_some] at e1
 rw [e1]
 by_cases h : k < (bitsOf high x).length
 ·rw [List.getElem_append_left h]
  have hk : k < 8 * x.length := by rwa [bitsOf_length] at h
  have e2 := bitsOf_get high x k hk
  rw [List.getD_eq_getElem?_getD, List.getElem?_eq_getElem h, Option.getD_some] at e2
  rw [e2]; unfold bitOf
  rw [List.getD_eq_getElem?_getD, List.getD_eq_getElem?_getD, List.getElem?_append_left (by omega)]
 ·have hge : 8 * x.length ≤ k := by rw [bitsOf_length] at h; omega
  have hk : k - (bitsOf high x).length < (bitsOf high y).length := by rw [List.length_append] at h2; omega
  rw [List.getElem_append_right (by omega)]
  have hk' : k - 8 * x.length < 8 * y.length := by rw [bitsOf_length, bitsOf_length] at hk; omega
  have e2 := bitsOf_get high y (k - (bitsOf high x).length) (by rw [bitsOf_length]; exact hk')
  rw [List.getD_eq_getElem?_getD, List.getElem?_eq_getElem hk, Option.getD_some] at e2
  rw [e2, bitsOf_length]; unfold bitOf
  rw [List.getD_eq_getElem?_getD, List.getD_eq_getElem?_getD, List.getElem?_append_right (by omega), show k / 8 - x.length = (k - 8 * x.length) / 8 from by omega, show (k - 8 * x.length) % 8 = k % 8 from by omega]
theorem al8_id {x : Nat} (h : x % 8 = 0) : al8 x = x := by unfold al8; omega
theorem al8_align (bs : List Bool) : (align bs).length = al8 bs.length := align_length bs
end Go.Proofs.YtomcdhljjmnahaaGreat.C27
namespace Go.Proofs.YtomcdhljjmnahaaGreat
open Go.ChangeShapes Go.WideShapes Go.ChangeAt Go.RowKit
theorem own : ownKnob Tryz.prog.godebug = none := by kernel_rfl
theorem laidOut : laidOutB Tryz.prog = true := by kernel_rfl
theorem spot_none {w : World} {x : Addr} {v : Value} (h : w.cell? x = some v) : x.spot = none := by
 unfold World.cell? at h
 split at h
 ·split at h
  ·cases h
  ·next hs => simpa using hs
 ·cases h
theorem choose_list {τ : Type} {n : Nat} {p : Nat → τ → Prop} (h : ∀ i, i < n → ∃ q, p i q) : ∃ ps : List τ, ps.length = n ∧ ∀ i (hi : i < ps.length), p i ps[i] := by
 induction n with
 | zero => exact ⟨[], rfl, fun i hi => by simp at hi⟩
 | succ n ih =>
   obtain ⟨ps, hl, hp⟩ := ih (fun i hi => h i (by omega))
   obtain ⟨q, hq⟩ := h n (by omega)
   refine ⟨ps ++ [q], by simp [hl], fun i hi => ?_⟩
   by_cases e : i < ps.length
   ·rw [List.getElem_append_left e]; exact hp i e
   ·have e' : i = n := by simp at hi; omega
    subst e'
    rw [List.getElem_append_right (by omega)]; simp [hl, hq]
theorem flat_get {τ : Type} {size : Nat} (f : τ → List Value) (rows : List τ) (hs : ∀ r ∈ rows, (f r).length = size) (i : Nat) (hi : i < rows.length) (j : Nat) (hj : j < size) : (rows.flatMap f)[i * size + j]? = (f rows[i])[j]? := by
 induction rows generalizing i with
 | nil => simp at hi
 | cons r rows ih =>
   have h0 := hs r (by simp)
   rw [List.flatMap_cons]
   cases i with
   | zero => rw [Nat.zero_mul, Nat.zero_add, List.getElem?_append_left (by omega)]; rfl
   | succ i =>
     rw [List.getElem?_append_right (by rw [h0, Nat.add_mul]; omega), h0, show (i + 1) * size + j - size = i * size + j from by rw [Nat.add_mul]; omega, ih (fun r hr => hs r (by simp [hr])) i (by simpa using hi)]
     simp
theorem flat_len {τ : Type} {size : Nat} (f : τ → List Value) (rows : List τ) (hs : ∀ r ∈ rows, (f r).length = size) : (rows.flatMap f).length = rows.length * size := by
 induction rows with
 | nil => simp
 | cons r rows ih => rw [List.flatMap_cons, List.length_append, hs r (by simp), ih (fun r hr => hs r (by simp [hr])), List.length_cons, Nat.add_mul]; omega
theorem div_mod_of {k size n : Nat} (h : k < n * size) : k / size < n ∧ k % size < size ∧ k / size * size + k % size = k := by
 have hs : 0 < size := by rcases Nat.eq_zero_or_pos size with e | e; subst e; simp at h; exact e
 exact ⟨Nat.div_lt_of_lt_mul (by rw [Nat.mul_comm]; exact h), Nat.mod_lt _ hs, by rw [Nat.mul_comm]; exact Nat.div_add_mod _ _⟩
section
variable {P : Program} {H : Type} {enc : TypeId × Value → H} {W : World} {held : Bool}
theorem open_rows2 {τ : Type} {Q : List Value → τ → Prop} {t e size fuel : Nat} {cs : List Value} {x : DataW H × List MemPlace} (ht : P.underlying t = some (.slice e)) (hsz : P.cellsOf e = size) (hpos : 0 < size)
 (hel : ∀ n cs y, n < fuel → DataW.trod enc P W 0 (fun _ => true) held n e cs = some y → cs.length = size → ∃ v, Q cs v) (h : DataW.trod enc P W 0 (fun _ => true) held fuel t cs = some x) :
 ∃ (a : Option Addr) (cap : Nat) (rows : List (List Value × τ)), cs = [.slice a rows.length cap] ∧ rows.length ≤ cap ∧ cap ≤ maxLen ∧ (a = none → cap = 0) ∧ (∀ r ∈ rows, r.1.length = size ∧ Q r.1 r.2) ∧ RowOf W a (rows.flatMap (·.1)) := by
 rcases DataW.trod_slice ht h with ⟨rfl, _⟩ | ⟨a, len, m, elems, rest, n, hfu, rfl, _, _, hl, hm, hel2, hx, _⟩
 ·exact ⟨none, 0, [], rfl, Nat.le_refl _, Nat.zero_le _, fun _ => rfl, fun r hr => by simp at hr, row_nil _ _⟩
 ·obtain ⟨rows, hrl, hrows⟩ := choose_list (n := len) (p := fun i (r : List Value × τ) => W.cells? 0 (a.add (i * size)) size = some r.1 ∧ r.1.length = size ∧ Q r.1 r.2) (fun i hi => by
   have h1 := hx i hi
   rw [hsz, List.getElem?_eq_getElem (by omega)] at h1
   obtain ⟨cs', h2, h3⟩ := Option.bind_eq_some_iff.1 h1
   obtain ⟨_, hlen, _⟩ := World.cells?_some h2
   obtain ⟨v, hv⟩ := hel n _ _ (by omega) h3 hlen
   exact ⟨(cs', v), h2, hlen, hv⟩)
  have hsize : ∀ r ∈ rows, r.1.length = size := fun r hr => by
   obtain ⟨i, hi, rfl⟩ := List.mem_iff_getElem.1 hr
   exact (hrows i hi).2.1
  refine ⟨some a, m, rows, by rw [hrl], by rw [hrl]; exact hl, hm, (fun h => by cases h), fun r hr => ?_, fun k u hk => ?_⟩
  ·obtain ⟨i, hi, rfl⟩ := List.mem_iff_getElem.1 hr
   exact (hrows i hi).2
  ·have hklt := (List.getElem?_eq_some_iff.1 hk).1
   rw [flat_len (·.1) rows hsize] at hklt
   obtain ⟨h1, h2, h3⟩ := div_mod_of hklt
   rw [← h3, flat_get (·.1) rows hsize _ h1 _ h2] at hk
   obtain ⟨hc, _, _⟩ := hrows _ h1
   obtain ⟨_, _, hcell⟩ := World.cells?_some hc
   have h0 : 0 < rows.length := Nat.lt_of_le_of_lt (Nat.zero_le _) h1
   obtain ⟨hc0, hl0, _⟩ := hrows 0 h0
   obtain ⟨_, _, hcell0⟩ := World.cells?_some hc0
   have g0 := (hcell0 0 hpos).trans (List.getElem?_eq_getElem (show 0 < rows[0].1.length by omega))
   have g1 := (hcell _ h2).trans hk
   obtain ⟨b, o, s⟩ := a
   have hs : s = none := by
    have := spot_none g0
    simpa [Addr.add] using this
   subst hs
   refine ⟨b, o, rfl, ?_⟩
   rw [addr_add, addr_add] at g1
   rw [← h3, ← Nat.add_assoc]; exact g1
end
end Go.Proofs.YtomcdhljjmnahaaGreat
namespace Go.Proofs.YtomcdhljjmnahaaGreat
open Go.RowKit
def normalOnly (K : Act → World → Prop) : Exit → Act → World → Prop
 | .normal, a, w => K a w
 | _, _, _ => False
theorem normalOnly_out {K : Act → World → Prop} (h : LetsOut (normalOnly K)) : False := by obtain ⟨a, w, h⟩ := h; exact h
theorem step_of_list {P : Program} {ops : Array Oper} {o : Oper} {a : Act} {w : World} {K : Act → World → Prop} {Q : Exit → Act → World → Prop}
 (h : wpList P ops (normalOnly K) [o] a w) : if Region.wanted o (yielded ops a.tmps) = true then Oper.wp P o a w K Q else K (a.put o.dst undef) w := by
 unfold wpList at h
 split at h
 ·rename_i hw
  rw [if_pos hw]
  rcases h with h | ⟨_, h⟩
  ·unfold Oper.wp at *
   generalize (execOp a.eval o).run P w = r at *
   cases r with
   | ok n w' =>
     cases n <;> simp only [Oper.upon] at h ⊢ <;>
      first
       | exact h
       | exact h.elim
       | exact (normalOnly_out h).elim
       | exact Calls.mono h (fun e w'' he => by cases e <;> first | exact he | exact he.elim | exact (normalOnly_out he).elim)
       | exact Rows.mono h (fun _ _ he => he)
   | halt x w' => cases x <;> simp only [Oper.upon] at h ⊢ <;> first | exact h.elim | exact (normalOnly_out h).elim | exact h
  ·exact (normalOnly_out h).elim
 ·rename_i hw
  rw [if_neg hw]
  exact h
theorem setRow_is {w : World} {g : Nat} {cur new : List Value} {t : TypeId} (hg : BlockIs w g cur t) : BlockIs (w.setRow g new.toArray) g new t := setRow_heap w g _ _ t _ hg
theorem setRow_ext (w : World) (g : Nat) (cs : Array Value) : Ext (fun k => k = g) w (w.setRow g cs) :=
 ⟨rfl, rfl, rfl, by simp [World.setRow], fun k hk hn => setRow_other w g k cs hn⟩
theorem loads {P : Program} {w : World} {sp : Option Addr} {cs : List Value} (n size len cap : Nat) (hl : cs.length = n * size) (hr : 0 < cs.length → RowOf w sp cs) (hsp : sp = none → cs = []) : (Builtin.firstCells size n (.slice sp len cap)).run P w = .ok cs.toArray w := by
 cases sp with
 | none => obtain rfl := hsp rfl; exact run_firstCells_none w size n len cap
 | some ad =>
   refine run_firstCells_some w size n ad len cap cs hl (fun j v hj => ?_)
   have hlt := (List.getElem?_eq_some_iff.1 hj).1
   obtain ⟨b, o, h1, h2⟩ := hr (by omega) j v hj
   cases h1
   rw [addr_add]; exact h2
theorem run_copy_big {P : Program} (w : World) (dT sT ty elem : TypeId) (size : Nat) (hu : P.underlying dT = some (.slice elem)) (hsz : (P.info? elem).map (·.size) = some size)
 (dp sp : Option Addr) (dLen dCap sLen sCap g off : Nat) (cur : List Value) (t : TypeId) (hg : BlockIs w g cur t) (cs : List Value) (hn : cs.length = Nat.min sLen dLen * size)
 (hpos : 0 < cs.length → dp = some ⟨g, off, none⟩ ∧ RowOf w sp cs) (hfit : off + cs.length ≤ cur.length) (h1 : ∀ v ∈ cs, v.oneCell' = true) :
 ∃ w', BlockIs w' g (splice cur off cs) t ∧ Ext (fun k => k = g) w w' ∧ (Builtin.copy_ #[dT, sT] ty #[.slice dp dLen dCap, .slice sp sLen sCap]).run P w = .ok (goInt (Nat.min sLen dLen)) w' := by
 by_cases h0 : cs.length = 0
 ·obtain rfl : cs = [] := List.eq_nil_of_length_eq_zero h0
  refine ⟨w, by simpa [splice] using hg, Ext.refl _ _, ?_⟩
  have hl := loads (P := P) (w := w) (sp := sp) (cs := []) (Nat.min sLen dLen) size sLen sCap hn (fun h => by simp at h) (fun _ => rfl)
  cases hq : P.info? elem with
  | none => simp [hq] at hsz
  | some i =>
    have hi : i.size = size := by simpa [hq] using hsz
    cases dp <;> simp [Builtin.copy_, run_underlying hu, Builtin.lenOf, sizeOf, typeInfo, hq, hi, hl, storeCells]
 ·obtain ⟨rfl, hR⟩ := hpos (by omega)
  have hl := loads (P := P) (w := w) (sp := sp) (cs := cs) (Nat.min sLen dLen) size sLen sCap hn (fun _ => hR) (fun e => by
   subst e
   have hlt : 0 < cs.length := by omega
   obtain ⟨_, _, h, _⟩ := hR 0 _ (List.getElem?_eq_getElem hlt)
   cases h)
  have hst := run_storeCells_at P g off t cs 0 cur.toArray w hg (by simpa using hfit) h1
  refine ⟨w.setRow g (splice cur off cs).toArray, setRow_is hg, setRow_ext _ _ _, ?_⟩
  cases hq : P.info? elem with
  | none => simp [hq] at hsz
  | some i =>
    have hi : i.size = size := by simpa [hq] using hsz
    simp [Builtin.copy_, run_underlying hu, Builtin.lenOf, sizeOf, typeInfo, hq, hi, hl, hst, splice]
theorem wpList_copy_big {P : Program} {w : World} {ops : Array Oper} {rest : List Oper} {o : Oper} {a : Act} {Q : Exit → Act → World → Prop} (hgd : o.guard = none) (d s : Operand) (dT sT : TypeId)
 (ho : o.op = .call { callee := .builtin .copy, args := #[d, s], argTypes := #[dT, sT] }) (elem : TypeId) (size : Nat) (hu : P.underlying dT = some (.slice elem)) (hsz : (P.info? elem).map (·.size) = some size)
 (dp sp : Option Addr) (dLen dCap sLen sCap : Nat) (hd : a.eval d = .slice dp dLen dCap) (hs : a.eval s = .slice sp sLen sCap)
 (g off : Nat) (cur : List Value) (t : TypeId) (hg : BlockIs w g cur t) (cs : List Value) (hn : cs.length = Nat.min sLen dLen * size)
 (hpos : 0 < cs.length → dp = some ⟨g, off, none⟩ ∧ RowOf w sp cs) (hfit : off + cs.length ≤ cur.length) (h1 : ∀ v ∈ cs, v.oneCell' = true)
 (h : ∀ w', BlockIs w' g (splice cur off cs) t → Ext (fun k => k = g) w w' → wpList P ops Q rest (a.put o.dst (goInt (Nat.min sLen dLen))) w') :
 wpList P ops Q (o :: rest) a w := by
 refine wpList_plain hgd fun K hK => ?_
 obtain ⟨w', hb, hE, hrun⟩ := run_copy_big (P := P) w dT sT o.type elem size hu hsz dp sp dLen dCap sLen sCap g off cur t hg cs hn hpos hfit h1
 unfold Oper.wp
 simp [execOp, ho, resolve, invoke, builtin, hd, hs, hrun, Result.andThen]
 exact hK _ _ (h w' hb hE)
theorem step_copy_big {P : Program} {ops : Array Oper} {o : Oper} {a : Act} {w : World} {K : Act → World → Prop} {Q : Exit → Act → World → Prop} {E : Prop} (hgd : o.guard = none) (d s : Operand) (dT sT : TypeId)
 (ho : o.op = .call { callee := .builtin .copy, args := #[d, s], argTypes := #[dT, sT] }) (elem : TypeId) (size : Nat) (hu : P.underlying dT = some (.slice elem)) (hsz : (P.info? elem).map (·.size) = some size)
 (dp sp : Option Addr) (dLen dCap sLen sCap : Nat) (hd : a.eval d = .slice dp dLen dCap) (hs : a.eval s = .slice sp sLen sCap)
 (g off : Nat) (cur : List Value) (t : TypeId) (hg : BlockIs w g cur t) (cs : List Value) (hn : cs.length = Nat.min sLen dLen * size)
 (hpos : 0 < cs.length → dp = some ⟨g, off, none⟩ ∧ RowOf w sp cs) (hfit : off + cs.length ≤ cur.length) (h1 : ∀ v ∈ cs, v.oneCell' = true)
 (h : ∀ w', BlockIs w' g (splice cur off cs) t → Ext (fun k => k = g) w w' → K (a.put o.dst (goInt (Nat.min sLen dLen))) w') :
 if Region.wanted o (yielded ops a.tmps) = true then Oper.wp P o a w K Q else E := by
 have hw : Region.wanted o (yielded ops a.tmps) = true := by simp [Region.wanted, hgd]
 rw [if_pos hw]
 obtain ⟨w', hb, hE, hrun⟩ := run_copy_big (P := P) w dT sT o.type elem size hu hsz dp sp dLen dCap sLen sCap g off cur t hg cs hn hpos hfit h1
 unfold Oper.wp
 simp [execOp, ho, resolve, invoke, builtin, hd, hs, hrun, Result.andThen]
 exact h w' hb hE
theorem wpList_clear_big {P : Program} {w : World} {ops : Array Oper} {rest : List Oper} {o : Oper} {a : Act} {Q : Exit → Act → World → Prop} (hgd : o.guard = none) (d : Operand) (dT : TypeId)
 (ho : o.op = .call { callee := .builtin .clear, args := #[d], argTypes := #[dT] }) (elem : TypeId) (hu : P.underlying dT = some (.slice elem)) (z : Value) (hz : ∀ w, (zeroValue elem).run P w = .ok z w) (hz1 : ∀ v ∈ z.cells, v.oneCell' = true)
 (dp : Option Addr) (dLen dCap : Nat) (hd : a.eval d = .slice dp dLen dCap)
 (g off : Nat) (cur : List Value) (t : TypeId) (hg : BlockIs w g cur t) (hpos : 0 < dLen → dp = some ⟨g, off, none⟩) (hfit : off + dLen * z.cells.size ≤ cur.length)
 (h : ∀ w' cur', BlockIs w' g cur' t → cur'.length = cur.length → cur'.take off = cur.take off → Ext (fun k => k = g) w w' → wpList P ops Q rest (a.put o.dst (.tuple #[])) w') :
 wpList P ops Q (o :: rest) a w := by
 refine wpList_plain hgd fun K hK => ?_
 by_cases h0 : dLen = 0
 ·subst h0
  have hrun : (Builtin.clear_ #[dT] o.type #[.slice dp 0 dCap]).run P w = .ok (.tuple #[]) w := by
   cases dp <;> simp [Builtin.clear_, run_underlying hu]
  unfold Oper.wp
  simp [execOp, ho, resolve, invoke, builtin, hd, hrun, Result.andThen]
  exact hK _ _ (h w cur hg rfl rfl (Ext.refl _ _))
 ·obtain rfl := hpos (by omega)
  obtain ⟨zs, hzs⟩ : ∃ zs, zs = (Builtin.zeroCells z.cells dLen).toList := ⟨_, rfl⟩
  have hzl : zs.length = dLen * z.cells.size := by rw [hzs]; simp [Builtin.zeroCells]
  have hz2 : ∀ v ∈ zs, v.oneCell' = true := by
   intro v hv
   rw [hzs] at hv
   simp only [Builtin.zeroCells, Array.mem_toList_iff, Array.mem_map, Array.mem_range] at hv
   obtain ⟨k, hk, rfl⟩ := hv
   have hm : k % z.cells.size < z.cells.size := Nat.mod_lt _ (by rcases Nat.eq_zero_or_pos z.cells.size with e | e; rw [e] at hk; simp at hk; exact e)
   rw [getElem!_pos z.cells _ hm]
   exact hz1 _ (Array.getElem_mem hm)
  have hst := run_storeCells_at P g off t zs 0 cur.toArray w hg (by rw [hzl]; simpa using hfit) hz2
  have hrun : (Builtin.clear_ #[dT] o.type #[.slice (some ⟨g, off, none⟩) dLen dCap]).run P w = .ok (.tuple #[]) (w.setRow g (splice cur off zs).toArray) := by
   obtain ⟨m, rfl⟩ : ∃ m, dLen = m + 1 := ⟨dLen - 1, by omega⟩
   simp [Builtin.clear_, run_underlying hu, hz, ← hzs, hst, splice]
  unfold Oper.wp
  simp [execOp, ho, resolve, invoke, builtin, hd, hrun, Result.andThen]
  refine hK _ _ (h _ (splice cur off zs) (setRow_is hg) (length_splice _ _ _ (by omega)) ?_ (setRow_ext _ _ _))
  rw [splice, List.take_append_of_le_length (by simp; omega), List.take_take, Nat.min_self]
theorem wpList_append_make {P : Program} {w : World} {ops : Array Oper} {rest : List Oper} {o : Oper} {a : Act} {Q : Exit → Act → World → Prop} (hgd : o.guard = none) (s x : Operand) (t tn : TypeId)
 (ho : o.op = .call { callee := .builtin .append, args := #[s, x], argTypes := #[t, tn] }) (e : TypeId) (ht : P.underlying t = some (.slice e)) (htn : P.underlying tn = some (.int .i64))
 (z : Value) (size bytes : Nat) (hinfo : (P.info? e).map (fun i => (i.zero, i.size, i.bytes)) = some (some z, size, bytes)) (hzs : z.cells.size = size) (hsz : 0 < size)
 (sp : Option Addr) (n c k : Nat) (xs : List Value) (hs : a.eval s = .slice sp n c) (hx : a.eval x = .int .i64 k) (hl : xs.length = n * size) (hr : 0 < xs.length → RowOf w sp xs) (hsp : sp = none → xs = [])
 (h0 : 0 < k) (hroom : c < n + k) (hbytes : (n + k) * bytes ≤ 140737488355328) (h63 : n + k ≤ maxLen)
 (h : ∀ w' G rest', BlockIs w' w.heap.size (xs ++ rest') e → rest'.length + xs.length = G * size → n + k ≤ G → G ≤ maxLen → Pure w w' → wpList P ops Q rest (a.put o.dst (.slice (some ⟨w.heap.size, 0, none⟩) (n + k) G)) w') :
 wpList P ops Q (o :: rest) a w := by
 obtain ⟨i, hi, hz, hsize, hby⟩ := info_parts hinfo
 have hold : (Builtin.firstCells i.size n (.slice sp n c)).run P w.drew = .ok xs.toArray w.drew := loads n i.size n c (by rw [hsize]; exact hl) (fun hp => hr hp) hsp
 have hmk : k * i.bytes ≤ 281474976710656 := by
  rw [hby]
  have : k * bytes ≤ (n + k) * bytes := Nat.mul_le_mul_right _ (by omega)
  omega
 have hrun := Lib.run_append_grow_zeros w t tn o.type e i z .i64 .i64 ht htn hi hz sp n c xs hold k h0 (by omega) hroom (by unfold maxLen at h63; omega) hmk (by rw [hby]; exact growslice_fits hroom hbytes)
 have hG := grownCap_ge w (n + k) c e
 have hG2 := grownCap_le_maxLen w (n + k) c e h63
 generalize grownCap w (n + k) c e = G at *
 refine Lib.wpList_append_run w hgd s x t tn ho _ _ hs hx _ _ hrun (h _ G ((Builtin.zeroCells z.cells k).toList ++ (Builtin.zeroCells z.cells (G - (n + k))).toList) ?_ ?_ hG hG2 ((Ext.refl _ w).drew.alloc _))
 ·have := BlockIs.new w.drew (xs ++ ((Builtin.zeroCells z.cells k).toList ++ (Builtin.zeroCells z.cells (G - (n + k))).toList)) e
  have e : (xs ++ ((Builtin.zeroCells z.cells k).toList ++ (Builtin.zeroCells z.cells (G - (n + k))).toList)).toArray = xs.toArray ++ Builtin.zeroCells z.cells k ++ Builtin.zeroCells z.cells (G - (n + k)) := by
   apply Array.ext'
   simp
  rw [e] at this
  exact this
 ·have e1 : (Builtin.zeroCells z.cells k).toList.length = k * size := by simp [Builtin.zeroCells, hzs]
  have e2 : (Builtin.zeroCells z.cells (G - (n + k))).toList.length = (G - (n + k)) * size := by simp [Builtin.zeroCells, hzs]
  rw [List.length_append, e1, e2, hl, ← Nat.add_mul, ← Nat.add_mul]
  congr 1
  omega
theorem run_overlaps_rows {P : Program} {w : World} {tS tR e : TypeId} (ht : P.underlying tS = some (.slice e)) (size : Nat) (hz : ∀ w, (Go.sizeOf e).run P w = .ok size w)
 (a b : Addr) (la ca lb cb : Nat) (hne : a.block ≠ b.block) {tA tB : TypeId} {curA curB : List Value} (hA : BlockIs w a.block curA tA) (hB : BlockIs w b.block curB tB) (hkB : curB.length ≠ 0) (has : a.spot = none) :
 (Extern.SlicesOverlaps.overlaps #[tS, tS] #[tR] #[.slice (some a) la ca, .slice (some b) lb cb]).run P w = .ok (.bool false) w := by
 obtain ⟨ab, ao, aq⟩ := a
 simp only at has hne hA
 subst has
 refine Lib.run_overlaps_apart w tS tR e ht size hz _ _ la ca lb cb hne tA tB curA.length curB.length ?_ ?_ hkB (hA.free _) (hA.free _)
 ·unfold BlockIs at hA; unfold World.shape?; rw [hA]; simp
 ·unfold BlockIs at hB; unfold World.shape?; rw [hB]; simp
end Go.Proofs.YtomcdhljjmnahaaGreat
namespace Go.Proofs.YtomcdhljjmnahaaGreat.C26
open Go.RowKit Go.Proofs.YtomcdhljjmnahaaGreat
variable {T : TypeId} {w W W' : World} {cells : List Value} {bs bs' : List Bool} {a a' : Option Addr} {c c' : Nat}
end Go.Proofs.YtomcdhljjmnahaaGreat.C26
namespace Go.Proofs.YtomcdhljjmnahaaGreat.C27
open Go.RowKit Go.Proofs.YtomcdhljjmnahaaGreat
variable {T : TypeId} {w W W' : World} {cells : List Value} {bs bs' : List Bool} {a a' : Option Addr} {c c' : Nat}
end Go.Proofs.YtomcdhljjmnahaaGreat.C27
namespace Go.Proofs.YtomcdhljjmnahaaGreat
open Go.RowKit
def wid (x : Nat) : Nat := if x = 0 then 0 else x.log2 + 1
theorem wid_le {x n : Nat} : wid x ≤ n ↔ x < 2 ^ n := by
 unfold wid
 split
 ·next h => subst h; simp [Nat.two_pow_pos]
 ·next h => rw [← Nat.log2_lt h]; omega
theorem lt_wid (x : Nat) : x < 2 ^ wid x := wid_le.1 (Nat.le_refl _)
theorem wid_eq {x n : Nat} (h1 : x < 2 ^ n) (h2 : ∀ m, x < 2 ^ m → n ≤ m) : wid x = n := Nat.le_antisymm (wid_le.2 h1) (h2 _ (lt_wid x))
theorem wid_div (x k : Nat) (h : 2 ^ k ≤ x) : wid x = k + wid (x / 2 ^ k) := by
 refine wid_eq ?_ fun m hm => ?_
 ·have := lt_wid (x / 2 ^ k)
  rw [Nat.div_lt_iff_lt_mul (Nat.two_pow_pos k), ← Nat.pow_add] at this
  rwa [Nat.add_comm] 
 ·have hkm : k ≤ m := by
   rcases Nat.lt_or_ge m k with h1 | h1
   ·have := Nat.pow_le_pow_right (show 0 < 2 by decide) (Nat.le_of_lt h1); omega
   ·exact h1
  have : wid (x / 2 ^ k) ≤ m - k := by
   rw [wid_le, Nat.div_lt_iff_lt_mul (Nat.two_pow_pos k), ← Nat.pow_add, Nat.sub_add_cancel hkm]
   exact hm
  omega
theorem tab_get (y : Nat) (h : y < Lib.len8tab.size) : Lib.len8tab[y].toNat = wid y := by
 have all : ∀ i : Fin 256, Lib.len8tab[i.val]!.toNat = wid i.val := by decide +kernel
 have hs : Lib.len8tab.size = 256 := by decide +kernel
 rw [← all ⟨y, by omega⟩, getElem!_pos Lib.len8tab y h]
theorem wid_le8 (y : Nat) (h : y < 256) : wid y ≤ 8 := wid_le.2 h
set_option maxHeartbeats 4000000 in
theorem len32_int (x : Int) (w : World) (h0 : 0 ≤ x) (h1 : x ≤ 4294967295) :
 Calls Tryz.prog 97 #[.int .u32 x] w fun e w' => e = .returned (.int .i64 (wid x.toNat)) ∧ w' = w := by
 have hz : (Lib.len8tab.size : Int) = 256 := by decide +kernel
 go_enter Tryz.func97, Tryz.ntmps97
 go_wp2
 all_goals (go_ret; refine ⟨congrArg Ending.returned (congrArg (Value.int IntKind.i64) ?_), rfl⟩; rw [tab_get]; clear hz; obtain ⟨x, rfl⟩ := Int.eq_ofNat_of_zero_le h0; rw [Int.toNat_natCast])
 ·have e : ((x : Int) / 65536 / 256).toNat = x / 65536 / 256 := by omega
  have s1 := wid_div x 16 (by omega)
  simp only [Nat.reducePow] at s1
  have s2 := wid_div (x / 65536) 8 (by omega)
  simp only [Nat.reducePow] at s2
  have l := wid_le8 (x / 65536 / 256) (by omega)
  rw [e, s1, s2]; generalize wid (x / 65536 / 256) = q at *
  unfold wrap64; omega
 ·have e : ((x : Int) / 65536).toNat = x / 65536 := by omega
  have s1 := wid_div x 16 (by omega)
  simp only [Nat.reducePow] at s1
  have l := wid_le8 (x / 65536) (by omega)
  rw [e, s1]; generalize wid (x / 65536) = q at *
  unfold wrap64; omega
 ·have e : ((x : Int) / 256).toNat = x / 256 := by omega
  have s1 := wid_div x 8 (by omega)
  simp only [Nat.reducePow] at s1
  have l := wid_le8 (x / 256) (by omega)
  rw [e, s1]; generalize wid (x / 256) = q at *
  unfold wrap64; omega
 ·have l := wid_le8 x (by omega)
  have e : (x : Int).toNat = x := by omega
  try rw [e]
  generalize wid x = q at *
  unfold wrap64; omega
theorem width_any (x : Nat) (w : World) (hx : x < 4294967296) :
 Calls Tryz.prog 58 #[.int .u32 x] w fun e w' => e = .returned (.int .i64 (wid x)) ∧ w' = w := by
 have HL := qh (len32_int (x : Int) w (by omega) (by omega))
 go_enter Tryz.func58, Tryz.ntmps58
 go_wp2_with fail
 refine HL.out.mono ?_
 rintro e w2 ⟨rfl, hw2⟩
 obtain rfl := hw2.symm
 go_wp2_with fail
 go_ret
 exact ⟨by rfl, rfl⟩
