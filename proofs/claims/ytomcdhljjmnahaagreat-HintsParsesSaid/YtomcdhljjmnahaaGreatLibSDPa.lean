import Derived.Test.YtomcdhljjmnahaaGreatLibSBPa
import Derived.Test.YtomcdhljjmnahaaGreatLibSCPa
import Derived.Test.YtomcdhljjmnahaaGreatLibBBPa
import Derived.Test.YtomcdhljjmnahaaGreatLibBAPa
import Derived.Test.YtomcdhljjmnahaaGreatLibSAPa
import Derived.Test.YtomcdhljjmnahaaGreatSqPa
set_option linter.unusedVariables false
set_option linter.unusedSimpArgs false
set_option maxRecDepth 100000
namespace Go.Proofs.YtomcdhljjmnahaaGreat.S27
open Go.RowKit C27
end Go.Proofs.YtomcdhljjmnahaaGreat.S27
namespace Go.Proofs.YtomcdhljjmnahaaGreat.S27
open Go.RowKit
def numV (x : Int) : Value := .int .i64 x
def SameRes (b : Bool) (w : World) (e : Ending) (w' : World) : Prop := e = .returned (.bool b) ∧ Pure w w'
theorem numV_at {w : World} {ad : Option Addr} {ls : List Int} (h : RowOf w ad (ls.map numV)) (i : Nat) (hi : i < ls.length) : ∃ b o, ad = some ⟨b, o, none⟩ ∧ w.cell? ⟨b, o + i, none⟩ = some (.int .i64 ls[i]) :=
 h i _ (by simp [hi, numV])
theorem same_no {l m : List Int} {k : Nat} (h : k < l.length) (h' : k < m.length) (hne : l[k] ≠ m[k]) : decide (l = m) = false := by
 apply decide_eq_false
 intro e; subst e; exact hne rfl
theorem same_yes {l m : List Int} {k : Nat} (h : k = l.length) (h' : l.length = m.length) (he : l.take k = m.take k) : decide (l = m) = true := by
 apply decide_eq_true
 subst h
 rw [List.take_length] at he
 rw [he, h', List.take_length]
theorem take_same_succ {l m : List Int} {k : Nat} (h : k < l.length) (h' : k < m.length) (he : l.take k = m.take k) (hx : l[k] = m[k]) : l.take (k + 1) = m.take (k + 1) := by
 rw [List.take_succ_eq_append_getElem h, List.take_succ_eq_append_getElem h', he, hx]
theorem rowsame_any (a : Option Addr) (c : Nat) (l : List Int) (b : Option Addr) (d : Nat) (m : List Int) (w : World) (hl : RowOf w a (l.map numV)) (hm : RowOf w b (m.map numV)) (hll : l.length ≤ 1000000000) (hml : m.length ≤ 1000000000) :
 Calls Tryz.prog 51 #[.slice a l.length c, .slice b m.length d] w (SameRes (decide (l = m)) w) := by
 by_cases hlen : l.length = m.length
 ·have hne : ((l.length : Int) != (m.length : Int)) = false := by simp; omega
  have HLEN := qh hlen
  have h1 : l.length ≤ m.length := by omega
  have h2 : m.length ≤ l.length := by omega
  obtain ⟨B, hB⟩ : ∃ B, B = decide (l = m) := ⟨_, rfl⟩
  have HB := qh hB
  rw [← hB]
  clear hlen hB
  go_enter Tryz.func51, Tryz.ntmps51
  go_wp2_with fail
  go_loopw [5] (fun i W => ∃ k : Nat, k ≤ l.length ∧ i = .int .i64 k ∧ Hid (l.take k = m.take k) ∧ Pure w W) (fun i _ => l.length - (intOf i).toNat)
  case atStart => exact ⟨0, Nat.zero_le _, rfl, qh (by simp), Ext.refl _ _⟩
  case round =>
   obtain ⟨k, hk, rfl, HT, hP⟩ := hrel
   by_cases hlt : k < l.length
   ·have hki : (k : Int) < (l.length : Int) := by omega
    have hkm : k < m.length := by omega
    have hkj : (k : Int) < (m.length : Int) := by omega
    obtain ⟨lb, lo, rfl, hc1⟩ := numV_at (hl.ext hP (fun _ _ => id)) k hlt
    obtain ⟨mb, mo, rfl, hc2⟩ := numV_at (hm.ext hP (fun _ _ => id)) k hkm
    obtain ⟨x, hx⟩ : ∃ x, x = l[k] := ⟨_, rfl⟩
    obtain ⟨y, hy⟩ : ∃ y, y = m[k] := ⟨_, rfl⟩
    rw [← hx] at hc1
    rw [← hy] at hc2
    have HX := qh hx
    have HY := qh hy
    clear hx hy
    by_cases hxy : x = y
    ·have hE : (x != y) = false := by simp [hxy]
     have HS := qh (take_same_succ hlt hkm HT.out (by rw [← HX.out, ← HY.out, hxy]))
     clear hxy hl hm
     go_wp2_with fail
     go_quiet (fail)
     go_wp2_with fail
     go_roundw
     case rel => exact ⟨k + 1, by omega, by go_num, HS, hP.drewN _⟩
     case measure => simp [intOf]; omega
    ·have hE : (x != y) = true := by simp [hxy]
     have HS := qh (same_no hlt hkm (by rw [← HX.out, ← HY.out]; exact hxy))
     clear hxy hl hm
     go_wp2_with fail
     go_quiet (fail)
     go_wp2_with fail
     go_ret
     exact ⟨by rw [HB.out, HS.out]; rfl, hP.drewN _⟩
   ·have hki : ¬ (k : Int) < (l.length : Int) := by omega
    have HS := qh (same_yes (by omega) HLEN.out HT.out)
    clear hl hm
    go_wp2_with fail
    go_ret
    exact ⟨by rw [HB.out, HS.out]; rfl, hP⟩
 ·have hne : ((l.length : Int) != (m.length : Int)) = true := by simp; omega
  have hd : decide (l = m) = false := decide_eq_false (fun e => hlen (by rw [e]))
  rw [hd]
  clear hlen hd
  go_enter Tryz.func51, Tryz.ntmps51
  go_wp2_with fail
  go_ret
  exact ⟨rfl, Ext.refl _ _⟩
end Go.Proofs.YtomcdhljjmnahaaGreat.S27
namespace Go.Proofs.YtomcdhljjmnahaaGreat.S27
open Go.RowKit C27
def nats (ls : List Int) : List Nat := ls.map Int.toNat
def encB (o a f : Int) (ls : List Int) : List UInt8 := if okT o a f ls then pack true (tabB o.toNat a.toNat f.toNat (nats ls) 0 []) else []
def encE (o a f : Int) (ls : List Int) : Int := if okT o a f ls then 0 else 2
def EncTo (o a f : Int) (ls : List Int) (w : World) (e : Ending) (w' : World) : Prop := ∃ ra rc, e = .returned (.tuple #[.slice ra (encB o a f ls).length rc, .int .i64 (encE o a f ls)]) ∧ NewRow w w' ra rc (encB o a f ls)
theorem new_nil {w w' : World} (h : Pure w w') : NewRow w w' none 0 [] := ⟨row_nil _ _, h, fun _ => rfl, fun g hg => (by cases hg), fun g hg => (by cases hg), Nat.le_refl _, Nat.zero_le _⟩
theorem okT_ints {o a f : Int} {ls : List Int} (h : okT o a f ls = true) : o = (o.toNat : Int) ∧ a = (a.toNat : Int) ∧ f = (f.toNat : Int) ∧ ls = (nats ls).map (fun x : Nat => (x : Int)) := by
 obtain ⟨h1, h2, h3, h4, h5⟩ := okT_true.1 h
 refine ⟨by omega, by omega, by omega, ?_⟩
 unfold nats
 rw [List.map_map]
 refine (List.map_id ls).symm.trans (List.map_congr_left fun x hx => ?_)
 have := List.any_eq_false.1 h5 x hx
 have h6 : inB x 1 2147483647 = true := by simpa [odd] using this
 have := inB_true.1 h6
 simp only [id, Function.comp]; omega
theorem nats_len (ls : List Int) : (nats ls).length = ls.length := by simp [nats]
theorem encode_any (o a f : Int) (la : Option Addr) (c : Nat) (ls : List Int) (w : World) (hr : RowOf w la (ls.map iV)) (hl : (ls.length : Int) ≤ 9223372036854775807) :
 Calls Tryz.prog 21 #[tblV o a f la ls.length c] w (EncTo o a f ls w) := by
 by_cases h : okT o a f ls = true
 ·obtain ⟨e1, e2, e3, e4⟩ := okT_ints h
  have hB : encB o a f ls = pack true (tabB o.toNat a.toNat f.toNat (nats ls) 0 []) := if_pos h
  have hE : encE o a f ls = 0 := if_pos h
  have key := encode_yes o.toNat a.toNat f.toNat la c (nats ls) w (by rw [← intV_map, ← e4]; exact hr) (by rw [← e4, ← e1, ← e2, ← e3]; exact h)
  rw [← e1, ← e2, ← e3, nats_len] at key
  refine key.mono fun e w' ⟨ra, rc, he, hN⟩ => ⟨ra, rc, by rw [hB, hE]; exact he, by rw [hB]; exact hN⟩
 ·have h' : okT o a f ls = false := by simpa using h
  have hB : encB o a f ls = [] := if_neg h
  have hE : encE o a f ls = 2 := if_neg h
  refine (encode_no o a f la c ls w hr hl h').mono fun e w' ⟨he, hP⟩ => ⟨none, 0, by rw [hB, hE]; exact he, by rw [hB]; exact new_nil hP⟩
theorem al8_le {x L : Nat} (h : x ≤ L) (h8 : L % 8 = 0) : al8 x ≤ L := by unfold al8; omega
theorem dec_bad {bs : List Bool} {v4 v6 v7 K x : Nat} (hl : 192 ≤ bs.length) (hok : HeadOk bs) (q4 : v4 = hN bs) (q6 : v6 = hL bs) (q7 : v7 = hW bs) (hF : Fit bs.length 192 v7 v4 K) (hx : x ∈ vals bs 192 v7 K) (hb : okL v6 x = false) : DecTo bs (dErr 27) := by
 subst q4 q6 q7
 exact Or.inr ⟨hl, Or.inr ⟨hok, (0, 27), [], ⟨K, hF, Or.inl ⟨⟨x, hx, hb⟩, rfl⟩⟩, Or.inl ⟨by decide, rfl⟩⟩⟩
theorem dec_cut {bs : List Bool} {v4 v5 v6 v7 K : Nat} (hl : 192 ≤ bs.length) (hok : HeadOk bs) (q4 : v4 = hN bs) (q5 : v5 = hG bs) (q6 : v6 = hL bs) (q7 : v7 = hW bs) (hF : Fit bs.length 192 v7 v4 K) (hx : ∀ x ∈ vals bs 192 v7 K, okL v6 x = true) (hn : ¬ AllFit bs 192 v4 v7 v5) : DecTo bs (dErr 10) := by
 subst q4 q5 q6 q7
 exact Or.inr ⟨hl, Or.inr ⟨hok, (0, 10), [], ⟨K, hF, Or.inr ⟨hx, Or.inl ⟨hn, rfl⟩⟩⟩, Or.inl ⟨by decide, rfl⟩⟩⟩
theorem dec_good {bs : List Bool} {v1 v2 v3 v4 v5 v6 v7 : Nat} (hl : 192 ≤ bs.length) (hok : HeadOk bs) (q1 : v1 = hO bs) (q2 : v2 = hA bs) (q3 : v3 = hF bs) (q4 : v4 = hN bs) (q5 : v5 = hG bs) (q6 : v6 = hL bs) (q7 : v7 = hW bs) (hF : Fit bs.length 192 v7 v4 v4) (hx : ∀ x ∈ vals bs 192 v7 v4, okL v6 x = true) (ha : AllFit bs 192 v4 v7 v5) : DecTo bs ⟨0, v1, v2, v3, (vals bs 192 v7 v4).map (fun x => v6 + x), P4 bs 192 v4 v7 v5 / 8⟩ := by
 subst q1 q2 q3 q4 q5 q6 q7
 exact Or.inr ⟨hl, Or.inr ⟨hok, (P4 bs 192 _ _ _, 0), _, ⟨_, hF, Or.inr ⟨hx, Or.inr ⟨ha, rfl, rfl⟩⟩⟩, Or.inr ⟨rfl, rfl⟩⟩⟩
theorem fit_lt {L p w n K : Nat} (h : Fit L p w n K) (hne : K ≠ n) : L < p + n * w := by
 have h1 : K < n := by have := h.le; omega
 have h2 := h.cut h1
 have h3 : (K + 1) * w ≤ n * w := Nat.mul_le_mul_right w h1
 omega
theorem not_all1 {bs : List Bool} {n wd g : Nat} (h : bs.length < 192 + n * wd) : ¬ AllFit bs 192 n wd g := fun ⟨a, _⟩ => by omega
theorem not_all2 {bs : List Bool} {n wd g : Nat} (h : bs.length < P1 192 n wd + n * 1) : ¬ AllFit bs 192 n wd g := fun ⟨_, a, _⟩ => by omega
theorem not_all3 {bs : List Bool} {n wd g : Nat} (h : bs.length < P2 192 n wd + (4 * sgn bs 192 n wd) * 32) : ¬ AllFit bs 192 n wd g := fun ⟨_, _, a, _⟩ => by omega
theorem not_all4 {bs : List Bool} {n wd g : Nat} (h : bs.length < P3 bs 192 n wd + n * g) : ¬ AllFit bs 192 n wd g := fun ⟨_, _, _, a⟩ => by omega
theorem okL_low {v6 x : Nat} (h : (v6 : Int) + (x : Int) < 1) : okL v6 x = false := inB_false.2 (Or.inl h)
theorem okL_high {v6 x : Nat} (h : (2147483647 : Int) < (v6 : Int) + (x : Int)) : okL v6 x = false := inB_false.2 (Or.inr h)
theorem okL_yes {v6 x : Nat} (h : ¬ (v6 : Int) + (x : Int) < 1) (h' : ¬ (2147483647 : Int) < (v6 : Int) + (x : Int)) : okL v6 x = true := inB_true.2 ⟨by omega, by omega⟩
theorem vals_at (bs : List Bool) (p w K k : Nat) (h : k < K) : (vals bs p w K)[k]? = some (numAt bs (p + k * w) w) := by simp [vals, h]
theorem vals_mem (bs : List Bool) (p w K k : Nat) (h : k < K) : numAt bs (p + k * w) w ∈ vals bs p w K := by simp only [vals, List.mem_map, List.mem_range]; exact ⟨k, h, rfl⟩
theorem all_succ {bs : List Bool} {p w k v6 : Nat} (h : ∀ x ∈ vals bs p w k, okL v6 x = true) (h' : okL v6 (numAt bs (p + k * w) w) = true) : ∀ x ∈ vals bs p w (k + 1), okL v6 x = true := by
 intro x hx
 rw [vals_succ, List.mem_append] at hx
 rcases hx with hx | hx
 ·exact h x hx
 ·rw [List.mem_singleton] at hx; rw [hx]; exact h'
theorem vals_sum_succ (bs : List Bool) (p w k : Nat) : (vals bs p w (k + 1)).sum = (vals bs p w k).sum + numAt bs (p + k * w) w := by rw [vals_succ, List.sum_append]; simp
