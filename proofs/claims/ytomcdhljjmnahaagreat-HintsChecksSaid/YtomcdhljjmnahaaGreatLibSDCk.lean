/-
  Walked: the reference's Text and Encode.
  Walked: are two rows of numbers alike? (the reference's Same of chapter 21)
  Walked: the reference's Same and Encode, and the laws' own helpers of and to.
  Plain: what the reference's Decode comes to, end by end.
-/
import Derived.Test.YtomcdhljjmnahaaGreatLibSBCk
import Derived.Test.YtomcdhljjmnahaaGreatLibSCCk
import Derived.Test.YtomcdhljjmnahaaGreatLibBBCk
import Derived.Test.YtomcdhljjmnahaaGreatLibBACk
import Derived.Test.YtomcdhljjmnahaaGreatLibSACk
namespace Go.Proofs.YtomcdhljjmnahaaGreat.S27
set_option linter.unusedVariables false
set_option linter.unusedSimpArgs false
open Go.RowKit C27
end Go.Proofs.YtomcdhljjmnahaaGreat.S27
namespace Go.Proofs.YtomcdhljjmnahaaGreat.S27
set_option linter.unusedVariables false
set_option linter.unusedSimpArgs false
open Go.RowKit

def numV (x : Int) : Value := .int .i64 x
def SameRes (b : Bool) (w : World) (e : Ending) (w' : World) : Prop := e = .returned (.bool b) ∧ Pure w w'
theorem numV_at {w : World} {ad : Option Addr} {ls : List Int} (h : RowOf w ad (ls.map numV)) (i : Nat) (hi : i < ls.length) : ∃ b o, ad = some ⟨b, o, none⟩ ∧ w.cell? ⟨b, o + i, none⟩ = some (.int .i64 ls[i]) :=
  h i _ (by simp [hi, numV])
theorem same_no {l m : List Int} {k : Nat} (h : k < l.length) (h' : k < m.length) (hne : l[k] ≠ m[k]) : decide (l = m) = false := by
  apply decide_eq_false
  intro e; subst e; exact hne rfl
theorem same_yes {l m : List Int} {k : Nat} (h : k = l.length) (h' : l.length = m.length) (he : l.take k = m.take k) : decide (l = m) = true := by
  apply decide_eq_true
  subst h
  rw [List.take_length] at he
  rw [he, h', List.take_length]
theorem take_same_succ {l m : List Int} {k : Nat} (h : k < l.length) (h' : k < m.length) (he : l.take k = m.take k) (hx : l[k] = m[k]) : l.take (k + 1) = m.take (k + 1) := by
  rw [List.take_succ_eq_append_getElem h, List.take_succ_eq_append_getElem h', he, hx]
set_option maxRecDepth 100000 in
theorem rowsame_any (a : Option Addr) (c : Nat) (l : List Int) (b : Option Addr) (d : Nat) (m : List Int) (w : World) (hl : RowOf w a (l.map numV)) (hm : RowOf w b (m.map numV)) (hll : l.length ≤ 1000000000) (hml : m.length ≤ 1000000000) :
    Calls Tryz.prog 51 #[.slice a l.length c, .slice b m.length d] w (SameRes (decide (l = m)) w) := by
  by_cases hlen : l.length = m.length
  · have hne : ((l.length : Int) != (m.length : Int)) = false := by simp; omega
    have HLEN := Lib.hid hlen
    have h1 : l.length ≤ m.length := by omega
    have h2 : m.length ≤ l.length := by omega
    obtain ⟨B, hB⟩ : ∃ B, B = decide (l = m) := ⟨_, rfl⟩
    have HB := Lib.hid hB
    rw [← hB]
    clear hlen hB
    go_enter Tryz.func51, Tryz.ntmps51
    go_wp2_with fail
    go_loopw [5] (fun i W => ∃ k : Nat, k ≤ l.length ∧ i = .int .i64 k ∧ Hid (l.take k = m.take k) ∧ Pure w W) (fun i _ => l.length - (intOf i).toNat)
    case atStart => exact ⟨0, Nat.zero_le _, rfl, Lib.hid (by simp), Ext.refl _ _⟩
    case round =>
      obtain ⟨k, hk, rfl, HT, hP⟩ := hrel
      by_cases hlt : k < l.length
      · have hki : (k : Int) < (l.length : Int) := by omega
        have hkm : k < m.length := by omega
        have hkj : (k : Int) < (m.length : Int) := by omega
        obtain ⟨lb, lo, rfl, hc1⟩ := numV_at (hl.ext hP (fun _ _ => id)) k hlt
        obtain ⟨mb, mo, rfl, hc2⟩ := numV_at (hm.ext hP (fun _ _ => id)) k hkm
        obtain ⟨x, hx⟩ : ∃ x, x = l[k] := ⟨_, rfl⟩
        obtain ⟨y, hy⟩ : ∃ y, y = m[k] := ⟨_, rfl⟩
        rw [← hx] at hc1
        rw [← hy] at hc2
        have HX := Lib.hid hx
        have HY := Lib.hid hy
        clear hx hy
        by_cases hxy : x = y
        · have hE : (x != y) = false := by simp [hxy]
          have HS := Lib.hid (take_same_succ hlt hkm HT.out (by rw [← HX.out, ← HY.out, hxy]))
          clear hxy hl hm
          go_wp2_with fail
          go_quiet (fail)
          go_wp2_with fail
          go_roundw
          case rel => exact ⟨k + 1, by omega, by go_num, HS, hP.drewN _⟩
          case measure => simp [intOf]; omega
        · have hE : (x != y) = true := by simp [hxy]
          have HS := Lib.hid (same_no hlt hkm (by rw [← HX.out, ← HY.out]; exact hxy))
          clear hxy hl hm
          go_wp2_with fail
          go_quiet (fail)
          go_wp2_with fail
          go_ret
          exact ⟨by rw [HB.out, HS.out]; rfl, hP.drewN _⟩
      · have hki : ¬ (k : Int) < (l.length : Int) := by omega
        have HS := Lib.hid (same_yes (by omega) HLEN.out HT.out)
        clear hl hm
        go_wp2_with fail
        go_ret
        exact ⟨by rw [HB.out, HS.out]; rfl, hP⟩
  · have hne : ((l.length : Int) != (m.length : Int)) = true := by simp; omega
    have hd : decide (l = m) = false := decide_eq_false (fun e => hlen (by rw [e]))
    rw [hd]
    clear hlen hd
    go_enter Tryz.func51, Tryz.ntmps51
    go_wp2_with fail
    go_ret
    exact ⟨rfl, Ext.refl _ _⟩
end Go.Proofs.YtomcdhljjmnahaaGreat.S27
namespace Go.Proofs.YtomcdhljjmnahaaGreat.S27
set_option linter.unusedVariables false
set_option linter.unusedSimpArgs false
open Go.RowKit C27

/-- are tables alike? -/
def alike (o a f : Int) (l : List Int) (o' a' f' : Int) (l' : List Int) : Bool := o == o' && a == a' && f == f' && decide (l = l')
theorem alike_refl (o a f : Int) (l : List Int) : alike o a f l o a f l = true := by simp [alike]
/-- what a table comes to -/
def nats (ls : List Int) : List Nat := ls.map Int.toNat
def encB (o a f : Int) (ls : List Int) : List UInt8 := if okT o a f ls then pack true (tabB o.toNat a.toNat f.toNat (nats ls) 0 []) else []
def encE (o a f : Int) (ls : List Int) : Int := if okT o a f ls then 0 else 2
def EncTo (o a f : Int) (ls : List Int) (w : World) (e : Ending) (w' : World) : Prop := ∃ ra rc, e = .returned (.tuple #[.slice ra (encB o a f ls).length rc, .int .i64 (encE o a f ls)]) ∧ NewRow w w' ra rc (encB o a f ls)
theorem new_nil {w w' : World} (h : Pure w w') : NewRow w w' none 0 [] := ⟨row_nil _ _, h, fun _ => rfl, fun g hg => (by cases hg), fun g hg => (by cases hg), Nat.le_refl _, Nat.zero_le _⟩
theorem okT_ints {o a f : Int} {ls : List Int} (h : okT o a f ls = true) : o = (o.toNat : Int) ∧ a = (a.toNat : Int) ∧ f = (f.toNat : Int) ∧ ls = (nats ls).map (fun x : Nat => (x : Int)) := by
  obtain ⟨h1, h2, h3, h4, h5⟩ := okT_true.1 h
  refine ⟨by omega, by omega, by omega, ?_⟩
  unfold nats
  rw [List.map_map]
  refine (List.map_id ls).symm.trans (List.map_congr_left fun x hx => ?_)
  have := List.any_eq_false.1 h5 x hx
  have h6 : inB x 1 2147483647 = true := by simpa [odd] using this
  have := inB_true.1 h6
  simp only [id, Function.comp]; omega
theorem nats_len (ls : List Int) : (nats ls).length = ls.length := by simp [nats]
theorem encode_any (o a f : Int) (la : Option Addr) (c : Nat) (ls : List Int) (w : World) (hr : RowOf w la (ls.map iV)) (hl : (ls.length : Int) ≤ 9223372036854775807) :
    Calls Tryz.prog 21 #[tblV o a f la ls.length c] w (EncTo o a f ls w) := by
  by_cases h : okT o a f ls = true
  · obtain ⟨e1, e2, e3, e4⟩ := okT_ints h
    have hB : encB o a f ls = pack true (tabB o.toNat a.toNat f.toNat (nats ls) 0 []) := if_pos h
    have hE : encE o a f ls = 0 := if_pos h
    have key := encode_yes o.toNat a.toNat f.toNat la c (nats ls) w (by rw [← intV_map, ← e4]; exact hr) (by rw [← e4, ← e1, ← e2, ← e3]; exact h)
    rw [← e1, ← e2, ← e3, nats_len] at key
    refine key.mono fun e w' ⟨ra, rc, he, hN⟩ => ⟨ra, rc, by rw [hB, hE]; exact he, by rw [hB]; exact hN⟩
  · have h' : okT o a f ls = false := by simpa using h
    have hB : encB o a f ls = [] := if_neg h
    have hE : encE o a f ls = 2 := if_neg h
    refine (encode_no o a f la c ls w hr hl h').mono fun e w' ⟨he, hP⟩ => ⟨none, 0, by rw [hB, hE]; exact he, by rw [hB]; exact new_nil hP⟩
end Go.Proofs.YtomcdhljjmnahaaGreat.S27
namespace Go.Proofs.YtomcdhljjmnahaaGreat.S27
set_option linter.unusedVariables false
set_option linter.unusedSimpArgs false
open Go.RowKit C27

end Go.Proofs.YtomcdhljjmnahaaGreat.S27
