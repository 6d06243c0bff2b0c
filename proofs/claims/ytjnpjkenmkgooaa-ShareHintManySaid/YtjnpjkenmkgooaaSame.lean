/-
  Walked: are two rows of numbers alike? (the reference's Same of chapter 21)
-/
import Derived.Test.YtjnpjkenmkgooaaSl
namespace Go.Proofs.Ytjnpjkenmkgooaa
open Go.RowKit
set_option linter.unusedVariables false

def numV (x : Int) : Value := .int .i64 x
def SameRes (b : Bool) (w : World) (e : Ending) (w' : World) : Prop := e = .returned (.bool b) ∧ Pure w w'
theorem numV_at {w : World} {ad : Option Addr} {ls : List Int} (h : RowOf w ad (ls.map numV)) (i : Nat) (hi : i < ls.length) : ∃ b o, ad = some ⟨b, o, none⟩ ∧ w.cell? ⟨b, o + i, none⟩ = some (.int .i64 ls[i]) :=
  h i _ (by simp [hi, numV])
theorem same_no {l m : List Int} {k : Nat} (h : k < l.length) (h' : k < m.length) (hne : l[k] ≠ m[k]) : decide (l = m) = false := by
  apply decide_eq_false
  intro e; subst e; exact hne rfl
theorem same_yes {l m : List Int} {k : Nat} (h : k = l.length) (h' : l.length = m.length) (he : l.take k = m.take k) : decide (l = m) = true := by
  apply decide_eq_true
  subst h
  rw [List.take_length] at he
  rw [he, h', List.take_length]
theorem take_same_succ {l m : List Int} {k : Nat} (h : k < l.length) (h' : k < m.length) (he : l.take k = m.take k) (hx : l[k] = m[k]) : l.take (k + 1) = m.take (k + 1) := by
  rw [List.take_succ_eq_append_getElem h, List.take_succ_eq_append_getElem h', he, hx]
set_option maxRecDepth 100000 in
theorem rowsame_any (a : Option Addr) (c : Nat) (l : List Int) (b : Option Addr) (d : Nat) (m : List Int) (w : World) (hl : RowOf w a (l.map numV)) (hm : RowOf w b (m.map numV)) (hll : l.length ≤ 1000000000) (hml : m.length ≤ 1000000000) :
    Calls Try.prog 36 #[.slice a l.length c, .slice b m.length d] w (SameRes (decide (l = m)) w) := by
  by_cases hlen : l.length = m.length
  · have hne : ((l.length : Int) != (m.length : Int)) = false := by simp; omega
    have HLEN := Lib.hid hlen
    have h1 : l.length ≤ m.length := by omega
    have h2 : m.length ≤ l.length := by omega
    obtain ⟨B, hB⟩ : ∃ B, B = decide (l = m) := ⟨_, rfl⟩
    have HB := Lib.hid hB
    rw [← hB]
    clear hlen hB
    go_enter Try.func36, Try.ntmps36
    go_wp2_with fail
    go_loopw [5] (fun i W => ∃ k : Nat, k ≤ l.length ∧ i = .int .i64 k ∧ Hid (l.take k = m.take k) ∧ Pure w W) (fun i _ => l.length - (intOf i).toNat)
    case atStart => exact ⟨0, Nat.zero_le _, rfl, Lib.hid (by simp), Ext.refl _ _⟩
    case round =>
      obtain ⟨k, hk, rfl, HT, hP⟩ := hrel
      by_cases hlt : k < l.length
      · have hki : (k : Int) < (l.length : Int) := by omega
        have hkm : k < m.length := by omega
        have hkj : (k : Int) < (m.length : Int) := by omega
        obtain ⟨lb, lo, rfl, hc1⟩ := numV_at (hl.ext hP (fun _ _ => id)) k hlt
        obtain ⟨mb, mo, rfl, hc2⟩ := numV_at (hm.ext hP (fun _ _ => id)) k hkm
        obtain ⟨x, hx⟩ : ∃ x, x = l[k] := ⟨_, rfl⟩
        obtain ⟨y, hy⟩ : ∃ y, y = m[k] := ⟨_, rfl⟩
        rw [← hx] at hc1
        rw [← hy] at hc2
        have HX := Lib.hid hx
        have HY := Lib.hid hy
        clear hx hy
        by_cases hxy : x = y
        · have hE : (x != y) = false := by simp [hxy]
          have HS := Lib.hid (take_same_succ hlt hkm HT.out (by rw [← HX.out, ← HY.out, hxy]))
          clear hxy hl hm
          go_wp2_with fail
          go_quiet (fail)
          go_wp2_with fail
          go_roundw
          case rel => exact ⟨k + 1, by omega, by go_num, HS, hP.drewN _⟩
          case measure => simp [intOf]; omega
        · have hE : (x != y) = true := by simp [hxy]
          have HS := Lib.hid (same_no hlt hkm (by rw [← HX.out, ← HY.out]; exact hxy))
          clear hxy hl hm
          go_wp2_with fail
          go_quiet (fail)
          go_wp2_with fail
          go_ret
          exact ⟨by rw [HB.out, HS.out]; rfl, hP.drewN _⟩
      · have hki : ¬ (k : Int) < (l.length : Int) := by omega
        have HS := Lib.hid (same_yes (by omega) HLEN.out HT.out)
        clear hl hm
        go_wp2_with fail
        go_ret
        exact ⟨by rw [HB.out, HS.out]; rfl, hP⟩
  · have hne : ((l.length : Int) != (m.length : Int)) = true := by simp; omega
    have hd : decide (l = m) = false := decide_eq_false (fun e => hlen (by rw [e]))
    rw [hd]
    clear hlen hd
    go_enter Try.func36, Try.ntmps36
    go_wp2_with fail
    go_ret
    exact ⟨rfl, Ext.refl _ _⟩
end Go.Proofs.Ytjnpjkenmkgooaa
