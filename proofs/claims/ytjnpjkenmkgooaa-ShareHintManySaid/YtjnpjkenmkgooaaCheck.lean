/-
  Walked: which tables may be: the program's Check and the reference's.
-/
import Derived.Test.YtjnpjkenmkgooaaRefNum
namespace Go.Proofs.Ytjnpjkenmkgooaa
open Go.RowKit
set_option linter.unusedVariables false

def inB (n a b : Int) : Bool := decide (a ≤ n) && decide (n ≤ b)
theorem inB_true {n a b : Int} : inB n a b = true ↔ a ≤ n ∧ n ≤ b := by simp [inB]
theorem inB_false {n a b : Int} : inB n a b = false ↔ n < a ∨ b < n := by
  rw [← Bool.not_eq_true, inB_true]; omega
def iV (x : Int) : Value := .int .i64 x
theorem within_any (n a b : Int) (w : World) : Calls Try.prog 27 #[.int .i64 n, .int .i64 a, .int .i64 b] w fun e w' => e = .returned (.bool (inB n a b)) ∧ w' = w := by
  cases h : inB n a b with
  | true =>
    obtain ⟨h1, h2⟩ := inB_true.1 h
    clear h
    go_enter Try.func27, Try.ntmps27
    go_wp2_with fail
    go_ret
    exact ⟨rfl, rfl⟩
  | false =>
    rcases inB_false.1 h with h1 | h1
    · clear h
      have h2 : ¬ a ≤ n := by omega
      go_enter Try.func27, Try.ntmps27
      go_wp2_with fail
      go_ret
      exact ⟨rfl, rfl⟩
    · clear h
      by_cases h2 : a ≤ n
      all_goals
        have h3 : ¬ n ≤ b := by omega
        go_enter Try.func27, Try.ntmps27
        go_wp2_with fail
        go_ret
        exact ⟨rfl, rfl⟩
/-- a length that may not be -/
def odd (x : Int) : Bool := !inB x 1 2147483647
theorem odd_any (x : Int) (w : World) : Calls Try.prog 26 #[.int .i64 x] w fun e w' => e = .returned (.bool (odd x)) ∧ w' = w := by
  have HO : Hid (odd x = !inB x 1 2147483647) := Lib.hid rfl
  have HW := Lib.hid (within_any x 1 2147483647 w)
  generalize inB x 1 2147483647 = β at *
  go_enter Try.func26, Try.ntmps26
  go_wp2_with fail
  refine HW.out.mono ?_
  rintro e w2 ⟨rfl, hw2⟩
  obtain rfl := hw2.symm
  go_wp2_with fail
  go_ret
  exact ⟨by rw [HO.out]; rfl, rfl⟩
def IdxRes (ls : List Int) (w : World) (e : Ending) (w' : World) : Prop := ∃ r : Int, e = .returned (.int .i64 r) ∧ decide (0 ≤ r) = ls.any odd ∧ w' = w
theorem iV_at {w : World} {ad : Option Addr} {ls : List Int} (h : RowOf w ad (ls.map iV)) (i : Nat) (hi : i < ls.length) : ∃ b o, ad = some ⟨b, o, none⟩ ∧ w.cell? ⟨b, o + i, none⟩ = some (.int .i64 ls[i]) :=
  h i _ (by simp [hi, iV])
theorem any_take_succ {α : Type} (p : α → Bool) (ls : List α) (k : Nat) (hk : k < ls.length) : (ls.take (k + 1)).any p = ((ls.take k).any p || p ls[k]) := by
  rw [List.take_add_one, List.getElem?_eq_getElem hk, List.any_append]; simp
theorem any_of_at {α : Type} (p : α → Bool) (ls : List α) (k : Nat) (hk : k < ls.length) (h : p ls[k] = true) : ls.any p = true := List.any_eq_true.2 ⟨_, List.getElem_mem _, h⟩
set_option maxRecDepth 100000 in
theorem index_any (ad : Option Addr) (cap : Nat) (ls : List Int) (w : World) (hr : RowOf w ad (ls.map iV)) (hl : ls.length ≤ 1000000000) :
    Calls Try.prog 46 #[.slice ad ls.length cap, .func (.func 26) #[] #[]] w (IdxRes ls w) := by
  go_enter Try.func46, Try.ntmps46
  go_wp2_with fail
  go_loopw [8, 5] (fun i _ w' => ∃ k : Nat, k ≤ ls.length ∧ i = .int .i64 k ∧ (ls.take k).any odd = false ∧ w' = w) (fun i _ _ => ls.length - (intOf i).toNat)
  case atStart => exact ⟨0, Nat.zero_le _, rfl, rfl, rfl⟩
  case round =>
    obtain ⟨k, hk, rfl, hno, hw⟩ := hrel
    obtain rfl := hw.symm
    have HNo := Lib.hid hno
    clear hno
    by_cases hlt : k < ls.length
    · have hki : (k : Int) < (ls.length : Int) := by omega
      have hk0 : (0 : Int) ≤ (k : Int) := by omega
      obtain ⟨b, o, rfl, h0⟩ := iV_at hr k hlt
      have HB := Lib.hid (odd_any ls[k] w)
      have HT := Lib.hid (any_take_succ odd ls k hlt)
      have HA := Lib.hid (any_of_at odd ls k hlt)
      cases hb : odd ls[k] with
      | true =>
        rw [hb] at HB HA
        generalize ls[k] = x at *
        clear hb
        go_wp2_with fail
        refine HB.out.mono ?_
        rintro e w2 ⟨rfl, hw2⟩
        obtain rfl := hw2.symm
        go_wp2_with fail
        go_ret
        exact ⟨k, rfl, by rw [HA.out trivial]; simp, rfl⟩
      | false =>
        rw [hb, HNo.out] at HT
        have HB' := Lib.hid (hb ▸ HB.out)
        clear HB
        generalize ls[k] = x at *
        clear hb HA
        go_wp2_with fail
        refine HB'.out.mono ?_
        rintro e w2 ⟨rfl, hw2⟩
        obtain rfl := hw2.symm
        go_wp2_with fail
        go_roundw
        case rel => exact ⟨k + 1, by omega, by go_num, HT.out, by first | rfl | trivial⟩
        case measure => simp [intOf]; omega
    · have hki : ¬ (k : Int) < (ls.length : Int) := by omega
      rw [List.take_of_length_le (by omega)] at HNo
      go_wp2_with fail
      go_ret
      exact ⟨-1, rfl, by rw [HNo.out]; rfl, rfl⟩
theorem contains_any (ad : Option Addr) (cap : Nat) (ls : List Int) (w : World) (hr : RowOf w ad (ls.map iV)) (hl : ls.length ≤ 1000000000) :
    Calls Try.prog 28 #[.slice ad ls.length cap, .func (.func 26) #[] #[]] w fun e w' => e = .returned (.bool (ls.any odd)) ∧ w' = w := by
  have HI := Lib.hid (index_any ad cap ls w hr hl)
  go_enter Try.func28, Try.ntmps28
  go_wp2_with fail
  refine HI.out.mono ?_
  rintro e w2 ⟨r, rfl, hd, hw2⟩
  obtain rfl := hw2.symm
  have HD := Lib.hid hd
  clear hd
  go_wp2_with fail
  go_ret
  exact ⟨by rw [← HD.out]; rfl, rfl⟩
/-- may a table be? -/
def okT (o a f : Int) (ls : List Int) : Bool := inB o 0 4096 && inB a 0 2147483647 && decide (ls.length ≤ 4096) && inB f 0 ls.length && !ls.any odd
theorem okT_true {o a f : Int} {ls : List Int} : okT o a f ls = true ↔ (0 ≤ o ∧ o ≤ 4096) ∧ (0 ≤ a ∧ a ≤ 2147483647) ∧ ls.length ≤ 4096 ∧ (0 ≤ f ∧ f ≤ ls.length) ∧ ls.any odd = false := by
  simp only [okT, Bool.and_eq_true, inB_true, decide_eq_true_eq, Bool.not_eq_true']
  constructor
  · rintro ⟨⟨⟨⟨h1, h2⟩, h3⟩, h4⟩, h5⟩; exact ⟨h1, h2, h3, h4, h5⟩
  · rintro ⟨h1, h2, h3, h4, h5⟩; exact ⟨⟨⟨⟨h1, h2⟩, h3⟩, h4⟩, h5⟩
def tblV (o a f : Int) (la : Option Addr) (n c : Nat) : Value := .agg #[.int .i64 o, .int .i64 a, .int .i64 f, .slice la n c]
def ChkRes (b : Bool) (w : World) (e : Ending) (w' : World) : Prop := e = .returned (.int .i64 (if b then 0 else 2)) ∧ Pure w w'
theorem chk_no {b : Bool} {w w' : World} (h : b = false) (hp : Pure w w') : ChkRes b w (.returned (.int .i64 2)) w' := by subst h; exact ⟨rfl, hp⟩
theorem chk_yes {b : Bool} {w w' : World} (h : b = true) (hp : Pure w w') : ChkRes b w (.returned (.int .i64 0)) w' := by subst h; exact ⟨rfl, hp⟩
set_option maxHeartbeats 1000000 in
set_option maxRecDepth 100000 in
theorem check_any (o a f : Int) (la : Option Addr) (c : Nat) (ls : List Int) (w : World) (hr : RowOf w la (ls.map iV)) (hl : (ls.length : Int) ≤ 9223372036854775807) :
    Calls Try.prog 12 #[tblV o a f la ls.length c] w (ChkRes (okT o a f ls) w) := by
  have HK : Hid (okT o a f ls = (inB o 0 4096 && inB a 0 2147483647 && decide (ls.length ≤ 4096) && inB f 0 ls.length && !ls.any odd)) := Lib.hid rfl
  unfold tblV
  obtain ⟨β, hβ⟩ : ∃ β, β = okT o a f ls := ⟨_, rfl⟩
  rw [← hβ] at HK ⊢
  clear hβ
  have W1 := Lib.hid (fun w => within_any o 0 4096 w)
  have W2 := Lib.hid (fun w => within_any a 0 2147483647 w)
  have W3 := Lib.hid (fun w => within_any f 0 (ls.length : Int) w)
  cases h1 : inB o 0 4096 with
  | false =>
    rw [h1] at HK W1
    go_enter Try.func12, Try.ntmps12
    go_wp2_with fail
    refine (W1.out _).mono ?_
    rintro e w2 ⟨rfl, hw2⟩
    obtain rfl := hw2.symm
    go_wp2_with fail
    go_ret
    exact chk_no (by rw [HK.out]; rfl) (ext_alloc _ _)
  | true =>
    rw [h1] at HK W1
    cases h2 : inB a 0 2147483647 with
    | false =>
      rw [h2] at HK W2
      go_enter Try.func12, Try.ntmps12
      go_wp2_with fail
      refine (W1.out _).mono ?_
      rintro e w2 ⟨rfl, hw2⟩
      obtain rfl := hw2.symm
      go_wp2_with fail
      refine (W2.out _).mono ?_
      rintro e w2 ⟨rfl, hw2⟩
      obtain rfl := hw2.symm
      go_wp2_with fail
      go_ret
      exact chk_no (by rw [HK.out]; rfl) (ext_alloc _ _)
    | true =>
      rw [h2] at HK W2
      by_cases h3 : (4096 : Int) < (ls.length : Int)
      · have hd : decide (ls.length ≤ 4096) = false := decide_eq_false (by omega)
        rw [hd] at HK
        clear hd
        go_enter Try.func12, Try.ntmps12
        go_wp2_with fail
        refine (W1.out _).mono ?_
        rintro e w2 ⟨rfl, hw2⟩
        obtain rfl := hw2.symm
        go_wp2_with fail
        refine (W2.out _).mono ?_
        rintro e w2 ⟨rfl, hw2⟩
        obtain rfl := hw2.symm
        go_wp2_with fail
        go_ret
        exact chk_no (by rw [HK.out]; rfl) (ext_alloc _ _)
      · have hd : decide (ls.length ≤ 4096) = true := decide_eq_true (by omega)
        rw [hd] at HK
        clear hd
        cases h4 : inB f 0 ls.length with
        | false =>
          rw [h4] at HK W3
          go_enter Try.func12, Try.ntmps12
          go_wp2_with fail
          refine (W1.out _).mono ?_
          rintro e w2 ⟨rfl, hw2⟩
          obtain rfl := hw2.symm
          go_wp2_with fail
          refine (W2.out _).mono ?_
          rintro e w2 ⟨rfl, hw2⟩
          obtain rfl := hw2.symm
          go_wp2_with fail
          refine (W3.out _).mono ?_
          rintro e w2 ⟨rfl, hw2⟩
          obtain rfl := hw2.symm
          go_wp2_with fail
          go_ret
          exact chk_no (by rw [HK.out]; rfl) (ext_alloc _ _)
        | true =>
          rw [h4] at HK W3
          have W4 := Lib.hid (fun w hr => contains_any la c ls w hr (by omega))
          have hr1 := fun o => hr.ext (ext_alloc w o) (fun _ _ => id)
          have HR1 := Lib.hid hr1
          clear hr1
          cases h5 : ls.any odd with
          | false =>
            rw [h5] at HK W4
            go_enter Try.func12, Try.ntmps12
            go_wp2_with fail
            refine (W1.out _).mono ?_
            rintro e w2 ⟨rfl, hw2⟩
            obtain rfl := hw2.symm
            go_wp2_with fail
            refine (W2.out _).mono ?_
            rintro e w2 ⟨rfl, hw2⟩
            obtain rfl := hw2.symm
            go_wp2_with fail
            refine (W3.out _).mono ?_
            rintro e w2 ⟨rfl, hw2⟩
            obtain rfl := hw2.symm
            go_wp2_with fail
            refine (W4.out _ (HR1.out _)).mono ?_
            rintro e w2 ⟨rfl, hw2⟩
            obtain rfl := hw2.symm
            go_wp2_with fail
            go_ret
            exact chk_yes (by rw [HK.out]; rfl) (ext_alloc _ _)
          | true =>
            rw [h5] at HK W4
            go_enter Try.func12, Try.ntmps12
            go_wp2_with fail
            refine (W1.out _).mono ?_
            rintro e w2 ⟨rfl, hw2⟩
            obtain rfl := hw2.symm
            go_wp2_with fail
            refine (W2.out _).mono ?_
            rintro e w2 ⟨rfl, hw2⟩
            obtain rfl := hw2.symm
            go_wp2_with fail
            refine (W3.out _).mono ?_
            rintro e w2 ⟨rfl, hw2⟩
            obtain rfl := hw2.symm
            go_wp2_with fail
            refine (W4.out _ (HR1.out _)).mono ?_
            rintro e w2 ⟨rfl, hw2⟩
            obtain rfl := hw2.symm
            go_wp2_with fail
            go_ret
            exact chk_no (by rw [HK.out]; rfl) (ext_alloc _ _)
end Go.Proofs.Ytjnpjkenmkgooaa
