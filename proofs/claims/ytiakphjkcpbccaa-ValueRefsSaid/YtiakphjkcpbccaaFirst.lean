/-
  The first error of a value; walked: the reference's first and Check.
-/
import Derived.Test.YtiakphjkcpbccaaWalk
namespace Go.Proofs.Ytiakphjkcpbccaa
open Go.RowKit
set_option linter.unusedVariables false

mutual
/-- the first error of a value, and of all in it -/
def V.first : V → Int
  | .mk k n s l => if ownE k n s l = 0 then (if (k == 6 || k == 7) = true then firstL l else 0) else ownE k n s l
def firstL : List V → Int
  | [] => 0
  | v :: l => if v.first = 0 then firstL l else v.first
end
theorem first_eq (v : V) : v.first = if ownE v.kind v.n v.s v.l = 0 then (if v.holds = true then firstL v.l else 0) else ownE v.kind v.n v.s v.l := by cases v; rw [V.first]; rfl
theorem firstL_append (p q : List V) : firstL (p ++ q) = if firstL p = 0 then firstL q else firstL p := by
  induction p with
  | nil => simp [firstL]
  | cons u p ih =>
    rw [List.cons_append, firstL, firstL]
    by_cases h : u.first = 0
    · rw [if_pos h, if_pos h, ih]
    · rw [if_neg h, if_neg h, if_neg h]
theorem firstL_snoc (p : List V) (u : V) (h : firstL p = 0) : firstL (p ++ [u]) = u.first := by
  rw [firstL_append, if_pos h, firstL, firstL]; split <;> simp_all
theorem firstL_stop {l : List V} {k : Nat} {u : V} (h : firstL (l.take k) = 0) (hu : l[k]? = some u) (hn : u.first ≠ 0) : firstL l = u.first := by
  obtain ⟨hkl, rfl⟩ := List.getElem?_eq_some_iff.1 hu
  conv => lhs; rw [← List.take_append_drop (k + 1) l]
  rw [List.take_succ_eq_append_getElem hkl, firstL_append, firstL_snoc _ _ h, if_neg hn]
theorem length_sizeL (l : List V) : l.length ≤ sizeL l := by
  induction l with
  | nil => simp
  | cons u l ih => rw [sizeL, List.length_cons]; have := size_eq u; omega
set_option maxHeartbeats 1000000 in
set_option maxRecDepth 100000 in
theorem reffirst_any : ∀ (d : Nat) (v : V) (cs : List Value) (w : World), Lies w d v cs → v.size ≤ 100000 →
    Calls Try.prog 40 #[.agg cs.toArray] w (IntTo v.first w)
  | 0, _, _, _, h, _ => h.elim
  | d + 1, v, cs, w, h, hsz => by
    have IH := reffirst_any d
    have h4 := h.len
    have hLv := h
    obtain ⟨a, c, rows, hcs, hlc, hcm, hnil, hK, hs⟩ := h.kids
    have hszl : sizeL v.l ≤ 100000 := by have := size_eq v; omega
    have hlen : v.l.length ≤ sizeL v.l := length_sizeL _
    have HHo := Lib.hid (fun W (hP : Pure w W) => holds_any (hLv.pure hP))
    have HOw := Lib.hid (fun W (hP : Pure w W) => refown_lies W (hLv.pure hP) (by omega))
    obtain ⟨w1, hw1⟩ : ∃ w1, w1 = w.alloc (.cells cs.toArray 24) := ⟨_, rfl⟩
    have hBx : BlockIs w1 w.heap.size cs 24 := hw1 ▸ BlockIs.new w _ _
    have hP1 : Pure w w1 := hw1 ▸ ext_alloc w _
    obtain ⟨tb, htb⟩ : ∃ tb, tb = w.heap.size := ⟨_, rfl⟩
    rw [← htb] at hBx
    have hd := first_eq v
    obtain ⟨D, hD⟩ : ∃ D, D = v.first := ⟨_, rfl⟩
    obtain ⟨H, hH⟩ : ∃ H, H = v.holds := ⟨_, rfl⟩
    obtain ⟨x, hx⟩ : ∃ x, x = ownE v.kind v.n v.s v.l := ⟨_, rfl⟩
    rw [← hD]
    rw [← hD, ← hH, ← hx] at hd
    rw [← hH] at HHo
    rw [← hx] at HOw
    obtain ⟨n, hn⟩ : ∃ n, n = v.l.length := ⟨_, rfl⟩
    obtain ⟨l, hl⟩ : ∃ l, l = v.l := ⟨_, rfl⟩
    rw [← hl] at hd hn hK hszl hlen
    rw [← hl, ← hn] at hlc hcs
    rw [← hn] at hlen
    have HCs := Lib.hid hcs
    have HI := Lib.hid IH
    have HD := Lib.hid hd
    have HN := Lib.hid hn
    have HSz := Lib.hid hszl
    have hR := hBx.range
    have HW1 := Lib.hid hw1
    have HTb := Lib.hid htb
    have hn1 : n ≤ 100000 := by omega
    clear IH hd hn hl hLv h hD hH hw1 htb hsz hlen hszl hcs hx
    go_enter Try.func40, Try.ntmps40
    go_wp2_with (refine wpList_load_mid rfl 24 (.tmp 1) rfl tb 0 (by rw [HTb.out]; rfl) cs _ (by rw [← HW1.out]; exact hR) Try.underlying24 rfl (by rw [h4]; kernel_rfl) ?_)
    rw [← HW1.out, ← HTb.out]
    refine (HOw.out w1 hP1).mono ?_
    rintro e w2 ⟨rfl, hP2⟩
    have hR2 := (hBx.ext hP2 id).range
    by_cases hx0 : x = 0
    · subst hx0
      have hB2 := hBx.ext hP2 id
      have hcs := HCs.out
      subst hcs
      have c0 : w2.cell? ⟨tb, 0, none⟩ = some (.int .i64 v.kind) := hB2.cell 0
      have c1 : w2.cell? ⟨tb, 1, none⟩ = some (.int .i64 v.n) := hB2.cell 1
      have c2 : w2.cell? ⟨tb, 2, none⟩ = some (.string v.s) := hB2.cell 2
      have c3 : w2.cell? ⟨tb, 3, none⟩ = some (.slice a n c) := hB2.cell 3
      go_wp2_with fail
      refine (HHo.out w2 (hP1.pure hP2)).mono ?_
      rintro e w3 ⟨rfl, hP3⟩
      cases H with
      | false =>
        have HB : Hid (D = 0) := Lib.hid (by rw [HD.out]; rfl)
        clear HD hK HI HHo HOw
        go_wp2_with fail
        go_ret
        exact ⟨by rw [HB.out]; rfl, (hP1.pure hP2).pure hP3⟩
      | true =>
        have HB : Hid (D = firstL l) := Lib.hid (by rw [HD.out]; rfl)
        clear HD HHo HOw hR hR2 c0 c1 c2 c3 hB2
        go_wp2_with fail
        go_loopw [3, 4] (fun y i W => ∃ k : Nat, k ≤ n ∧ i = .int .i64 k ∧ y = .int .i64 0 ∧ firstL (l.take k) = 0 ∧ Pure w1 W) (fun _ i _ => n - (intOf i).toNat)
        case atStart => exact ⟨0, Nat.zero_le _, rfl, rfl, by rw [List.take_zero, firstL], hP2.pure hP3⟩
        case round =>
          obtain ⟨k, hk, rfl, rfl, hf0, hE⟩ := hrel
          have c3 : wr.cell? ⟨tb, 3, none⟩ = some (.slice a n c) := (hBx.ext hE id).cell 3
          by_cases hlt : k < n
          · have hki : (k : Int) < (n : Int) := by omega
            obtain ⟨u, hu⟩ : ∃ u, l[k]? = some u := ⟨_, List.getElem?_eq_getElem (by rw [← HN.out]; exact hlt)⟩
            obtain ⟨b, o, r, rfl, hr, hr4, hL⟩ := (hK.pure (hP1.pure hE)).at k u hu
            have hus : u.size ≤ 100000 := Nat.le_trans (size_mem (List.mem_of_getElem? hu)) HSz.out
            have hmx : firstL (l.take (k + 1)) = u.first := by
              obtain ⟨hkl, rfl⟩ := List.getElem?_eq_some_iff.1 hu
              rw [List.take_succ_eq_append_getElem hkl, firstL_snoc _ _ hf0]
            have hst := fun h => firstL_stop hf0 hu h
            have HC0 := HI.out u r wr hL hus
            obtain ⟨z, hz⟩ : ∃ z, z = u.first := ⟨_, rfl⟩
            rw [← hz] at HC0 hmx hst
            have HC := Lib.hid HC0
            have HMx := Lib.hid hmx
            have HSt := Lib.hid hst
            clear hu hL HC0 hmx hz hus hst hf0
            go_wp2_with (refine wpList_load_mid rfl 24 (.tmp 25) rfl b (o + k * 4) rfl r _ hr Try.underlying24 rfl (by rw [hr4]; kernel_rfl) ?_)
            refine HC.out.mono ?_
            rintro e w4 ⟨rfl, hP4⟩
            by_cases hz0 : z = 0
            · subst hz0
              go_wp2_with fail
              go_roundw
              case rel => exact ⟨k + 1, by omega, by go_num, rfl, HMx.out, hE.pure hP4⟩
              case measure => simp [intOf]; omega
            · have HB2 := Lib.hid (HSt.out hz0)
              go_wp2_with fail
              go_ret
              exact ⟨by rw [HB.out, HB2.out]; rfl, (hP1.pure hE).pure hP4⟩
          · have hki : ¬ (k : Int) < (n : Int) := by omega
            have HB2 : Hid (D = 0) := Lib.hid (by rw [HB.out, ← hf0, List.take_of_length_le (by rw [← HN.out]; omega)])
            clear hf0
            go_wp2_with fail
            go_ret
            exact ⟨by rw [HB2.out]; rfl, hP1.pure hE⟩
    · have HB : Hid (D = x) := Lib.hid (by rw [HD.out, if_neg hx0])
      clear HD hK HI HHo HOw
      go_wp2_with fail
      go_ret
      exact ⟨by rw [HB.out]; rfl, hP1.pure hP2⟩
end Go.Proofs.Ytiakphjkcpbccaa
