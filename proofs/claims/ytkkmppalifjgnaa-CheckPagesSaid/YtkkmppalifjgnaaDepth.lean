/-
  How deep a value is; walked: the two Depths, holds, small.
-/
import Derived.Test.YtkkmppalifjgnaaVal
namespace Go.Proofs.Ytkkmppalifjgnaa
open Go.RowKit
set_option linter.unusedVariables false
set_option linter.unusedSimpArgs false

mutual
/-- how many values there are in one -/
def V.size : V → Nat
  | .mk _ _ _ l => 1 + sizeL l
def sizeL : List V → Nat
  | [] => 0
  | v :: l => v.size + sizeL l
end
mutual
/-- how deep one is -/
def V.depth : V → Nat
  | .mk k _ _ l => if (k == 6 || k == 7) = true then 1 + depthL l else 1
def depthL : List V → Nat
  | [] => 0
  | v :: l => max v.depth (depthL l)
end
theorem size_eq (v : V) : v.size = 1 + sizeL v.l := by cases v; simp [V.size, V.l]
mutual
theorem V.few_size : ∀ (v : V) (x : Int), 0 ≤ x → v.few x = if (v.size : Int) ≤ x then x - v.size else -1
  | .mk _ _ _ l, x, h => by
    rw [V.few, V.size, fewL_size l (x - 1) (by omega)]
    by_cases e : (sizeL l : Int) ≤ x - 1
    · rw [if_pos e, if_pos (by omega)]; omega
    · rw [if_neg e, if_neg (by omega)]
theorem fewL_size : ∀ (l : List V) (x : Int), -1 ≤ x → fewL l x = if (sizeL l : Int) ≤ x then x - sizeL l else -1
  | [], x, h => by
    rw [fewL, sizeL]
    by_cases e : ((0 : Nat) : Int) ≤ x
    · rw [if_pos e]; omega
    · rw [if_neg e]; omega
  | v :: l, x, h => by
    rw [fewL, sizeL]
    by_cases h0 : 0 ≤ x
    · rw [if_pos h0, V.few_size v x h0]
      by_cases e : (v.size : Int) ≤ x
      · rw [if_pos e, fewL_size l _ (by omega)]
        by_cases e2 : (sizeL l : Int) ≤ x - v.size
        · rw [if_pos e2, if_pos (by omega)]; omega
        · rw [if_neg e2, if_neg (by omega)]
      · rw [if_neg e, if_neg (by omega)]
        exact fewL_neg (by decide)
    · rw [if_neg h0, if_neg (by omega)]; omega
end
mutual
theorem V.depth_size : ∀ (v : V), v.depth ≤ v.size
  | .mk k _ _ l => by
    have := depthL_size l
    rw [V.depth, V.size]
    split <;> omega
theorem depthL_size : ∀ (l : List V), depthL l ≤ sizeL l
  | [] => by simp [depthL]
  | v :: l => by
    have h1 := V.depth_size v
    have h2 := depthL_size l
    rw [depthL, sizeL]; omega
end
theorem depthL_snoc (l : List V) (v : V) : depthL (l ++ [v]) = max (depthL l) v.depth := by
  induction l with
  | nil => simp [depthL]
  | cons u l ih => rw [List.cons_append, depthL, depthL, ih, Nat.max_assoc]
theorem sizeL_append (l m : List V) : sizeL (l ++ m) = sizeL l + sizeL m := by
  induction l with
  | nil => simp [sizeL]
  | cons u l ih => rw [List.cons_append, sizeL, sizeL, ih]; omega
theorem size_mem {l : List V} {v : V} (h : v ∈ l) : v.size ≤ sizeL l := by
  induction l with
  | nil => cases h
  | cons u l ih =>
    rw [sizeL]
    rcases List.mem_cons.1 h with rfl | h
    · omega
    · have := ih h; omega
def BoolTo (x : Bool) (w : World) (e : Ending) (w' : World) : Prop := e = .returned (.bool x) ∧ Pure w w'
/-- may a value have others in it? -/
def V.holds (v : V) : Bool := v.kind == 6 || v.kind == 7
theorem holds_iff {v : V} : v.holds = true ↔ v.kind = 6 ∨ v.kind = 7 := by simp [V.holds]
theorem depth_eq (v : V) : v.depth = if v.holds = true then 1 + depthL v.l else 1 := by cases v; rw [V.depth]; rfl
set_option maxRecDepth 100000 in
theorem holds_any {d : Nat} {v : V} {cs : List Value} {w : World} (h : Lies w d v cs) : Calls Try.prog 65 #[.agg cs.toArray] w (BoolTo v.holds w) := by
  cases d with
  | zero => exact h.elim
  | succ d =>
    obtain ⟨a, c, rows, rfl, _, _, _, hK, hs⟩ := h.kids
    obtain ⟨B, hB⟩ : ∃ B, B = v.holds := ⟨_, rfl⟩
    rw [← hB]
    unfold V.holds at hB
    generalize v.kind = k at *
    by_cases h6 : k = 6
    · have h6' : (k == 6) = true := by simp [h6]
      have HB : Hid (B = true) := Lib.hid (by rw [hB, h6']; rfl)
      clear hB h6 hK h
      go_enter Try.func65, Try.ntmps65
      go_wp2_with fail
      go_ret
      exact ⟨by rw [HB.out]; rfl, ext_alloc _ _⟩
    · have h6' : (k == 6) = false := by simp [h6]
      obtain ⟨C, hC⟩ : ∃ C, C = (k == 7) := ⟨_, rfl⟩
      have HB : Hid (B = C) := Lib.hid (by rw [hB, h6', hC]; rfl)
      have hC' : (k == 7) = C := hC.symm
      clear hB h6 hK hC h
      go_enter Try.func65, Try.ntmps65
      go_wp2_with fail
      all_goals
        go_ret
        exact ⟨by rw [HB.out]; rfl, ext_alloc _ _⟩
set_option maxHeartbeats 1000000 in
set_option maxRecDepth 100000 in
theorem refdepth_any : ∀ (d : Nat) (v : V) (cs : List Value) (w : World), Lies w d v cs → v.size ≤ 100000 →
    Calls Try.prog 62 #[.agg cs.toArray] w (IntTo v.depth w)
  | 0, _, _, _, h, _ => h.elim
  | d + 1, v, cs, w, h, hsz => by
    have IH := refdepth_any d
    have h4 := h.len
    have hLv := h
    obtain ⟨a, c, rows, hcs, hlc, hcm, hnil, hK, hs⟩ := h.kids
    have HHo := Lib.hid (fun W (hP : Pure w W) => holds_any (hLv.pure hP))
    obtain ⟨w1, hw1⟩ : ∃ w1, w1 = w.alloc (.cells cs.toArray 41) := ⟨_, rfl⟩
    have hBx : BlockIs w1 w.heap.size cs 41 := hw1 ▸ BlockIs.new w _ _
    have hP1 : Pure w w1 := hw1 ▸ ext_alloc w _
    obtain ⟨tb, htb⟩ : ∃ tb, tb = w.heap.size := ⟨_, rfl⟩
    rw [← htb] at hBx
    have hd := depth_eq v
    obtain ⟨D, hD⟩ : ∃ D, D = v.depth := ⟨_, rfl⟩
    obtain ⟨H, hH⟩ : ∃ H, H = v.holds := ⟨_, rfl⟩
    rw [← hD]
    rw [← hD, ← hH] at hd
    rw [← hH] at HHo
    obtain ⟨n, hn⟩ : ∃ n, n = v.l.length := ⟨_, rfl⟩
    obtain ⟨l, hl⟩ : ∃ l, l = v.l := ⟨_, rfl⟩
    have hszl : sizeL l ≤ 100000 := by have := size_eq v; rw [hl]; omega
    have hlen : n ≤ sizeL l := by
      rw [hn, ← hl]
      clear hd hK hn hl hszl
      induction l with
      | nil => simp [sizeL]
      | cons u l ih => rw [sizeL, List.length_cons]; have := size_eq u; omega
    rw [← hl] at hd hn hK
    rw [← hl, ← hn] at hlc hcs
    have HCs := Lib.hid hcs
    have HI := Lib.hid IH
    have HD := Lib.hid hd
    have HN := Lib.hid hn
    have HSz := Lib.hid hszl
    have hR := hBx.range
    have HW1 := Lib.hid hw1
    have HTb := Lib.hid htb
    have hn1 : n ≤ 100000 := by omega
    clear IH hd hn hl hLv h hD hH hw1 htb hsz hlen hszl hcs
    cases H with
    | false =>
      have HB : Hid (D = 1) := Lib.hid (by rw [HD.out]; rfl)
      clear HD hK HI
      go_enter Try.func62, Try.ntmps62
      go_wp2_with (refine wpList_load_mid rfl 41 (.tmp 1) rfl tb 0 (by rw [HTb.out]; rfl) cs _ (by rw [← HW1.out]; exact hR) Try.underlying41 rfl (by rw [h4]; kernel_rfl) ?_)
      rw [← HW1.out]
      refine (HHo.out w1 hP1).mono ?_
      rintro e w2 ⟨rfl, hP2⟩
      go_wp2_with fail
      go_ret
      exact ⟨by rw [HB.out]; rfl, hP1.pure hP2⟩
    | true =>
      have HB : Hid (D = 1 + depthL l) := Lib.hid (by rw [HD.out]; rfl)
      clear HD
      go_enter Try.func62, Try.ntmps62
      go_wp2_with (refine wpList_load_mid rfl 41 (.tmp 1) rfl tb 0 (by rw [HTb.out]; rfl) cs _ (by rw [← HW1.out]; exact hR) Try.underlying41 rfl (by rw [h4]; kernel_rfl) ?_)
      rw [← HW1.out, ← HTb.out]
      refine (HHo.out w1 hP1).mono ?_
      rintro e w2 ⟨rfl, hP2⟩
      clear hR HHo
      have hcs := HCs.out
      subst hcs
      go_wp2_with fail
      go_loopw [3, 4, 5] (fun y i _ W => ∃ k : Nat, k ≤ n ∧ i = .int .i64 k ∧ y = .int .i64 ((1 + depthL (l.take k) : Nat) : Int) ∧ Pure w1 W) (fun _ i _ _ => n - (intOf i).toNat)
      case atStart => exact ⟨0, Nat.zero_le _, rfl, by rw [List.take_zero, depthL]; rfl, hP2⟩
      case round =>
        obtain ⟨k, hk, rfl, rfl, hE⟩ := hrel
        have c3 : wr.cell? ⟨tb, 3, none⟩ = some (.slice a n c) := (hBx.ext hE id).cell 3
        by_cases hlt : k < n
        · have hki : (k : Int) < (n : Int) := by omega
          obtain ⟨u, hu⟩ : ∃ u, l[k]? = some u := ⟨_, List.getElem?_eq_getElem (by rw [← HN.out]; exact hlt)⟩
          obtain ⟨b, o, r, rfl, hr, hr4, hL⟩ := (hK.pure (hP1.pure hE)).at k u hu
          have hus : u.size ≤ 100000 := Nat.le_trans (size_mem (List.mem_of_getElem? hu)) HSz.out
          have hmx : depthL (l.take (k + 1)) = max (depthL (l.take k)) u.depth := by
            obtain ⟨hkl, rfl⟩ := List.getElem?_eq_some_iff.1 hu
            rw [List.take_succ_eq_append_getElem hkl, depthL_snoc]
          have hdu := V.depth_size u
          have hdk : depthL (l.take k) ≤ 100000 := Nat.le_trans (depthL_size _) (Nat.le_trans (by have := sizeL_append (l.take k) (l.drop k); rw [List.take_append_drop] at this; omega) HSz.out)
          obtain ⟨y, hy⟩ : ∃ y, y = depthL (l.take k) := ⟨_, rfl⟩
          obtain ⟨z, hz⟩ : ∃ z, z = u.depth := ⟨_, rfl⟩
          have HC0 := HI.out u r wr hL hus
          rw [← hz] at HC0 hmx hdu
          rw [← hy] at hmx hdk ⊢
          have HC := Lib.hid HC0
          have HMx := Lib.hid hmx
          have hz5 : z ≤ 100000 := by omega
          clear hu hL HC0 hmx hy hz hdu hus
          go_wp2_with (refine wpList_load_mid rfl 41 (.tmp 20) rfl b (o + k * 4) rfl r _ hr Try.underlying41 rfl (by rw [hr4]; kernel_rfl) ?_)
          refine HC.out.mono ?_
          rintro e w3 ⟨rfl, hP3⟩
          by_cases hgt : (1 + y : Nat) < z + 1
          · have hgi : ((1 + y : Nat) : Int) < (z : Int) + 1 := by omega
            go_wp2_with fail
            go_roundw
            case rel => exact ⟨k + 1, by omega, by go_num, by rw [HMx.out, Nat.max_eq_right (by omega)]; congr 1; omega, hE.pure hP3⟩
            case measure => simp [intOf]; omega
          · have hgi : ¬ ((1 + y : Nat) : Int) < (z : Int) + 1 := by omega
            go_wp2_with fail
            go_roundw
            case rel => exact ⟨k + 1, by omega, by go_num, (by rw [HMx.out, Nat.max_eq_left (by omega), Int.natCast_add]; rfl), hE.pure hP3⟩
            case measure => simp [intOf]; omega
        · have hki : ¬ (k : Int) < (n : Int) := by omega
          obtain ⟨y, hy⟩ : ∃ y, y = depthL (l.take k) := ⟨_, rfl⟩
          have HB2 : Hid (D = 1 + y) := Lib.hid (by rw [HB.out, hy, List.take_of_length_le (by rw [← HN.out]; omega)])
          rw [← hy]
          clear hy
          go_wp2_with fail
          go_ret
          exact ⟨by rw [HB2.out]; rfl, hP1.pure hE⟩
end Go.Proofs.Ytkkmppalifjgnaa
