/-
  Walked: the program's Depth.
-/
import Derived.Test.YtnpiemcfbnpfdaaDepth
namespace Go.Proofs.Ytnpiemcfbnpfdaa
open Go.RowKit
set_option linter.unusedVariables false
set_option linter.unusedSimpArgs false

theorem Lies.one {W : World} {d : Nat} {v : V} {cs : List Value} (h : Lies W d v cs) : cs.toArray.all (fun u => u.oneCell') = true := by
  cases d with
  | zero => exact h.elim
  | succ d =>
    obtain ⟨a, c, rows, rfl, _⟩ := h
    exact all_oneCell_toArray (by intro u hu; simp only [List.mem_cons, List.not_mem_nil, or_false] at hu; rcases hu with rfl | rfl | rfl | rfl <;> rfl)
def zeroCs : List Value := [.int .i64 0, .int .i64 0, .string ⟨#[]⟩, .slice none 0 0]
/-- a new variable holds a value -/
theorem put_new {W : World} {d : Nat} {v : V} {cs : List Value} (C : Array Value) (hC : C = zeroCs.toArray) (h : Lies W d v cs) : (W.alloc (.cells C 62)).there W.heap.size 0 4 ∧ BlockIs ((W.alloc (.cells C 62)).setCells W.heap.size 0 cs) W.heap.size cs 62 ∧ Pure W ((W.alloc (.cells C 62)).setCells W.heap.size 0 cs) := by
  subst hC
  have hB := BlockIs.new W zeroCs 62
  exact ⟨hB.there 4 rfl, hB.setAll cs (by rw [h.len]; rfl), Ext.setCells cs 0 _ (ext_alloc W _) (fun h => absurd h (Nat.lt_irrefl _))⟩
set_option maxHeartbeats 1000000 in
set_option maxRecDepth 100000 in
theorem depth_any : ∀ (d : Nat) (v : V) (cs : List Value) (w : World), Lies w d v cs → v.size ≤ 100000 →
    Calls Try.prog 68 #[.agg cs.toArray] w (IntTo v.depth w)
  | 0, _, _, _, h, _ => h.elim
  | d + 1, v, cs, w, h, hsz => by
    have IH := depth_any d
    obtain ⟨a, c, rows, rfl, hlc, hcm, hnil, hK, hs⟩ := h.kids
    obtain ⟨w1, hw1⟩ : ∃ w1, w1 = w.alloc (.cells #[.int .i64 v.kind, .int .i64 v.n, .string v.s, .slice a v.l.length c] 62) := ⟨_, rfl⟩
    have hBx : BlockIs w1 w.heap.size [.int .i64 v.kind, .int .i64 v.n, .string v.s, .slice a v.l.length c] 62 := hw1 ▸ BlockIs.new w _ _
    have hP1 : Pure w w1 := hw1 ▸ ext_alloc w _
    obtain ⟨tb, htb⟩ : ∃ tb, tb = w.heap.size := ⟨_, rfl⟩
    rw [← htb] at hBx
    have hd := depth_eq v
    have hho := holds_iff (v := v)
    obtain ⟨D, hD⟩ : ∃ D, D = v.depth := ⟨_, rfl⟩
    rw [← hD]
    rw [← hD] at hd
    obtain ⟨n, hn⟩ : ∃ n, n = v.l.length := ⟨_, rfl⟩
    obtain ⟨l, hl⟩ : ∃ l, l = v.l := ⟨_, rfl⟩
    have hszl : sizeL l ≤ 100000 := by have := size_eq v; rw [hl]; omega
    have hlen : n ≤ sizeL l := by
      rw [hn, ← hl]
      clear hd hK hn hl hszl
      induction l with
      | nil => simp [sizeL]
      | cons u l ih => rw [sizeL, List.length_cons]; have := size_eq u; omega
    rw [← hl] at hd hn hK
    rw [← hl, ← hn]
    rw [← hl, ← hn] at hlc hw1 hBx
    obtain ⟨H, hH⟩ : ∃ H, H = v.holds := ⟨_, rfl⟩
    rw [← hH] at hd hho
    generalize v.kind = k at *
    have HI := Lib.hid IH
    have HD := Lib.hid hd
    have HN := Lib.hid hn
    have HSz := Lib.hid hszl
    have HW1 := Lib.hid hw1
    have HTb := Lib.hid htb
    have hn1 : n ≤ 100000 := by omega
    clear IH hd hn hl h hD hH hw1 htb hsz hlen hszl
    cases H with
    | false =>
      have HB : Hid (D = 1) := Lib.hid (by rw [HD.out]; rfl)
      have h67 : ¬ (k = 6 ∨ k = 7) := fun e => by have := hho.2 e; cases this
      have h6 : (k == 6) = false := by simp; omega
      have h7 : (k == 7) = false := by simp; omega
      clear HD hK HI hho h67
      go_enter Try.func68, Try.ntmps68
      go_wp2_with fail
      go_ret
      exact ⟨by rw [HB.out]; rfl, by rw [← HW1.out]; exact hP1⟩
    | true =>
      have HB : Hid (D = 1 + depthL l) := Lib.hid (by rw [HD.out]; rfl)
      have h67 := hho.1 rfl
      clear HD hho
      rcases h67 with rfl | rfl
      all_goals
        go_enter Try.func68, Try.ntmps68
        go_wp2_with fail
        rw [← HW1.out, ← HTb.out]
        go_loopw [3, 5, 17] (fun y _ i W => ∃ k : Nat, k ≤ n ∧ i = .int .i64 k ∧ y = .int .i64 (depthL (l.take k) : Nat) ∧ Pure w1 W) (fun _ _ i _ => n - (intOf i).toNat)
        case atStart => exact ⟨0, Nat.zero_le _, rfl, by rw [List.take_zero, depthL]; rfl, Ext.refl _ _⟩
        case round =>
          obtain ⟨k, hk, rfl, rfl, hE⟩ := hrel
          by_cases hlt : k < n
          · have hki : (k : Int) < (n : Int) := by omega
            obtain ⟨u, hu⟩ : ∃ u, l[k]? = some u := ⟨_, List.getElem?_eq_getElem (by rw [← HN.out]; exact hlt)⟩
            obtain ⟨b, o, r, rfl, hr, hr4, hL⟩ := (hK.pure (hP1.pure hE)).at k u hu
            have hus : u.size ≤ 100000 := Nat.le_trans (size_mem (List.mem_of_getElem? hu)) HSz.out
            have hmx : depthL (l.take (k + 1)) = max (depthL (l.take k)) u.depth := by
              obtain ⟨hkl, rfl⟩ := List.getElem?_eq_some_iff.1 hu
              rw [List.take_succ_eq_append_getElem hkl, depthL_snoc]
            obtain ⟨hth, hB2, hP2⟩ := put_new _ rfl hL
            have hone := hL.one
            obtain ⟨w2, hw2⟩ : ∃ z, z = (wr.alloc (.cells zeroCs.toArray 62)).setCells wr.heap.size 0 r := ⟨_, rfl⟩
            rw [← hw2] at hB2 hP2
            have hR2 := hB2.range
            have hdu := V.depth_size u
            obtain ⟨y, hy⟩ : ∃ y, y = depthL (l.take k) := ⟨_, rfl⟩
            have hdk : y ≤ 100000 := by rw [hy]; exact Nat.le_trans (depthL_size _) (Nat.le_trans (by have := sizeL_append (l.take k) (l.drop k); rw [List.take_append_drop] at this; omega) HSz.out)
            obtain ⟨z, hz⟩ : ∃ z, z = u.depth := ⟨_, rfl⟩
            have HC0 := HI.out u r w2 (hL.pure hP2) hus
            rw [← hz] at HC0 hmx hdu
            rw [← hy] at hmx ⊢
            have HC := Lib.hid HC0
            have HMx := Lib.hid hmx
            have HW2 := Lib.hid hw2
            have HOne := Lib.hid hone
            have hsr : r.toArray.size = 4 := by rw [List.size_toArray]; exact hr4
            have HTh := Lib.hid (show (wr.alloc (.cells #[.int .i64 0, .int .i64 0, .string ⟨#[]⟩, .slice none 0 0] 62)).there wr.heap.size 0 r.toArray.size by rw [hsr]; exact hth)
            have HSi : Hid ((Try.prog.info? 62).map (·.size) = some r.toArray.size) := Lib.hid (by rw [hsr]; kernel_rfl)
            have HR4 := Lib.hid hr4
            have hz5 : z ≤ 100000 := by omega
            clear hu hL HC0 hmx hy hz hdu hus hw2 hone hth hr4 hB2 hsr
            go_wp2_with (first
              | (refine wpList_load_mid rfl 62 (.tmp 19) rfl b (o + k * 4) rfl r _ hr Try.underlying62 rfl (by rw [HR4.out]; kernel_rfl) ?_)
              | (refine wpList_store_mid rfl 62 (.tmp 5) (.tmp 20) rfl wr.heap.size 0 r.toArray rfl rfl HTh.out HSi.out HOne.out ?_; rw [show (wr.alloc (.cells #[.int .i64 0, .int .i64 0, .string ⟨#[]⟩, .slice none 0 0] 62)).setCells wr.heap.size 0 r.toArray.toList = w2 from HW2.out.symm])
              | (refine wpList_load_mid rfl 62 (.tmp 5) rfl wr.heap.size 0 rfl r _ hR2 Try.underlying62 rfl (by rw [HR4.out]; kernel_rfl) ?_))
            refine HC.out.mono ?_
            rintro e w3 ⟨rfl, hP3⟩
            clear HC
            go_wp2_with fail
            all_goals
              go_roundw
              case rel => exact ⟨k + 1, by omega, by go_num, (by rw [HMx.out]; first | (rw [Nat.max_eq_left (by omega)]) | (rw [Nat.max_eq_right (by omega)]) | (congr 1; omega)), (hE.pure hP2).pure hP3⟩
              case measure => simp [intOf]; omega
          · have hki : ¬ (k : Int) < (n : Int) := by omega
            obtain ⟨y, hy⟩ : ∃ y, y = depthL (l.take k) := ⟨_, rfl⟩
            have hyb : y ≤ 100000 := by
              rw [hy, List.take_of_length_le (by rw [← HN.out]; omega)]
              exact Nat.le_trans (depthL_size _) HSz.out
            have HB2 : Hid (D = 1 + y) := Lib.hid (by rw [HB.out, hy, List.take_of_length_le (by rw [← HN.out]; omega)])
            rw [← hy]
            clear hy
            go_wp2_with fail
            go_ret
            exact ⟨by rw [HB2.out, Int.natCast_add]; rfl, hP1.pure hE⟩
end Go.Proofs.Ytnpiemcfbnpfdaa
