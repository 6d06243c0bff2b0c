/-
  Walked: the program's walk through a value, with any closure.
-/
import Derived.Test.YtiakphjkcpbccaaOwnA
import Derived.Test.YtiakphjkcpbccaaOwnR5
namespace Go.Proofs.Ytiakphjkcpbccaa
open Go.RowKit
set_option linter.unusedVariables false

mutual
/-- a walk through a value: a step at each, until one says no -/
def V.walk {σ : Type} (f : σ → V → σ × Bool) : V → σ → σ × Bool
  | .mk k n s l, x => if (f x (.mk k n s l)).2 = true then (if (k == 6 || k == 7) = true then walkL f l (f x (.mk k n s l)).1 else ((f x (.mk k n s l)).1, true)) else ((f x (.mk k n s l)).1, false)
def walkL {σ : Type} (f : σ → V → σ × Bool) : List V → σ → σ × Bool
  | [], x => (x, true)
  | v :: l, x => if (v.walk f x).2 = true then walkL f l (v.walk f x).1 else ((v.walk f x).1, false)
end
theorem walk_eq {σ : Type} (f : σ → V → σ × Bool) (v : V) (x : σ) : v.walk f x = if (f x v).2 = true then (if v.holds = true then walkL f v.l (f x v).1 else ((f x v).1, true)) else ((f x v).1, false) := by
  cases v; rw [V.walk]; rfl
theorem walkL_snoc {σ : Type} (f : σ → V → σ × Bool) (l : List V) (v : V) (x : σ) : walkL f (l ++ [v]) x = if (walkL f l x).2 = true then v.walk f (walkL f l x).1 else walkL f l x := by
  induction l generalizing x with
  | nil =>
    rw [List.nil_append, walkL, walkL, walkL]
    by_cases h : (v.walk f x).2 = true
    · rw [if_pos h, if_pos rfl]
      obtain ⟨y, b⟩ : ∃ y, y = v.walk f x := ⟨_, rfl⟩
      rw [← b] at h ⊢
      rcases y with ⟨y, z⟩
      simp only at h
      rw [h]
    · rw [if_neg h, if_pos rfl]
      obtain ⟨y, b⟩ : ∃ y, y = v.walk f x := ⟨_, rfl⟩
      rw [← b] at h ⊢
      rcases y with ⟨y, z⟩
      simp only [Bool.not_eq_true] at h
      rw [h]
  | cons u l ih =>
    rw [List.cons_append, walkL, walkL]
    by_cases h : (u.walk f x).2 = true
    · rw [if_pos h, if_pos h, ih]
    · rw [if_neg h, if_neg h, if_neg (by simp)]
theorem walkL_stop {σ : Type} (f : σ → V → σ × Bool) (p q : List V) (x : σ) (h : (walkL f p x).2 = false) : walkL f (p ++ q) x = walkL f p x := by
  induction p generalizing x with
  | nil => rw [walkL] at h; cases h
  | cons u p ih =>
    rw [List.cons_append, walkL]
    rw [walkL] at h
    rw [walkL]
    split
    · next e => rw [if_pos e] at h; exact ih _ h
    · rfl
/-- one step of what a closure keeps -/
structure Step {Γ : Type} (S : Γ → Nat → Prop) (I : Γ → World → Prop) (γ : Γ) (W : World) (γ' : Γ) (W' : World) : Prop where
  ext : Ext (S γ) W W'
  inv : I γ' W'
  own : ∀ k, S γ' k → S γ k ∨ W.heap.size ≤ k
theorem Step.trans {Γ : Type} {S : Γ → Nat → Prop} {I : Γ → World → Prop} {γ γ' γ'' : Γ} {W W' W'' : World} (h : Step S I γ W γ' W') (k : Step S I γ' W' γ'' W'') : Step S I γ W γ'' W'' :=
  ⟨h.ext.trans k.ext (fun i hi hs => (h.own i hs).resolve_right (by omega)), k.inv, fun i hs => by
    rcases k.own i hs with h1 | h1
    · exact h.own i h1
    · exact Or.inr (Nat.le_trans h.ext.size h1)⟩
/-- what a walk's closure must do -/
structure Walker {Γ σ : Type} (view : Γ → σ) (S : Γ → Nat → Prop) (I : Γ → World → Prop) (f : σ → V → σ × Bool) (g : Nat) (caps : Array Value) (w0 : World) : Prop where
  goes : ∀ args w, (callFunc g args).run Try.prog w = .ok (.enter g args) w
  base : ∀ γ W, I γ W → Pure w0 W
  below : ∀ γ W k, I γ W → S γ k → k < W.heap.size
  keep : ∀ γ W W', I γ W → Pure W W' → I γ W'
  see : ∀ d v cs γ W, Lies w0 (d + 1) v cs → v.size ≤ 100000 → I γ W → Calls Try.prog g (#[.agg cs.toArray] ++ caps) W (fun e W' => ∃ γ', e = .returned (.bool (f (view γ) v).2) ∧ view γ' = (f (view γ) v).1 ∧ Step S I γ W γ' W')
def WalkTo {Γ σ : Type} (view : Γ → σ) (S : Γ → Nat → Prop) (I : Γ → World → Prop) (F : σ × Bool) (γ : Γ) (W : World) (e : Ending) (W' : World) : Prop :=
  ∃ γ', e = .returned (.bool F.2) ∧ view γ' = F.1 ∧ Step S I γ W γ' W'
theorem Walker.pure {Γ σ : Type} {view : Γ → σ} {S : Γ → Nat → Prop} {I : Γ → World → Prop} {f : σ → V → σ × Bool} {g : Nat} {caps : Array Value} {w0 : World} (h : Walker view S I f g caps w0) {γ : Γ} {W W' : World} (hI : I γ W) (hP : Pure W W') : Step S I γ W γ W' :=
  ⟨hP.mono (fun _ _ e => e.elim), h.keep _ _ _ hI hP, fun k hs => Or.inl hs⟩
set_option maxHeartbeats 1000000 in
set_option maxRecDepth 100000 in
theorem walk_any {Γ σ : Type} {view : Γ → σ} {S : Γ → Nat → Prop} {I : Γ → World → Prop} {f : σ → V → σ × Bool} {g : Nat} {caps : Array Value} {w0 : World} (hWk : Hid (Walker view S I f g caps w0)) (hg : ∀ args w, (callFunc g args).run Try.prog w = .ok (.enter g args) w) : ∀ (d : Nat) (v : V) (cs : List Value) (γ : Γ) (w : World), Lies w0 d v cs → v.size ≤ 100000 → I γ w →
    Calls Try.prog 37 #[.agg cs.toArray, .func (.func g) #[] caps] w (WalkTo view S I (v.walk f (view γ)) γ w)
  | 0, _, _, _, _, h, _, _ => h.elim
  | d + 1, v, cs, γ, w, h, hsz, hI => by
    have IH := walk_any hWk hg d
    have hL0 := h
    obtain ⟨w1, hw1⟩ : ∃ w1, w1 = w.alloc (.cells cs.toArray 24) := ⟨_, rfl⟩
    have hBx : BlockIs w1 w.heap.size cs 24 := hw1 ▸ BlockIs.new w _ _
    have hP1 : Pure w w1 := hw1 ▸ ext_alloc w _
    have hst0 := hWk.out.pure hI hP1
    have hSee := Lib.hid (hWk.out.see d v cs γ w1 h hsz hst0.inv)
    have hbel := hWk.out.below _ _ w.heap.size hI
    obtain ⟨tb, htb⟩ : ∃ tb, tb = w.heap.size := ⟨_, rfl⟩
    rw [← htb] at hBx hbel
    have hns : ¬ S γ tb := fun hs => by have := hbel hs; omega
    have htb1 : tb < w1.heap.size := hBx.lt
    have he := walk_eq f v (view γ)
    obtain ⟨R, hR⟩ : ∃ R, R = v.walk f (view γ) := ⟨_, rfl⟩
    rw [← hR] at he ⊢
    have h4 := h.len
    have HRg := hBx.range
    have HTb := Lib.hid htb
    have HW1 := Lib.hid hw1
    have HE := Lib.hid he
    have HI := Lib.hid IH
    have HL0 := Lib.hid hL0
    have HSt0 := Lib.hid hst0
    have HNs := Lib.hid hns
    have HSz := Lib.hid hsz
    clear hR he IH hL0 h hst0 hns hbel hw1 htb htb1 hsz hI hP1
    go_enter Try.func37, Try.ntmps37
    go_wp2_with (refine wpList_load_mid rfl 24 (.tmp 2) rfl tb 0 (by rw [HTb.out]; rfl) cs _ (by rw [← HW1.out]; exact HRg) Try.underlying24 rfl (by rw [h4]; kernel_rfl) ?_)
    rw [← HW1.out, ← HTb.out]
    refine hSee.out.mono ?_
    rintro e w2 ⟨γ2, rfl, hv2, hst2⟩
    have hst := HSt0.out.trans hst2
    have hB2 := hBx.ext hst2.ext HNs.out
    have HF := Lib.hid hv2
    have HSt := Lib.hid hst
    clear hSee hv2 hst hst2 hBx HRg HNs HSt0
    obtain ⟨B, hB⟩ : ∃ B, B = (f (view γ) v).2 := ⟨_, rfl⟩
    rw [← hB]
    have HE1 : Hid (R = if B = true then (if v.holds = true then walkL f v.l (view γ2) else (view γ2, true)) else (view γ2, false)) := Lib.hid (by rw [HE.out, hB, HF.out])
    clear hB HE HF
    obtain ⟨a, c, rows, rfl, hlc, hcm, hnil, hK, hs⟩ := HL0.out.kids
    have hho := holds_iff (v := v)
    obtain ⟨n, hn⟩ : ∃ n, n = v.l.length := ⟨_, rfl⟩
    obtain ⟨l, hl⟩ : ∃ l, l = v.l := ⟨_, rfl⟩
    have hszl : sizeL l ≤ 100000 := by have := size_eq v; rw [hl]; have := HSz.out; omega
    have hlen : n ≤ sizeL l := by
      rw [hn, ← hl]
      clear HE1 hK hn hl hszl
      induction l with
      | nil => simp [sizeL]
      | cons u l ih => rw [sizeL, List.length_cons]; have := size_eq u; omega
    rw [← hl] at HE1 hn hK
    rw [← hl, ← hn] at hlc hB2
    obtain ⟨H, hH⟩ : ∃ H, H = v.holds := ⟨_, rfl⟩
    rw [← hH] at HE1 hho
    generalize v.kind = k at *
    have HN := Lib.hid hn
    have HSl := Lib.hid hszl
    have hn1 : n ≤ 100000 := by omega
    clear hn hl hH hszl hlen HL0 HSz hs
    cases B with
    | false =>
      have HR : Hid (R = (view γ2, false)) := Lib.hid (by rw [HE1.out]; rfl)
      clear HE1 HI hho hK
      go_wp2_with fail
      go_ret
      exact ⟨γ2, by rw [HR.out]; rfl, by rw [HR.out], HSt.out⟩
    | true =>
      cases H with
      | false =>
        have HR : Hid (R = (view γ2, true)) := Lib.hid (by rw [HE1.out]; rfl)
        have h67 : ¬ (k = 6 ∨ k = 7) := fun e => by have := hho.2 e; cases this
        have h6 : (k != 6) = true := by simp; exact fun e => h67 (Or.inl e)
        have h7 : (k != 7) = true := by simp; exact fun e => h67 (Or.inr e)
        have c0 : w2.cell? ⟨tb, 0, none⟩ = some (.int .i64 k) := hB2.cell 0
        clear HE1 HI hho hK h67
        go_wp2_with fail
        go_ret
        exact ⟨γ2, by rw [HR.out]; rfl, by rw [HR.out], HSt.out⟩
      | true =>
        have HR : Hid (R = walkL f l (view γ2)) := Lib.hid (by rw [HE1.out]; rfl)
        have h67 := hho.1 rfl
        have c0 : w2.cell? ⟨tb, 0, none⟩ = some (.int .i64 k) := hB2.cell 0
        have c3 : w2.cell? ⟨tb, 3, none⟩ = some (.slice a n c) := hB2.cell 3
        clear HE1 hho
        rcases h67 with rfl | rfl
        all_goals
          go_wp2_with fail
          go_loopw [6, 22] (fun _ i W => ∃ (k : Nat) (γk : Γ), k ≤ n ∧ i = .int .i64 k ∧ walkL f (l.take k) (view γ2) = (view γk, true) ∧ Step S I γ w γk W) (fun _ i _ => n - (intOf i).toNat)
          case atStart => exact ⟨0, γ2, Nat.zero_le _, rfl, by rw [List.take_zero, walkL], HSt.out⟩
          case round =>
            obtain ⟨k, γk, hk, rfl, hwk, hStk⟩ := hrel
            by_cases hlt : k < n
            · have hki : (k : Int) < (n : Int) := by omega
              obtain ⟨u, hu⟩ : ∃ u, l[k]? = some u := ⟨_, List.getElem?_eq_getElem (by rw [← HN.out]; exact hlt)⟩
              have hP0 := hWk.out.base _ _ hStk.inv
              obtain ⟨b, o, r, rfl, hr0, hr4, hL⟩ := hK.at k u hu
              have hr : wr.rangeAt b (o + k * 4) r := fun j v hv => hP0.cell_some (hr0 j v hv) id
              have hus : u.size ≤ 100000 := Nat.le_trans (size_mem (List.mem_of_getElem? hu)) HSl.out
              have hwk1 : walkL f (l.take (k + 1)) (view γ2) = u.walk f (view γk) := by
                obtain ⟨hkl, rfl⟩ := List.getElem?_eq_some_iff.1 hu
                rw [List.take_succ_eq_append_getElem hkl, walkL_snoc, hwk, if_pos rfl]
              obtain ⟨hth, hB3, hP2⟩ := put_new (W := wr) _ rfl (d := d) (v := u) (cs := r) (by exact hL.pure hP0)
              have hone := hL.one
              obtain ⟨w3, hw3⟩ : ∃ z, z = (wr.alloc (.cells zeroCs.toArray 24)).setCells wr.heap.size 0 r := ⟨_, rfl⟩
              rw [← hw3] at hB3 hP2
              have hR3 := hB3.range
              have hSt3 := hStk.trans (hWk.out.pure hStk.inv hP2)
              obtain ⟨F, hF⟩ : ∃ F, F = u.walk f (view γk) := ⟨_, rfl⟩
              have HC0 := HI.out u r γk w3 hL hus hSt3.inv
              rw [← hF] at HC0 hwk1
              have HC := Lib.hid HC0
              have HW3 := Lib.hid hw3
              have HOne := Lib.hid hone
              have hsr : r.toArray.size = 4 := by rw [List.size_toArray]; exact hr4
              have HTh := Lib.hid (show (wr.alloc (.cells #[.int .i64 0, .int .i64 0, .string ⟨#[]⟩, .slice none 0 0] 24)).there wr.heap.size 0 r.toArray.size by rw [hsr]; exact hth)
              have HSi : Hid ((Try.prog.info? 24).map (·.size) = some r.toArray.size) := Lib.hid (by rw [hsr]; kernel_rfl)
              have HR4 := Lib.hid hr4
              have HK1 := Lib.hid hwk1
              have HS3 := Lib.hid hSt3
              clear hu hL HC0 hF hus hw3 hone hth hr4 hB3 hsr hr0 hP0 hwk hwk1 hStk hSt3 hP2 hK HI
              go_wp2_with (first
                | (refine wpList_load_mid rfl 24 (.tmp 24) rfl b (o + k * 4) rfl r _ hr Try.underlying24 rfl (by rw [HR4.out]; kernel_rfl) ?_)
                | (refine wpList_store_mid rfl 24 (.tmp 6) (.tmp 25) rfl wr.heap.size 0 r.toArray rfl rfl HTh.out HSi.out HOne.out ?_; rw [show (wr.alloc (.cells #[.int .i64 0, .int .i64 0, .string ⟨#[]⟩, .slice none 0 0] 24)).setCells wr.heap.size 0 r.toArray.toList = w3 from HW3.out.symm])
                | (refine wpList_load_mid rfl 24 (.tmp 6) rfl wr.heap.size 0 rfl r _ hR3 Try.underlying24 rfl (by rw [HR4.out]; kernel_rfl) ?_))
              refine HC.out.mono ?_
              rintro e w4 ⟨γ4, rfl, hv4, hst4⟩
              clear HC
              have hSt4 := HS3.out.trans hst4
              obtain ⟨F1, F2⟩ := F
              cases F2 with
              | true =>
                go_wp2_with fail
                go_roundw
                case rel => exact ⟨k + 1, γ4, by omega, by go_num, by rw [HK1.out, hv4], hSt4⟩
                case measure => simp [intOf]; omega
              | false =>
                have HB2 : Hid (R = (view γ4, false)) := Lib.hid (by
                  rw [HR.out, ← List.take_append_drop (k + 1) l, walkL_stop _ _ _ _ (by rw [HK1.out]), HK1.out, hv4])
                go_wp2_with fail
                go_ret
                exact ⟨γ4, by rw [HB2.out]; rfl, by rw [HB2.out], hSt4⟩
            · have hki : ¬ (k : Int) < (n : Int) := by omega
              have HB2 : Hid (R = (view γk, true)) := Lib.hid (by rw [HR.out, ← hwk, List.take_of_length_le (by rw [← HN.out]; omega)])
              clear hwk HR
              have HS := Lib.hid hStk
              clear hStk
              go_wp2_with fail
              go_ret
              exact ⟨γk, by rw [HB2.out]; rfl, by rw [HB2.out], HS.out⟩
end Go.Proofs.Ytiakphjkcpbccaa
