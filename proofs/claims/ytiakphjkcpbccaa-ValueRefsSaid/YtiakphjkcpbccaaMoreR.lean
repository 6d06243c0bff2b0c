/-
  Walked: the reference's has, more, Refs.
-/
import Derived.Test.YtiakphjkcpbccaaRefsPl
import Derived.Test.YtiakphjkcpbccaaReg
import Derived.Test.YtiakphjkcpbccaaRegList
namespace Go.Proofs.Ytiakphjkcpbccaa
open Go.RowKit
set_option linter.unusedVariables false

set_option maxHeartbeats 1000000 in
theorem has_any (S : List Int) (a : Option Addr) (c : Nat) (x : Int) (w : World) (hR : RowOf w a (intsV S)) (hl : S.length ≤ 1000000) :
    Calls Try.prog 62 #[.slice a S.length c, .int .i64 x] w (BoolTo (S.contains x) w) := by
  obtain ⟨n, hn⟩ : ∃ n, n = S.length := ⟨_, rfl⟩
  obtain ⟨B, hB⟩ : ∃ B, B = S.contains x := ⟨_, rfl⟩
  rw [← hn, ← hB]
  rw [← hn] at hl
  have HN := Lib.hid hn
  have HB := Lib.hid hB
  have HR := Lib.hid hR
  clear hn hB hR
  go_enter Try.func62, Try.ntmps62
  go_wp2_with fail
  go_loop [5] (fun i => ∃ k : Nat, k ≤ n ∧ i = .int .i64 k ∧ Hid (∀ y ∈ S.take k, y ≠ x)) (fun i => n - (intOf i).toNat)
  case atStart => exact ⟨0, Nat.zero_le _, rfl, Lib.hid (by simp)⟩
  case round =>
    obtain ⟨k, hk, rfl, HT⟩ := hrel
    by_cases hlt : k < n
    · have hki : (k : Int) < (n : Int) := by omega
      have hkS : k < S.length := by rw [← HN.out]; exact hlt
      obtain ⟨b, o, rfl, hc⟩ := HR.out k _ (intsV_get hkS)
      obtain ⟨y, hy⟩ : ∃ y, y = S[k] := ⟨_, rfl⟩
      rw [← hy] at hc
      have HY := Lib.hid hy
      clear hy
      by_cases hyx : y = x
      · subst hyx
        have HBy : Hid (B = true) := Lib.hid (by rw [HB.out, HY.out]; simp)
        go_wp2_with fail
        go_ret
        exact ⟨by rw [HBy.out]; rfl, Ext.refl _ _⟩
      · have hyx' : (y == x) = false := by simpa using hyx
        have HT2 : Hid (∀ z ∈ S.take (k + 1), z ≠ x) := Lib.hid (by
          intro z hz
          rw [List.take_succ_eq_append_getElem hkS, List.mem_append] at hz
          rcases hz with hz | hz
          · exact HT.out z hz
          · simp at hz; rw [hz, ← HY.out]; exact hyx)
        clear hyx
        go_wp2_with fail
        go_round
        case rel => exact ⟨k + 1, by omega, by go_num, HT2⟩
        case measure => simp [intOf]; omega
    · have hki : ¬ (k : Int) < (n : Int) := by omega
      have HBy : Hid (B = false) := Lib.hid (by
        rw [HB.out]
        have h := HT.out
        rw [List.take_of_length_le (by rw [← HN.out]; omega)] at h
        simp
        exact fun hx => h x hx rfl)
      go_wp2_with fail
      go_ret
      exact ⟨by rw [HBy.out]; rfl, Ext.refl _ _⟩
/-- a row of numbers, wherever -/
def NumsTo (S : List Int) (w : World) (e : Ending) (w' : World) : Prop :=
  ∃ a c, e = .returned (.slice a S.length c) ∧ S.length ≤ c ∧ c ≤ maxLen ∧ (a = none → c = 0) ∧ RowOf w' a (intsV S) ∧ Pure w w'
theorem size_take_at : ∀ {l : List V} {k : Nat} {u : V}, l[k]? = some u → sizeL (l.take k) + u.size ≤ sizeL l
  | [], _, _, h => by simp at h
  | v :: l, 0, u, h => by cases h; rw [List.take_zero, sizeL, sizeL]; omega
  | v :: l, k + 1, u, h => by
    have := size_take_at (l := l) (k := k) (u := u) (by simpa using h)
    rw [List.take_succ_cons, sizeL, sizeL]; omega
theorem nums_own {w w' : World} {R n c : Nat} {a : Option Addr} {M : List Int} {xs : List Value} (h : w'.ownsRow R 3 1 (.slice a n c) n xs) (hM : intsV M = xs) (hn : M.length = n) (hP : Pure w w') : NumsTo M w (.returned (.slice a n c)) w' := by
  subst hM hn
  obtain ⟨a', c', he, h1, h2, h3, _⟩ := own_form h
  cases he
  exact ⟨a, c, rfl, h1, h2, h3, own_row h, hP⟩
theorem nums_same {M S : List Int} {n c : Nat} {a : Option Addr} {w w1 w2 w3 : World} (hM : M = S) (hn : n = S.length) (hR : RowOf w1 a (intsV S)) (h1 : n ≤ c) (h2 : c ≤ maxLen) (h3 : a = none → c = 0) (hP2 : Pure w w2) (hP1 : Pure w w1) (hP3 : Pure w2 w3) (h13 : Pure w1 w3) : NumsTo M w (.returned (.slice a n c)) w3 := by
  subst hM hn
  exact ⟨a, c, rfl, h1, h2, h3, hR.ext h13 (fun _ _ => id), hP2.pure hP3⟩
set_option maxHeartbeats 2000000 in
set_option maxRecDepth 100000 in
theorem more_any : ∀ (d : Nat) (v : V) (cs : List Value) (S : List Int) (a : Option Addr) (c : Nat) (w : World), Lies w d v cs → RowOf w a (intsV S) → S.length ≤ c → c ≤ maxLen → (a = none → c = 0) → S.length + v.size ≤ 100000 →
    Calls Try.prog 49 #[.slice a S.length c, .agg cs.toArray] w (NumsTo (v.more S) w)
  | 0, _, _, _, _, _, _, h, _, _, _, _, _ => h.elim
  | d + 1, v, cs, S, a, c, w, h, hR, hac, hcm, hnil, hsz => by
    have IH := more_any d
    have hme := more_eq v S
    obtain ⟨M, hM⟩ : ∃ M, M = v.more S := ⟨_, rfl⟩
    rw [← hM] at hme ⊢
    have h4 := h.len
    have HL0 := Lib.hid h
    obtain ⟨av, cv, rows, hcs, hlc, hcvm, hvnil, hK, hs⟩ := h.kids
    obtain ⟨w1, hw1⟩ : ∃ z, z = w.alloc (.cells cs.toArray 24) := ⟨_, rfl⟩
    obtain ⟨tb, htb⟩ : ∃ tb, tb = w.heap.size := ⟨_, rfl⟩
    have hBx : BlockIs w1 tb cs 24 := htb ▸ hw1 ▸ BlockIs.new w _ _
    have hP1 : Pure w w1 := hw1 ▸ ext_alloc w _
    have hR1 := hR.ext hP1 (fun _ _ => id)
    have HW1 := Lib.hid hw1
    have HTb := Lib.hid htb
    have HCs := Lib.hid hcs
    have HHs := Lib.hid (has_any S a c v.n w1 hR1 (by omega))
    have HSz := Lib.hid hsz
    obtain ⟨n, hn⟩ : ∃ n, n = S.length := ⟨_, rfl⟩
    have HN := Lib.hid hn
    have HMe := Lib.hid hme
    have HI := Lib.hid IH
    have HK := Lib.hid hK
    have HR1 := Lib.hid hR1
    have hsl := size_eq v
    have hvl := length_sizeL v.l
    rw [← hn] at HHs hac hsz ⊢
    have hnn : n ≤ 100000 := by omega
    have c0w : (w.alloc (.cells cs.toArray 24)).cell? ⟨w.heap.size, 0, none⟩ = some (.int .i64 v.kind) := by rw [← hw1, ← htb, hBx.cell 0, hcs]; rfl
    have c1w : (w.alloc (.cells cs.toArray 24)).cell? ⟨w.heap.size, 1, none⟩ = some (.int .i64 v.n) := by rw [← hw1, ← htb, hBx.cell 1, hcs]; rfl
    clear hw1 htb hcs hn hme IH hK hM h hR hsz hR1 hvnil
    by_cases h8 : v.kind = 8
    · have hho : v.holds = false := by simp [V.holds, h8]
      obtain ⟨y, hy⟩ : ∃ y, y = S.contains v.n := ⟨_, rfl⟩
      have HM1 : Hid (M = if y = false then S ++ [v.n] else S) := Lib.hid (by
        have := HMe.out
        rw [hho, ← hy] at this
        rw [this]
        cases y <;> simp [h8])
      rw [← hy] at HHs
      have HHo := Lib.hid (fun W (hP : Pure w W) => (hho ▸ holds_any (HL0.out.pure hP) : Calls Try.prog 41 #[.agg cs.toArray] W (BoolTo false W)))
      rw [h8] at c0w
      obtain ⟨x, hx⟩ : ∃ x, x = v.n := ⟨_, rfl⟩
      rw [← hx] at c1w HHs HM1
      have HX := Lib.hid hx
      have h8' := Lib.hid h8
      clear hho hy h8 hx
      go_enter Try.func49, Try.ntmps49
      go_wp2_with fail
      rw [← HW1.out, ← HTb.out]
      refine HHs.out.mono ?_
      rintro e w2 ⟨rfl, hP2⟩
      have hB2 := hBx.ext hP2 id
      cases y with
      | false =>
        have HM2 : Hid (M = S ++ [x]) := Lib.hid (by rw [HM1.out, if_pos rfl])
        go_wp2_with fail
        have htb2 := hB2.lt
        have c1d0 : w2.drew.cell? ⟨tb, 1, none⟩ = some (.int .i64 x) := (hB2.cell 1).trans (by rw [HCs.out, HX.out]; rfl)
        obtain ⟨wd, hwd⟩ : ∃ z, z = w2.drew := ⟨_, rfl⟩
        have c1d : wd.cell? ⟨tb, 1, none⟩ = some (.int .i64 x) := by rw [hwd]; exact c1d0
        have hPd : Pure w2 wd := hwd ▸ (Ext.refl _ w2).drew
        have htbd : tb < wd.heap.size := by rw [hwd]; exact htb2
        clear htb2
        have HRd := Lib.hid (HR1.out.ext (hP2.pure hPd) (fun _ _ => id))
        have HPd := Lib.hid ((hP1.pure hP2).pure hPd)
        have HNil : Hid (a = none → n = 0 ∧ c = 0) := Lib.hid (fun e => by have := hnil e; omega)
        have HLn : Hid ((intsV S).length = n * 1) := Lib.hid (by rw [intsV_len, HN.out, Nat.mul_one])
        have HOne : Hid (∀ u ∈ intsV S, u.oneCell' = true) := Lib.hid (fun u hu => by obtain ⟨z, _, rfl⟩ := List.mem_map.1 hu; rfl)
        clear hP2 hB2 hPd hlc hcvm hsl hvl c0w c1w c1d0
        refine region_start (fun i => w2.drew.heap.size ≤ i) (by kernel_rfl) ?_
        try simp only [Act.put, List.setIfInBounds_toArray, List.set_cons_zero, List.set_cons_succ]
        rw [← hwd]
        clear hwd
        refine region_take 1 17 (v := ?vma1) rfl rfl (by kernel_rfl) (by kernel_rfl) (by kernel_rfl) (fun _ _ _ h => h) (by rfl) (fun w' hS => ?hma1) ?rma1
        case hma1 => go_simp; with_reducible rfl
        try simp only [Act.put, List.setIfInBounds_toArray, List.set_cons_zero, List.set_cons_succ]
        refine region_take 3 19 (v := ?vma3) rfl rfl (by kernel_rfl) (by kernel_rfl) (by kernel_rfl) (fun _ _ _ h => h) (by rfl) (fun w' hS => ?hma3) ?rma3
        case hma3 => go_simp; with_reducible rfl
        try simp only [Act.put, List.setIfInBounds_toArray, List.set_cons_zero, List.set_cons_succ]
        refine region_take 4 20 (v := ?vma4) rfl rfl (by kernel_rfl) (by kernel_rfl) (by kernel_rfl) (fun _ _ _ h => h) (by rfl) (fun w' hS => ?hma4) ?rma4
        case hma4 => (have e := hS.cell_some c1d (by intro e; simp only at e; omega); go_simp; with_reducible rfl)
        try simp only [Act.put, List.setIfInBounds_toArray, List.set_cons_zero, List.set_cons_succ]
        refine wpAnyH_ready (rs := [0, 5]) (by kernel_rfl) (by simp) (AllReadyH.cons rfl (fun K hK => ?_) (AllReadyH.cons rfl (fun K hK => ?_) (AllReadyH.nil)))
        go_simp
        refine hK.out _ _ ((Ext.refl _ _).alloc _) (fun hHeld => ?_)
        clear hK K hHeld
        refine region_now ((Ext.refl _ _).alloc _) ?_
        try simp only [Act.put, List.setIfInBounds_toArray, List.set_cons_zero, List.set_cons_succ]
        refine wpAnyH_ready (rs := [2, 5]) (by kernel_rfl) (by simp) (AllReadyH.cons rfl (fun K hK => ?_) (AllReadyH.cons rfl (fun K hK => ?_) (AllReadyH.nil)))
        refine step_of_list ?_
        refine wpList_append_fresh rfl (.tmp 16) (.tmp 17) 41 rfl wd.heap.size 3 (.int .i64 0) 1 8 Try.underlying41 infoI rfl (by decide) (.slice (some ⟨wd.heap.size, 0, none⟩) 0 0) 0 ([]) rfl (own_new (cs := []) (w := wd) rfl (Nat.zero_le _) _ (Nat.le_refl _)) a n c (intsV S) rfl HNil.out HLn.out (HRd.out.ext (ext_alloc _ _) (fun _ _ => id)) HOne.out (n) (Nat.zero_add n) (intsV S) rfl (by omega) (by unfold maxLen; omega) (by first | exact Nat.le_refl _ | (simp; done) | (simp; omega) | (have := HZ3.out; simp; omega)) ?_
        intro a3 c3 w3 hO3 hg3 hf3
        have HO3 := Lib.hid hO3
        have HP3 : Hid (Pure wd w3) := Lib.hid (((Ext.refl _ wd).alloc _).grown hg3 (fun k hk hlt => by cases hk; exact absurd hlt (by simp)))
        have HZ3 := Lib.hid HP3.out.size
        refine hK.out _ _ (Ext.grown (Ext.refl _ _) hg3 (fun k hk _ => by cases hk; exact Nat.le_refl _)) (fun hHeld => ?_)
        clear hK K hHeld
        refine region_now (Ext.grown (Ext.refl _ _) hg3 (fun k hk _ => by cases hk; exact Nat.le_refl _)) ?_
        try simp only [Act.put, List.setIfInBounds_toArray, List.set_cons_zero, List.set_cons_succ]
        refine wpAnyH_ready (rs := [5]) (by kernel_rfl) (by simp) (AllReadyH.cons rfl (fun K hK => ?_) AllReadyH.nil)
        go_simp
        refine hK.out _ _ ((Ext.refl _ _).alloc _) (fun hHeld => ?_)
        clear hK K hHeld
        refine region_now ((Ext.refl _ _).alloc _) ?_
        try simp only [Act.put, List.setIfInBounds_toArray, List.set_cons_zero, List.set_cons_succ]
        refine wpAnyH_ready (rs := [6]) (by kernel_rfl) (by simp) (AllReadyH.cons rfl (fun K hK => ?_) AllReadyH.nil)
        refine step_of_list ?_
        refine wpList_append_fresh rfl (.tmp 18) (.tmp 21) 41 rfl wd.heap.size 3 (.int .i64 0) 1 8 Try.underlying41 infoI rfl (by decide) (.slice a3 n c3) n (intsV S) rfl (HO3.out.alloc _) (some ⟨w3.heap.size, 0, none⟩) 1 1 ([.int .i64 x]) rfl (fun e => by cases e) rfl (row_at _ rfl rfl) (fun u hu => by simp at hu; subst hu; rfl) (n + 1) rfl (intsV S ++ [.int .i64 x]) rfl (by omega) (by unfold maxLen; omega) (by first | exact Nat.le_refl _ | (simp; done) | (simp; omega) | (have := HZ3.out; simp; omega)) ?_
        intro a4 c4 w4 hO4 hg4 hf4
        have HP4 : Hid (Pure wd w4) := Lib.hid ((HP3.out.alloc _).grown hg4 (fun k hk hlt => absurd (HO3.out.lt k hk).1 (by omega)))
        have HO4 := Lib.hid hO4
        refine hK.out _ _ (Ext.grown (Ext.refl _ _) hg4 (fun k hk _ => (HO3.out.lt k hk).1)) (fun hHeld => ?_)
        clear hK K hHeld
        refine region_now (Ext.grown (Ext.refl _ _) hg4 (fun k hk _ => (HO3.out.lt k hk).1)) ?_
        try simp only [Act.put, List.setIfInBounds_toArray, List.set_cons_zero, List.set_cons_succ]
        refine region_take 7 4 (v := ?vmaq0q07) rfl rfl (by kernel_rfl) (by kernel_rfl) (by kernel_rfl) (fun _ _ _ h => h) (by rfl) (fun w' hS => ?hmaq0q07) ?rmaq0q07
        case hmaq0q07 => go_simp; with_reducible rfl
        try simp only [Act.put, List.setIfInBounds_toArray, List.set_cons_zero, List.set_cons_succ]
        refine wpAnyH_done (by kernel_rfl) ?_ _
        rotate_left
        go_simp
        refine hK.out _ _ ((Ext.refl _ _).alloc _) (fun hHeld => ?_)
        clear hK K hHeld
        refine region_now ((Ext.refl _ _).alloc _) ?_
        try simp only [Act.put, List.setIfInBounds_toArray, List.set_cons_zero, List.set_cons_succ]
        refine wpAnyH_ready (rs := [2]) (by kernel_rfl) (by simp) (AllReadyH.cons rfl (fun K hK => ?_) AllReadyH.nil)
        refine step_of_list ?_
        refine wpList_append_fresh rfl (.tmp 16) (.tmp 17) 41 rfl wd.heap.size 3 (.int .i64 0) 1 8 Try.underlying41 infoI rfl (by decide) (.slice (some ⟨wd.heap.size, 0, none⟩) 0 0) 0 ([]) rfl ((own_new (cs := []) (w := wd) rfl (Nat.zero_le _) _ (Nat.le_refl _)).alloc _) a n c (intsV S) rfl HNil.out HLn.out (HRd.out.ext ((ext_alloc wd _).pure (ext_alloc _ _)) (fun _ _ => id)) HOne.out (n) (Nat.zero_add n) (intsV S) rfl (by omega) (by unfold maxLen; omega) (by first | exact Nat.le_refl _ | (simp; done) | (simp; omega) | (have := HZ3.out; simp; omega)) ?_
        intro a3 c3 w3 hO3 hg3 hf3
        have HO3 := Lib.hid hO3
        have HP3 : Hid (Pure wd w3) := Lib.hid ((((Ext.refl _ wd).alloc _).alloc _).grown hg3 (fun k hk hlt => by cases hk; exact absurd hlt (by simp)))
        have HZ3 := Lib.hid HP3.out.size
        have HR3 : Hid (RowOf w3 (some ⟨wd.heap.size + 1, 0, none⟩) [.int .i64 x]) := Lib.hid ((row_at (w := wd.alloc (.cells #[] 3)) [.int .i64 x] (by simp) rfl).ext (ext_of_grown hg3) (fun _ e h => by cases e; have h' : some wd.heap.size = some (wd.heap.size + 1) := h; have := Option.some.inj h'; omega))
        refine hK.out _ _ (Ext.grown (Ext.refl _ _) hg3 (fun k hk _ => by cases hk; exact Nat.le_refl _)) (fun hHeld => ?_)
        clear hK K hHeld
        refine region_now (Ext.grown (Ext.refl _ _) hg3 (fun k hk _ => by cases hk; exact Nat.le_refl _)) ?_
        try simp only [Act.put, List.setIfInBounds_toArray, List.set_cons_zero, List.set_cons_succ]
        refine wpAnyH_ready (rs := [6]) (by kernel_rfl) (by simp) (AllReadyH.cons rfl (fun K hK => ?_) AllReadyH.nil)
        refine step_of_list ?_
        refine wpList_append_fresh rfl (.tmp 18) (.tmp 21) 41 rfl wd.heap.size 3 (.int .i64 0) 1 8 Try.underlying41 infoI rfl (by decide) (.slice a3 n c3) n (intsV S) rfl (HO3.out) (some ⟨wd.heap.size + 1, 0, none⟩) 1 1 ([.int .i64 x]) rfl (fun e => by cases e) rfl (HR3.out) (fun u hu => by simp at hu; subst hu; rfl) (n + 1) rfl (intsV S ++ [.int .i64 x]) rfl (by omega) (by unfold maxLen; omega) (by first | exact Nat.le_refl _ | (simp; done) | (simp; omega) | (have := HZ3.out; simp; omega)) ?_
        intro a4 c4 w4 hO4 hg4 hf4
        have HP4 : Hid (Pure wd w4) := Lib.hid ((HP3.out).grown hg4 (fun k hk hlt => absurd (HO3.out.lt k hk).1 (by omega)))
        have HO4 := Lib.hid hO4
        refine hK.out _ _ (Ext.grown (Ext.refl _ _) hg4 (fun k hk _ => (HO3.out.lt k hk).1)) (fun hHeld => ?_)
        clear hK K hHeld
        refine region_now (Ext.grown (Ext.refl _ _) hg4 (fun k hk _ => (HO3.out.lt k hk).1)) ?_
        try simp only [Act.put, List.setIfInBounds_toArray, List.set_cons_zero, List.set_cons_succ]
        refine region_take 7 4 (v := ?vmaq0q17) rfl rfl (by kernel_rfl) (by kernel_rfl) (by kernel_rfl) (fun _ _ _ h => h) (by rfl) (fun w' hS => ?hmaq0q17) ?rmaq0q17
        case hmaq0q17 => go_simp; with_reducible rfl
        try simp only [Act.put, List.setIfInBounds_toArray, List.set_cons_zero, List.set_cons_succ]
        refine wpAnyH_done (by kernel_rfl) ?_ _
        rotate_left
        go_simp
        refine hK.out _ _ ((Ext.refl _ _).alloc _) (fun hHeld => ?_)
        clear hK K hHeld
        refine region_now ((Ext.refl _ _).alloc _) ?_
        try simp only [Act.put, List.setIfInBounds_toArray, List.set_cons_zero, List.set_cons_succ]
        refine wpAnyH_ready (rs := [0]) (by kernel_rfl) (by simp) (AllReadyH.cons rfl (fun K hK => ?_) AllReadyH.nil)
        go_simp
        refine hK.out _ _ ((Ext.refl _ _).alloc _) (fun hHeld => ?_)
        clear hK K hHeld
        refine region_now ((Ext.refl _ _).alloc _) ?_
        try simp only [Act.put, List.setIfInBounds_toArray, List.set_cons_zero, List.set_cons_succ]
        refine wpAnyH_ready (rs := [2]) (by kernel_rfl) (by simp) (AllReadyH.cons rfl (fun K hK => ?_) AllReadyH.nil)
        refine step_of_list ?_
        refine wpList_append_fresh rfl (.tmp 16) (.tmp 17) 41 rfl wd.heap.size 3 (.int .i64 0) 1 8 Try.underlying41 infoI rfl (by decide) (.slice (some ⟨wd.heap.size + 1, 0, none⟩) 0 0) 0 ([]) rfl ((by have := own_new (cs := []) (w := wd.alloc (.cells #[.int .i64 x] 3)) (e := 3) (n := 0) (size := 1) rfl (Nat.zero_le _) wd.heap.size (by simp); simpa using this)) a n c (intsV S) rfl HNil.out HLn.out (HRd.out.ext ((ext_alloc wd _).pure (ext_alloc _ _)) (fun _ _ => id)) HOne.out (n) (Nat.zero_add n) (intsV S) rfl (by omega) (by unfold maxLen; omega) (by first | exact Nat.le_refl _ | (simp; done) | (simp; omega) | (have := HZ3.out; simp; omega)) ?_
        intro a3 c3 w3 hO3 hg3 hf3
        have HO3 := Lib.hid hO3
        have HP3 : Hid (Pure wd w3) := Lib.hid ((((Ext.refl _ wd).alloc _).alloc _).grown hg3 (fun k hk hlt => by cases hk; exact absurd hlt (by simp)))
        have HZ3 := Lib.hid HP3.out.size
        have HR3 : Hid (RowOf w3 (some ⟨wd.heap.size, 0, none⟩) [.int .i64 x]) := Lib.hid (((row_at (w := wd) [.int .i64 x] rfl rfl).ext (ext_alloc _ _) (fun _ _ => id)).ext (ext_of_grown hg3) (fun _ e h => by cases e; have h' : some (wd.heap.size + 1) = some wd.heap.size := h; have := Option.some.inj h'; omega))
        refine hK.out _ _ (Ext.grown (Ext.refl _ _) hg3 (fun k hk _ => by cases hk; simp)) (fun hHeld => ?_)
        clear hK K hHeld
        refine region_now (Ext.grown (Ext.refl _ _) hg3 (fun k hk _ => by cases hk; simp)) ?_
        try simp only [Act.put, List.setIfInBounds_toArray, List.set_cons_zero, List.set_cons_succ]
        refine wpAnyH_ready (rs := [6]) (by kernel_rfl) (by simp) (AllReadyH.cons rfl (fun K hK => ?_) AllReadyH.nil)
        refine step_of_list ?_
        refine wpList_append_fresh rfl (.tmp 18) (.tmp 21) 41 rfl wd.heap.size 3 (.int .i64 0) 1 8 Try.underlying41 infoI rfl (by decide) (.slice a3 n c3) n (intsV S) rfl (HO3.out) (some ⟨wd.heap.size, 0, none⟩) 1 1 ([.int .i64 x]) rfl (fun e => by cases e) rfl (HR3.out) (fun u hu => by simp at hu; subst hu; rfl) (n + 1) rfl (intsV S ++ [.int .i64 x]) rfl (by omega) (by unfold maxLen; omega) (by first | exact Nat.le_refl _ | (simp; done) | (simp; omega) | (have := HZ3.out; simp; omega)) ?_
        intro a4 c4 w4 hO4 hg4 hf4
        have HP4 : Hid (Pure wd w4) := Lib.hid ((HP3.out).grown hg4 (fun k hk hlt => absurd (HO3.out.lt k hk).1 (by omega)))
        have HO4 := Lib.hid hO4
        refine hK.out _ _ (Ext.grown (Ext.refl _ _) hg4 (fun k hk _ => (HO3.out.lt k hk).1)) (fun hHeld => ?_)
        clear hK K hHeld
        refine region_now (Ext.grown (Ext.refl _ _) hg4 (fun k hk _ => (HO3.out.lt k hk).1)) ?_
        try simp only [Act.put, List.setIfInBounds_toArray, List.set_cons_zero, List.set_cons_succ]
        refine region_take 7 4 (v := ?vmaq17) rfl rfl (by kernel_rfl) (by kernel_rfl) (by kernel_rfl) (fun _ _ _ h => h) (by rfl) (fun w' hS => ?hmaq17) ?rmaq17
        case hmaq17 => go_simp; with_reducible rfl
        try simp only [Act.put, List.setIfInBounds_toArray, List.set_cons_zero, List.set_cons_succ]
        refine wpAnyH_done (by kernel_rfl) ?_ _
        rotate_left
        all_goals
          go_simp
          try simp only [Act.put, List.setIfInBounds_toArray, List.set_cons_zero, List.set_cons_succ]
          go_wp2_with fail
          go_ret
          exact nums_own (M := M) HO4.out (by rw [HM2.out, intsV_snoc]) (by rw [HM2.out, List.length_append, HN.out]; rfl) (HPd.out.pure HP4.out)
      | true =>
        have HM2 : Hid (M = S) := Lib.hid (by rw [HM1.out, if_neg (by decide)])
        go_wp2_with fail
        go_loopw [0, 5] (fun l i W => l = .slice a n c ∧ i = .int .i64 0 ∧ Pure w1 W) (fun _ _ _ => 0)
        case atStart => exact ⟨rfl, rfl, hP2⟩
        case round =>
          obtain ⟨rfl, rfl, hE⟩ := hrel
          have hRr := (hBx.ext hE id).range
          go_wp2_with (refine wpList_load_mid rfl 24 (.tmp 3) rfl tb 0 (by rfl) cs _ hRr Try.underlying24 rfl (by rw [h4]; kernel_rfl) ?_)
          refine (HHo.out wr (hP1.pure hE)).mono ?_
          rintro e w3 ⟨rfl, hP3⟩
          go_wp2_with fail
          go_ret
          exact nums_same HM2.out HN.out HR1.out hac hcm hnil (hP1.pure hE) hP1 hP3 (hE.pure hP3)
    · have hk8 : (v.kind == 8) = false := by simpa using h8
      have HM1 : Hid (M = if v.holds = true then moreL v.l S else S) := Lib.hid (by have := HMe.out; rw [if_neg (fun e => h8 e.1)] at this; exact this)
      obtain ⟨y, hy⟩ : ∃ y, y = v.holds := ⟨_, rfl⟩
      have HHo := Lib.hid (fun W (hP : Pure w W) => (hy ▸ holds_any (HL0.out.pure hP) : Calls Try.prog 41 #[.agg cs.toArray] W (BoolTo y W)))
      rw [← hy] at HM1
      generalize v.kind = k0 at *
      clear hy h8 HMe HHs
      cases y with
      | false =>
        have HM2 : Hid (M = S) := Lib.hid (by rw [HM1.out]; rfl)
        go_enter Try.func49, Try.ntmps49
        go_wp2_with fail
        rw [← HW1.out, ← HTb.out]
        go_loopw [0, 5] (fun l i W => l = .slice a n c ∧ i = .int .i64 0 ∧ Pure w1 W) (fun _ _ _ => 0)
        case atStart => exact ⟨rfl, rfl, Ext.refl _ _⟩
        case round =>
          obtain ⟨rfl, rfl, hE⟩ := hrel
          have hRr := (hBx.ext hE id).range
          go_wp2_with (refine wpList_load_mid rfl 24 (.tmp 3) rfl tb 0 (by rfl) cs _ hRr Try.underlying24 rfl (by rw [h4]; kernel_rfl) ?_)
          refine (HHo.out wr (hP1.pure hE)).mono ?_
          rintro e w3 ⟨rfl, hP3⟩
          go_wp2_with fail
          go_ret
          exact nums_same HM2.out HN.out HR1.out hac hcm hnil (hP1.pure hE) hP1 hP3 (hE.pure hP3)
      | true =>
        have HM2 : Hid (M = moreL v.l S) := Lib.hid (by rw [HM1.out]; rfl)
        obtain ⟨l, hl0⟩ : ∃ l, l = v.l := ⟨_, rfl⟩
        obtain ⟨m, hm⟩ : ∃ m, m = v.l.length := ⟨_, rfl⟩
        have HLn : Hid (m = l.length) := Lib.hid (by rw [hm, hl0])
        have hml : m ≤ 100000 := by have := HSz.out; omega
        have HSl : Hid (S.length + sizeL l + 1 ≤ 100000) := Lib.hid (by have := HSz.out; rw [hl0]; omega)
        have HKl := HK.out
        rw [← hl0] at HM2 HKl
        have HKl := Lib.hid HKl
        have HC3 : Hid (∀ W, Pure w1 W → W.cell? ⟨tb, 3, none⟩ = some (.slice av m cv)) := Lib.hid (fun W hP => by rw [(hBx.ext hP id).cell 3, HCs.out, hm]; rfl)
        rw [← hm] at hlc
        clear hl0 hm hsl hvl c1w HM1
        go_enter Try.func49, Try.ntmps49
        go_wp2_with fail
        rw [← HW1.out, ← HTb.out]
        go_loopw [0, 5] (fun y i W => ∃ (K : Nat) (T : List Int) (ao : Option Addr) (N co : Nat), K ≤ m ∧ i = .int .i64 K ∧ y = .slice ao N co ∧ Hid (N = T.length) ∧ Hid (T = moreL (l.take K) S) ∧ N ≤ co ∧ co ≤ maxLen ∧ (ao = none → co = 0) ∧ Hid (RowOf W ao (intsV T)) ∧ Pure w1 W) (fun _ i _ => m - (intOf i).toNat)
        case atStart => exact ⟨0, S, a, n, c, Nat.zero_le _, rfl, rfl, HN, Lib.hid (by rw [List.take_zero, moreL]), hac, hcm, hnil, HR1, Ext.refl _ _⟩
        case round =>
          obtain ⟨K, T, ao, N, co, hkm, rfl, rfl, HNT, HT, hNc, hcm', hnil', HRT, hE⟩ := hrel
          have hRr := (hBx.ext hE id).range
          go_wp2_with (refine wpList_load_mid rfl 24 (.tmp 3) rfl tb 0 (by rfl) cs _ hRr Try.underlying24 rfl (by rw [h4]; kernel_rfl) ?_)
          refine (HHo.out wr (hP1.pure hE)).mono ?_
          rintro e w3 ⟨rfl, hP3⟩
          have hE3 := hE.pure hP3
          have HE3 := Lib.hid hE3
          have c3 := HC3.out w3 hE3
          by_cases hlt : K < m
          · have hki : (K : Int) < (m : Int) := by omega
            obtain ⟨u, hu⟩ : ∃ u, l[K]? = some u := ⟨_, List.getElem?_eq_getElem (by rw [← HLn.out]; exact hlt)⟩
            obtain ⟨b, o, r, rfl, hr, hr4, hL⟩ := (HKl.out.pure (hP1.pure hE3)).at K u hu
            have hus := size_mem (List.mem_of_getElem? hu)
            have HMo : Hid (moreL (l.take (K + 1)) S = u.more T) := Lib.hid (by
              obtain ⟨hkl, rfl⟩ := List.getElem?_eq_some_iff.1 hu
              rw [List.take_succ_eq_append_getElem hkl, moreL_snoc, HT.out])
            have hTl : T.length + u.size ≤ 100000 := by
              have h1 := moreL_len (l.take K) S
              have h2 := size_take_at hu
              have h3 := HSl.out
              rw [← HT.out] at h1
              omega
            have HC := Lib.hid (HI.out u r T ao co w3 hL (HRT.out.ext hP3 (fun _ _ => id)) (by rw [← HNT.out]; exact hNc) hcm' hnil' hTl)
            obtain ⟨q, hq⟩ : ∃ q, q = T.length := ⟨_, rfl⟩
            have HC2 := HC.out
            rw [← HNT.out] at HC2
            have HC2 := Lib.hid HC2
            clear hu hL hus hTl hE hE3 hq HC hRr hP3
            go_wp2_with (refine wpList_load_mid rfl 24 (.tmp 38) rfl b (o + K * 4) rfl r _ hr Try.underlying24 rfl (by rw [hr4]; kernel_rfl) ?_)
            refine HC2.out.mono ?_
            rintro e w5 ⟨a5, c5, rfl, h51, h52, h53, h54, hP5⟩
            have HR5 := Lib.hid h54
            have HE5 := Lib.hid (HE3.out.pure hP5)
            clear h54 hP5 HC2
            go_wp2_with fail
            go_roundw
            case rel => exact ⟨K + 1, u.more T, a5, (u.more T).length, c5, by omega, by go_num, rfl, Lib.hid rfl, Lib.hid HMo.out.symm, h51, h52, h53, HR5, HE5.out⟩
            case measure => simp [intOf]; omega
          · have hki : ¬ (K : Int) < (m : Int) := by omega
            have HM3 : Hid (M = T) := Lib.hid (by rw [HM2.out, HT.out, List.take_of_length_le (by rw [← HLn.out]; omega)])
            go_wp2_with fail
            go_ret
            exact nums_same HM3.out HNT.out HRT.out hNc hcm' hnil' (hP1.pure hE) (hP1.pure hE) hP3 hP3
end Go.Proofs.Ytiakphjkcpbccaa
