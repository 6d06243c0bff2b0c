/-
  Walked: works.
-/
import Derived.Test.YtnibjjpohhknkaaBlk
import Derived.Test.YtnibjjpohhknkaaPoint
namespace Go.Proofs.Ytnibjjpohhknkaa
open Go.RowKit
set_option linter.unusedVariables false
set_option linter.unusedSimpArgs false

theorem row_of_block {W : World} {b : Nat} {cs : List Value} {T : TypeId} (h : BlockIs W b cs T) : RowOf W (some ⟨b, 0, none⟩) cs := fun i u hu => ⟨b, 0, rfl, by rw [Nat.zero_add, h.cell i]; exact hu⟩
theorem one5 (a : Option Addr) (n c : Nat) (k m : Int) (s : ByteArray) (x : Option Addr) (y z : Nat) : ((#[Value.slice a n c, .int .i64 k, .int .i64 m, .string s, .slice x y z] : Array Value).all fun u => u.oneCell') = true := all_oneCell_toArray (by intro u hu; simp only [List.mem_cons, List.not_mem_nil, or_false] at hu; rcases hu with rfl | rfl | rfl | rfl | rfl <;> rfl)
theorem named_len {l : List Ob} {g : V} {B : Nat} (h1 : ∀ u ∈ l, u.v.l.length ≤ B ∧ ∀ x ∈ u.v.l, x.l.length ≤ B) (h2 : ∀ x ∈ g.l, x.l.length ≤ B) (k : ByteArray) : (namedP l g k).1.l.length ≤ B := by
  have hget : ∀ (v : V), (∀ x ∈ v.l, x.l.length ≤ B) → (v.get k).1.l.length ≤ B := by
    intro v hv
    unfold V.get
    cases v.find k with
    | none => exact Nat.zero_le _
    | some i =>
      simp only []
      cases hi : v.l[i + 1]? with
      | none => exact Nat.zero_le _
      | some x => exact hv x (List.mem_of_getElem? hi)
  have h0 : ∀ x ∈ ((l[0]?.map Ob.v).getD nullV).l, x.l.length ≤ B := by
    cases h : l[0]? with
    | none => intro x hx; cases hx
    | some u => exact (h1 u (List.mem_of_getElem? h)).2
  have hf : ∀ g : V × Bool, g.1.l.length ≤ B → (follow l g).1.l.length ≤ B := by
    intro g hg
    unfold follow
    split
    · cases h : l[(g.1.n - 1).toNat]? with
      | none => exact Nat.zero_le _
      | some u => exact (h1 u (List.mem_of_getElem? h)).1
    · exact hg
  unfold namedP
  apply hf
  split
  · exact hget _ h0
  · exact hget _ h2
theorem pg_names (k : ByteArray) : (namedP pgO gvV k).1.l.length ≤ 1000000 := named_len (by
    intro u hu
    simp only [pgO, List.mem_singleton] at hu
    subst hu
    refine ⟨by decide, fun x hx => ?_⟩
    simp only [pgV, V.l, List.mem_cons, List.not_mem_nil, or_false] at hx
    rcases hx with rfl | rfl <;> decide) (by
    intro x hx
    simp only [gvV, V.l, List.mem_cons, List.not_mem_nil, or_false] at hx
    rcases hx with rfl | rfl <;> decide) k
set_option maxHeartbeats 8000000 in
set_option maxRecDepth 100000 in
theorem works_any (w : World) : Calls Try.prog 10 #[] w (BoolTo true w) := by
  go_enter Try.func10, Try.ntmps10
  go_wp2_with fail
  refine (int_any 0 w).mono ?_
  rintro e w1 ⟨rfl, hP1⟩
  go_wp2_with fail
  refine (int_any 0 w1).mono ?_
  rintro e w2 ⟨rfl, hP2⟩
  go_wp2_with fail
  refine (int_any 20 w2).mono ?_
  rintro e w3 ⟨rfl, hP3⟩
  go_wp2_with fail
  refine (int_any 10 w3).mono ?_
  rintro e w4 ⟨rfl, hP4⟩
  have hPw : Pure w w4 := ((hP1.pure hP2).pure hP3).pure hP4
  clear hP1 hP2 hP3 hP4
  obtain ⟨xs, hxs⟩ : ∃ z, z = ([.int .i64 2, .int .i64 0, .string ⟨#[]⟩, .slice none 0 0, .int .i64 2, .int .i64 0, .string ⟨#[]⟩, .slice none 0 0, .int .i64 2, .int .i64 20, .string ⟨#[]⟩, .slice none 0 0, .int .i64 2, .int .i64 10, .string ⟨#[]⟩, .slice none 0 0] : List Value) := ⟨_, rfl⟩
  obtain ⟨w5, hw5⟩ : ∃ z, z = w4.alloc (.cells xs.toArray 24) := ⟨_, rfl⟩
  have hP5 : Pure w4 w5 := hw5 ▸ ext_alloc w4 _
  have hB5 : BlockIs w5 w4.heap.size xs 24 := hw5 ▸ BlockIs.new w4 _ _
  have hs5 : w5.heap.size = w4.heap.size + 1 := by rw [hw5, World.size_alloc]
  obtain ⟨bl, hbl⟩ : ∃ z, z = w4.heap.size := ⟨_, rfl⟩
  rw [← hbl] at hB5 hs5
  have hF5 : Fit w5 1 [intV 0, intV 0, intV 20, intV 10] xs := by
    have h1 := Fit.single (Lies.leaf w5 0 2 0 ⟨#[]⟩ (by decide))
    have h3 := Fit.single (Lies.leaf w5 0 2 20 ⟨#[]⟩ (by decide))
    have h4 := Fit.single (Lies.leaf w5 0 2 10 ⟨#[]⟩ (by decide))
    rw [hxs]
    exact h1.append (h1.append (h3.append h4))
  obtain ⟨w6, hw6⟩ : ∃ z, z = w5.alloc (.cells #[.int .i64 6, .int .i64 0, .string ⟨#[]⟩, .slice (some ⟨bl, 0, none⟩) 4 4] 24) := ⟨_, rfl⟩
  have hP6 : Pure w5 w6 := hw6 ▸ ext_alloc w5 _
  have hBm : BlockIs w6 (bl + 1) [.int .i64 6, .int .i64 0, .string ⟨#[]⟩, .slice (some ⟨bl, 0, none⟩) 4 4] 24 := by rw [← hs5, hw6]; exact BlockIs.new w5 _ _
  have hLm : Lies w6 2 mediaV [.int .i64 6, .int .i64 0, .string ⟨#[]⟩, .slice (some ⟨bl, 0, none⟩) 4 4] := ((hF5.pure hP6).lies ((row_of_block hB5).ext hP6 (fun _ _ => id)) 6 0 ⟨#[]⟩ 4 (by decide) (by decide) (fun e => by cases e) (by decide))
  have hPw : Pure w w6 := (hPw.pure hP5).pure hP6
  have HW6 : Hid ((w4.alloc (.cells #[.int .i64 2, .int .i64 0, .string ⟨#[]⟩, .slice none 0 0, .int .i64 2, .int .i64 0, .string ⟨#[]⟩, .slice none 0 0, .int .i64 2, .int .i64 20, .string ⟨#[]⟩, .slice none 0 0, .int .i64 2, .int .i64 10, .string ⟨#[]⟩, .slice none 0 0] 24)).alloc (.cells #[.int .i64 6, .int .i64 0, .string ⟨#[]⟩, .slice (some ⟨w4.heap.size, 0, none⟩) 4 4] 24) = w6) := Lib.hid (by rw [hw6, hw5, hxs, hbl])
  have HBl := Lib.hid hbl
  clear hxs hw5 hP5 hB5 hs5 hbl hF5 hw6 hP6
  go_wp2_with fail
  rw [HW6.out, ← HBl.out]
  go_cut [2] from 3 (fun x W => ∃ bp, x = .pointer (some ⟨bp, 0, none⟩) ∧ Hid (PgAt W bp) ∧ Hid (Pure w W))
  case rest =>
    obtain ⟨bp, rfl, HPg, HPw⟩ := hcut
    obtain ⟨oa, oc, rows, gcs, hBp, hOK, hG⟩ := HPg.out
    have hgl := hG.len
    have HL5 : Hid ((Value.slice oa 1 oc :: gcs).length = 5) := Lib.hid (by rw [List.length_cons, hgl])
    have hRp := hBp.range
    have HPage := Lib.hid (page_any 3 pgO oa oc rows gvV gcs wc wc (Ext.refl _ _) hOK hG (by decide) (by simp [pgO]; decide) (by decide) pg_names)
    clear hBp hOK hG hgl
    go_wp2_with (with_reducible refine at_load 47 (.tmp 2) ?_; refine wpList_load_mid rfl 47 (.tmp 2) rfl bp 0 rfl (Value.slice oa 1 oc :: gcs) _ hRp Try.underlying47 rfl (sz47 HL5.out) ?_)
    have HPg2 : Calls Try.prog 21 #[.agg (Value.slice oa 1 oc :: gcs).toArray] wc (fun e w' => e = .returned (.tuple #[.agg #[.int .i64 0, .int .i64 0, .int .i64 20000000, .int .i64 10000000, .int .i64 1, .int .i64 10000000, .int .i64 20000000], .int .i64 0]) ∧ Pure wc w') := by
      have := HPage.out
      rw [pg_page] at this
      exact this
    have HPt : Hid (∀ W, Calls Try.prog 24 #[.agg #[.int .i64 0, .int .i64 0, .int .i64 20000000, .int .i64 10000000, .int .i64 1, .int .i64 10000000, .int .i64 20000000], .int .i64 20000000, .int .i64 0] W (TwoTo 0 0 W)) := Lib.hid (fun W => by
      have := point_any ⟨0, 0, 20000000, 10000000⟩ 1 10000000 20000000 20000000 0 W
      rw [pg_point] at this
      exact this)
    have HBk : Hid (∀ W, Calls Try.prog 26 #[.agg #[.int .i64 0, .int .i64 0, .int .i64 20000000, .int .i64 10000000, .int .i64 1, .int .i64 10000000, .int .i64 20000000], .int .i64 1000000, .int .i64 2000000] W (TwoTo 18000000 1000000 W)) := Lib.hid (fun W => by
      have := back_any ⟨0, 0, 20000000, 10000000⟩ 1 10000000 20000000 1000000 2000000 W
      rw [pg_back] at this
      exact this)
    have HTn : Hid (∀ W, Calls Try.prog 18 #[.agg #[.int .i64 0, .int .i64 0, .int .i64 2, .int .i64 1], .int .i64 1] W (fun e w' => e = .returned (.agg #[.int .i64 0, .int .i64 (-2), .int .i64 1, .int .i64 2]) ∧ Pure W w')) := Lib.hid (fun W => by
      have := turn_any ⟨0, 0, 2, 1⟩ 1 W
      rw [pg_turn] at this
      exact this)
    have HBt : Hid (∀ W, Calls Try.prog 14 #[.agg #[.int .i64 0, .int .i64 0, .int .i64 2, .int .i64 2], .agg #[.int .i64 1, .int .i64 1, .int .i64 9, .int .i64 9]] W (fun e w' => e = .returned (.agg #[.int .i64 1, .int .i64 1, .int .i64 1, .int .i64 1]) ∧ Pure W w')) := Lib.hid (fun W => by
      have := both_any ⟨0, 0, 2, 2⟩ ⟨1, 1, 9, 9⟩ W
      rw [pg_both] at this
      exact this)
    refine HPg2.mono ?_
    rintro e wd ⟨rfl, hPd⟩
    have hP := HPw.out.pure hPd
    clear HPg2 HPage hPd HPg hRp
    obtain ⟨we, hwe⟩ : ∃ z, z = wd.alloc (.cells #[.int .i64 0, .int .i64 0, .int .i64 20000000, .int .i64 10000000, .int .i64 1, .int .i64 10000000, .int .i64 20000000] 50) := ⟨_, rfl⟩
    have hBs : BlockIs we wd.heap.size [.int .i64 0, .int .i64 0, .int .i64 20000000, .int .i64 10000000, .int .i64 1, .int .i64 10000000, .int .i64 20000000] 50 := hwe ▸ BlockIs.new wd _ _
    have hP := hP.pure (show Pure wd we from hwe ▸ ext_alloc wd _)
    have HWe := Lib.hid hwe.symm
    clear hwe
    go_wp2_with fail
    rw [HWe.out]
    refine (HPt.out we).mono ?_
    rintro e wf ⟨rfl, hPf⟩
    have hP := hP.pure hPf
    have hBs := hBs.ext hPf id
    have hRs := hBs.range
    clear hPf
    go_wp2_with (with_reducible refine at_load 50 (.tmp 3) ?_; refine wpList_load_mid rfl 50 (.tmp 3) rfl wd.heap.size 0 rfl [.int .i64 0, .int .i64 0, .int .i64 20000000, .int .i64 10000000, .int .i64 1, .int .i64 10000000, .int .i64 20000000] _ hRs Try.underlying50 rfl (sz50 _ _ _ _ _ _ _) ?_)
    refine (HBk.out wf).mono ?_
    rintro e wg ⟨rfl, hPg⟩
    have hP := hP.pure hPg
    have hBs := hBs.ext hPg id
    clear hPg hRs
    go_wp2_with fail
    refine (HTn.out wg).mono ?_
    rintro e wh ⟨rfl, hPh⟩
    have hP := hP.pure hPh
    have hBs := hBs.ext hPh id
    clear hPh
    obtain ⟨wi, hwi⟩ : ∃ z, z = wh.alloc (.cells #[.int .i64 0, .int .i64 (-2), .int .i64 1, .int .i64 2] 28) := ⟨_, rfl⟩
    have hPi : Pure wh wi := hwi ▸ ext_alloc wh _
    have hBs := hBs.ext hPi id
    have HWi : Hid (wh.alloc (.cells #[.int .i64 0, .int .i64 (-2), .int .i64 1, .int .i64 2] 28) = wi) := Lib.hid hwi.symm
    have c4 : (wh.alloc (.cells #[.int .i64 0, .int .i64 (-2), .int .i64 1, .int .i64 2] 28)).cell? ⟨wd.heap.size, 4, none⟩ = some (.int .i64 1) := by rw [HWi.out]; exact hBs.cell 4
    have c5 : (wh.alloc (.cells #[.int .i64 0, .int .i64 (-2), .int .i64 1, .int .i64 2] 28)).cell? ⟨wd.heap.size, 5, none⟩ = some (.int .i64 10000000) := by rw [HWi.out]; exact hBs.cell 5
    have c6 : (wh.alloc (.cells #[.int .i64 0, .int .i64 (-2), .int .i64 1, .int .i64 2] 28)).cell? ⟨wd.heap.size, 6, none⟩ = some (.int .i64 20000000) := by rw [HWi.out]; exact hBs.cell 6
    clear hwi hBs
    go_wp2_with fail
    rw [HWi.out]
    refine (HBt.out wi).mono ?_
    rintro e wj ⟨rfl, hPj⟩
    go_wp2_with fail
    go_ret
    exact ⟨rfl, (hP.pure hPi).pure hPj⟩
  case first =>
    have hBm := hBm.drew
    have hLm := hLm.pure (Ext.refl (fun _ => False) w6).drew
    have HPw := Lib.hid hPw.drew
    have hlt : bl + 1 < w6.drew.heap.size := hBm.lt
    have hPw := Ext.refl (fun _ => False) w6.drew
    refine region_start (fun k => w6.drew.heap.size ≤ k) (by kernel_rfl) ?_
    try simp only [Act.put, List.setIfInBounds_toArray, List.set_cons_zero, List.set_cons_succ]
    refine region_take 1 17 (v := ?vwk1) rfl rfl (by kernel_rfl) (by kernel_rfl) (by kernel_rfl) (fun _ _ _ h => h) (by rfl) (fun w' hS => ?hwk1) ?rwk1
    case hwk1 => (refine exec_load (x := .tmp 1) ?_ ?_ (hBm.ext hS (fun e => by have e' : w6.drew.heap.size ≤ bl + 1 := e; omega)) rfl <;> rfl)
    try simp only [Act.put, List.setIfInBounds_toArray, List.set_cons_zero, List.set_cons_succ]
    refine wpAnyH_ready (rs := [0, 11]) (by kernel_rfl) (by simp) (AllReadyH.cons rfl (fun K hK => ?_) (AllReadyH.cons rfl (fun K hK => ?_) (AllReadyH.nil)))
    go_simp
    refine (name_any kMedia _).mono ?_
    rintro e wa ⟨rfl, hP⟩
    have hBm := hBm.ext hP id
    have hLm := hLm.pure hP
    have hPw := hPw.pure hP
    try have hBA := hBA.ext hP id
    try have hBO := hBO.ext hP id
    try have hBB := hBB.ext hP id
    try have hBP := hBP.ext hP id
    try have hL1 := hL1.pure hP
    try have hL2 := hL2.pure hP
    refine hK.out _ _ (hP.mono (fun _ _ e => e.elim)) (fun hHeld => ?_)
    clear hK K hHeld
    refine region_now (hP.mono (fun _ _ e => e.elim)) ?_
    try simp only [Act.put, List.setIfInBounds_toArray, List.set_cons_zero, List.set_cons_succ]
    refine wpAnyH_ready (rs := [2, 11]) (by kernel_rfl) (by simp) (AllReadyH.cons rfl (fun K hK => ?_) (AllReadyH.cons rfl (fun K hK => ?_) (AllReadyH.nil)))
    refine step_of_list ?_
    refine wpList_slice_new rfl 22 24 2 #[(0, .tmp 16), (1, .tmp 17)] rfl Try.underlying22 [.int .i64 5, .int .i64 0, .string kMedia, .slice none 0 0, .int .i64 6, .int .i64 0, .string ⟨#[]⟩, .slice (some ⟨bl, 0, none⟩) 4 4] (by kernel_rfl) ?_
    intro bA wb hBA hP
    have hBm := hBm.ext hP id
    have hLm := hLm.pure hP
    have hPw := hPw.pure hP
    try have hBP := hBP.ext hP id
    refine hK.out _ _ (hP.mono (fun _ _ e => e.elim)) (fun hHeld => ?_)
    clear hK K hHeld
    refine region_now (hP.mono (fun _ _ e => e.elim)) ?_
    try simp only [Act.put, List.setIfInBounds_toArray, List.set_cons_zero, List.set_cons_succ]
    refine wpAnyH_ready (rs := [3, 11]) (by kernel_rfl) (by simp) (AllReadyH.cons rfl (fun K hK => ?_) (AllReadyH.cons rfl (fun K hK => ?_) (AllReadyH.nil)))
    go_simp
    refine (dictof_any 1 [nameV kMedia, mediaV] [.int .i64 5, .int .i64 0, .string kMedia, .slice none 0 0, .int .i64 6, .int .i64 0, .string ⟨#[]⟩, .slice (some ⟨bl, 0, none⟩) 4 4] (some ⟨bA, 0, none⟩) 2 2 _ ((Fit.single (Lies.leaf _ 1 5 0 kMedia (by decide))).append (Fit.single hLm)) (row_of_block hBA) rfl (by decide)).mono ?_
    rintro e wc ⟨cd, rfl, hT1, hP, _⟩
    rw [pg_dict] at hT1
    have hL1 := hT1.lies hP
    obtain ⟨a1, c1, _, hcd, _⟩ := hL1.kids
    subst hcd
    clear hT1 hBA
    have hBm := hBm.ext hP id
    have hLm := hLm.pure hP
    have hPw := hPw.pure hP
    try have hBP := hBP.ext hP id
    refine hK.out _ _ (hP.mono (fun _ _ e => e.elim)) (fun hHeld => ?_)
    clear hK K hHeld
    refine region_now (hP.mono (fun _ _ e => e.elim)) ?_
    try simp only [Act.put, List.setIfInBounds_toArray, List.set_cons_zero, List.set_cons_succ]
    refine region_take 4 20 (v := ?vwkq0q0q04) rfl rfl (by kernel_rfl) (by kernel_rfl) (by kernel_rfl) (fun _ _ _ h => h) (by rfl) (fun w' hS => ?hwkq0q0q04) ?rwkq0q0q04
    case hwkq0q0q04 => go_simp; with_reducible rfl
    try simp only [Act.put, List.setIfInBounds_toArray, List.set_cons_zero, List.set_cons_succ]
    refine wpAnyH_ready (rs := [5, 6, 11]) (by kernel_rfl) (by simp) (AllReadyH.cons rfl (fun K hK => ?_) (AllReadyH.cons rfl (fun K hK => ?_) (AllReadyH.cons rfl (fun K hK => ?_) (AllReadyH.nil))))
    refine step_of_list ?_
    refine wpList_slice_new rfl 45 69 1 #[(0, .tmp 20)] rfl Try.underlying45 [.int .i64 7, .int .i64 0, .string ⟨#[]⟩, .slice a1 2 c1, .bool false, .string ⟨#[]⟩] (by kernel_rfl) ?_
    intro bO wd hBO hP
    have hPw := hPw.pure hP
    try have hBP := hBP.ext hP id
    try have hBB := hBB.ext hP id
    try have hL2 := hL2.pure hP
    have hL1 := hL1.pure hP
    refine hK.out _ _ (hP.mono (fun _ _ e => e.elim)) (fun hHeld => ?_)
    clear hK K hHeld
    refine region_now (hP.mono (fun _ _ e => e.elim)) ?_
    try simp only [Act.put, List.setIfInBounds_toArray, List.set_cons_zero, List.set_cons_succ]
    refine wpAnyH_ready (rs := [6, 11]) (by kernel_rfl) (by simp) (AllReadyH.cons rfl (fun K hK => ?_) (AllReadyH.cons rfl (fun K hK => ?_) (AllReadyH.nil)))
    go_simp
    refine (name_any kRot _).mono ?_
    rintro e we ⟨rfl, hP⟩
    have hPw := hPw.pure hP
    try have hBA := hBA.ext hP id
    try have hBO := hBO.ext hP id
    try have hBB := hBB.ext hP id
    try have hBP := hBP.ext hP id
    try have hL1 := hL1.pure hP
    try have hL2 := hL2.pure hP
    refine hK.out _ _ (hP.mono (fun _ _ e => e.elim)) (fun hHeld => ?_)
    clear hK K hHeld
    refine region_now (hP.mono (fun _ _ e => e.elim)) ?_
    try simp only [Act.put, List.setIfInBounds_toArray, List.set_cons_zero, List.set_cons_succ]
    refine wpAnyH_ready (rs := [7, 11]) (by kernel_rfl) (by simp) (AllReadyH.cons rfl (fun K hK => ?_) (AllReadyH.cons rfl (fun K hK => ?_) (AllReadyH.nil)))
    go_simp
    refine (int_any (-270) _).mono ?_
    rintro e wf ⟨rfl, hP⟩
    have hPw := hPw.pure hP
    try have hBA := hBA.ext hP id
    try have hBO := hBO.ext hP id
    try have hBB := hBB.ext hP id
    try have hBP := hBP.ext hP id
    try have hL1 := hL1.pure hP
    try have hL2 := hL2.pure hP
    refine hK.out _ _ (hP.mono (fun _ _ e => e.elim)) (fun hHeld => ?_)
    clear hK K hHeld
    refine region_now (hP.mono (fun _ _ e => e.elim)) ?_
    try simp only [Act.put, List.setIfInBounds_toArray, List.set_cons_zero, List.set_cons_succ]
    refine wpAnyH_ready (rs := [8, 11]) (by kernel_rfl) (by simp) (AllReadyH.cons rfl (fun K hK => ?_) (AllReadyH.cons rfl (fun K hK => ?_) (AllReadyH.nil)))
    refine step_of_list ?_
    refine wpList_slice_new rfl 22 24 2 #[(0, .tmp 22), (1, .tmp 23)] rfl Try.underlying22 [.int .i64 5, .int .i64 0, .string kRot, .slice none 0 0, .int .i64 2, .int .i64 (-270), .string ⟨#[]⟩, .slice none 0 0] (by kernel_rfl) ?_
    intro bB wg hBB hP
    have hPw := hPw.pure hP
    have hL1 := hL1.pure hP
    try have hBP := hBP.ext hP id
    try have hBO := hBO.ext hP id
    refine hK.out _ _ (hP.mono (fun _ _ e => e.elim)) (fun hHeld => ?_)
    clear hK K hHeld
    refine region_now (hP.mono (fun _ _ e => e.elim)) ?_
    try simp only [Act.put, List.setIfInBounds_toArray, List.set_cons_zero, List.set_cons_succ]
    refine wpAnyH_ready (rs := [9, 11]) (by kernel_rfl) (by simp) (AllReadyH.cons rfl (fun K hK => ?_) (AllReadyH.cons rfl (fun K hK => ?_) (AllReadyH.nil)))
    go_simp
    refine (dictof_any 1 [nameV kRot, intV (-270)] [.int .i64 5, .int .i64 0, .string kRot, .slice none 0 0, .int .i64 2, .int .i64 (-270), .string ⟨#[]⟩, .slice none 0 0] (some ⟨bB, 0, none⟩) 2 2 _ ((Fit.single (Lies.leaf _ 1 5 0 kRot (by decide))).append (Fit.single (Lies.leaf _ 1 2 (-270) ⟨#[]⟩ (by decide)))) (row_of_block hBB) rfl (by decide)).mono ?_
    rintro e wh ⟨ce, rfl, hT2, hP, _⟩
    rw [gv_dict] at hT2
    have hL2 := hT2.lies hP
    obtain ⟨a2, c2, _, hce, _⟩ := hL2.kids
    subst hce
    clear hT2 hBB
    have hPw := hPw.pure hP
    have hL1 := hL1.pure hP
    try have hBP := hBP.ext hP id
    try have hBO := hBO.ext hP id
    refine hK.out _ _ (hP.mono (fun _ _ e => e.elim)) (fun hHeld => ?_)
    clear hK K hHeld
    refine region_now (hP.mono (fun _ _ e => e.elim)) ?_
    try simp only [Act.put, List.setIfInBounds_toArray, List.set_cons_zero, List.set_cons_succ]
    refine region_take 10 26 (v := ?vwkq0q0q0q0q0q0q0q010) rfl rfl (by kernel_rfl) (by kernel_rfl) (by kernel_rfl) (fun _ _ _ h => h) (by rfl) (fun w' hS => ?hwkq0q0q0q0q0q0q0q010) ?rwkq0q0q0q0q0q0q0q010
    case hwkq0q0q0q0q0q0q0q010 => go_simp; with_reducible rfl
    try simp only [Act.put, List.setIfInBounds_toArray, List.set_cons_zero, List.set_cons_succ]
    refine wpAnyH_ready (rs := [11]) (by kernel_rfl) (by simp) (AllReadyH.cons rfl (fun K hK => ?_) AllReadyH.nil)
    refine step_of_list ?_
    refine wpList_alloc_new rfl 47 [.slice none 0 0, .int .i64 0, .int .i64 0, .string ⟨#[]⟩, .slice none 0 0] (run_alloc47 rfl _) ?_
    intro bP wi hBP hP hbP
    have hbP2 := Lib.hid (Nat.le_trans hPw.size hbP)
    clear hbP
    try have hBm := hBm.ext hP id
    try have hLm := hLm.pure hP
    have hPw := hPw.pure hP
    try have hBA := hBA.ext hP id
    try have hBO := hBO.ext hP id
    try have hBB := hBB.ext hP id
    try have hL1 := hL1.pure hP
    try have hL2 := hL2.pure hP
    refine hK.out _ _ (hP.mono (fun _ _ e => e.elim)) (fun hHeld => ?_)
    clear hK K hHeld
    refine region_now (hP.mono (fun _ _ e => e.elim)) ?_
    try simp only [Act.put, List.setIfInBounds_toArray, List.set_cons_zero, List.set_cons_succ]
    refine wpAnyH_ready (rs := [12]) (by kernel_rfl) (by simp) (AllReadyH.cons rfl (fun K hK => ?_) AllReadyH.nil)
    refine step_of_list ?_
    refine wpList_store_mid rfl 47 (.tmp 2) (.tmp 26) rfl bP 0 #[.slice (some ⟨bO, 0, none⟩) 1 1, .int .i64 7, .int .i64 0, .string ⟨#[]⟩, .slice a2 2 c2] rfl rfl (hBP.there 5 rfl) (by exact size47) (one5 _ _ _ _ _ _ _ _ _) ?_
    refine hK.out _ _ (Ext.setCells _ 0 _ (Ext.refl _ _) (fun _ => hbP2.out)) (fun hHeld => ?_)
    clear hK K hHeld
    refine region_now (Ext.setCells _ 0 _ (Ext.refl _ _) (fun _ => hbP2.out)) ?_
    try simp only [Act.put, List.setIfInBounds_toArray, List.set_cons_zero, List.set_cons_succ]
    refine wpAnyH_done (by kernel_rfl) ?_ _
    rotate_left
    refine step_of_list ?_
    refine wpList_alloc_new rfl 47 [.slice none 0 0, .int .i64 0, .int .i64 0, .string ⟨#[]⟩, .slice none 0 0] (run_alloc47 rfl _) ?_
    intro bP wi hBP hP hbP
    have hbP2 := Lib.hid (Nat.le_trans hPw.size hbP)
    clear hbP
    try have hBm := hBm.ext hP id
    try have hLm := hLm.pure hP
    have hPw := hPw.pure hP
    try have hBA := hBA.ext hP id
    try have hBO := hBO.ext hP id
    try have hBB := hBB.ext hP id
    try have hL1 := hL1.pure hP
    try have hL2 := hL2.pure hP
    refine hK.out _ _ (hP.mono (fun _ _ e => e.elim)) (fun hHeld => ?_)
    clear hK K hHeld
    refine region_now (hP.mono (fun _ _ e => e.elim)) ?_
    try simp only [Act.put, List.setIfInBounds_toArray, List.set_cons_zero, List.set_cons_succ]
    refine wpAnyH_ready (rs := [9]) (by kernel_rfl) (by simp) (AllReadyH.cons rfl (fun K hK => ?_) AllReadyH.nil)
    go_simp
    refine (dictof_any 1 [nameV kRot, intV (-270)] [.int .i64 5, .int .i64 0, .string kRot, .slice none 0 0, .int .i64 2, .int .i64 (-270), .string ⟨#[]⟩, .slice none 0 0] (some ⟨bB, 0, none⟩) 2 2 _ ((Fit.single (Lies.leaf _ 1 5 0 kRot (by decide))).append (Fit.single (Lies.leaf _ 1 2 (-270) ⟨#[]⟩ (by decide)))) (row_of_block hBB) rfl (by decide)).mono ?_
    rintro e wh ⟨ce, rfl, hT2, hP, _⟩
    rw [gv_dict] at hT2
    have hL2 := hT2.lies hP
    obtain ⟨a2, c2, _, hce, _⟩ := hL2.kids
    subst hce
    clear hT2 hBB
    have hPw := hPw.pure hP
    have hL1 := hL1.pure hP
    try have hBP := hBP.ext hP id
    try have hBO := hBO.ext hP id
    refine hK.out _ _ (hP.mono (fun _ _ e => e.elim)) (fun hHeld => ?_)
    clear hK K hHeld
    refine region_now (hP.mono (fun _ _ e => e.elim)) ?_
    try simp only [Act.put, List.setIfInBounds_toArray, List.set_cons_zero, List.set_cons_succ]
    refine region_take 10 26 (v := ?vwkq0q0q0q0q0q0q0q110) rfl rfl (by kernel_rfl) (by kernel_rfl) (by kernel_rfl) (fun _ _ _ h => h) (by rfl) (fun w' hS => ?hwkq0q0q0q0q0q0q0q110) ?rwkq0q0q0q0q0q0q0q110
    case hwkq0q0q0q0q0q0q0q110 => go_simp; with_reducible rfl
    try simp only [Act.put, List.setIfInBounds_toArray, List.set_cons_zero, List.set_cons_succ]
    refine wpAnyH_ready (rs := [12]) (by kernel_rfl) (by simp) (AllReadyH.cons rfl (fun K hK => ?_) AllReadyH.nil)
    refine step_of_list ?_
    refine wpList_store_mid rfl 47 (.tmp 2) (.tmp 26) rfl bP 0 #[.slice (some ⟨bO, 0, none⟩) 1 1, .int .i64 7, .int .i64 0, .string ⟨#[]⟩, .slice a2 2 c2] rfl rfl (hBP.there 5 rfl) (by exact size47) (one5 _ _ _ _ _ _ _ _ _) ?_
    refine hK.out _ _ (Ext.setCells _ 0 _ (Ext.refl _ _) (fun _ => hbP2.out)) (fun hHeld => ?_)
    clear hK K hHeld
    refine region_now (Ext.setCells _ 0 _ (Ext.refl _ _) (fun _ => hbP2.out)) ?_
    try simp only [Act.put, List.setIfInBounds_toArray, List.set_cons_zero, List.set_cons_succ]
    refine wpAnyH_done (by kernel_rfl) ?_ _
    rotate_left
    refine step_of_list ?_
    refine wpList_alloc_new rfl 47 [.slice none 0 0, .int .i64 0, .int .i64 0, .string ⟨#[]⟩, .slice none 0 0] (run_alloc47 rfl _) ?_
    intro bP wi hBP hP hbP
    have hbP2 := Lib.hid (Nat.le_trans hPw.size hbP)
    clear hbP
    try have hBm := hBm.ext hP id
    try have hLm := hLm.pure hP
    have hPw := hPw.pure hP
    try have hBA := hBA.ext hP id
    try have hBO := hBO.ext hP id
    try have hBB := hBB.ext hP id
    try have hL1 := hL1.pure hP
    try have hL2 := hL2.pure hP
    refine hK.out _ _ (hP.mono (fun _ _ e => e.elim)) (fun hHeld => ?_)
    clear hK K hHeld
    refine region_now (hP.mono (fun _ _ e => e.elim)) ?_
    try simp only [Act.put, List.setIfInBounds_toArray, List.set_cons_zero, List.set_cons_succ]
    refine wpAnyH_ready (rs := [8]) (by kernel_rfl) (by simp) (AllReadyH.cons rfl (fun K hK => ?_) AllReadyH.nil)
    refine step_of_list ?_
    refine wpList_slice_new rfl 22 24 2 #[(0, .tmp 22), (1, .tmp 23)] rfl Try.underlying22 [.int .i64 5, .int .i64 0, .string kRot, .slice none 0 0, .int .i64 2, .int .i64 (-270), .string ⟨#[]⟩, .slice none 0 0] (by kernel_rfl) ?_
    intro bB wg hBB hP
    have hPw := hPw.pure hP
    have hL1 := hL1.pure hP
    try have hBP := hBP.ext hP id
    try have hBO := hBO.ext hP id
    refine hK.out _ _ (hP.mono (fun _ _ e => e.elim)) (fun hHeld => ?_)
    clear hK K hHeld
    refine region_now (hP.mono (fun _ _ e => e.elim)) ?_
    try simp only [Act.put, List.setIfInBounds_toArray, List.set_cons_zero, List.set_cons_succ]
    refine wpAnyH_ready (rs := [9]) (by kernel_rfl) (by simp) (AllReadyH.cons rfl (fun K hK => ?_) AllReadyH.nil)
    go_simp
    refine (dictof_any 1 [nameV kRot, intV (-270)] [.int .i64 5, .int .i64 0, .string kRot, .slice none 0 0, .int .i64 2, .int .i64 (-270), .string ⟨#[]⟩, .slice none 0 0] (some ⟨bB, 0, none⟩) 2 2 _ ((Fit.single (Lies.leaf _ 1 5 0 kRot (by decide))).append (Fit.single (Lies.leaf _ 1 2 (-270) ⟨#[]⟩ (by decide)))) (row_of_block hBB) rfl (by decide)).mono ?_
    rintro e wh ⟨ce, rfl, hT2, hP, _⟩
    rw [gv_dict] at hT2
    have hL2 := hT2.lies hP
    obtain ⟨a2, c2, _, hce, _⟩ := hL2.kids
    subst hce
    clear hT2 hBB
    have hPw := hPw.pure hP
    have hL1 := hL1.pure hP
    try have hBP := hBP.ext hP id
    try have hBO := hBO.ext hP id
    refine hK.out _ _ (hP.mono (fun _ _ e => e.elim)) (fun hHeld => ?_)
    clear hK K hHeld
    refine region_now (hP.mono (fun _ _ e => e.elim)) ?_
    try simp only [Act.put, List.setIfInBounds_toArray, List.set_cons_zero, List.set_cons_succ]
    refine region_take 10 26 (v := ?vwkq0q0q0q0q0q0q110) rfl rfl (by kernel_rfl) (by kernel_rfl) (by kernel_rfl) (fun _ _ _ h => h) (by rfl) (fun w' hS => ?hwkq0q0q0q0q0q0q110) ?rwkq0q0q0q0q0q0q110
    case hwkq0q0q0q0q0q0q110 => go_simp; with_reducible rfl
    try simp only [Act.put, List.setIfInBounds_toArray, List.set_cons_zero, List.set_cons_succ]
    refine wpAnyH_ready (rs := [12]) (by kernel_rfl) (by simp) (AllReadyH.cons rfl (fun K hK => ?_) AllReadyH.nil)
    refine step_of_list ?_
    refine wpList_store_mid rfl 47 (.tmp 2) (.tmp 26) rfl bP 0 #[.slice (some ⟨bO, 0, none⟩) 1 1, .int .i64 7, .int .i64 0, .string ⟨#[]⟩, .slice a2 2 c2] rfl rfl (hBP.there 5 rfl) (by exact size47) (one5 _ _ _ _ _ _ _ _ _) ?_
    refine hK.out _ _ (Ext.setCells _ 0 _ (Ext.refl _ _) (fun _ => hbP2.out)) (fun hHeld => ?_)
    clear hK K hHeld
    refine region_now (Ext.setCells _ 0 _ (Ext.refl _ _) (fun _ => hbP2.out)) ?_
    try simp only [Act.put, List.setIfInBounds_toArray, List.set_cons_zero, List.set_cons_succ]
    refine wpAnyH_done (by kernel_rfl) ?_ _
    rotate_left
    refine step_of_list ?_
    refine wpList_alloc_new rfl 47 [.slice none 0 0, .int .i64 0, .int .i64 0, .string ⟨#[]⟩, .slice none 0 0] (run_alloc47 rfl _) ?_
    intro bP wi hBP hP hbP
    have hbP2 := Lib.hid (Nat.le_trans hPw.size hbP)
    clear hbP
    try have hBm := hBm.ext hP id
    try have hLm := hLm.pure hP
    have hPw := hPw.pure hP
    try have hBA := hBA.ext hP id
    try have hBO := hBO.ext hP id
    try have hBB := hBB.ext hP id
    try have hL1 := hL1.pure hP
    try have hL2 := hL2.pure hP
    refine hK.out _ _ (hP.mono (fun _ _ e => e.elim)) (fun hHeld => ?_)
    clear hK K hHeld
    refine region_now (hP.mono (fun _ _ e => e.elim)) ?_
    try simp only [Act.put, List.setIfInBounds_toArray, List.set_cons_zero, List.set_cons_succ]
    refine wpAnyH_ready (rs := [7]) (by kernel_rfl) (by simp) (AllReadyH.cons rfl (fun K hK => ?_) AllReadyH.nil)
    go_simp
    refine (int_any (-270) _).mono ?_
    rintro e wf ⟨rfl, hP⟩
    have hPw := hPw.pure hP
    try have hBA := hBA.ext hP id
    try have hBO := hBO.ext hP id
    try have hBB := hBB.ext hP id
    try have hBP := hBP.ext hP id
    try have hL1 := hL1.pure hP
    try have hL2 := hL2.pure hP
    refine hK.out _ _ (hP.mono (fun _ _ e => e.elim)) (fun hHeld => ?_)
    clear hK K hHeld
    refine region_now (hP.mono (fun _ _ e => e.elim)) ?_
    try simp only [Act.put, List.setIfInBounds_toArray, List.set_cons_zero, List.set_cons_succ]
    refine wpAnyH_ready (rs := [8]) (by kernel_rfl) (by simp) (AllReadyH.cons rfl (fun K hK => ?_) AllReadyH.nil)
    refine step_of_list ?_
    refine wpList_slice_new rfl 22 24 2 #[(0, .tmp 22), (1, .tmp 23)] rfl Try.underlying22 [.int .i64 5, .int .i64 0, .string kRot, .slice none 0 0, .int .i64 2, .int .i64 (-270), .string ⟨#[]⟩, .slice none 0 0] (by kernel_rfl) ?_
    intro bB wg hBB hP
    have hPw := hPw.pure hP
    have hL1 := hL1.pure hP
    try have hBP := hBP.ext hP id
    try have hBO := hBO.ext hP id
    refine hK.out _ _ (hP.mono (fun _ _ e => e.elim)) (fun hHeld => ?_)
    clear hK K hHeld
    refine region_now (hP.mono (fun _ _ e => e.elim)) ?_
    try simp only [Act.put, List.setIfInBounds_toArray, List.set_cons_zero, List.set_cons_succ]
    refine wpAnyH_ready (rs := [9]) (by kernel_rfl) (by simp) (AllReadyH.cons rfl (fun K hK => ?_) AllReadyH.nil)
    go_simp
    refine (dictof_any 1 [nameV kRot, intV (-270)] [.int .i64 5, .int .i64 0, .string kRot, .slice none 0 0, .int .i64 2, .int .i64 (-270), .string ⟨#[]⟩, .slice none 0 0] (some ⟨bB, 0, none⟩) 2 2 _ ((Fit.single (Lies.leaf _ 1 5 0 kRot (by decide))).append (Fit.single (Lies.leaf _ 1 2 (-270) ⟨#[]⟩ (by decide)))) (row_of_block hBB) rfl (by decide)).mono ?_
    rintro e wh ⟨ce, rfl, hT2, hP, _⟩
    rw [gv_dict] at hT2
    have hL2 := hT2.lies hP
    obtain ⟨a2, c2, _, hce, _⟩ := hL2.kids
    subst hce
    clear hT2 hBB
    have hPw := hPw.pure hP
    have hL1 := hL1.pure hP
    try have hBP := hBP.ext hP id
    try have hBO := hBO.ext hP id
    refine hK.out _ _ (hP.mono (fun _ _ e => e.elim)) (fun hHeld => ?_)
    clear hK K hHeld
    refine region_now (hP.mono (fun _ _ e => e.elim)) ?_
    try simp only [Act.put, List.setIfInBounds_toArray, List.set_cons_zero, List.set_cons_succ]
    refine region_take 10 26 (v := ?vwkq0q0q0q0q0q110) rfl rfl (by kernel_rfl) (by kernel_rfl) (by kernel_rfl) (fun _ _ _ h => h) (by rfl) (fun w' hS => ?hwkq0q0q0q0q0q110) ?rwkq0q0q0q0q0q110
    case hwkq0q0q0q0q0q110 => go_simp; with_reducible rfl
    try simp only [Act.put, List.setIfInBounds_toArray, List.set_cons_zero, List.set_cons_succ]
    refine wpAnyH_ready (rs := [12]) (by kernel_rfl) (by simp) (AllReadyH.cons rfl (fun K hK => ?_) AllReadyH.nil)
    refine step_of_list ?_
    refine wpList_store_mid rfl 47 (.tmp 2) (.tmp 26) rfl bP 0 #[.slice (some ⟨bO, 0, none⟩) 1 1, .int .i64 7, .int .i64 0, .string ⟨#[]⟩, .slice a2 2 c2] rfl rfl (hBP.there 5 rfl) (by exact size47) (one5 _ _ _ _ _ _ _ _ _) ?_
    refine hK.out _ _ (Ext.setCells _ 0 _ (Ext.refl _ _) (fun _ => hbP2.out)) (fun hHeld => ?_)
    clear hK K hHeld
    refine region_now (Ext.setCells _ 0 _ (Ext.refl _ _) (fun _ => hbP2.out)) ?_
    try simp only [Act.put, List.setIfInBounds_toArray, List.set_cons_zero, List.set_cons_succ]
    refine wpAnyH_done (by kernel_rfl) ?_ _
    rotate_left
    refine step_of_list ?_
    refine wpList_alloc_new rfl 47 [.slice none 0 0, .int .i64 0, .int .i64 0, .string ⟨#[]⟩, .slice none 0 0] (run_alloc47 rfl _) ?_
    intro bP wi hBP hP hbP
    have hbP2 := Lib.hid (Nat.le_trans hPw.size hbP)
    clear hbP
    try have hBm := hBm.ext hP id
    try have hLm := hLm.pure hP
    have hPw := hPw.pure hP
    try have hBA := hBA.ext hP id
    try have hBO := hBO.ext hP id
    try have hBB := hBB.ext hP id
    try have hL1 := hL1.pure hP
    try have hL2 := hL2.pure hP
    refine hK.out _ _ (hP.mono (fun _ _ e => e.elim)) (fun hHeld => ?_)
    clear hK K hHeld
    refine region_now (hP.mono (fun _ _ e => e.elim)) ?_
    try simp only [Act.put, List.setIfInBounds_toArray, List.set_cons_zero, List.set_cons_succ]
    refine wpAnyH_ready (rs := [6]) (by kernel_rfl) (by simp) (AllReadyH.cons rfl (fun K hK => ?_) AllReadyH.nil)
    go_simp
    refine (name_any kRot _).mono ?_
    rintro e we ⟨rfl, hP⟩
    have hPw := hPw.pure hP
    try have hBA := hBA.ext hP id
    try have hBO := hBO.ext hP id
    try have hBB := hBB.ext hP id
    try have hBP := hBP.ext hP id
    try have hL1 := hL1.pure hP
    try have hL2 := hL2.pure hP
    refine hK.out _ _ (hP.mono (fun _ _ e => e.elim)) (fun hHeld => ?_)
    clear hK K hHeld
    refine region_now (hP.mono (fun _ _ e => e.elim)) ?_
    try simp only [Act.put, List.setIfInBounds_toArray, List.set_cons_zero, List.set_cons_succ]
    refine wpAnyH_ready (rs := [7]) (by kernel_rfl) (by simp) (AllReadyH.cons rfl (fun K hK => ?_) AllReadyH.nil)
    go_simp
    refine (int_any (-270) _).mono ?_
    rintro e wf ⟨rfl, hP⟩
    have hPw := hPw.pure hP
    try have hBA := hBA.ext hP id
    try have hBO := hBO.ext hP id
    try have hBB := hBB.ext hP id
    try have hBP := hBP.ext hP id
    try have hL1 := hL1.pure hP
    try have hL2 := hL2.pure hP
    refine hK.out _ _ (hP.mono (fun _ _ e => e.elim)) (fun hHeld => ?_)
    clear hK K hHeld
    refine region_now (hP.mono (fun _ _ e => e.elim)) ?_
    try simp only [Act.put, List.setIfInBounds_toArray, List.set_cons_zero, List.set_cons_succ]
    refine wpAnyH_ready (rs := [8]) (by kernel_rfl) (by simp) (AllReadyH.cons rfl (fun K hK => ?_) AllReadyH.nil)
    refine step_of_list ?_
    refine wpList_slice_new rfl 22 24 2 #[(0, .tmp 22), (1, .tmp 23)] rfl Try.underlying22 [.int .i64 5, .int .i64 0, .string kRot, .slice none 0 0, .int .i64 2, .int .i64 (-270), .string ⟨#[]⟩, .slice none 0 0] (by kernel_rfl) ?_
    intro bB wg hBB hP
    have hPw := hPw.pure hP
    have hL1 := hL1.pure hP
    try have hBP := hBP.ext hP id
    try have hBO := hBO.ext hP id
    refine hK.out _ _ (hP.mono (fun _ _ e => e.elim)) (fun hHeld => ?_)
    clear hK K hHeld
    refine region_now (hP.mono (fun _ _ e => e.elim)) ?_
    try simp only [Act.put, List.setIfInBounds_toArray, List.set_cons_zero, List.set_cons_succ]
    refine wpAnyH_ready (rs := [9]) (by kernel_rfl) (by simp) (AllReadyH.cons rfl (fun K hK => ?_) AllReadyH.nil)
    go_simp
    refine (dictof_any 1 [nameV kRot, intV (-270)] [.int .i64 5, .int .i64 0, .string kRot, .slice none 0 0, .int .i64 2, .int .i64 (-270), .string ⟨#[]⟩, .slice none 0 0] (some ⟨bB, 0, none⟩) 2 2 _ ((Fit.single (Lies.leaf _ 1 5 0 kRot (by decide))).append (Fit.single (Lies.leaf _ 1 2 (-270) ⟨#[]⟩ (by decide)))) (row_of_block hBB) rfl (by decide)).mono ?_
    rintro e wh ⟨ce, rfl, hT2, hP, _⟩
    rw [gv_dict] at hT2
    have hL2 := hT2.lies hP
    obtain ⟨a2, c2, _, hce, _⟩ := hL2.kids
    subst hce
    clear hT2 hBB
    have hPw := hPw.pure hP
    have hL1 := hL1.pure hP
    try have hBP := hBP.ext hP id
    try have hBO := hBO.ext hP id
    refine hK.out _ _ (hP.mono (fun _ _ e => e.elim)) (fun hHeld => ?_)
    clear hK K hHeld
    refine region_now (hP.mono (fun _ _ e => e.elim)) ?_
    try simp only [Act.put, List.setIfInBounds_toArray, List.set_cons_zero, List.set_cons_succ]
    refine region_take 10 26 (v := ?vwkq0q0q0q0q110) rfl rfl (by kernel_rfl) (by kernel_rfl) (by kernel_rfl) (fun _ _ _ h => h) (by rfl) (fun w' hS => ?hwkq0q0q0q0q110) ?rwkq0q0q0q0q110
    case hwkq0q0q0q0q110 => go_simp; with_reducible rfl
    try simp only [Act.put, List.setIfInBounds_toArray, List.set_cons_zero, List.set_cons_succ]
    refine wpAnyH_ready (rs := [12]) (by kernel_rfl) (by simp) (AllReadyH.cons rfl (fun K hK => ?_) AllReadyH.nil)
    refine step_of_list ?_
    refine wpList_store_mid rfl 47 (.tmp 2) (.tmp 26) rfl bP 0 #[.slice (some ⟨bO, 0, none⟩) 1 1, .int .i64 7, .int .i64 0, .string ⟨#[]⟩, .slice a2 2 c2] rfl rfl (hBP.there 5 rfl) (by exact size47) (one5 _ _ _ _ _ _ _ _ _) ?_
    refine hK.out _ _ (Ext.setCells _ 0 _ (Ext.refl _ _) (fun _ => hbP2.out)) (fun hHeld => ?_)
    clear hK K hHeld
    refine region_now (Ext.setCells _ 0 _ (Ext.refl _ _) (fun _ => hbP2.out)) ?_
    try simp only [Act.put, List.setIfInBounds_toArray, List.set_cons_zero, List.set_cons_succ]
    refine wpAnyH_done (by kernel_rfl) ?_ _
    rotate_left
    go_simp
    refine (name_any kRot _).mono ?_
    rintro e we ⟨rfl, hP⟩
    have hPw := hPw.pure hP
    try have hBA := hBA.ext hP id
    try have hBO := hBO.ext hP id
    try have hBB := hBB.ext hP id
    try have hBP := hBP.ext hP id
    try have hL1 := hL1.pure hP
    try have hL2 := hL2.pure hP
    refine hK.out _ _ (hP.mono (fun _ _ e => e.elim)) (fun hHeld => ?_)
    clear hK K hHeld
    refine region_now (hP.mono (fun _ _ e => e.elim)) ?_
    try simp only [Act.put, List.setIfInBounds_toArray, List.set_cons_zero, List.set_cons_succ]
    refine wpAnyH_ready (rs := [5, 7, 11]) (by kernel_rfl) (by simp) (AllReadyH.cons rfl (fun K hK => ?_) (AllReadyH.cons rfl (fun K hK => ?_) (AllReadyH.cons rfl (fun K hK => ?_) (AllReadyH.nil))))
    refine step_of_list ?_
    refine wpList_slice_new rfl 45 69 1 #[(0, .tmp 20)] rfl Try.underlying45 [.int .i64 7, .int .i64 0, .string ⟨#[]⟩, .slice a1 2 c1, .bool false, .string ⟨#[]⟩] (by kernel_rfl) ?_
    intro bO wd hBO hP
    have hPw := hPw.pure hP
    try have hBP := hBP.ext hP id
    try have hBB := hBB.ext hP id
    try have hL2 := hL2.pure hP
    have hL1 := hL1.pure hP
    refine hK.out _ _ (hP.mono (fun _ _ e => e.elim)) (fun hHeld => ?_)
    clear hK K hHeld
    refine region_now (hP.mono (fun _ _ e => e.elim)) ?_
    try simp only [Act.put, List.setIfInBounds_toArray, List.set_cons_zero, List.set_cons_succ]
    refine wpAnyH_ready (rs := [7, 11]) (by kernel_rfl) (by simp) (AllReadyH.cons rfl (fun K hK => ?_) (AllReadyH.cons rfl (fun K hK => ?_) (AllReadyH.nil)))
    go_simp
    refine (int_any (-270) _).mono ?_
    rintro e wf ⟨rfl, hP⟩
    have hPw := hPw.pure hP
    try have hBA := hBA.ext hP id
    try have hBO := hBO.ext hP id
    try have hBB := hBB.ext hP id
    try have hBP := hBP.ext hP id
    try have hL1 := hL1.pure hP
    try have hL2 := hL2.pure hP
    refine hK.out _ _ (hP.mono (fun _ _ e => e.elim)) (fun hHeld => ?_)
    clear hK K hHeld
    refine region_now (hP.mono (fun _ _ e => e.elim)) ?_
    try simp only [Act.put, List.setIfInBounds_toArray, List.set_cons_zero, List.set_cons_succ]
    refine wpAnyH_ready (rs := [8, 11]) (by kernel_rfl) (by simp) (AllReadyH.cons rfl (fun K hK => ?_) (AllReadyH.cons rfl (fun K hK => ?_) (AllReadyH.nil)))
    refine step_of_list ?_
    refine wpList_slice_new rfl 22 24 2 #[(0, .tmp 22), (1, .tmp 23)] rfl Try.underlying22 [.int .i64 5, .int .i64 0, .string kRot, .slice none 0 0, .int .i64 2, .int .i64 (-270), .string ⟨#[]⟩, .slice none 0 0] (by kernel_rfl) ?_
    intro bB wg hBB hP
    have hPw := hPw.pure hP
    have hL1 := hL1.pure hP
    try have hBP := hBP.ext hP id
    try have hBO := hBO.ext hP id
    refine hK.out _ _ (hP.mono (fun _ _ e => e.elim)) (fun hHeld => ?_)
    clear hK K hHeld
    refine region_now (hP.mono (fun _ _ e => e.elim)) ?_
    try simp only [Act.put, List.setIfInBounds_toArray, List.set_cons_zero, List.set_cons_succ]
    refine wpAnyH_ready (rs := [9, 11]) (by kernel_rfl) (by simp) (AllReadyH.cons rfl (fun K hK => ?_) (AllReadyH.cons rfl (fun K hK => ?_) (AllReadyH.nil)))
    go_simp
    refine (dictof_any 1 [nameV kRot, intV (-270)] [.int .i64 5, .int .i64 0, .string kRot, .slice none 0 0, .int .i64 2, .int .i64 (-270), .string ⟨#[]⟩, .slice none 0 0] (some ⟨bB, 0, none⟩) 2 2 _ ((Fit.single (Lies.leaf _ 1 5 0 kRot (by decide))).append (Fit.single (Lies.leaf _ 1 2 (-270) ⟨#[]⟩ (by decide)))) (row_of_block hBB) rfl (by decide)).mono ?_
    rintro e wh ⟨ce, rfl, hT2, hP, _⟩
    rw [gv_dict] at hT2
    have hL2 := hT2.lies hP
    obtain ⟨a2, c2, _, hce, _⟩ := hL2.kids
    subst hce
    clear hT2 hBB
    have hPw := hPw.pure hP
    have hL1 := hL1.pure hP
    try have hBP := hBP.ext hP id
    try have hBO := hBO.ext hP id
    refine hK.out _ _ (hP.mono (fun _ _ e => e.elim)) (fun hHeld => ?_)
    clear hK K hHeld
    refine region_now (hP.mono (fun _ _ e => e.elim)) ?_
    try simp only [Act.put, List.setIfInBounds_toArray, List.set_cons_zero, List.set_cons_succ]
    refine region_take 10 26 (v := ?vwkq0q0q0q1q0q0q0q010) rfl rfl (by kernel_rfl) (by kernel_rfl) (by kernel_rfl) (fun _ _ _ h => h) (by rfl) (fun w' hS => ?hwkq0q0q0q1q0q0q0q010) ?rwkq0q0q0q1q0q0q0q010
    case hwkq0q0q0q1q0q0q0q010 => go_simp; with_reducible rfl
    try simp only [Act.put, List.setIfInBounds_toArray, List.set_cons_zero, List.set_cons_succ]
    refine wpAnyH_ready (rs := [11]) (by kernel_rfl) (by simp) (AllReadyH.cons rfl (fun K hK => ?_) AllReadyH.nil)
    refine step_of_list ?_
    refine wpList_alloc_new rfl 47 [.slice none 0 0, .int .i64 0, .int .i64 0, .string ⟨#[]⟩, .slice none 0 0] (run_alloc47 rfl _) ?_
    intro bP wi hBP hP hbP
    have hbP2 := Lib.hid (Nat.le_trans hPw.size hbP)
    clear hbP
    try have hBm := hBm.ext hP id
    try have hLm := hLm.pure hP
    have hPw := hPw.pure hP
    try have hBA := hBA.ext hP id
    try have hBO := hBO.ext hP id
    try have hBB := hBB.ext hP id
    try have hL1 := hL1.pure hP
    try have hL2 := hL2.pure hP
    refine hK.out _ _ (hP.mono (fun _ _ e => e.elim)) (fun hHeld => ?_)
    clear hK K hHeld
    refine region_now (hP.mono (fun _ _ e => e.elim)) ?_
    try simp only [Act.put, List.setIfInBounds_toArray, List.set_cons_zero, List.set_cons_succ]
    refine wpAnyH_ready (rs := [12]) (by kernel_rfl) (by simp) (AllReadyH.cons rfl (fun K hK => ?_) AllReadyH.nil)
    refine step_of_list ?_
    refine wpList_store_mid rfl 47 (.tmp 2) (.tmp 26) rfl bP 0 #[.slice (some ⟨bO, 0, none⟩) 1 1, .int .i64 7, .int .i64 0, .string ⟨#[]⟩, .slice a2 2 c2] rfl rfl (hBP.there 5 rfl) (by exact size47) (one5 _ _ _ _ _ _ _ _ _) ?_
    refine hK.out _ _ (Ext.setCells _ 0 _ (Ext.refl _ _) (fun _ => hbP2.out)) (fun hHeld => ?_)
    clear hK K hHeld
    refine region_now (Ext.setCells _ 0 _ (Ext.refl _ _) (fun _ => hbP2.out)) ?_
    try simp only [Act.put, List.setIfInBounds_toArray, List.set_cons_zero, List.set_cons_succ]
    refine wpAnyH_done (by kernel_rfl) ?_ _
    rotate_left
    refine step_of_list ?_
    refine wpList_alloc_new rfl 47 [.slice none 0 0, .int .i64 0, .int .i64 0, .string ⟨#[]⟩, .slice none 0 0] (run_alloc47 rfl _) ?_
    intro bP wi hBP hP hbP
    have hbP2 := Lib.hid (Nat.le_trans hPw.size hbP)
    clear hbP
    try have hBm := hBm.ext hP id
    try have hLm := hLm.pure hP
    have hPw := hPw.pure hP
    try have hBA := hBA.ext hP id
    try have hBO := hBO.ext hP id
    try have hBB := hBB.ext hP id
    try have hL1 := hL1.pure hP
    try have hL2 := hL2.pure hP
    refine hK.out _ _ (hP.mono (fun _ _ e => e.elim)) (fun hHeld => ?_)
    clear hK K hHeld
    refine region_now (hP.mono (fun _ _ e => e.elim)) ?_
    try simp only [Act.put, List.setIfInBounds_toArray, List.set_cons_zero, List.set_cons_succ]
    refine wpAnyH_ready (rs := [9]) (by kernel_rfl) (by simp) (AllReadyH.cons rfl (fun K hK => ?_) AllReadyH.nil)
    go_simp
    refine (dictof_any 1 [nameV kRot, intV (-270)] [.int .i64 5, .int .i64 0, .string kRot, .slice none 0 0, .int .i64 2, .int .i64 (-270), .string ⟨#[]⟩, .slice none 0 0] (some ⟨bB, 0, none⟩) 2 2 _ ((Fit.single (Lies.leaf _ 1 5 0 kRot (by decide))).append (Fit.single (Lies.leaf _ 1 2 (-270) ⟨#[]⟩ (by decide)))) (row_of_block hBB) rfl (by decide)).mono ?_
    rintro e wh ⟨ce, rfl, hT2, hP, _⟩
    rw [gv_dict] at hT2
    have hL2 := hT2.lies hP
    obtain ⟨a2, c2, _, hce, _⟩ := hL2.kids
    subst hce
    clear hT2 hBB
    have hPw := hPw.pure hP
    have hL1 := hL1.pure hP
    try have hBP := hBP.ext hP id
    try have hBO := hBO.ext hP id
    refine hK.out _ _ (hP.mono (fun _ _ e => e.elim)) (fun hHeld => ?_)
    clear hK K hHeld
    refine region_now (hP.mono (fun _ _ e => e.elim)) ?_
    try simp only [Act.put, List.setIfInBounds_toArray, List.set_cons_zero, List.set_cons_succ]
    refine region_take 10 26 (v := ?vwkq0q0q0q1q0q0q0q110) rfl rfl (by kernel_rfl) (by kernel_rfl) (by kernel_rfl) (fun _ _ _ h => h) (by rfl) (fun w' hS => ?hwkq0q0q0q1q0q0q0q110) ?rwkq0q0q0q1q0q0q0q110
    case hwkq0q0q0q1q0q0q0q110 => go_simp; with_reducible rfl
    try simp only [Act.put, List.setIfInBounds_toArray, List.set_cons_zero, List.set_cons_succ]
    refine wpAnyH_ready (rs := [12]) (by kernel_rfl) (by simp) (AllReadyH.cons rfl (fun K hK => ?_) AllReadyH.nil)
    refine step_of_list ?_
    refine wpList_store_mid rfl 47 (.tmp 2) (.tmp 26) rfl bP 0 #[.slice (some ⟨bO, 0, none⟩) 1 1, .int .i64 7, .int .i64 0, .string ⟨#[]⟩, .slice a2 2 c2] rfl rfl (hBP.there 5 rfl) (by exact size47) (one5 _ _ _ _ _ _ _ _ _) ?_
    refine hK.out _ _ (Ext.setCells _ 0 _ (Ext.refl _ _) (fun _ => hbP2.out)) (fun hHeld => ?_)
    clear hK K hHeld
    refine region_now (Ext.setCells _ 0 _ (Ext.refl _ _) (fun _ => hbP2.out)) ?_
    try simp only [Act.put, List.setIfInBounds_toArray, List.set_cons_zero, List.set_cons_succ]
    refine wpAnyH_done (by kernel_rfl) ?_ _
    rotate_left
    refine step_of_list ?_
    refine wpList_alloc_new rfl 47 [.slice none 0 0, .int .i64 0, .int .i64 0, .string ⟨#[]⟩, .slice none 0 0] (run_alloc47 rfl _) ?_
    intro bP wi hBP hP hbP
    have hbP2 := Lib.hid (Nat.le_trans hPw.size hbP)
    clear hbP
    try have hBm := hBm.ext hP id
    try have hLm := hLm.pure hP
    have hPw := hPw.pure hP
    try have hBA := hBA.ext hP id
    try have hBO := hBO.ext hP id
    try have hBB := hBB.ext hP id
    try have hL1 := hL1.pure hP
    try have hL2 := hL2.pure hP
    refine hK.out _ _ (hP.mono (fun _ _ e => e.elim)) (fun hHeld => ?_)
    clear hK K hHeld
    refine region_now (hP.mono (fun _ _ e => e.elim)) ?_
    try simp only [Act.put, List.setIfInBounds_toArray, List.set_cons_zero, List.set_cons_succ]
    refine wpAnyH_ready (rs := [8]) (by kernel_rfl) (by simp) (AllReadyH.cons rfl (fun K hK => ?_) AllReadyH.nil)
    refine step_of_list ?_
    refine wpList_slice_new rfl 22 24 2 #[(0, .tmp 22), (1, .tmp 23)] rfl Try.underlying22 [.int .i64 5, .int .i64 0, .string kRot, .slice none 0 0, .int .i64 2, .int .i64 (-270), .string ⟨#[]⟩, .slice none 0 0] (by kernel_rfl) ?_
    intro bB wg hBB hP
    have hPw := hPw.pure hP
    have hL1 := hL1.pure hP
    try have hBP := hBP.ext hP id
    try have hBO := hBO.ext hP id
    refine hK.out _ _ (hP.mono (fun _ _ e => e.elim)) (fun hHeld => ?_)
    clear hK K hHeld
    refine region_now (hP.mono (fun _ _ e => e.elim)) ?_
    try simp only [Act.put, List.setIfInBounds_toArray, List.set_cons_zero, List.set_cons_succ]
    refine wpAnyH_ready (rs := [9]) (by kernel_rfl) (by simp) (AllReadyH.cons rfl (fun K hK => ?_) AllReadyH.nil)
    go_simp
    refine (dictof_any 1 [nameV kRot, intV (-270)] [.int .i64 5, .int .i64 0, .string kRot, .slice none 0 0, .int .i64 2, .int .i64 (-270), .string ⟨#[]⟩, .slice none 0 0] (some ⟨bB, 0, none⟩) 2 2 _ ((Fit.single (Lies.leaf _ 1 5 0 kRot (by decide))).append (Fit.single (Lies.leaf _ 1 2 (-270) ⟨#[]⟩ (by decide)))) (row_of_block hBB) rfl (by decide)).mono ?_
    rintro e wh ⟨ce, rfl, hT2, hP, _⟩
    rw [gv_dict] at hT2
    have hL2 := hT2.lies hP
    obtain ⟨a2, c2, _, hce, _⟩ := hL2.kids
    subst hce
    clear hT2 hBB
    have hPw := hPw.pure hP
    have hL1 := hL1.pure hP
    try have hBP := hBP.ext hP id
    try have hBO := hBO.ext hP id
    refine hK.out _ _ (hP.mono (fun _ _ e => e.elim)) (fun hHeld => ?_)
    clear hK K hHeld
    refine region_now (hP.mono (fun _ _ e => e.elim)) ?_
    try simp only [Act.put, List.setIfInBounds_toArray, List.set_cons_zero, List.set_cons_succ]
    refine region_take 10 26 (v := ?vwkq0q0q0q1q0q0q110) rfl rfl (by kernel_rfl) (by kernel_rfl) (by kernel_rfl) (fun _ _ _ h => h) (by rfl) (fun w' hS => ?hwkq0q0q0q1q0q0q110) ?rwkq0q0q0q1q0q0q110
    case hwkq0q0q0q1q0q0q110 => go_simp; with_reducible rfl
    try simp only [Act.put, List.setIfInBounds_toArray, List.set_cons_zero, List.set_cons_succ]
    refine wpAnyH_ready (rs := [12]) (by kernel_rfl) (by simp) (AllReadyH.cons rfl (fun K hK => ?_) AllReadyH.nil)
    refine step_of_list ?_
    refine wpList_store_mid rfl 47 (.tmp 2) (.tmp 26) rfl bP 0 #[.slice (some ⟨bO, 0, none⟩) 1 1, .int .i64 7, .int .i64 0, .string ⟨#[]⟩, .slice a2 2 c2] rfl rfl (hBP.there 5 rfl) (by exact size47) (one5 _ _ _ _ _ _ _ _ _) ?_
    refine hK.out _ _ (Ext.setCells _ 0 _ (Ext.refl _ _) (fun _ => hbP2.out)) (fun hHeld => ?_)
    clear hK K hHeld
    refine region_now (Ext.setCells _ 0 _ (Ext.refl _ _) (fun _ => hbP2.out)) ?_
    try simp only [Act.put, List.setIfInBounds_toArray, List.set_cons_zero, List.set_cons_succ]
    refine wpAnyH_done (by kernel_rfl) ?_ _
    rotate_left
    refine step_of_list ?_
    refine wpList_alloc_new rfl 47 [.slice none 0 0, .int .i64 0, .int .i64 0, .string ⟨#[]⟩, .slice none 0 0] (run_alloc47 rfl _) ?_
    intro bP wi hBP hP hbP
    have hbP2 := Lib.hid (Nat.le_trans hPw.size hbP)
    clear hbP
    try have hBm := hBm.ext hP id
    try have hLm := hLm.pure hP
    have hPw := hPw.pure hP
    try have hBA := hBA.ext hP id
    try have hBO := hBO.ext hP id
    try have hBB := hBB.ext hP id
    try have hL1 := hL1.pure hP
    try have hL2 := hL2.pure hP
    refine hK.out _ _ (hP.mono (fun _ _ e => e.elim)) (fun hHeld => ?_)
    clear hK K hHeld
    refine region_now (hP.mono (fun _ _ e => e.elim)) ?_
    try simp only [Act.put, List.setIfInBounds_toArray, List.set_cons_zero, List.set_cons_succ]
    refine wpAnyH_ready (rs := [7]) (by kernel_rfl) (by simp) (AllReadyH.cons rfl (fun K hK => ?_) AllReadyH.nil)
    go_simp
    refine (int_any (-270) _).mono ?_
    rintro e wf ⟨rfl, hP⟩
    have hPw := hPw.pure hP
    try have hBA := hBA.ext hP id
    try have hBO := hBO.ext hP id
    try have hBB := hBB.ext hP id
    try have hBP := hBP.ext hP id
    try have hL1 := hL1.pure hP
    try have hL2 := hL2.pure hP
    refine hK.out _ _ (hP.mono (fun _ _ e => e.elim)) (fun hHeld => ?_)
    clear hK K hHeld
    refine region_now (hP.mono (fun _ _ e => e.elim)) ?_
    try simp only [Act.put, List.setIfInBounds_toArray, List.set_cons_zero, List.set_cons_succ]
    refine wpAnyH_ready (rs := [8]) (by kernel_rfl) (by simp) (AllReadyH.cons rfl (fun K hK => ?_) AllReadyH.nil)
    refine step_of_list ?_
    refine wpList_slice_new rfl 22 24 2 #[(0, .tmp 22), (1, .tmp 23)] rfl Try.underlying22 [.int .i64 5, .int .i64 0, .string kRot, .slice none 0 0, .int .i64 2, .int .i64 (-270), .string ⟨#[]⟩, .slice none 0 0] (by kernel_rfl) ?_
    intro bB wg hBB hP
    have hPw := hPw.pure hP
    have hL1 := hL1.pure hP
    try have hBP := hBP.ext hP id
    try have hBO := hBO.ext hP id
    refine hK.out _ _ (hP.mono (fun _ _ e => e.elim)) (fun hHeld => ?_)
    clear hK K hHeld
    refine region_now (hP.mono (fun _ _ e => e.elim)) ?_
    try simp only [Act.put, List.setIfInBounds_toArray, List.set_cons_zero, List.set_cons_succ]
    refine wpAnyH_ready (rs := [9]) (by kernel_rfl) (by simp) (AllReadyH.cons rfl (fun K hK => ?_) AllReadyH.nil)
    go_simp
    refine (dictof_any 1 [nameV kRot, intV (-270)] [.int .i64 5, .int .i64 0, .string kRot, .slice none 0 0, .int .i64 2, .int .i64 (-270), .string ⟨#[]⟩, .slice none 0 0] (some ⟨bB, 0, none⟩) 2 2 _ ((Fit.single (Lies.leaf _ 1 5 0 kRot (by decide))).append (Fit.single (Lies.leaf _ 1 2 (-270) ⟨#[]⟩ (by decide)))) (row_of_block hBB) rfl (by decide)).mono ?_
    rintro e wh ⟨ce, rfl, hT2, hP, _⟩
    rw [gv_dict] at hT2
    have hL2 := hT2.lies hP
    obtain ⟨a2, c2, _, hce, _⟩ := hL2.kids
    subst hce
    clear hT2 hBB
    have hPw := hPw.pure hP
    have hL1 := hL1.pure hP
    try have hBP := hBP.ext hP id
    try have hBO := hBO.ext hP id
    refine hK.out _ _ (hP.mono (fun _ _ e => e.elim)) (fun hHeld => ?_)
    clear hK K hHeld
    refine region_now (hP.mono (fun _ _ e => e.elim)) ?_
    try simp only [Act.put, List.setIfInBounds_toArray, List.set_cons_zero, List.set_cons_succ]
    refine region_take 10 26 (v := ?vwkq0q0q0q1q0q110) rfl rfl (by kernel_rfl) (by kernel_rfl) (by kernel_rfl) (fun _ _ _ h => h) (by rfl) (fun w' hS => ?hwkq0q0q0q1q0q110) ?rwkq0q0q0q1q0q110
    case hwkq0q0q0q1q0q110 => go_simp; with_reducible rfl
    try simp only [Act.put, List.setIfInBounds_toArray, List.set_cons_zero, List.set_cons_succ]
    refine wpAnyH_ready (rs := [12]) (by kernel_rfl) (by simp) (AllReadyH.cons rfl (fun K hK => ?_) AllReadyH.nil)
    refine step_of_list ?_
    refine wpList_store_mid rfl 47 (.tmp 2) (.tmp 26) rfl bP 0 #[.slice (some ⟨bO, 0, none⟩) 1 1, .int .i64 7, .int .i64 0, .string ⟨#[]⟩, .slice a2 2 c2] rfl rfl (hBP.there 5 rfl) (by exact size47) (one5 _ _ _ _ _ _ _ _ _) ?_
    refine hK.out _ _ (Ext.setCells _ 0 _ (Ext.refl _ _) (fun _ => hbP2.out)) (fun hHeld => ?_)
    clear hK K hHeld
    refine region_now (Ext.setCells _ 0 _ (Ext.refl _ _) (fun _ => hbP2.out)) ?_
    try simp only [Act.put, List.setIfInBounds_toArray, List.set_cons_zero, List.set_cons_succ]
    refine wpAnyH_done (by kernel_rfl) ?_ _
    rotate_left
    go_simp
    refine (int_any (-270) _).mono ?_
    rintro e wf ⟨rfl, hP⟩
    have hPw := hPw.pure hP
    try have hBA := hBA.ext hP id
    try have hBO := hBO.ext hP id
    try have hBB := hBB.ext hP id
    try have hBP := hBP.ext hP id
    try have hL1 := hL1.pure hP
    try have hL2 := hL2.pure hP
    refine hK.out _ _ (hP.mono (fun _ _ e => e.elim)) (fun hHeld => ?_)
    clear hK K hHeld
    refine region_now (hP.mono (fun _ _ e => e.elim)) ?_
    try simp only [Act.put, List.setIfInBounds_toArray, List.set_cons_zero, List.set_cons_succ]
    refine wpAnyH_ready (rs := [5, 8, 11]) (by kernel_rfl) (by simp) (AllReadyH.cons rfl (fun K hK => ?_) (AllReadyH.cons rfl (fun K hK => ?_) (AllReadyH.cons rfl (fun K hK => ?_) (AllReadyH.nil))))
    refine step_of_list ?_
    refine wpList_slice_new rfl 45 69 1 #[(0, .tmp 20)] rfl Try.underlying45 [.int .i64 7, .int .i64 0, .string ⟨#[]⟩, .slice a1 2 c1, .bool false, .string ⟨#[]⟩] (by kernel_rfl) ?_
    intro bO wd hBO hP
    have hPw := hPw.pure hP
    try have hBP := hBP.ext hP id
    try have hBB := hBB.ext hP id
    try have hL2 := hL2.pure hP
    have hL1 := hL1.pure hP
    refine hK.out _ _ (hP.mono (fun _ _ e => e.elim)) (fun hHeld => ?_)
    clear hK K hHeld
    refine region_now (hP.mono (fun _ _ e => e.elim)) ?_
    try simp only [Act.put, List.setIfInBounds_toArray, List.set_cons_zero, List.set_cons_succ]
    refine wpAnyH_ready (rs := [8, 11]) (by kernel_rfl) (by simp) (AllReadyH.cons rfl (fun K hK => ?_) (AllReadyH.cons rfl (fun K hK => ?_) (AllReadyH.nil)))
    refine step_of_list ?_
    refine wpList_slice_new rfl 22 24 2 #[(0, .tmp 22), (1, .tmp 23)] rfl Try.underlying22 [.int .i64 5, .int .i64 0, .string kRot, .slice none 0 0, .int .i64 2, .int .i64 (-270), .string ⟨#[]⟩, .slice none 0 0] (by kernel_rfl) ?_
    intro bB wg hBB hP
    have hPw := hPw.pure hP
    have hL1 := hL1.pure hP
    try have hBP := hBP.ext hP id
    try have hBO := hBO.ext hP id
    refine hK.out _ _ (hP.mono (fun _ _ e => e.elim)) (fun hHeld => ?_)
    clear hK K hHeld
    refine region_now (hP.mono (fun _ _ e => e.elim)) ?_
    try simp only [Act.put, List.setIfInBounds_toArray, List.set_cons_zero, List.set_cons_succ]
    refine wpAnyH_ready (rs := [9, 11]) (by kernel_rfl) (by simp) (AllReadyH.cons rfl (fun K hK => ?_) (AllReadyH.cons rfl (fun K hK => ?_) (AllReadyH.nil)))
    go_simp
    refine (dictof_any 1 [nameV kRot, intV (-270)] [.int .i64 5, .int .i64 0, .string kRot, .slice none 0 0, .int .i64 2, .int .i64 (-270), .string ⟨#[]⟩, .slice none 0 0] (some ⟨bB, 0, none⟩) 2 2 _ ((Fit.single (Lies.leaf _ 1 5 0 kRot (by decide))).append (Fit.single (Lies.leaf _ 1 2 (-270) ⟨#[]⟩ (by decide)))) (row_of_block hBB) rfl (by decide)).mono ?_
    rintro e wh ⟨ce, rfl, hT2, hP, _⟩
    rw [gv_dict] at hT2
    have hL2 := hT2.lies hP
    obtain ⟨a2, c2, _, hce, _⟩ := hL2.kids
    subst hce
    clear hT2 hBB
    have hPw := hPw.pure hP
    have hL1 := hL1.pure hP
    try have hBP := hBP.ext hP id
    try have hBO := hBO.ext hP id
    refine hK.out _ _ (hP.mono (fun _ _ e => e.elim)) (fun hHeld => ?_)
    clear hK K hHeld
    refine region_now (hP.mono (fun _ _ e => e.elim)) ?_
    try simp only [Act.put, List.setIfInBounds_toArray, List.set_cons_zero, List.set_cons_succ]
    refine region_take 10 26 (v := ?vwkq0q0q0q1q1q0q0q010) rfl rfl (by kernel_rfl) (by kernel_rfl) (by kernel_rfl) (fun _ _ _ h => h) (by rfl) (fun w' hS => ?hwkq0q0q0q1q1q0q0q010) ?rwkq0q0q0q1q1q0q0q010
    case hwkq0q0q0q1q1q0q0q010 => go_simp; with_reducible rfl
    try simp only [Act.put, List.setIfInBounds_toArray, List.set_cons_zero, List.set_cons_succ]
    refine wpAnyH_ready (rs := [11]) (by kernel_rfl) (by simp) (AllReadyH.cons rfl (fun K hK => ?_) AllReadyH.nil)
    refine step_of_list ?_
    refine wpList_alloc_new rfl 47 [.slice none 0 0, .int .i64 0, .int .i64 0, .string ⟨#[]⟩, .slice none 0 0] (run_alloc47 rfl _) ?_
    intro bP wi hBP hP hbP
    have hbP2 := Lib.hid (Nat.le_trans hPw.size hbP)
    clear hbP
    try have hBm := hBm.ext hP id
    try have hLm := hLm.pure hP
    have hPw := hPw.pure hP
    try have hBA := hBA.ext hP id
    try have hBO := hBO.ext hP id
    try have hBB := hBB.ext hP id
    try have hL1 := hL1.pure hP
    try have hL2 := hL2.pure hP
    refine hK.out _ _ (hP.mono (fun _ _ e => e.elim)) (fun hHeld => ?_)
    clear hK K hHeld
    refine region_now (hP.mono (fun _ _ e => e.elim)) ?_
    try simp only [Act.put, List.setIfInBounds_toArray, List.set_cons_zero, List.set_cons_succ]
    refine wpAnyH_ready (rs := [12]) (by kernel_rfl) (by simp) (AllReadyH.cons rfl (fun K hK => ?_) AllReadyH.nil)
    refine step_of_list ?_
    refine wpList_store_mid rfl 47 (.tmp 2) (.tmp 26) rfl bP 0 #[.slice (some ⟨bO, 0, none⟩) 1 1, .int .i64 7, .int .i64 0, .string ⟨#[]⟩, .slice a2 2 c2] rfl rfl (hBP.there 5 rfl) (by exact size47) (one5 _ _ _ _ _ _ _ _ _) ?_
    refine hK.out _ _ (Ext.setCells _ 0 _ (Ext.refl _ _) (fun _ => hbP2.out)) (fun hHeld => ?_)
    clear hK K hHeld
    refine region_now (Ext.setCells _ 0 _ (Ext.refl _ _) (fun _ => hbP2.out)) ?_
    try simp only [Act.put, List.setIfInBounds_toArray, List.set_cons_zero, List.set_cons_succ]
    refine wpAnyH_done (by kernel_rfl) ?_ _
    rotate_left
    refine step_of_list ?_
    refine wpList_alloc_new rfl 47 [.slice none 0 0, .int .i64 0, .int .i64 0, .string ⟨#[]⟩, .slice none 0 0] (run_alloc47 rfl _) ?_
    intro bP wi hBP hP hbP
    have hbP2 := Lib.hid (Nat.le_trans hPw.size hbP)
    clear hbP
    try have hBm := hBm.ext hP id
    try have hLm := hLm.pure hP
    have hPw := hPw.pure hP
    try have hBA := hBA.ext hP id
    try have hBO := hBO.ext hP id
    try have hBB := hBB.ext hP id
    try have hL1 := hL1.pure hP
    try have hL2 := hL2.pure hP
    refine hK.out _ _ (hP.mono (fun _ _ e => e.elim)) (fun hHeld => ?_)
    clear hK K hHeld
    refine region_now (hP.mono (fun _ _ e => e.elim)) ?_
    try simp only [Act.put, List.setIfInBounds_toArray, List.set_cons_zero, List.set_cons_succ]
    refine wpAnyH_ready (rs := [9]) (by kernel_rfl) (by simp) (AllReadyH.cons rfl (fun K hK => ?_) AllReadyH.nil)
    go_simp
    refine (dictof_any 1 [nameV kRot, intV (-270)] [.int .i64 5, .int .i64 0, .string kRot, .slice none 0 0, .int .i64 2, .int .i64 (-270), .string ⟨#[]⟩, .slice none 0 0] (some ⟨bB, 0, none⟩) 2 2 _ ((Fit.single (Lies.leaf _ 1 5 0 kRot (by decide))).append (Fit.single (Lies.leaf _ 1 2 (-270) ⟨#[]⟩ (by decide)))) (row_of_block hBB) rfl (by decide)).mono ?_
    rintro e wh ⟨ce, rfl, hT2, hP, _⟩
    rw [gv_dict] at hT2
    have hL2 := hT2.lies hP
    obtain ⟨a2, c2, _, hce, _⟩ := hL2.kids
    subst hce
    clear hT2 hBB
    have hPw := hPw.pure hP
    have hL1 := hL1.pure hP
    try have hBP := hBP.ext hP id
    try have hBO := hBO.ext hP id
    refine hK.out _ _ (hP.mono (fun _ _ e => e.elim)) (fun hHeld => ?_)
    clear hK K hHeld
    refine region_now (hP.mono (fun _ _ e => e.elim)) ?_
    try simp only [Act.put, List.setIfInBounds_toArray, List.set_cons_zero, List.set_cons_succ]
    refine region_take 10 26 (v := ?vwkq0q0q0q1q1q0q0q110) rfl rfl (by kernel_rfl) (by kernel_rfl) (by kernel_rfl) (fun _ _ _ h => h) (by rfl) (fun w' hS => ?hwkq0q0q0q1q1q0q0q110) ?rwkq0q0q0q1q1q0q0q110
    case hwkq0q0q0q1q1q0q0q110 => go_simp; with_reducible rfl
    try simp only [Act.put, List.setIfInBounds_toArray, List.set_cons_zero, List.set_cons_succ]
    refine wpAnyH_ready (rs := [12]) (by kernel_rfl) (by simp) (AllReadyH.cons rfl (fun K hK => ?_) AllReadyH.nil)
    refine step_of_list ?_
    refine wpList_store_mid rfl 47 (.tmp 2) (.tmp 26) rfl bP 0 #[.slice (some ⟨bO, 0, none⟩) 1 1, .int .i64 7, .int .i64 0, .string ⟨#[]⟩, .slice a2 2 c2] rfl rfl (hBP.there 5 rfl) (by exact size47) (one5 _ _ _ _ _ _ _ _ _) ?_
    refine hK.out _ _ (Ext.setCells _ 0 _ (Ext.refl _ _) (fun _ => hbP2.out)) (fun hHeld => ?_)
    clear hK K hHeld
    refine region_now (Ext.setCells _ 0 _ (Ext.refl _ _) (fun _ => hbP2.out)) ?_
    try simp only [Act.put, List.setIfInBounds_toArray, List.set_cons_zero, List.set_cons_succ]
    refine wpAnyH_done (by kernel_rfl) ?_ _
    rotate_left
    refine step_of_list ?_
    refine wpList_alloc_new rfl 47 [.slice none 0 0, .int .i64 0, .int .i64 0, .string ⟨#[]⟩, .slice none 0 0] (run_alloc47 rfl _) ?_
    intro bP wi hBP hP hbP
    have hbP2 := Lib.hid (Nat.le_trans hPw.size hbP)
    clear hbP
    try have hBm := hBm.ext hP id
    try have hLm := hLm.pure hP
    have hPw := hPw.pure hP
    try have hBA := hBA.ext hP id
    try have hBO := hBO.ext hP id
    try have hBB := hBB.ext hP id
    try have hL1 := hL1.pure hP
    try have hL2 := hL2.pure hP
    refine hK.out _ _ (hP.mono (fun _ _ e => e.elim)) (fun hHeld => ?_)
    clear hK K hHeld
    refine region_now (hP.mono (fun _ _ e => e.elim)) ?_
    try simp only [Act.put, List.setIfInBounds_toArray, List.set_cons_zero, List.set_cons_succ]
    refine wpAnyH_ready (rs := [8]) (by kernel_rfl) (by simp) (AllReadyH.cons rfl (fun K hK => ?_) AllReadyH.nil)
    refine step_of_list ?_
    refine wpList_slice_new rfl 22 24 2 #[(0, .tmp 22), (1, .tmp 23)] rfl Try.underlying22 [.int .i64 5, .int .i64 0, .string kRot, .slice none 0 0, .int .i64 2, .int .i64 (-270), .string ⟨#[]⟩, .slice none 0 0] (by kernel_rfl) ?_
    intro bB wg hBB hP
    have hPw := hPw.pure hP
    have hL1 := hL1.pure hP
    try have hBP := hBP.ext hP id
    try have hBO := hBO.ext hP id
    refine hK.out _ _ (hP.mono (fun _ _ e => e.elim)) (fun hHeld => ?_)
    clear hK K hHeld
    refine region_now (hP.mono (fun _ _ e => e.elim)) ?_
    try simp only [Act.put, List.setIfInBounds_toArray, List.set_cons_zero, List.set_cons_succ]
    refine wpAnyH_ready (rs := [9]) (by kernel_rfl) (by simp) (AllReadyH.cons rfl (fun K hK => ?_) AllReadyH.nil)
    go_simp
    refine (dictof_any 1 [nameV kRot, intV (-270)] [.int .i64 5, .int .i64 0, .string kRot, .slice none 0 0, .int .i64 2, .int .i64 (-270), .string ⟨#[]⟩, .slice none 0 0] (some ⟨bB, 0, none⟩) 2 2 _ ((Fit.single (Lies.leaf _ 1 5 0 kRot (by decide))).append (Fit.single (Lies.leaf _ 1 2 (-270) ⟨#[]⟩ (by decide)))) (row_of_block hBB) rfl (by decide)).mono ?_
    rintro e wh ⟨ce, rfl, hT2, hP, _⟩
    rw [gv_dict] at hT2
    have hL2 := hT2.lies hP
    obtain ⟨a2, c2, _, hce, _⟩ := hL2.kids
    subst hce
    clear hT2 hBB
    have hPw := hPw.pure hP
    have hL1 := hL1.pure hP
    try have hBP := hBP.ext hP id
    try have hBO := hBO.ext hP id
    refine hK.out _ _ (hP.mono (fun _ _ e => e.elim)) (fun hHeld => ?_)
    clear hK K hHeld
    refine region_now (hP.mono (fun _ _ e => e.elim)) ?_
    try simp only [Act.put, List.setIfInBounds_toArray, List.set_cons_zero, List.set_cons_succ]
    refine region_take 10 26 (v := ?vwkq0q0q0q1q1q0q110) rfl rfl (by kernel_rfl) (by kernel_rfl) (by kernel_rfl) (fun _ _ _ h => h) (by rfl) (fun w' hS => ?hwkq0q0q0q1q1q0q110) ?rwkq0q0q0q1q1q0q110
    case hwkq0q0q0q1q1q0q110 => go_simp; with_reducible rfl
    try simp only [Act.put, List.setIfInBounds_toArray, List.set_cons_zero, List.set_cons_succ]
    refine wpAnyH_ready (rs := [12]) (by kernel_rfl) (by simp) (AllReadyH.cons rfl (fun K hK => ?_) AllReadyH.nil)
    refine step_of_list ?_
    refine wpList_store_mid rfl 47 (.tmp 2) (.tmp 26) rfl bP 0 #[.slice (some ⟨bO, 0, none⟩) 1 1, .int .i64 7, .int .i64 0, .string ⟨#[]⟩, .slice a2 2 c2] rfl rfl (hBP.there 5 rfl) (by exact size47) (one5 _ _ _ _ _ _ _ _ _) ?_
    refine hK.out _ _ (Ext.setCells _ 0 _ (Ext.refl _ _) (fun _ => hbP2.out)) (fun hHeld => ?_)
    clear hK K hHeld
    refine region_now (Ext.setCells _ 0 _ (Ext.refl _ _) (fun _ => hbP2.out)) ?_
    try simp only [Act.put, List.setIfInBounds_toArray, List.set_cons_zero, List.set_cons_succ]
    refine wpAnyH_done (by kernel_rfl) ?_ _
    rotate_left
    refine step_of_list ?_
    refine wpList_slice_new rfl 22 24 2 #[(0, .tmp 22), (1, .tmp 23)] rfl Try.underlying22 [.int .i64 5, .int .i64 0, .string kRot, .slice none 0 0, .int .i64 2, .int .i64 (-270), .string ⟨#[]⟩, .slice none 0 0] (by kernel_rfl) ?_
    intro bB wg hBB hP
    have hPw := hPw.pure hP
    have hL1 := hL1.pure hP
    try have hBP := hBP.ext hP id
    try have hBO := hBO.ext hP id
    refine hK.out _ _ (hP.mono (fun _ _ e => e.elim)) (fun hHeld => ?_)
    clear hK K hHeld
    refine region_now (hP.mono (fun _ _ e => e.elim)) ?_
    try simp only [Act.put, List.setIfInBounds_toArray, List.set_cons_zero, List.set_cons_succ]
    refine wpAnyH_ready (rs := [5, 9, 11]) (by kernel_rfl) (by simp) (AllReadyH.cons rfl (fun K hK => ?_) (AllReadyH.cons rfl (fun K hK => ?_) (AllReadyH.cons rfl (fun K hK => ?_) (AllReadyH.nil))))
    refine step_of_list ?_
    refine wpList_slice_new rfl 45 69 1 #[(0, .tmp 20)] rfl Try.underlying45 [.int .i64 7, .int .i64 0, .string ⟨#[]⟩, .slice a1 2 c1, .bool false, .string ⟨#[]⟩] (by kernel_rfl) ?_
    intro bO wd hBO hP
    have hPw := hPw.pure hP
    try have hBP := hBP.ext hP id
    try have hBB := hBB.ext hP id
    try have hL2 := hL2.pure hP
    have hL1 := hL1.pure hP
    refine hK.out _ _ (hP.mono (fun _ _ e => e.elim)) (fun hHeld => ?_)
    clear hK K hHeld
    refine region_now (hP.mono (fun _ _ e => e.elim)) ?_
    try simp only [Act.put, List.setIfInBounds_toArray, List.set_cons_zero, List.set_cons_succ]
    refine wpAnyH_ready (rs := [9, 11]) (by kernel_rfl) (by simp) (AllReadyH.cons rfl (fun K hK => ?_) (AllReadyH.cons rfl (fun K hK => ?_) (AllReadyH.nil)))
    go_simp
    refine (dictof_any 1 [nameV kRot, intV (-270)] [.int .i64 5, .int .i64 0, .string kRot, .slice none 0 0, .int .i64 2, .int .i64 (-270), .string ⟨#[]⟩, .slice none 0 0] (some ⟨bB, 0, none⟩) 2 2 _ ((Fit.single (Lies.leaf _ 1 5 0 kRot (by decide))).append (Fit.single (Lies.leaf _ 1 2 (-270) ⟨#[]⟩ (by decide)))) (row_of_block hBB) rfl (by decide)).mono ?_
    rintro e wh ⟨ce, rfl, hT2, hP, _⟩
    rw [gv_dict] at hT2
    have hL2 := hT2.lies hP
    obtain ⟨a2, c2, _, hce, _⟩ := hL2.kids
    subst hce
    clear hT2 hBB
    have hPw := hPw.pure hP
    have hL1 := hL1.pure hP
    try have hBP := hBP.ext hP id
    try have hBO := hBO.ext hP id
    refine hK.out _ _ (hP.mono (fun _ _ e => e.elim)) (fun hHeld => ?_)
    clear hK K hHeld
    refine region_now (hP.mono (fun _ _ e => e.elim)) ?_
    try simp only [Act.put, List.setIfInBounds_toArray, List.set_cons_zero, List.set_cons_succ]
    refine region_take 10 26 (v := ?vwkq0q0q0q1q1q1q0q010) rfl rfl (by kernel_rfl) (by kernel_rfl) (by kernel_rfl) (fun _ _ _ h => h) (by rfl) (fun w' hS => ?hwkq0q0q0q1q1q1q0q010) ?rwkq0q0q0q1q1q1q0q010
    case hwkq0q0q0q1q1q1q0q010 => go_simp; with_reducible rfl
    try simp only [Act.put, List.setIfInBounds_toArray, List.set_cons_zero, List.set_cons_succ]
    refine wpAnyH_ready (rs := [11]) (by kernel_rfl) (by simp) (AllReadyH.cons rfl (fun K hK => ?_) AllReadyH.nil)
    refine step_of_list ?_
    refine wpList_alloc_new rfl 47 [.slice none 0 0, .int .i64 0, .int .i64 0, .string ⟨#[]⟩, .slice none 0 0] (run_alloc47 rfl _) ?_
    intro bP wi hBP hP hbP
    have hbP2 := Lib.hid (Nat.le_trans hPw.size hbP)
    clear hbP
    try have hBm := hBm.ext hP id
    try have hLm := hLm.pure hP
    have hPw := hPw.pure hP
    try have hBA := hBA.ext hP id
    try have hBO := hBO.ext hP id
    try have hBB := hBB.ext hP id
    try have hL1 := hL1.pure hP
    try have hL2 := hL2.pure hP
    refine hK.out _ _ (hP.mono (fun _ _ e => e.elim)) (fun hHeld => ?_)
    clear hK K hHeld
    refine region_now (hP.mono (fun _ _ e => e.elim)) ?_
    try simp only [Act.put, List.setIfInBounds_toArray, List.set_cons_zero, List.set_cons_succ]
    refine wpAnyH_ready (rs := [12]) (by kernel_rfl) (by simp) (AllReadyH.cons rfl (fun K hK => ?_) AllReadyH.nil)
    refine step_of_list ?_
    refine wpList_store_mid rfl 47 (.tmp 2) (.tmp 26) rfl bP 0 #[.slice (some ⟨bO, 0, none⟩) 1 1, .int .i64 7, .int .i64 0, .string ⟨#[]⟩, .slice a2 2 c2] rfl rfl (hBP.there 5 rfl) (by exact size47) (one5 _ _ _ _ _ _ _ _ _) ?_
    refine hK.out _ _ (Ext.setCells _ 0 _ (Ext.refl _ _) (fun _ => hbP2.out)) (fun hHeld => ?_)
    clear hK K hHeld
    refine region_now (Ext.setCells _ 0 _ (Ext.refl _ _) (fun _ => hbP2.out)) ?_
    try simp only [Act.put, List.setIfInBounds_toArray, List.set_cons_zero, List.set_cons_succ]
    refine wpAnyH_done (by kernel_rfl) ?_ _
    rotate_left
    refine step_of_list ?_
    refine wpList_alloc_new rfl 47 [.slice none 0 0, .int .i64 0, .int .i64 0, .string ⟨#[]⟩, .slice none 0 0] (run_alloc47 rfl _) ?_
    intro bP wi hBP hP hbP
    have hbP2 := Lib.hid (Nat.le_trans hPw.size hbP)
    clear hbP
    try have hBm := hBm.ext hP id
    try have hLm := hLm.pure hP
    have hPw := hPw.pure hP
    try have hBA := hBA.ext hP id
    try have hBO := hBO.ext hP id
    try have hBB := hBB.ext hP id
    try have hL1 := hL1.pure hP
    try have hL2 := hL2.pure hP
    refine hK.out _ _ (hP.mono (fun _ _ e => e.elim)) (fun hHeld => ?_)
    clear hK K hHeld
    refine region_now (hP.mono (fun _ _ e => e.elim)) ?_
    try simp only [Act.put, List.setIfInBounds_toArray, List.set_cons_zero, List.set_cons_succ]
    refine wpAnyH_ready (rs := [9]) (by kernel_rfl) (by simp) (AllReadyH.cons rfl (fun K hK => ?_) AllReadyH.nil)
    go_simp
    refine (dictof_any 1 [nameV kRot, intV (-270)] [.int .i64 5, .int .i64 0, .string kRot, .slice none 0 0, .int .i64 2, .int .i64 (-270), .string ⟨#[]⟩, .slice none 0 0] (some ⟨bB, 0, none⟩) 2 2 _ ((Fit.single (Lies.leaf _ 1 5 0 kRot (by decide))).append (Fit.single (Lies.leaf _ 1 2 (-270) ⟨#[]⟩ (by decide)))) (row_of_block hBB) rfl (by decide)).mono ?_
    rintro e wh ⟨ce, rfl, hT2, hP, _⟩
    rw [gv_dict] at hT2
    have hL2 := hT2.lies hP
    obtain ⟨a2, c2, _, hce, _⟩ := hL2.kids
    subst hce
    clear hT2 hBB
    have hPw := hPw.pure hP
    have hL1 := hL1.pure hP
    try have hBP := hBP.ext hP id
    try have hBO := hBO.ext hP id
    refine hK.out _ _ (hP.mono (fun _ _ e => e.elim)) (fun hHeld => ?_)
    clear hK K hHeld
    refine region_now (hP.mono (fun _ _ e => e.elim)) ?_
    try simp only [Act.put, List.setIfInBounds_toArray, List.set_cons_zero, List.set_cons_succ]
    refine region_take 10 26 (v := ?vwkq0q0q0q1q1q1q0q110) rfl rfl (by kernel_rfl) (by kernel_rfl) (by kernel_rfl) (fun _ _ _ h => h) (by rfl) (fun w' hS => ?hwkq0q0q0q1q1q1q0q110) ?rwkq0q0q0q1q1q1q0q110
    case hwkq0q0q0q1q1q1q0q110 => go_simp; with_reducible rfl
    try simp only [Act.put, List.setIfInBounds_toArray, List.set_cons_zero, List.set_cons_succ]
    refine wpAnyH_ready (rs := [12]) (by kernel_rfl) (by simp) (AllReadyH.cons rfl (fun K hK => ?_) AllReadyH.nil)
    refine step_of_list ?_
    refine wpList_store_mid rfl 47 (.tmp 2) (.tmp 26) rfl bP 0 #[.slice (some ⟨bO, 0, none⟩) 1 1, .int .i64 7, .int .i64 0, .string ⟨#[]⟩, .slice a2 2 c2] rfl rfl (hBP.there 5 rfl) (by exact size47) (one5 _ _ _ _ _ _ _ _ _) ?_
    refine hK.out _ _ (Ext.setCells _ 0 _ (Ext.refl _ _) (fun _ => hbP2.out)) (fun hHeld => ?_)
    clear hK K hHeld
    refine region_now (Ext.setCells _ 0 _ (Ext.refl _ _) (fun _ => hbP2.out)) ?_
    try simp only [Act.put, List.setIfInBounds_toArray, List.set_cons_zero, List.set_cons_succ]
    refine wpAnyH_done (by kernel_rfl) ?_ _
    rotate_left
    go_simp
    refine (dictof_any 1 [nameV kRot, intV (-270)] [.int .i64 5, .int .i64 0, .string kRot, .slice none 0 0, .int .i64 2, .int .i64 (-270), .string ⟨#[]⟩, .slice none 0 0] (some ⟨bB, 0, none⟩) 2 2 _ ((Fit.single (Lies.leaf _ 1 5 0 kRot (by decide))).append (Fit.single (Lies.leaf _ 1 2 (-270) ⟨#[]⟩ (by decide)))) (row_of_block hBB) rfl (by decide)).mono ?_
    rintro e wh ⟨ce, rfl, hT2, hP, _⟩
    rw [gv_dict] at hT2
    have hL2 := hT2.lies hP
    obtain ⟨a2, c2, _, hce, _⟩ := hL2.kids
    subst hce
    clear hT2 hBB
    have hPw := hPw.pure hP
    have hL1 := hL1.pure hP
    try have hBP := hBP.ext hP id
    try have hBO := hBO.ext hP id
    refine hK.out _ _ (hP.mono (fun _ _ e => e.elim)) (fun hHeld => ?_)
    clear hK K hHeld
    refine region_now (hP.mono (fun _ _ e => e.elim)) ?_
    try simp only [Act.put, List.setIfInBounds_toArray, List.set_cons_zero, List.set_cons_succ]
    refine wpAnyH_ready (rs := [5, 11]) (by kernel_rfl) (by simp) (AllReadyH.cons rfl (fun K hK => ?_) (AllReadyH.cons rfl (fun K hK => ?_) (AllReadyH.nil)))
    refine step_of_list ?_
    refine wpList_slice_new rfl 45 69 1 #[(0, .tmp 20)] rfl Try.underlying45 [.int .i64 7, .int .i64 0, .string ⟨#[]⟩, .slice a1 2 c1, .bool false, .string ⟨#[]⟩] (by kernel_rfl) ?_
    intro bO wd hBO hP
    have hPw := hPw.pure hP
    try have hBP := hBP.ext hP id
    try have hBB := hBB.ext hP id
    try have hL2 := hL2.pure hP
    have hL1 := hL1.pure hP
    refine hK.out _ _ (hP.mono (fun _ _ e => e.elim)) (fun hHeld => ?_)
    clear hK K hHeld
    refine region_now (hP.mono (fun _ _ e => e.elim)) ?_
    try simp only [Act.put, List.setIfInBounds_toArray, List.set_cons_zero, List.set_cons_succ]
    refine region_take 10 26 (v := ?vwkq0q0q0q1q1q1q1q010) rfl rfl (by kernel_rfl) (by kernel_rfl) (by kernel_rfl) (fun _ _ _ h => h) (by rfl) (fun w' hS => ?hwkq0q0q0q1q1q1q1q010) ?rwkq0q0q0q1q1q1q1q010
    case hwkq0q0q0q1q1q1q1q010 => go_simp; with_reducible rfl
    try simp only [Act.put, List.setIfInBounds_toArray, List.set_cons_zero, List.set_cons_succ]
    refine wpAnyH_ready (rs := [11]) (by kernel_rfl) (by simp) (AllReadyH.cons rfl (fun K hK => ?_) AllReadyH.nil)
    refine step_of_list ?_
    refine wpList_alloc_new rfl 47 [.slice none 0 0, .int .i64 0, .int .i64 0, .string ⟨#[]⟩, .slice none 0 0] (run_alloc47 rfl _) ?_
    intro bP wi hBP hP hbP
    have hbP2 := Lib.hid (Nat.le_trans hPw.size hbP)
    clear hbP
    try have hBm := hBm.ext hP id
    try have hLm := hLm.pure hP
    have hPw := hPw.pure hP
    try have hBA := hBA.ext hP id
    try have hBO := hBO.ext hP id
    try have hBB := hBB.ext hP id
    try have hL1 := hL1.pure hP
    try have hL2 := hL2.pure hP
    refine hK.out _ _ (hP.mono (fun _ _ e => e.elim)) (fun hHeld => ?_)
    clear hK K hHeld
    refine region_now (hP.mono (fun _ _ e => e.elim)) ?_
    try simp only [Act.put, List.setIfInBounds_toArray, List.set_cons_zero, List.set_cons_succ]
    refine wpAnyH_ready (rs := [12]) (by kernel_rfl) (by simp) (AllReadyH.cons rfl (fun K hK => ?_) AllReadyH.nil)
    refine step_of_list ?_
    refine wpList_store_mid rfl 47 (.tmp 2) (.tmp 26) rfl bP 0 #[.slice (some ⟨bO, 0, none⟩) 1 1, .int .i64 7, .int .i64 0, .string ⟨#[]⟩, .slice a2 2 c2] rfl rfl (hBP.there 5 rfl) (by exact size47) (one5 _ _ _ _ _ _ _ _ _) ?_
    refine hK.out _ _ (Ext.setCells _ 0 _ (Ext.refl _ _) (fun _ => hbP2.out)) (fun hHeld => ?_)
    clear hK K hHeld
    refine region_now (Ext.setCells _ 0 _ (Ext.refl _ _) (fun _ => hbP2.out)) ?_
    try simp only [Act.put, List.setIfInBounds_toArray, List.set_cons_zero, List.set_cons_succ]
    refine wpAnyH_done (by kernel_rfl) ?_ _
    rotate_left
    refine step_of_list ?_
    refine wpList_alloc_new rfl 47 [.slice none 0 0, .int .i64 0, .int .i64 0, .string ⟨#[]⟩, .slice none 0 0] (run_alloc47 rfl _) ?_
    intro bP wi hBP hP hbP
    have hbP2 := Lib.hid (Nat.le_trans hPw.size hbP)
    clear hbP
    try have hBm := hBm.ext hP id
    try have hLm := hLm.pure hP
    have hPw := hPw.pure hP
    try have hBA := hBA.ext hP id
    try have hBO := hBO.ext hP id
    try have hBB := hBB.ext hP id
    try have hL1 := hL1.pure hP
    try have hL2 := hL2.pure hP
    refine hK.out _ _ (hP.mono (fun _ _ e => e.elim)) (fun hHeld => ?_)
    clear hK K hHeld
    refine region_now (hP.mono (fun _ _ e => e.elim)) ?_
    try simp only [Act.put, List.setIfInBounds_toArray, List.set_cons_zero, List.set_cons_succ]
    refine wpAnyH_ready (rs := [5]) (by kernel_rfl) (by simp) (AllReadyH.cons rfl (fun K hK => ?_) AllReadyH.nil)
    refine step_of_list ?_
    refine wpList_slice_new rfl 45 69 1 #[(0, .tmp 20)] rfl Try.underlying45 [.int .i64 7, .int .i64 0, .string ⟨#[]⟩, .slice a1 2 c1, .bool false, .string ⟨#[]⟩] (by kernel_rfl) ?_
    intro bO wd hBO hP
    have hPw := hPw.pure hP
    try have hBP := hBP.ext hP id
    try have hBB := hBB.ext hP id
    try have hL2 := hL2.pure hP
    have hL1 := hL1.pure hP
    refine hK.out _ _ (hP.mono (fun _ _ e => e.elim)) (fun hHeld => ?_)
    clear hK K hHeld
    refine region_now (hP.mono (fun _ _ e => e.elim)) ?_
    try simp only [Act.put, List.setIfInBounds_toArray, List.set_cons_zero, List.set_cons_succ]
    refine region_take 10 26 (v := ?vwkq0q0q0q1q1q1q1q110) rfl rfl (by kernel_rfl) (by kernel_rfl) (by kernel_rfl) (fun _ _ _ h => h) (by rfl) (fun w' hS => ?hwkq0q0q0q1q1q1q1q110) ?rwkq0q0q0q1q1q1q1q110
    case hwkq0q0q0q1q1q1q1q110 => go_simp; with_reducible rfl
    try simp only [Act.put, List.setIfInBounds_toArray, List.set_cons_zero, List.set_cons_succ]
    refine wpAnyH_ready (rs := [12]) (by kernel_rfl) (by simp) (AllReadyH.cons rfl (fun K hK => ?_) AllReadyH.nil)
    refine step_of_list ?_
    refine wpList_store_mid rfl 47 (.tmp 2) (.tmp 26) rfl bP 0 #[.slice (some ⟨bO, 0, none⟩) 1 1, .int .i64 7, .int .i64 0, .string ⟨#[]⟩, .slice a2 2 c2] rfl rfl (hBP.there 5 rfl) (by exact size47) (one5 _ _ _ _ _ _ _ _ _) ?_
    refine hK.out _ _ (Ext.setCells _ 0 _ (Ext.refl _ _) (fun _ => hbP2.out)) (fun hHeld => ?_)
    clear hK K hHeld
    refine region_now (Ext.setCells _ 0 _ (Ext.refl _ _) (fun _ => hbP2.out)) ?_
    try simp only [Act.put, List.setIfInBounds_toArray, List.set_cons_zero, List.set_cons_succ]
    refine wpAnyH_done (by kernel_rfl) ?_ _
    rotate_left
    refine step_of_list ?_
    refine wpList_alloc_new rfl 47 [.slice none 0 0, .int .i64 0, .int .i64 0, .string ⟨#[]⟩, .slice none 0 0] (run_alloc47 rfl _) ?_
    intro bP wi hBP hP hbP
    have hbP2 := Lib.hid (Nat.le_trans hPw.size hbP)
    clear hbP
    try have hBm := hBm.ext hP id
    try have hLm := hLm.pure hP
    have hPw := hPw.pure hP
    try have hBA := hBA.ext hP id
    try have hBO := hBO.ext hP id
    try have hBB := hBB.ext hP id
    try have hL1 := hL1.pure hP
    try have hL2 := hL2.pure hP
    refine hK.out _ _ (hP.mono (fun _ _ e => e.elim)) (fun hHeld => ?_)
    clear hK K hHeld
    refine region_now (hP.mono (fun _ _ e => e.elim)) ?_
    try simp only [Act.put, List.setIfInBounds_toArray, List.set_cons_zero, List.set_cons_succ]
    refine wpAnyH_ready (rs := [5, 9]) (by kernel_rfl) (by simp) (AllReadyH.cons rfl (fun K hK => ?_) (AllReadyH.cons rfl (fun K hK => ?_) (AllReadyH.nil)))
    refine step_of_list ?_
    refine wpList_slice_new rfl 45 69 1 #[(0, .tmp 20)] rfl Try.underlying45 [.int .i64 7, .int .i64 0, .string ⟨#[]⟩, .slice a1 2 c1, .bool false, .string ⟨#[]⟩] (by kernel_rfl) ?_
    intro bO wd hBO hP
    have hPw := hPw.pure hP
    try have hBP := hBP.ext hP id
    try have hBB := hBB.ext hP id
    try have hL2 := hL2.pure hP
    have hL1 := hL1.pure hP
    refine hK.out _ _ (hP.mono (fun _ _ e => e.elim)) (fun hHeld => ?_)
    clear hK K hHeld
    refine region_now (hP.mono (fun _ _ e => e.elim)) ?_
    try simp only [Act.put, List.setIfInBounds_toArray, List.set_cons_zero, List.set_cons_succ]
    refine wpAnyH_ready (rs := [9]) (by kernel_rfl) (by simp) (AllReadyH.cons rfl (fun K hK => ?_) AllReadyH.nil)
    go_simp
    refine (dictof_any 1 [nameV kRot, intV (-270)] [.int .i64 5, .int .i64 0, .string kRot, .slice none 0 0, .int .i64 2, .int .i64 (-270), .string ⟨#[]⟩, .slice none 0 0] (some ⟨bB, 0, none⟩) 2 2 _ ((Fit.single (Lies.leaf _ 1 5 0 kRot (by decide))).append (Fit.single (Lies.leaf _ 1 2 (-270) ⟨#[]⟩ (by decide)))) (row_of_block hBB) rfl (by decide)).mono ?_
    rintro e wh ⟨ce, rfl, hT2, hP, _⟩
    rw [gv_dict] at hT2
    have hL2 := hT2.lies hP
    obtain ⟨a2, c2, _, hce, _⟩ := hL2.kids
    subst hce
    clear hT2 hBB
    have hPw := hPw.pure hP
    have hL1 := hL1.pure hP
    try have hBP := hBP.ext hP id
    try have hBO := hBO.ext hP id
    refine hK.out _ _ (hP.mono (fun _ _ e => e.elim)) (fun hHeld => ?_)
    clear hK K hHeld
    refine region_now (hP.mono (fun _ _ e => e.elim)) ?_
    try simp only [Act.put, List.setIfInBounds_toArray, List.set_cons_zero, List.set_cons_succ]
    refine region_take 10 26 (v := ?vwkq0q0q0q1q1q1q2q010) rfl rfl (by kernel_rfl) (by kernel_rfl) (by kernel_rfl) (fun _ _ _ h => h) (by rfl) (fun w' hS => ?hwkq0q0q0q1q1q1q2q010) ?rwkq0q0q0q1q1q1q2q010
    case hwkq0q0q0q1q1q1q2q010 => go_simp; with_reducible rfl
    try simp only [Act.put, List.setIfInBounds_toArray, List.set_cons_zero, List.set_cons_succ]
    refine wpAnyH_ready (rs := [12]) (by kernel_rfl) (by simp) (AllReadyH.cons rfl (fun K hK => ?_) AllReadyH.nil)
    refine step_of_list ?_
    refine wpList_store_mid rfl 47 (.tmp 2) (.tmp 26) rfl bP 0 #[.slice (some ⟨bO, 0, none⟩) 1 1, .int .i64 7, .int .i64 0, .string ⟨#[]⟩, .slice a2 2 c2] rfl rfl (hBP.there 5 rfl) (by exact size47) (one5 _ _ _ _ _ _ _ _ _) ?_
    refine hK.out _ _ (Ext.setCells _ 0 _ (Ext.refl _ _) (fun _ => hbP2.out)) (fun hHeld => ?_)
    clear hK K hHeld
    refine region_now (Ext.setCells _ 0 _ (Ext.refl _ _) (fun _ => hbP2.out)) ?_
    try simp only [Act.put, List.setIfInBounds_toArray, List.set_cons_zero, List.set_cons_succ]
    refine wpAnyH_done (by kernel_rfl) ?_ _
    rotate_left
    go_simp
    refine (dictof_any 1 [nameV kRot, intV (-270)] [.int .i64 5, .int .i64 0, .string kRot, .slice none 0 0, .int .i64 2, .int .i64 (-270), .string ⟨#[]⟩, .slice none 0 0] (some ⟨bB, 0, none⟩) 2 2 _ ((Fit.single (Lies.leaf _ 1 5 0 kRot (by decide))).append (Fit.single (Lies.leaf _ 1 2 (-270) ⟨#[]⟩ (by decide)))) (row_of_block hBB) rfl (by decide)).mono ?_
    rintro e wh ⟨ce, rfl, hT2, hP, _⟩
    rw [gv_dict] at hT2
    have hL2 := hT2.lies hP
    obtain ⟨a2, c2, _, hce, _⟩ := hL2.kids
    subst hce
    clear hT2 hBB
    have hPw := hPw.pure hP
    have hL1 := hL1.pure hP
    try have hBP := hBP.ext hP id
    try have hBO := hBO.ext hP id
    refine hK.out _ _ (hP.mono (fun _ _ e => e.elim)) (fun hHeld => ?_)
    clear hK K hHeld
    refine region_now (hP.mono (fun _ _ e => e.elim)) ?_
    try simp only [Act.put, List.setIfInBounds_toArray, List.set_cons_zero, List.set_cons_succ]
    refine wpAnyH_ready (rs := [5]) (by kernel_rfl) (by simp) (AllReadyH.cons rfl (fun K hK => ?_) AllReadyH.nil)
    refine step_of_list ?_
    refine wpList_slice_new rfl 45 69 1 #[(0, .tmp 20)] rfl Try.underlying45 [.int .i64 7, .int .i64 0, .string ⟨#[]⟩, .slice a1 2 c1, .bool false, .string ⟨#[]⟩] (by kernel_rfl) ?_
    intro bO wd hBO hP
    have hPw := hPw.pure hP
    try have hBP := hBP.ext hP id
    try have hBB := hBB.ext hP id
    try have hL2 := hL2.pure hP
    have hL1 := hL1.pure hP
    refine hK.out _ _ (hP.mono (fun _ _ e => e.elim)) (fun hHeld => ?_)
    clear hK K hHeld
    refine region_now (hP.mono (fun _ _ e => e.elim)) ?_
    try simp only [Act.put, List.setIfInBounds_toArray, List.set_cons_zero, List.set_cons_succ]
    refine region_take 10 26 (v := ?vwkq0q0q0q1q1q1q2q110) rfl rfl (by kernel_rfl) (by kernel_rfl) (by kernel_rfl) (fun _ _ _ h => h) (by rfl) (fun w' hS => ?hwkq0q0q0q1q1q1q2q110) ?rwkq0q0q0q1q1q1q2q110
    case hwkq0q0q0q1q1q1q2q110 => go_simp; with_reducible rfl
    try simp only [Act.put, List.setIfInBounds_toArray, List.set_cons_zero, List.set_cons_succ]
    refine wpAnyH_ready (rs := [12]) (by kernel_rfl) (by simp) (AllReadyH.cons rfl (fun K hK => ?_) AllReadyH.nil)
    refine step_of_list ?_
    refine wpList_store_mid rfl 47 (.tmp 2) (.tmp 26) rfl bP 0 #[.slice (some ⟨bO, 0, none⟩) 1 1, .int .i64 7, .int .i64 0, .string ⟨#[]⟩, .slice a2 2 c2] rfl rfl (hBP.there 5 rfl) (by exact size47) (one5 _ _ _ _ _ _ _ _ _) ?_
    refine hK.out _ _ (Ext.setCells _ 0 _ (Ext.refl _ _) (fun _ => hbP2.out)) (fun hHeld => ?_)
    clear hK K hHeld
    refine region_now (Ext.setCells _ 0 _ (Ext.refl _ _) (fun _ => hbP2.out)) ?_
    try simp only [Act.put, List.setIfInBounds_toArray, List.set_cons_zero, List.set_cons_succ]
    refine wpAnyH_done (by kernel_rfl) ?_ _
    rotate_left
    refine step_of_list ?_
    refine wpList_alloc_new rfl 47 [.slice none 0 0, .int .i64 0, .int .i64 0, .string ⟨#[]⟩, .slice none 0 0] (run_alloc47 rfl _) ?_
    intro bP wi hBP hP hbP
    have hbP2 := Lib.hid (Nat.le_trans hPw.size hbP)
    clear hbP
    try have hBm := hBm.ext hP id
    try have hLm := hLm.pure hP
    have hPw := hPw.pure hP
    try have hBA := hBA.ext hP id
    try have hBO := hBO.ext hP id
    try have hBB := hBB.ext hP id
    try have hL1 := hL1.pure hP
    try have hL2 := hL2.pure hP
    refine hK.out _ _ (hP.mono (fun _ _ e => e.elim)) (fun hHeld => ?_)
    clear hK K hHeld
    refine region_now (hP.mono (fun _ _ e => e.elim)) ?_
    try simp only [Act.put, List.setIfInBounds_toArray, List.set_cons_zero, List.set_cons_succ]
    refine wpAnyH_ready (rs := [5, 8]) (by kernel_rfl) (by simp) (AllReadyH.cons rfl (fun K hK => ?_) (AllReadyH.cons rfl (fun K hK => ?_) (AllReadyH.nil)))
    refine step_of_list ?_
    refine wpList_slice_new rfl 45 69 1 #[(0, .tmp 20)] rfl Try.underlying45 [.int .i64 7, .int .i64 0, .string ⟨#[]⟩, .slice a1 2 c1, .bool false, .string ⟨#[]⟩] (by kernel_rfl) ?_
    intro bO wd hBO hP
    have hPw := hPw.pure hP
    try have hBP := hBP.ext hP id
    try have hBB := hBB.ext hP id
    try have hL2 := hL2.pure hP
    have hL1 := hL1.pure hP
    refine hK.out _ _ (hP.mono (fun _ _ e => e.elim)) (fun hHeld => ?_)
    clear hK K hHeld
    refine region_now (hP.mono (fun _ _ e => e.elim)) ?_
    try simp only [Act.put, List.setIfInBounds_toArray, List.set_cons_zero, List.set_cons_succ]
    refine wpAnyH_ready (rs := [8]) (by kernel_rfl) (by simp) (AllReadyH.cons rfl (fun K hK => ?_) AllReadyH.nil)
    refine step_of_list ?_
    refine wpList_slice_new rfl 22 24 2 #[(0, .tmp 22), (1, .tmp 23)] rfl Try.underlying22 [.int .i64 5, .int .i64 0, .string kRot, .slice none 0 0, .int .i64 2, .int .i64 (-270), .string ⟨#[]⟩, .slice none 0 0] (by kernel_rfl) ?_
    intro bB wg hBB hP
    have hPw := hPw.pure hP
    have hL1 := hL1.pure hP
    try have hBP := hBP.ext hP id
    try have hBO := hBO.ext hP id
    refine hK.out _ _ (hP.mono (fun _ _ e => e.elim)) (fun hHeld => ?_)
    clear hK K hHeld
    refine region_now (hP.mono (fun _ _ e => e.elim)) ?_
    try simp only [Act.put, List.setIfInBounds_toArray, List.set_cons_zero, List.set_cons_succ]
    refine wpAnyH_ready (rs := [9]) (by kernel_rfl) (by simp) (AllReadyH.cons rfl (fun K hK => ?_) AllReadyH.nil)
    go_simp
    refine (dictof_any 1 [nameV kRot, intV (-270)] [.int .i64 5, .int .i64 0, .string kRot, .slice none 0 0, .int .i64 2, .int .i64 (-270), .string ⟨#[]⟩, .slice none 0 0] (some ⟨bB, 0, none⟩) 2 2 _ ((Fit.single (Lies.leaf _ 1 5 0 kRot (by decide))).append (Fit.single (Lies.leaf _ 1 2 (-270) ⟨#[]⟩ (by decide)))) (row_of_block hBB) rfl (by decide)).mono ?_
    rintro e wh ⟨ce, rfl, hT2, hP, _⟩
    rw [gv_dict] at hT2
    have hL2 := hT2.lies hP
    obtain ⟨a2, c2, _, hce, _⟩ := hL2.kids
    subst hce
    clear hT2 hBB
    have hPw := hPw.pure hP
    have hL1 := hL1.pure hP
    try have hBP := hBP.ext hP id
    try have hBO := hBO.ext hP id
    refine hK.out _ _ (hP.mono (fun _ _ e => e.elim)) (fun hHeld => ?_)
    clear hK K hHeld
    refine region_now (hP.mono (fun _ _ e => e.elim)) ?_
    try simp only [Act.put, List.setIfInBounds_toArray, List.set_cons_zero, List.set_cons_succ]
    refine region_take 10 26 (v := ?vwkq0q0q0q1q1q2q010) rfl rfl (by kernel_rfl) (by kernel_rfl) (by kernel_rfl) (fun _ _ _ h => h) (by rfl) (fun w' hS => ?hwkq0q0q0q1q1q2q010) ?rwkq0q0q0q1q1q2q010
    case hwkq0q0q0q1q1q2q010 => go_simp; with_reducible rfl
    try simp only [Act.put, List.setIfInBounds_toArray, List.set_cons_zero, List.set_cons_succ]
    refine wpAnyH_ready (rs := [12]) (by kernel_rfl) (by simp) (AllReadyH.cons rfl (fun K hK => ?_) AllReadyH.nil)
    refine step_of_list ?_
    refine wpList_store_mid rfl 47 (.tmp 2) (.tmp 26) rfl bP 0 #[.slice (some ⟨bO, 0, none⟩) 1 1, .int .i64 7, .int .i64 0, .string ⟨#[]⟩, .slice a2 2 c2] rfl rfl (hBP.there 5 rfl) (by exact size47) (one5 _ _ _ _ _ _ _ _ _) ?_
    refine hK.out _ _ (Ext.setCells _ 0 _ (Ext.refl _ _) (fun _ => hbP2.out)) (fun hHeld => ?_)
    clear hK K hHeld
    refine region_now (Ext.setCells _ 0 _ (Ext.refl _ _) (fun _ => hbP2.out)) ?_
    try simp only [Act.put, List.setIfInBounds_toArray, List.set_cons_zero, List.set_cons_succ]
    refine wpAnyH_done (by kernel_rfl) ?_ _
    rotate_left
    refine step_of_list ?_
    refine wpList_slice_new rfl 22 24 2 #[(0, .tmp 22), (1, .tmp 23)] rfl Try.underlying22 [.int .i64 5, .int .i64 0, .string kRot, .slice none 0 0, .int .i64 2, .int .i64 (-270), .string ⟨#[]⟩, .slice none 0 0] (by kernel_rfl) ?_
    intro bB wg hBB hP
    have hPw := hPw.pure hP
    have hL1 := hL1.pure hP
    try have hBP := hBP.ext hP id
    try have hBO := hBO.ext hP id
    refine hK.out _ _ (hP.mono (fun _ _ e => e.elim)) (fun hHeld => ?_)
    clear hK K hHeld
    refine region_now (hP.mono (fun _ _ e => e.elim)) ?_
    try simp only [Act.put, List.setIfInBounds_toArray, List.set_cons_zero, List.set_cons_succ]
    refine wpAnyH_ready (rs := [5, 9]) (by kernel_rfl) (by simp) (AllReadyH.cons rfl (fun K hK => ?_) (AllReadyH.cons rfl (fun K hK => ?_) (AllReadyH.nil)))
    refine step_of_list ?_
    refine wpList_slice_new rfl 45 69 1 #[(0, .tmp 20)] rfl Try.underlying45 [.int .i64 7, .int .i64 0, .string ⟨#[]⟩, .slice a1 2 c1, .bool false, .string ⟨#[]⟩] (by kernel_rfl) ?_
    intro bO wd hBO hP
    have hPw := hPw.pure hP
    try have hBP := hBP.ext hP id
    try have hBB := hBB.ext hP id
    try have hL2 := hL2.pure hP
    have hL1 := hL1.pure hP
    refine hK.out _ _ (hP.mono (fun _ _ e => e.elim)) (fun hHeld => ?_)
    clear hK K hHeld
    refine region_now (hP.mono (fun _ _ e => e.elim)) ?_
    try simp only [Act.put, List.setIfInBounds_toArray, List.set_cons_zero, List.set_cons_succ]
    refine wpAnyH_ready (rs := [9]) (by kernel_rfl) (by simp) (AllReadyH.cons rfl (fun K hK => ?_) AllReadyH.nil)
    go_simp
    refine (dictof_any 1 [nameV kRot, intV (-270)] [.int .i64 5, .int .i64 0, .string kRot, .slice none 0 0, .int .i64 2, .int .i64 (-270), .string ⟨#[]⟩, .slice none 0 0] (some ⟨bB, 0, none⟩) 2 2 _ ((Fit.single (Lies.leaf _ 1 5 0 kRot (by decide))).append (Fit.single (Lies.leaf _ 1 2 (-270) ⟨#[]⟩ (by decide)))) (row_of_block hBB) rfl (by decide)).mono ?_
    rintro e wh ⟨ce, rfl, hT2, hP, _⟩
    rw [gv_dict] at hT2
    have hL2 := hT2.lies hP
    obtain ⟨a2, c2, _, hce, _⟩ := hL2.kids
    subst hce
    clear hT2 hBB
    have hPw := hPw.pure hP
    have hL1 := hL1.pure hP
    try have hBP := hBP.ext hP id
    try have hBO := hBO.ext hP id
    refine hK.out _ _ (hP.mono (fun _ _ e => e.elim)) (fun hHeld => ?_)
    clear hK K hHeld
    refine region_now (hP.mono (fun _ _ e => e.elim)) ?_
    try simp only [Act.put, List.setIfInBounds_toArray, List.set_cons_zero, List.set_cons_succ]
    refine region_take 10 26 (v := ?vwkq0q0q0q1q1q2q1q010) rfl rfl (by kernel_rfl) (by kernel_rfl) (by kernel_rfl) (fun _ _ _ h => h) (by rfl) (fun w' hS => ?hwkq0q0q0q1q1q2q1q010) ?rwkq0q0q0q1q1q2q1q010
    case hwkq0q0q0q1q1q2q1q010 => go_simp; with_reducible rfl
    try simp only [Act.put, List.setIfInBounds_toArray, List.set_cons_zero, List.set_cons_succ]
    refine wpAnyH_ready (rs := [12]) (by kernel_rfl) (by simp) (AllReadyH.cons rfl (fun K hK => ?_) AllReadyH.nil)
    refine step_of_list ?_
    refine wpList_store_mid rfl 47 (.tmp 2) (.tmp 26) rfl bP 0 #[.slice (some ⟨bO, 0, none⟩) 1 1, .int .i64 7, .int .i64 0, .string ⟨#[]⟩, .slice a2 2 c2] rfl rfl (hBP.there 5 rfl) (by exact size47) (one5 _ _ _ _ _ _ _ _ _) ?_
    refine hK.out _ _ (Ext.setCells _ 0 _ (Ext.refl _ _) (fun _ => hbP2.out)) (fun hHeld => ?_)
    clear hK K hHeld
    refine region_now (Ext.setCells _ 0 _ (Ext.refl _ _) (fun _ => hbP2.out)) ?_
    try simp only [Act.put, List.setIfInBounds_toArray, List.set_cons_zero, List.set_cons_succ]
    refine wpAnyH_done (by kernel_rfl) ?_ _
    rotate_left
    go_simp
    refine (dictof_any 1 [nameV kRot, intV (-270)] [.int .i64 5, .int .i64 0, .string kRot, .slice none 0 0, .int .i64 2, .int .i64 (-270), .string ⟨#[]⟩, .slice none 0 0] (some ⟨bB, 0, none⟩) 2 2 _ ((Fit.single (Lies.leaf _ 1 5 0 kRot (by decide))).append (Fit.single (Lies.leaf _ 1 2 (-270) ⟨#[]⟩ (by decide)))) (row_of_block hBB) rfl (by decide)).mono ?_
    rintro e wh ⟨ce, rfl, hT2, hP, _⟩
    rw [gv_dict] at hT2
    have hL2 := hT2.lies hP
    obtain ⟨a2, c2, _, hce, _⟩ := hL2.kids
    subst hce
    clear hT2 hBB
    have hPw := hPw.pure hP
    have hL1 := hL1.pure hP
    try have hBP := hBP.ext hP id
    try have hBO := hBO.ext hP id
    refine hK.out _ _ (hP.mono (fun _ _ e => e.elim)) (fun hHeld => ?_)
    clear hK K hHeld
    refine region_now (hP.mono (fun _ _ e => e.elim)) ?_
    try simp only [Act.put, List.setIfInBounds_toArray, List.set_cons_zero, List.set_cons_succ]
    refine wpAnyH_ready (rs := [5]) (by kernel_rfl) (by simp) (AllReadyH.cons rfl (fun K hK => ?_) AllReadyH.nil)
    refine step_of_list ?_
    refine wpList_slice_new rfl 45 69 1 #[(0, .tmp 20)] rfl Try.underlying45 [.int .i64 7, .int .i64 0, .string ⟨#[]⟩, .slice a1 2 c1, .bool false, .string ⟨#[]⟩] (by kernel_rfl) ?_
    intro bO wd hBO hP
    have hPw := hPw.pure hP
    try have hBP := hBP.ext hP id
    try have hBB := hBB.ext hP id
    try have hL2 := hL2.pure hP
    have hL1 := hL1.pure hP
    refine hK.out _ _ (hP.mono (fun _ _ e => e.elim)) (fun hHeld => ?_)
    clear hK K hHeld
    refine region_now (hP.mono (fun _ _ e => e.elim)) ?_
    try simp only [Act.put, List.setIfInBounds_toArray, List.set_cons_zero, List.set_cons_succ]
    refine region_take 10 26 (v := ?vwkq0q0q0q1q1q2q1q110) rfl rfl (by kernel_rfl) (by kernel_rfl) (by kernel_rfl) (fun _ _ _ h => h) (by rfl) (fun w' hS => ?hwkq0q0q0q1q1q2q1q110) ?rwkq0q0q0q1q1q2q1q110
    case hwkq0q0q0q1q1q2q1q110 => go_simp; with_reducible rfl
    try simp only [Act.put, List.setIfInBounds_toArray, List.set_cons_zero, List.set_cons_succ]
    refine wpAnyH_ready (rs := [12]) (by kernel_rfl) (by simp) (AllReadyH.cons rfl (fun K hK => ?_) AllReadyH.nil)
    refine step_of_list ?_
    refine wpList_store_mid rfl 47 (.tmp 2) (.tmp 26) rfl bP 0 #[.slice (some ⟨bO, 0, none⟩) 1 1, .int .i64 7, .int .i64 0, .string ⟨#[]⟩, .slice a2 2 c2] rfl rfl (hBP.there 5 rfl) (by exact size47) (one5 _ _ _ _ _ _ _ _ _) ?_
    refine hK.out _ _ (Ext.setCells _ 0 _ (Ext.refl _ _) (fun _ => hbP2.out)) (fun hHeld => ?_)
    clear hK K hHeld
    refine region_now (Ext.setCells _ 0 _ (Ext.refl _ _) (fun _ => hbP2.out)) ?_
    try simp only [Act.put, List.setIfInBounds_toArray, List.set_cons_zero, List.set_cons_succ]
    refine wpAnyH_done (by kernel_rfl) ?_ _
    rotate_left
    refine step_of_list ?_
    refine wpList_alloc_new rfl 47 [.slice none 0 0, .int .i64 0, .int .i64 0, .string ⟨#[]⟩, .slice none 0 0] (run_alloc47 rfl _) ?_
    intro bP wi hBP hP hbP
    have hbP2 := Lib.hid (Nat.le_trans hPw.size hbP)
    clear hbP
    try have hBm := hBm.ext hP id
    try have hLm := hLm.pure hP
    have hPw := hPw.pure hP
    try have hBA := hBA.ext hP id
    try have hBO := hBO.ext hP id
    try have hBB := hBB.ext hP id
    try have hL1 := hL1.pure hP
    try have hL2 := hL2.pure hP
    refine hK.out _ _ (hP.mono (fun _ _ e => e.elim)) (fun hHeld => ?_)
    clear hK K hHeld
    refine region_now (hP.mono (fun _ _ e => e.elim)) ?_
    try simp only [Act.put, List.setIfInBounds_toArray, List.set_cons_zero, List.set_cons_succ]
    refine wpAnyH_ready (rs := [5, 7]) (by kernel_rfl) (by simp) (AllReadyH.cons rfl (fun K hK => ?_) (AllReadyH.cons rfl (fun K hK => ?_) (AllReadyH.nil)))
    refine step_of_list ?_
    refine wpList_slice_new rfl 45 69 1 #[(0, .tmp 20)] rfl Try.underlying45 [.int .i64 7, .int .i64 0, .string ⟨#[]⟩, .slice a1 2 c1, .bool false, .string ⟨#[]⟩] (by kernel_rfl) ?_
    intro bO wd hBO hP
    have hPw := hPw.pure hP
    try have hBP := hBP.ext hP id
    try have hBB := hBB.ext hP id
    try have hL2 := hL2.pure hP
    have hL1 := hL1.pure hP
    refine hK.out _ _ (hP.mono (fun _ _ e => e.elim)) (fun hHeld => ?_)
    clear hK K hHeld
    refine region_now (hP.mono (fun _ _ e => e.elim)) ?_
    try simp only [Act.put, List.setIfInBounds_toArray, List.set_cons_zero, List.set_cons_succ]
    refine wpAnyH_ready (rs := [7]) (by kernel_rfl) (by simp) (AllReadyH.cons rfl (fun K hK => ?_) AllReadyH.nil)
    go_simp
    refine (int_any (-270) _).mono ?_
    rintro e wf ⟨rfl, hP⟩
    have hPw := hPw.pure hP
    try have hBA := hBA.ext hP id
    try have hBO := hBO.ext hP id
    try have hBB := hBB.ext hP id
    try have hBP := hBP.ext hP id
    try have hL1 := hL1.pure hP
    try have hL2 := hL2.pure hP
    refine hK.out _ _ (hP.mono (fun _ _ e => e.elim)) (fun hHeld => ?_)
    clear hK K hHeld
    refine region_now (hP.mono (fun _ _ e => e.elim)) ?_
    try simp only [Act.put, List.setIfInBounds_toArray, List.set_cons_zero, List.set_cons_succ]
    refine wpAnyH_ready (rs := [8]) (by kernel_rfl) (by simp) (AllReadyH.cons rfl (fun K hK => ?_) AllReadyH.nil)
    refine step_of_list ?_
    refine wpList_slice_new rfl 22 24 2 #[(0, .tmp 22), (1, .tmp 23)] rfl Try.underlying22 [.int .i64 5, .int .i64 0, .string kRot, .slice none 0 0, .int .i64 2, .int .i64 (-270), .string ⟨#[]⟩, .slice none 0 0] (by kernel_rfl) ?_
    intro bB wg hBB hP
    have hPw := hPw.pure hP
    have hL1 := hL1.pure hP
    try have hBP := hBP.ext hP id
    try have hBO := hBO.ext hP id
    refine hK.out _ _ (hP.mono (fun _ _ e => e.elim)) (fun hHeld => ?_)
    clear hK K hHeld
    refine region_now (hP.mono (fun _ _ e => e.elim)) ?_
    try simp only [Act.put, List.setIfInBounds_toArray, List.set_cons_zero, List.set_cons_succ]
    refine wpAnyH_ready (rs := [9]) (by kernel_rfl) (by simp) (AllReadyH.cons rfl (fun K hK => ?_) AllReadyH.nil)
    go_simp
    refine (dictof_any 1 [nameV kRot, intV (-270)] [.int .i64 5, .int .i64 0, .string kRot, .slice none 0 0, .int .i64 2, .int .i64 (-270), .string ⟨#[]⟩, .slice none 0 0] (some ⟨bB, 0, none⟩) 2 2 _ ((Fit.single (Lies.leaf _ 1 5 0 kRot (by decide))).append (Fit.single (Lies.leaf _ 1 2 (-270) ⟨#[]⟩ (by decide)))) (row_of_block hBB) rfl (by decide)).mono ?_
    rintro e wh ⟨ce, rfl, hT2, hP, _⟩
    rw [gv_dict] at hT2
    have hL2 := hT2.lies hP
    obtain ⟨a2, c2, _, hce, _⟩ := hL2.kids
    subst hce
    clear hT2 hBB
    have hPw := hPw.pure hP
    have hL1 := hL1.pure hP
    try have hBP := hBP.ext hP id
    try have hBO := hBO.ext hP id
    refine hK.out _ _ (hP.mono (fun _ _ e => e.elim)) (fun hHeld => ?_)
    clear hK K hHeld
    refine region_now (hP.mono (fun _ _ e => e.elim)) ?_
    try simp only [Act.put, List.setIfInBounds_toArray, List.set_cons_zero, List.set_cons_succ]
    refine region_take 10 26 (v := ?vwkq0q0q0q1q2q010) rfl rfl (by kernel_rfl) (by kernel_rfl) (by kernel_rfl) (fun _ _ _ h => h) (by rfl) (fun w' hS => ?hwkq0q0q0q1q2q010) ?rwkq0q0q0q1q2q010
    case hwkq0q0q0q1q2q010 => go_simp; with_reducible rfl
    try simp only [Act.put, List.setIfInBounds_toArray, List.set_cons_zero, List.set_cons_succ]
    refine wpAnyH_ready (rs := [12]) (by kernel_rfl) (by simp) (AllReadyH.cons rfl (fun K hK => ?_) AllReadyH.nil)
    refine step_of_list ?_
    refine wpList_store_mid rfl 47 (.tmp 2) (.tmp 26) rfl bP 0 #[.slice (some ⟨bO, 0, none⟩) 1 1, .int .i64 7, .int .i64 0, .string ⟨#[]⟩, .slice a2 2 c2] rfl rfl (hBP.there 5 rfl) (by exact size47) (one5 _ _ _ _ _ _ _ _ _) ?_
    refine hK.out _ _ (Ext.setCells _ 0 _ (Ext.refl _ _) (fun _ => hbP2.out)) (fun hHeld => ?_)
    clear hK K hHeld
    refine region_now (Ext.setCells _ 0 _ (Ext.refl _ _) (fun _ => hbP2.out)) ?_
    try simp only [Act.put, List.setIfInBounds_toArray, List.set_cons_zero, List.set_cons_succ]
    refine wpAnyH_done (by kernel_rfl) ?_ _
    rotate_left
    go_simp
    refine (int_any (-270) _).mono ?_
    rintro e wf ⟨rfl, hP⟩
    have hPw := hPw.pure hP
    try have hBA := hBA.ext hP id
    try have hBO := hBO.ext hP id
    try have hBB := hBB.ext hP id
    try have hBP := hBP.ext hP id
    try have hL1 := hL1.pure hP
    try have hL2 := hL2.pure hP
    refine hK.out _ _ (hP.mono (fun _ _ e => e.elim)) (fun hHeld => ?_)
    clear hK K hHeld
    refine region_now (hP.mono (fun _ _ e => e.elim)) ?_
    try simp only [Act.put, List.setIfInBounds_toArray, List.set_cons_zero, List.set_cons_succ]
    refine wpAnyH_ready (rs := [5, 8]) (by kernel_rfl) (by simp) (AllReadyH.cons rfl (fun K hK => ?_) (AllReadyH.cons rfl (fun K hK => ?_) (AllReadyH.nil)))
    refine step_of_list ?_
    refine wpList_slice_new rfl 45 69 1 #[(0, .tmp 20)] rfl Try.underlying45 [.int .i64 7, .int .i64 0, .string ⟨#[]⟩, .slice a1 2 c1, .bool false, .string ⟨#[]⟩] (by kernel_rfl) ?_
    intro bO wd hBO hP
    have hPw := hPw.pure hP
    try have hBP := hBP.ext hP id
    try have hBB := hBB.ext hP id
    try have hL2 := hL2.pure hP
    have hL1 := hL1.pure hP
    refine hK.out _ _ (hP.mono (fun _ _ e => e.elim)) (fun hHeld => ?_)
    clear hK K hHeld
    refine region_now (hP.mono (fun _ _ e => e.elim)) ?_
    try simp only [Act.put, List.setIfInBounds_toArray, List.set_cons_zero, List.set_cons_succ]
    refine wpAnyH_ready (rs := [8]) (by kernel_rfl) (by simp) (AllReadyH.cons rfl (fun K hK => ?_) AllReadyH.nil)
    refine step_of_list ?_
    refine wpList_slice_new rfl 22 24 2 #[(0, .tmp 22), (1, .tmp 23)] rfl Try.underlying22 [.int .i64 5, .int .i64 0, .string kRot, .slice none 0 0, .int .i64 2, .int .i64 (-270), .string ⟨#[]⟩, .slice none 0 0] (by kernel_rfl) ?_
    intro bB wg hBB hP
    have hPw := hPw.pure hP
    have hL1 := hL1.pure hP
    try have hBP := hBP.ext hP id
    try have hBO := hBO.ext hP id
    refine hK.out _ _ (hP.mono (fun _ _ e => e.elim)) (fun hHeld => ?_)
    clear hK K hHeld
    refine region_now (hP.mono (fun _ _ e => e.elim)) ?_
    try simp only [Act.put, List.setIfInBounds_toArray, List.set_cons_zero, List.set_cons_succ]
    refine wpAnyH_ready (rs := [9]) (by kernel_rfl) (by simp) (AllReadyH.cons rfl (fun K hK => ?_) AllReadyH.nil)
    go_simp
    refine (dictof_any 1 [nameV kRot, intV (-270)] [.int .i64 5, .int .i64 0, .string kRot, .slice none 0 0, .int .i64 2, .int .i64 (-270), .string ⟨#[]⟩, .slice none 0 0] (some ⟨bB, 0, none⟩) 2 2 _ ((Fit.single (Lies.leaf _ 1 5 0 kRot (by decide))).append (Fit.single (Lies.leaf _ 1 2 (-270) ⟨#[]⟩ (by decide)))) (row_of_block hBB) rfl (by decide)).mono ?_
    rintro e wh ⟨ce, rfl, hT2, hP, _⟩
    rw [gv_dict] at hT2
    have hL2 := hT2.lies hP
    obtain ⟨a2, c2, _, hce, _⟩ := hL2.kids
    subst hce
    clear hT2 hBB
    have hPw := hPw.pure hP
    have hL1 := hL1.pure hP
    try have hBP := hBP.ext hP id
    try have hBO := hBO.ext hP id
    refine hK.out _ _ (hP.mono (fun _ _ e => e.elim)) (fun hHeld => ?_)
    clear hK K hHeld
    refine region_now (hP.mono (fun _ _ e => e.elim)) ?_
    try simp only [Act.put, List.setIfInBounds_toArray, List.set_cons_zero, List.set_cons_succ]
    refine region_take 10 26 (v := ?vwkq0q0q0q1q2q1q010) rfl rfl (by kernel_rfl) (by kernel_rfl) (by kernel_rfl) (fun _ _ _ h => h) (by rfl) (fun w' hS => ?hwkq0q0q0q1q2q1q010) ?rwkq0q0q0q1q2q1q010
    case hwkq0q0q0q1q2q1q010 => go_simp; with_reducible rfl
    try simp only [Act.put, List.setIfInBounds_toArray, List.set_cons_zero, List.set_cons_succ]
    refine wpAnyH_ready (rs := [12]) (by kernel_rfl) (by simp) (AllReadyH.cons rfl (fun K hK => ?_) AllReadyH.nil)
    refine step_of_list ?_
    refine wpList_store_mid rfl 47 (.tmp 2) (.tmp 26) rfl bP 0 #[.slice (some ⟨bO, 0, none⟩) 1 1, .int .i64 7, .int .i64 0, .string ⟨#[]⟩, .slice a2 2 c2] rfl rfl (hBP.there 5 rfl) (by exact size47) (one5 _ _ _ _ _ _ _ _ _) ?_
    refine hK.out _ _ (Ext.setCells _ 0 _ (Ext.refl _ _) (fun _ => hbP2.out)) (fun hHeld => ?_)
    clear hK K hHeld
    refine region_now (Ext.setCells _ 0 _ (Ext.refl _ _) (fun _ => hbP2.out)) ?_
    try simp only [Act.put, List.setIfInBounds_toArray, List.set_cons_zero, List.set_cons_succ]
    refine wpAnyH_done (by kernel_rfl) ?_ _
    rotate_left
    refine step_of_list ?_
    refine wpList_slice_new rfl 22 24 2 #[(0, .tmp 22), (1, .tmp 23)] rfl Try.underlying22 [.int .i64 5, .int .i64 0, .string kRot, .slice none 0 0, .int .i64 2, .int .i64 (-270), .string ⟨#[]⟩, .slice none 0 0] (by kernel_rfl) ?_
    intro bB wg hBB hP
    have hPw := hPw.pure hP
    have hL1 := hL1.pure hP
    try have hBP := hBP.ext hP id
    try have hBO := hBO.ext hP id
    refine hK.out _ _ (hP.mono (fun _ _ e => e.elim)) (fun hHeld => ?_)
    clear hK K hHeld
    refine region_now (hP.mono (fun _ _ e => e.elim)) ?_
    try simp only [Act.put, List.setIfInBounds_toArray, List.set_cons_zero, List.set_cons_succ]
    refine wpAnyH_ready (rs := [5, 9]) (by kernel_rfl) (by simp) (AllReadyH.cons rfl (fun K hK => ?_) (AllReadyH.cons rfl (fun K hK => ?_) (AllReadyH.nil)))
    refine step_of_list ?_
    refine wpList_slice_new rfl 45 69 1 #[(0, .tmp 20)] rfl Try.underlying45 [.int .i64 7, .int .i64 0, .string ⟨#[]⟩, .slice a1 2 c1, .bool false, .string ⟨#[]⟩] (by kernel_rfl) ?_
    intro bO wd hBO hP
    have hPw := hPw.pure hP
    try have hBP := hBP.ext hP id
    try have hBB := hBB.ext hP id
    try have hL2 := hL2.pure hP
    have hL1 := hL1.pure hP
    refine hK.out _ _ (hP.mono (fun _ _ e => e.elim)) (fun hHeld => ?_)
    clear hK K hHeld
    refine region_now (hP.mono (fun _ _ e => e.elim)) ?_
    try simp only [Act.put, List.setIfInBounds_toArray, List.set_cons_zero, List.set_cons_succ]
    refine wpAnyH_ready (rs := [9]) (by kernel_rfl) (by simp) (AllReadyH.cons rfl (fun K hK => ?_) AllReadyH.nil)
    go_simp
    refine (dictof_any 1 [nameV kRot, intV (-270)] [.int .i64 5, .int .i64 0, .string kRot, .slice none 0 0, .int .i64 2, .int .i64 (-270), .string ⟨#[]⟩, .slice none 0 0] (some ⟨bB, 0, none⟩) 2 2 _ ((Fit.single (Lies.leaf _ 1 5 0 kRot (by decide))).append (Fit.single (Lies.leaf _ 1 2 (-270) ⟨#[]⟩ (by decide)))) (row_of_block hBB) rfl (by decide)).mono ?_
    rintro e wh ⟨ce, rfl, hT2, hP, _⟩
    rw [gv_dict] at hT2
    have hL2 := hT2.lies hP
    obtain ⟨a2, c2, _, hce, _⟩ := hL2.kids
    subst hce
    clear hT2 hBB
    have hPw := hPw.pure hP
    have hL1 := hL1.pure hP
    try have hBP := hBP.ext hP id
    try have hBO := hBO.ext hP id
    refine hK.out _ _ (hP.mono (fun _ _ e => e.elim)) (fun hHeld => ?_)
    clear hK K hHeld
    refine region_now (hP.mono (fun _ _ e => e.elim)) ?_
    try simp only [Act.put, List.setIfInBounds_toArray, List.set_cons_zero, List.set_cons_succ]
    refine region_take 10 26 (v := ?vwkq0q0q0q1q2q1q1q010) rfl rfl (by kernel_rfl) (by kernel_rfl) (by kernel_rfl) (fun _ _ _ h => h) (by rfl) (fun w' hS => ?hwkq0q0q0q1q2q1q1q010) ?rwkq0q0q0q1q2q1q1q010
    case hwkq0q0q0q1q2q1q1q010 => go_simp; with_reducible rfl
    try simp only [Act.put, List.setIfInBounds_toArray, List.set_cons_zero, List.set_cons_succ]
    refine wpAnyH_ready (rs := [12]) (by kernel_rfl) (by simp) (AllReadyH.cons rfl (fun K hK => ?_) AllReadyH.nil)
    refine step_of_list ?_
    refine wpList_store_mid rfl 47 (.tmp 2) (.tmp 26) rfl bP 0 #[.slice (some ⟨bO, 0, none⟩) 1 1, .int .i64 7, .int .i64 0, .string ⟨#[]⟩, .slice a2 2 c2] rfl rfl (hBP.there 5 rfl) (by exact size47) (one5 _ _ _ _ _ _ _ _ _) ?_
    refine hK.out _ _ (Ext.setCells _ 0 _ (Ext.refl _ _) (fun _ => hbP2.out)) (fun hHeld => ?_)
    clear hK K hHeld
    refine region_now (Ext.setCells _ 0 _ (Ext.refl _ _) (fun _ => hbP2.out)) ?_
    try simp only [Act.put, List.setIfInBounds_toArray, List.set_cons_zero, List.set_cons_succ]
    refine wpAnyH_done (by kernel_rfl) ?_ _
    rotate_left
    go_simp
    refine (dictof_any 1 [nameV kRot, intV (-270)] [.int .i64 5, .int .i64 0, .string kRot, .slice none 0 0, .int .i64 2, .int .i64 (-270), .string ⟨#[]⟩, .slice none 0 0] (some ⟨bB, 0, none⟩) 2 2 _ ((Fit.single (Lies.leaf _ 1 5 0 kRot (by decide))).append (Fit.single (Lies.leaf _ 1 2 (-270) ⟨#[]⟩ (by decide)))) (row_of_block hBB) rfl (by decide)).mono ?_
    rintro e wh ⟨ce, rfl, hT2, hP, _⟩
    rw [gv_dict] at hT2
    have hL2 := hT2.lies hP
    obtain ⟨a2, c2, _, hce, _⟩ := hL2.kids
    subst hce
    clear hT2 hBB
    have hPw := hPw.pure hP
    have hL1 := hL1.pure hP
    try have hBP := hBP.ext hP id
    try have hBO := hBO.ext hP id
    refine hK.out _ _ (hP.mono (fun _ _ e => e.elim)) (fun hHeld => ?_)
    clear hK K hHeld
    refine region_now (hP.mono (fun _ _ e => e.elim)) ?_
    try simp only [Act.put, List.setIfInBounds_toArray, List.set_cons_zero, List.set_cons_succ]
    refine wpAnyH_ready (rs := [5]) (by kernel_rfl) (by simp) (AllReadyH.cons rfl (fun K hK => ?_) AllReadyH.nil)
    refine step_of_list ?_
    refine wpList_slice_new rfl 45 69 1 #[(0, .tmp 20)] rfl Try.underlying45 [.int .i64 7, .int .i64 0, .string ⟨#[]⟩, .slice a1 2 c1, .bool false, .string ⟨#[]⟩] (by kernel_rfl) ?_
    intro bO wd hBO hP
    have hPw := hPw.pure hP
    try have hBP := hBP.ext hP id
    try have hBB := hBB.ext hP id
    try have hL2 := hL2.pure hP
    have hL1 := hL1.pure hP
    refine hK.out _ _ (hP.mono (fun _ _ e => e.elim)) (fun hHeld => ?_)
    clear hK K hHeld
    refine region_now (hP.mono (fun _ _ e => e.elim)) ?_
    try simp only [Act.put, List.setIfInBounds_toArray, List.set_cons_zero, List.set_cons_succ]
    refine region_take 10 26 (v := ?vwkq0q0q0q1q2q1q1q110) rfl rfl (by kernel_rfl) (by kernel_rfl) (by kernel_rfl) (fun _ _ _ h => h) (by rfl) (fun w' hS => ?hwkq0q0q0q1q2q1q1q110) ?rwkq0q0q0q1q2q1q1q110
    case hwkq0q0q0q1q2q1q1q110 => go_simp; with_reducible rfl
    try simp only [Act.put, List.setIfInBounds_toArray, List.set_cons_zero, List.set_cons_succ]
    refine wpAnyH_ready (rs := [12]) (by kernel_rfl) (by simp) (AllReadyH.cons rfl (fun K hK => ?_) AllReadyH.nil)
    refine step_of_list ?_
    refine wpList_store_mid rfl 47 (.tmp 2) (.tmp 26) rfl bP 0 #[.slice (some ⟨bO, 0, none⟩) 1 1, .int .i64 7, .int .i64 0, .string ⟨#[]⟩, .slice a2 2 c2] rfl rfl (hBP.there 5 rfl) (by exact size47) (one5 _ _ _ _ _ _ _ _ _) ?_
    refine hK.out _ _ (Ext.setCells _ 0 _ (Ext.refl _ _) (fun _ => hbP2.out)) (fun hHeld => ?_)
    clear hK K hHeld
    refine region_now (Ext.setCells _ 0 _ (Ext.refl _ _) (fun _ => hbP2.out)) ?_
    try simp only [Act.put, List.setIfInBounds_toArray, List.set_cons_zero, List.set_cons_succ]
    refine wpAnyH_done (by kernel_rfl) ?_ _
    rotate_left
    refine step_of_list ?_
    refine wpList_alloc_new rfl 47 [.slice none 0 0, .int .i64 0, .int .i64 0, .string ⟨#[]⟩, .slice none 0 0] (run_alloc47 rfl _) ?_
    intro bP wi hBP hP hbP
    have hbP2 := Lib.hid (Nat.le_trans hPw.size hbP)
    clear hbP
    try have hBm := hBm.ext hP id
    try have hLm := hLm.pure hP
    have hPw := hPw.pure hP
    try have hBA := hBA.ext hP id
    try have hBO := hBO.ext hP id
    try have hBB := hBB.ext hP id
    try have hL1 := hL1.pure hP
    try have hL2 := hL2.pure hP
    refine hK.out _ _ (hP.mono (fun _ _ e => e.elim)) (fun hHeld => ?_)
    clear hK K hHeld
    refine region_now (hP.mono (fun _ _ e => e.elim)) ?_
    try simp only [Act.put, List.setIfInBounds_toArray, List.set_cons_zero, List.set_cons_succ]
    refine wpAnyH_ready (rs := [5, 6]) (by kernel_rfl) (by simp) (AllReadyH.cons rfl (fun K hK => ?_) (AllReadyH.cons rfl (fun K hK => ?_) (AllReadyH.nil)))
    refine step_of_list ?_
    refine wpList_slice_new rfl 45 69 1 #[(0, .tmp 20)] rfl Try.underlying45 [.int .i64 7, .int .i64 0, .string ⟨#[]⟩, .slice a1 2 c1, .bool false, .string ⟨#[]⟩] (by kernel_rfl) ?_
    intro bO wd hBO hP
    have hPw := hPw.pure hP
    try have hBP := hBP.ext hP id
    try have hBB := hBB.ext hP id
    try have hL2 := hL2.pure hP
    have hL1 := hL1.pure hP
    refine hK.out _ _ (hP.mono (fun _ _ e => e.elim)) (fun hHeld => ?_)
    clear hK K hHeld
    refine region_now (hP.mono (fun _ _ e => e.elim)) ?_
    try simp only [Act.put, List.setIfInBounds_toArray, List.set_cons_zero, List.set_cons_succ]
    refine wpAnyH_ready (rs := [6]) (by kernel_rfl) (by simp) (AllReadyH.cons rfl (fun K hK => ?_) AllReadyH.nil)
    go_simp
    refine (name_any kRot _).mono ?_
    rintro e we ⟨rfl, hP⟩
    have hPw := hPw.pure hP
    try have hBA := hBA.ext hP id
    try have hBO := hBO.ext hP id
    try have hBB := hBB.ext hP id
    try have hBP := hBP.ext hP id
    try have hL1 := hL1.pure hP
    try have hL2 := hL2.pure hP
    refine hK.out _ _ (hP.mono (fun _ _ e => e.elim)) (fun hHeld => ?_)
    clear hK K hHeld
    refine region_now (hP.mono (fun _ _ e => e.elim)) ?_
    try simp only [Act.put, List.setIfInBounds_toArray, List.set_cons_zero, List.set_cons_succ]
    refine wpAnyH_ready (rs := [7]) (by kernel_rfl) (by simp) (AllReadyH.cons rfl (fun K hK => ?_) AllReadyH.nil)
    go_simp
    refine (int_any (-270) _).mono ?_
    rintro e wf ⟨rfl, hP⟩
    have hPw := hPw.pure hP
    try have hBA := hBA.ext hP id
    try have hBO := hBO.ext hP id
    try have hBB := hBB.ext hP id
    try have hBP := hBP.ext hP id
    try have hL1 := hL1.pure hP
    try have hL2 := hL2.pure hP
    refine hK.out _ _ (hP.mono (fun _ _ e => e.elim)) (fun hHeld => ?_)
    clear hK K hHeld
    refine region_now (hP.mono (fun _ _ e => e.elim)) ?_
    try simp only [Act.put, List.setIfInBounds_toArray, List.set_cons_zero, List.set_cons_succ]
    refine wpAnyH_ready (rs := [8]) (by kernel_rfl) (by simp) (AllReadyH.cons rfl (fun K hK => ?_) AllReadyH.nil)
    refine step_of_list ?_
    refine wpList_slice_new rfl 22 24 2 #[(0, .tmp 22), (1, .tmp 23)] rfl Try.underlying22 [.int .i64 5, .int .i64 0, .string kRot, .slice none 0 0, .int .i64 2, .int .i64 (-270), .string ⟨#[]⟩, .slice none 0 0] (by kernel_rfl) ?_
    intro bB wg hBB hP
    have hPw := hPw.pure hP
    have hL1 := hL1.pure hP
    try have hBP := hBP.ext hP id
    try have hBO := hBO.ext hP id
    refine hK.out _ _ (hP.mono (fun _ _ e => e.elim)) (fun hHeld => ?_)
    clear hK K hHeld
    refine region_now (hP.mono (fun _ _ e => e.elim)) ?_
    try simp only [Act.put, List.setIfInBounds_toArray, List.set_cons_zero, List.set_cons_succ]
    refine wpAnyH_ready (rs := [9]) (by kernel_rfl) (by simp) (AllReadyH.cons rfl (fun K hK => ?_) AllReadyH.nil)
    go_simp
    refine (dictof_any 1 [nameV kRot, intV (-270)] [.int .i64 5, .int .i64 0, .string kRot, .slice none 0 0, .int .i64 2, .int .i64 (-270), .string ⟨#[]⟩, .slice none 0 0] (some ⟨bB, 0, none⟩) 2 2 _ ((Fit.single (Lies.leaf _ 1 5 0 kRot (by decide))).append (Fit.single (Lies.leaf _ 1 2 (-270) ⟨#[]⟩ (by decide)))) (row_of_block hBB) rfl (by decide)).mono ?_
    rintro e wh ⟨ce, rfl, hT2, hP, _⟩
    rw [gv_dict] at hT2
    have hL2 := hT2.lies hP
    obtain ⟨a2, c2, _, hce, _⟩ := hL2.kids
    subst hce
    clear hT2 hBB
    have hPw := hPw.pure hP
    have hL1 := hL1.pure hP
    try have hBP := hBP.ext hP id
    try have hBO := hBO.ext hP id
    refine hK.out _ _ (hP.mono (fun _ _ e => e.elim)) (fun hHeld => ?_)
    clear hK K hHeld
    refine region_now (hP.mono (fun _ _ e => e.elim)) ?_
    try simp only [Act.put, List.setIfInBounds_toArray, List.set_cons_zero, List.set_cons_succ]
    refine region_take 10 26 (v := ?vwkq0q0q0q2q010) rfl rfl (by kernel_rfl) (by kernel_rfl) (by kernel_rfl) (fun _ _ _ h => h) (by rfl) (fun w' hS => ?hwkq0q0q0q2q010) ?rwkq0q0q0q2q010
    case hwkq0q0q0q2q010 => go_simp; with_reducible rfl
    try simp only [Act.put, List.setIfInBounds_toArray, List.set_cons_zero, List.set_cons_succ]
    refine wpAnyH_ready (rs := [12]) (by kernel_rfl) (by simp) (AllReadyH.cons rfl (fun K hK => ?_) AllReadyH.nil)
    refine step_of_list ?_
    refine wpList_store_mid rfl 47 (.tmp 2) (.tmp 26) rfl bP 0 #[.slice (some ⟨bO, 0, none⟩) 1 1, .int .i64 7, .int .i64 0, .string ⟨#[]⟩, .slice a2 2 c2] rfl rfl (hBP.there 5 rfl) (by exact size47) (one5 _ _ _ _ _ _ _ _ _) ?_
    refine hK.out _ _ (Ext.setCells _ 0 _ (Ext.refl _ _) (fun _ => hbP2.out)) (fun hHeld => ?_)
    clear hK K hHeld
    refine region_now (Ext.setCells _ 0 _ (Ext.refl _ _) (fun _ => hbP2.out)) ?_
    try simp only [Act.put, List.setIfInBounds_toArray, List.set_cons_zero, List.set_cons_succ]
    refine wpAnyH_done (by kernel_rfl) ?_ _
    rotate_left
    go_simp
    refine (name_any kRot _).mono ?_
    rintro e we ⟨rfl, hP⟩
    have hPw := hPw.pure hP
    try have hBA := hBA.ext hP id
    try have hBO := hBO.ext hP id
    try have hBB := hBB.ext hP id
    try have hBP := hBP.ext hP id
    try have hL1 := hL1.pure hP
    try have hL2 := hL2.pure hP
    refine hK.out _ _ (hP.mono (fun _ _ e => e.elim)) (fun hHeld => ?_)
    clear hK K hHeld
    refine region_now (hP.mono (fun _ _ e => e.elim)) ?_
    try simp only [Act.put, List.setIfInBounds_toArray, List.set_cons_zero, List.set_cons_succ]
    refine wpAnyH_ready (rs := [5, 7]) (by kernel_rfl) (by simp) (AllReadyH.cons rfl (fun K hK => ?_) (AllReadyH.cons rfl (fun K hK => ?_) (AllReadyH.nil)))
    refine step_of_list ?_
    refine wpList_slice_new rfl 45 69 1 #[(0, .tmp 20)] rfl Try.underlying45 [.int .i64 7, .int .i64 0, .string ⟨#[]⟩, .slice a1 2 c1, .bool false, .string ⟨#[]⟩] (by kernel_rfl) ?_
    intro bO wd hBO hP
    have hPw := hPw.pure hP
    try have hBP := hBP.ext hP id
    try have hBB := hBB.ext hP id
    try have hL2 := hL2.pure hP
    have hL1 := hL1.pure hP
    refine hK.out _ _ (hP.mono (fun _ _ e => e.elim)) (fun hHeld => ?_)
    clear hK K hHeld
    refine region_now (hP.mono (fun _ _ e => e.elim)) ?_
    try simp only [Act.put, List.setIfInBounds_toArray, List.set_cons_zero, List.set_cons_succ]
    refine wpAnyH_ready (rs := [7]) (by kernel_rfl) (by simp) (AllReadyH.cons rfl (fun K hK => ?_) AllReadyH.nil)
    go_simp
    refine (int_any (-270) _).mono ?_
    rintro e wf ⟨rfl, hP⟩
    have hPw := hPw.pure hP
    try have hBA := hBA.ext hP id
    try have hBO := hBO.ext hP id
    try have hBB := hBB.ext hP id
    try have hBP := hBP.ext hP id
    try have hL1 := hL1.pure hP
    try have hL2 := hL2.pure hP
    refine hK.out _ _ (hP.mono (fun _ _ e => e.elim)) (fun hHeld => ?_)
    clear hK K hHeld
    refine region_now (hP.mono (fun _ _ e => e.elim)) ?_
    try simp only [Act.put, List.setIfInBounds_toArray, List.set_cons_zero, List.set_cons_succ]
    refine wpAnyH_ready (rs := [8]) (by kernel_rfl) (by simp) (AllReadyH.cons rfl (fun K hK => ?_) AllReadyH.nil)
    refine step_of_list ?_
    refine wpList_slice_new rfl 22 24 2 #[(0, .tmp 22), (1, .tmp 23)] rfl Try.underlying22 [.int .i64 5, .int .i64 0, .string kRot, .slice none 0 0, .int .i64 2, .int .i64 (-270), .string ⟨#[]⟩, .slice none 0 0] (by kernel_rfl) ?_
    intro bB wg hBB hP
    have hPw := hPw.pure hP
    have hL1 := hL1.pure hP
    try have hBP := hBP.ext hP id
    try have hBO := hBO.ext hP id
    refine hK.out _ _ (hP.mono (fun _ _ e => e.elim)) (fun hHeld => ?_)
    clear hK K hHeld
    refine region_now (hP.mono (fun _ _ e => e.elim)) ?_
    try simp only [Act.put, List.setIfInBounds_toArray, List.set_cons_zero, List.set_cons_succ]
    refine wpAnyH_ready (rs := [9]) (by kernel_rfl) (by simp) (AllReadyH.cons rfl (fun K hK => ?_) AllReadyH.nil)
    go_simp
    refine (dictof_any 1 [nameV kRot, intV (-270)] [.int .i64 5, .int .i64 0, .string kRot, .slice none 0 0, .int .i64 2, .int .i64 (-270), .string ⟨#[]⟩, .slice none 0 0] (some ⟨bB, 0, none⟩) 2 2 _ ((Fit.single (Lies.leaf _ 1 5 0 kRot (by decide))).append (Fit.single (Lies.leaf _ 1 2 (-270) ⟨#[]⟩ (by decide)))) (row_of_block hBB) rfl (by decide)).mono ?_
    rintro e wh ⟨ce, rfl, hT2, hP, _⟩
    rw [gv_dict] at hT2
    have hL2 := hT2.lies hP
    obtain ⟨a2, c2, _, hce, _⟩ := hL2.kids
    subst hce
    clear hT2 hBB
    have hPw := hPw.pure hP
    have hL1 := hL1.pure hP
    try have hBP := hBP.ext hP id
    try have hBO := hBO.ext hP id
    refine hK.out _ _ (hP.mono (fun _ _ e => e.elim)) (fun hHeld => ?_)
    clear hK K hHeld
    refine region_now (hP.mono (fun _ _ e => e.elim)) ?_
    try simp only [Act.put, List.setIfInBounds_toArray, List.set_cons_zero, List.set_cons_succ]
    refine region_take 10 26 (v := ?vwkq0q0q0q2q1q010) rfl rfl (by kernel_rfl) (by kernel_rfl) (by kernel_rfl) (fun _ _ _ h => h) (by rfl) (fun w' hS => ?hwkq0q0q0q2q1q010) ?rwkq0q0q0q2q1q010
    case hwkq0q0q0q2q1q010 => go_simp; with_reducible rfl
    try simp only [Act.put, List.setIfInBounds_toArray, List.set_cons_zero, List.set_cons_succ]
    refine wpAnyH_ready (rs := [12]) (by kernel_rfl) (by simp) (AllReadyH.cons rfl (fun K hK => ?_) AllReadyH.nil)
    refine step_of_list ?_
    refine wpList_store_mid rfl 47 (.tmp 2) (.tmp 26) rfl bP 0 #[.slice (some ⟨bO, 0, none⟩) 1 1, .int .i64 7, .int .i64 0, .string ⟨#[]⟩, .slice a2 2 c2] rfl rfl (hBP.there 5 rfl) (by exact size47) (one5 _ _ _ _ _ _ _ _ _) ?_
    refine hK.out _ _ (Ext.setCells _ 0 _ (Ext.refl _ _) (fun _ => hbP2.out)) (fun hHeld => ?_)
    clear hK K hHeld
    refine region_now (Ext.setCells _ 0 _ (Ext.refl _ _) (fun _ => hbP2.out)) ?_
    try simp only [Act.put, List.setIfInBounds_toArray, List.set_cons_zero, List.set_cons_succ]
    refine wpAnyH_done (by kernel_rfl) ?_ _
    rotate_left
    go_simp
    refine (int_any (-270) _).mono ?_
    rintro e wf ⟨rfl, hP⟩
    have hPw := hPw.pure hP
    try have hBA := hBA.ext hP id
    try have hBO := hBO.ext hP id
    try have hBB := hBB.ext hP id
    try have hBP := hBP.ext hP id
    try have hL1 := hL1.pure hP
    try have hL2 := hL2.pure hP
    refine hK.out _ _ (hP.mono (fun _ _ e => e.elim)) (fun hHeld => ?_)
    clear hK K hHeld
    refine region_now (hP.mono (fun _ _ e => e.elim)) ?_
    try simp only [Act.put, List.setIfInBounds_toArray, List.set_cons_zero, List.set_cons_succ]
    refine wpAnyH_ready (rs := [5, 8]) (by kernel_rfl) (by simp) (AllReadyH.cons rfl (fun K hK => ?_) (AllReadyH.cons rfl (fun K hK => ?_) (AllReadyH.nil)))
    refine step_of_list ?_
    refine wpList_slice_new rfl 45 69 1 #[(0, .tmp 20)] rfl Try.underlying45 [.int .i64 7, .int .i64 0, .string ⟨#[]⟩, .slice a1 2 c1, .bool false, .string ⟨#[]⟩] (by kernel_rfl) ?_
    intro bO wd hBO hP
    have hPw := hPw.pure hP
    try have hBP := hBP.ext hP id
    try have hBB := hBB.ext hP id
    try have hL2 := hL2.pure hP
    have hL1 := hL1.pure hP
    refine hK.out _ _ (hP.mono (fun _ _ e => e.elim)) (fun hHeld => ?_)
    clear hK K hHeld
    refine region_now (hP.mono (fun _ _ e => e.elim)) ?_
    try simp only [Act.put, List.setIfInBounds_toArray, List.set_cons_zero, List.set_cons_succ]
    refine wpAnyH_ready (rs := [8]) (by kernel_rfl) (by simp) (AllReadyH.cons rfl (fun K hK => ?_) AllReadyH.nil)
    refine step_of_list ?_
    refine wpList_slice_new rfl 22 24 2 #[(0, .tmp 22), (1, .tmp 23)] rfl Try.underlying22 [.int .i64 5, .int .i64 0, .string kRot, .slice none 0 0, .int .i64 2, .int .i64 (-270), .string ⟨#[]⟩, .slice none 0 0] (by kernel_rfl) ?_
    intro bB wg hBB hP
    have hPw := hPw.pure hP
    have hL1 := hL1.pure hP
    try have hBP := hBP.ext hP id
    try have hBO := hBO.ext hP id
    refine hK.out _ _ (hP.mono (fun _ _ e => e.elim)) (fun hHeld => ?_)
    clear hK K hHeld
    refine region_now (hP.mono (fun _ _ e => e.elim)) ?_
    try simp only [Act.put, List.setIfInBounds_toArray, List.set_cons_zero, List.set_cons_succ]
    refine wpAnyH_ready (rs := [9]) (by kernel_rfl) (by simp) (AllReadyH.cons rfl (fun K hK => ?_) AllReadyH.nil)
    go_simp
    refine (dictof_any 1 [nameV kRot, intV (-270)] [.int .i64 5, .int .i64 0, .string kRot, .slice none 0 0, .int .i64 2, .int .i64 (-270), .string ⟨#[]⟩, .slice none 0 0] (some ⟨bB, 0, none⟩) 2 2 _ ((Fit.single (Lies.leaf _ 1 5 0 kRot (by decide))).append (Fit.single (Lies.leaf _ 1 2 (-270) ⟨#[]⟩ (by decide)))) (row_of_block hBB) rfl (by decide)).mono ?_
    rintro e wh ⟨ce, rfl, hT2, hP, _⟩
    rw [gv_dict] at hT2
    have hL2 := hT2.lies hP
    obtain ⟨a2, c2, _, hce, _⟩ := hL2.kids
    subst hce
    clear hT2 hBB
    have hPw := hPw.pure hP
    have hL1 := hL1.pure hP
    try have hBP := hBP.ext hP id
    try have hBO := hBO.ext hP id
    refine hK.out _ _ (hP.mono (fun _ _ e => e.elim)) (fun hHeld => ?_)
    clear hK K hHeld
    refine region_now (hP.mono (fun _ _ e => e.elim)) ?_
    try simp only [Act.put, List.setIfInBounds_toArray, List.set_cons_zero, List.set_cons_succ]
    refine region_take 10 26 (v := ?vwkq0q0q0q2q1q1q010) rfl rfl (by kernel_rfl) (by kernel_rfl) (by kernel_rfl) (fun _ _ _ h => h) (by rfl) (fun w' hS => ?hwkq0q0q0q2q1q1q010) ?rwkq0q0q0q2q1q1q010
    case hwkq0q0q0q2q1q1q010 => go_simp; with_reducible rfl
    try simp only [Act.put, List.setIfInBounds_toArray, List.set_cons_zero, List.set_cons_succ]
    refine wpAnyH_ready (rs := [12]) (by kernel_rfl) (by simp) (AllReadyH.cons rfl (fun K hK => ?_) AllReadyH.nil)
    refine step_of_list ?_
    refine wpList_store_mid rfl 47 (.tmp 2) (.tmp 26) rfl bP 0 #[.slice (some ⟨bO, 0, none⟩) 1 1, .int .i64 7, .int .i64 0, .string ⟨#[]⟩, .slice a2 2 c2] rfl rfl (hBP.there 5 rfl) (by exact size47) (one5 _ _ _ _ _ _ _ _ _) ?_
    refine hK.out _ _ (Ext.setCells _ 0 _ (Ext.refl _ _) (fun _ => hbP2.out)) (fun hHeld => ?_)
    clear hK K hHeld
    refine region_now (Ext.setCells _ 0 _ (Ext.refl _ _) (fun _ => hbP2.out)) ?_
    try simp only [Act.put, List.setIfInBounds_toArray, List.set_cons_zero, List.set_cons_succ]
    refine wpAnyH_done (by kernel_rfl) ?_ _
    rotate_left
    refine step_of_list ?_
    refine wpList_slice_new rfl 22 24 2 #[(0, .tmp 22), (1, .tmp 23)] rfl Try.underlying22 [.int .i64 5, .int .i64 0, .string kRot, .slice none 0 0, .int .i64 2, .int .i64 (-270), .string ⟨#[]⟩, .slice none 0 0] (by kernel_rfl) ?_
    intro bB wg hBB hP
    have hPw := hPw.pure hP
    have hL1 := hL1.pure hP
    try have hBP := hBP.ext hP id
    try have hBO := hBO.ext hP id
    refine hK.out _ _ (hP.mono (fun _ _ e => e.elim)) (fun hHeld => ?_)
    clear hK K hHeld
    refine region_now (hP.mono (fun _ _ e => e.elim)) ?_
    try simp only [Act.put, List.setIfInBounds_toArray, List.set_cons_zero, List.set_cons_succ]
    refine wpAnyH_ready (rs := [5, 9]) (by kernel_rfl) (by simp) (AllReadyH.cons rfl (fun K hK => ?_) (AllReadyH.cons rfl (fun K hK => ?_) (AllReadyH.nil)))
    refine step_of_list ?_
    refine wpList_slice_new rfl 45 69 1 #[(0, .tmp 20)] rfl Try.underlying45 [.int .i64 7, .int .i64 0, .string ⟨#[]⟩, .slice a1 2 c1, .bool false, .string ⟨#[]⟩] (by kernel_rfl) ?_
    intro bO wd hBO hP
    have hPw := hPw.pure hP
    try have hBP := hBP.ext hP id
    try have hBB := hBB.ext hP id
    try have hL2 := hL2.pure hP
    have hL1 := hL1.pure hP
    refine hK.out _ _ (hP.mono (fun _ _ e => e.elim)) (fun hHeld => ?_)
    clear hK K hHeld
    refine region_now (hP.mono (fun _ _ e => e.elim)) ?_
    try simp only [Act.put, List.setIfInBounds_toArray, List.set_cons_zero, List.set_cons_succ]
    refine wpAnyH_ready (rs := [9]) (by kernel_rfl) (by simp) (AllReadyH.cons rfl (fun K hK => ?_) AllReadyH.nil)
    go_simp
    refine (dictof_any 1 [nameV kRot, intV (-270)] [.int .i64 5, .int .i64 0, .string kRot, .slice none 0 0, .int .i64 2, .int .i64 (-270), .string ⟨#[]⟩, .slice none 0 0] (some ⟨bB, 0, none⟩) 2 2 _ ((Fit.single (Lies.leaf _ 1 5 0 kRot (by decide))).append (Fit.single (Lies.leaf _ 1 2 (-270) ⟨#[]⟩ (by decide)))) (row_of_block hBB) rfl (by decide)).mono ?_
    rintro e wh ⟨ce, rfl, hT2, hP, _⟩
    rw [gv_dict] at hT2
    have hL2 := hT2.lies hP
    obtain ⟨a2, c2, _, hce, _⟩ := hL2.kids
    subst hce
    clear hT2 hBB
    have hPw := hPw.pure hP
    have hL1 := hL1.pure hP
    try have hBP := hBP.ext hP id
    try have hBO := hBO.ext hP id
    refine hK.out _ _ (hP.mono (fun _ _ e => e.elim)) (fun hHeld => ?_)
    clear hK K hHeld
    refine region_now (hP.mono (fun _ _ e => e.elim)) ?_
    try simp only [Act.put, List.setIfInBounds_toArray, List.set_cons_zero, List.set_cons_succ]
    refine region_take 10 26 (v := ?vwkq0q0q0q2q1q1q1q010) rfl rfl (by kernel_rfl) (by kernel_rfl) (by kernel_rfl) (fun _ _ _ h => h) (by rfl) (fun w' hS => ?hwkq0q0q0q2q1q1q1q010) ?rwkq0q0q0q2q1q1q1q010
    case hwkq0q0q0q2q1q1q1q010 => go_simp; with_reducible rfl
    try simp only [Act.put, List.setIfInBounds_toArray, List.set_cons_zero, List.set_cons_succ]
    refine wpAnyH_ready (rs := [12]) (by kernel_rfl) (by simp) (AllReadyH.cons rfl (fun K hK => ?_) AllReadyH.nil)
    refine step_of_list ?_
    refine wpList_store_mid rfl 47 (.tmp 2) (.tmp 26) rfl bP 0 #[.slice (some ⟨bO, 0, none⟩) 1 1, .int .i64 7, .int .i64 0, .string ⟨#[]⟩, .slice a2 2 c2] rfl rfl (hBP.there 5 rfl) (by exact size47) (one5 _ _ _ _ _ _ _ _ _) ?_
    refine hK.out _ _ (Ext.setCells _ 0 _ (Ext.refl _ _) (fun _ => hbP2.out)) (fun hHeld => ?_)
    clear hK K hHeld
    refine region_now (Ext.setCells _ 0 _ (Ext.refl _ _) (fun _ => hbP2.out)) ?_
    try simp only [Act.put, List.setIfInBounds_toArray, List.set_cons_zero, List.set_cons_succ]
    refine wpAnyH_done (by kernel_rfl) ?_ _
    rotate_left
    go_simp
    refine (dictof_any 1 [nameV kRot, intV (-270)] [.int .i64 5, .int .i64 0, .string kRot, .slice none 0 0, .int .i64 2, .int .i64 (-270), .string ⟨#[]⟩, .slice none 0 0] (some ⟨bB, 0, none⟩) 2 2 _ ((Fit.single (Lies.leaf _ 1 5 0 kRot (by decide))).append (Fit.single (Lies.leaf _ 1 2 (-270) ⟨#[]⟩ (by decide)))) (row_of_block hBB) rfl (by decide)).mono ?_
    rintro e wh ⟨ce, rfl, hT2, hP, _⟩
    rw [gv_dict] at hT2
    have hL2 := hT2.lies hP
    obtain ⟨a2, c2, _, hce, _⟩ := hL2.kids
    subst hce
    clear hT2 hBB
    have hPw := hPw.pure hP
    have hL1 := hL1.pure hP
    try have hBP := hBP.ext hP id
    try have hBO := hBO.ext hP id
    refine hK.out _ _ (hP.mono (fun _ _ e => e.elim)) (fun hHeld => ?_)
    clear hK K hHeld
    refine region_now (hP.mono (fun _ _ e => e.elim)) ?_
    try simp only [Act.put, List.setIfInBounds_toArray, List.set_cons_zero, List.set_cons_succ]
    refine wpAnyH_ready (rs := [5]) (by kernel_rfl) (by simp) (AllReadyH.cons rfl (fun K hK => ?_) AllReadyH.nil)
    refine step_of_list ?_
    refine wpList_slice_new rfl 45 69 1 #[(0, .tmp 20)] rfl Try.underlying45 [.int .i64 7, .int .i64 0, .string ⟨#[]⟩, .slice a1 2 c1, .bool false, .string ⟨#[]⟩] (by kernel_rfl) ?_
    intro bO wd hBO hP
    have hPw := hPw.pure hP
    try have hBP := hBP.ext hP id
    try have hBB := hBB.ext hP id
    try have hL2 := hL2.pure hP
    have hL1 := hL1.pure hP
    refine hK.out _ _ (hP.mono (fun _ _ e => e.elim)) (fun hHeld => ?_)
    clear hK K hHeld
    refine region_now (hP.mono (fun _ _ e => e.elim)) ?_
    try simp only [Act.put, List.setIfInBounds_toArray, List.set_cons_zero, List.set_cons_succ]
    refine region_take 10 26 (v := ?vwkq0q0q0q2q1q1q1q110) rfl rfl (by kernel_rfl) (by kernel_rfl) (by kernel_rfl) (fun _ _ _ h => h) (by rfl) (fun w' hS => ?hwkq0q0q0q2q1q1q1q110) ?rwkq0q0q0q2q1q1q1q110
    case hwkq0q0q0q2q1q1q1q110 => go_simp; with_reducible rfl
    try simp only [Act.put, List.setIfInBounds_toArray, List.set_cons_zero, List.set_cons_succ]
    refine wpAnyH_ready (rs := [12]) (by kernel_rfl) (by simp) (AllReadyH.cons rfl (fun K hK => ?_) AllReadyH.nil)
    refine step_of_list ?_
    refine wpList_store_mid rfl 47 (.tmp 2) (.tmp 26) rfl bP 0 #[.slice (some ⟨bO, 0, none⟩) 1 1, .int .i64 7, .int .i64 0, .string ⟨#[]⟩, .slice a2 2 c2] rfl rfl (hBP.there 5 rfl) (by exact size47) (one5 _ _ _ _ _ _ _ _ _) ?_
    refine hK.out _ _ (Ext.setCells _ 0 _ (Ext.refl _ _) (fun _ => hbP2.out)) (fun hHeld => ?_)
    clear hK K hHeld
    refine region_now (Ext.setCells _ 0 _ (Ext.refl _ _) (fun _ => hbP2.out)) ?_
    try simp only [Act.put, List.setIfInBounds_toArray, List.set_cons_zero, List.set_cons_succ]
    refine wpAnyH_done (by kernel_rfl) ?_ _
    rotate_left
    refine step_of_list ?_
    refine wpList_alloc_new rfl 47 [.slice none 0 0, .int .i64 0, .int .i64 0, .string ⟨#[]⟩, .slice none 0 0] (run_alloc47 rfl _) ?_
    intro bP wi hBP hP hbP
    have hbP2 := Lib.hid (Nat.le_trans hPw.size hbP)
    clear hbP
    try have hBm := hBm.ext hP id
    try have hLm := hLm.pure hP
    have hPw := hPw.pure hP
    try have hBA := hBA.ext hP id
    try have hBO := hBO.ext hP id
    try have hBB := hBB.ext hP id
    try have hL1 := hL1.pure hP
    try have hL2 := hL2.pure hP
    refine hK.out _ _ (hP.mono (fun _ _ e => e.elim)) (fun hHeld => ?_)
    clear hK K hHeld
    refine region_now (hP.mono (fun _ _ e => e.elim)) ?_
    try simp only [Act.put, List.setIfInBounds_toArray, List.set_cons_zero, List.set_cons_succ]
    refine wpAnyH_ready (rs := [3]) (by kernel_rfl) (by simp) (AllReadyH.cons rfl (fun K hK => ?_) AllReadyH.nil)
    go_simp
    refine (dictof_any 1 [nameV kMedia, mediaV] [.int .i64 5, .int .i64 0, .string kMedia, .slice none 0 0, .int .i64 6, .int .i64 0, .string ⟨#[]⟩, .slice (some ⟨bl, 0, none⟩) 4 4] (some ⟨bA, 0, none⟩) 2 2 _ ((Fit.single (Lies.leaf _ 1 5 0 kMedia (by decide))).append (Fit.single hLm)) (row_of_block hBA) rfl (by decide)).mono ?_
    rintro e wc ⟨cd, rfl, hT1, hP, _⟩
    rw [pg_dict] at hT1
    have hL1 := hT1.lies hP
    obtain ⟨a1, c1, _, hcd, _⟩ := hL1.kids
    subst hcd
    clear hT1 hBA
    have hBm := hBm.ext hP id
    have hLm := hLm.pure hP
    have hPw := hPw.pure hP
    try have hBP := hBP.ext hP id
    refine hK.out _ _ (hP.mono (fun _ _ e => e.elim)) (fun hHeld => ?_)
    clear hK K hHeld
    refine region_now (hP.mono (fun _ _ e => e.elim)) ?_
    try simp only [Act.put, List.setIfInBounds_toArray, List.set_cons_zero, List.set_cons_succ]
    refine region_take 4 20 (v := ?vwkq0q0q14) rfl rfl (by kernel_rfl) (by kernel_rfl) (by kernel_rfl) (fun _ _ _ h => h) (by rfl) (fun w' hS => ?hwkq0q0q14) ?rwkq0q0q14
    case hwkq0q0q14 => go_simp; with_reducible rfl
    try simp only [Act.put, List.setIfInBounds_toArray, List.set_cons_zero, List.set_cons_succ]
    refine wpAnyH_ready (rs := [5, 6]) (by kernel_rfl) (by simp) (AllReadyH.cons rfl (fun K hK => ?_) (AllReadyH.cons rfl (fun K hK => ?_) (AllReadyH.nil)))
    refine step_of_list ?_
    refine wpList_slice_new rfl 45 69 1 #[(0, .tmp 20)] rfl Try.underlying45 [.int .i64 7, .int .i64 0, .string ⟨#[]⟩, .slice a1 2 c1, .bool false, .string ⟨#[]⟩] (by kernel_rfl) ?_
    intro bO wd hBO hP
    have hPw := hPw.pure hP
    try have hBP := hBP.ext hP id
    try have hBB := hBB.ext hP id
    try have hL2 := hL2.pure hP
    have hL1 := hL1.pure hP
    refine hK.out _ _ (hP.mono (fun _ _ e => e.elim)) (fun hHeld => ?_)
    clear hK K hHeld
    refine region_now (hP.mono (fun _ _ e => e.elim)) ?_
    try simp only [Act.put, List.setIfInBounds_toArray, List.set_cons_zero, List.set_cons_succ]
    refine wpAnyH_ready (rs := [6]) (by kernel_rfl) (by simp) (AllReadyH.cons rfl (fun K hK => ?_) AllReadyH.nil)
    go_simp
    refine (name_any kRot _).mono ?_
    rintro e we ⟨rfl, hP⟩
    have hPw := hPw.pure hP
    try have hBA := hBA.ext hP id
    try have hBO := hBO.ext hP id
    try have hBB := hBB.ext hP id
    try have hBP := hBP.ext hP id
    try have hL1 := hL1.pure hP
    try have hL2 := hL2.pure hP
    refine hK.out _ _ (hP.mono (fun _ _ e => e.elim)) (fun hHeld => ?_)
    clear hK K hHeld
    refine region_now (hP.mono (fun _ _ e => e.elim)) ?_
    try simp only [Act.put, List.setIfInBounds_toArray, List.set_cons_zero, List.set_cons_succ]
    refine wpAnyH_ready (rs := [7]) (by kernel_rfl) (by simp) (AllReadyH.cons rfl (fun K hK => ?_) AllReadyH.nil)
    go_simp
    refine (int_any (-270) _).mono ?_
    rintro e wf ⟨rfl, hP⟩
    have hPw := hPw.pure hP
    try have hBA := hBA.ext hP id
    try have hBO := hBO.ext hP id
    try have hBB := hBB.ext hP id
    try have hBP := hBP.ext hP id
    try have hL1 := hL1.pure hP
    try have hL2 := hL2.pure hP
    refine hK.out _ _ (hP.mono (fun _ _ e => e.elim)) (fun hHeld => ?_)
    clear hK K hHeld
    refine region_now (hP.mono (fun _ _ e => e.elim)) ?_
    try simp only [Act.put, List.setIfInBounds_toArray, List.set_cons_zero, List.set_cons_succ]
    refine wpAnyH_ready (rs := [8]) (by kernel_rfl) (by simp) (AllReadyH.cons rfl (fun K hK => ?_) AllReadyH.nil)
    refine step_of_list ?_
    refine wpList_slice_new rfl 22 24 2 #[(0, .tmp 22), (1, .tmp 23)] rfl Try.underlying22 [.int .i64 5, .int .i64 0, .string kRot, .slice none 0 0, .int .i64 2, .int .i64 (-270), .string ⟨#[]⟩, .slice none 0 0] (by kernel_rfl) ?_
    intro bB wg hBB hP
    have hPw := hPw.pure hP
    have hL1 := hL1.pure hP
    try have hBP := hBP.ext hP id
    try have hBO := hBO.ext hP id
    refine hK.out _ _ (hP.mono (fun _ _ e => e.elim)) (fun hHeld => ?_)
    clear hK K hHeld
    refine region_now (hP.mono (fun _ _ e => e.elim)) ?_
    try simp only [Act.put, List.setIfInBounds_toArray, List.set_cons_zero, List.set_cons_succ]
    refine wpAnyH_ready (rs := [9]) (by kernel_rfl) (by simp) (AllReadyH.cons rfl (fun K hK => ?_) AllReadyH.nil)
    go_simp
    refine (dictof_any 1 [nameV kRot, intV (-270)] [.int .i64 5, .int .i64 0, .string kRot, .slice none 0 0, .int .i64 2, .int .i64 (-270), .string ⟨#[]⟩, .slice none 0 0] (some ⟨bB, 0, none⟩) 2 2 _ ((Fit.single (Lies.leaf _ 1 5 0 kRot (by decide))).append (Fit.single (Lies.leaf _ 1 2 (-270) ⟨#[]⟩ (by decide)))) (row_of_block hBB) rfl (by decide)).mono ?_
    rintro e wh ⟨ce, rfl, hT2, hP, _⟩
    rw [gv_dict] at hT2
    have hL2 := hT2.lies hP
    obtain ⟨a2, c2, _, hce, _⟩ := hL2.kids
    subst hce
    clear hT2 hBB
    have hPw := hPw.pure hP
    have hL1 := hL1.pure hP
    try have hBP := hBP.ext hP id
    try have hBO := hBO.ext hP id
    refine hK.out _ _ (hP.mono (fun _ _ e => e.elim)) (fun hHeld => ?_)
    clear hK K hHeld
    refine region_now (hP.mono (fun _ _ e => e.elim)) ?_
    try simp only [Act.put, List.setIfInBounds_toArray, List.set_cons_zero, List.set_cons_succ]
    refine region_take 10 26 (v := ?vwkq0q0q1q010) rfl rfl (by kernel_rfl) (by kernel_rfl) (by kernel_rfl) (fun _ _ _ h => h) (by rfl) (fun w' hS => ?hwkq0q0q1q010) ?rwkq0q0q1q010
    case hwkq0q0q1q010 => go_simp; with_reducible rfl
    try simp only [Act.put, List.setIfInBounds_toArray, List.set_cons_zero, List.set_cons_succ]
    refine wpAnyH_ready (rs := [12]) (by kernel_rfl) (by simp) (AllReadyH.cons rfl (fun K hK => ?_) AllReadyH.nil)
    refine step_of_list ?_
    refine wpList_store_mid rfl 47 (.tmp 2) (.tmp 26) rfl bP 0 #[.slice (some ⟨bO, 0, none⟩) 1 1, .int .i64 7, .int .i64 0, .string ⟨#[]⟩, .slice a2 2 c2] rfl rfl (hBP.there 5 rfl) (by exact size47) (one5 _ _ _ _ _ _ _ _ _) ?_
    refine hK.out _ _ (Ext.setCells _ 0 _ (Ext.refl _ _) (fun _ => hbP2.out)) (fun hHeld => ?_)
    clear hK K hHeld
    refine region_now (Ext.setCells _ 0 _ (Ext.refl _ _) (fun _ => hbP2.out)) ?_
    try simp only [Act.put, List.setIfInBounds_toArray, List.set_cons_zero, List.set_cons_succ]
    refine wpAnyH_done (by kernel_rfl) ?_ _
    rotate_left
    go_simp
    refine (name_any kRot _).mono ?_
    rintro e we ⟨rfl, hP⟩
    have hPw := hPw.pure hP
    try have hBA := hBA.ext hP id
    try have hBO := hBO.ext hP id
    try have hBB := hBB.ext hP id
    try have hBP := hBP.ext hP id
    try have hL1 := hL1.pure hP
    try have hL2 := hL2.pure hP
    refine hK.out _ _ (hP.mono (fun _ _ e => e.elim)) (fun hHeld => ?_)
    clear hK K hHeld
    refine region_now (hP.mono (fun _ _ e => e.elim)) ?_
    try simp only [Act.put, List.setIfInBounds_toArray, List.set_cons_zero, List.set_cons_succ]
    refine wpAnyH_ready (rs := [5, 7]) (by kernel_rfl) (by simp) (AllReadyH.cons rfl (fun K hK => ?_) (AllReadyH.cons rfl (fun K hK => ?_) (AllReadyH.nil)))
    refine step_of_list ?_
    refine wpList_slice_new rfl 45 69 1 #[(0, .tmp 20)] rfl Try.underlying45 [.int .i64 7, .int .i64 0, .string ⟨#[]⟩, .slice a1 2 c1, .bool false, .string ⟨#[]⟩] (by kernel_rfl) ?_
    intro bO wd hBO hP
    have hPw := hPw.pure hP
    try have hBP := hBP.ext hP id
    try have hBB := hBB.ext hP id
    try have hL2 := hL2.pure hP
    have hL1 := hL1.pure hP
    refine hK.out _ _ (hP.mono (fun _ _ e => e.elim)) (fun hHeld => ?_)
    clear hK K hHeld
    refine region_now (hP.mono (fun _ _ e => e.elim)) ?_
    try simp only [Act.put, List.setIfInBounds_toArray, List.set_cons_zero, List.set_cons_succ]
    refine wpAnyH_ready (rs := [7]) (by kernel_rfl) (by simp) (AllReadyH.cons rfl (fun K hK => ?_) AllReadyH.nil)
    go_simp
    refine (int_any (-270) _).mono ?_
    rintro e wf ⟨rfl, hP⟩
    have hPw := hPw.pure hP
    try have hBA := hBA.ext hP id
    try have hBO := hBO.ext hP id
    try have hBB := hBB.ext hP id
    try have hBP := hBP.ext hP id
    try have hL1 := hL1.pure hP
    try have hL2 := hL2.pure hP
    refine hK.out _ _ (hP.mono (fun _ _ e => e.elim)) (fun hHeld => ?_)
    clear hK K hHeld
    refine region_now (hP.mono (fun _ _ e => e.elim)) ?_
    try simp only [Act.put, List.setIfInBounds_toArray, List.set_cons_zero, List.set_cons_succ]
    refine wpAnyH_ready (rs := [8]) (by kernel_rfl) (by simp) (AllReadyH.cons rfl (fun K hK => ?_) AllReadyH.nil)
    refine step_of_list ?_
    refine wpList_slice_new rfl 22 24 2 #[(0, .tmp 22), (1, .tmp 23)] rfl Try.underlying22 [.int .i64 5, .int .i64 0, .string kRot, .slice none 0 0, .int .i64 2, .int .i64 (-270), .string ⟨#[]⟩, .slice none 0 0] (by kernel_rfl) ?_
    intro bB wg hBB hP
    have hPw := hPw.pure hP
    have hL1 := hL1.pure hP
    try have hBP := hBP.ext hP id
    try have hBO := hBO.ext hP id
    refine hK.out _ _ (hP.mono (fun _ _ e => e.elim)) (fun hHeld => ?_)
    clear hK K hHeld
    refine region_now (hP.mono (fun _ _ e => e.elim)) ?_
    try simp only [Act.put, List.setIfInBounds_toArray, List.set_cons_zero, List.set_cons_succ]
    refine wpAnyH_ready (rs := [9]) (by kernel_rfl) (by simp) (AllReadyH.cons rfl (fun K hK => ?_) AllReadyH.nil)
    go_simp
    refine (dictof_any 1 [nameV kRot, intV (-270)] [.int .i64 5, .int .i64 0, .string kRot, .slice none 0 0, .int .i64 2, .int .i64 (-270), .string ⟨#[]⟩, .slice none 0 0] (some ⟨bB, 0, none⟩) 2 2 _ ((Fit.single (Lies.leaf _ 1 5 0 kRot (by decide))).append (Fit.single (Lies.leaf _ 1 2 (-270) ⟨#[]⟩ (by decide)))) (row_of_block hBB) rfl (by decide)).mono ?_
    rintro e wh ⟨ce, rfl, hT2, hP, _⟩
    rw [gv_dict] at hT2
    have hL2 := hT2.lies hP
    obtain ⟨a2, c2, _, hce, _⟩ := hL2.kids
    subst hce
    clear hT2 hBB
    have hPw := hPw.pure hP
    have hL1 := hL1.pure hP
    try have hBP := hBP.ext hP id
    try have hBO := hBO.ext hP id
    refine hK.out _ _ (hP.mono (fun _ _ e => e.elim)) (fun hHeld => ?_)
    clear hK K hHeld
    refine region_now (hP.mono (fun _ _ e => e.elim)) ?_
    try simp only [Act.put, List.setIfInBounds_toArray, List.set_cons_zero, List.set_cons_succ]
    refine region_take 10 26 (v := ?vwkq0q0q1q1q010) rfl rfl (by kernel_rfl) (by kernel_rfl) (by kernel_rfl) (fun _ _ _ h => h) (by rfl) (fun w' hS => ?hwkq0q0q1q1q010) ?rwkq0q0q1q1q010
    case hwkq0q0q1q1q010 => go_simp; with_reducible rfl
    try simp only [Act.put, List.setIfInBounds_toArray, List.set_cons_zero, List.set_cons_succ]
    refine wpAnyH_ready (rs := [12]) (by kernel_rfl) (by simp) (AllReadyH.cons rfl (fun K hK => ?_) AllReadyH.nil)
    refine step_of_list ?_
    refine wpList_store_mid rfl 47 (.tmp 2) (.tmp 26) rfl bP 0 #[.slice (some ⟨bO, 0, none⟩) 1 1, .int .i64 7, .int .i64 0, .string ⟨#[]⟩, .slice a2 2 c2] rfl rfl (hBP.there 5 rfl) (by exact size47) (one5 _ _ _ _ _ _ _ _ _) ?_
    refine hK.out _ _ (Ext.setCells _ 0 _ (Ext.refl _ _) (fun _ => hbP2.out)) (fun hHeld => ?_)
    clear hK K hHeld
    refine region_now (Ext.setCells _ 0 _ (Ext.refl _ _) (fun _ => hbP2.out)) ?_
    try simp only [Act.put, List.setIfInBounds_toArray, List.set_cons_zero, List.set_cons_succ]
    refine wpAnyH_done (by kernel_rfl) ?_ _
    rotate_left
    go_simp
    refine (int_any (-270) _).mono ?_
    rintro e wf ⟨rfl, hP⟩
    have hPw := hPw.pure hP
    try have hBA := hBA.ext hP id
    try have hBO := hBO.ext hP id
    try have hBB := hBB.ext hP id
    try have hBP := hBP.ext hP id
    try have hL1 := hL1.pure hP
    try have hL2 := hL2.pure hP
    refine hK.out _ _ (hP.mono (fun _ _ e => e.elim)) (fun hHeld => ?_)
    clear hK K hHeld
    refine region_now (hP.mono (fun _ _ e => e.elim)) ?_
    try simp only [Act.put, List.setIfInBounds_toArray, List.set_cons_zero, List.set_cons_succ]
    refine wpAnyH_ready (rs := [5, 8]) (by kernel_rfl) (by simp) (AllReadyH.cons rfl (fun K hK => ?_) (AllReadyH.cons rfl (fun K hK => ?_) (AllReadyH.nil)))
    refine step_of_list ?_
    refine wpList_slice_new rfl 45 69 1 #[(0, .tmp 20)] rfl Try.underlying45 [.int .i64 7, .int .i64 0, .string ⟨#[]⟩, .slice a1 2 c1, .bool false, .string ⟨#[]⟩] (by kernel_rfl) ?_
    intro bO wd hBO hP
    have hPw := hPw.pure hP
    try have hBP := hBP.ext hP id
    try have hBB := hBB.ext hP id
    try have hL2 := hL2.pure hP
    have hL1 := hL1.pure hP
    refine hK.out _ _ (hP.mono (fun _ _ e => e.elim)) (fun hHeld => ?_)
    clear hK K hHeld
    refine region_now (hP.mono (fun _ _ e => e.elim)) ?_
    try simp only [Act.put, List.setIfInBounds_toArray, List.set_cons_zero, List.set_cons_succ]
    refine wpAnyH_ready (rs := [8]) (by kernel_rfl) (by simp) (AllReadyH.cons rfl (fun K hK => ?_) AllReadyH.nil)
    refine step_of_list ?_
    refine wpList_slice_new rfl 22 24 2 #[(0, .tmp 22), (1, .tmp 23)] rfl Try.underlying22 [.int .i64 5, .int .i64 0, .string kRot, .slice none 0 0, .int .i64 2, .int .i64 (-270), .string ⟨#[]⟩, .slice none 0 0] (by kernel_rfl) ?_
    intro bB wg hBB hP
    have hPw := hPw.pure hP
    have hL1 := hL1.pure hP
    try have hBP := hBP.ext hP id
    try have hBO := hBO.ext hP id
    refine hK.out _ _ (hP.mono (fun _ _ e => e.elim)) (fun hHeld => ?_)
    clear hK K hHeld
    refine region_now (hP.mono (fun _ _ e => e.elim)) ?_
    try simp only [Act.put, List.setIfInBounds_toArray, List.set_cons_zero, List.set_cons_succ]
    refine wpAnyH_ready (rs := [9]) (by kernel_rfl) (by simp) (AllReadyH.cons rfl (fun K hK => ?_) AllReadyH.nil)
    go_simp
    refine (dictof_any 1 [nameV kRot, intV (-270)] [.int .i64 5, .int .i64 0, .string kRot, .slice none 0 0, .int .i64 2, .int .i64 (-270), .string ⟨#[]⟩, .slice none 0 0] (some ⟨bB, 0, none⟩) 2 2 _ ((Fit.single (Lies.leaf _ 1 5 0 kRot (by decide))).append (Fit.single (Lies.leaf _ 1 2 (-270) ⟨#[]⟩ (by decide)))) (row_of_block hBB) rfl (by decide)).mono ?_
    rintro e wh ⟨ce, rfl, hT2, hP, _⟩
    rw [gv_dict] at hT2
    have hL2 := hT2.lies hP
    obtain ⟨a2, c2, _, hce, _⟩ := hL2.kids
    subst hce
    clear hT2 hBB
    have hPw := hPw.pure hP
    have hL1 := hL1.pure hP
    try have hBP := hBP.ext hP id
    try have hBO := hBO.ext hP id
    refine hK.out _ _ (hP.mono (fun _ _ e => e.elim)) (fun hHeld => ?_)
    clear hK K hHeld
    refine region_now (hP.mono (fun _ _ e => e.elim)) ?_
    try simp only [Act.put, List.setIfInBounds_toArray, List.set_cons_zero, List.set_cons_succ]
    refine region_take 10 26 (v := ?vwkq0q0q1q1q1q010) rfl rfl (by kernel_rfl) (by kernel_rfl) (by kernel_rfl) (fun _ _ _ h => h) (by rfl) (fun w' hS => ?hwkq0q0q1q1q1q010) ?rwkq0q0q1q1q1q010
    case hwkq0q0q1q1q1q010 => go_simp; with_reducible rfl
    try simp only [Act.put, List.setIfInBounds_toArray, List.set_cons_zero, List.set_cons_succ]
    refine wpAnyH_ready (rs := [12]) (by kernel_rfl) (by simp) (AllReadyH.cons rfl (fun K hK => ?_) AllReadyH.nil)
    refine step_of_list ?_
    refine wpList_store_mid rfl 47 (.tmp 2) (.tmp 26) rfl bP 0 #[.slice (some ⟨bO, 0, none⟩) 1 1, .int .i64 7, .int .i64 0, .string ⟨#[]⟩, .slice a2 2 c2] rfl rfl (hBP.there 5 rfl) (by exact size47) (one5 _ _ _ _ _ _ _ _ _) ?_
    refine hK.out _ _ (Ext.setCells _ 0 _ (Ext.refl _ _) (fun _ => hbP2.out)) (fun hHeld => ?_)
    clear hK K hHeld
    refine region_now (Ext.setCells _ 0 _ (Ext.refl _ _) (fun _ => hbP2.out)) ?_
    try simp only [Act.put, List.setIfInBounds_toArray, List.set_cons_zero, List.set_cons_succ]
    refine wpAnyH_done (by kernel_rfl) ?_ _
    rotate_left
    refine step_of_list ?_
    refine wpList_slice_new rfl 22 24 2 #[(0, .tmp 22), (1, .tmp 23)] rfl Try.underlying22 [.int .i64 5, .int .i64 0, .string kRot, .slice none 0 0, .int .i64 2, .int .i64 (-270), .string ⟨#[]⟩, .slice none 0 0] (by kernel_rfl) ?_
    intro bB wg hBB hP
    have hPw := hPw.pure hP
    have hL1 := hL1.pure hP
    try have hBP := hBP.ext hP id
    try have hBO := hBO.ext hP id
    refine hK.out _ _ (hP.mono (fun _ _ e => e.elim)) (fun hHeld => ?_)
    clear hK K hHeld
    refine region_now (hP.mono (fun _ _ e => e.elim)) ?_
    try simp only [Act.put, List.setIfInBounds_toArray, List.set_cons_zero, List.set_cons_succ]
    refine wpAnyH_ready (rs := [5, 9]) (by kernel_rfl) (by simp) (AllReadyH.cons rfl (fun K hK => ?_) (AllReadyH.cons rfl (fun K hK => ?_) (AllReadyH.nil)))
    refine step_of_list ?_
    refine wpList_slice_new rfl 45 69 1 #[(0, .tmp 20)] rfl Try.underlying45 [.int .i64 7, .int .i64 0, .string ⟨#[]⟩, .slice a1 2 c1, .bool false, .string ⟨#[]⟩] (by kernel_rfl) ?_
    intro bO wd hBO hP
    have hPw := hPw.pure hP
    try have hBP := hBP.ext hP id
    try have hBB := hBB.ext hP id
    try have hL2 := hL2.pure hP
    have hL1 := hL1.pure hP
    refine hK.out _ _ (hP.mono (fun _ _ e => e.elim)) (fun hHeld => ?_)
    clear hK K hHeld
    refine region_now (hP.mono (fun _ _ e => e.elim)) ?_
    try simp only [Act.put, List.setIfInBounds_toArray, List.set_cons_zero, List.set_cons_succ]
    refine wpAnyH_ready (rs := [9]) (by kernel_rfl) (by simp) (AllReadyH.cons rfl (fun K hK => ?_) AllReadyH.nil)
    go_simp
    refine (dictof_any 1 [nameV kRot, intV (-270)] [.int .i64 5, .int .i64 0, .string kRot, .slice none 0 0, .int .i64 2, .int .i64 (-270), .string ⟨#[]⟩, .slice none 0 0] (some ⟨bB, 0, none⟩) 2 2 _ ((Fit.single (Lies.leaf _ 1 5 0 kRot (by decide))).append (Fit.single (Lies.leaf _ 1 2 (-270) ⟨#[]⟩ (by decide)))) (row_of_block hBB) rfl (by decide)).mono ?_
    rintro e wh ⟨ce, rfl, hT2, hP, _⟩
    rw [gv_dict] at hT2
    have hL2 := hT2.lies hP
    obtain ⟨a2, c2, _, hce, _⟩ := hL2.kids
    subst hce
    clear hT2 hBB
    have hPw := hPw.pure hP
    have hL1 := hL1.pure hP
    try have hBP := hBP.ext hP id
    try have hBO := hBO.ext hP id
    refine hK.out _ _ (hP.mono (fun _ _ e => e.elim)) (fun hHeld => ?_)
    clear hK K hHeld
    refine region_now (hP.mono (fun _ _ e => e.elim)) ?_
    try simp only [Act.put, List.setIfInBounds_toArray, List.set_cons_zero, List.set_cons_succ]
    refine region_take 10 26 (v := ?vwkq0q0q1q1q1q1q010) rfl rfl (by kernel_rfl) (by kernel_rfl) (by kernel_rfl) (fun _ _ _ h => h) (by rfl) (fun w' hS => ?hwkq0q0q1q1q1q1q010) ?rwkq0q0q1q1q1q1q010
    case hwkq0q0q1q1q1q1q010 => go_simp; with_reducible rfl
    try simp only [Act.put, List.setIfInBounds_toArray, List.set_cons_zero, List.set_cons_succ]
    refine wpAnyH_ready (rs := [12]) (by kernel_rfl) (by simp) (AllReadyH.cons rfl (fun K hK => ?_) AllReadyH.nil)
    refine step_of_list ?_
    refine wpList_store_mid rfl 47 (.tmp 2) (.tmp 26) rfl bP 0 #[.slice (some ⟨bO, 0, none⟩) 1 1, .int .i64 7, .int .i64 0, .string ⟨#[]⟩, .slice a2 2 c2] rfl rfl (hBP.there 5 rfl) (by exact size47) (one5 _ _ _ _ _ _ _ _ _) ?_
    refine hK.out _ _ (Ext.setCells _ 0 _ (Ext.refl _ _) (fun _ => hbP2.out)) (fun hHeld => ?_)
    clear hK K hHeld
    refine region_now (Ext.setCells _ 0 _ (Ext.refl _ _) (fun _ => hbP2.out)) ?_
    try simp only [Act.put, List.setIfInBounds_toArray, List.set_cons_zero, List.set_cons_succ]
    refine wpAnyH_done (by kernel_rfl) ?_ _
    rotate_left
    go_simp
    refine (dictof_any 1 [nameV kRot, intV (-270)] [.int .i64 5, .int .i64 0, .string kRot, .slice none 0 0, .int .i64 2, .int .i64 (-270), .string ⟨#[]⟩, .slice none 0 0] (some ⟨bB, 0, none⟩) 2 2 _ ((Fit.single (Lies.leaf _ 1 5 0 kRot (by decide))).append (Fit.single (Lies.leaf _ 1 2 (-270) ⟨#[]⟩ (by decide)))) (row_of_block hBB) rfl (by decide)).mono ?_
    rintro e wh ⟨ce, rfl, hT2, hP, _⟩
    rw [gv_dict] at hT2
    have hL2 := hT2.lies hP
    obtain ⟨a2, c2, _, hce, _⟩ := hL2.kids
    subst hce
    clear hT2 hBB
    have hPw := hPw.pure hP
    have hL1 := hL1.pure hP
    try have hBP := hBP.ext hP id
    try have hBO := hBO.ext hP id
    refine hK.out _ _ (hP.mono (fun _ _ e => e.elim)) (fun hHeld => ?_)
    clear hK K hHeld
    refine region_now (hP.mono (fun _ _ e => e.elim)) ?_
    try simp only [Act.put, List.setIfInBounds_toArray, List.set_cons_zero, List.set_cons_succ]
    refine wpAnyH_ready (rs := [5]) (by kernel_rfl) (by simp) (AllReadyH.cons rfl (fun K hK => ?_) AllReadyH.nil)
    refine step_of_list ?_
    refine wpList_slice_new rfl 45 69 1 #[(0, .tmp 20)] rfl Try.underlying45 [.int .i64 7, .int .i64 0, .string ⟨#[]⟩, .slice a1 2 c1, .bool false, .string ⟨#[]⟩] (by kernel_rfl) ?_
    intro bO wd hBO hP
    have hPw := hPw.pure hP
    try have hBP := hBP.ext hP id
    try have hBB := hBB.ext hP id
    try have hL2 := hL2.pure hP
    have hL1 := hL1.pure hP
    refine hK.out _ _ (hP.mono (fun _ _ e => e.elim)) (fun hHeld => ?_)
    clear hK K hHeld
    refine region_now (hP.mono (fun _ _ e => e.elim)) ?_
    try simp only [Act.put, List.setIfInBounds_toArray, List.set_cons_zero, List.set_cons_succ]
    refine region_take 10 26 (v := ?vwkq0q0q1q1q1q1q110) rfl rfl (by kernel_rfl) (by kernel_rfl) (by kernel_rfl) (fun _ _ _ h => h) (by rfl) (fun w' hS => ?hwkq0q0q1q1q1q1q110) ?rwkq0q0q1q1q1q1q110
    case hwkq0q0q1q1q1q1q110 => go_simp; with_reducible rfl
    try simp only [Act.put, List.setIfInBounds_toArray, List.set_cons_zero, List.set_cons_succ]
    refine wpAnyH_ready (rs := [12]) (by kernel_rfl) (by simp) (AllReadyH.cons rfl (fun K hK => ?_) AllReadyH.nil)
    refine step_of_list ?_
    refine wpList_store_mid rfl 47 (.tmp 2) (.tmp 26) rfl bP 0 #[.slice (some ⟨bO, 0, none⟩) 1 1, .int .i64 7, .int .i64 0, .string ⟨#[]⟩, .slice a2 2 c2] rfl rfl (hBP.there 5 rfl) (by exact size47) (one5 _ _ _ _ _ _ _ _ _) ?_
    refine hK.out _ _ (Ext.setCells _ 0 _ (Ext.refl _ _) (fun _ => hbP2.out)) (fun hHeld => ?_)
    clear hK K hHeld
    refine region_now (Ext.setCells _ 0 _ (Ext.refl _ _) (fun _ => hbP2.out)) ?_
    try simp only [Act.put, List.setIfInBounds_toArray, List.set_cons_zero, List.set_cons_succ]
    refine wpAnyH_done (by kernel_rfl) ?_ _
    rotate_left
    refine step_of_list ?_
    refine wpList_alloc_new rfl 47 [.slice none 0 0, .int .i64 0, .int .i64 0, .string ⟨#[]⟩, .slice none 0 0] (run_alloc47 rfl _) ?_
    intro bP wi hBP hP hbP
    have hbP2 := Lib.hid (Nat.le_trans hPw.size hbP)
    clear hbP
    try have hBm := hBm.ext hP id
    try have hLm := hLm.pure hP
    have hPw := hPw.pure hP
    try have hBA := hBA.ext hP id
    try have hBO := hBO.ext hP id
    try have hBB := hBB.ext hP id
    try have hL1 := hL1.pure hP
    try have hL2 := hL2.pure hP
    refine hK.out _ _ (hP.mono (fun _ _ e => e.elim)) (fun hHeld => ?_)
    clear hK K hHeld
    refine region_now (hP.mono (fun _ _ e => e.elim)) ?_
    try simp only [Act.put, List.setIfInBounds_toArray, List.set_cons_zero, List.set_cons_succ]
    refine wpAnyH_ready (rs := [2]) (by kernel_rfl) (by simp) (AllReadyH.cons rfl (fun K hK => ?_) AllReadyH.nil)
    refine step_of_list ?_
    refine wpList_slice_new rfl 22 24 2 #[(0, .tmp 16), (1, .tmp 17)] rfl Try.underlying22 [.int .i64 5, .int .i64 0, .string kMedia, .slice none 0 0, .int .i64 6, .int .i64 0, .string ⟨#[]⟩, .slice (some ⟨bl, 0, none⟩) 4 4] (by kernel_rfl) ?_
    intro bA wb hBA hP
    have hBm := hBm.ext hP id
    have hLm := hLm.pure hP
    have hPw := hPw.pure hP
    try have hBP := hBP.ext hP id
    refine hK.out _ _ (hP.mono (fun _ _ e => e.elim)) (fun hHeld => ?_)
    clear hK K hHeld
    refine region_now (hP.mono (fun _ _ e => e.elim)) ?_
    try simp only [Act.put, List.setIfInBounds_toArray, List.set_cons_zero, List.set_cons_succ]
    refine wpAnyH_ready (rs := [3]) (by kernel_rfl) (by simp) (AllReadyH.cons rfl (fun K hK => ?_) AllReadyH.nil)
    go_simp
    refine (dictof_any 1 [nameV kMedia, mediaV] [.int .i64 5, .int .i64 0, .string kMedia, .slice none 0 0, .int .i64 6, .int .i64 0, .string ⟨#[]⟩, .slice (some ⟨bl, 0, none⟩) 4 4] (some ⟨bA, 0, none⟩) 2 2 _ ((Fit.single (Lies.leaf _ 1 5 0 kMedia (by decide))).append (Fit.single hLm)) (row_of_block hBA) rfl (by decide)).mono ?_
    rintro e wc ⟨cd, rfl, hT1, hP, _⟩
    rw [pg_dict] at hT1
    have hL1 := hT1.lies hP
    obtain ⟨a1, c1, _, hcd, _⟩ := hL1.kids
    subst hcd
    clear hT1 hBA
    have hBm := hBm.ext hP id
    have hLm := hLm.pure hP
    have hPw := hPw.pure hP
    try have hBP := hBP.ext hP id
    refine hK.out _ _ (hP.mono (fun _ _ e => e.elim)) (fun hHeld => ?_)
    clear hK K hHeld
    refine region_now (hP.mono (fun _ _ e => e.elim)) ?_
    try simp only [Act.put, List.setIfInBounds_toArray, List.set_cons_zero, List.set_cons_succ]
    refine region_take 4 20 (v := ?vwkq0q14) rfl rfl (by kernel_rfl) (by kernel_rfl) (by kernel_rfl) (fun _ _ _ h => h) (by rfl) (fun w' hS => ?hwkq0q14) ?rwkq0q14
    case hwkq0q14 => go_simp; with_reducible rfl
    try simp only [Act.put, List.setIfInBounds_toArray, List.set_cons_zero, List.set_cons_succ]
    refine wpAnyH_ready (rs := [5, 6]) (by kernel_rfl) (by simp) (AllReadyH.cons rfl (fun K hK => ?_) (AllReadyH.cons rfl (fun K hK => ?_) (AllReadyH.nil)))
    refine step_of_list ?_
    refine wpList_slice_new rfl 45 69 1 #[(0, .tmp 20)] rfl Try.underlying45 [.int .i64 7, .int .i64 0, .string ⟨#[]⟩, .slice a1 2 c1, .bool false, .string ⟨#[]⟩] (by kernel_rfl) ?_
    intro bO wd hBO hP
    have hPw := hPw.pure hP
    try have hBP := hBP.ext hP id
    try have hBB := hBB.ext hP id
    try have hL2 := hL2.pure hP
    have hL1 := hL1.pure hP
    refine hK.out _ _ (hP.mono (fun _ _ e => e.elim)) (fun hHeld => ?_)
    clear hK K hHeld
    refine region_now (hP.mono (fun _ _ e => e.elim)) ?_
    try simp only [Act.put, List.setIfInBounds_toArray, List.set_cons_zero, List.set_cons_succ]
    refine wpAnyH_ready (rs := [6]) (by kernel_rfl) (by simp) (AllReadyH.cons rfl (fun K hK => ?_) AllReadyH.nil)
    go_simp
    refine (name_any kRot _).mono ?_
    rintro e we ⟨rfl, hP⟩
    have hPw := hPw.pure hP
    try have hBA := hBA.ext hP id
    try have hBO := hBO.ext hP id
    try have hBB := hBB.ext hP id
    try have hBP := hBP.ext hP id
    try have hL1 := hL1.pure hP
    try have hL2 := hL2.pure hP
    refine hK.out _ _ (hP.mono (fun _ _ e => e.elim)) (fun hHeld => ?_)
    clear hK K hHeld
    refine region_now (hP.mono (fun _ _ e => e.elim)) ?_
    try simp only [Act.put, List.setIfInBounds_toArray, List.set_cons_zero, List.set_cons_succ]
    refine wpAnyH_ready (rs := [7]) (by kernel_rfl) (by simp) (AllReadyH.cons rfl (fun K hK => ?_) AllReadyH.nil)
    go_simp
    refine (int_any (-270) _).mono ?_
    rintro e wf ⟨rfl, hP⟩
    have hPw := hPw.pure hP
    try have hBA := hBA.ext hP id
    try have hBO := hBO.ext hP id
    try have hBB := hBB.ext hP id
    try have hBP := hBP.ext hP id
    try have hL1 := hL1.pure hP
    try have hL2 := hL2.pure hP
    refine hK.out _ _ (hP.mono (fun _ _ e => e.elim)) (fun hHeld => ?_)
    clear hK K hHeld
    refine region_now (hP.mono (fun _ _ e => e.elim)) ?_
    try simp only [Act.put, List.setIfInBounds_toArray, List.set_cons_zero, List.set_cons_succ]
    refine wpAnyH_ready (rs := [8]) (by kernel_rfl) (by simp) (AllReadyH.cons rfl (fun K hK => ?_) AllReadyH.nil)
    refine step_of_list ?_
    refine wpList_slice_new rfl 22 24 2 #[(0, .tmp 22), (1, .tmp 23)] rfl Try.underlying22 [.int .i64 5, .int .i64 0, .string kRot, .slice none 0 0, .int .i64 2, .int .i64 (-270), .string ⟨#[]⟩, .slice none 0 0] (by kernel_rfl) ?_
    intro bB wg hBB hP
    have hPw := hPw.pure hP
    have hL1 := hL1.pure hP
    try have hBP := hBP.ext hP id
    try have hBO := hBO.ext hP id
    refine hK.out _ _ (hP.mono (fun _ _ e => e.elim)) (fun hHeld => ?_)
    clear hK K hHeld
    refine region_now (hP.mono (fun _ _ e => e.elim)) ?_
    try simp only [Act.put, List.setIfInBounds_toArray, List.set_cons_zero, List.set_cons_succ]
    refine wpAnyH_ready (rs := [9]) (by kernel_rfl) (by simp) (AllReadyH.cons rfl (fun K hK => ?_) AllReadyH.nil)
    go_simp
    refine (dictof_any 1 [nameV kRot, intV (-270)] [.int .i64 5, .int .i64 0, .string kRot, .slice none 0 0, .int .i64 2, .int .i64 (-270), .string ⟨#[]⟩, .slice none 0 0] (some ⟨bB, 0, none⟩) 2 2 _ ((Fit.single (Lies.leaf _ 1 5 0 kRot (by decide))).append (Fit.single (Lies.leaf _ 1 2 (-270) ⟨#[]⟩ (by decide)))) (row_of_block hBB) rfl (by decide)).mono ?_
    rintro e wh ⟨ce, rfl, hT2, hP, _⟩
    rw [gv_dict] at hT2
    have hL2 := hT2.lies hP
    obtain ⟨a2, c2, _, hce, _⟩ := hL2.kids
    subst hce
    clear hT2 hBB
    have hPw := hPw.pure hP
    have hL1 := hL1.pure hP
    try have hBP := hBP.ext hP id
    try have hBO := hBO.ext hP id
    refine hK.out _ _ (hP.mono (fun _ _ e => e.elim)) (fun hHeld => ?_)
    clear hK K hHeld
    refine region_now (hP.mono (fun _ _ e => e.elim)) ?_
    try simp only [Act.put, List.setIfInBounds_toArray, List.set_cons_zero, List.set_cons_succ]
    refine region_take 10 26 (v := ?vwkq0q1q010) rfl rfl (by kernel_rfl) (by kernel_rfl) (by kernel_rfl) (fun _ _ _ h => h) (by rfl) (fun w' hS => ?hwkq0q1q010) ?rwkq0q1q010
    case hwkq0q1q010 => go_simp; with_reducible rfl
    try simp only [Act.put, List.setIfInBounds_toArray, List.set_cons_zero, List.set_cons_succ]
    refine wpAnyH_ready (rs := [12]) (by kernel_rfl) (by simp) (AllReadyH.cons rfl (fun K hK => ?_) AllReadyH.nil)
    refine step_of_list ?_
    refine wpList_store_mid rfl 47 (.tmp 2) (.tmp 26) rfl bP 0 #[.slice (some ⟨bO, 0, none⟩) 1 1, .int .i64 7, .int .i64 0, .string ⟨#[]⟩, .slice a2 2 c2] rfl rfl (hBP.there 5 rfl) (by exact size47) (one5 _ _ _ _ _ _ _ _ _) ?_
    refine hK.out _ _ (Ext.setCells _ 0 _ (Ext.refl _ _) (fun _ => hbP2.out)) (fun hHeld => ?_)
    clear hK K hHeld
    refine region_now (Ext.setCells _ 0 _ (Ext.refl _ _) (fun _ => hbP2.out)) ?_
    try simp only [Act.put, List.setIfInBounds_toArray, List.set_cons_zero, List.set_cons_succ]
    refine wpAnyH_done (by kernel_rfl) ?_ _
    rotate_left
    go_simp
    refine (name_any kRot _).mono ?_
    rintro e we ⟨rfl, hP⟩
    have hPw := hPw.pure hP
    try have hBA := hBA.ext hP id
    try have hBO := hBO.ext hP id
    try have hBB := hBB.ext hP id
    try have hBP := hBP.ext hP id
    try have hL1 := hL1.pure hP
    try have hL2 := hL2.pure hP
    refine hK.out _ _ (hP.mono (fun _ _ e => e.elim)) (fun hHeld => ?_)
    clear hK K hHeld
    refine region_now (hP.mono (fun _ _ e => e.elim)) ?_
    try simp only [Act.put, List.setIfInBounds_toArray, List.set_cons_zero, List.set_cons_succ]
    refine wpAnyH_ready (rs := [5, 7]) (by kernel_rfl) (by simp) (AllReadyH.cons rfl (fun K hK => ?_) (AllReadyH.cons rfl (fun K hK => ?_) (AllReadyH.nil)))
    refine step_of_list ?_
    refine wpList_slice_new rfl 45 69 1 #[(0, .tmp 20)] rfl Try.underlying45 [.int .i64 7, .int .i64 0, .string ⟨#[]⟩, .slice a1 2 c1, .bool false, .string ⟨#[]⟩] (by kernel_rfl) ?_
    intro bO wd hBO hP
    have hPw := hPw.pure hP
    try have hBP := hBP.ext hP id
    try have hBB := hBB.ext hP id
    try have hL2 := hL2.pure hP
    have hL1 := hL1.pure hP
    refine hK.out _ _ (hP.mono (fun _ _ e => e.elim)) (fun hHeld => ?_)
    clear hK K hHeld
    refine region_now (hP.mono (fun _ _ e => e.elim)) ?_
    try simp only [Act.put, List.setIfInBounds_toArray, List.set_cons_zero, List.set_cons_succ]
    refine wpAnyH_ready (rs := [7]) (by kernel_rfl) (by simp) (AllReadyH.cons rfl (fun K hK => ?_) AllReadyH.nil)
    go_simp
    refine (int_any (-270) _).mono ?_
    rintro e wf ⟨rfl, hP⟩
    have hPw := hPw.pure hP
    try have hBA := hBA.ext hP id
    try have hBO := hBO.ext hP id
    try have hBB := hBB.ext hP id
    try have hBP := hBP.ext hP id
    try have hL1 := hL1.pure hP
    try have hL2 := hL2.pure hP
    refine hK.out _ _ (hP.mono (fun _ _ e => e.elim)) (fun hHeld => ?_)
    clear hK K hHeld
    refine region_now (hP.mono (fun _ _ e => e.elim)) ?_
    try simp only [Act.put, List.setIfInBounds_toArray, List.set_cons_zero, List.set_cons_succ]
    refine wpAnyH_ready (rs := [8]) (by kernel_rfl) (by simp) (AllReadyH.cons rfl (fun K hK => ?_) AllReadyH.nil)
    refine step_of_list ?_
    refine wpList_slice_new rfl 22 24 2 #[(0, .tmp 22), (1, .tmp 23)] rfl Try.underlying22 [.int .i64 5, .int .i64 0, .string kRot, .slice none 0 0, .int .i64 2, .int .i64 (-270), .string ⟨#[]⟩, .slice none 0 0] (by kernel_rfl) ?_
    intro bB wg hBB hP
    have hPw := hPw.pure hP
    have hL1 := hL1.pure hP
    try have hBP := hBP.ext hP id
    try have hBO := hBO.ext hP id
    refine hK.out _ _ (hP.mono (fun _ _ e => e.elim)) (fun hHeld => ?_)
    clear hK K hHeld
    refine region_now (hP.mono (fun _ _ e => e.elim)) ?_
    try simp only [Act.put, List.setIfInBounds_toArray, List.set_cons_zero, List.set_cons_succ]
    refine wpAnyH_ready (rs := [9]) (by kernel_rfl) (by simp) (AllReadyH.cons rfl (fun K hK => ?_) AllReadyH.nil)
    go_simp
    refine (dictof_any 1 [nameV kRot, intV (-270)] [.int .i64 5, .int .i64 0, .string kRot, .slice none 0 0, .int .i64 2, .int .i64 (-270), .string ⟨#[]⟩, .slice none 0 0] (some ⟨bB, 0, none⟩) 2 2 _ ((Fit.single (Lies.leaf _ 1 5 0 kRot (by decide))).append (Fit.single (Lies.leaf _ 1 2 (-270) ⟨#[]⟩ (by decide)))) (row_of_block hBB) rfl (by decide)).mono ?_
    rintro e wh ⟨ce, rfl, hT2, hP, _⟩
    rw [gv_dict] at hT2
    have hL2 := hT2.lies hP
    obtain ⟨a2, c2, _, hce, _⟩ := hL2.kids
    subst hce
    clear hT2 hBB
    have hPw := hPw.pure hP
    have hL1 := hL1.pure hP
    try have hBP := hBP.ext hP id
    try have hBO := hBO.ext hP id
    refine hK.out _ _ (hP.mono (fun _ _ e => e.elim)) (fun hHeld => ?_)
    clear hK K hHeld
    refine region_now (hP.mono (fun _ _ e => e.elim)) ?_
    try simp only [Act.put, List.setIfInBounds_toArray, List.set_cons_zero, List.set_cons_succ]
    refine region_take 10 26 (v := ?vwkq0q1q1q010) rfl rfl (by kernel_rfl) (by kernel_rfl) (by kernel_rfl) (fun _ _ _ h => h) (by rfl) (fun w' hS => ?hwkq0q1q1q010) ?rwkq0q1q1q010
    case hwkq0q1q1q010 => go_simp; with_reducible rfl
    try simp only [Act.put, List.setIfInBounds_toArray, List.set_cons_zero, List.set_cons_succ]
    refine wpAnyH_ready (rs := [12]) (by kernel_rfl) (by simp) (AllReadyH.cons rfl (fun K hK => ?_) AllReadyH.nil)
    refine step_of_list ?_
    refine wpList_store_mid rfl 47 (.tmp 2) (.tmp 26) rfl bP 0 #[.slice (some ⟨bO, 0, none⟩) 1 1, .int .i64 7, .int .i64 0, .string ⟨#[]⟩, .slice a2 2 c2] rfl rfl (hBP.there 5 rfl) (by exact size47) (one5 _ _ _ _ _ _ _ _ _) ?_
    refine hK.out _ _ (Ext.setCells _ 0 _ (Ext.refl _ _) (fun _ => hbP2.out)) (fun hHeld => ?_)
    clear hK K hHeld
    refine region_now (Ext.setCells _ 0 _ (Ext.refl _ _) (fun _ => hbP2.out)) ?_
    try simp only [Act.put, List.setIfInBounds_toArray, List.set_cons_zero, List.set_cons_succ]
    refine wpAnyH_done (by kernel_rfl) ?_ _
    rotate_left
    go_simp
    refine (int_any (-270) _).mono ?_
    rintro e wf ⟨rfl, hP⟩
    have hPw := hPw.pure hP
    try have hBA := hBA.ext hP id
    try have hBO := hBO.ext hP id
    try have hBB := hBB.ext hP id
    try have hBP := hBP.ext hP id
    try have hL1 := hL1.pure hP
    try have hL2 := hL2.pure hP
    refine hK.out _ _ (hP.mono (fun _ _ e => e.elim)) (fun hHeld => ?_)
    clear hK K hHeld
    refine region_now (hP.mono (fun _ _ e => e.elim)) ?_
    try simp only [Act.put, List.setIfInBounds_toArray, List.set_cons_zero, List.set_cons_succ]
    refine wpAnyH_ready (rs := [5, 8]) (by kernel_rfl) (by simp) (AllReadyH.cons rfl (fun K hK => ?_) (AllReadyH.cons rfl (fun K hK => ?_) (AllReadyH.nil)))
    refine step_of_list ?_
    refine wpList_slice_new rfl 45 69 1 #[(0, .tmp 20)] rfl Try.underlying45 [.int .i64 7, .int .i64 0, .string ⟨#[]⟩, .slice a1 2 c1, .bool false, .string ⟨#[]⟩] (by kernel_rfl) ?_
    intro bO wd hBO hP
    have hPw := hPw.pure hP
    try have hBP := hBP.ext hP id
    try have hBB := hBB.ext hP id
    try have hL2 := hL2.pure hP
    have hL1 := hL1.pure hP
    refine hK.out _ _ (hP.mono (fun _ _ e => e.elim)) (fun hHeld => ?_)
    clear hK K hHeld
    refine region_now (hP.mono (fun _ _ e => e.elim)) ?_
    try simp only [Act.put, List.setIfInBounds_toArray, List.set_cons_zero, List.set_cons_succ]
    refine wpAnyH_ready (rs := [8]) (by kernel_rfl) (by simp) (AllReadyH.cons rfl (fun K hK => ?_) AllReadyH.nil)
    refine step_of_list ?_
    refine wpList_slice_new rfl 22 24 2 #[(0, .tmp 22), (1, .tmp 23)] rfl Try.underlying22 [.int .i64 5, .int .i64 0, .string kRot, .slice none 0 0, .int .i64 2, .int .i64 (-270), .string ⟨#[]⟩, .slice none 0 0] (by kernel_rfl) ?_
    intro bB wg hBB hP
    have hPw := hPw.pure hP
    have hL1 := hL1.pure hP
    try have hBP := hBP.ext hP id
    try have hBO := hBO.ext hP id
    refine hK.out _ _ (hP.mono (fun _ _ e => e.elim)) (fun hHeld => ?_)
    clear hK K hHeld
    refine region_now (hP.mono (fun _ _ e => e.elim)) ?_
    try simp only [Act.put, List.setIfInBounds_toArray, List.set_cons_zero, List.set_cons_succ]
    refine wpAnyH_ready (rs := [9]) (by kernel_rfl) (by simp) (AllReadyH.cons rfl (fun K hK => ?_) AllReadyH.nil)
    go_simp
    refine (dictof_any 1 [nameV kRot, intV (-270)] [.int .i64 5, .int .i64 0, .string kRot, .slice none 0 0, .int .i64 2, .int .i64 (-270), .string ⟨#[]⟩, .slice none 0 0] (some ⟨bB, 0, none⟩) 2 2 _ ((Fit.single (Lies.leaf _ 1 5 0 kRot (by decide))).append (Fit.single (Lies.leaf _ 1 2 (-270) ⟨#[]⟩ (by decide)))) (row_of_block hBB) rfl (by decide)).mono ?_
    rintro e wh ⟨ce, rfl, hT2, hP, _⟩
    rw [gv_dict] at hT2
    have hL2 := hT2.lies hP
    obtain ⟨a2, c2, _, hce, _⟩ := hL2.kids
    subst hce
    clear hT2 hBB
    have hPw := hPw.pure hP
    have hL1 := hL1.pure hP
    try have hBP := hBP.ext hP id
    try have hBO := hBO.ext hP id
    refine hK.out _ _ (hP.mono (fun _ _ e => e.elim)) (fun hHeld => ?_)
    clear hK K hHeld
    refine region_now (hP.mono (fun _ _ e => e.elim)) ?_
    try simp only [Act.put, List.setIfInBounds_toArray, List.set_cons_zero, List.set_cons_succ]
    refine region_take 10 26 (v := ?vwkq0q1q1q1q010) rfl rfl (by kernel_rfl) (by kernel_rfl) (by kernel_rfl) (fun _ _ _ h => h) (by rfl) (fun w' hS => ?hwkq0q1q1q1q010) ?rwkq0q1q1q1q010
    case hwkq0q1q1q1q010 => go_simp; with_reducible rfl
    try simp only [Act.put, List.setIfInBounds_toArray, List.set_cons_zero, List.set_cons_succ]
    refine wpAnyH_ready (rs := [12]) (by kernel_rfl) (by simp) (AllReadyH.cons rfl (fun K hK => ?_) AllReadyH.nil)
    refine step_of_list ?_
    refine wpList_store_mid rfl 47 (.tmp 2) (.tmp 26) rfl bP 0 #[.slice (some ⟨bO, 0, none⟩) 1 1, .int .i64 7, .int .i64 0, .string ⟨#[]⟩, .slice a2 2 c2] rfl rfl (hBP.there 5 rfl) (by exact size47) (one5 _ _ _ _ _ _ _ _ _) ?_
    refine hK.out _ _ (Ext.setCells _ 0 _ (Ext.refl _ _) (fun _ => hbP2.out)) (fun hHeld => ?_)
    clear hK K hHeld
    refine region_now (Ext.setCells _ 0 _ (Ext.refl _ _) (fun _ => hbP2.out)) ?_
    try simp only [Act.put, List.setIfInBounds_toArray, List.set_cons_zero, List.set_cons_succ]
    refine wpAnyH_done (by kernel_rfl) ?_ _
    rotate_left
    refine step_of_list ?_
    refine wpList_slice_new rfl 22 24 2 #[(0, .tmp 22), (1, .tmp 23)] rfl Try.underlying22 [.int .i64 5, .int .i64 0, .string kRot, .slice none 0 0, .int .i64 2, .int .i64 (-270), .string ⟨#[]⟩, .slice none 0 0] (by kernel_rfl) ?_
    intro bB wg hBB hP
    have hPw := hPw.pure hP
    have hL1 := hL1.pure hP
    try have hBP := hBP.ext hP id
    try have hBO := hBO.ext hP id
    refine hK.out _ _ (hP.mono (fun _ _ e => e.elim)) (fun hHeld => ?_)
    clear hK K hHeld
    refine region_now (hP.mono (fun _ _ e => e.elim)) ?_
    try simp only [Act.put, List.setIfInBounds_toArray, List.set_cons_zero, List.set_cons_succ]
    refine wpAnyH_ready (rs := [5, 9]) (by kernel_rfl) (by simp) (AllReadyH.cons rfl (fun K hK => ?_) (AllReadyH.cons rfl (fun K hK => ?_) (AllReadyH.nil)))
    refine step_of_list ?_
    refine wpList_slice_new rfl 45 69 1 #[(0, .tmp 20)] rfl Try.underlying45 [.int .i64 7, .int .i64 0, .string ⟨#[]⟩, .slice a1 2 c1, .bool false, .string ⟨#[]⟩] (by kernel_rfl) ?_
    intro bO wd hBO hP
    have hPw := hPw.pure hP
    try have hBP := hBP.ext hP id
    try have hBB := hBB.ext hP id
    try have hL2 := hL2.pure hP
    have hL1 := hL1.pure hP
    refine hK.out _ _ (hP.mono (fun _ _ e => e.elim)) (fun hHeld => ?_)
    clear hK K hHeld
    refine region_now (hP.mono (fun _ _ e => e.elim)) ?_
    try simp only [Act.put, List.setIfInBounds_toArray, List.set_cons_zero, List.set_cons_succ]
    refine wpAnyH_ready (rs := [9]) (by kernel_rfl) (by simp) (AllReadyH.cons rfl (fun K hK => ?_) AllReadyH.nil)
    go_simp
    refine (dictof_any 1 [nameV kRot, intV (-270)] [.int .i64 5, .int .i64 0, .string kRot, .slice none 0 0, .int .i64 2, .int .i64 (-270), .string ⟨#[]⟩, .slice none 0 0] (some ⟨bB, 0, none⟩) 2 2 _ ((Fit.single (Lies.leaf _ 1 5 0 kRot (by decide))).append (Fit.single (Lies.leaf _ 1 2 (-270) ⟨#[]⟩ (by decide)))) (row_of_block hBB) rfl (by decide)).mono ?_
    rintro e wh ⟨ce, rfl, hT2, hP, _⟩
    rw [gv_dict] at hT2
    have hL2 := hT2.lies hP
    obtain ⟨a2, c2, _, hce, _⟩ := hL2.kids
    subst hce
    clear hT2 hBB
    have hPw := hPw.pure hP
    have hL1 := hL1.pure hP
    try have hBP := hBP.ext hP id
    try have hBO := hBO.ext hP id
    refine hK.out _ _ (hP.mono (fun _ _ e => e.elim)) (fun hHeld => ?_)
    clear hK K hHeld
    refine region_now (hP.mono (fun _ _ e => e.elim)) ?_
    try simp only [Act.put, List.setIfInBounds_toArray, List.set_cons_zero, List.set_cons_succ]
    refine region_take 10 26 (v := ?vwkq0q1q1q1q1q010) rfl rfl (by kernel_rfl) (by kernel_rfl) (by kernel_rfl) (fun _ _ _ h => h) (by rfl) (fun w' hS => ?hwkq0q1q1q1q1q010) ?rwkq0q1q1q1q1q010
    case hwkq0q1q1q1q1q010 => go_simp; with_reducible rfl
    try simp only [Act.put, List.setIfInBounds_toArray, List.set_cons_zero, List.set_cons_succ]
    refine wpAnyH_ready (rs := [12]) (by kernel_rfl) (by simp) (AllReadyH.cons rfl (fun K hK => ?_) AllReadyH.nil)
    refine step_of_list ?_
    refine wpList_store_mid rfl 47 (.tmp 2) (.tmp 26) rfl bP 0 #[.slice (some ⟨bO, 0, none⟩) 1 1, .int .i64 7, .int .i64 0, .string ⟨#[]⟩, .slice a2 2 c2] rfl rfl (hBP.there 5 rfl) (by exact size47) (one5 _ _ _ _ _ _ _ _ _) ?_
    refine hK.out _ _ (Ext.setCells _ 0 _ (Ext.refl _ _) (fun _ => hbP2.out)) (fun hHeld => ?_)
    clear hK K hHeld
    refine region_now (Ext.setCells _ 0 _ (Ext.refl _ _) (fun _ => hbP2.out)) ?_
    try simp only [Act.put, List.setIfInBounds_toArray, List.set_cons_zero, List.set_cons_succ]
    refine wpAnyH_done (by kernel_rfl) ?_ _
    rotate_left
    go_simp
    refine (dictof_any 1 [nameV kRot, intV (-270)] [.int .i64 5, .int .i64 0, .string kRot, .slice none 0 0, .int .i64 2, .int .i64 (-270), .string ⟨#[]⟩, .slice none 0 0] (some ⟨bB, 0, none⟩) 2 2 _ ((Fit.single (Lies.leaf _ 1 5 0 kRot (by decide))).append (Fit.single (Lies.leaf _ 1 2 (-270) ⟨#[]⟩ (by decide)))) (row_of_block hBB) rfl (by decide)).mono ?_
    rintro e wh ⟨ce, rfl, hT2, hP, _⟩
    rw [gv_dict] at hT2
    have hL2 := hT2.lies hP
    obtain ⟨a2, c2, _, hce, _⟩ := hL2.kids
    subst hce
    clear hT2 hBB
    have hPw := hPw.pure hP
    have hL1 := hL1.pure hP
    try have hBP := hBP.ext hP id
    try have hBO := hBO.ext hP id
    refine hK.out _ _ (hP.mono (fun _ _ e => e.elim)) (fun hHeld => ?_)
    clear hK K hHeld
    refine region_now (hP.mono (fun _ _ e => e.elim)) ?_
    try simp only [Act.put, List.setIfInBounds_toArray, List.set_cons_zero, List.set_cons_succ]
    refine wpAnyH_ready (rs := [5]) (by kernel_rfl) (by simp) (AllReadyH.cons rfl (fun K hK => ?_) AllReadyH.nil)
    refine step_of_list ?_
    refine wpList_slice_new rfl 45 69 1 #[(0, .tmp 20)] rfl Try.underlying45 [.int .i64 7, .int .i64 0, .string ⟨#[]⟩, .slice a1 2 c1, .bool false, .string ⟨#[]⟩] (by kernel_rfl) ?_
    intro bO wd hBO hP
    have hPw := hPw.pure hP
    try have hBP := hBP.ext hP id
    try have hBB := hBB.ext hP id
    try have hL2 := hL2.pure hP
    have hL1 := hL1.pure hP
    refine hK.out _ _ (hP.mono (fun _ _ e => e.elim)) (fun hHeld => ?_)
    clear hK K hHeld
    refine region_now (hP.mono (fun _ _ e => e.elim)) ?_
    try simp only [Act.put, List.setIfInBounds_toArray, List.set_cons_zero, List.set_cons_succ]
    refine region_take 10 26 (v := ?vwkq0q1q1q1q1q110) rfl rfl (by kernel_rfl) (by kernel_rfl) (by kernel_rfl) (fun _ _ _ h => h) (by rfl) (fun w' hS => ?hwkq0q1q1q1q1q110) ?rwkq0q1q1q1q1q110
    case hwkq0q1q1q1q1q110 => go_simp; with_reducible rfl
    try simp only [Act.put, List.setIfInBounds_toArray, List.set_cons_zero, List.set_cons_succ]
    refine wpAnyH_ready (rs := [12]) (by kernel_rfl) (by simp) (AllReadyH.cons rfl (fun K hK => ?_) AllReadyH.nil)
    refine step_of_list ?_
    refine wpList_store_mid rfl 47 (.tmp 2) (.tmp 26) rfl bP 0 #[.slice (some ⟨bO, 0, none⟩) 1 1, .int .i64 7, .int .i64 0, .string ⟨#[]⟩, .slice a2 2 c2] rfl rfl (hBP.there 5 rfl) (by exact size47) (one5 _ _ _ _ _ _ _ _ _) ?_
    refine hK.out _ _ (Ext.setCells _ 0 _ (Ext.refl _ _) (fun _ => hbP2.out)) (fun hHeld => ?_)
    clear hK K hHeld
    refine region_now (Ext.setCells _ 0 _ (Ext.refl _ _) (fun _ => hbP2.out)) ?_
    try simp only [Act.put, List.setIfInBounds_toArray, List.set_cons_zero, List.set_cons_succ]
    refine wpAnyH_done (by kernel_rfl) ?_ _
    rotate_left
    refine step_of_list ?_
    refine wpList_alloc_new rfl 47 [.slice none 0 0, .int .i64 0, .int .i64 0, .string ⟨#[]⟩, .slice none 0 0] (run_alloc47 rfl _) ?_
    intro bP wi hBP hP hbP
    have hbP2 := Lib.hid (Nat.le_trans hPw.size hbP)
    clear hbP
    try have hBm := hBm.ext hP id
    try have hLm := hLm.pure hP
    have hPw := hPw.pure hP
    try have hBA := hBA.ext hP id
    try have hBO := hBO.ext hP id
    try have hBB := hBB.ext hP id
    try have hL1 := hL1.pure hP
    try have hL2 := hL2.pure hP
    refine hK.out _ _ (hP.mono (fun _ _ e => e.elim)) (fun hHeld => ?_)
    clear hK K hHeld
    refine region_now (hP.mono (fun _ _ e => e.elim)) ?_
    try simp only [Act.put, List.setIfInBounds_toArray, List.set_cons_zero, List.set_cons_succ]
    refine wpAnyH_ready (rs := [0]) (by kernel_rfl) (by simp) (AllReadyH.cons rfl (fun K hK => ?_) AllReadyH.nil)
    go_simp
    refine (name_any kMedia _).mono ?_
    rintro e wa ⟨rfl, hP⟩
    have hBm := hBm.ext hP id
    have hLm := hLm.pure hP
    have hPw := hPw.pure hP
    try have hBA := hBA.ext hP id
    try have hBO := hBO.ext hP id
    try have hBB := hBB.ext hP id
    try have hBP := hBP.ext hP id
    try have hL1 := hL1.pure hP
    try have hL2 := hL2.pure hP
    refine hK.out _ _ (hP.mono (fun _ _ e => e.elim)) (fun hHeld => ?_)
    clear hK K hHeld
    refine region_now (hP.mono (fun _ _ e => e.elim)) ?_
    try simp only [Act.put, List.setIfInBounds_toArray, List.set_cons_zero, List.set_cons_succ]
    refine wpAnyH_ready (rs := [2]) (by kernel_rfl) (by simp) (AllReadyH.cons rfl (fun K hK => ?_) AllReadyH.nil)
    refine step_of_list ?_
    refine wpList_slice_new rfl 22 24 2 #[(0, .tmp 16), (1, .tmp 17)] rfl Try.underlying22 [.int .i64 5, .int .i64 0, .string kMedia, .slice none 0 0, .int .i64 6, .int .i64 0, .string ⟨#[]⟩, .slice (some ⟨bl, 0, none⟩) 4 4] (by kernel_rfl) ?_
    intro bA wb hBA hP
    have hBm := hBm.ext hP id
    have hLm := hLm.pure hP
    have hPw := hPw.pure hP
    try have hBP := hBP.ext hP id
    refine hK.out _ _ (hP.mono (fun _ _ e => e.elim)) (fun hHeld => ?_)
    clear hK K hHeld
    refine region_now (hP.mono (fun _ _ e => e.elim)) ?_
    try simp only [Act.put, List.setIfInBounds_toArray, List.set_cons_zero, List.set_cons_succ]
    refine wpAnyH_ready (rs := [3]) (by kernel_rfl) (by simp) (AllReadyH.cons rfl (fun K hK => ?_) AllReadyH.nil)
    go_simp
    refine (dictof_any 1 [nameV kMedia, mediaV] [.int .i64 5, .int .i64 0, .string kMedia, .slice none 0 0, .int .i64 6, .int .i64 0, .string ⟨#[]⟩, .slice (some ⟨bl, 0, none⟩) 4 4] (some ⟨bA, 0, none⟩) 2 2 _ ((Fit.single (Lies.leaf _ 1 5 0 kMedia (by decide))).append (Fit.single hLm)) (row_of_block hBA) rfl (by decide)).mono ?_
    rintro e wc ⟨cd, rfl, hT1, hP, _⟩
    rw [pg_dict] at hT1
    have hL1 := hT1.lies hP
    obtain ⟨a1, c1, _, hcd, _⟩ := hL1.kids
    subst hcd
    clear hT1 hBA
    have hBm := hBm.ext hP id
    have hLm := hLm.pure hP
    have hPw := hPw.pure hP
    try have hBP := hBP.ext hP id
    refine hK.out _ _ (hP.mono (fun _ _ e => e.elim)) (fun hHeld => ?_)
    clear hK K hHeld
    refine region_now (hP.mono (fun _ _ e => e.elim)) ?_
    try simp only [Act.put, List.setIfInBounds_toArray, List.set_cons_zero, List.set_cons_succ]
    refine region_take 4 20 (v := ?vwkq14) rfl rfl (by kernel_rfl) (by kernel_rfl) (by kernel_rfl) (fun _ _ _ h => h) (by rfl) (fun w' hS => ?hwkq14) ?rwkq14
    case hwkq14 => go_simp; with_reducible rfl
    try simp only [Act.put, List.setIfInBounds_toArray, List.set_cons_zero, List.set_cons_succ]
    refine wpAnyH_ready (rs := [5, 6]) (by kernel_rfl) (by simp) (AllReadyH.cons rfl (fun K hK => ?_) (AllReadyH.cons rfl (fun K hK => ?_) (AllReadyH.nil)))
    refine step_of_list ?_
    refine wpList_slice_new rfl 45 69 1 #[(0, .tmp 20)] rfl Try.underlying45 [.int .i64 7, .int .i64 0, .string ⟨#[]⟩, .slice a1 2 c1, .bool false, .string ⟨#[]⟩] (by kernel_rfl) ?_
    intro bO wd hBO hP
    have hPw := hPw.pure hP
    try have hBP := hBP.ext hP id
    try have hBB := hBB.ext hP id
    try have hL2 := hL2.pure hP
    have hL1 := hL1.pure hP
    refine hK.out _ _ (hP.mono (fun _ _ e => e.elim)) (fun hHeld => ?_)
    clear hK K hHeld
    refine region_now (hP.mono (fun _ _ e => e.elim)) ?_
    try simp only [Act.put, List.setIfInBounds_toArray, List.set_cons_zero, List.set_cons_succ]
    refine wpAnyH_ready (rs := [6]) (by kernel_rfl) (by simp) (AllReadyH.cons rfl (fun K hK => ?_) AllReadyH.nil)
    go_simp
    refine (name_any kRot _).mono ?_
    rintro e we ⟨rfl, hP⟩
    have hPw := hPw.pure hP
    try have hBA := hBA.ext hP id
    try have hBO := hBO.ext hP id
    try have hBB := hBB.ext hP id
    try have hBP := hBP.ext hP id
    try have hL1 := hL1.pure hP
    try have hL2 := hL2.pure hP
    refine hK.out _ _ (hP.mono (fun _ _ e => e.elim)) (fun hHeld => ?_)
    clear hK K hHeld
    refine region_now (hP.mono (fun _ _ e => e.elim)) ?_
    try simp only [Act.put, List.setIfInBounds_toArray, List.set_cons_zero, List.set_cons_succ]
    refine wpAnyH_ready (rs := [7]) (by kernel_rfl) (by simp) (AllReadyH.cons rfl (fun K hK => ?_) AllReadyH.nil)
    go_simp
    refine (int_any (-270) _).mono ?_
    rintro e wf ⟨rfl, hP⟩
    have hPw := hPw.pure hP
    try have hBA := hBA.ext hP id
    try have hBO := hBO.ext hP id
    try have hBB := hBB.ext hP id
    try have hBP := hBP.ext hP id
    try have hL1 := hL1.pure hP
    try have hL2 := hL2.pure hP
    refine hK.out _ _ (hP.mono (fun _ _ e => e.elim)) (fun hHeld => ?_)
    clear hK K hHeld
    refine region_now (hP.mono (fun _ _ e => e.elim)) ?_
    try simp only [Act.put, List.setIfInBounds_toArray, List.set_cons_zero, List.set_cons_succ]
    refine wpAnyH_ready (rs := [8]) (by kernel_rfl) (by simp) (AllReadyH.cons rfl (fun K hK => ?_) AllReadyH.nil)
    refine step_of_list ?_
    refine wpList_slice_new rfl 22 24 2 #[(0, .tmp 22), (1, .tmp 23)] rfl Try.underlying22 [.int .i64 5, .int .i64 0, .string kRot, .slice none 0 0, .int .i64 2, .int .i64 (-270), .string ⟨#[]⟩, .slice none 0 0] (by kernel_rfl) ?_
    intro bB wg hBB hP
    have hPw := hPw.pure hP
    have hL1 := hL1.pure hP
    try have hBP := hBP.ext hP id
    try have hBO := hBO.ext hP id
    refine hK.out _ _ (hP.mono (fun _ _ e => e.elim)) (fun hHeld => ?_)
    clear hK K hHeld
    refine region_now (hP.mono (fun _ _ e => e.elim)) ?_
    try simp only [Act.put, List.setIfInBounds_toArray, List.set_cons_zero, List.set_cons_succ]
    refine wpAnyH_ready (rs := [9]) (by kernel_rfl) (by simp) (AllReadyH.cons rfl (fun K hK => ?_) AllReadyH.nil)
    go_simp
    refine (dictof_any 1 [nameV kRot, intV (-270)] [.int .i64 5, .int .i64 0, .string kRot, .slice none 0 0, .int .i64 2, .int .i64 (-270), .string ⟨#[]⟩, .slice none 0 0] (some ⟨bB, 0, none⟩) 2 2 _ ((Fit.single (Lies.leaf _ 1 5 0 kRot (by decide))).append (Fit.single (Lies.leaf _ 1 2 (-270) ⟨#[]⟩ (by decide)))) (row_of_block hBB) rfl (by decide)).mono ?_
    rintro e wh ⟨ce, rfl, hT2, hP, _⟩
    rw [gv_dict] at hT2
    have hL2 := hT2.lies hP
    obtain ⟨a2, c2, _, hce, _⟩ := hL2.kids
    subst hce
    clear hT2 hBB
    have hPw := hPw.pure hP
    have hL1 := hL1.pure hP
    try have hBP := hBP.ext hP id
    try have hBO := hBO.ext hP id
    refine hK.out _ _ (hP.mono (fun _ _ e => e.elim)) (fun hHeld => ?_)
    clear hK K hHeld
    refine region_now (hP.mono (fun _ _ e => e.elim)) ?_
    try simp only [Act.put, List.setIfInBounds_toArray, List.set_cons_zero, List.set_cons_succ]
    refine region_take 10 26 (v := ?vwkq1q010) rfl rfl (by kernel_rfl) (by kernel_rfl) (by kernel_rfl) (fun _ _ _ h => h) (by rfl) (fun w' hS => ?hwkq1q010) ?rwkq1q010
    case hwkq1q010 => go_simp; with_reducible rfl
    try simp only [Act.put, List.setIfInBounds_toArray, List.set_cons_zero, List.set_cons_succ]
    refine wpAnyH_ready (rs := [12]) (by kernel_rfl) (by simp) (AllReadyH.cons rfl (fun K hK => ?_) AllReadyH.nil)
    refine step_of_list ?_
    refine wpList_store_mid rfl 47 (.tmp 2) (.tmp 26) rfl bP 0 #[.slice (some ⟨bO, 0, none⟩) 1 1, .int .i64 7, .int .i64 0, .string ⟨#[]⟩, .slice a2 2 c2] rfl rfl (hBP.there 5 rfl) (by exact size47) (one5 _ _ _ _ _ _ _ _ _) ?_
    refine hK.out _ _ (Ext.setCells _ 0 _ (Ext.refl _ _) (fun _ => hbP2.out)) (fun hHeld => ?_)
    clear hK K hHeld
    refine region_now (Ext.setCells _ 0 _ (Ext.refl _ _) (fun _ => hbP2.out)) ?_
    try simp only [Act.put, List.setIfInBounds_toArray, List.set_cons_zero, List.set_cons_succ]
    refine wpAnyH_done (by kernel_rfl) ?_ _
    rotate_left
    go_simp
    refine (name_any kRot _).mono ?_
    rintro e we ⟨rfl, hP⟩
    have hPw := hPw.pure hP
    try have hBA := hBA.ext hP id
    try have hBO := hBO.ext hP id
    try have hBB := hBB.ext hP id
    try have hBP := hBP.ext hP id
    try have hL1 := hL1.pure hP
    try have hL2 := hL2.pure hP
    refine hK.out _ _ (hP.mono (fun _ _ e => e.elim)) (fun hHeld => ?_)
    clear hK K hHeld
    refine region_now (hP.mono (fun _ _ e => e.elim)) ?_
    try simp only [Act.put, List.setIfInBounds_toArray, List.set_cons_zero, List.set_cons_succ]
    refine wpAnyH_ready (rs := [5, 7]) (by kernel_rfl) (by simp) (AllReadyH.cons rfl (fun K hK => ?_) (AllReadyH.cons rfl (fun K hK => ?_) (AllReadyH.nil)))
    refine step_of_list ?_
    refine wpList_slice_new rfl 45 69 1 #[(0, .tmp 20)] rfl Try.underlying45 [.int .i64 7, .int .i64 0, .string ⟨#[]⟩, .slice a1 2 c1, .bool false, .string ⟨#[]⟩] (by kernel_rfl) ?_
    intro bO wd hBO hP
    have hPw := hPw.pure hP
    try have hBP := hBP.ext hP id
    try have hBB := hBB.ext hP id
    try have hL2 := hL2.pure hP
    have hL1 := hL1.pure hP
    refine hK.out _ _ (hP.mono (fun _ _ e => e.elim)) (fun hHeld => ?_)
    clear hK K hHeld
    refine region_now (hP.mono (fun _ _ e => e.elim)) ?_
    try simp only [Act.put, List.setIfInBounds_toArray, List.set_cons_zero, List.set_cons_succ]
    refine wpAnyH_ready (rs := [7]) (by kernel_rfl) (by simp) (AllReadyH.cons rfl (fun K hK => ?_) AllReadyH.nil)
    go_simp
    refine (int_any (-270) _).mono ?_
    rintro e wf ⟨rfl, hP⟩
    have hPw := hPw.pure hP
    try have hBA := hBA.ext hP id
    try have hBO := hBO.ext hP id
    try have hBB := hBB.ext hP id
    try have hBP := hBP.ext hP id
    try have hL1 := hL1.pure hP
    try have hL2 := hL2.pure hP
    refine hK.out _ _ (hP.mono (fun _ _ e => e.elim)) (fun hHeld => ?_)
    clear hK K hHeld
    refine region_now (hP.mono (fun _ _ e => e.elim)) ?_
    try simp only [Act.put, List.setIfInBounds_toArray, List.set_cons_zero, List.set_cons_succ]
    refine wpAnyH_ready (rs := [8]) (by kernel_rfl) (by simp) (AllReadyH.cons rfl (fun K hK => ?_) AllReadyH.nil)
    refine step_of_list ?_
    refine wpList_slice_new rfl 22 24 2 #[(0, .tmp 22), (1, .tmp 23)] rfl Try.underlying22 [.int .i64 5, .int .i64 0, .string kRot, .slice none 0 0, .int .i64 2, .int .i64 (-270), .string ⟨#[]⟩, .slice none 0 0] (by kernel_rfl) ?_
    intro bB wg hBB hP
    have hPw := hPw.pure hP
    have hL1 := hL1.pure hP
    try have hBP := hBP.ext hP id
    try have hBO := hBO.ext hP id
    refine hK.out _ _ (hP.mono (fun _ _ e => e.elim)) (fun hHeld => ?_)
    clear hK K hHeld
    refine region_now (hP.mono (fun _ _ e => e.elim)) ?_
    try simp only [Act.put, List.setIfInBounds_toArray, List.set_cons_zero, List.set_cons_succ]
    refine wpAnyH_ready (rs := [9]) (by kernel_rfl) (by simp) (AllReadyH.cons rfl (fun K hK => ?_) AllReadyH.nil)
    go_simp
    refine (dictof_any 1 [nameV kRot, intV (-270)] [.int .i64 5, .int .i64 0, .string kRot, .slice none 0 0, .int .i64 2, .int .i64 (-270), .string ⟨#[]⟩, .slice none 0 0] (some ⟨bB, 0, none⟩) 2 2 _ ((Fit.single (Lies.leaf _ 1 5 0 kRot (by decide))).append (Fit.single (Lies.leaf _ 1 2 (-270) ⟨#[]⟩ (by decide)))) (row_of_block hBB) rfl (by decide)).mono ?_
    rintro e wh ⟨ce, rfl, hT2, hP, _⟩
    rw [gv_dict] at hT2
    have hL2 := hT2.lies hP
    obtain ⟨a2, c2, _, hce, _⟩ := hL2.kids
    subst hce
    clear hT2 hBB
    have hPw := hPw.pure hP
    have hL1 := hL1.pure hP
    try have hBP := hBP.ext hP id
    try have hBO := hBO.ext hP id
    refine hK.out _ _ (hP.mono (fun _ _ e => e.elim)) (fun hHeld => ?_)
    clear hK K hHeld
    refine region_now (hP.mono (fun _ _ e => e.elim)) ?_
    try simp only [Act.put, List.setIfInBounds_toArray, List.set_cons_zero, List.set_cons_succ]
    refine region_take 10 26 (v := ?vwkq1q1q010) rfl rfl (by kernel_rfl) (by kernel_rfl) (by kernel_rfl) (fun _ _ _ h => h) (by rfl) (fun w' hS => ?hwkq1q1q010) ?rwkq1q1q010
    case hwkq1q1q010 => go_simp; with_reducible rfl
    try simp only [Act.put, List.setIfInBounds_toArray, List.set_cons_zero, List.set_cons_succ]
    refine wpAnyH_ready (rs := [12]) (by kernel_rfl) (by simp) (AllReadyH.cons rfl (fun K hK => ?_) AllReadyH.nil)
    refine step_of_list ?_
    refine wpList_store_mid rfl 47 (.tmp 2) (.tmp 26) rfl bP 0 #[.slice (some ⟨bO, 0, none⟩) 1 1, .int .i64 7, .int .i64 0, .string ⟨#[]⟩, .slice a2 2 c2] rfl rfl (hBP.there 5 rfl) (by exact size47) (one5 _ _ _ _ _ _ _ _ _) ?_
    refine hK.out _ _ (Ext.setCells _ 0 _ (Ext.refl _ _) (fun _ => hbP2.out)) (fun hHeld => ?_)
    clear hK K hHeld
    refine region_now (Ext.setCells _ 0 _ (Ext.refl _ _) (fun _ => hbP2.out)) ?_
    try simp only [Act.put, List.setIfInBounds_toArray, List.set_cons_zero, List.set_cons_succ]
    refine wpAnyH_done (by kernel_rfl) ?_ _
    rotate_left
    go_simp
    refine (int_any (-270) _).mono ?_
    rintro e wf ⟨rfl, hP⟩
    have hPw := hPw.pure hP
    try have hBA := hBA.ext hP id
    try have hBO := hBO.ext hP id
    try have hBB := hBB.ext hP id
    try have hBP := hBP.ext hP id
    try have hL1 := hL1.pure hP
    try have hL2 := hL2.pure hP
    refine hK.out _ _ (hP.mono (fun _ _ e => e.elim)) (fun hHeld => ?_)
    clear hK K hHeld
    refine region_now (hP.mono (fun _ _ e => e.elim)) ?_
    try simp only [Act.put, List.setIfInBounds_toArray, List.set_cons_zero, List.set_cons_succ]
    refine wpAnyH_ready (rs := [5, 8]) (by kernel_rfl) (by simp) (AllReadyH.cons rfl (fun K hK => ?_) (AllReadyH.cons rfl (fun K hK => ?_) (AllReadyH.nil)))
    refine step_of_list ?_
    refine wpList_slice_new rfl 45 69 1 #[(0, .tmp 20)] rfl Try.underlying45 [.int .i64 7, .int .i64 0, .string ⟨#[]⟩, .slice a1 2 c1, .bool false, .string ⟨#[]⟩] (by kernel_rfl) ?_
    intro bO wd hBO hP
    have hPw := hPw.pure hP
    try have hBP := hBP.ext hP id
    try have hBB := hBB.ext hP id
    try have hL2 := hL2.pure hP
    have hL1 := hL1.pure hP
    refine hK.out _ _ (hP.mono (fun _ _ e => e.elim)) (fun hHeld => ?_)
    clear hK K hHeld
    refine region_now (hP.mono (fun _ _ e => e.elim)) ?_
    try simp only [Act.put, List.setIfInBounds_toArray, List.set_cons_zero, List.set_cons_succ]
    refine wpAnyH_ready (rs := [8]) (by kernel_rfl) (by simp) (AllReadyH.cons rfl (fun K hK => ?_) AllReadyH.nil)
    refine step_of_list ?_
    refine wpList_slice_new rfl 22 24 2 #[(0, .tmp 22), (1, .tmp 23)] rfl Try.underlying22 [.int .i64 5, .int .i64 0, .string kRot, .slice none 0 0, .int .i64 2, .int .i64 (-270), .string ⟨#[]⟩, .slice none 0 0] (by kernel_rfl) ?_
    intro bB wg hBB hP
    have hPw := hPw.pure hP
    have hL1 := hL1.pure hP
    try have hBP := hBP.ext hP id
    try have hBO := hBO.ext hP id
    refine hK.out _ _ (hP.mono (fun _ _ e => e.elim)) (fun hHeld => ?_)
    clear hK K hHeld
    refine region_now (hP.mono (fun _ _ e => e.elim)) ?_
    try simp only [Act.put, List.setIfInBounds_toArray, List.set_cons_zero, List.set_cons_succ]
    refine wpAnyH_ready (rs := [9]) (by kernel_rfl) (by simp) (AllReadyH.cons rfl (fun K hK => ?_) AllReadyH.nil)
    go_simp
    refine (dictof_any 1 [nameV kRot, intV (-270)] [.int .i64 5, .int .i64 0, .string kRot, .slice none 0 0, .int .i64 2, .int .i64 (-270), .string ⟨#[]⟩, .slice none 0 0] (some ⟨bB, 0, none⟩) 2 2 _ ((Fit.single (Lies.leaf _ 1 5 0 kRot (by decide))).append (Fit.single (Lies.leaf _ 1 2 (-270) ⟨#[]⟩ (by decide)))) (row_of_block hBB) rfl (by decide)).mono ?_
    rintro e wh ⟨ce, rfl, hT2, hP, _⟩
    rw [gv_dict] at hT2
    have hL2 := hT2.lies hP
    obtain ⟨a2, c2, _, hce, _⟩ := hL2.kids
    subst hce
    clear hT2 hBB
    have hPw := hPw.pure hP
    have hL1 := hL1.pure hP
    try have hBP := hBP.ext hP id
    try have hBO := hBO.ext hP id
    refine hK.out _ _ (hP.mono (fun _ _ e => e.elim)) (fun hHeld => ?_)
    clear hK K hHeld
    refine region_now (hP.mono (fun _ _ e => e.elim)) ?_
    try simp only [Act.put, List.setIfInBounds_toArray, List.set_cons_zero, List.set_cons_succ]
    refine region_take 10 26 (v := ?vwkq1q1q1q010) rfl rfl (by kernel_rfl) (by kernel_rfl) (by kernel_rfl) (fun _ _ _ h => h) (by rfl) (fun w' hS => ?hwkq1q1q1q010) ?rwkq1q1q1q010
    case hwkq1q1q1q010 => go_simp; with_reducible rfl
    try simp only [Act.put, List.setIfInBounds_toArray, List.set_cons_zero, List.set_cons_succ]
    refine wpAnyH_ready (rs := [12]) (by kernel_rfl) (by simp) (AllReadyH.cons rfl (fun K hK => ?_) AllReadyH.nil)
    refine step_of_list ?_
    refine wpList_store_mid rfl 47 (.tmp 2) (.tmp 26) rfl bP 0 #[.slice (some ⟨bO, 0, none⟩) 1 1, .int .i64 7, .int .i64 0, .string ⟨#[]⟩, .slice a2 2 c2] rfl rfl (hBP.there 5 rfl) (by exact size47) (one5 _ _ _ _ _ _ _ _ _) ?_
    refine hK.out _ _ (Ext.setCells _ 0 _ (Ext.refl _ _) (fun _ => hbP2.out)) (fun hHeld => ?_)
    clear hK K hHeld
    refine region_now (Ext.setCells _ 0 _ (Ext.refl _ _) (fun _ => hbP2.out)) ?_
    try simp only [Act.put, List.setIfInBounds_toArray, List.set_cons_zero, List.set_cons_succ]
    refine wpAnyH_done (by kernel_rfl) ?_ _
    rotate_left
    refine step_of_list ?_
    refine wpList_slice_new rfl 22 24 2 #[(0, .tmp 22), (1, .tmp 23)] rfl Try.underlying22 [.int .i64 5, .int .i64 0, .string kRot, .slice none 0 0, .int .i64 2, .int .i64 (-270), .string ⟨#[]⟩, .slice none 0 0] (by kernel_rfl) ?_
    intro bB wg hBB hP
    have hPw := hPw.pure hP
    have hL1 := hL1.pure hP
    try have hBP := hBP.ext hP id
    try have hBO := hBO.ext hP id
    refine hK.out _ _ (hP.mono (fun _ _ e => e.elim)) (fun hHeld => ?_)
    clear hK K hHeld
    refine region_now (hP.mono (fun _ _ e => e.elim)) ?_
    try simp only [Act.put, List.setIfInBounds_toArray, List.set_cons_zero, List.set_cons_succ]
    refine wpAnyH_ready (rs := [5, 9]) (by kernel_rfl) (by simp) (AllReadyH.cons rfl (fun K hK => ?_) (AllReadyH.cons rfl (fun K hK => ?_) (AllReadyH.nil)))
    refine step_of_list ?_
    refine wpList_slice_new rfl 45 69 1 #[(0, .tmp 20)] rfl Try.underlying45 [.int .i64 7, .int .i64 0, .string ⟨#[]⟩, .slice a1 2 c1, .bool false, .string ⟨#[]⟩] (by kernel_rfl) ?_
    intro bO wd hBO hP
    have hPw := hPw.pure hP
    try have hBP := hBP.ext hP id
    try have hBB := hBB.ext hP id
    try have hL2 := hL2.pure hP
    have hL1 := hL1.pure hP
    refine hK.out _ _ (hP.mono (fun _ _ e => e.elim)) (fun hHeld => ?_)
    clear hK K hHeld
    refine region_now (hP.mono (fun _ _ e => e.elim)) ?_
    try simp only [Act.put, List.setIfInBounds_toArray, List.set_cons_zero, List.set_cons_succ]
    refine wpAnyH_ready (rs := [9]) (by kernel_rfl) (by simp) (AllReadyH.cons rfl (fun K hK => ?_) AllReadyH.nil)
    go_simp
    refine (dictof_any 1 [nameV kRot, intV (-270)] [.int .i64 5, .int .i64 0, .string kRot, .slice none 0 0, .int .i64 2, .int .i64 (-270), .string ⟨#[]⟩, .slice none 0 0] (some ⟨bB, 0, none⟩) 2 2 _ ((Fit.single (Lies.leaf _ 1 5 0 kRot (by decide))).append (Fit.single (Lies.leaf _ 1 2 (-270) ⟨#[]⟩ (by decide)))) (row_of_block hBB) rfl (by decide)).mono ?_
    rintro e wh ⟨ce, rfl, hT2, hP, _⟩
    rw [gv_dict] at hT2
    have hL2 := hT2.lies hP
    obtain ⟨a2, c2, _, hce, _⟩ := hL2.kids
    subst hce
    clear hT2 hBB
    have hPw := hPw.pure hP
    have hL1 := hL1.pure hP
    try have hBP := hBP.ext hP id
    try have hBO := hBO.ext hP id
    refine hK.out _ _ (hP.mono (fun _ _ e => e.elim)) (fun hHeld => ?_)
    clear hK K hHeld
    refine region_now (hP.mono (fun _ _ e => e.elim)) ?_
    try simp only [Act.put, List.setIfInBounds_toArray, List.set_cons_zero, List.set_cons_succ]
    refine region_take 10 26 (v := ?vwkq1q1q1q1q010) rfl rfl (by kernel_rfl) (by kernel_rfl) (by kernel_rfl) (fun _ _ _ h => h) (by rfl) (fun w' hS => ?hwkq1q1q1q1q010) ?rwkq1q1q1q1q010
    case hwkq1q1q1q1q010 => go_simp; with_reducible rfl
    try simp only [Act.put, List.setIfInBounds_toArray, List.set_cons_zero, List.set_cons_succ]
    refine wpAnyH_ready (rs := [12]) (by kernel_rfl) (by simp) (AllReadyH.cons rfl (fun K hK => ?_) AllReadyH.nil)
    refine step_of_list ?_
    refine wpList_store_mid rfl 47 (.tmp 2) (.tmp 26) rfl bP 0 #[.slice (some ⟨bO, 0, none⟩) 1 1, .int .i64 7, .int .i64 0, .string ⟨#[]⟩, .slice a2 2 c2] rfl rfl (hBP.there 5 rfl) (by exact size47) (one5 _ _ _ _ _ _ _ _ _) ?_
    refine hK.out _ _ (Ext.setCells _ 0 _ (Ext.refl _ _) (fun _ => hbP2.out)) (fun hHeld => ?_)
    clear hK K hHeld
    refine region_now (Ext.setCells _ 0 _ (Ext.refl _ _) (fun _ => hbP2.out)) ?_
    try simp only [Act.put, List.setIfInBounds_toArray, List.set_cons_zero, List.set_cons_succ]
    refine wpAnyH_done (by kernel_rfl) ?_ _
    rotate_left
    go_simp
    refine (dictof_any 1 [nameV kRot, intV (-270)] [.int .i64 5, .int .i64 0, .string kRot, .slice none 0 0, .int .i64 2, .int .i64 (-270), .string ⟨#[]⟩, .slice none 0 0] (some ⟨bB, 0, none⟩) 2 2 _ ((Fit.single (Lies.leaf _ 1 5 0 kRot (by decide))).append (Fit.single (Lies.leaf _ 1 2 (-270) ⟨#[]⟩ (by decide)))) (row_of_block hBB) rfl (by decide)).mono ?_
    rintro e wh ⟨ce, rfl, hT2, hP, _⟩
    rw [gv_dict] at hT2
    have hL2 := hT2.lies hP
    obtain ⟨a2, c2, _, hce, _⟩ := hL2.kids
    subst hce
    clear hT2 hBB
    have hPw := hPw.pure hP
    have hL1 := hL1.pure hP
    try have hBP := hBP.ext hP id
    try have hBO := hBO.ext hP id
    refine hK.out _ _ (hP.mono (fun _ _ e => e.elim)) (fun hHeld => ?_)
    clear hK K hHeld
    refine region_now (hP.mono (fun _ _ e => e.elim)) ?_
    try simp only [Act.put, List.setIfInBounds_toArray, List.set_cons_zero, List.set_cons_succ]
    refine wpAnyH_ready (rs := [5]) (by kernel_rfl) (by simp) (AllReadyH.cons rfl (fun K hK => ?_) AllReadyH.nil)
    refine step_of_list ?_
    refine wpList_slice_new rfl 45 69 1 #[(0, .tmp 20)] rfl Try.underlying45 [.int .i64 7, .int .i64 0, .string ⟨#[]⟩, .slice a1 2 c1, .bool false, .string ⟨#[]⟩] (by kernel_rfl) ?_
    intro bO wd hBO hP
    have hPw := hPw.pure hP
    try have hBP := hBP.ext hP id
    try have hBB := hBB.ext hP id
    try have hL2 := hL2.pure hP
    have hL1 := hL1.pure hP
    refine hK.out _ _ (hP.mono (fun _ _ e => e.elim)) (fun hHeld => ?_)
    clear hK K hHeld
    refine region_now (hP.mono (fun _ _ e => e.elim)) ?_
    try simp only [Act.put, List.setIfInBounds_toArray, List.set_cons_zero, List.set_cons_succ]
    refine region_take 10 26 (v := ?vwkq1q1q1q1q110) rfl rfl (by kernel_rfl) (by kernel_rfl) (by kernel_rfl) (fun _ _ _ h => h) (by rfl) (fun w' hS => ?hwkq1q1q1q1q110) ?rwkq1q1q1q1q110
    case hwkq1q1q1q1q110 => go_simp; with_reducible rfl
    try simp only [Act.put, List.setIfInBounds_toArray, List.set_cons_zero, List.set_cons_succ]
    refine wpAnyH_ready (rs := [12]) (by kernel_rfl) (by simp) (AllReadyH.cons rfl (fun K hK => ?_) AllReadyH.nil)
    refine step_of_list ?_
    refine wpList_store_mid rfl 47 (.tmp 2) (.tmp 26) rfl bP 0 #[.slice (some ⟨bO, 0, none⟩) 1 1, .int .i64 7, .int .i64 0, .string ⟨#[]⟩, .slice a2 2 c2] rfl rfl (hBP.there 5 rfl) (by exact size47) (one5 _ _ _ _ _ _ _ _ _) ?_
    refine hK.out _ _ (Ext.setCells _ 0 _ (Ext.refl _ _) (fun _ => hbP2.out)) (fun hHeld => ?_)
    clear hK K hHeld
    refine region_now (Ext.setCells _ 0 _ (Ext.refl _ _) (fun _ => hbP2.out)) ?_
    try simp only [Act.put, List.setIfInBounds_toArray, List.set_cons_zero, List.set_cons_succ]
    refine wpAnyH_done (by kernel_rfl) ?_ _
    rotate_left
    all_goals
      go_simp
      try simp only [Act.put, List.setIfInBounds_toArray, List.set_cons_zero, List.set_cons_succ]
      go_wp2_with fail
      go_meet
      case rel =>
        refine ⟨bP, rfl, Lib.hid (pg_at hBP hBO hL1.more hL2.more), Lib.hid ?_⟩
        exact Ext.setCells _ 0 _ (HPw.out.pure hPw) (b := bP) (fun h => by have h1 := hbP2.out; have h2 := HPw.out.size; have h3 : bP < w.heap.size := h; omega)
end Go.Proofs.Ytnibjjpohhknkaa
