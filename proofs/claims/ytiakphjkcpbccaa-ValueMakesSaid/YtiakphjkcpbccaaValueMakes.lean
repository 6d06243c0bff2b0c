/-
  ValueMakes: names, numbers, references and dictionaries that are made are as the document says. No condition.
-/
import Derived.Test.YtiakphjkcpbccaaLoadG
import Derived.Test.YtiakphjkcpbccaaSizes
namespace Go.Proofs.Ytiakphjkcpbccaa.valueMakes
open Go.ChangeShapes Go.WideShapes Go.ChangeAt Go.RowKit Go.Proofs.Ytiakphjkcpbccaa
set_option linter.unusedVariables false

set_option maxRecDepth 100000 in
theorem open_vals {H : Type} {enc : TypeId × Value → H} {W : World} {v : Value} {d : DataW H} {p : List MemPlace} {base : Nat}
    (hv : Value.okWide Try.prog W .any base 22 v) (h : DataW.Trod enc Try.prog W 0 (fun _ => true) true 22 v d p) :
    ∃ (F : Nat) (a : Option Addr) (c : Nat) (l : List V) (xs : List Value), v = .slice a l.length c ∧ Fit W F l xs ∧ RowOf W a xs ∧ (l.length : Int) ≤ 9223372036854775807 := by
  obtain ⟨a0, len, cap, rfl⟩ := okWide_slice Try.underlying22 hv
  obtain ⟨fuel, hf⟩ := h
  have s4 : Try.prog.cellsOf 24 = 4 := by kernel_rfl
  obtain ⟨a, c, rows, hcs, hl, hm, hn, hq, hrow⟩ := open_rows2 (size := 4) (Q := fun cs (u : V) => Lies W fuel u cs) Try.underlying22 s4 (by decide) (fun n' cs y hn' hy hlen => by
    obtain ⟨u, hu⟩ := open_lies n' cs y hy hlen
    exact ⟨u, hu.mono (by omega)⟩) hf
  cases hcs
  refine ⟨fuel, a0, cap, rows.map (·.2), (rows.map (·.1)).flatMap id, by rw [List.length_map], fit_rows _ _ (by rw [List.length_map, List.length_map]) ?_, by rw [List.flatMap_map]; exact hrow, by unfold maxLen at hm; rw [List.length_map]; omega⟩
  intro i u r hu hr
  simp only [List.getElem?_map, Option.map_eq_some_iff] at hu hr
  obtain ⟨q, h1, rfl⟩ := hu
  obtain ⟨q', h2, rfl⟩ := hr
  rw [h1] at h2
  cases h2
  exact (hq q (List.mem_of_getElem? h1)).2
theorem dictL_odd : ∀ (l : List V) (v : V) (K : Nat), K % 2 = 0 → dictL (l.take (K + 1)) v = dictL (l.take K) v
  | [], v, K, _ => by simp
  | [x], v, K, h => by
    cases K with
    | zero => rfl
    | succ K => simp
  | k :: x :: r, v, 0, h => rfl
  | k :: x :: r, v, 1, h => by simp at h
  | k :: x :: r, v, K + 2, h => by
    rw [List.take_succ_cons, List.take_succ_cons, List.take_succ_cons, List.take_succ_cons, dictL, dictL]
    exact dictL_odd r (v.put k.s x) K (by omega)
theorem dictL_even : ∀ (l : List V) (v : V) (K : Nat) (t t2 : V), K % 2 = 0 → l[K]? = some t → l[K + 1]? = some t2 → dictL (l.take (K + 2)) v = (dictL (l.take K) v).put t.s t2
  | [], v, K, t, t2, _, h, _ => by simp at h
  | [x], v, K, t, t2, _, _, h => by simp at h
  | k :: x :: r, v, 0, t, t2, _, h, h2 => by
    cases h
    cases h2
    rfl
  | k :: x :: r, v, 1, t, t2, h, _, _ => by simp at h
  | k :: x :: r, v, K + 2, t, t2, h, h1, h2 => by
    rw [List.take_succ_cons, List.take_succ_cons, List.take_succ_cons, List.take_succ_cons, dictL, dictL]
    exact dictL_even r (v.put k.s x) K t t2 (by omega) (by simpa using h1) (by simpa using h2)
theorem dictL_size : ∀ (l : List V) (v : V) (m : Nat), (∀ u ∈ l, u.size ≤ m) → (dictL l v).size ≤ v.size + l.length * (m + 1)
  | [], v, m, _ => by simp [dictL]
  | [x], v, m, _ => by simp [dictL]
  | k :: x :: r, v, m, h => by
    rw [dictL]
    have h1 := dictL_size r (v.put k.s x) m (fun u hu => h u (by simp [hu]))
    have h2 := size_put v k.s x
    have h3 := h x (by simp)
    simp only [List.length_cons]
    have : (r.length + 1 + 1) * (m + 1) = r.length * (m + 1) + (m + 1) + (m + 1) := by rw [Nat.add_mul, Nat.add_mul, Nat.one_mul]
    omega
theorem size_empty : emptyD.size = 1 := by rw [size_eq]; rfl
set_option maxHeartbeats 8000000 in
set_option maxRecDepth 100000 in
theorem walk (s : ByteArray) (nn : Int) (F : Nat) (a : Option Addr) (c : Nat) (l : List V) (xs : List Value) (w : World) (hf0 : Fit w F l xs) (hr : RowOf w a xs) (hln : (l.length : Int) ≤ 9223372036854775807) (hs : s.size ≤ maxLen) :
    Calls Try.prog 4 #[.string s, .int .i64 nn, .slice a l.length c] w fun e w' => e = .returned (.bool true) ∧ Below w.heap.size w w' := by
  have hf : Fit w (F + 1) l xs := hf0.mono (Nat.le_succ F)
  have HFit := Lib.hid hf
  have HRow := Lib.hid hr
  obtain ⟨n, hn⟩ : ∃ z, z = l.length := ⟨_, rfl⟩
  rw [← hn] at hln ⊢
  have HN := Lib.hid hn
  clear hf hr hn hf0
  by_cases hs3 : s.size ≤ 300
  · have hsi : ¬ (300 : Int) < (s.size : Int) := by omega
    by_cases hn4 : n ≤ 40
    · have hni : ¬ (40 : Int) < (n : Int) := by omega
      obtain ⟨tb, htb⟩ : ∃ z, z = w.heap.size := ⟨_, rfl⟩
      obtain ⟨w1, hw1⟩ : ∃ z, z = w.alloc (.cells emptyCs.toArray 24) := ⟨_, rfl⟩
      have hs1 : w1.heap.size = tb + 1 := by rw [hw1, World.size_alloc, htb]
      have hB1 : BlockIs w1 tb emptyCs 24 := by rw [htb, hw1]; exact BlockIs.new w _ _
      have hP1 : Pure w w1 := hw1 ▸ ext_alloc w _
      have HW : Hid (w.alloc (.cells #[.int .i64 7, .int .i64 0, .string ⟨#[]⟩, .slice none 0 0] 24) = w1) := Lib.hid (by rw [hw1]; rfl)
      have HTb := Lib.hid htb
      have HB1 := Lib.hid hB1
      have HP1 := Lib.hid hP1
      have HS1 := Lib.hid hs1
      clear hw1 htb hs1 hB1 hP1
      go_enter Try.func4, Try.ntmps4
      go_wp2_with fail
      rw [HW.out, ← HTb.out]
      go_loopw [8] (fun k W => ∃ (K : Nat) (cs : List Value), K ≤ n ∧ k = .int .i64 K ∧ Hid (BlockIs W tb cs 24) ∧ Hid (Top w W (F + 1) (dictL (l.take K) emptyD) cs) ∧ Hid (∀ u ∈ l.take K, u.size ≤ 300) ∧ Hid (∀ b, b < tb + 1 → Off b cs) ∧ Hid (Pure w W) ∧ Hid (tb + 1 ≤ W.heap.size)) (fun i _ => n - (intOf i).toNat)
      case atStart => exact ⟨0, emptyCs, Nat.zero_le _, rfl, HB1, Lib.hid (Top.leaf _ _ _ _ _ _ (Nat.zero_le _)), Lib.hid (fun u hu => by simp at hu), Lib.hid (fun b _ => empty_off b), HP1, Lib.hid (Nat.le_of_eq HS1.out.symm)⟩
      case round =>
        obtain ⟨K, cs, hkn, rfl, HBv, HT, HSm, HOff, HP, HSz⟩ := hrel
        by_cases hlt : K < n
        · have hki : (K : Int) < (n : Int) := by omega
          obtain ⟨t, ht⟩ : ∃ t, l[K]? = some t := ⟨_, List.getElem?_eq_getElem (by rw [← HN.out]; exact hlt)⟩
          obtain ⟨b, o, q, rfl, hr1, hL1⟩ := HFit.out.full HRow.out K t ht
          have hbl : b < tb := by have := World.block_lt_of_cell? w _ (hr1 0 _ rfl); have h2 := HTb.out; simp only at this; omega
          have hrx := range_ext hr1 HP.out
          have HSl := Lib.hid (fun W (hP : Pure w W) => small_any (hL1.pure hP))
          have hLx := Lib.hid hL1
          have HTk := Lib.hid ht
          have HR1 := Lib.hid hr1
          clear hr1 hL1 ht
          go_wp2_with (with_reducible refine at_load 24 (.tmp 27) ?_; refine wpList_load_g rfl (.tmp 27) rfl b (o + K * 4) rfl [.int .i64 t.kind, .int .i64 t.n, .string t.s, q] hrx (by kernel_rfl) ?_)
          refine (HSl.out wr HP.out).mono ?_
          rintro e w2 ⟨rfl, hP2⟩
          have hP02 := HP.out.pure hP2
          have e2 : w2.cell? ⟨b, o + K * 4 + 2, none⟩ = some (.string t.s) := hP02.cell_some (HR1.out 2 _ rfl) id
          by_cases hz : t.size ≤ 300
          · have ez : decide (t.size ≤ 300) = true := by simp [hz]
            rw [ez]
            clear ez
            by_cases hts : t.s.size ≤ 300
            · have htsi : ¬ (300 : Int) < (t.s.size : Int) := by omega
              have HSm2 : Hid (∀ u ∈ l.take (K + 1), u.size ≤ 300) := Lib.hid (by
                obtain ⟨hkl, htt⟩ := List.getElem?_eq_some_iff.1 HTk.out
                intro u hu
                rw [List.take_succ_eq_append_getElem hkl, List.mem_append] at hu
                rcases hu with hu | hu
                · exact HSm.out u hu
                · simp at hu; subst hu; rw [htt]; exact hz)
              by_cases hodd : K % 2 = 1
              · have hoi : (K : Int) % 2 = 1 := by omega
                obtain ⟨J, hJ⟩ : ∃ J, J + 1 = K := ⟨K - 1, by omega⟩
                subst hJ
                obtain ⟨t0, ht0⟩ : ∃ t0, l[J]? = some t0 := ⟨_, List.getElem?_eq_getElem (by rw [← HN.out]; omega)⟩
                obtain ⟨b0, o0, q0, hbb, hr0, hL0⟩ := HFit.out.full HRow.out J t0 ht0
                cases hbb
                have hks : t0.s.size ≤ maxLen := by obtain ⟨_, _, _, _, _, _, _, _, h⟩ := hL0.kids; exact h
                have hd1 : dictL (l.take (J + 1)) emptyD = dictL (l.take J) emptyD := dictL_odd l emptyD J (by omega)
                have hd2 : dictL (l.take (J + 1 + 1)) emptyD = (dictL (l.take J) emptyD).put t0.s t := dictL_even l emptyD J t0 t (by omega) ht0 HTk.out
                have hT := HT.out
                rw [hd1] at hT
                have hlen : (dictL (l.take J) emptyD).l.length ≤ 90000 := by
                  have h1 := length_size (dictL (l.take J) emptyD)
                  have h2 := dictL_size (l.take J) emptyD 300 (fun u hu => HSm.out u (by rw [← List.take_append_drop J (l.take (J + 1)), List.mem_append, List.take_take, Nat.min_eq_left (Nat.le_succ J)]; exact Or.inl hu))
                  rw [size_empty, List.length_take] at h2
                  have : min J l.length * (300 + 1) ≤ 40 * 301 := Nat.mul_le_mul (by omega) (by omega)
                  omega
                have HPut := Lib.hid (fun W (hP : Pure w2 W) => refput_top w F _ cs t0.s t _ W (hP02.pure hP) (hT.pure (hP2.pure hP)) hLx.out hlen hks)
                rw [← hd2] at HPut
                have HR0 := Lib.hid hr0
                have e20 : w2.cell? ⟨b, o + J * 4 + 2, none⟩ = some (.string t0.s) := hP02.cell_some (hr0 2 _ rfl) id
                have hBv := HBv.out.ext hP2 id
                have HCl := Lib.hid hT.len
                have HSz2 : Hid (tb + 1 ≤ w2.heap.size) := Lib.hid (Nat.le_trans HSz.out hP2.size)
                have HPw := Lib.hid hP02
                have hwj : IntKind.i64.wrap (J : Int) = (J : Int) := by rw [IntKind.wrap_i64]; omega
                have hwj1 : IntKind.i64.wrap ((J : Int) + 1 - 1) = (J : Int) := by rw [IntKind.wrap_i64]; omega
                have hj0 : (0 : Int) ≤ (J : Int) := by omega
                have hjn : (J : Int) < (n : Int) := by omega
                have hk1 : (J : Int) + 1 < (n : Int) := by omega
                have hk0 : (0 : Int) ≤ (J : Int) + 1 := by omega
                have hj1 : (J : Int) + 1 - 1 = (J : Int) := by omega
                clear hr0 hL0 ht0 hd1 hd2 hT hlen
                go_wp2_with fail
                refine region_start (fun k => k = tb) (by kernel_rfl) ?_
                try simp only [Act.put, List.setIfInBounds_toArray, List.set_cons_zero, List.set_cons_succ]
                refine region_take 1 45 (v := ?vda1) rfl rfl (by kernel_rfl) (by kernel_rfl) (by kernel_rfl) (fun _ _ _ h => h) (by rfl) (fun w' hS => ?hda1) ?rda1
                case hda1 => go_simp; with_reducible rfl
                try simp only [Act.put, List.setIfInBounds_toArray, List.set_cons_zero, List.set_cons_succ]
                refine region_take 2 46 (v := ?vda2) rfl rfl (by kernel_rfl) (by kernel_rfl) (by kernel_rfl) (fun _ _ _ h => h) (by rfl) (fun w' hS => ?hda2) ?rda2
                case hda2 => go_simp; with_reducible rfl
                try simp only [Act.put, List.setIfInBounds_toArray, List.set_cons_zero, List.set_cons_succ]
                refine region_take 3 47 (v := ?vda3) rfl rfl (by kernel_rfl) (by kernel_rfl) (by kernel_rfl) (fun _ _ _ h => h) (by rfl) (fun w' hS => ?hda3) ?rda3
                case hda3 => go_simp; with_reducible rfl
                try simp only [Act.put, List.setIfInBounds_toArray, List.set_cons_zero, List.set_cons_succ]
                refine region_take 4 48 (v := ?vda4) rfl rfl (by kernel_rfl) (by kernel_rfl) (by kernel_rfl) (fun _ _ _ h => h) (by rfl) (fun w' hS => ?hda4) ?rda4
                case hda4 => go_simp; with_reducible rfl
                try simp only [Act.put, List.setIfInBounds_toArray, List.set_cons_zero, List.set_cons_succ]
                refine region_take 5 49 (v := ?vda5) rfl rfl (by kernel_rfl) (by kernel_rfl) (by kernel_rfl) (fun _ _ _ h => h) (by rfl) (fun w' hS => ?hda5) ?rda5
                case hda5 => go_simp; with_reducible rfl
                try simp only [Act.put, List.setIfInBounds_toArray, List.set_cons_zero, List.set_cons_succ]
                refine region_take 6 50 (v := ?vda6) rfl rfl (by kernel_rfl) (by kernel_rfl) (by kernel_rfl) (fun _ _ _ h => h) (by rfl) (fun w' hS => ?hda6) ?rda6
                case hda6 => (have e := hS.cell_some (show w2.drew.cell? ⟨b, o + J * 4 + 2, none⟩ = _ from e20) (by intro e; simp only at e; omega); go_simp; with_reducible rfl)
                try simp only [Act.put, List.setIfInBounds_toArray, List.set_cons_zero, List.set_cons_succ]
                refine region_take 7 51 (v := ?vda7) rfl rfl (by kernel_rfl) (by kernel_rfl) (by kernel_rfl) (fun _ _ _ h => h) (by rfl) (fun w' hS => ?hda7) ?rda7
                case hda7 => go_simp; with_reducible rfl
                try simp only [Act.put, List.setIfInBounds_toArray, List.set_cons_zero, List.set_cons_succ]
                refine region_take 8 52 (v := ?vda8) rfl rfl (by kernel_rfl) (by kernel_rfl) (by kernel_rfl) (fun _ _ _ h => h) (by rfl) (fun w' hS => ?hda8) ?rda8
                case hda8 => go_simp; with_reducible rfl
                try simp only [Act.put, List.setIfInBounds_toArray, List.set_cons_zero, List.set_cons_succ]
                refine region_take 9 53 (v := ?vda9) rfl rfl (by kernel_rfl) (by kernel_rfl) (by kernel_rfl) (fun _ _ _ h => h) (by rfl) (fun w' hS => ?hda9) ?rda9
                case hda9 => go_simp; with_reducible rfl
                try simp only [Act.put, List.setIfInBounds_toArray, List.set_cons_zero, List.set_cons_succ]
                refine region_take 10 54 (v := ?vda10) rfl rfl (by kernel_rfl) (by kernel_rfl) (by kernel_rfl) (fun _ _ _ h => h) (by rfl) (fun w' hS => ?hda10) ?rda10
                case hda10 => (have hx := fun j v hv => hS.cell_some (show w2.drew.cell? _ = _ from HPw.out.cell_some (HR1.out j v hv) id) (by intro e; simp only at e; omega); have m0 : w'.cell? ⟨b, o + (J + 1) * 4, none⟩ = some (.int .i64 t.kind) := hx 0 _ rfl; have m1 : w'.cell? ⟨b, o + (J + 1) * 4 + 1, none⟩ = some (.int .i64 t.n) := hx 1 _ rfl; have m2 : w'.cell? ⟨b, o + (J + 1) * 4 + 2, none⟩ = some (.string t.s) := hx 2 _ rfl; have m3 : w'.cell? ⟨b, o + (J + 1) * 4 + 3, none⟩ = some q := hx 3 _ rfl; go_simp; with_reducible rfl)
                try simp only [Act.put, List.setIfInBounds_toArray, List.set_cons_zero, List.set_cons_succ]
                refine wpAnyH_ready (rs := [0]) (by kernel_rfl) (by simp) (AllReadyH.cons rfl (fun K hK => ?_) AllReadyH.nil)
                refine step_of_list ?_
                refine wpList_load_mid rfl 24 (.tmp 7) rfl tb 0 rfl cs _ hBv.range Try.underlying24 rfl (by rw [HCl.out]; kernel_rfl) ?_
                refine hK.out _ _ (Ext.refl _ _) (fun hHeld => ?_)
                clear hK K hHeld
                refine region_now (Ext.refl _ _) ?_
                try simp only [Act.put, List.setIfInBounds_toArray, List.set_cons_zero, List.set_cons_succ]
                refine wpAnyH_ready (rs := [11]) (by kernel_rfl) (by simp) (AllReadyH.cons rfl (fun K hK => ?_) AllReadyH.nil)
                go_simp
                refine (HPut.out _ ((Ext.refl _ w2).drew)).mono ?_
                rintro e w4 ⟨cs4, rfl, hT4, hP4, hO4⟩
                have hP44 : Pure w2 w4 := (Ext.refl _ w2).drew.pure hP4
                have HT4 := Lib.hid hT4
                have HO4 := Lib.hid hO4
                have HP4 := Lib.hid hP4
                have HP44 := Lib.hid hP44
                have HCl4 := Lib.hid hT4.len
                have HOne4 := Lib.hid hT4.one
                have hB4 := hBv.ext hP44 id
                have HTh4 : Hid (w4.there tb 0 cs4.toArray.size) := Lib.hid (by rw [List.size_toArray, HCl4.out]; exact hB4.there 4 HCl.out.symm)
                have HSi4 : Hid ((Try.prog.info? 24).map (·.size) = some cs4.toArray.size) := Lib.hid (by rw [List.size_toArray, HCl4.out]; exact size24)
                have HB4 := Lib.hid hB4
                clear hT4 hP4 hO4 hP44 hB4
                refine hK.out _ _ (HP4.out.mono (fun _ _ e => e.elim)) (fun hHeld => ?_)
                clear hK K hHeld
                refine region_now (HP4.out.mono (fun _ _ e => e.elim)) ?_
                try simp only [Act.put, List.setIfInBounds_toArray, List.set_cons_zero, List.set_cons_succ]
                refine wpAnyH_ready (rs := [12]) (by kernel_rfl) (by simp) (AllReadyH.cons rfl (fun K hK => ?_) AllReadyH.nil)
                refine step_of_list ?_
                refine wpList_store_mid rfl 24 (.tmp 7) (.tmp 55) rfl tb 0 cs4.toArray rfl rfl HTh4.out HSi4.out HOne4.out ?_
                refine hK.out _ _ (Ext.setCells cs4 0 _ (Ext.refl _ _) (fun _ => rfl)) (fun hHeld => ?_)
                clear hK K hHeld
                refine region_now (Ext.setCells cs4 0 _ (Ext.refl _ _) (fun _ => rfl)) ?_
                try simp only [Act.put, List.setIfInBounds_toArray, List.set_cons_zero, List.set_cons_succ]
                refine wpAnyH_done (by kernel_rfl) ?_ _
                have HBz := Lib.hid (HB4.out.setAll cs4 (by rw [HCl4.out, HCl.out]))
                have hX := Ext.setCells cs4 0 w4 (Ext.refl (fun k => k = tb) w4) (b := tb) (fun _ => rfl)
                have HP5 : Hid (Pure w (w4.setCells tb 0 cs4)) := Lib.hid (Ext.setCells cs4 0 w4 (HPw.out.pure HP44.out) (b := tb) (fun h => by have := HTb.out; omega))
                have HOff4 : Hid (∀ b, b < tb + 1 → Off b cs4) := Lib.hid (fun b hb => HO4.out b (by have h1 := HSz2.out; have h2 : w2.drew.heap.size = w2.heap.size := rfl; omega) (HOff.out b hb))
                have HT5 := Lib.hid (HT4.out.ext hX (fun b hb => by subst hb; exact HOff4.out _ (by omega)))
                have HSz5 : Hid (tb + 1 ≤ (w4.setCells tb 0 cs4).heap.size) := Lib.hid (by have h1 := HSz2.out; have h2 := HP44.out.size; have h3 := hX.size; omega)
                clear hX HB4 HTh4 HSi4
                go_wp2_with fail
                go_roundw
                case rel => exact ⟨J + 1 + 1, cs4, by omega, by go_num, HBz, HT5, HSm2, HOff4, HP5, HSz5⟩
                case measure => simp [intOf]; omega
              · have hoi : (K : Int) % 2 = 0 := by omega
                have HT2 : Hid (Top w w2 (F + 1) (dictL (l.take (K + 1)) emptyD) cs) := Lib.hid (by rw [dictL_odd l emptyD K (by omega)]; exact HT.out.pure hP2)
                have HB2 := Lib.hid (HBv.out.ext hP2 id)
                have HSz2 : Hid (tb + 1 ≤ w2.heap.size) := Lib.hid (Nat.le_trans HSz.out hP2.size)
                have HPw := Lib.hid hP02
                clear hP2 hP02
                go_wp2_with fail
                go_roundw
                case rel => exact ⟨K + 1, cs, by omega, by go_num, HB2, HT2, HSm2, HOff, HPw, HSz2⟩
                case measure => simp [intOf]; omega
            · have htsi : (300 : Int) < (t.s.size : Int) := by omega
              go_wp2_with fail
              refine (works_any w2).mono ?_
              rintro e w5 ⟨rfl, hP5⟩
              go_wp2_with fail
              go_ret
              exact ⟨rfl, (hP02.pure hP5).below⟩
          · have ez : decide (t.size ≤ 300) = false := by simp [hz]
            rw [ez]
            go_wp2_with fail
            refine (works_any w2).mono ?_
            rintro e w5 ⟨rfl, hP5⟩
            go_wp2_with fail
            go_ret
            exact ⟨rfl, (hP02.pure hP5).below⟩
        · have hki : ¬ (K : Int) < (n : Int) := by omega
          obtain rfl : K = n := by omega
          have htake : l.take K = l := List.take_of_length_le (by rw [← HN.out]; exact Nat.le_refl _)
          have hT := HT.out
          have hSm := HSm.out
          rw [htake] at hT hSm
          have hdz : (dictL l emptyD).size ≤ 100000 := by
            have h2 := dictL_size l emptyD 300 hSm
            rw [size_empty, ← HN.out] at h2
            have : K * (300 + 1) ≤ 40 * 301 := Nat.mul_le_mul (by omega) (by omega)
            omega
          have HDz := Lib.hid hdz
          have HDo := Lib.hid (fun W (hP : Pure w W) => dictof_any F l xs a K c W (HFit.out.pure hP) (HRow.out.ext hP (fun _ _ => id)) HN.out (by omega))
          have HCl := Lib.hid hT.len
          have HT2 := Lib.hid hT
          obtain ⟨DL, hDL⟩ : ∃ z, z = dictL l emptyD := ⟨_, rfl⟩
          rw [← hDL] at HDz HDo HT2
          have hBv := HBv.out
          have hPv := HP.out
          have HSn := Lib.hid (fun W => refsame_any 1 (nameV s) _ 1 (nameV s) _ W (Lies.leaf W 0 5 0 s hs) (Lies.leaf W 0 5 0 s hs) (by rw [size_name]; decide) (by rw [size_name]; decide))
          have HSi := Lib.hid (fun W => refsame_any 1 (intV nn) _ 1 (intV nn) _ W (Lies.leaf W 0 2 nn ⟨#[]⟩ (by decide)) (Lies.leaf W 0 2 nn ⟨#[]⟩ (by decide)) (by rw [size_eq]; show 1 + sizeL [] ≤ _; simp [sizeL]) (by rw [size_eq]; show 1 + sizeL [] ≤ _; simp [sizeL]))
          have HSr := Lib.hid (fun W => refsame_any 1 (refV nn) _ 1 (refV nn) _ W (Lies.leaf W 0 8 nn ⟨#[]⟩ (by decide)) (Lies.leaf W 0 8 nn ⟨#[]⟩ (by decide)) (by rw [size_eq]; show 1 + sizeL [] ≤ _; simp [sizeL]) (by rw [size_eq]; show 1 + sizeL [] ≤ _; simp [sizeL]))
          simp only [cmp_self, decide_true] at HSn HSi HSr
          clear hT hSm hdz hDL HT HSm htake
          go_wp2_with fail
          have hBv := hBv.drew
          have hPv := hPv.drew
          have hQv := (Ext.refl (fun _ => False) wr).drew
          refine region_start (fun _ => False) (by kernel_rfl) ?_
          try simp only [Act.put, List.setIfInBounds_toArray, List.set_cons_zero, List.set_cons_succ]
          refine region_take 0 56 (v := ?vea0) rfl rfl (by kernel_rfl) (by kernel_rfl) (by kernel_rfl) (fun _ _ _ h => h) (by rfl) (fun w' hS => ?hea0) ?rea0
          case hea0 => go_simp; with_reducible rfl
          try simp only [Act.put, List.setIfInBounds_toArray, List.set_cons_zero, List.set_cons_succ]
          refine region_take 2 58 (v := ?vea2) rfl rfl (by kernel_rfl) (by kernel_rfl) (by kernel_rfl) (fun _ _ _ h => h) (by rfl) (fun w' hS => ?hea2) ?rea2
          case hea2 => go_simp; with_reducible rfl
          try simp only [Act.put, List.setIfInBounds_toArray, List.set_cons_zero, List.set_cons_succ]
          refine region_take 3 59 (v := ?vea3) rfl rfl (by kernel_rfl) (by kernel_rfl) (by kernel_rfl) (fun _ _ _ h => h) (by rfl) (fun w' hS => ?hea3) ?rea3
          case hea3 => go_simp; with_reducible rfl
          try simp only [Act.put, List.setIfInBounds_toArray, List.set_cons_zero, List.set_cons_succ]
          refine wpAnyH_ready (rs := [1]) (by kernel_rfl) (by simp) (AllReadyH.cons rfl (fun K hK => ?_) AllReadyH.nil)
          go_simp
          refine (name_any s _).mono ?_
          rintro e w10 ⟨rfl, hP⟩
          have hBv := hBv.ext hP id
          have hQv := hQv.pure hP
          have hPv := hPv.pure hP
          refine hK.out _ _ (hP) (fun hHeld => ?_)
          clear hK K hHeld
          refine region_now (hP) ?_
          try simp only [Act.put, List.setIfInBounds_toArray, List.set_cons_zero, List.set_cons_succ]
          refine wpAnyH_ready (rs := [4]) (by kernel_rfl) (by simp) (AllReadyH.cons rfl (fun K hK => ?_) AllReadyH.nil)
          go_simp
          refine (HSn.out _).mono ?_
          rintro e w11 ⟨rfl, hP⟩
          have hBv := hBv.ext hP id
          have hQv := hQv.pure hP
          have hPv := hPv.pure hP
          refine hK.out _ _ (hP) (fun hHeld => ?_)
          clear hK K hHeld
          refine region_now (hP) ?_
          try simp only [Act.put, List.setIfInBounds_toArray, List.set_cons_zero, List.set_cons_succ]
          refine region_take 5 61 (v := ?vea5) rfl rfl (by kernel_rfl) (by kernel_rfl) (by kernel_rfl) (fun _ _ _ h => h) (by rfl) (fun w' hS => ?hea5) ?rea5
          case hea5 => go_simp; with_reducible rfl
          try simp only [Act.put, List.setIfInBounds_toArray, List.set_cons_zero, List.set_cons_succ]
          refine region_take 6 62 (v := ?vea6) rfl rfl (by kernel_rfl) (by kernel_rfl) (by kernel_rfl) (fun _ _ _ h => h) (by rfl) (fun w' hS => ?hea6) ?rea6
          case hea6 => go_simp; with_reducible rfl
          try simp only [Act.put, List.setIfInBounds_toArray, List.set_cons_zero, List.set_cons_succ]
          refine region_take 8 64 (v := ?vea8) rfl rfl (by kernel_rfl) (by kernel_rfl) (by kernel_rfl) (fun _ _ _ h => h) (by rfl) (fun w' hS => ?hea8) ?rea8
          case hea8 => go_simp; with_reducible rfl
          try simp only [Act.put, List.setIfInBounds_toArray, List.set_cons_zero, List.set_cons_succ]
          refine region_take 9 65 (v := ?vea9) rfl rfl (by kernel_rfl) (by kernel_rfl) (by kernel_rfl) (fun _ _ _ h => h) (by rfl) (fun w' hS => ?hea9) ?rea9
          case hea9 => go_simp; with_reducible rfl
          try simp only [Act.put, List.setIfInBounds_toArray, List.set_cons_zero, List.set_cons_succ]
          refine wpAnyH_ready (rs := [7]) (by kernel_rfl) (by simp) (AllReadyH.cons rfl (fun K hK => ?_) AllReadyH.nil)
          go_simp
          refine (int_any nn _).mono ?_
          rintro e w12 ⟨rfl, hP⟩
          have hBv := hBv.ext hP id
          have hQv := hQv.pure hP
          have hPv := hPv.pure hP
          refine hK.out _ _ (hP) (fun hHeld => ?_)
          clear hK K hHeld
          refine region_now (hP) ?_
          try simp only [Act.put, List.setIfInBounds_toArray, List.set_cons_zero, List.set_cons_succ]
          refine wpAnyH_ready (rs := [10]) (by kernel_rfl) (by simp) (AllReadyH.cons rfl (fun K hK => ?_) AllReadyH.nil)
          go_simp
          refine (HSi.out _).mono ?_
          rintro e w13 ⟨rfl, hP⟩
          have hBv := hBv.ext hP id
          have hQv := hQv.pure hP
          have hPv := hPv.pure hP
          refine hK.out _ _ (hP) (fun hHeld => ?_)
          clear hK K hHeld
          refine region_now (hP) ?_
          try simp only [Act.put, List.setIfInBounds_toArray, List.set_cons_zero, List.set_cons_succ]
          refine region_take 11 67 (v := ?vea11) rfl rfl (by kernel_rfl) (by kernel_rfl) (by kernel_rfl) (fun _ _ _ h => h) (by rfl) (fun w' hS => ?hea11) ?rea11
          case hea11 => go_simp; with_reducible rfl
          try simp only [Act.put, List.setIfInBounds_toArray, List.set_cons_zero, List.set_cons_succ]
          refine region_take 12 68 (v := ?vea12) rfl rfl (by kernel_rfl) (by kernel_rfl) (by kernel_rfl) (fun _ _ _ h => h) (by rfl) (fun w' hS => ?hea12) ?rea12
          case hea12 => go_simp; with_reducible rfl
          try simp only [Act.put, List.setIfInBounds_toArray, List.set_cons_zero, List.set_cons_succ]
          refine region_take 13 69 (v := ?vea13) rfl rfl (by kernel_rfl) (by kernel_rfl) (by kernel_rfl) (fun _ _ _ h => h) (by rfl) (fun w' hS => ?hea13) ?rea13
          case hea13 => go_simp; with_reducible rfl
          try simp only [Act.put, List.setIfInBounds_toArray, List.set_cons_zero, List.set_cons_succ]
          refine region_take 15 71 (v := ?vea15) rfl rfl (by kernel_rfl) (by kernel_rfl) (by kernel_rfl) (fun _ _ _ h => h) (by rfl) (fun w' hS => ?hea15) ?rea15
          case hea15 => go_simp; with_reducible rfl
          try simp only [Act.put, List.setIfInBounds_toArray, List.set_cons_zero, List.set_cons_succ]
          refine region_take 16 72 (v := ?vea16) rfl rfl (by kernel_rfl) (by kernel_rfl) (by kernel_rfl) (fun _ _ _ h => h) (by rfl) (fun w' hS => ?hea16) ?rea16
          case hea16 => go_simp; with_reducible rfl
          try simp only [Act.put, List.setIfInBounds_toArray, List.set_cons_zero, List.set_cons_succ]
          refine wpAnyH_ready (rs := [14]) (by kernel_rfl) (by simp) (AllReadyH.cons rfl (fun K hK => ?_) AllReadyH.nil)
          go_simp
          refine (ref_any nn _).mono ?_
          rintro e w14 ⟨rfl, hP⟩
          have hBv := hBv.ext hP id
          have hQv := hQv.pure hP
          have hPv := hPv.pure hP
          refine hK.out _ _ (hP) (fun hHeld => ?_)
          clear hK K hHeld
          refine region_now (hP) ?_
          try simp only [Act.put, List.setIfInBounds_toArray, List.set_cons_zero, List.set_cons_succ]
          refine wpAnyH_ready (rs := [17]) (by kernel_rfl) (by simp) (AllReadyH.cons rfl (fun K hK => ?_) AllReadyH.nil)
          go_simp
          refine (HSr.out _).mono ?_
          rintro e w15 ⟨rfl, hP⟩
          have hBv := hBv.ext hP id
          have hQv := hQv.pure hP
          have hPv := hPv.pure hP
          refine hK.out _ _ (hP) (fun hHeld => ?_)
          clear hK K hHeld
          refine region_now (hP) ?_
          try simp only [Act.put, List.setIfInBounds_toArray, List.set_cons_zero, List.set_cons_succ]
          refine region_take 18 74 (v := ?vea18) rfl rfl (by kernel_rfl) (by kernel_rfl) (by kernel_rfl) (fun _ _ _ h => h) (by rfl) (fun w' hS => ?hea18) ?rea18
          case hea18 => go_simp; with_reducible rfl
          try simp only [Act.put, List.setIfInBounds_toArray, List.set_cons_zero, List.set_cons_succ]
          refine region_take 19 75 (v := ?vea19) rfl rfl (by kernel_rfl) (by kernel_rfl) (by kernel_rfl) (fun _ _ _ h => h) (by rfl) (fun w' hS => ?hea19) ?rea19
          case hea19 => go_simp; with_reducible rfl
          try simp only [Act.put, List.setIfInBounds_toArray, List.set_cons_zero, List.set_cons_succ]
          refine region_take 20 76 (v := ?vea20) rfl rfl (by kernel_rfl) (by kernel_rfl) (by kernel_rfl) (fun _ _ _ h => h) (by rfl) (fun w' hS => ?hea20) ?rea20
          case hea20 => go_simp; with_reducible rfl
          try simp only [Act.put, List.setIfInBounds_toArray, List.set_cons_zero, List.set_cons_succ]
          refine region_take 22 78 (v := ?vea22) rfl rfl (by kernel_rfl) (by kernel_rfl) (by kernel_rfl) (fun _ _ _ h => h) (by rfl) (fun w' hS => ?hea22) ?rea22
          case hea22 => (refine exec_load (x := .tmp 7) ?_ ?_ (hBv.ext hS id) HCl.out <;> rfl)
          try simp only [Act.put, List.setIfInBounds_toArray, List.set_cons_zero, List.set_cons_succ]
          refine wpAnyH_ready (rs := [21]) (by kernel_rfl) (by simp) (AllReadyH.cons rfl (fun K hK => ?_) AllReadyH.nil)
          go_simp
          refine (HDo.out _ hPv).mono ?_
          rintro e w16 ⟨cd, rfl, hTd, hP, _⟩
          have hLd := hTd.lies hP
          have hBv := hBv.ext hP id
          have hQv := hQv.pure hP
          have hPv := hPv.pure hP
          refine hK.out _ _ (hP) (fun hHeld => ?_)
          clear hK K hHeld
          refine region_now (hP) ?_
          try simp only [Act.put, List.setIfInBounds_toArray, List.set_cons_zero, List.set_cons_succ]
          refine wpAnyH_ready (rs := [23]) (by kernel_rfl) (by simp) (AllReadyH.cons rfl (fun K hK => ?_) AllReadyH.nil)
          go_simp
          refine (show Calls Try.prog 17 #[.agg cd.toArray, .agg cs.toArray] w16 (BoolTo true w16) by have hx := HT2.out.base (hPv); have hT3 : Top w w16 (F + 1) DL cs := HT2.out.ext (show Ext (fun _ => False) wr w16 from hQv) (fun b hb => hb.elim); have := refsame_any _ DL cd _ DL cs w16 hLd (hT3.lies hPv) HDz.out HDz.out; rw [cmp_self] at this; exact this).mono ?_
          rintro e w17 ⟨rfl, hP⟩
          have hBv := hBv.ext hP id
          have hQv := hQv.pure hP
          have hPv := hPv.pure hP
          refine hK.out _ _ (hP) (fun hHeld => ?_)
          clear hK K hHeld
          refine region_now (hP) ?_
          try simp only [Act.put, List.setIfInBounds_toArray, List.set_cons_zero, List.set_cons_succ]
          refine region_take 24 80 (v := ?vea24) rfl rfl (by kernel_rfl) (by kernel_rfl) (by kernel_rfl) (fun _ _ _ h => h) (by rfl) (fun w' hS => ?hea24) ?rea24
          case hea24 => go_simp; with_reducible rfl
          try simp only [Act.put, List.setIfInBounds_toArray, List.set_cons_zero, List.set_cons_succ]
          refine region_take 25 81 (v := ?vea25) rfl rfl (by kernel_rfl) (by kernel_rfl) (by kernel_rfl) (fun _ _ _ h => h) (by rfl) (fun w' hS => ?hea25) ?rea25
          case hea25 => go_simp; with_reducible rfl
          try simp only [Act.put, List.setIfInBounds_toArray, List.set_cons_zero, List.set_cons_succ]
          refine wpAnyH_ready (rs := [26]) (by kernel_rfl) (by simp) (AllReadyH.cons rfl (fun K hK => ?_) AllReadyH.nil)
          go_simp
          refine (works_any _).mono ?_
          rintro e w18 ⟨rfl, hP⟩
          have hQv := hQv.pure hP
          have hPv := hPv.pure hP
          refine hK.out _ _ (hP) (fun hHeld => ?_)
          clear hK K hHeld
          refine region_now (hP) ?_
          try simp only [Act.put, List.setIfInBounds_toArray, List.set_cons_zero, List.set_cons_succ]
          refine region_take 27 83 (v := ?vea27) rfl rfl (by kernel_rfl) (by kernel_rfl) (by kernel_rfl) (fun _ _ _ h => h) (by rfl) (fun w' hS => ?hea27) ?rea27
          case hea27 => go_simp; with_reducible rfl
          try simp only [Act.put, List.setIfInBounds_toArray, List.set_cons_zero, List.set_cons_succ]
          refine region_take 28 6 (v := ?vea28) rfl rfl (by kernel_rfl) (by kernel_rfl) (by kernel_rfl) (fun _ _ _ h => h) (by rfl) (fun w' hS => ?hea28) ?rea28
          case hea28 => go_simp; with_reducible rfl
          try simp only [Act.put, List.setIfInBounds_toArray, List.set_cons_zero, List.set_cons_succ]
          refine wpAnyH_done (by kernel_rfl) ?_ _
          go_wp2_with fail
          go_ret
          exact ⟨rfl, hPv.below⟩
    · have hni : (40 : Int) < (n : Int) := by omega
      go_enter Try.func4, Try.ntmps4
      go_wp2_with fail
      refine (works_any w).mono ?_
      rintro e w5 ⟨rfl, hP5⟩
      go_wp2_with fail
      go_ret
      exact ⟨rfl, hP5.below⟩
  · have hsi : (300 : Int) < (s.size : Int) := by omega
    go_enter Try.func4, Try.ntmps4
    go_wp2_with fail
    refine (works_any w).mono ?_
    rintro e w5 ⟨rfl, hP5⟩
    go_wp2_with fail
    go_ret
    exact ⟨rfl, hP5.below⟩

set_option maxRecDepth 100000 in
theorem lifted (os : Os) (started : os.Started) (H : Type) (enc : TypeId × Value → H) :
    ReturnsInHanded {} Try.checked os 4 .any (Rows.valueMakesSpec.pre6 enc Try.prog Try.f4 Rows.valueMakesRow.domain false) (Rows.valueMakesSpec.post enc Try.prog Try.f4 false true false false) := by
  refine returnsInHanded_of_change (C := Try.checked) own started (by kernel_rfl) Try.func4
    (ChangeSpec.witness6 (enc := enc) (C := Try.checked) false ⟨#[], #[.string ⟨#[]⟩, .int .i64 0, .slice none 0 0], []⟩ 8 (by kernel_rfl) (by kernel_rfl) (by kernel_rfl) (by kernel_rfl)) ?_
  intro W base args ds gs before hval0 hW hcnd _
  have hval : ∀ (j : Nat) t v, Try.f4.params[j]? = some t → args[j]? = some v → Value.okWide Try.prog W .any base t v := hval0
  have hW' := hW
  obtain ⟨p, q, hA0, hV, rfl, hfz, hnd⟩ := hW
  have hA : DataW.TrodAll enc Try.prog W 0 (fun _ => true) true Try.f4.params.toList args.toList ds p := hA0
  rw [Try.params4] at hA hval
  obtain ⟨v0, vs0, d0, ds0, p0, q0, hargs, rfl, rfl, h0, r0⟩ := trodAll_cons hA
  obtain ⟨v1, vs1, d1, ds1, p1, q1, rfl, rfl, rfl, h1, r1⟩ := trodAll_cons r0
  obtain ⟨v2, vs2, d2, ds2, p2, q2, rfl, rfl, rfl, h2, r2⟩ := trodAll_cons r1
  obtain ⟨rfl, rfl, rfl⟩ := trodAll_nil r2
  obtain rfl : args = #[v0, v1, v2] := by cases args; simp_all
  obtain ⟨rfl, rfl⟩ := trodVars_none hV
  have k0 := h0
  have lt0 : ∀ x ∈ p0, x.block < W.heap.size := by obtain ⟨m, hm⟩ := k0; exact DataW.trod_lt m _ _ _ hm
  have k1 := h1
  have lt1 : ∀ x ∈ p1, x.block < W.heap.size := by obtain ⟨m, hm⟩ := k1; exact DataW.trod_lt m _ _ _ hm
  have k2 := h2
  have lt2 : ∀ x ∈ p2, x.block < W.heap.size := by obtain ⟨m, hm⟩ := k2; exact DataW.trod_lt m _ _ _ hm
  obtain ⟨s0, rfl, rfl, rfl, hs0⟩ := Go.ChangeMaps.open_string Try.underlying9 (hval 0 9 v0 rfl rfl) h0
  obtain ⟨x1, rfl, rfl, wx1⟩ := open_int Try.underlying3 (hval 1 3 v1 rfl rfl) h1
  obtain ⟨F2, a2, c2, l2, xs2, rfl, hF2, hR2, hl2⟩ := open_vals (hval 2 22 v2 rfl rfl) h2
  clear hA0 hval0
  refine (walk s0 x1 F2 a2 c2 l2 xs2 W hF2 hR2 hl2 hs0).mono fun e W' ⟨he, bel⟩ => ?_
  subst he
  exact ⟨_, rfl, _, _, _, [], _, [], hW', trodAll_mk1 (shut_bool Try.underlying4 _), (trodAll_cons_mk (Below.trod laidOut (by kernel_rfl) (of_decide_eq_true (by kernel_rfl)) k0 bel lt0) (trodAll_cons_mk (Below.trod laidOut (by kernel_rfl) (of_decide_eq_true (by kernel_rfl)) k1 bel lt1) (trodAll_cons_mk (Below.trod laidOut (by kernel_rfl) (of_decide_eq_true (by kernel_rfl)) k2 bel lt2) trodAll_mk0))), rfl, bel.frame _, fun h => by cases h⟩

theorem proved : Rows.ValueMakesSaid :=
  OpenClaim.holds_of_wide 4 Try.f4 rfl rfl rfl rfl rfl rfl rfl ⟨rfl, rfl, rfl, rfl, rfl⟩ rfl rfl rfl rfl rfl (by kernel_rfl) Try.func4 (by kernel_rfl)
    (of_decide_eq_true (by kernel_rfl)) (by unfold Func.isWrapper; first | (rw [if_pos (by decide +kernel)]; kernel_rfl) | (rw [if_neg (by decide +kernel)]; exact ⟨rfl, rfl⟩))
    (fun os started H enc _ => lifted os started H enc)
#print axioms proved
end Go.Proofs.Ytiakphjkcpbccaa.valueMakes
