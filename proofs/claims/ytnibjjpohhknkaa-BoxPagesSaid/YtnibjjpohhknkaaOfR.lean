/-
  Walked: the reference's Of (printed by mkofr.py).
-/
import Derived.Test.YtnibjjpohhknkaaOfP
namespace Go.Proofs.Ytnibjjpohhknkaa
open Go.RowKit
set_option linter.unusedVariables false
set_option linter.unusedSimpArgs false

set_option maxHeartbeats 4000000 in
set_option maxRecDepth 100000 in
theorem ofr_any (d : Nat) (v : V) (cs : List Value) (w : World) (h : Lies w (d + 1) v cs) (hl0 : v.l.length ≤ 1000000) : Calls Try.prog 12 #[.agg cs.toArray] w (BoxTo v.box w) := by
  obtain ⟨a, c, rows, rfl, hlc, hcm, hnil, hK, hs⟩ := h.kids
  obtain ⟨F, hF⟩ : ∃ F, F = v.box := ⟨_, rfl⟩
  rw [← hF]
  have hbox : F = if v.kind = 6 ∧ v.l.length = 4 then boxO (lensL v.l) else (.zero, 2) := hF
  obtain ⟨n, hn⟩ : ∃ n, n = v.l.length := ⟨_, rfl⟩
  obtain ⟨l, hl⟩ : ∃ l, l = v.l := ⟨_, rfl⟩
  obtain ⟨k, hk⟩ : ∃ k, k = v.kind := ⟨_, rfl⟩
  rw [← hn, ← hk, ← hl] at hbox
  have hnl : n = l.length := by rw [hn, hl]
  rw [← hl] at hK
  rw [← hn] at hlc hl0
  rw [← hn, ← hk]
  generalize v.n = vn at *
  generalize v.s = s at *
  have HF := Lib.hid hbox
  have HN := Lib.hid hnl
  have HK := Lib.hid hK
  clear hF hbox hn hl hk hnl hK h hs
  obtain ⟨w1, hw1⟩ : ∃ z, z = w.alloc (.cells #[.int .i64 k, .int .i64 vn, .string s, .slice a n c] 24) := ⟨_, rfl⟩
  obtain ⟨tb, htb⟩ : ∃ z, z = w.heap.size := ⟨_, rfl⟩
  have hB1 : BlockIs w1 tb [.int .i64 k, .int .i64 vn, .string s, .slice a n c] 24 := by rw [htb, hw1]; exact BlockIs.new w _ _
  have hs1 : w1.heap.size = tb + 1 := by rw [hw1, World.size_alloc, htb]
  obtain ⟨w2, hw2⟩ : ∃ z, z = w1.alloc (.cells #[.int .i64 0, .int .i64 0, .int .i64 0, .int .i64 0] 32) := ⟨_, rfl⟩
  have hs2 : w2.heap.size = tb + 2 := by rw [hw2, World.size_alloc, hs1]
  have hB12 : BlockIs w2 tb [.int .i64 k, .int .i64 vn, .string s, .slice a n c] 24 := hw2 ▸ hB1.alloc _
  have hB2 : BlockIs w2 (tb + 1) [.int .i64 0, .int .i64 0, .int .i64 0, .int .i64 0] 32 := by rw [← hs1, hw2]; exact BlockIs.new w1 _ _
  have hP : Pure w w2 := (show Pure w w1 from hw1 ▸ ext_alloc w _).pure (hw2 ▸ ext_alloc w1 _)
  have HW : Hid ((w.alloc (.cells #[.int .i64 k, .int .i64 vn, .string s, .slice a n c] 24)).alloc (.cells #[.int .i64 0, .int .i64 0, .int .i64 0, .int .i64 0] 32) = w2) := Lib.hid (by rw [hw2, hw1])
  have HTb := Lib.hid htb
  have HS2 := Lib.hid hs2
  clear hw1 hw2 hs1 hB1 htb hs2
  by_cases hk6 : k = 6
  · subst hk6
    by_cases hn4 : n = 4
    · subst hn4
      obtain ⟨w3, hw3⟩ : ∃ z, z = w2.alloc (.cells (pad []).toArray 70) := ⟨_, rfl⟩
      have hB4 : BlockIs w3 (tb + 2) (pad []) 70 := by rw [← HS2.out, hw3]; exact BlockIs.new w2 _ _
      have hP3 : Pure w2 w3 := hw3 ▸ ext_alloc w2 _
      have HB13 := Lib.hid (hB12.ext hP3 id)
      have HB23 := Lib.hid (hB2.ext hP3 id)
      have HP3 := Lib.hid (hP.pure hP3)
      have HW3 : Hid (((w.alloc (.cells #[.int .i64 6, .int .i64 vn, .string s, .slice a 4 c] 24)).alloc (.cells #[.int .i64 0, .int .i64 0, .int .i64 0, .int .i64 0] 32)).alloc (.cells #[.int .i64 0, .int .i64 0, .int .i64 0, .int .i64 0] 70) = w3) := Lib.hid (by rw [HW.out, hw3]; rfl)
      have HB4 := Lib.hid hB4
      have HF2 : Hid (F = boxO (lensL l)) := Lib.hid (by rw [HF.out]; simp)
      clear hw3 hB4 hP3 hB12 hB2 hP HF
      go_enter Try.func12, Try.ntmps12
      go_wp2_with fail
      rw [HW3.out, ← HTb.out]
      go_loopw [5] (fun i W => ∃ (K : Nat) (L : List Int), K ≤ 4 ∧ i = .int .i64 K ∧ Hid (L.length = K) ∧ Hid (lensL (l.take K) = some L) ∧ Hid (BlockIs W (tb + 2) (pad L) 70) ∧ Hid (Ext (fun k => k = tb + 2) w3 W)) (fun i _ => 4 - (intOf i).toNat)
      case atStart => exact ⟨0, [], Nat.zero_le _, rfl, Lib.hid rfl, Lib.hid (by rw [List.take_zero, lensL]), HB4, Lib.hid (Ext.refl _ _)⟩
      case round =>
        obtain ⟨K, L, hK4, rfl, HLn, HLs, HBk, HE⟩ := hrel
        by_cases hlt : K < 4
        · have hki : (K : Int) < 4 := by omega
          obtain ⟨u, hu⟩ : ∃ u, l[K]? = some u := ⟨_, List.getElem?_eq_getElem (by rw [← HN.out]; exact hlt)⟩
          obtain ⟨b, o, q, rfl, hr0, hL⟩ := HK.out.full K u hu
          obtain ⟨qa, qm, qc, rfl, hqm⟩ : ∃ qa qm qc, q = .slice qa qm qc ∧ qm = u.l.length := by
            cases d with
            | zero => exact hL.elim
            | succ d =>
              obtain ⟨a', c', _, he, _⟩ := hL.kids
              cases he
              exact ⟨_, _, _, rfl, rfl⟩
          have hbw : b < w.heap.size := by have := hr0 0 _ rfl; exact World.block_lt_of_cell? w _ this
          have hE0 : Ext (fun k => k = tb + 2) w wr := HP3.out.trans' HE.out (fun _ _ e => e.elim) (fun _ _ e => e)
          have hrx : wr.rangeAt b (o + K * 4) [.int .i64 u.kind, .int .i64 u.n, .string u.s, .slice qa qm qc] := fun j x hx => hE0.cell_some (hr0 j x hx) (fun e => by have e' : b = tb + 2 := e; have := HTb.out; omega)
          have c3 : wr.cell? ⟨tb, 3, none⟩ = some (.slice (some ⟨b, o, none⟩) 4 c) := (HB13.out.ext HE.out (fun e => by have e' : tb = tb + 2 := e; omega)).cell 3
          have HTk : Hid (lensL (l.take (K + 1)) = if (u.kind = 2 ∨ u.kind = 3) ∧ numE u.kind u.n u.s qm = 0 then some (L ++ [if u.kind = 2 then u.n * 1000000 else u.n]) else none) := Lib.hid (by
            obtain ⟨hkl, htt⟩ := List.getElem?_eq_some_iff.1 hu
            rw [List.take_succ_eq_append_getElem hkl, lensL_snoc, htt, HLs.out, hqm]
            unfold V.len
            by_cases hc : (u.kind = 2 ∨ u.kind = 3) ∧ numE u.kind u.n u.s u.l.length = 0
            · rw [if_pos hc, if_pos hc]
            · rw [if_neg hc, if_neg hc])
          obtain ⟨W4, hW4⟩ : ∃ z, z = wr := ⟨_, rfl⟩
          rw [← hW4] at HBk HE hrx c3 hE0
          clear hu hr0 hL hqm hE0 hbw HLs
          generalize u.kind = uk at *
          generalize u.n = un at *
          generalize u.s = us at *
          obtain ⟨w4, hw4⟩ : ∃ z, z = W4.alloc (.cells #[.int .i64 uk, .int .i64 un, .string us, .slice qa qm qc] 24) := ⟨_, rfl⟩
          have HP4 : Hid (Pure W4 w4) := Lib.hid (hw4 ▸ ext_alloc W4 _)
          have HBx : Hid (BlockIs w4 W4.heap.size [.int .i64 uk, .int .i64 un, .string us, .slice qa qm qc] 24) := Lib.hid (hw4 ▸ BlockIs.new W4 _ _)
          have HW4 := Lib.hid hw4.symm
          rw [← hW4]
          clear hw4 hW4
          by_cases hk2 : uk = 2
          · subst hk2
            have HC := Lib.hid (refnum_any 2 un us qa qm qc w4)
            have hin := @numE_in 2 un us qm
            obtain ⟨E, hE⟩ : ∃ E, E = numE 2 un us qm := ⟨_, rfl⟩
            rw [← hE] at HC HTk hin
            have HIn := Lib.hid hin
            clear hE hin
            go_wp2_with (with_reducible refine at_load 24 (.tmp 24) ?_; refine wpList_load_mid rfl 24 (.tmp 24) rfl b (o + K * 4) rfl [.int .i64 2, .int .i64 un, .string us, .slice qa qm qc] _ hrx Try.underlying24 rfl (by kernel_rfl) ?_)
            rw [HW4.out]
            refine HC.out.mono ?_
            rintro e w5 ⟨rfl, hP5⟩
            have hEz : Ext (fun k => k = tb + 2) w3 w5 := (HE.out.pure HP4.out).pure hP5
            have hBx5 := HBx.out.ext hP5 id
            have hBk5 := HBk.out.ext (HP4.out.pure hP5) id
            have hlb : tb + 2 < W4.heap.size := HBk.out.lt
            by_cases he : E = 0
            · subst he
              have HTk2 : Hid (lensL (l.take (K + 1)) = some (L ++ [un * 1000000])) := Lib.hid (by rw [HTk.out]; simp)
              have hb := HIn.out rfl
              have hb2 : -2147483647 ≤ un ∧ un ≤ 2147483647 := by omega
              have ck : w5.cell? ⟨tb + 2, K, none⟩ = some (.int .i64 0) := (hBk5.cell K).trans (pad_get HLn.out hlt)
              have fk : w5.frozen? ⟨tb + 2, K, none⟩ = false := hBk5.free K
              have x0 : w5.cell? ⟨W4.heap.size, 1, none⟩ = some (.int .i64 un) := hBx5.cell 1
              have hr1 : wrap64 (un * 1000000) = un * 1000000 := by unfold wrap64; omega
              have hr2 : IntKind.i64.wrap (un * 1000000) = un * 1000000 := by rw [IntKind.wrap_i64]; omega
              have ck2 : (w5.setCell ⟨tb + 2, K, none⟩ (.int .i64 un)).cell? ⟨tb + 2, K, none⟩ = some (.int .i64 un) := ((hBk5.set K (.int .i64 un)).cell K).trans (by rw [List.getElem?_set_self (by rw [pad_len (by have := HLn.out; omega)]; exact hlt)])
              have fk2 : (w5.setCell ⟨tb + 2, K, none⟩ (.int .i64 un)).frozen? ⟨tb + 2, K, none⟩ = false := (hBk5.set K (.int .i64 un)).free K
              have x1 : (w5.setCell ⟨tb + 2, K, none⟩ (.int .i64 un)).cell? ⟨W4.heap.size, 1, none⟩ = some (.int .i64 un) := ((hBx5.setOther (p := ⟨tb + 2, K, none⟩) (fun e => by simp only at e; omega) _).cell 1)
              have x0' : (w5.setCell ⟨tb + 2, K, none⟩ (.int .i64 un)).cell? ⟨W4.heap.size, 0, none⟩ = some (.int .i64 2) := ((hBx5.setOther (p := ⟨tb + 2, K, none⟩) (fun e => by simp only at e; omega) _).cell 0)
              have hBn := (hBk5.set K (.int .i64 un)).set K (.int .i64 (un * 1000000))
              rw [List.set_set] at hBn
              rw [pad_set HLn.out hlt] at hBn
              have HBn := Lib.hid hBn
              have HEn : Hid (Ext (fun k => k = tb + 2) w3 ((w5.setCell ⟨tb + 2, K, none⟩ (.int .i64 un)).setCell ⟨tb + 2, K, none⟩ (.int .i64 (un * 1000000)))) := Lib.hid ((hEz.setCell (p := ⟨tb + 2, K, none⟩) (fun _ => rfl) _).setCell (p := ⟨tb + 2, K, none⟩) (fun _ => rfl) _)
              clear hb hb2 hEz hP5 HC hrx hBk5 hBn hBx5 HTk HIn
              go_wp2_with fail
              go_roundw
              case rel => exact ⟨K + 1, L ++ [un * 1000000], by omega, by go_num, Lib.hid (by rw [List.length_append, HLn.out]; rfl), Lib.hid HTk2.out, HBn, HEn⟩
              case measure => simp [intOf]; omega
            · have hne : (E != 0) = true := by simpa using he
              have hB2 := HB23.out.ext hEz (fun e => by have e' : tb + 1 = tb + 2 := e; omega)
              have hP : Pure w w5 := HP3.out.trans hEz (fun i hi e => by have e' : i = tb + 2 := e; have := HTb.out; omega)
              have HFr : Hid (F = (Bx.zero, 2)) := Lib.hid (by
                rw [HF2.out, ← List.take_append_drop (K + 1) l, lensL_none _ _ (by rw [HTk.out]; simp [he])]; rfl)
              clear hEz hP5 HC hrx hBk5 hBx5 he HIn hlb
              have HTh : Hid (w5.there (tb + 1) 0 (#[.int .i64 0, .int .i64 0, .int .i64 0, .int .i64 0] : Array Value).size) := Lib.hid (hB2.there 4 rfl)
              have HSi : Hid ((Try.prog.info? 32).map (·.size) = some (#[.int .i64 0, .int .i64 0, .int .i64 0, .int .i64 0] : Array Value).size) := Lib.hid size32
              have HP8 : Hid (Pure w (w5.setCells (tb + 1) 0 [.int .i64 0, .int .i64 0, .int .i64 0, .int .i64 0])) := Lib.hid (Ext.setCells _ 0 w5 hP (b := tb + 1) (fun h => by have := HTb.out; omega))
              have HB9 := Lib.hid (setRect hB2 rfl (.int .i64 0) (.int .i64 0) (.int .i64 0) (.int .i64 0))
              clear hB2 hP
              go_wp2_with (with_reducible refine at_store 32 (.tmp 2) (.tmp 39) ?_; refine wpList_store_mid rfl 32 (.tmp 2) (.tmp 39) rfl (tb + 1) 0 #[.int .i64 0, .int .i64 0, .int .i64 0, .int .i64 0] rfl rfl HTh.out HSi.out (one4 _ _ _ _) ?_)
              refine bodyPost_ret (results_row2 rfl _ _ (tb + 1) _ [.int .i64 0, .int .i64 0, .int .i64 0, .int .i64 0] _ rfl HB9.out Try.underlying32 rfl size32) rfl ?_
              exact ⟨by rw [HFr.out]; rfl, HP8.out⟩
          · by_cases hk3 : uk = 3
            · subst hk3
              have HC := Lib.hid (refnum_any 3 un us qa qm qc w4)
              have hin := @numE_in 3 un us qm
              obtain ⟨E, hE⟩ : ∃ E, E = numE 3 un us qm := ⟨_, rfl⟩
              rw [← hE] at HC HTk hin
              have HIn := Lib.hid hin
              clear hE hin
              go_wp2_with (with_reducible refine at_load 24 (.tmp 24) ?_; refine wpList_load_mid rfl 24 (.tmp 24) rfl b (o + K * 4) rfl [.int .i64 3, .int .i64 un, .string us, .slice qa qm qc] _ hrx Try.underlying24 rfl (by kernel_rfl) ?_)
              rw [HW4.out]
              refine HC.out.mono ?_
              rintro e w5 ⟨rfl, hP5⟩
              have hEz : Ext (fun k => k = tb + 2) w3 w5 := (HE.out.pure HP4.out).pure hP5
              have hBx5 := HBx.out.ext hP5 id
              have hBk5 := HBk.out.ext (HP4.out.pure hP5) id
              have hlb : tb + 2 < W4.heap.size := HBk.out.lt
              by_cases he : E = 0
              · subst he
                have HTk2 : Hid (lensL (l.take (K + 1)) = some (L ++ [un])) := Lib.hid (by rw [HTk.out]; simp)
                have hb := HIn.out rfl
                have hb2 : -2147483647000000 ≤ un ∧ un ≤ 2147483647000000 := by omega
                have ck : w5.cell? ⟨tb + 2, K, none⟩ = some (.int .i64 0) := (hBk5.cell K).trans (pad_get HLn.out hlt)
                have fk : w5.frozen? ⟨tb + 2, K, none⟩ = false := hBk5.free K
                have x0 : w5.cell? ⟨W4.heap.size, 1, none⟩ = some (.int .i64 un) := hBx5.cell 1
                have x0' : (w5.setCell ⟨tb + 2, K, none⟩ (.int .i64 un)).cell? ⟨W4.heap.size, 0, none⟩ = some (.int .i64 3) := ((hBx5.setOther (p := ⟨tb + 2, K, none⟩) (fun e => by simp only at e; omega) _).cell 0)
                have hBn := hBk5.set K (.int .i64 un)
                rw [pad_set HLn.out hlt] at hBn
                have HBn := Lib.hid hBn
                have HEn : Hid (Ext (fun k => k = tb + 2) w3 (w5.setCell ⟨tb + 2, K, none⟩ (.int .i64 un))) := Lib.hid (hEz.setCell (p := ⟨tb + 2, K, none⟩) (fun _ => rfl) _)
                clear hb hb2 hEz hP5 HC hrx hBk5 hBn hBx5 HTk HIn
                go_wp2_with fail
                go_roundw
                case rel => exact ⟨K + 1, L ++ [un], by omega, by go_num, Lib.hid (by rw [List.length_append, HLn.out]; rfl), Lib.hid HTk2.out, HBn, HEn⟩
                case measure => simp [intOf]; omega
              · have hne : (E != 0) = true := by simpa using he
                have hB2 := HB23.out.ext hEz (fun e => by have e' : tb + 1 = tb + 2 := e; omega)
                have hP : Pure w w5 := HP3.out.trans hEz (fun i hi e => by have e' : i = tb + 2 := e; have := HTb.out; omega)
                have HFr : Hid (F = (Bx.zero, 2)) := Lib.hid (by
                  rw [HF2.out, ← List.take_append_drop (K + 1) l, lensL_none _ _ (by rw [HTk.out]; simp [he])]; rfl)
                clear hEz hP5 HC hrx hBk5 hBx5 he HIn hlb
                have HTh : Hid (w5.there (tb + 1) 0 (#[.int .i64 0, .int .i64 0, .int .i64 0, .int .i64 0] : Array Value).size) := Lib.hid (hB2.there 4 rfl)
                have HSi : Hid ((Try.prog.info? 32).map (·.size) = some (#[.int .i64 0, .int .i64 0, .int .i64 0, .int .i64 0] : Array Value).size) := Lib.hid size32
                have HP8 : Hid (Pure w (w5.setCells (tb + 1) 0 [.int .i64 0, .int .i64 0, .int .i64 0, .int .i64 0])) := Lib.hid (Ext.setCells _ 0 w5 hP (b := tb + 1) (fun h => by have := HTb.out; omega))
                have HB9 := Lib.hid (setRect hB2 rfl (.int .i64 0) (.int .i64 0) (.int .i64 0) (.int .i64 0))
                clear hB2 hP
                go_wp2_with (with_reducible refine at_store 32 (.tmp 2) (.tmp 39) ?_; refine wpList_store_mid rfl 32 (.tmp 2) (.tmp 39) rfl (tb + 1) 0 #[.int .i64 0, .int .i64 0, .int .i64 0, .int .i64 0] rfl rfl HTh.out HSi.out (one4 _ _ _ _) ?_)
                refine bodyPost_ret (results_row2 rfl _ _ (tb + 1) _ [.int .i64 0, .int .i64 0, .int .i64 0, .int .i64 0] _ rfl HB9.out Try.underlying32 rfl size32) rfl ?_
                exact ⟨by rw [HFr.out]; rfl, HP8.out⟩
            · have e2 : (uk != 2) = true := by simpa using hk2
              have e3 : (uk != 3) = true := by simpa using hk3
              have hEz : Ext (fun k => k = tb + 2) w3 w4 := HE.out.pure HP4.out
              have hB2 := HB23.out.ext hEz (fun e => by have e' : tb + 1 = tb + 2 := e; omega)
              have hP : Pure w w4 := HP3.out.trans hEz (fun i hi e => by have e' : i = tb + 2 := e; have := HTb.out; omega)
              have HFr : Hid (F = (Bx.zero, 2)) := Lib.hid (by
                rw [HF2.out, ← List.take_append_drop (K + 1) l, lensL_none _ _ (by rw [HTk.out]; simp [hk2, hk3])]; rfl)
              rw [← HW4.out] at hB2 hP
              clear hEz hk2 hk3
              have HTh : Hid ((W4.alloc (.cells #[.int .i64 uk, .int .i64 un, .string us, .slice qa qm qc] 24)).there (tb + 1) 0 (#[.int .i64 0, .int .i64 0, .int .i64 0, .int .i64 0] : Array Value).size) := Lib.hid (hB2.there 4 rfl)
              have HSi : Hid ((Try.prog.info? 32).map (·.size) = some (#[.int .i64 0, .int .i64 0, .int .i64 0, .int .i64 0] : Array Value).size) := Lib.hid size32
              have HP8 : Hid (Pure w ((W4.alloc (.cells #[.int .i64 uk, .int .i64 un, .string us, .slice qa qm qc] 24)).setCells (tb + 1) 0 [.int .i64 0, .int .i64 0, .int .i64 0, .int .i64 0])) := Lib.hid (Ext.setCells _ 0 (W4.alloc (.cells #[.int .i64 uk, .int .i64 un, .string us, .slice qa qm qc] 24)) hP (b := tb + 1) (fun h => by have := HTb.out; omega))
              have HB9 := Lib.hid (setRect hB2 rfl (.int .i64 0) (.int .i64 0) (.int .i64 0) (.int .i64 0))
              clear hB2 hP
              go_wp2_with (first
                | (with_reducible refine at_load 24 (.tmp 24) ?_; refine wpList_load_mid rfl 24 (.tmp 24) rfl b (o + K * 4) rfl [.int .i64 uk, .int .i64 un, .string us, .slice qa qm qc] _ hrx Try.underlying24 rfl (by kernel_rfl) ?_)
                | (with_reducible refine at_store 32 (.tmp 2) (.tmp 39) ?_; refine wpList_store_mid rfl 32 (.tmp 2) (.tmp 39) rfl (tb + 1) 0 #[.int .i64 0, .int .i64 0, .int .i64 0, .int .i64 0] rfl rfl HTh.out HSi.out (one4 _ _ _ _) ?_))
              refine bodyPost_ret (results_row2 rfl _ _ (tb + 1) _ [.int .i64 0, .int .i64 0, .int .i64 0, .int .i64 0] _ rfl HB9.out Try.underlying32 rfl size32) rfl ?_
              exact ⟨by rw [HFr.out]; rfl, HP8.out⟩
        · have hki : ¬ (K : Int) < 4 := by omega
          obtain rfl : K = 4 := by omega
          have hLs := HLs.out
          rw [List.take_of_length_le (by rw [← HN.out]; exact Nat.le_refl _)] at hLs
          obtain ⟨_, hLb⟩ := lensL_in hLs
          obtain ⟨x0, x1, x2, x3, rfl⟩ : ∃ x0 x1 x2 x3, L = [x0, x1, x2, x3] := by
            have h4 := HLn.out
            match L, h4 with
            | [x0, x1, x2, x3], _ => exact ⟨x0, x1, x2, x3, rfl⟩
          have b0 := hLb x0 (by simp)
          have b1 := hLb x1 (by simp)
          have b2 := hLb x2 (by simp)
          have b3 := hLb x3 (by simp)
          have HLb := Lib.hid (And.intro b0 (And.intro b1 (And.intro b2 b3)))
          obtain ⟨T, hT⟩ : ∃ T, T = Bx.span x0 x1 x2 x3 := ⟨_, rfl⟩
          have HC := Lib.hid (span_any x0 x1 x2 x3 wr (by have := HLb.out; omega) (by have := HLb.out; omega) (by have := HLb.out; omega) (by have := HLb.out; omega))
          rw [← hT] at HC
          have HFr : Hid (F = (T, 0)) := Lib.hid (by rw [HF2.out, hLs, hT]; rfl)
          have hB2 := HB23.out.ext HE.out (fun e => by have e' : tb + 1 = tb + 2 := e; omega)
          have hP : Pure w wr := HP3.out.trans HE.out (fun i hi e => by have e' : i = tb + 2 := e; have := HTb.out; omega)
          have hBp := HBk.out
          have e0 : wr.cell? ⟨tb + 2, 0, none⟩ = some (.int .i64 x0) := hBp.cell 0
          have e1 : wr.cell? ⟨tb + 2, 1, none⟩ = some (.int .i64 x1) := hBp.cell 1
          have e2 : wr.cell? ⟨tb + 2, 2, none⟩ = some (.int .i64 x2) := hBp.cell 2
          have e3 : wr.cell? ⟨tb + 2, 3, none⟩ = some (.int .i64 x3) := hBp.cell 3
          clear hLs hLb b0 b1 b2 b3 hT hBp HBk HLb
          go_wp2_with fail
          refine HC.out.mono ?_
          rintro e w7 ⟨rfl, hP7⟩
          have hP := hP.pure hP7
          have hB2 := hB2.ext hP7 id
          have HTh : Hid (w7.there (tb + 1) 0 (#[.int .i64 T.x, .int .i64 T.y, .int .i64 T.w, .int .i64 T.h] : Array Value).size) := Lib.hid (hB2.there 4 rfl)
          have HSi : Hid ((Try.prog.info? 32).map (·.size) = some (#[.int .i64 T.x, .int .i64 T.y, .int .i64 T.w, .int .i64 T.h] : Array Value).size) := Lib.hid size32
          have HP8 : Hid (Pure w (w7.setCells (tb + 1) 0 [.int .i64 T.x, .int .i64 T.y, .int .i64 T.w, .int .i64 T.h])) := Lib.hid (Ext.setCells _ 0 w7 hP (b := tb + 1) (fun h => by have := HTb.out; omega))
          have HB9 := Lib.hid (setRect hB2 rfl (.int .i64 T.x) (.int .i64 T.y) (.int .i64 T.w) (.int .i64 T.h))
          clear hB2 hP hP7
          go_wp2_with (with_reducible refine at_store 32 (.tmp 2) (.tmp 60) ?_; refine wpList_store_mid rfl 32 (.tmp 2) (.tmp 60) rfl (tb + 1) 0 #[.int .i64 T.x, .int .i64 T.y, .int .i64 T.w, .int .i64 T.h] rfl rfl HTh.out HSi.out (one4 _ _ _ _) ?_)
          refine bodyPost_ret (results_row2 rfl _ _ (tb + 1) _ [.int .i64 T.x, .int .i64 T.y, .int .i64 T.w, .int .i64 T.h] _ rfl HB9.out Try.underlying32 rfl size32) rfl ?_
          exact ⟨by rw [HFr.out]; rfl, HP8.out⟩
    · have hn4' : ((n : Int) != 4) = true := by simpa using (by omega : ¬ (n : Int) = 4)
      have HFr : Hid (F = (Bx.zero, 2)) := Lib.hid (by rw [HF.out, if_neg (fun h => hn4 h.2)])
      have c3 : w2.cell? ⟨w.heap.size, 3, none⟩ = some (.slice a n c) := by rw [← HTb.out]; exact hB12.cell 3
      clear hn4 HF
      go_enter Try.func12, Try.ntmps12
      go_wp2_with fail
      rw [HW.out, ← HTb.out]
      refine bodyPost_ret (results_row2 rfl _ _ (tb + 1) _ [.int .i64 0, .int .i64 0, .int .i64 0, .int .i64 0] _ rfl hB2 Try.underlying32 rfl size32) rfl ?_
      exact ⟨by rw [HFr.out]; rfl, hP⟩
  · have hk6' : (k != 6) = true := by simpa using hk6
    have HFr : Hid (F = (Bx.zero, 2)) := Lib.hid (by rw [HF.out, if_neg (fun h => hk6 h.1)])
    clear hk6 HF
    go_enter Try.func12, Try.ntmps12
    go_wp2_with fail
    rw [HW.out, ← HTb.out]
    refine bodyPost_ret (results_row2 rfl _ _ (tb + 1) _ [.int .i64 0, .int .i64 0, .int .i64 0, .int .i64 0] _ rfl hB2 Try.underlying32 rfl size32) rfl ?_
    exact ⟨by rw [HFr.out]; rfl, hP⟩
end Go.Proofs.Ytnibjjpohhknkaa
