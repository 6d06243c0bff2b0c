/-
  Walked: the program's Of (printed by mkof.py).
-/
import Derived.Test.YtnibjjpohhknkaaLen
import Derived.Test.YtnibjjpohhknkaaPutPl
namespace Go.Proofs.Ytnibjjpohhknkaa
open Go.RowKit
set_option linter.unusedVariables false
set_option linter.unusedSimpArgs false

/-- lengths, each of which is one -/
def lensL : List V → Option (List Int)
  | [] => some []
  | v :: l => match v.len, lensL l with
    | some x, some r => some (x :: r)
    | _, _ => none
theorem lensL_snoc (l : List V) (v : V) : lensL (l ++ [v]) = match lensL l, v.len with
    | some r, some x => some (r ++ [x])
    | _, _ => none := by
  induction l with
  | nil => simp only [List.nil_append, lensL]; cases v.len <;> rfl
  | cons u l ih =>
    rw [List.cons_append, lensL, lensL, ih]
    cases u.len <;> cases lensL l <;> cases v.len <;> rfl
theorem lensL_none (p q : List V) (h : lensL p = none) : lensL (p ++ q) = none := by
  induction p with
  | nil => cases h
  | cons u p ih =>
    rw [List.cons_append, lensL]
    rw [lensL] at h
    cases hu : u.len with
    | none => rfl
    | some x =>
      rw [hu] at h
      cases hp : lensL p with
      | none => rw [ih hp]
      | some r => rw [hp] at h; cases h
theorem lensL_in : ∀ {l : List V} {r : List Int}, lensL l = some r → r.length = l.length ∧ ∀ x ∈ r, -2147483647000000 ≤ x ∧ x ≤ 2147483647000000
  | [], r, h => by rw [lensL] at h; cases h; exact ⟨rfl, fun x hx => by cases hx⟩
  | v :: l, r, h => by
    rw [lensL] at h
    cases hv : v.len with
    | none => rw [hv] at h; cases h
    | some x =>
      cases hl : lensL l with
      | none => rw [hv, hl] at h; cases h
      | some q =>
        rw [hv, hl] at h
        cases h
        obtain ⟨h1, h2⟩ := lensL_in hl
        refine ⟨by rw [List.length_cons, List.length_cons, h1], fun y hy => ?_⟩
        rcases List.mem_cons.1 hy with rfl | hy
        · exact len_in hv
        · exact h2 y hy
/-- the rectangle of a value, or the error -/
def boxO : Option (List Int) → Bx × Int
  | some [a, b, c, d] => (Bx.span a b c d, 0)
  | _ => (.zero, 2)
def V.box (v : V) : Bx × Int := if v.kind = 6 ∧ v.l.length = 4 then boxO (lensL v.l) else (.zero, 2)
def BoxTo (F : Bx × Int) (w : World) (e : Ending) (w' : World) : Prop := e = .returned (.tuple #[.agg #[.int .i64 F.1.x, .int .i64 F.1.y, .int .i64 F.1.w, .int .i64 F.1.h], .int .i64 F.2]) ∧ Pure w w'
def pad (L : List Int) : List Value := L.map (fun x => Value.int .i64 x) ++ List.replicate (4 - L.length) (.int .i64 0)
theorem pad_len {L : List Int} (h : L.length ≤ 4) : (pad L).length = 4 := by simp [pad]; omega
theorem pad_get {L : List Int} {K : Nat} (h : L.length = K) (hK : K < 4) : (pad L)[K]? = some (.int .i64 0) := by
  rw [pad, List.getElem?_append_right (by simp [h]), List.length_map, h, Nat.sub_self, List.getElem?_replicate, if_pos (by omega)]
theorem pad_set {L : List Int} {K : Nat} (h : L.length = K) (hK : K < 4) (x : Int) : (pad L).set K (.int .i64 x) = pad (L ++ [x]) := by
  subst h
  have e : 4 - L.length = (4 - (L ++ [x]).length) + 1 := by simp; omega
  unfold pad
  rw [List.set_append_right _ _ (by simp), e, List.replicate_succ]
  simp
set_option maxHeartbeats 4000000 in
set_option maxRecDepth 100000 in
theorem ofp_any (d : Nat) (v : V) (cs : List Value) (w : World) (h : Lies w (d + 1) v cs) (hl0 : v.l.length ≤ 1000000) : Calls Try.prog 11 #[.agg cs.toArray] w (BoxTo v.box w) := by
  obtain ⟨a, c, rows, rfl, hlc, hcm, hnil, hK, hs⟩ := h.kids
  obtain ⟨F, hF⟩ : ∃ F, F = v.box := ⟨_, rfl⟩
  rw [← hF]
  have hbox : F = if v.kind = 6 ∧ v.l.length = 4 then boxO (lensL v.l) else (.zero, 2) := hF
  obtain ⟨n, hn⟩ : ∃ n, n = v.l.length := ⟨_, rfl⟩
  obtain ⟨l, hl⟩ : ∃ l, l = v.l := ⟨_, rfl⟩
  obtain ⟨k, hk⟩ : ∃ k, k = v.kind := ⟨_, rfl⟩
  rw [← hn, ← hk, ← hl] at hbox
  have hnl : n = l.length := by rw [hn, hl]
  rw [← hl] at hK
  rw [← hn] at hlc hl0
  rw [← hn, ← hk]
  generalize v.n = vn at *
  generalize v.s = s at *
  have HF := Lib.hid hbox
  have HN := Lib.hid hnl
  have HK := Lib.hid hK
  clear hF hbox hn hl hk hnl hK h hs
  obtain ⟨w1, hw1⟩ : ∃ z, z = w.alloc (.cells #[.int .i64 k, .int .i64 vn, .string s, .slice a n c] 24) := ⟨_, rfl⟩
  obtain ⟨tb, htb⟩ : ∃ z, z = w.heap.size := ⟨_, rfl⟩
  have hB1 : BlockIs w1 tb [.int .i64 k, .int .i64 vn, .string s, .slice a n c] 24 := by rw [htb, hw1]; exact BlockIs.new w _ _
  have hs1 : w1.heap.size = tb + 1 := by rw [hw1, World.size_alloc, htb]
  obtain ⟨w2, hw2⟩ : ∃ z, z = w1.alloc (.cells #[.int .i64 0, .int .i64 0, .int .i64 0, .int .i64 0] 28) := ⟨_, rfl⟩
  have hs2 : w2.heap.size = tb + 2 := by rw [hw2, World.size_alloc, hs1]
  have hB12 : BlockIs w2 tb [.int .i64 k, .int .i64 vn, .string s, .slice a n c] 24 := hw2 ▸ hB1.alloc _
  have hB2 : BlockIs w2 (tb + 1) [.int .i64 0, .int .i64 0, .int .i64 0, .int .i64 0] 28 := by rw [← hs1, hw2]; exact BlockIs.new w1 _ _
  have hP : Pure w w2 := (show Pure w w1 from hw1 ▸ ext_alloc w _).pure (hw2 ▸ ext_alloc w1 _)
  have HW : Hid ((w.alloc (.cells #[.int .i64 k, .int .i64 vn, .string s, .slice a n c] 24)).alloc (.cells #[.int .i64 0, .int .i64 0, .int .i64 0, .int .i64 0] 28) = w2) := Lib.hid (by rw [hw2, hw1])
  have HTb := Lib.hid htb
  have HS2 := Lib.hid hs2
  clear hw1 hw2 hs1 hB1 htb hs2
  by_cases hk6 : k = 6
  · subst hk6
    by_cases hn4 : n = 4
    · subst hn4
      obtain ⟨w3, hw3⟩ : ∃ z, z = w2.alloc (.cells (pad []).toArray 70) := ⟨_, rfl⟩
      have hB4 : BlockIs w3 (tb + 2) (pad []) 70 := by rw [← HS2.out, hw3]; exact BlockIs.new w2 _ _
      have hP3 : Pure w2 w3 := hw3 ▸ ext_alloc w2 _
      have HB13 := Lib.hid (hB12.ext hP3 id)
      have HB23 := Lib.hid (hB2.ext hP3 id)
      have HP3 := Lib.hid (hP.pure hP3)
      have HW3 : Hid (((w.alloc (.cells #[.int .i64 6, .int .i64 vn, .string s, .slice a 4 c] 24)).alloc (.cells #[.int .i64 0, .int .i64 0, .int .i64 0, .int .i64 0] 28)).alloc (.cells #[.int .i64 0, .int .i64 0, .int .i64 0, .int .i64 0] 70) = w3) := Lib.hid (by rw [HW.out, hw3]; rfl)
      have HB4 := Lib.hid hB4
      have HF2 : Hid (F = boxO (lensL l)) := Lib.hid (by rw [HF.out]; simp)
      clear hw3 hB4 hP3 hB12 hB2 hP HF
      go_enter Try.func11, Try.ntmps11
      go_wp2_with fail
      rw [HW3.out, ← HTb.out]
      go_loopw [22] (fun i W => ∃ (K : Nat) (L : List Int), K ≤ 4 ∧ i = .int .i64 K ∧ Hid (L.length = K) ∧ Hid (lensL (l.take K) = some L) ∧ Hid (BlockIs W (tb + 2) (pad L) 70) ∧ Hid (Ext (fun k => k = tb + 2) w3 W)) (fun i _ => 4 - (intOf i).toNat)
      case atStart => exact ⟨0, [], Nat.zero_le _, rfl, Lib.hid rfl, Lib.hid (by rw [List.take_zero, lensL]), HB4, Lib.hid (Ext.refl _ _)⟩
      case round =>
        obtain ⟨K, L, hK4, rfl, HLn, HLs, HBk, HE⟩ := hrel
        by_cases hlt : K < 4
        · have hki : (K : Int) < 4 := by omega
          obtain ⟨u, hu⟩ : ∃ u, l[K]? = some u := ⟨_, List.getElem?_eq_getElem (by rw [← HN.out]; exact hlt)⟩
          obtain ⟨b, o, q, rfl, hr0, hL⟩ := HK.out.full K u hu
          obtain ⟨qa, qm, qc, rfl, hqm⟩ : ∃ qa qm qc, q = .slice qa qm qc ∧ qm = u.l.length := by
            cases d with
            | zero => exact hL.elim
            | succ d =>
              obtain ⟨a', c', _, he, _⟩ := hL.kids
              cases he
              exact ⟨_, _, _, rfl, rfl⟩
          have hbw : b < w.heap.size := by have := hr0 0 _ rfl; exact World.block_lt_of_cell? w _ this
          have hE0 : Ext (fun k => k = tb + 2) w wr := HP3.out.trans' HE.out (fun _ _ e => e.elim) (fun _ _ e => e)
          have hrx : wr.rangeAt b (o + K * 4) [.int .i64 u.kind, .int .i64 u.n, .string u.s, .slice qa qm qc] := fun j x hx => hE0.cell_some (hr0 j x hx) (fun e => by have e' : b = tb + 2 := e; have := HTb.out; omega)
          obtain ⟨w4, hw4⟩ : ∃ z, z = wr.alloc (.cells #[.int .i64 u.kind, .int .i64 u.n, .string u.s, .slice qa qm qc] 24) := ⟨_, rfl⟩
          have hP4 : Pure wr w4 := hw4 ▸ ext_alloc wr _
          have HC := Lib.hid (length_any u.kind u.n u.s qa qm qc w4 u.l hqm)
          have HTk : Hid (lensL (l.take (K + 1)) = match u.len with
            | some x => some (L ++ [x])
            | none => none) := Lib.hid (by
            obtain ⟨hkl, htt⟩ := List.getElem?_eq_some_iff.1 hu
            rw [List.take_succ_eq_append_getElem hkl, lensL_snoc, htt, HLs.out]
            cases u.len <;> rfl)
          obtain ⟨O, hO⟩ : ∃ O, O = u.len := ⟨_, rfl⟩
          have HCo := HC.out
          rw [show V.len (.mk u.kind u.n u.s u.l) = O from by rw [hO, V.eta]] at HCo
          have HCo := Lib.hid HCo
          rw [← hO] at HTk
          have HW4 := Lib.hid hw4.symm
          have HP4 := Lib.hid hP4
          clear hu hr0 hL hqm hO HC hw4 hP4 hE0 hbw
          generalize u.kind = uk at *
          generalize u.n = un at *
          generalize u.s = us at *
          go_wp2_with (with_reducible refine at_load 24 (.tmp 25) ?_; refine wpList_load_mid rfl 24 (.tmp 25) rfl b (o + K * 4) rfl [.int .i64 uk, .int .i64 un, .string us, .slice qa qm qc] _ hrx Try.underlying24 rfl (by kernel_rfl) ?_)
          rw [HW4.out]
          refine HCo.out.mono ?_
          cases O with
          | none =>
            rintro e w5 ⟨rfl, hP5⟩
            have hEz : Ext (fun k => k = tb + 2) w3 w5 := (HE.out.pure HP4.out).pure hP5
            have hB2 := HB23.out.ext hEz (fun e => by have e' : tb + 1 = tb + 2 := e; omega)
            have hP : Pure w w5 := HP3.out.trans hEz (fun i hi e => by have e' : i = tb + 2 := e; have := HTb.out; omega)
            have HFr : Hid (F = (Bx.zero, 2)) := Lib.hid (by
              rw [HF2.out, ← List.take_append_drop (K + 1) l, lensL_none _ _ HTk.out]; rfl)
            clear hEz hP5 HCo hrx
            have HTh : Hid (w5.there (tb + 1) 0 (#[.int .i64 0, .int .i64 0, .int .i64 0, .int .i64 0] : Array Value).size) := Lib.hid (hB2.there 4 rfl)
            have HSi : Hid ((Try.prog.info? 28).map (·.size) = some (#[.int .i64 0, .int .i64 0, .int .i64 0, .int .i64 0] : Array Value).size) := Lib.hid size28
            have HP8 : Hid (Pure w (w5.setCells (tb + 1) 0 [.int .i64 0, .int .i64 0, .int .i64 0, .int .i64 0])) := Lib.hid (Ext.setCells _ 0 w5 hP (b := tb + 1) (fun h => by have := HTb.out; omega))
            have HB9 := Lib.hid (setRect hB2 rfl (.int .i64 0) (.int .i64 0) (.int .i64 0) (.int .i64 0))
            clear hB2 hP
            go_wp2_with (with_reducible refine at_store 28 (.tmp 2) (.tmp 34) ?_; refine wpList_store_mid rfl 28 (.tmp 2) (.tmp 34) rfl (tb + 1) 0 #[.int .i64 0, .int .i64 0, .int .i64 0, .int .i64 0] rfl rfl HTh.out HSi.out (one4 _ _ _ _) ?_)
            refine bodyPost_ret (results_row2 rfl _ _ (tb + 1) _ [.int .i64 0, .int .i64 0, .int .i64 0, .int .i64 0] _ rfl HB9.out Try.underlying28 rfl size28) rfl ?_
            exact ⟨by rw [HFr.out]; rfl, HP8.out⟩
          | some x =>
            rintro e w5 ⟨rfl, hP5⟩
            have hEz : Ext (fun k => k = tb + 2) w3 w5 := (HE.out.pure HP4.out).pure hP5
            have hBk5 := HBk.out.ext (HP4.out.pure hP5) id
            have ck : w5.cell? ⟨tb + 2, K, none⟩ = some (.int .i64 0) := (hBk5.cell K).trans (pad_get HLn.out hlt)
            have fk : w5.frozen? ⟨tb + 2, K, none⟩ = false := hBk5.free K
            have hBn := hBk5.set K (.int .i64 x)
            rw [pad_set HLn.out hlt] at hBn
            have HBn := Lib.hid hBn
            have HEn : Hid (Ext (fun k => k = tb + 2) w3 (w5.setCell ⟨tb + 2, K, none⟩ (.int .i64 x))) := Lib.hid (hEz.setCell (p := ⟨tb + 2, K, none⟩) (fun _ => rfl) _)
            clear hEz hP5 HCo hrx hBk5 hBn
            go_wp2_with fail
            go_roundw
            case rel => exact ⟨K + 1, L ++ [x], by omega, by go_num, Lib.hid (by rw [List.length_append, HLn.out]; rfl), Lib.hid HTk.out, HBn, HEn⟩
            case measure => simp [intOf]; omega
        · have hki : ¬ (K : Int) < 4 := by omega
          obtain rfl : K = 4 := by omega
          have hLs := HLs.out
          rw [List.take_of_length_le (by rw [← HN.out]; exact Nat.le_refl _)] at hLs
          obtain ⟨_, hLb⟩ := lensL_in hLs
          obtain ⟨x0, x1, x2, x3, rfl⟩ : ∃ x0 x1 x2 x3, L = [x0, x1, x2, x3] := by
            have h4 := HLn.out
            match L, h4 with
            | [x0, x1, x2, x3], _ => exact ⟨x0, x1, x2, x3, rfl⟩
          have b0 := hLb x0 (by simp)
          have b1 := hLb x1 (by simp)
          have b2 := hLb x2 (by simp)
          have b3 := hLb x3 (by simp)
          have HLb := Lib.hid (And.intro b0 (And.intro b1 (And.intro b2 b3)))
          obtain ⟨T, hT⟩ : ∃ T, T = Bx.span x0 x1 x2 x3 := ⟨_, rfl⟩
          have HT := Lib.hid hT
          have HFr : Hid (F = (T, 0)) := Lib.hid (by rw [HF2.out, hLs, hT]; rfl)
          have hB2 := HB23.out.ext HE.out (fun e => by have e' : tb + 1 = tb + 2 := e; omega)
          have hP : Pure w wr := HP3.out.trans HE.out (fun i hi e => by have e' : i = tb + 2 := e; have := HTb.out; omega)
          have hBp := HBk.out
          have e0 : wr.drew.cell? ⟨tb + 2, 0, none⟩ = some (.int .i64 x0) := hBp.cell 0
          have e1 : wr.drew.cell? ⟨tb + 2, 1, none⟩ = some (.int .i64 x1) := hBp.cell 1
          have e2 : wr.drew.cell? ⟨tb + 2, 2, none⟩ = some (.int .i64 x2) := hBp.cell 2
          have e3 : wr.drew.cell? ⟨tb + 2, 3, none⟩ = some (.int .i64 x3) := hBp.cell 3
          clear hLs hLb b0 b1 b2 b3 hT hBp HBk
          go_wp2_with fail
          have hB2 := hB2.drew
          have hP := hP.drew
          refine region_start (fun k => k = tb + 1) (by kernel_rfl) ?_
          try simp only [Act.put, List.setIfInBounds_toArray, List.set_cons_zero, List.set_cons_succ]
          refine region_take 0 39 (v := ?voa0) rfl rfl (by kernel_rfl) (by kernel_rfl) (by kernel_rfl) (fun _ _ _ h => h) (by rfl) (fun w' hS => ?hoa0) ?roa0
          case hoa0 => go_simp; with_reducible rfl
          try simp only [Act.put, List.setIfInBounds_toArray, List.set_cons_zero, List.set_cons_succ]
          refine region_take 1 40 (v := ?voa1) rfl rfl (by kernel_rfl) (by kernel_rfl) (by kernel_rfl) (fun _ _ _ h => h) (by rfl) (fun w' hS => ?hoa1) ?roa1
          case hoa1 => (have e := hS.cell_some e0 (by intro e; simp only at e; omega); go_simp; with_reducible rfl)
          try simp only [Act.put, List.setIfInBounds_toArray, List.set_cons_zero, List.set_cons_succ]
          refine region_take 2 41 (v := ?voa2) rfl rfl (by kernel_rfl) (by kernel_rfl) (by kernel_rfl) (fun _ _ _ h => h) (by rfl) (fun w' hS => ?hoa2) ?roa2
          case hoa2 => go_simp; with_reducible rfl
          try simp only [Act.put, List.setIfInBounds_toArray, List.set_cons_zero, List.set_cons_succ]
          refine region_take 3 42 (v := ?voa3) rfl rfl (by kernel_rfl) (by kernel_rfl) (by kernel_rfl) (fun _ _ _ h => h) (by rfl) (fun w' hS => ?hoa3) ?roa3
          case hoa3 => (have e := hS.cell_some e1 (by intro e; simp only at e; omega); go_simp; with_reducible rfl)
          try simp only [Act.put, List.setIfInBounds_toArray, List.set_cons_zero, List.set_cons_succ]
          refine region_take 5 44 (v := ?voa5) rfl rfl (by kernel_rfl) (by kernel_rfl) (by kernel_rfl) (fun _ _ _ h => h) (by rfl) (fun w' hS => ?hoa5) ?roa5
          case hoa5 => go_simp; with_reducible rfl
          try simp only [Act.put, List.setIfInBounds_toArray, List.set_cons_zero, List.set_cons_succ]
          refine region_take 6 45 (v := ?voa6) rfl rfl (by kernel_rfl) (by kernel_rfl) (by kernel_rfl) (fun _ _ _ h => h) (by rfl) (fun w' hS => ?hoa6) ?roa6
          case hoa6 => (have e := hS.cell_some e2 (by intro e; simp only at e; omega); go_simp; with_reducible rfl)
          try simp only [Act.put, List.setIfInBounds_toArray, List.set_cons_zero, List.set_cons_succ]
          refine region_take 7 46 (v := ?voa7) rfl rfl (by kernel_rfl) (by kernel_rfl) (by kernel_rfl) (fun _ _ _ h => h) (by rfl) (fun w' hS => ?hoa7) ?roa7
          case hoa7 => go_simp; with_reducible rfl
          try simp only [Act.put, List.setIfInBounds_toArray, List.set_cons_zero, List.set_cons_succ]
          refine region_take 8 47 (v := ?voa8) rfl rfl (by kernel_rfl) (by kernel_rfl) (by kernel_rfl) (fun _ _ _ h => h) (by rfl) (fun w' hS => ?hoa8) ?roa8
          case hoa8 => (have e := hS.cell_some e3 (by intro e; simp only at e; omega); go_simp; with_reducible rfl)
          try simp only [Act.put, List.setIfInBounds_toArray, List.set_cons_zero, List.set_cons_succ]
          refine wpAnyH_ready (rs := [4]) (by kernel_rfl) (by simp) (AllReadyH.cons rfl (fun K hK => ?_) AllReadyH.nil)
          go_simp
          refine (at_any x0 x1 _ (by have := HLb.out; omega) (by have := HLb.out; omega)).mono ?_
          rintro e w5 ⟨a0, b0, rfl, ha, hb, hP5⟩
          have hP := hP.pure hP5
          have hB2 := hB2.ext hP5 id
          have HA := Lib.hid (And.intro ha hb)
          clear ha hb
          refine hK.out _ _ (hP5.mono (fun _ _ e => e.elim)) (fun hHeld => ?_)
          clear hK K hHeld
          refine region_now (hP5.mono (fun _ _ e => e.elim)) ?_
          try simp only [Act.put, List.setIfInBounds_toArray, List.set_cons_zero, List.set_cons_succ]
          refine wpAnyH_ready (rs := [9]) (by kernel_rfl) (by simp) (AllReadyH.cons rfl (fun K hK => ?_) AllReadyH.nil)
          go_simp
          refine (at_any x2 x3 _ (by have := HLb.out; omega) (by have := HLb.out; omega)).mono ?_
          rintro e w6 ⟨a1, b1, rfl, ha, hb, hP6⟩
          have hP := hP.pure hP6
          have hB2 := hB2.ext hP6 id
          have HC := Lib.hid (And.intro ha hb)
          clear ha hb
          refine hK.out _ _ (hP6.mono (fun _ _ e => e.elim)) (fun hHeld => ?_)
          clear hK K hHeld
          refine region_now (hP6.mono (fun _ _ e => e.elim)) ?_
          try simp only [Act.put, List.setIfInBounds_toArray, List.set_cons_zero, List.set_cons_succ]
          refine wpAnyH_ready (rs := [10]) (by kernel_rfl) (by simp) (AllReadyH.cons rfl (fun K hK => ?_) AllReadyH.nil)
          go_simp
          refine (between_any a0 b0 a1 b1 x0 x1 x2 x3 _ HA.out.1 HA.out.2 HC.out.1 HC.out.2 (by have := HLb.out; omega) (by have := HLb.out; omega) (by have := HLb.out; omega) (by have := HLb.out; omega) (by have := HLb.out; omega) (by have := HLb.out; omega)).mono ?_
          rintro e w7 ⟨rfl, hP7⟩
          have hP := hP.pure hP7
          have hB2 := hB2.ext hP7 id
          rw [← HT.out]
          have HTh : Hid (w7.there (tb + 1) 0 (#[.int .i64 T.x, .int .i64 T.y, .int .i64 T.w, .int .i64 T.h] : Array Value).size) := Lib.hid (hB2.there 4 rfl)
          have HSi : Hid ((Try.prog.info? 28).map (·.size) = some (#[.int .i64 T.x, .int .i64 T.y, .int .i64 T.w, .int .i64 T.h] : Array Value).size) := Lib.hid size28
          have HP8 : Hid (Pure w (w7.setCells (tb + 1) 0 [.int .i64 T.x, .int .i64 T.y, .int .i64 T.w, .int .i64 T.h])) := Lib.hid (Ext.setCells _ 0 w7 hP (b := tb + 1) (fun h => by have := HTb.out; omega))
          have HB9 := Lib.hid (setRect hB2 rfl (.int .i64 T.x) (.int .i64 T.y) (.int .i64 T.w) (.int .i64 T.h))
          clear hB2 hP
          refine hK.out _ _ (hP7.mono (fun _ _ e => e.elim)) (fun hHeld => ?_)
          clear hK K hHeld
          refine region_now (hP7.mono (fun _ _ e => e.elim)) ?_
          try simp only [Act.put, List.setIfInBounds_toArray, List.set_cons_zero, List.set_cons_succ]
          refine wpAnyH_ready (rs := [11]) (by kernel_rfl) (by simp) (AllReadyH.cons rfl (fun K hK => ?_) AllReadyH.nil)
          refine step_of_list ?_
          refine wpList_store_mid rfl 28 (.tmp 2) (.tmp 49) rfl (tb + 1) 0 #[.int .i64 T.x, .int .i64 T.y, .int .i64 T.w, .int .i64 T.h] rfl rfl HTh.out HSi.out (one4 _ _ _ _) ?_
          refine hK.out _ _ (Ext.setCells _ 0 _ (Ext.refl _ _) (fun _ => rfl)) (fun hHeld => ?_)
          clear hK K hHeld
          refine region_now (Ext.setCells _ 0 _ (Ext.refl _ _) (fun _ => rfl)) ?_
          try simp only [Act.put, List.setIfInBounds_toArray, List.set_cons_zero, List.set_cons_succ]
          refine region_take 12 3 (v := ?voa12) rfl rfl (by kernel_rfl) (by kernel_rfl) (by kernel_rfl) (fun _ _ _ h => h) (by rfl) (fun w' hS => ?hoa12) ?roa12
          case hoa12 => go_simp; with_reducible rfl
          try simp only [Act.put, List.setIfInBounds_toArray, List.set_cons_zero, List.set_cons_succ]
          refine wpAnyH_done (by kernel_rfl) ?_ _
          go_simp
          try simp only [Act.put, List.setIfInBounds_toArray, List.set_cons_zero, List.set_cons_succ]
          go_wp2_with fail
          refine bodyPost_ret (results_row2 rfl _ _ (tb + 1) _ [.int .i64 T.x, .int .i64 T.y, .int .i64 T.w, .int .i64 T.h] _ rfl HB9.out Try.underlying28 rfl size28) rfl ?_
          exact ⟨by rw [HFr.out]; rfl, HP8.out⟩
    · have hn4' : ((n : Int) != 4) = true := by simpa using (by omega : ¬ (n : Int) = 4)
      have HFr : Hid (F = (Bx.zero, 2)) := Lib.hid (by rw [HF.out, if_neg (fun h => hn4 h.2)])
      have c3 : w2.cell? ⟨w.heap.size, 3, none⟩ = some (.slice a n c) := by rw [← HTb.out]; exact hB12.cell 3
      clear hn4 HF
      go_enter Try.func11, Try.ntmps11
      go_wp2_with fail
      rw [HW.out, ← HTb.out]
      refine bodyPost_ret (results_row2 rfl _ _ (tb + 1) _ [.int .i64 0, .int .i64 0, .int .i64 0, .int .i64 0] _ rfl hB2 Try.underlying28 rfl size28) rfl ?_
      exact ⟨by rw [HFr.out]; rfl, hP⟩
  · have hk6' : (k != 6) = true := by simpa using hk6
    have HFr : Hid (F = (Bx.zero, 2)) := Lib.hid (by rw [HF.out, if_neg (fun h => hk6 h.1)])
    clear hk6 HF
    go_enter Try.func11, Try.ntmps11
    go_wp2_with fail
    rw [HW.out, ← HTb.out]
    refine bodyPost_ret (results_row2 rfl _ _ (tb + 1) _ [.int .i64 0, .int .i64 0, .int .i64 0, .int .i64 0] _ rfl hB2 Try.underlying28 rfl size28) rfl ?_
    exact ⟨by rw [HFr.out]; rfl, hP⟩
end Go.Proofs.Ytnibjjpohhknkaa
