/-
  Walked: the reference's has, many, once, Same of rows, Alike; slices.Clone of numbers.
-/
import Derived.Test.YtnpiemcfbnpfdaaPartI
namespace Go.Proofs.Ytnpiemcfbnpfdaa
open Go.RowKit Go.Maps
set_option linter.unusedVariables false
set_option linter.unusedSimpArgs false

set_option maxHeartbeats 1000000 in
set_option maxRecDepth 100000 in
theorem rhas_any (x : Int) (ad : Option Addr) (cap : Nat) (ls : List Int) (w : World) (hr : RowOf w ad (intsV ls)) (hl : ls.length ≤ 1000000000) :
    Calls Try.prog 23 #[.slice ad ls.length cap, .int .i64 x] w (BoolTo (decide (x ∈ ls)) w) := by
  go_enter Try.func23, Try.ntmps23
  go_wp2_with fail
  go_loopw [5] (fun i W => ∃ k : Nat, k ≤ ls.length ∧ i = .int .i64 k ∧ Hid (∀ y ∈ ls.take k, y ≠ x) ∧ Pure w W) (fun i _ => ls.length - (intOf i).toNat)
  case atStart => exact ⟨0, Nat.zero_le _, rfl, Lib.hid (fun y hy => by simp at hy), Ext.refl _ _⟩
  case round =>
    obtain ⟨k, hk, rfl, HNo, hP⟩ := hrel
    by_cases hlt : k < ls.length
    · have hki : (k : Int) < (ls.length : Int) := by omega
      have hk0 : (0 : Int) ≤ (k : Int) := by omega
      obtain ⟨b, o, rfl, h0⟩ := iV_at (hr.ext hP (fun _ _ => id)) k hlt
      have HT := Lib.hid (List.take_succ_eq_append_getElem hlt)
      have HM := Lib.hid (List.getElem_mem hlt)
      generalize ls[k] = y at *
      by_cases hy : y = x
      · subst hy
        have HY : Hid (decide (y ∈ ls) = true) := Lib.hid (decide_eq_true HM.out)
        clear HM HT
        go_wp2_with fail
        go_ret
        exact ⟨by rw [HY.out]; rfl, hP⟩
      · have hyb : (y == x) = false := by simpa using hy
        have HN : Hid (∀ z ∈ ls.take (k + 1), z ≠ x) := Lib.hid (by
          rw [HT.out]
          intro z hz
          rcases List.mem_append.1 hz with hz | hz
          · exact HNo.out z hz
          · rw [List.mem_singleton.1 hz]; exact hy)
        clear HM HT
        go_wp2_with fail
        go_roundw
        case rel => exact ⟨k + 1, by omega, by go_num, HN, hP⟩
        case measure => simp [intOf]; omega
    · have hki : ¬ (k : Int) < (ls.length : Int) := by omega
      have HY : Hid (decide (x ∈ ls) = false) := Lib.hid (decide_eq_false fun hx => by
        have := HNo.out x (by rwa [List.take_of_length_le (by omega)])
        exact this rfl)
      go_wp2_with fail
      go_ret
      exact ⟨by rw [HY.out]; rfl, hP⟩
set_option maxHeartbeats 1000000 in
set_option maxRecDepth 100000 in
theorem rmany_any (x : Int) (rs : List CRow) (a : Option Addr) (c : Nat) (w : World) (hR : Rws w a rs) (hn : rs.length ≤ 1000000) (hm : ∀ q ∈ rs, q.l.length ≤ 1000000) :
    Calls Try.prog 22 #[.slice a rs.length c, .int .i64 x] w (IntTo ((manyP (lsR rs) x : Nat) : Int) w) := by
  have HR := Lib.hid hR
  have HM := Lib.hid hm
  obtain ⟨n, hN⟩ : ∃ z, z = rs.length := ⟨_, rfl⟩
  rw [← hN] at hn ⊢
  have HN := Lib.hid hN
  clear hR hm hN
  go_enter Try.func22, Try.ntmps22
  go_wp2_with fail
  go_loopw [6, 5] (fun i s W => ∃ k : Nat, k ≤ n ∧ i = .int .i64 k ∧ (∃ s0 : Nat, s = .int .i64 s0 ∧ Hid (s0 = manyP ((lsR rs).take k) x) ∧ s0 ≤ k) ∧ Hid (Pure w W)) (fun i _ _ => n - (intOf i).toNat)
  case atStart => exact ⟨0, Nat.zero_le _, rfl, ⟨0, rfl, Lib.hid rfl, Nat.zero_le _⟩, Lib.hid (Ext.refl _ _)⟩
  case round =>
    obtain ⟨k, hk, rfl, ⟨s0, rfl, HS, hs0⟩, HP⟩ := hrel
    by_cases hlt : k < n
    · have hki : (k : Int) < (n : Int) := by omega
      have hkr : k < rs.length := by rw [← HN.out]; exact hlt
      obtain ⟨b, o, rfl, hc⟩ := (HR.out.pure HP.out).get hkr
      have HH := Lib.hid (rhas_any x rs[k].a rs[k].c rs[k].l wr ((HR.out.pure HP.out).has _ (List.getElem_mem hkr)) (by have := HM.out _ (List.getElem_mem hkr); omega))
      have HSt : Hid (manyP ((lsR rs).take (k + 1)) x = s0 + if x ∈ rs[k].l then 1 else 0) := Lib.hid (by
        rw [manyP_take _ _ (by rw [lsR_len]; exact hkr), ← HS.out, lsR_get hkr])
      generalize rs[k].l.length = m at *
      generalize rs[k].a = qa at *
      generalize rs[k].c = qc at *
      obtain ⟨y, hy⟩ : ∃ z, z = decide (x ∈ rs[k].l) := ⟨_, rfl⟩
      rw [← hy] at HH
      have HSt2 : Hid (manyP ((lsR rs).take (k + 1)) x = s0 + if y = true then 1 else 0) := Lib.hid (by rw [HSt.out, hy]; simp)
      clear hy HSt
      go_wp2_with fail
      refine HH.out.mono ?_
      rintro e w2 ⟨rfl, hP2⟩
      have HP2 := Lib.hid (HP.out.pure hP2)
      clear hP2
      cases y with
      | true =>
        go_wp2_with fail
        go_roundw
        case rel => exact ⟨k + 1, by omega, by go_num, ⟨s0 + 1, by go_num, Lib.hid HSt2.out.symm, by omega⟩, HP2⟩
        case measure => simp [intOf]; omega
      | false =>
        go_wp2_with fail
        go_roundw
        case rel => exact ⟨k + 1, by omega, by go_num, ⟨s0, rfl, Lib.hid HSt2.out.symm, by omega⟩, HP2⟩
        case measure => simp [intOf]; omega
    · have hki : ¬ (k : Int) < (n : Int) := by omega
      have HF : Hid (s0 = manyP (lsR rs) x) := Lib.hid (by rw [HS.out, List.take_of_length_le (by rw [lsR_len, ← HN.out]; omega)])
      go_wp2_with fail
      go_ret
      exact ⟨by rw [← HF.out]; rfl, HP.out⟩
/-- a row of numbers of the call's own -/
def OwnI (l : List Int) (w : World) (e : Ending) (w' : World) : Prop :=
  ∃ (a : Option Addr) (c : Nat), e = .returned (.slice a l.length c) ∧ w'.ownsRow w.heap.size 3 1 (.slice a l.length c) l.length (intsV l) ∧ Pure w w'
set_option maxHeartbeats 2000000 in
set_option maxRecDepth 100000 in
theorem ronce_any (ls : List Int) (ad : Option Addr) (cap : Nat) (w : World) (hr : RowOf w ad (intsV ls)) (hl : ls.length ≤ 1000000) :
    Calls Try.prog 21 #[.slice ad ls.length cap] w (OwnI (onP [] ls) w) := by
  have HR := Lib.hid hr
  obtain ⟨n, hN⟩ : ∃ z, z = ls.length := ⟨_, rfl⟩
  rw [← hN] at hl ⊢
  have HN := Lib.hid hN
  clear hr hN
  go_enter Try.func21, Try.ntmps21
  go_wp2_with fail
  go_loopw [4, 3] (fun i s W => ∃ k : Nat, k ≤ n ∧ i = .int .i64 k ∧ (∃ (a : Option Addr) (c m : Nat), s = .slice a m c ∧ m ≤ k ∧ Hid (m = (onP [] (ls.take k)).length) ∧ Hid (W.ownsRow w.heap.size 3 1 (.slice a m c) m (intsV (onP [] (ls.take k))))) ∧ Hid (Pure w W)) (fun i _ _ => n - (intOf i).toNat)
  case atStart => exact ⟨0, Nat.zero_le _, rfl, ⟨none, 0, 0, rfl, Nat.le_refl _, Lib.hid rfl, Lib.hid (World.ownsRow_nil _ _ _ _)⟩, Lib.hid (Ext.refl _ _)⟩
  case round =>
    obtain ⟨k, hk, rfl, ⟨a, c, m, rfl, hm, HMm, HO⟩, HP⟩ := hrel
    by_cases hlt : k < n
    · have hki : (k : Int) < (n : Int) := by omega
      have hk0 : (0 : Int) ≤ (k : Int) := by omega
      have hkl : k < ls.length := by rw [← HN.out]; exact hlt
      obtain ⟨b, o, rfl, h0⟩ := iV_at (HR.out.ext HP.out (fun _ _ => id)) k hkl
      obtain ⟨x, hx⟩ : ∃ z, z = ls[k] := ⟨_, rfl⟩
      have HSn : Hid (onP [] (ls.take (k + 1)) = if x ∈ onP [] (ls.take k) then onP [] (ls.take k) else onP [] (ls.take k) ++ [x]) := Lib.hid (by rw [List.take_succ_eq_append_getElem hkl, onP_snoc, hx])
      rw [← hx] at h0
      obtain ⟨zs, hzs⟩ : ∃ z, z = onP [] (ls.take k) := ⟨_, rfl⟩
      rw [← hzs] at HMm HO HSn
      have HH := rhas_any x a c zs wr (own_row HO.out) (by rw [← HMm.out]; omega)
      rw [← HMm.out] at HH
      have HH := Lib.hid HH
      have HX0 : Hid (∀ W, Pure wr W → W.cell? ⟨b, o + k, none⟩ = some (.int .i64 x)) := Lib.hid (fun W hP => hP.cell_some h0 id)
      clear hx hzs
      by_cases hin : x ∈ zs
      · have hd : decide (x ∈ zs) = true := decide_eq_true hin
        rw [hd] at HH
        have HNx : Hid (onP [] (ls.take (k + 1)) = zs) := Lib.hid (by rw [HSn.out, if_pos hin])
        clear hd hin
        go_wp2_with fail
        refine HH.out.mono ?_
        rintro e w2 ⟨rfl, hP2⟩
        have HP2 := Lib.hid (HP.out.pure hP2)
        have HO2 : Hid (w2.ownsRow w.heap.size 3 1 (.slice a m c) m (intsV (onP [] (ls.take (k + 1))))) := Lib.hid (by rw [HNx.out]; exact own_ext HO.out hP2 (fun _ _ => id))
        clear hP2
        go_wp2_with fail
        go_roundw
        case rel => exact ⟨k + 1, by omega, by go_num, ⟨a, c, m, rfl, by omega, Lib.hid (by rw [HNx.out]; exact HMm.out), HO2⟩, HP2⟩
        case measure => simp [intOf]; omega
      · have hd : decide (x ∈ zs) = false := decide_eq_false hin
        rw [hd] at HH
        have HNx : Hid (onP [] (ls.take (k + 1)) = zs ++ [x]) := Lib.hid (by rw [HSn.out, if_neg hin])
        clear hd hin
        go_wp2_with fail
        refine HH.out.mono ?_
        rintro e w2 ⟨rfl, hP2⟩
        have c2 := HX0.out w2 hP2
        have HP2 := Lib.hid (HP.out.pure hP2)
        obtain ⟨W3, hW3⟩ : ∃ z, z = w2.alloc (.cells #[.int .i64 x] 3) := ⟨_, rfl⟩
        have HP3 : Hid (Pure w2 W3) := Lib.hid (by rw [hW3]; exact ext_alloc _ _)
        have HO3 : Hid (W3.ownsRow w.heap.size 3 1 (.slice a m c) m (intsV zs)) := Lib.hid (own_ext (own_ext HO.out hP2 (fun _ _ => id)) HP3.out (fun _ _ => id))
        have HRw : Hid (RowOf W3 (some ⟨w2.heap.size, 0, none⟩) [.int .i64 x]) := Lib.hid (by rw [hW3]; exact row_at _ rfl rfl)
        have HW3 : Hid (w2.alloc (.cells #[.int .i64 x] 3) = W3) := Lib.hid hW3.symm
        have HRs : Hid (w.heap.size ≤ W3.heap.size) := Lib.hid (Nat.le_trans HP2.out.size HP3.out.size)
        have HB1 : Hid ((m + 1) * 8 ≤ 140737488355328) := Lib.hid (by omega)
        have HB2 : Hid (m + 1 ≤ maxLen) := Lib.hid (by unfold maxLen; omega)
        clear hP2 hW3 h0
        go_wp2_with (at_builtin; rw [HW3.out]; refine wpList_append_any rfl (.tmp 18) (.tmp 23) 22 rfl w.heap.size 3 (.int .i64 0) 1 8 Try.underlying22 infoI rfl (by decide) (.slice a m c) m (intsV zs) rfl HO3.out (some ⟨w2.heap.size, 0, none⟩) 1 1 [.int .i64 x] rfl (fun e => by cases e) rfl HRw.out (fun u hu => by simp at hu; subst hu; rfl) (m + 1) rfl (intsV zs ++ [.int .i64 x]) rfl HB1.out HB2.out HRs.out ?_; intro a6 c6 W6 hO6 hg6)
        have HO6 : Hid (W6.ownsRow w.heap.size 3 1 (.slice a6 (m + 1) c6) (m + 1) (intsV (onP [] (ls.take (k + 1))))) := Lib.hid (by rw [HNx.out, intsV_snoc]; exact hO6)
        have HP6 : Hid (Pure w W6) := Lib.hid (Ext.own (HP2.out.pure HP3.out) HO3.out hg6)
        clear hO6 hg6
        go_roundw
        case rel => exact ⟨k + 1, by omega, by go_num, ⟨a6, c6, m + 1, rfl, by omega, Lib.hid (by rw [HNx.out, List.length_append, ← HMm.out]; rfl), HO6⟩, HP6⟩
        case measure => simp [intOf]; omega
    · have hki : ¬ (k : Int) < (n : Int) := by omega
      have HTk : Hid (ls.take k = ls) := Lib.hid (List.take_of_length_le (by rw [← HN.out]; omega))
      go_wp2_with fail
      go_ret
      refine ⟨a, c, ?_, ?_, HP.out⟩
      · rw [← HTk.out, ← HMm.out]; rfl
      · have h := HO.out
        rw [HMm.out, HTk.out] at h
        exact h
set_option maxHeartbeats 1000000 in
set_option maxRecDepth 100000 in
theorem rsame_any (S : List Int) (a : Option Addr) (c : Nat) (a' : Option Addr) (c' : Nat) (w : World) (hR : RowOf w a (intsV S)) (hR' : RowOf w a' (intsV S)) (hl : S.length ≤ 100000000) :
    Calls Try.prog 24 #[.slice a S.length c, .slice a' S.length c'] w (BoolTo true w) := by
  obtain ⟨n, hn⟩ : ∃ n, n = S.length := ⟨_, rfl⟩
  rw [← hn]
  rw [← hn] at hl
  have HN := Lib.hid hn
  have HR := Lib.hid hR
  have HR' := Lib.hid hR'
  clear hn hR hR'
  go_enter Try.func24, Try.ntmps24
  go_wp2_with fail
  go_loopw [5] (fun i W => ∃ k : Nat, k ≤ n ∧ i = .int .i64 k ∧ Pure w W) (fun i _ => n - (intOf i).toNat)
  case atStart => exact ⟨0, Nat.zero_le _, rfl, Ext.refl _ _⟩
  case round =>
    obtain ⟨k, hk, rfl, hE⟩ := hrel
    by_cases hlt : k < n
    · have hki : (k : Int) < (n : Int) := by omega
      have hkS : k < S.length := by rw [← HN.out]; exact hlt
      obtain ⟨b, o, rfl, hc⟩ := HR.out k _ (intsV_get hkS)
      obtain ⟨b', o', rfl, hc'⟩ := HR'.out k _ (intsV_get hkS)
      obtain ⟨y, hy⟩ : ∃ y, y = S[k] := ⟨_, rfl⟩
      rw [← hy] at hc hc'
      have c1 := hE.cell_some hc id
      have c2 := hE.cell_some hc' id
      clear hy hc hc'
      go_wp2_with fail
      go_quiet (fail)
      go_wp2_with fail
      go_roundw
      case rel => exact ⟨k + 1, by omega, by go_num, (hE.drewN _)⟩
      case measure => simp [intOf]; omega
    · have hki : ¬ (k : Int) < (n : Int) := by omega
      go_wp2_with fail
      go_ret
      exact ⟨rfl, hE⟩
set_option maxHeartbeats 1000000 in
set_option maxRecDepth 100000 in
theorem cloneI_any (a : Option Addr) (c : Nat) (l : List Int) (w : World) (hr : RowOf w a (intsV l)) (hnil : a = none → c = 0) (hn : l.length ≤ 1000000) :
    Calls Try.prog 19 #[.slice a l.length c] w (OwnI l w) := by
  have he := eql_nil Try.underlying22
  cases a with
  | none =>
    obtain rfl := hnil rfl
    obtain rfl : l = [] := by
      cases l with
      | nil => rfl
      | cons x l =>
        obtain ⟨_, _, e, _⟩ := hr 0 (.int .i64 x) rfl
        cases e
    go_enter Try.func19, Try.ntmps19
    go_wp2_with fail
    go_ret
    exact ⟨none, 0, rfl, ⟨rfl, Or.inl ⟨rfl, rfl⟩⟩, Ext.refl _ _⟩
  | some ad =>
    have HR := Lib.hid hr
    obtain ⟨n, hN⟩ : ∃ z, z = l.length := ⟨_, rfl⟩
    rw [← hN] at hn ⊢
    have HN := Lib.hid hN
    have HL : Hid ((intsV l).length = n * 1) := Lib.hid (by rw [intsV_len, hN]; omega)
    have H1 : Hid (∀ u ∈ intsV l, u.oneCell' = true) := Lib.hid (fun u hu => by
      obtain ⟨x, _, rfl⟩ := List.mem_map.1 hu
      rfl)
    clear hr hnil hN
    go_enter Try.func19, Try.ntmps19
    go_wp2_with (at_builtin; refine wpList_append_any rfl (.tmp 5) (.tmp 6) 22 rfl w.heap.size 3 (.int .i64 0) 1 8 Try.underlying22 infoI rfl (by decide) (.slice (some ⟨w.heap.size, 0, none⟩) 0 0) 0 [] rfl (own_new (cs := []) rfl (Nat.zero_le _) _ (Nat.le_refl _)) (some ad) n c (intsV l) rfl (fun e => by cases e) HL.out (HR.out.ext (ext_alloc w _) (fun _ _ => id)) H1.out n (Nat.zero_add n) (intsV l) rfl (by omega) (by unfold maxLen; omega) (ext_alloc w _).size ?_)
    intro a' c' w' hO hg
    have hE : Pure w w' := (ext_alloc w (.cells #[] 3)).trans (ext_of_grown hg) (fun i hi e => by cases e; exact absurd hi (Nat.lt_irrefl _))
    have HO := Lib.hid hO
    clear hO hg
    go_wp2_with fail
    go_ret
    exact ⟨a', c', by rw [← HN.out]; rfl, by rw [← HN.out]; exact HO.out, hE⟩
end Go.Proofs.Ytnpiemcfbnpfdaa
