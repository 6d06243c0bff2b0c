import Derived.Test.YtnpiemcfbnpfdaaGreatRowPutSp
import Derived.Test.YtnpiemcfbnpfdaaGreatRef24Sp
import Derived.Test.YtnpiemcfbnpfdaaGreatFirstRSp
import Derived.Test.YtnpiemcfbnpfdaaGreatRefsRSp
import Derived.Test.YtnpiemcfbnpfdaaGreatSqSp
set_option linter.unusedVariables false
set_option linter.unusedSimpArgs false
set_option maxRecDepth 100000
namespace Go.Proofs.YtnpiemcfbnpfdaaGreat
open Go.RowKit
mutual
theorem V.more_nodup : ∀ (v : V) (S : List Int), S.Nodup → (v.more S).Nodup
 | .mk k n s l, S, h => by
   rw [V.more]
   split
   ·rename_i hc
    rw [List.nodup_append];refine ⟨h, by simp, fun y hy z hz e => ?_⟩
    rw [List.mem_singleton] at hz;subst hz;subst e;have h2 := hc.2;rw [List.contains_iff_mem.2 hy] at h2;cases h2
   ·split
    ·exact moreL_nodup l S h
    ·exact h
theorem moreL_nodup : ∀ (l : List V) (S : List Int), S.Nodup → (moreL l S).Nodup
 | [], S, h => by rw [moreL]; exact h
 | v :: l, S, h => by
   rw [moreL];exact moreL_nodup l _ (V.more_nodup v S h)
end
theorem next_nodup (v : V) : (nextR v).Nodup := (V.more_nodup v [] List.nodup_nil).filter _
theorem onP_one {xs : List Int} : ∀ {ys : List Int}, (xs ++ ys).Nodup → onP xs ys = xs ++ ys
 | [], _ => by rw [List.append_nil]; rfl
 | y :: ys, h => by
   have h1 : y ∉ xs := fun hy => (List.nodup_append.1 h).2.2 y hy y List.mem_cons_self rfl;have e : onP xs (y :: ys) = onP (xs ++ [y]) ys := by unfold onP; rw [List.foldl_cons, if_neg h1]
   rw [e, onP_one (by rw [List.append_assoc]; exact h), List.append_assoc]
   rfl
theorem first_doc (v g : V) : firstR v g = onP (nextR (v.dropped "Parent".toUTF8)) (nextR g) := by
 have e := onP_one (xs := []) (ys := nextR (v.dropped "Parent".toUTF8)) (by rw [List.nil_append]; exact next_nodup _);unfold firstR;rw [e, List.nil_append]
end Go.Proofs.YtnpiemcfbnpfdaaGreat
namespace Go.Proofs.YtnpiemcfbnpfdaaGreat
open Go.RowKit Go.Maps
set_option maxHeartbeats 1000000 in
theorem has21_any (x : Int) (ad : Option Addr) (cap : Nat) (ls : List Int) (w : World) (hr : RowOf w ad (intsV ls)) (hl : ls.length ≤ 1000000000) :
 Calls Tryz.prog 84 #[.slice ad ls.length cap, .int .i64 x] w (BoolTo (decide (x ∈ ls)) w) := by
 go_enter Tryz.func84, Tryz.ntmps84
 go_wp2_with fail
 go_loopw [5] (fun i W => ∃ k : Nat, k ≤ ls.length ∧ i = .int .i64 k ∧ Hid (∀ y ∈ ls.take k, y ≠ x) ∧ Pure w W) (fun i _ => ls.length - (intOf i).toNat)
 case atStart => exact ⟨0, Nat.zero_le _, rfl, qh (fun y hy => by simp at hy), Ext.refl _ _⟩
 case round =>
  obtain ⟨k, hk, rfl, HNo, hP⟩ := hrel
  by_cases hlt : k < ls.length
  ·have hki : (k : Int) < (ls.length : Int) := by omega
   have hk0 : (0 : Int) ≤ (k : Int) := by omega
   obtain ⟨b, o, rfl, h0⟩ := iV_at (hr.ext hP (fun _ _ => id)) k hlt;have HT := qh (List.take_succ_eq_append_getElem hlt);have HM := qh (List.getElem_mem hlt);generalize ls[k] = y at *
   by_cases hy : y = x
   ·subst hy
    have HY : Hid (decide (y ∈ ls) = true) := qh (decide_eq_true HM.out);clear HM HT
    go_wp2_with fail
    go_ret;exact ⟨by rw [HY.out]; rfl, hP⟩
   ·have hyb : (y == x) = false := by simpa using hy
    have HN : Hid (∀ z ∈ ls.take (k + 1), z ≠ x) := qh (by
     rw [HT.out]
     intro z hz
     rcases List.mem_append.1 hz with hz | hz
     ·exact HNo.out z hz
     ·rw [List.mem_singleton.1 hz]; exact hy)
    clear HM HT
    go_wp2_with fail
    go_roundw
    case rel => exact ⟨k + 1, by omega, by go_num, HN, hP⟩
    case measure => simp [intOf]; omega
  ·have hki : ¬ (k : Int) < (ls.length : Int) := by omega
   have HY : Hid (decide (x ∈ ls) = false) := qh (decide_eq_false fun hx => by
    have := HNo.out x (by rwa [List.take_of_length_le (by omega)]);exact this rfl)
   go_wp2_with fail
   go_ret;exact ⟨by rw [HY.out]; rfl, hP⟩
set_option maxHeartbeats 2000000 in
theorem on21_any (xs ys : List Int) (a b : Option Addr) (c d : Nat) (w : World) (hx : RowOf w a (intsV xs)) (hxn : a = none → xs.length = 0 ∧ c = 0) (hr : RowOf w b (intsV ys)) (hl : xs.length + ys.length ≤ 1000000) :
 Calls Tryz.prog 42 #[.slice a xs.length c, .slice b ys.length d] w (OwnI (onP xs ys) w) := by
 have HR := qh hr;have HO1 : Hid (∀ u ∈ intsV xs, u.oneCell' = true) := qh (fun u hu => by obtain ⟨x, _, rfl⟩ := List.mem_map.1 hu; rfl);have HXl : Hid ((intsV xs).length = xs.length * 1) := qh (by rw [intsV_len]; omega);have HX := qh hx;have HXn := qh hxn;obtain ⟨n, hN⟩ : ∃ z, z = ys.length := ⟨_, rfl⟩;obtain ⟨p, hp⟩ : ∃ z, z = xs.length := ⟨_, rfl⟩;rw [← hN, ← hp] at hl ⊢;rw [← hp] at HXn HXl;have HN := qh hN;have HPl := qh hp;obtain ⟨w1, hw1⟩ : ∃ z, z = w.alloc (.cells #[] 3) := ⟨_, rfl⟩;have HP1 : Hid (Pure w w1) := qh (by rw [hw1]; exact ext_alloc _ _);have HO : Hid (w1.ownsRow w.heap.size 3 1 (.slice (some ⟨w.heap.size, 0, none⟩) 0 0) 0 []) := qh (by rw [hw1]; exact own_new (cs := []) rfl (Nat.zero_le _) _ (Nat.le_refl _));have HW1 : Hid (w.alloc (.cells #[] 3) = w1) := qh hw1.symm;have HRw : Hid (RowOf w1 a (intsV xs)) := qh (HX.out.ext HP1.out (fun _ _ => id));have HS1 : Hid (w.heap.size ≤ w1.heap.size) := qh HP1.out.size;have HB1 : Hid (p * 8 ≤ 140737488355328) := qh (by omega);have HB2 : Hid (p ≤ maxLen) := qh (by unfold maxLen; omega);clear hr hN hp hx hxn hw1
 go_enter Tryz.func42, Tryz.ntmps42
 go_upto_region 2 with (at_builtin; rw [HW1.out]; refine wpList_append_any rfl (.tmp 7) (.tmp 8) 35 rfl w.heap.size 3 (.int .i64 0) 1 8 Tryz.underlying35 infoI rfl (by decide) (.slice (some ⟨w.heap.size, 0, none⟩) 0 0) 0 [] rfl HO.out a p c (intsV xs) rfl HXn.out HXl.out HRw.out HO1.out p (by omega) ([] ++ intsV xs) rfl HB1.out HB2.out HS1.out ?_; intro a1 c1 w2 hO2 hg2)
 have HO2 : Hid (w2.ownsRow w.heap.size 3 1 (.slice a1 p c1) p (intsV (onP xs (ys.take 0)))) := qh hO2;have HP2 : Hid (Pure w w2) := qh (Ext.own HP1.out HO.out hg2);have HL2 : Hid (p = (onP xs (ys.take 0)).length) := qh HPl.out;clear hO2 hg2
 go_wp2_with fail
 go_loopw [6, 5] (fun i s W => ∃ k : Nat, k ≤ n ∧ i = .int .i64 k ∧ (∃ (a : Option Addr) (c m : Nat), s = .slice a m c ∧ m ≤ p + k ∧ Hid (m = (onP xs (ys.take k)).length) ∧ Hid (W.ownsRow w.heap.size 3 1 (.slice a m c) m (intsV (onP xs (ys.take k))))) ∧ Hid (Pure w W)) (fun i _ _ => n - (intOf i).toNat)
 case atStart => exact ⟨0, Nat.zero_le _, rfl, ⟨a1, c1, p, rfl, Nat.le_refl _, HL2, HO2⟩, HP2⟩
 case round =>
  obtain ⟨k, hk, rfl, ⟨a, c, m, rfl, hm, HMm, HO⟩, HP⟩ := hrel
  by_cases hlt : k < n
  ·have hki : (k : Int) < (n : Int) := by omega
   have hk0 : (0 : Int) ≤ (k : Int) := by omega
   have hkl : k < ys.length := by rw [← HN.out]; exact hlt
   obtain ⟨b, o, rfl, h0⟩ := iV_at (HR.out.ext HP.out (fun _ _ => id)) k hkl;obtain ⟨x, hx⟩ : ∃ z, z = ys[k] := ⟨_, rfl⟩;have HSn : Hid (onP xs (ys.take (k + 1)) = if x ∈ onP xs (ys.take k) then onP xs (ys.take k) else onP xs (ys.take k) ++ [x]) := qh (by rw [List.take_succ_eq_append_getElem hkl, onP_snoc, hx])
   rw [← hx] at h0;obtain ⟨zs, hzs⟩ : ∃ z, z = onP xs (ys.take k) := ⟨_, rfl⟩;rw [← hzs] at HMm HO HSn;have HH := has21_any x a c zs wr (own_row HO.out) (by rw [← HMm.out]; omega);rw [← HMm.out] at HH;have HH := qh HH;have HX0 : Hid (∀ W, Pure wr W → W.cell? ⟨b, o + k, none⟩ = some (.int .i64 x)) := qh (fun W hP => hP.cell_some h0 id);clear hx hzs
   by_cases hin : x ∈ zs
   ·have hd : decide (x ∈ zs) = true := decide_eq_true hin
    rw [hd] at HH;have HNx : Hid (onP xs (ys.take (k + 1)) = zs) := qh (by rw [HSn.out, if_pos hin]);clear hd hin
    go_wp2_with fail
    refine HH.out.mono ?_;rintro e w2 ⟨rfl, hP2⟩;have HP2 := qh (HP.out.pure hP2);have HO2 : Hid (w2.ownsRow w.heap.size 3 1 (.slice a m c) m (intsV (onP xs (ys.take (k + 1))))) := qh (by rw [HNx.out]; exact own_ext HO.out hP2 (fun _ _ => id));clear hP2
    go_wp2_with fail
    go_roundw
    case rel => exact ⟨k + 1, by omega, by go_num, ⟨a, c, m, rfl, by omega, qh (by rw [HNx.out]; exact HMm.out), HO2⟩, HP2⟩
    case measure => simp [intOf]; omega
   ·have hd : decide (x ∈ zs) = false := decide_eq_false hin
    rw [hd] at HH;have HNx : Hid (onP xs (ys.take (k + 1)) = zs ++ [x]) := qh (by rw [HSn.out, if_neg hin]);clear hd hin
    go_wp2_with fail
    refine HH.out.mono ?_;rintro e w2 ⟨rfl, hP2⟩;have c2 := HX0.out w2 hP2;have HP2 := qh (HP.out.pure hP2);obtain ⟨W3, hW3⟩ : ∃ z, z = w2.alloc (.cells #[.int .i64 x] 3) := ⟨_, rfl⟩;have HP3 : Hid (Pure w2 W3) := qh (by rw [hW3]; exact ext_alloc _ _);have HO3 : Hid (W3.ownsRow w.heap.size 3 1 (.slice a m c) m (intsV zs)) := qh (own_ext (own_ext HO.out hP2 (fun _ _ => id)) HP3.out (fun _ _ => id));have HRw : Hid (RowOf W3 (some ⟨w2.heap.size, 0, none⟩) [.int .i64 x]) := qh (by rw [hW3]; exact row_at _ rfl rfl);have HW3 : Hid (w2.alloc (.cells #[.int .i64 x] 3) = W3) := qh hW3.symm;have HRs : Hid (w.heap.size ≤ W3.heap.size) := qh (Nat.le_trans HP2.out.size HP3.out.size);have HB1 : Hid ((m + 1) * 8 ≤ 140737488355328) := qh (by omega);have HB2 : Hid (m + 1 ≤ maxLen) := qh (by unfold maxLen; omega);clear hP2 hW3 h0
    go_wp2_with (at_builtin; rw [HW3.out]; refine wpList_append_any rfl (.tmp 23) (.tmp 28) 35 rfl w.heap.size 3 (.int .i64 0) 1 8 Tryz.underlying35 infoI rfl (by decide) (.slice a m c) m (intsV zs) rfl HO3.out (some ⟨w2.heap.size, 0, none⟩) 1 1 [.int .i64 x] rfl (fun e => by cases e) rfl HRw.out (fun u hu => by simp at hu; subst hu; rfl) (m + 1) rfl (intsV zs ++ [.int .i64 x]) rfl HB1.out HB2.out HRs.out ?_; intro a6 c6 W6 hO6 hg6)
    have HO6 : Hid (W6.ownsRow w.heap.size 3 1 (.slice a6 (m + 1) c6) (m + 1) (intsV (onP xs (ys.take (k + 1))))) := qh (by rw [HNx.out, intsV_snoc]; exact hO6);have HP6 : Hid (Pure w W6) := qh (Ext.own (HP2.out.pure HP3.out) HO3.out hg6);clear hO6 hg6;go_roundw
    case rel => exact ⟨k + 1, by omega, by go_num, ⟨a6, c6, m + 1, rfl, by omega, qh (by rw [HNx.out, List.length_append, ← HMm.out]; rfl), HO6⟩, HP6⟩
    case measure => simp [intOf]; omega
  ·have hki : ¬ (k : Int) < (n : Int) := by omega
   have HTk : Hid (ys.take k = ys) := qh (List.take_of_length_le (by rw [← HN.out]; omega))
   go_wp2_with fail
   go_ret;refine ⟨a, c, ?_, ?_, HP.out⟩
   ·rw [← HTk.out, ← HMm.out]; rfl
   ·have h := HO.out
    rw [HMm.out, HTk.out] at h;exact h
theorem next_snoc {L : List Int} {k : Nat} (hk : k < L.length) : (L.take (k + 1)).filter (fun x => decide (1 ≤ x ∧ x ≤ 4096)) = (L.take k).filter (fun x => decide (1 ≤ x ∧ x ≤ 4096)) ++ (if 1 ≤ L[k] ∧ L[k] ≤ 4096 then [L[k]] else []) := by
 rw [List.take_succ_eq_append_getElem hk, List.filter_append]
 congr 1
 by_cases h : 1 ≤ L[k] ∧ L[k] ≤ 4096
 ·rw [if_pos h]; simp [h]
 ·rw [if_neg h]; simp [h]
set_option maxHeartbeats 2000000 in
theorem next21_any (d : Nat) (v : V) (cs : List Value) (w : World) (h : Lies w d v cs) (hsz : v.size ≤ 100000) :
 Calls Tryz.prog 44 #[.agg cs.toArray] w (OwnI (nextR v) w) := by
 have HRf := qh (fun W (hP : Pure w W) => refrefs_any d v cs W (h.pure hP) hsz);obtain ⟨L, hL⟩ : ∃ z, z = v.more [] := ⟨_, rfl⟩;have hLn : L.length ≤ 100000 := by rw [hL]; have := V.more_len v []; simp at this; omega
 rw [← hL] at HRf;have HNx : Hid (nextR v = L.filter (fun x => decide (1 ≤ x ∧ x ≤ 4096))) := qh (by rw [hL]; rfl);obtain ⟨k0, n0, s0, a0, m0, c0, rfl⟩ := h.form;obtain ⟨n, hn⟩ : ∃ z, z = L.length := ⟨_, rfl⟩;unfold NumsTo at HRf;rw [← hn] at HRf hLn;have HN := qh hn;obtain ⟨w1, hw1⟩ : ∃ z, z = w.alloc (.cells #[.int .i64 k0, .int .i64 n0, .string s0, .slice a0 m0 c0] 48) := ⟨_, rfl⟩;have HP1 : Hid (Pure w w1) := qh (by rw [hw1]; exact ext_alloc _ _);have hB1 : BlockIs w1 w.heap.size [.int .i64 k0, .int .i64 n0, .string s0, .slice a0 m0 c0] 48 := by rw [hw1]; exact BlockIs.new w _ _
 have HW1 := qh hw1.symm;obtain ⟨tb, htb⟩ : ∃ z, z = w.heap.size := ⟨_, rfl⟩;rw [← htb] at hB1;have HTb := qh htb.symm;have x0 : w1.cell? ⟨tb, 0, none⟩ = some (.int .i64 k0) := hB1.cell 0;have x1 : w1.cell? ⟨tb, 0 + 1, none⟩ = some (.int .i64 n0) := hB1.cell 1;have x2 : w1.cell? ⟨tb, 0 + 2, none⟩ = some (.string s0) := hB1.cell 2;have x3 : w1.cell? ⟨tb, 0 + 3, none⟩ = some (.slice a0 m0 c0) := hB1.cell 3;clear h hsz hL hn hw1 hB1 htb
 go_enter Tryz.func44, Tryz.ntmps44
 go_upto_region 1 with (fail)
 rw [HW1.out, HTb.out]
 go_wp2_with fail
 refine (HRf.out w1 HP1.out).mono ?_;rintro e w2 ⟨ra, rc, rfl, _, _, _, hR, hP2⟩;have HR := qh hR;have HP2 := qh (HP1.out.pure hP2);obtain ⟨P, hPd⟩ : ∃ z : Int → Bool, z = (fun x => decide (1 ≤ x ∧ x ≤ 4096)) := ⟨_, rfl⟩;clear hR hP2 x0 x1 x2 x3 HRf
 go_wp2_with fail
 go_loopw [5, 3] (fun i s W => ∃ k : Nat, k ≤ n ∧ i = .int .i64 k ∧ (∃ (a : Option Addr) (c m : Nat), s = .slice a m c ∧ m ≤ k ∧ Hid (m = ((L.take k).filter (fun x => decide (1 ≤ x ∧ x ≤ 4096))).length) ∧ Hid (W.ownsRow w2.heap.size 3 1 (.slice a m c) m (intsV ((L.take k).filter (fun x => decide (1 ≤ x ∧ x ≤ 4096)))))) ∧ Hid (Pure w2 W)) (fun i _ _ => n - (intOf i).toNat)
 case atStart => exact ⟨0, Nat.zero_le _, rfl, ⟨none, 0, 0, rfl, Nat.le_refl _, qh rfl, qh (World.ownsRow_nil _ _ _ _)⟩, qh (Ext.refl _ _)⟩
 case round =>
  obtain ⟨k, hk, rfl, ⟨a, c, m, rfl, hm, HMm, HO⟩, HP⟩ := hrel
  by_cases hlt : k < n
  ·have hki : (k : Int) < (n : Int) := by omega
   have hk0 : (0 : Int) ≤ (k : Int) := by omega
   have hkl : k < L.length := by rw [← HN.out]; exact hlt
   obtain ⟨b, o, rfl, h0⟩ := iV_at (HR.out.ext HP.out (fun _ _ => id)) k hkl;have HSn := qh (next_snoc hkl);obtain ⟨x, hx⟩ : ∃ z, z = L[k] := ⟨_, rfl⟩;rw [← hx] at h0 HSn;clear hx hkl
   by_cases hin : 1 ≤ x ∧ x ≤ 4096
   ·have HNx2 : Hid ((L.take (k + 1)).filter (fun x => decide (1 ≤ x ∧ x ≤ 4096)) = (L.take k).filter (fun x => decide (1 ≤ x ∧ x ≤ 4096)) ++ [x]) := qh (by rw [HSn.out, if_pos hin])
    obtain ⟨h1, h2⟩ := hin;obtain ⟨zs, hzs⟩ : ∃ z, z = (L.take k).filter (fun x => decide (1 ≤ x ∧ x ≤ 4096)) := ⟨_, rfl⟩;rw [← hzs] at HMm HO HNx2;obtain ⟨W3, hW3⟩ : ∃ z, z = wr.alloc (.cells #[.int .i64 x] 3) := ⟨_, rfl⟩;have HP3 : Hid (Pure wr W3) := qh (by rw [hW3]; exact ext_alloc _ _);have HO3 : Hid (W3.ownsRow w2.heap.size 3 1 (.slice a m c) m (intsV zs)) := qh (own_ext HO.out HP3.out (fun _ _ => id));have HRw : Hid (RowOf W3 (some ⟨wr.heap.size, 0, none⟩) [.int .i64 x]) := qh (by rw [hW3]; exact row_at _ rfl rfl);have HW3 : Hid (wr.alloc (.cells #[.int .i64 x] 3) = W3) := qh hW3.symm;have HRs : Hid (w2.heap.size ≤ W3.heap.size) := qh (Nat.le_trans HP.out.size HP3.out.size);have HB1 : Hid ((m + 1) * 8 ≤ 140737488355328) := qh (by omega);have HB2 : Hid (m + 1 ≤ maxLen) := qh (by unfold maxLen; omega);clear hzs hW3 HSn
    go_wp2_with (at_builtin; rw [HW3.out]; refine wpList_append_any rfl (.tmp 26) (.tmp 31) 35 rfl w2.heap.size 3 (.int .i64 0) 1 8 Tryz.underlying35 infoI rfl (by decide) (.slice a m c) m (intsV zs) rfl HO3.out (some ⟨wr.heap.size, 0, none⟩) 1 1 [.int .i64 x] rfl (fun e => by cases e) rfl HRw.out (fun u hu => by simp at hu; subst hu; rfl) (m + 1) rfl (intsV zs ++ [.int .i64 x]) rfl HB1.out HB2.out HRs.out ?_; intro a6 c6 W6 hO6 hg6)
    have HO6 : Hid (W6.ownsRow w2.heap.size 3 1 (.slice a6 (m + 1) c6) (m + 1) (intsV ((L.take (k + 1)).filter (fun x => decide (1 ≤ x ∧ x ≤ 4096))))) := qh (by rw [HNx2.out, intsV_snoc]; exact hO6);have HP6 : Hid (Pure w2 W6) := qh ((HP.out.pure HP3.out).trans (ext_of_grown hg6) (fun i hi e => by have := (HO3.out.lt i e).1; have h4 := HP2.out.size; omega));clear hO6 hg6;go_roundw
    case rel => exact ⟨k + 1, by omega, by go_num, ⟨a6, c6, m + 1, rfl, by omega, qh (by rw [HNx2.out, List.length_append, ← HMm.out]; rfl), HO6⟩, HP6⟩
    case measure => simp [intOf]; omega
   ·have HNx2 : Hid ((L.take (k + 1)).filter (fun x => decide (1 ≤ x ∧ x ≤ 4096)) = (L.take k).filter (fun x => decide (1 ≤ x ∧ x ≤ 4096))) := qh (by rw [HSn.out, if_neg hin, List.append_nil])
    have HM2 : Hid (m = ((L.take (k + 1)).filter (fun x => decide (1 ≤ x ∧ x ≤ 4096))).length) := qh (by rw [HNx2.out]; exact HMm.out);have HO2 : Hid (wr.ownsRow w2.heap.size 3 1 (.slice a m c) m (intsV ((L.take (k + 1)).filter (fun x => decide (1 ≤ x ∧ x ≤ 4096))))) := qh (by rw [HNx2.out]; exact HO.out);clear HSn HNx2
    by_cases h1 : 1 ≤ x
    ·have h2 : ¬ x ≤ 4096 := fun h2 => hin ⟨h1, h2⟩
     clear hin
     go_wp2_with fail
     go_roundw
     case rel => exact ⟨k + 1, by omega, by go_num, ⟨a, c, m, rfl, by omega, HM2, HO2⟩, HP⟩
     case measure => simp [intOf]; omega
    ·clear hin
     go_wp2_with fail
     go_roundw
     case rel => exact ⟨k + 1, by omega, by go_num, ⟨a, c, m, rfl, by omega, HM2, HO2⟩, HP⟩
     case measure => simp [intOf]; omega
  ·have hki : ¬ (k : Int) < (n : Int) := by omega
   have HTk : Hid (L.take k = L) := qh (List.take_of_length_le (by rw [← HN.out]; omega))
   go_wp2_with fail
   go_ret;refine ⟨a, c, ?_, ?_, HP2.out.pure HP.out⟩
   ·rw [HNx.out, ← HTk.out, ← HMm.out]; rfl
   ·have h := HO.out
    rw [HMm.out, HTk.out, ← HNx.out] at h;exact own_base h HP2.out.size
theorem own_none {w : World} {B e size n c : Nat} {a : Option Addr} {xs : List Value} (h : w.ownsRow B e size (.slice a n c) n xs) : a = none → n = 0 ∧ c = 0 := by
 obtain ⟨a', c', he, h1, _, h3, _⟩ := own_form h;cases he
 intro ha
 have := h3 ha
 omega
theorem exec_loadV {oi : Oper} {ev : Operand → Value} {w : World} {x : Operand} {b : Nat} {cs : List Value} {T : TypeId} (ho : oi.op = .load 48 x) (hx : ev x = .pointer (some ⟨b, 0, none⟩)) (hB : BlockIs w b cs T) (hl : cs.length = 4) :
 (execOp ev oi).run Tryz.prog w = .ok (.value (.agg cs.toArray)) w := by
 unfold execOp;simp only [ho, hx, Instr.loadAt, Instr.sureAddr, Sem.run_bind, Sem.run_pure, Result.andThen_ok, run_loadVar_mid w b 0 48 cs _ hB.range Tryz.underlying48 rfl (by rw [hl]; exact size24)]
set_option maxHeartbeats 2000000 in
theorem first21_any (d e0 : Nat) (v : V) (vcs : List Value) (g : V) (gcs : List Value) (w : World) (hv : Lies w (d + 1) v vcs) (hg : Lies w (e0 + 1) g gcs) (hvz : v.size ≤ 100000) (hgz : g.size ≤ 100000) :
 Calls Tryz.prog 43 #[.agg vcs.toArray, .agg gcs.toArray] w (OwnI (firstR v g) w) := by
 rw [first_doc];have HDr := qh (fun W (hP : Pure w W) => refdrop_top W d v vcs "Parent".toUTF8 W (Ext.refl _ _) (hv.pure hP).top (by have := V.len_size v; omega));have HNv := qh (fun cs W (hL : Lies W (d + 1) (v.dropped "Parent".toUTF8) cs) => next21_any (d + 1) (v.dropped "Parent".toUTF8) cs W hL (Nat.le_trans (dropped_size v _) hvz));have HNg := qh (fun W (hP : Pure w W) => next21_any (e0 + 1) g gcs W (hg.pure hP) hgz);have HSv := qh (Nat.le_trans (nextR_len (v.dropped "Parent".toUTF8)) (Nat.le_trans (dropped_size v _) hvz));have HSg := qh (Nat.le_trans (nextR_len g) hgz);have hk : (⟨#[80, 97, 114, 101, 110, 116]⟩ : ByteArray) = "Parent".toUTF8 := k_parent;rw [← hk] at HDr HNv HSv ⊢;obtain ⟨A, hA⟩ : ∃ z, z = nextR (v.dropped ⟨#[80, 97, 114, 101, 110, 116]⟩) := ⟨_, rfl⟩;obtain ⟨B, hB⟩ : ∃ z, z = nextR g := ⟨_, rfl⟩;rw [← hA] at HNv HSv ⊢;rw [← hB] at HNg HSg ⊢;have HOn := qh (fun a b c e W (h1 : RowOf W a (intsV A)) (h2 : a = none → A.length = 0 ∧ c = 0) (h3 : RowOf W b (intsV B)) => on21_any A B a b c e W h1 h2 h3 (by have h1 := HSv.out; have h2 := HSg.out; omega));unfold ValTop at HDr;unfold OwnI at HNv HNg;obtain ⟨an, han⟩ : ∃ z, z = A.length := ⟨_, rfl⟩;obtain ⟨bn, hbn⟩ : ∃ z, z = B.length := ⟨_, rfl⟩;rw [← han] at HNv HOn;rw [← hbn] at HNg HOn;obtain ⟨vk, vn, vs, va, vm, vc, rfl⟩ := hv.form;obtain ⟨gk, gn, gs, ga, gm, gc, rfl⟩ := hg.form;obtain ⟨w1, hw1⟩ : ∃ z, z = (w.alloc (.cells #[.int .i64 vk, .int .i64 vn, .string vs, .slice va vm vc] 48)).alloc (.cells #[.int .i64 gk, .int .i64 gn, .string gs, .slice ga gm gc] 48) := ⟨_, rfl⟩;have HP1 : Hid (Pure w w1) := qh (by rw [hw1]; exact (ext_alloc w _).pure (ext_alloc _ _));have HBv : Hid (BlockIs w1 w.heap.size [.int .i64 vk, .int .i64 vn, .string vs, .slice va vm vc] 48) := qh (by rw [hw1]; exact (BlockIs.new w _ _).alloc _);have HBg : Hid (BlockIs w1 (w.heap.size + 1) [.int .i64 gk, .int .i64 gn, .string gs, .slice ga gm gc] 48) := qh (by
  have := BlockIs.new (w.alloc (.cells #[.int .i64 vk, .int .i64 vn, .string vs, .slice va vm vc] 48)) [.int .i64 gk, .int .i64 gn, .string gs, .slice ga gm gc] 48;rw [World.size_alloc] at this;rw [hw1]; exact this)
 have HW1 := qh hw1.symm;obtain ⟨tb, htb⟩ : ∃ z, z = w.heap.size := ⟨_, rfl⟩;rw [← htb] at HBv HBg;have HTb := qh htb.symm;clear hv hg hvz hgz hk hA hB han hbn hw1 htb
 go_enter Tryz.func43, Tryz.ntmps43
 go_upto_region 1 with (fail)
 rw [HW1.out, HTb.out];have hBv := HBv.out.drew;have hBg := HBg.out.drew;have hPw := HP1.out.drew;refine region_start (fun _ => False) (by kernel_rfl) ?_
 try simp only [Act.put, sA, sZ, sS]
 refine rU 0 5 (v := ?vfi0) (fun w' hS => ?hfi0) ?rfi0
 case hfi0 => (refine exec_loadV (x := .tmp 2) ?_ ?_ (hBv.ext hS id) rfl <;> rfl)
 try simp only [Act.put, sA, sZ, sS]
 refine rU 3 8 (v := ?vfi3) (fun w' hS => ?hfi3) ?rfi3
 case hfi3 => (refine exec_loadV (x := .tmp 3) ?_ ?_ (hBg.ext hS id) rfl <;> rfl)
 try simp only [Act.put, sA, sZ, sS]
 refine rR 1 (fun K hK => ?_)
 go_simp
 refine (HDr.out _ hPw).mono ?_;rintro e W5 ⟨cs5, rfl, hT5, hP, _⟩;have hPw := hPw.pure hP;have hN5 := HNv.out cs5 W5 (hT5.lies hP);obtain ⟨k5, n5, s5, a5, m5, c5, h5⟩ := (hT5.lies hP).form;rw [h5] at hN5;rw [h5];clear hT5 h5;refine hK.out _ _ (hP) (fun hHeld => ?_);clear hK K hHeld;refine region_now (hP) ?_
 try simp only [Act.put, sA, sZ, sS]
 refine rR 2 (fun K hK => ?_)
 go_simp
 refine hN5.mono ?_;rintro e W6 ⟨xa, xc, rfl, hXo, hP⟩;have hPw := hPw.pure hP;clear hN5;refine hK.out _ _ (hP) (fun hHeld => ?_);clear hK K hHeld;refine region_now (hP) ?_
 try simp only [Act.put, sA, sZ, sS]
 refine rR 4 (fun K hK => ?_)
 go_simp
 refine (HNg.out _ hPw).mono ?_;rintro e W7 ⟨ya, yc, rfl, hYo, hP⟩;have hPw := hPw.pure hP;have hXr := (own_row hXo).ext hP (fun _ _ => id);have hXz := own_none hXo;have hBase : w.heap.size ≤ W7.heap.size := hPw.size;refine hK.out _ _ (hP) (fun hHeld => ?_);clear hK K hHeld;refine region_now (hP) ?_
 try simp only [Act.put, sA, sZ, sS]
 refine rR 5 (fun K hK => ?_)
 go_simp
 refine (HOn.out xa ya xc yc _ hXr hXz (own_row hYo)).mono ?_;rintro e W8 ⟨ra, rc, rfl, hO, hP⟩;have hPw := hPw.pure hP;refine hK.out _ _ (hP) (fun hHeld => ?_);clear hK K hHeld;refine region_now (hP) ?_
 try simp only [Act.put, sA, sZ, sS]
 refine rT 6 4 ?_;refine wpAnyH_done (by kernel_rfl) ?_ _
 go_simp
 try simp only [Act.put, sA, sZ, sS]
 go_wp2_with fail
 go_ret;exact ⟨ra, rc, rfl, own_base hO hBase, hPw⟩
