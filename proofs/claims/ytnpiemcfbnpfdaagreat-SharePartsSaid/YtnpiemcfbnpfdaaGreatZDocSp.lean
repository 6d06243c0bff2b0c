import Derived.Test.YtnpiemcfbnpfdaaGreatZWalkSp
import Derived.Test.YtnpiemcfbnpfdaaGreatZCheckSp
import Derived.Test.YtnpiemcfbnpfdaaGreatDocDSp
import Derived.Test.YtnpiemcfbnpfdaaGreatRefsRSp
import Derived.Test.YtnpiemcfbnpfdaaGreatSqSp
set_option linter.unusedVariables false
set_option linter.unusedSimpArgs false
set_option maxRecDepth 100000
namespace Go.Proofs.YtnpiemcfbnpfdaaGreat
open Go.RowKit Go.Maps
set_option maxHeartbeats 4000000 in
theorem refdoc_any (d : Nat) (l : List Ob) (oa : Option Addr) (oc : Nat) (rows : List (List Value)) (root : Int) (w : World) (hD : DocOk w d l oa rows root) (hds : ∀ u ∈ l, u.data.size ≤ maxLen) :
 Calls Tryz.prog 18 #[.agg #[.slice oa l.length oc, .int .i64 root]] w (IntTo (docE l root) w) := by
 have HWk := qh (fun W (hP : Pure w W) => refwalk_any d l oa oc rows root W (hD.pure hP));have HSt := qh (fun W (hP : Pure w W) (a1 a2 : Option Addr) (x1 x2 : Nat) (h1 : RowOf W a1 (intsV (walkP l root).1.nodes)) (h2 : RowOf W a2 (intsV (walkP l root).1.pages)) => refstray_any d l oa oc rows root (walkP l root).1 a1 a2 x1 x2 W (hD.pure hP) h1 h2 (by have := (walkP_wf hD).len; have := hD.len; omega) (by have := (walkP_wf hD).len; have := hD.len; omega));obtain ⟨F, hF⟩ : ∃ z, z = docE l root := ⟨_, rfl⟩;rw [← hF];unfold docE at hF;obtain ⟨n, hn⟩ : ∃ z, z = l.length := ⟨_, rfl⟩;rw [← hn] at hF HWk HSt ⊢;have hn5 : n ≤ 5000 := by rw [hn]; exact hD.len
 obtain ⟨O, hO⟩ : ∃ z, z = objsE n l := ⟨_, rfl⟩;obtain ⟨Q, hQ⟩ : ∃ z, z = walkP l root := ⟨_, rfl⟩;rw [← hO] at hF;rw [← hQ] at hF HWk HSt;have HF := qh hF;have HO := qh hO;have HN := qh hn;have HD := qh hD;have HDs := qh hds;clear hF hO hQ hn hD hds;obtain ⟨t, E⟩ := Q;obtain ⟨w1, hw1⟩ : ∃ z, z = w.alloc (.cells #[.slice oa n oc, .int .i64 root] 24) := ⟨_, rfl⟩;obtain ⟨tb, htb⟩ : ∃ z, z = w.heap.size := ⟨_, rfl⟩;have HB1 : Hid (BlockIs w1 tb [.slice oa n oc, .int .i64 root] 24) := qh (by rw [hw1, htb]; exact BlockIs.new w _ _);have HP1 : Hid (Pure w w1) := qh (hw1 ▸ ext_alloc w _);have HW1 := qh hw1;have HTb := qh htb;have d0 : w1.cell? ⟨tb, 0, none⟩ = some (.slice oa n oc) := HB1.out.cell 0;clear hw1 htb
 go_enter Tryz.func18, Tryz.ntmps18
 go_upto_region 1 with (fail)
 rw [← HW1.out, ← HTb.out]
 by_cases hlong : 4094 < n
 ·have hli : (4094 : Int) < (n : Int) := by omega
  have HFr : Hid (F = 3) := qh (by rw [HF.out, if_pos hlong])
  go_wp2_with fail
  go_ret;exact ⟨by rw [HFr.out]; rfl, HP1.out⟩
 ·have hli : ¬ (4094 : Int) < (n : Int) := by omega
  have HF2 := qh (HF.out.trans (if_neg hlong));clear hlong HF
  go_wp2_with fail
  go_loopw [3] (fun i wr => ∃ k : Nat, k ≤ n ∧ i = .int .i64 k ∧ Hid (O = objsE n (l.drop k)) ∧ Hid (Pure w1 wr)) (fun i _ => n - (intOf i).toNat)
  case atStart => exact ⟨0, Nat.zero_le _, rfl, HO, qh (Ext.refl _ _)⟩
  case round =>
   obtain ⟨k, hk, rfl, HR, HE⟩ := hrel;clear d0;have d0 : wr.cell? ⟨tb, 0, none⟩ = some (.slice oa n oc) := (HB1.out.ext HE.out id).cell 0
   by_cases hlt : k < n
   ·have hki : (k : Int) < (n : Int) := by omega
    obtain ⟨u, hu⟩ : ∃ u, l[k]? = some u := ⟨_, List.getElem?_eq_getElem (by rw [← HN.out]; exact hlt)⟩;have hum := List.mem_of_getElem? hu;have HR2 : Hid (O = if obE u ≠ 0 then obE u else if (u.v.more []).any (fun k => decide ((n : Int) < k)) then 26 else objsE n (l.drop (k + 1))) := qh (by
     obtain ⟨hkl, rfl⟩ := List.getElem?_eq_some_iff.1 hu;rw [HR.out, List.drop_eq_getElem_cons hkl, objsE_cons])
    obtain ⟨b, o, cs, rfl, hr4, hl4, hL, hr0⟩ := HD.out.ok.at k u hu;have hl : u.v.l.length ≤ 1000000 := by have := V.len_size u.v; have := HD.out.size u hum; omega
    have HC := qh (fun W (hP : Pure w W) => rfcheck_any d u cs W (hL.pure hP) (HD.out.size u hum) (HDs.out u hum));have HRf := qh (fun W (hP : Pure w W) => refrefs_any (d + 1) u.v cs W (hL.pure hP) (HD.out.size u hum));have hPr := HP1.out.pure HE.out;have hr : wr.rangeAt b (o + k * 6) (cs ++ [Value.bool u.st, Value.string u.data]) := fun j v hv => hPr.cell_some (hr0 j v hv) id;have HPr := qh hPr;have HR4 := qh hr4;have hsz6 : (Tryz.prog.info? 50).map (·.size) = some (cs ++ [Value.bool u.st, Value.string u.data]).length := by rw [List.length_append, hl4]; exact info6
    obtain ⟨ua, uc, urows, hcs, _⟩ := hL.kids;rw [hcs] at HC HRf hr hsz6 HR4;have HSz := qh hsz6;have hmz : (u.v.more []).length ≤ 100000 := Nat.le_trans (more_len u.v) (HD.out.size u hum);have HMz := qh hmz;clear hcs hL hl4 hr0 hu hum hl hPr hsz6 HR hmz hr4;generalize u.v.l.length = um at *;generalize u.v.kind = uk at *;generalize u.v.n = un at *;generalize u.v.s = us at *;generalize u.st = st at *;generalize u.data = dt at *;obtain ⟨E0, hE⟩ : ∃ z, z = obE u := ⟨_, rfl⟩;obtain ⟨M, hM⟩ : ∃ z, z = u.v.more [] := ⟨_, rfl⟩;rw [← hE] at HR2 HC;rw [← hM] at HR2 HRf HMz;clear hE hM;simp only [List.cons_append, List.nil_append] at HC HRf hr HSz
    go_wp2_with (with_reducible refine at_load 50 (.tmp 23) ?_; refine wpList_load_mid rfl 50 (.tmp 23) rfl b (o + k * 6) rfl [.int .i64 uk, .int .i64 un, .string us, .slice ua um uc, .bool st, .string dt] _ hr Tryz.underlying50 rfl HSz.out ?_)
    refine (HC.out _ HPr.out).mono ?_;rintro e w3 ⟨rfl, hP3⟩;have HE3 := qh (HE.out.pure hP3);have HPr3 := qh (HPr.out.pure hP3);have e0 : w3.cell? ⟨tb, 0, none⟩ = some (.slice (some ⟨b, o, none⟩) n oc) := (HB1.out.ext HE3.out id).cell 0;clear hP3 HC hr HE HPr d0
    by_cases hE0 : E0 = 0
    ·subst hE0
     have HR3 : Hid (O = if M.any (fun k => decide ((n : Int) < k)) then 26 else objsE n (l.drop (k + 1))) := qh HR2.out
     have hr3 : w3.rangeAt b (o + k * 6) [.int .i64 uk, .int .i64 un, .string us, .slice ua um uc] := fun j v hv => HPr3.out.cell_some (HR4.out j v hv) id;have HS24 : Hid ((Tryz.prog.info? 48).map (·.size) = some [Value.int .i64 uk, .int .i64 un, .string us, .slice ua um uc].length) := qh size24
     go_wp2_with (with_reducible refine at_load 48 (.tmp 33) ?_; refine wpList_load_mid rfl 48 (.tmp 33) rfl b (o + k * 6) rfl [.int .i64 uk, .int .i64 un, .string us, .slice ua um uc] _ hr3 Tryz.underlying48 rfl HS24.out ?_)
     refine (HRf.out w3 HPr3.out).mono ?_;rintro e w4 ⟨ra, rc, rfl, _, _, _, hRow, hP4⟩;have HE4 := qh (HE3.out.pure hP4);have HRow := qh hRow;obtain ⟨mn, hmn⟩ : ∃ z, z = M.length := ⟨_, rfl⟩;have HMn := qh hmn;have hmz : mn ≤ 100000 := by rw [hmn]; exact HMz.out
     rw [← hmn];clear hRow hP4 hmn e0 HR2 HRf hr3
     go_wp2_with fail
     go_loopw [6] (fun i wj => ∃ j : Nat, j ≤ mn ∧ i = .int .i64 j ∧ Hid ((M.take j).any (fun k => decide ((n : Int) < k)) = false) ∧ Hid (Pure w4 wj)) (fun i _ => mn - (intOf i).toNat)
     case atStart => exact ⟨0, Nat.zero_le _, rfl, qh rfl, qh (Ext.refl _ _)⟩
     case round =>
      obtain ⟨j, hj, rfl, HNj, HEj⟩ := hrel
      by_cases hjl : j < mn
      ·have hji : (j : Int) < (mn : Int) := by omega
       have hj0 : (0 : Int) ≤ (j : Int) := by omega
       have hjM : j < M.length := by rw [← HMn.out]; exact hjl
       obtain ⟨yb, yo, hra, hc⟩ := (HRow.out.ext HEj.out (fun _ _ => id)) j _ (intsV_get hjM);obtain ⟨y, hy⟩ : ∃ z, z = M[j] := ⟨_, rfl⟩;rw [← hy] at hc;have HTk : Hid ((M.take (j + 1)).any (fun k => decide ((n : Int) < k)) = decide ((n : Int) < y)) := qh (by rw [any_take_s _ _ _ hjM, HNj.out, Bool.false_or, hy]);have HMy : Hid ((n : Int) < y → M.any (fun k => decide ((n : Int) < k)) = true) := qh (fun h => List.any_eq_true.2 ⟨y, by rw [hy]; exact List.getElem_mem hjM, decide_eq_true h⟩);subst hra;have HEq := qh (HE4.out.pure HEj.out);obtain ⟨wj, rfl⟩ : ∃ z : World, z = wr := ⟨_, rfl⟩;have d0 : wj.cell? ⟨tb, 0, none⟩ = some (.slice (some ⟨b, o, none⟩) n oc) := (HB1.out.ext HEq.out id).cell 0;clear hy hjM
       by_cases hy : (n : Int) < y
       ·have hyb : decide ((n : Int) < y) = true := decide_eq_true hy
        have HOr : Hid (O = 26) := qh (by rw [HR3.out, if_pos (HMy.out hy)]);have HFr : Hid (F = 26) := qh (by rw [HF2.out, HOr.out]; rfl)
        go_wp2_with fail
        go_quiet (fail)
        go_wp2_with fail
        go_ret;exact ⟨by rw [HFr.out]; rfl, (HP1.out.pure HEq.out).drewN _⟩
       ·have hyb : decide ((n : Int) < y) = false := decide_eq_false hy
        go_wp2_with fail
        go_quiet (fail)
        go_wp2_with fail
        go_roundw
        case rel => exact ⟨j + 1, by omega, by go_num, qh (by rw [HTk.out, hyb]), qh (HEj.out.drewN _)⟩
        case measure => simp [intOf]; omega
      ·have hji : ¬ (j : Int) < (mn : Int) := by omega
       have HAll : Hid (M.any (fun k => decide ((n : Int) < k)) = false) := qh (by have h := HNj.out; rwa [List.take_of_length_le (by rw [← HMn.out]; omega)] at h);have HFr : Hid (O = objsE n (l.drop (k + 1))) := qh (by rw [HR3.out, HAll.out]; rfl);have HEq := qh (HE4.out.pure HEj.out)
       go_wp2_with fail
       go_roundw
       case rel => exact ⟨k + 1, by omega, by go_num, HFr, HEq⟩
       case measure => simp [intOf]; omega
    ·have hE1 : (E0 != 0) = true := by simpa using hE0
     have HOr : Hid (O = E0) := qh (HR2.out.trans (if_pos hE0));have HFr : Hid (F = E0) := qh (by rw [HF2.out, HOr.out]; exact if_pos hE0)
     go_wp2_with fail
     go_ret;exact ⟨by rw [HFr.out]; rfl, HPr3.out⟩
   ·have hki : ¬ (k : Int) < (n : Int) := by omega
    have HOr : Hid (O = 0) := qh (by rw [HR.out, List.drop_eq_nil_of_le (by rw [← HN.out]; omega)]; rfl);have HF3 : Hid (F = if E ≠ 0 then E else if strayP l root t then 26 else 0) := qh (by rw [HF2.out, HOr.out]; rfl)
    have HPr := qh (HP1.out.pure HE.out);have d1 : wr.cell? ⟨tb, 1, none⟩ = some (.int .i64 root) := (HB1.out.ext HE.out id).cell 1;clear HR HF2
    go_wp2_with fail
    refine (HWk.out wr HPr.out).mono ?_;rintro e w3 ⟨hP3, b1, x1, b2, x2, rfl, hr1, hr2⟩;have hP4 := hP3.pure (ext_alloc w3 (.cells #[.slice b1 t.nodes.length x1, .slice b2 t.pages.length x2] 76));have HSt2 := qh (HSt.out _ (HPr.out.pure hP4) b1 b2 x1 x2 (hr1.row.ext (ext_alloc w3 _) (fun _ _ => id)) (hr2.row.ext (ext_alloc w3 _) (fun _ _ => id)));have hB := (HB1.out.ext HE.out id).ext hP3 id;have hlt : tb < w3.heap.size := hB.lt;have e0 : w3.cell? ⟨tb, 0, none⟩ = some (.slice oa n oc) := hB.cell 0;have e1 : w3.cell? ⟨tb, 1, none⟩ = some (.int .i64 root) := hB.cell 1;have HP4 := qh (HPr.out.pure hP4);obtain ⟨an, han⟩ : ∃ z, z = t.nodes.length := ⟨_, rfl⟩;obtain ⟨bn, hbn⟩ : ∃ z, z = t.pages.length := ⟨_, rfl⟩;rw [← han, ← hbn] at HSt2 HP4;rw [← han, ← hbn];obtain ⟨S, hS⟩ : ∃ z, z = strayP l root t := ⟨_, rfl⟩;rw [← hS] at HF3 HSt2;clear hP3 hP4 hr1 hr2 hB han hbn hS HSt HWk d0 d1
    by_cases hE : E = 0
    ·subst hE
     have HF4 : Hid (F = if S then 26 else 0) := qh HF3.out
     clear HF3
     go_wp2_with fail
     refine HSt2.out.mono ?_;rintro e w5 ⟨rfl, hP5⟩;have HP5 := qh (HP4.out.pure hP5);clear hP5 e0 e1;cases S with
     | true =>
       have HFr : Hid (F = 26) := qh HF4.out
       go_wp2_with fail
       go_ret;exact ⟨by rw [HFr.out]; rfl, HP5.out⟩
     | false =>
       have HFr : Hid (F = 0) := qh HF4.out
       go_wp2_with fail
       go_ret;exact ⟨by rw [HFr.out]; rfl, HP5.out⟩
    ·have hEb : (E != 0) = true := by simpa using hE
     have HFr : Hid (F = E) := qh (HF3.out.trans (if_pos hE));clear HF3 HSt2
     go_wp2_with fail
     go_ret;exact ⟨by rw [HFr.out]; rfl, HP4.out⟩
