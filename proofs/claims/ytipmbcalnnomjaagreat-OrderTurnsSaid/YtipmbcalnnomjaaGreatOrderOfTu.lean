import Derived.Test.YtipmbcalnnomjaaGreatDocDTu
import Derived.Test.YtipmbcalnnomjaaGreatRef24Tu
import Derived.Test.YtipmbcalnnomjaaGreatEachTu
import Derived.Test.YtipmbcalnnomjaaGreatSplitDTu
import Derived.Test.YtipmbcalnnomjaaGreatSqTu
set_option linter.unusedVariables false
set_option linter.unusedSimpArgs false
set_option maxRecDepth 100000
namespace Go.Proofs.YtipmbcalnnomjaaGreat
open Go.RowKit
set_option maxHeartbeats 2000000 in
theorem concat_own (rs : List CRow) (ad : Option Addr) (cp : Nat) (w : World) (hr : RowOf w ad (rs.map CRow.v)) (hq : ∀ q ∈ rs, RowOf w q.a (intsV q.l) ∧ (q.a = none → q.c = 0) ∧ q.l.length ≤ q.c) (hl : (catR rs).length ≤ 1000000) (hn : rs.length ≤ 1000000) :
 Calls Tryz.prog 26 #[.slice ad rs.length cp] w (OwnI (catR rs) w) := by
 have HR := qh hr
 have HQ := qh hq
 have HL := qh hl
 obtain ⟨n, hN⟩ : ∃ z, z = rs.length := ⟨_, rfl⟩
 rw [← hN] at hn ⊢
 have HN := qh hN
 clear hr hq hl hN
 go_enter Tryz.func26, Tryz.ntmps26
 go_wp2_with fail
 go_loopw [3, 11] (fun s i W => ∃ k : Nat, k ≤ n ∧ i = .int .i64 k ∧ s = .int .i64 ((catR (rs.take k)).length : Nat) ∧ W = w) (fun _ i _ => n - (intOf i).toNat)
 case atStart => exact ⟨0, Nat.zero_le _, rfl, rfl, rfl⟩
 case round =>
  obtain ⟨k, hk, rfl, rfl, rfl⟩ := hrel
  obtain ⟨m, hm⟩ : ∃ z, z = (catR (rs.take k)).length := ⟨_, rfl⟩
  have hm2 : m ≤ 1000000 := by rw [hm]; exact Nat.le_trans (catR_le rs k) HL.out
  rw [← hm]
  have HM := qh hm
  clear hm
  by_cases hlt : k < n
  ·have hki : (k : Int) < (n : Int) := by omega
   obtain ⟨q, hqk⟩ : ∃ u, rs[k]? = some u := ⟨_, List.getElem?_eq_getElem (by rw [← HN.out]; exact hlt)⟩
   obtain ⟨b, o, rfl, hc⟩ := HR.out k q.v (by rw [List.getElem?_map, hqk]; rfl)
   have hs := congrArg List.length (catR_take hqk)
   rw [List.length_append, ← HM.out] at hs
   have hs2 : m + q.l.length ≤ 1000000 := by rw [← hs]; exact Nat.le_trans (catR_le rs (k + 1)) HL.out
   have HS := qh hs
   unfold CRow.v at hc
   obtain ⟨ql, hql⟩ : ∃ z, z = q.l.length := ⟨_, rfl⟩
   rw [← hql] at hc HS hs2
   generalize q.a = qa at *
   generalize q.c = qc at *
   have hnn : ¬ (m : Int) + (ql : Int) < 0 := by omega
   clear hqk hs hql
   go_wp2_with fail
   go_roundw
   case rel => exact ⟨k + 1, by omega, by go_num, by rw [HS.out]; go_num, trivial⟩
   case measure => simp [intOf]; omega
  ·have hki : ¬ (k : Int) < (n : Int) := by omega
   obtain ⟨wo, rfl⟩ : ∃ wo : World, wo = wr := ⟨_, rfl⟩
   go_wp2_with fail
   refine (grow_any m _ hm2).mono ?_
   rintro e w2 ⟨ga, gc, rfl, hO, hP⟩
   obtain ⟨B, hB⟩ : ∃ z, z = wo.heap.size := ⟨_, rfl⟩
   rw [← hB] at hO
   have HO := qh hO
   have HP := qh hP
   have HBe := qh hB
   clear hO hP hB
   go_wp2_with fail
   go_loopw [6, 27] (fun s i W => ∃ (k : Nat) (a : Option Addr) (c : Nat), k ≤ n ∧ i = .int .i64 k ∧ s = .slice a (catR (rs.take k)).length c ∧ Hid (W.ownsRow B 3 1 (.slice a (catR (rs.take k)).length c) (catR (rs.take k)).length (intsV (catR (rs.take k)))) ∧ Hid (Pure wo W)) (fun _ i _ => n - (intOf i).toNat)
   case atStart => exact ⟨0, ga, gc, Nat.zero_le _, rfl, rfl, HO, HP⟩
   case round =>
    obtain ⟨k, a, c, hk, rfl, rfl, HOk, HPk⟩ := hrel
    obtain ⟨m, hm⟩ : ∃ z, z = (catR (rs.take k)).length := ⟨_, rfl⟩
    have hm2 : m ≤ 1000000 := by rw [hm]; exact Nat.le_trans (catR_le rs k) HL.out
    rw [← hm] at HOk ⊢
    have HM := qh hm
    clear hm
    by_cases hlt : k < n
    ·have hki : (k : Int) < (n : Int) := by omega
     obtain ⟨q, hqk⟩ : ∃ u, rs[k]? = some u := ⟨_, List.getElem?_eq_getElem (by rw [← HN.out]; exact hlt)⟩
     obtain ⟨hq1, hq2, hq3⟩ := HQ.out q (List.mem_of_getElem? hqk)
     obtain ⟨b, o, rfl, hc⟩ := (HR.out.ext HPk.out (fun _ _ => id)) k q.v (by rw [List.getElem?_map, hqk]; rfl)
     have hs0 := catR_take hqk
     have hs := congrArg List.length hs0
     rw [List.length_append, ← HM.out] at hs
     have hs2 : m + q.l.length ≤ 1000000 := by rw [← hs]; exact Nat.le_trans (catR_le rs (k + 1)) HL.out
     have hRw := hq1.ext HPk.out (fun _ _ => id)
     have HRw := qh hRw
     have HS := qh hs
     have HS0 := qh (by rw [hs0]; exact List.map_append : intsV (catR (rs.take (k + 1))) = intsV (catR (rs.take k)) ++ intsV q.l)
     unfold CRow.v at hc
     have HIl := qh (intsV_len q.l)
     have HOne : Hid (∀ u ∈ intsV q.l, u.oneCell' = true) := qh (fun u hu => by
      unfold intsV at hu
      obtain ⟨x, _, rfl⟩ := List.mem_map.1 hu
      rfl)
     have HNil : Hid (q.a = none → q.l.length = 0 ∧ q.c = 0) := qh (fun h => by have := hq2 h; omega)
     obtain ⟨ql, hql⟩ : ∃ z, z = q.l.length := ⟨_, rfl⟩
     rw [← hql] at hc HS hs2 HIl HNil
     generalize q.a = qa at *
     generalize q.c = qc at *
     generalize intsV q.l = xs at *
     have HIl2 : Hid (xs.length = ql * 1) := qh (by rw [HIl.out, Nat.mul_one])
     have HBs : Hid (B ≤ wr.heap.size) := qh (by rw [HBe.out]; exact HPk.out.size)
     clear hqk hs hql hs0 hq1 hq2 hq3 hRw
     go_wp2_with (at_builtin; refine wpList_append_any rfl (.tmp 31) (.tmp 32) 25 rfl B 3 (.int .i64 0) 1 8 Tryz.underlying25 infoI rfl (by decide) (.slice a m c) m (intsV (catR (rs.take k))) rfl HOk.out qa ql qc xs rfl HNil.out HIl2.out HRw.out HOne.out (m + ql) rfl (intsV (catR (rs.take k)) ++ xs) rfl (by omega) (by unfold maxLen; omega) HBs.out ?_; intro a3 c3 w3 hO3 hg3)
     go_roundw
     case rel =>
      refine ⟨k + 1, a3, c3, by omega, by go_num, by rw [HS.out], qh (by rw [HS.out, HS0.out]; exact hO3), qh (HPk.out.grown hg3 (fun i hi hlt => ?_))⟩
      have := (HOk.out.lt i hi).1
      rw [HBe.out] at this
      omega
     case measure => simp [intOf]; omega
    ·have hki : ¬ (k : Int) < (n : Int) := by omega
     go_wp2_with fail
     go_ret
     have e : rs.take k = rs := List.take_of_length_le (by rw [← HN.out]; omega)
     have h1 := HOk.out
     have h2 := HM.out
     rw [e] at h1 h2
     rw [HBe.out] at h1
     exact ⟨a, c, by rw [← h2]; rfl, by rw [← h2]; exact h1, HPk.out⟩
section
variable {p : PartsP} {n : Nat}
def PartsP.main (p : PartsP) : List Int := p.own.flatten ++ p.shared ++ p.others
end
end Go.Proofs.YtipmbcalnnomjaaGreat
namespace Go.Proofs.YtipmbcalnnomjaaGreat
open Go.RowKit Go.Maps
theorem sizeOr : (Tryz.prog.info? 34).map (·.size) = some 6 := by kernel_rfl
theorem maxrun {P : Program} {x y z : Int} (h : z = max x y) (ts : Array TypeId) (t : TypeId) (w : World) : (Builtin.max_ ts t #[.int .i64 x, .int .i64 y]).run P w = .ok (.int .i64 z) w := by
 subst h
 have e : max x y = if y > x then y else x := by split <;> omega
 rw [e]
 exact run_max_int2 w ts t .i64 .i64 x y
theorem own_ne {w : World} {R e size n c b T : Nat} {a : Option Addr} {xs cs : List Value} (h : w.ownsRow R e size (.slice a n c) n xs) (hB : BlockIs w b cs T) (hT : T ≠ e) : ∀ g, (Value.slice a n c).ownBlock = some g → ¬ g = b := by
 intro g hg hgb
 subst hgb
 rcases h.2 with ⟨hv, _⟩ | ⟨g', cap, cur, hv, _, hh, _⟩
 ·cases hv
  cases hg
 ·cases hv
  have e2 : g' = g := Option.some.inj hg
  subst e2
  unfold BlockIs at hB
  rw [hB] at hh
  injection hh with hh
  injection hh with _ h2 _
  exact hT h2
theorem own_ok {w : World} {R n c : Nat} {a : Option Addr} {l : List Int} (h : w.ownsRow R 3 1 (.slice a n c) n (intsV l)) (hn : n = l.length) : CRow.ok w ⟨a, c, l⟩ := by
 obtain ⟨a', c', he, h1, _, h3, _⟩ := own_form h
 cases he
 exact ⟨own_row h, h3, by rw [← hn]; exact h1⟩
def OwnM (R : Nat) (l : List Int) (m : Nat) (w : World) (e : Ending) (w' : World) : Prop := ∃ (a : Option Addr) (c : Nat), e = .returned (.slice a m c) ∧ w'.ownsRow R 3 1 (.slice a m c) m (intsV l) ∧ Pure w w'
theorem OwnI.m {R m : Nat} {l : List Int} {w w' : World} {e : Ending} (h : OwnI l w e w') (hm : m = l.length) (hR : R ≤ w.heap.size) : OwnM R l m w e w' := by
 obtain ⟨a, c, he, h1, h2⟩ := h
 subst hm
 exact ⟨a, c, he, own_base h1 hR, h2⟩
theorem catR_ls (rs : List CRow) : catR rs = (lsR rs).flatten := by
 induction rs with
 | nil => rfl
 | cons r rs ih =>
   show r.l ++ catR rs = r.l ++ (lsR rs).flatten
   rw [ih]
theorem of1_any {mb m : Nat} {x t : Int} {W : World} (hB : BlockIs W mb [.int .i64 (m : Int)] 3) :
 Calls Tryz.prog 28 #[.int .i64 x, .int .i64 t, .pointer (some ⟨mb, 0, none⟩)] W (fun e W' => e = .returned (.tuple #[]) ∧ BlockIs W' mb [.int .i64 ((if x ≤ 4096 then max m x.toNat else m : Nat) : Int)] 3 ∧ Ext (fun b => b = mb) W W') := by
 have c0 : W.cell? ⟨mb, 0, none⟩ = some (.int .i64 (m : Int)) := hB.cell 0
 have z0 : W.frozen? ⟨mb, 0, none⟩ = false := hB.free 0
 obtain ⟨z, hz⟩ : ∃ z, z = max (m : Int) x := ⟨_, rfl⟩
 obtain ⟨r, hr⟩ : ∃ r : Nat, r = if x ≤ 4096 then max m x.toNat else m := ⟨_, rfl⟩
 rw [← hr]
 have hmax := maxrun (P := Tryz.prog) hz
 have HB := qh hB
 by_cases hx : x ≤ 4096
 ·have HR : Hid (z = (r : Int)) := qh (by rw [hz, hr, if_pos hx]; omega)
  clear hz hB hr
  go_enter Tryz.func28, Tryz.ntmps28
  go_wp2_with fail
  go_end0
  refine ⟨rfl, ?_, Ext.setCell (S := fun b => b = mb) (Ext.refl _ _) (p := ⟨mb, 0, none⟩) (fun _ => rfl) _⟩
  rw [← HR.out]
  exact HB.out.set 0 (.int .i64 z)
 ·have HR : Hid (r = m) := qh (by rw [hr, if_neg hx])
  clear hz hB hr hmax
  go_enter Tryz.func28, Tryz.ntmps28
  go_wp2_with fail
  go_end0
  exact ⟨rfl, by rw [HR.out]; exact HB.out, Ext.refl _ _⟩
set_option maxHeartbeats 1000000 in
theorem of2_any {mb ob kb most k : Nat} {s : List (Int × Nat)} {x : Int} {W : World} (hB : BlockIs W mb [.int .i64 (most : Int)] 3) (ho : W.cell? ⟨ob, 0, none⟩ = some (.slice (some ⟨kb, 0, none⟩) most most)) (hK : BlockIs W kb (intsV (toP s most)) 3)
 (hk : 0 < k) (hs : ∀ q ∈ s, 0 < q.2) (hm : most ≤ 4096) :
 Calls Tryz.prog 29 #[.int .i64 x, .int .i64 (k : Int), .pointer (some ⟨mb, 0, none⟩), .pointer (some ⟨ob, 0, none⟩)] W (fun e W' => e = .returned (.tuple #[]) ∧ BlockIs W' kb (intsV (toP (s ++ [(x, k)]) most)) 3 ∧ Ext (fun b => b = kb) W W') := by
 have c0 : W.cell? ⟨mb, 0, none⟩ = some (.int .i64 (most : Int)) := hB.cell 0
 have hS := toP_snoc s most x k hk hs
 by_cases h1 : 1 ≤ x
 ·by_cases h2 : x ≤ most
  ·obtain ⟨i, rfl⟩ : ∃ i : Nat, x = (i : Int) + 1 := ⟨(x - 1).toNat, by omega⟩
   have hi : i < most := by omega
   have hii : (i : Int) < (most : Int) := by omega
   have hi0 : (0 : Int) ≤ (i : Int) := by omega
   obtain ⟨v, hv⟩ : ∃ v, (toP s most)[i]? = some v := ⟨_, toP_get s hi⟩
   have c1 : W.cell? ⟨kb, i, none⟩ = some (.int .i64 v) := by rw [hK.cell, intsV, List.getElem?_map, hv]; rfl
   have z1 : W.frozen? ⟨kb, i, none⟩ = false := hK.free i
   by_cases hv0 : v = 0
   ·subst hv0
    have HN := qh (hS.1 i hi rfl hv)
    have HK := qh hK
    clear hS hv hK hB hs
    go_enter Tryz.func29, Tryz.ntmps29
    go_wp2_with fail
    go_end0
    refine ⟨rfl, ?_, Ext.setCell (S := fun b => b = kb) (Ext.refl _ _) (p := ⟨kb, i, none⟩) (fun _ => rfl) _⟩
    rw [HN.out, ← intsV_set']
    exact HK.out.set i _
   ·have hvb : (v == 0) = false := beq_eq_false_iff_ne.2 hv0
    have HN := qh (hS.2.1 i hi rfl (by rw [hv]; exact fun e => hv0 (Option.some.inj e)))
    have HK := qh hK
    clear hS hv hK hB hs hv0
    go_enter Tryz.func29, Tryz.ntmps29
    go_wp2_with fail
    go_end0
    exact ⟨rfl, by rw [HN.out]; exact HK.out, Ext.refl _ _⟩
  ·have h2' : ¬ x ≤ (most : Int) := h2
   have HN := qh (hS.2.2 (fun h => h2 h.2))
   have HK := qh hK
   clear hS hK hB hs h2
   go_enter Tryz.func29, Tryz.ntmps29
   go_wp2_with fail
   go_end0
   exact ⟨rfl, by rw [HN.out]; exact HK.out, Ext.refl _ _⟩
 ·have HN := qh (hS.2.2 (fun h => h1 h.1))
  have HK := qh hK
  clear hS hK hB hs
  go_enter Tryz.func29, Tryz.ntmps29
  go_wp2_with fail
  go_end0
  exact ⟨rfl, by rw [HN.out]; exact HK.out, Ext.refl _ _⟩
theorem row_blk {W : World} {b : Nat} {cs : List Value} {T : TypeId} (h : BlockIs W b cs T) : RowOf W (some ⟨b, 0, none⟩) cs := fun i u hu => ⟨b, 0, rfl, by rw [Nat.zero_add, h.cell i]; exact hu⟩
theorem of1_goes : ∀ args w, (callFunc 28 args).run Tryz.prog w = .ok (.enter 28 args) w := by intro args w; rfl
theorem of2_goes : ∀ args w, (callFunc 29 args).run Tryz.prog w = .ok (.enter 29 args) w := by intro args w; rfl
theorem wpList_load_o {ops : Array Oper} {Q : Exit → Act → World → Prop} {a : Act} {w : World} {rest : List Oper} {op : Oper} (hw : Region.wanted op (yielded ops a.tmps) = true) (x : Operand) (ho : op.op = .load 34 x)
 (b o : Nat) (hx : a.eval x = .pointer (some ⟨b, o, none⟩)) (cs : List Value) (hc : w.rangeAt b o cs) (hl : cs.length = 6)
 (h : wpList Tryz.prog ops Q rest (a.put op.dst (.agg cs.toArray)) w) : wpList Tryz.prog ops Q (op :: rest) a w :=
 wpList_wanted hw fun _ hK => wp_load_mid 34 x ho b o hx cs _ hc Tryz.underlying34 rfl (by rw [hl]; exact sizeOr) (hK _ _ h)
theorem seqP_fst (main head first : List Int) : (seqP main head first).map Prod.fst = main ++ head ++ first := by
 unfold seqP
 simp only [List.map_append, List.zipIdx_map_fst]
theorem seqP_pos (main head first : List Int) : ∀ q ∈ seqP main head first, 0 < q.2 := by
 intro q hq
 unfold seqP at hq
 rcases List.mem_append.1 hq with hq | hq
 ·rcases List.mem_append.1 hq with hq | hq
  ·have := List.le_snd_of_mem_zipIdx hq
   omega
  ·have := List.le_snd_of_mem_zipIdx hq
   omega
 ·have := List.le_snd_of_mem_zipIdx hq
  omega
theorem each1_any {main head first : List Int} {ta ma ha fa : Option Addr} {tn tc mc hc fc mn hn fn mb : Nat} {lin hint : Int} {W : World} (hmn : mn = main.length) (hhn : hn = head.length) (hfn : fn = first.length) (hB : BlockIs W mb [.int .i64 0] 3)
 (hR : ∀ W', Ext (fun b => b = mb) W W' → RowOf W' ma (intsV main) ∧ RowOf W' ha (intsV head) ∧ RowOf W' fa (intsV first)) (hl : mn ≤ 1000000 ∧ hn ≤ 1000000 ∧ fn ≤ 1000000) :
 Calls Tryz.prog 22 #[.agg #[.slice ta tn tc, .slice ma mn mc, .slice ha hn hc, .slice fa fn fc, .int .i64 lin, .int .i64 hint], .func (.func 28) #[] #[.pointer (some ⟨mb, 0, none⟩)]] W
  (fun e W' => e = .returned (.tuple #[]) ∧ BlockIs W' mb [.int .i64 ((mostP (main ++ head ++ first) : Nat) : Int)] 3 ∧ Ext (fun b => b = mb) W W') := by
 subst hmn hhn hfn
 refine (each_any 28 #[.pointer (some ⟨mb, 0, none⟩)] (fun b => b = mb) (fun k W' => BlockIs W' mb [.int .i64 ((mostP ((main ++ head ++ first).take k) : Nat) : Int)] 3) main head first ta ma ha fa tn tc mc hc fc lin hint W of1_goes hR (fun b hb => by subst hb; exact hB.lt) hB (fun k W1 W2 h hP => h.ext hP id) (fun k q W1 hq hE hI => ?_) hl).mono (fun e W' h => ⟨h.1, ?_, h.2.2⟩)
 ·refine (of1_any (x := q.1) (t := (q.2 : Int)) hI).mono (fun e W' h => ⟨h.1, ?_, h.2.2⟩)
  have h1 : (main ++ head ++ first)[k]? = some q.1 := by rw [← seqP_fst, List.getElem?_map, hq]; rfl
  show BlockIs W' mb [.int .i64 ((mostP ((main ++ head ++ first).take (k + 1)) : Nat) : Int)] 3
  rw [List.take_add_one, h1, Option.toList_some, mostP_snoc]
  exact h.2.1
 ·have h1 : BlockIs W' mb [.int .i64 ((mostP ((main ++ head ++ first).take (main.length + head.length + first.length)) : Nat) : Int)] 3 := h.2.1
  rw [List.take_of_length_le (by simp only [List.length_append]; omega)] at h1
  exact h1
theorem each2_any {main head first : List Int} {ta ma ha fa : Option Addr} {tn tc mc hc fc mn hn fn mb ob kb most : Nat} {lin hint : Int} {W : World} (hmn : mn = main.length) (hhn : hn = head.length) (hfn : fn = first.length) (hB : BlockIs W mb [.int .i64 (most : Int)] 3)
 {cs : List Value} {T : TypeId} (ho : BlockIs W ob cs T) (hcs : cs[0]? = some (.slice (some ⟨kb, 0, none⟩) most most)) (hK : BlockIs W kb (intsV (List.replicate most 0)) 3) (hm : most ≤ 4096) (hmk : mb ≠ kb) (hok : ob ≠ kb)
 (hR : ∀ W', Ext (fun b => b = kb) W W' → RowOf W' ma (intsV main) ∧ RowOf W' ha (intsV head) ∧ RowOf W' fa (intsV first)) (hl : mn ≤ 1000000 ∧ hn ≤ 1000000 ∧ fn ≤ 1000000) :
 Calls Tryz.prog 22 #[.agg #[.slice ta tn tc, .slice ma mn mc, .slice ha hn hc, .slice fa fn fc, .int .i64 lin, .int .i64 hint], .func (.func 29) #[] #[.pointer (some ⟨mb, 0, none⟩), .pointer (some ⟨ob, 0, none⟩)]] W
  (fun e W' => e = .returned (.tuple #[]) ∧ BlockIs W' kb (intsV (toP (seqP main head first) most)) 3 ∧ Ext (fun b => b = kb) W W') := by
 subst hmn hhn hfn
 refine (each_any 29 #[.pointer (some ⟨mb, 0, none⟩), .pointer (some ⟨ob, 0, none⟩)] (fun b => b = kb) (fun k W' => BlockIs W' mb [.int .i64 (most : Int)] 3 ∧ BlockIs W' ob cs T ∧ BlockIs W' kb (intsV (toP ((seqP main head first).take k) most)) 3) main head first ta ma ha fa tn tc mc hc fc lin hint W of2_goes hR (fun b hb => by subst hb; exact hK.lt) ⟨hB, ho, by rw [List.take_zero, toP_nil]; exact hK⟩ (fun k W1 W2 h hP => ⟨h.1.ext hP id, h.2.1.ext hP id, h.2.2.ext hP id⟩) (fun k q W1 hq hE hI => ?_) hl).mono (fun e W' h => ⟨h.1, ?_, h.2.2⟩)
 ·refine (of2_any (x := q.1) hI.1 ((hI.2.1.cell 0).trans hcs) hI.2.2 (seqP_pos main head first q (List.mem_of_getElem? hq)) (fun r hr => seqP_pos main head first r (List.mem_of_mem_take hr)) hm).mono (fun e W' h => ⟨h.1, ⟨hI.1.ext h.2.2 hmk, hI.2.1.ext h.2.2 hok, ?_⟩, h.2.2⟩)
  show BlockIs W' kb (intsV (toP ((seqP main head first).take (k + 1)) most)) 3
  rw [List.take_add_one, hq, Option.toList_some]
  exact h.2.1
 ·have h1 : BlockIs W' kb (intsV (toP ((seqP main head first).take (main.length + head.length + first.length)) most)) 3 := h.2.1.2.2
  rw [List.take_of_length_le (by rw [seqP_len]; omega)] at h1
  exact h1
def OAt (o : OrderP) (v0 v1 v2 v3 : Value) (W : World) : Prop := ∃ t m h f : CRow, v0 = t.v ∧ v1 = m.v ∧ v2 = h.v ∧ v3 = f.v ∧ t.l = o.nums ∧ m.l = o.main ∧ h.l = o.head ∧ f.l = o.first ∧ t.ok W ∧ m.ok W ∧ h.ok W ∧ f.ok W
theorem OAt.pure {o : OrderP} {v0 v1 v2 v3 : Value} {W W' : World} (h : OAt o v0 v1 v2 v3 W) (hP : Pure W W') : OAt o v0 v1 v2 v3 W' := by
 obtain ⟨t, m, h, f, e0, e1, e2, e3, l0, l1, l2, l3, k0, k1, k2, k3⟩ := h
 exact ⟨t, m, h, f, e0, e1, e2, e3, l0, l1, l2, l3, k0.pure hP, k1.pure hP, k2.pure hP, k3.pure hP⟩
def OAtF (B : Nat) (o : OrderP) (v0 v1 v2 v3 : Value) (w : World) : Prop := ∀ (S : Nat → Prop) (W : World), Ext S w W → (∀ b, S b → b < B) → OAt o v0 v1 v2 v3 W
theorem OAtF.now {B : Nat} {o : OrderP} {v0 v1 v2 v3 : Value} {w : World} (h : OAtF B o v0 v1 v2 v3 w) : OAt o v0 v1 v2 v3 w := h (fun _ => False) w (Ext.refl _ _) (fun _ e => e.elim)
def OrdTo (o : OrderP) (w : World) (e : Ending) (w' : World) : Prop :=
 ∃ (a0 a1 a2 a3 : Option Addr) (n0 n1 n2 n3 c0 c1 c2 c3 : Nat), e = .returned (.agg #[.slice a0 n0 c0, .slice a1 n1 c1, .slice a2 n2 c2, .slice a3 n3 c3, .int .i64 ((o.main.length + 1 : Nat) : Int), .int .i64 ((o.main.length + o.head.length + 2 : Nat) : Int)]) ∧
   OAtF w.heap.size o (.slice a0 n0 c0) (.slice a1 n1 c1) (.slice a2 n2 c2) (.slice a3 n3 c3) w' ∧ Pure w w'
set_option maxHeartbeats 8000000 in
theorem orderof_any {p : PartsP} {a0 a1 a2 a3 a4 : Option Addr} {n0 n1 n2 n3 n4 c0 c1 c2 c3 c4 : Nat} {w : World} (H : PAt p (.slice a0 n0 c0) (.slice a1 n1 c1) (.slice a2 n2 c2) (.slice a3 n3 c3) (.slice a4 n4 c4) w)
 (hz : p.main.length ≤ 1000000 ∧ p.tree.length ≤ 1000000 ∧ p.first.length ≤ 1000000 ∧ p.own.length ≤ 1000000) :
 Calls Tryz.prog 9 #[.agg #[.slice a0 n0 c0, .slice a1 n1 c1, .slice a2 n2 c2, .slice a3 n3 c3, .slice a4 n4 c4]] w (OrdTo (orderP p) w) := by
 obtain ⟨⟨hn0, ht⟩, ⟨hn1, hf⟩, ⟨rs, hn2, hrl, hrw, hrq⟩, ⟨hn3, hs⟩, ⟨hn4, hh⟩⟩ := H.opened
 obtain ⟨hz1, hz2, hz3, hz4⟩ := hz
 have hml : p.main.length = p.own.flatten.length + p.shared.length + p.others.length := by unfold PartsP.main; simp only [List.length_append]
 obtain ⟨wz, hwz⟩ : ∃ z, z = (w.alloc (.cells #[.slice a0 n0 c0, .slice a1 n1 c1, .slice a2 n2 c2, .slice a3 n3 c3, .slice a4 n4 c4] 36)).alloc (.cells #[.slice none 0 0, .slice none 0 0, .slice none 0 0, .slice none 0 0, .int .i64 0, .int .i64 0] 34) := ⟨_, rfl⟩
 have HPz : Hid (Pure w wz) := qh (by rw [hwz]; exact (ext_alloc w _).pure (ext_alloc _ _))
 have HBz : Hid (BlockIs wz w.heap.size [.slice a0 n0 c0, .slice a1 n1 c1, .slice a2 n2 c2, .slice a3 n3 c3, .slice a4 n4 c4] 36) := qh (by rw [hwz]; exact (BlockIs.new w _ _).alloc _)
 have HRz0 : Hid (BlockIs wz (w.heap.size + 1) [.slice none 0 0, .slice none 0 0, .slice none 0 0, .slice none 0 0, .int .i64 0, .int .i64 0] 34) := qh (by
  have := BlockIs.new (w.alloc (.cells #[.slice a0 n0 c0, .slice a1 n1 c1, .slice a2 n2 c2, .slice a3 n3 c3, .slice a4 n4 c4] 36)) [.slice none 0 0, .slice none 0 0, .slice none 0 0, .slice none 0 0, .int .i64 0, .int .i64 0] 34
  rw [World.size_alloc] at this
  rw [hwz]; exact this)
 have HWz := qh hwz.symm
 obtain ⟨pb, hpb⟩ : ∃ z, z = w.heap.size := ⟨_, rfl⟩
 rw [← hpb] at HBz HRz0
 have HPb := qh hpb.symm
 obtain ⟨wd, hwd⟩ : ∃ z, z = wz.drew := ⟨_, rfl⟩
 have hPzd : Pure wz wd := by rw [hwd]; exact (Ext.refl _ wz).drew
 have HPd := qh (HPz.out.pure hPzd)
 have HBd := qh (HBz.out.ext hPzd id)
 have HRd := qh (HRz0.out.ext hPzd id)
 obtain ⟨R, hR⟩ : ∃ z, z = wd.heap.size := ⟨_, rfl⟩
 have HRz := qh hR
 have HLb : Hid (¬ R ≤ pb) := qh (by have := HBd.out.lt; omega)
 have HLr : Hid (pb + 1 < R) := qh (by have := HRd.out.lt; omega)
 obtain ⟨m7, hm7⟩ : ∃ z, z = p.own.flatten.length := ⟨_, rfl⟩
 obtain ⟨m13, hm13⟩ : ∃ z, z = p.main.length := ⟨_, rfl⟩
 have HM7 := qh hm7
 have HM13 := qh hm13
 have HC1 : Hid (∀ W, Pure wd W → Calls Tryz.prog 26 #[.slice a2 n2 c2] W (OwnM R p.own.flatten m7 W)) := qh (fun W hP => by
  have hPw := HPd.out.pure hP
  have h := concat_own rs a2 c2 W ((hrw.pure hPw).row) (fun q hq => (hrq q hq).pure hPw) (by rw [catR_ls, hrl]; omega) (by have := congrArg List.length hrl; rw [lsR_len] at this; omega)
  rw [← hn2] at h
  refine h.mono (fun e W' he => ?_)
  rw [catR_ls, hrl] at he
  exact he.m hm7 (by rw [hR]; exact hP.size))
 have HC2 : Hid (∀ W A C s12, Pure wd W → CRow.ok W ⟨A, C, p.own.flatten⟩ → RowOf W (some ⟨s12, 0, none⟩) [.slice A m7 C, .slice a3 n3 c3, .slice a4 n4 c4] → Calls Tryz.prog 26 #[.slice (some ⟨s12, 0, none⟩) 3 3] W (OwnM R p.main m13 W)) := qh (fun W A C s12 hP hk hr => by
  have hPw := HPd.out.pure hP
  have hcat : catR [⟨A, C, p.own.flatten⟩, ⟨a3, c3, p.shared⟩, ⟨a4, c4, p.others⟩] = p.main := by rw [catR_ls]; simp [lsR, PartsP.main]
  have h := concat_own [⟨A, C, p.own.flatten⟩, ⟨a3, c3, p.shared⟩, ⟨a4, c4, p.others⟩] (some ⟨s12, 0, none⟩) 3 W (by simp only [List.map_cons, List.map_nil, CRow.v]; rw [← hm7, ← hn3, ← hn4]; exact hr) (fun q hq => by
   simp only [List.mem_cons, List.not_mem_nil, or_false] at hq
   rcases hq with rfl | rfl | rfl
   ·exact hk
   ·exact hs.pure hPw
   ·exact hh.pure hPw) (by rw [hcat]; omega) (by exact (by decide : 3 ≤ 1000000))
  refine h.mono (fun e W' he => ?_)
  rw [hcat] at he
  exact he.m hm13 (by rw [hR]; exact hP.size))
 obtain ⟨m16, hm16⟩ : ∃ z, z = p.tree.length := ⟨_, rfl⟩
 obtain ⟨m19, hm19⟩ : ∃ z, z = p.first.length := ⟨_, rfl⟩
 have HM16 := qh hm16
 have HM19 := qh hm19
 have HC3 : Hid (∀ W, Pure wd W → Calls Tryz.prog 27 #[.slice a0 n0 c0] W (OwnM R p.tree m16 W)) := qh (fun W hP => by
  have hPw := HPd.out.pure hP
  rw [hn0]
  exact (cloneI_any a0 c0 p.tree W ((ht.pure hPw).1) ht.2.1 hz2).mono (fun e W' he => he.m hm16 (by rw [hR]; exact hP.size)))
 have HC4 : Hid (∀ W, Pure wd W → Calls Tryz.prog 27 #[.slice a1 n1 c1] W (OwnM R p.first m19 W)) := qh (fun W hP => by
  have hPw := HPd.out.pure hP
  rw [hn1]
  exact (cloneI_any a1 c1 p.first W ((hf.pure hPw).1) hf.2.1 hz3).mono (fun e W' he => he.m hm19 (by rw [hR]; exact hP.size)))
 unfold OwnM at HC1 HC2 HC3 HC4
 have hzz : m13 ≤ 1000000 ∧ m16 ≤ 1000000 ∧ m19 ≤ 1000000 := by omega
 clear hn0 ht hn1 hf hn2 hrl hrw hrq hn3 hs hn4 hh H hm7 hm13 hm16 hm19 hz1 hz2 hz3 hz4 hml hwz hpb hPzd hR HBz HRz0
 have hPw : Pure wd wd := Ext.refl _ _
 go_enter Tryz.func9, Tryz.ntmps9
 go_upto_region 1 with (fail)
 rw [HWz.out, HPb.out]
 refine region_start (fun b => R ≤ b) (by kernel_rfl) ?_
 try simp only [Act.put, sA, sZ, sS]
 refine region_take 0 5 (v := ?voo0) rfl rfl (by kernel_rfl) (by kernel_rfl) (by kernel_rfl) (fun _ _ _ h => h) (by rfl) (fun w' hS => ?hoo0) ?roo0
 case hoo0 => go_simp; with_reducible rfl
 try simp only [Act.put, sA, sZ, sS]
 rw [← hwd]
 clear hwd
 refine region_take 1 6 (v := ?voo1) rfl rfl (by kernel_rfl) (by kernel_rfl) (by kernel_rfl) (fun _ _ _ h => h) (by rfl) (fun w' hS => ?hoo1) ?roo1
 case hoo1 => (have e : w'.cell? ⟨pb, 2, none⟩ = some (.slice a2 n2 c2) := (HBd.out.ext hS HLb.out).cell 2; go_simp; with_reducible rfl)
 try simp only [Act.put, sA, sZ, sS]
 refine region_take 3 8 (v := ?voo3) rfl rfl (by kernel_rfl) (by kernel_rfl) (by kernel_rfl) (fun _ _ _ h => h) (by rfl) (fun w' hS => ?hoo3) ?roo3
 case hoo3 => go_simp; with_reducible rfl
 try simp only [Act.put, sA, sZ, sS]
 refine region_take 4 9 (v := ?voo4) rfl rfl (by kernel_rfl) (by kernel_rfl) (by kernel_rfl) (fun _ _ _ h => h) (by rfl) (fun w' hS => ?hoo4) ?roo4
 case hoo4 => (have e : w'.cell? ⟨pb, 3, none⟩ = some (.slice a3 n3 c3) := (HBd.out.ext hS HLb.out).cell 3; go_simp; with_reducible rfl)
 try simp only [Act.put, sA, sZ, sS]
 refine region_take 5 10 (v := ?voo5) rfl rfl (by kernel_rfl) (by kernel_rfl) (by kernel_rfl) (fun _ _ _ h => h) (by rfl) (fun w' hS => ?hoo5) ?roo5
 case hoo5 => go_simp; with_reducible rfl
 try simp only [Act.put, sA, sZ, sS]
 refine region_take 6 11 (v := ?voo6) rfl rfl (by kernel_rfl) (by kernel_rfl) (by kernel_rfl) (fun _ _ _ h => h) (by rfl) (fun w' hS => ?hoo6) ?roo6
 case hoo6 => (have e : w'.cell? ⟨pb, 4, none⟩ = some (.slice a4 n4 c4) := (HBd.out.ext hS HLb.out).cell 4; go_simp; with_reducible rfl)
 try simp only [Act.put, sA, sZ, sS]
 refine region_take 9 14 (v := ?voo9) rfl rfl (by kernel_rfl) (by kernel_rfl) (by kernel_rfl) (fun _ _ _ h => h) (by rfl) (fun w' hS => ?hoo9) ?roo9
 case hoo9 => go_simp; with_reducible rfl
 try simp only [Act.put, sA, sZ, sS]
 refine region_take 10 15 (v := ?voo10) rfl rfl (by kernel_rfl) (by kernel_rfl) (by kernel_rfl) (fun _ _ _ h => h) (by rfl) (fun w' hS => ?hoo10) ?roo10
 case hoo10 => (have e : w'.cell? ⟨pb, 0, none⟩ = some (.slice a0 n0 c0) := (HBd.out.ext hS HLb.out).cell 0; go_simp; with_reducible rfl)
 try simp only [Act.put, sA, sZ, sS]
 refine region_take 12 17 (v := ?voo12) rfl rfl (by kernel_rfl) (by kernel_rfl) (by kernel_rfl) (fun _ _ _ h => h) (by rfl) (fun w' hS => ?hoo12) ?roo12
 case hoo12 => go_simp; with_reducible rfl
 try simp only [Act.put, sA, sZ, sS]
 refine region_take 13 18 (v := ?voo13) rfl rfl (by kernel_rfl) (by kernel_rfl) (by kernel_rfl) (fun _ _ _ h => h) (by rfl) (fun w' hS => ?hoo13) ?roo13
 case hoo13 => (have e : w'.cell? ⟨pb, 1, none⟩ = some (.slice a1 n1 c1) := (HBd.out.ext hS HLb.out).cell 1; go_simp; with_reducible rfl)
 try simp only [Act.put, sA, sZ, sS]
 refine wpAnyH_ready (rs := [2, 16]) (by kernel_rfl) (by simp) (AllReadyH.cons rfl (fun K hK => ?_) (AllReadyH.cons rfl (fun K hK => ?_) (AllReadyH.nil)))
 go_simp
 refine (HC1.out wd hPw).mono ?_
 rintro e wq1 ⟨A7, C7, rfl, h7n, hP⟩
 have hPw := hPw.pure hP
 have h7 := h7n
 refine hK.out _ _ (hP.mono (fun _ _ e => e.elim)) (fun hHeld => ?_)
 clear hK K hHeld
 refine region_now (hP.mono (fun _ _ e => e.elim)) ?_
 try simp only [Act.put, sA, sZ, sS]
 refine wpAnyH_ready (rs := [7, 16]) (by kernel_rfl) (by simp) (AllReadyH.cons rfl (fun K hK => ?_) (AllReadyH.cons rfl (fun K hK => ?_) (AllReadyH.nil)))
 go_simp
 obtain ⟨wq2, hwn⟩ : ∃ z, z = wq1.alloc (.cells #[.slice A7 m7 C7, .slice a3 n3 c3, .slice a4 n4 c4] 25) := ⟨_, rfl⟩
 have hP : Pure wq1 wq2 := by rw [hwn]; exact ext_alloc _ _
 have hr12 : RowOf wq2 (some ⟨wq1.heap.size, 0, none⟩) [.slice A7 m7 C7, .slice a3 n3 c3, .slice a4 n4 c4] := by rw [hwn]; exact row_at _ rfl rfl
 rw [← hwn]
 obtain ⟨s12, hs12⟩ : ∃ z, z = wq1.heap.size := ⟨_, rfl⟩
 rw [← hs12] at hr12 ⊢
 clear hwn hs12
 have h7 := own_ext h7 hP (fun _ _ => id)
 have hPw := hPw.pure hP
 refine hK.out _ _ (hP.mono (fun _ _ e => e.elim)) (fun hHeld => ?_)
 clear hK K hHeld
 refine region_now (hP.mono (fun _ _ e => e.elim)) ?_
 try simp only [Act.put, sA, sZ, sS]
 refine wpAnyH_ready (rs := [8, 16]) (by kernel_rfl) (by simp) (AllReadyH.cons rfl (fun K hK => ?_) (AllReadyH.cons rfl (fun K hK => ?_) (AllReadyH.nil)))
 go_simp
 have hk7 := own_ok h7 HM7.out
 refine (HC2.out wq2 A7 C7 s12 hPw hk7 hr12).mono ?_
 rintro e wq3 ⟨A13, C13, rfl, h13n, hP⟩
 have h7 := own_ext h7 hP (fun _ _ => id)
 have hPw := hPw.pure hP
 have h13 := h13n
 clear hr12 hk7
 refine hK.out _ _ (hP.mono (fun _ _ e => e.elim)) (fun hHeld => ?_)
 clear hK K hHeld
 refine region_now (hP.mono (fun _ _ e => e.elim)) ?_
 try simp only [Act.put, sA, sZ, sS]
 refine wpAnyH_ready (rs := [11, 16]) (by kernel_rfl) (by simp) (AllReadyH.cons rfl (fun K hK => ?_) (AllReadyH.cons rfl (fun K hK => ?_) (AllReadyH.nil)))
 go_simp
 refine (HC3.out wq3 hPw).mono ?_
 rintro e wq4 ⟨A16, C16, rfl, h16n, hP⟩
 have h7 := own_ext h7 hP (fun _ _ => id)
 have h13 := own_ext h13 hP (fun _ _ => id)
 have hPw := hPw.pure hP
 have h16 := h16n
 refine hK.out _ _ (hP.mono (fun _ _ e => e.elim)) (fun hHeld => ?_)
 clear hK K hHeld
 refine region_now (hP.mono (fun _ _ e => e.elim)) ?_
 try simp only [Act.put, sA, sZ, sS]
 refine wpAnyH_ready (rs := [14, 16]) (by kernel_rfl) (by simp) (AllReadyH.cons rfl (fun K hK => ?_) (AllReadyH.cons rfl (fun K hK => ?_) (AllReadyH.nil)))
 go_simp
 refine (HC4.out wq4 hPw).mono ?_
 rintro e wq5 ⟨A19, C19, rfl, h19n, hP⟩
 have h7 := own_ext h7 hP (fun _ _ => id)
 have h13 := own_ext h13 hP (fun _ _ => id)
 have h16 := own_ext h16 hP (fun _ _ => id)
 have hPw := hPw.pure hP
 have h19 := h19n
 refine hK.out _ _ (hP.mono (fun _ _ e => e.elim)) (fun hHeld => ?_)
 clear hK K hHeld
 refine region_now (hP.mono (fun _ _ e => e.elim)) ?_
 try simp only [Act.put, sA, sZ, sS]
 refine region_take 15 20 (v := ?vooq0q0q0q0q015) rfl rfl (by kernel_rfl) (by kernel_rfl) (by kernel_rfl) (fun _ _ _ h => h) (by rfl) (fun w' hS => ?hooq0q0q0q0q015) ?rooq0q0q0q0q015
 case hooq0q0q0q0q015 => go_simp; with_reducible rfl
 try simp only [Act.put, sA, sZ, sS]
 refine wpAnyH_ready (rs := [16]) (by kernel_rfl) (by simp) (AllReadyH.cons rfl (fun K hK => ?_) AllReadyH.nil)
 go_simp
 obtain ⟨wq6, hwn⟩ : ∃ z, z = wq5.alloc (.cells #[.slice none 0 0, .slice none 0 0, .slice none 0 0, .slice none 0 0, .int .i64 0, .int .i64 0] 34) := ⟨_, rfl⟩
 have hP : Pure wq5 wq6 := by rw [hwn]; exact ext_alloc _ _
 have hBn : BlockIs wq6 wq5.heap.size [.slice none 0 0, .slice none 0 0, .slice none 0 0, .slice none 0 0, .int .i64 0, .int .i64 0] 34 := by rw [hwn]; exact BlockIs.new _ _ _
 rw [← hwn]
 obtain ⟨ob, hob⟩ : ∃ z, z = wq5.heap.size := ⟨_, rfl⟩
 rw [← hob] at hBn ⊢
 have hRo : R ≤ ob := by rw [hob, HRz.out]; exact hPw.size
 clear hwn hob
 have h7 := own_ext h7 hP (fun _ _ => id)
 have h13 := own_ext h13 hP (fun _ _ => id)
 have h16 := own_ext h16 hP (fun _ _ => id)
 have h19 := own_ext h19 hP (fun _ _ => id)
 have hPw := hPw.pure hP
 have hB := hBn
 refine hK.out _ _ (hP.mono (fun _ _ e => e.elim)) (fun hHeld => ?_)
 clear hK K hHeld
 refine region_now (hP.mono (fun _ _ e => e.elim)) ?_
 try simp only [Act.put, sA, sZ, sS]
 refine wpAnyH_ready (rs := [17]) (by kernel_rfl) (by simp) (AllReadyH.cons rfl (fun K hK => ?_) AllReadyH.nil)
 have hTh : wq6.there ob 0 (#[.slice none 0 0, .slice A13 m13 C13, .slice A16 m16 C16, .slice A19 m19 C19, .int .i64 0, .int .i64 0] : Array Value).size := hB.there 6 rfl
 have hSi : (Tryz.prog.info? 34).map (·.size) = some (#[.slice none 0 0, .slice A13 m13 C13, .slice A16 m16 C16, .slice A19 m19 C19, .int .i64 0, .int .i64 0] : Array Value).size := sizeOr
 have hOn : (#[.slice none 0 0, .slice A13 m13 C13, .slice A16 m16 C16, .slice A19 m19 C19, .int .i64 0, .int .i64 0] : Array Value).all (fun u => u.oneCell') = true := all_oneCell_toArray (by intro u hu; simp only [List.mem_cons, List.not_mem_nil, or_false] at hu; rcases hu with rfl | rfl | rfl | rfl | rfl | rfl <;> rfl)
 have hX : Ext (fun b => R ≤ b) wq6 (wq6.setCells ob 0 [.slice none 0 0, .slice A13 m13 C13, .slice A16 m16 C16, .slice A19 m19 C19, .int .i64 0, .int .i64 0]) := Ext.setCells (S := fun b => R ≤ b) _ 0 _ (Ext.refl _ _) (b := ob) (fun _ => hRo)
 have hX1 : Ext (fun b => b = ob) wq6 (wq6.setCells ob 0 [.slice none 0 0, .slice A13 m13 C13, .slice A16 m16 C16, .slice A19 m19 C19, .int .i64 0, .int .i64 0]) := Ext.setCells (S := fun b => b = ob) _ 0 _ (Ext.refl _ _) (b := ob) (fun _ => rfl)
 have hBf := hB.setAll [.slice none 0 0, .slice A13 m13 C13, .slice A16 m16 C16, .slice A19 m19 C19, .int .i64 0, .int .i64 0] rfl
 have hPf := hPw.trans hX1 (fun i hi e => by have h1 := HRz.out; have h2 : i = ob := e; omega)
 have g13 := own_ext h13 hX1 (fun g hg => own_ne h13 hB (by decide) g hg)
 have g16 := own_ext h16 hX1 (fun g hg => own_ne h16 hB (by decide) g hg)
 have g19 := own_ext h19 hX1 (fun g hg => own_ne h19 hB (by decide) g hg)
 obtain ⟨wf, hwf⟩ : ∃ z, z = wq6.setCells ob 0 [.slice none 0 0, .slice A13 m13 C13, .slice A16 m16 C16, .slice A19 m19 C19, .int .i64 0, .int .i64 0] := ⟨_, rfl⟩
 rw [← hwf] at hX hBf hPf g13 g16 g19
 refine step_of_list ?_
 refine wpList_store_mid rfl 34 (.tmp 3) (.tmp 20) rfl ob 0 #[.slice none 0 0, .slice A13 m13 C13, .slice A16 m16 C16, .slice A19 m19 C19, .int .i64 0, .int .i64 0] rfl rfl hTh hSi hOn ?_
 rw [← hwf]
 clear hwf
 refine hK.out _ _ (hX) (fun hHeld => ?_)
 clear hK K hHeld
 refine region_now (hX) ?_
 try simp only [Act.put, sA, sZ, sS]
 refine wpAnyH_done (by kernel_rfl) ?_ _
 rotate_left
 go_simp
 obtain ⟨wq5, hwn⟩ : ∃ z, z = wq4.alloc (.cells #[.slice none 0 0, .slice none 0 0, .slice none 0 0, .slice none 0 0, .int .i64 0, .int .i64 0] 34) := ⟨_, rfl⟩
 have hP : Pure wq4 wq5 := by rw [hwn]; exact ext_alloc _ _
 have hBn : BlockIs wq5 wq4.heap.size [.slice none 0 0, .slice none 0 0, .slice none 0 0, .slice none 0 0, .int .i64 0, .int .i64 0] 34 := by rw [hwn]; exact BlockIs.new _ _ _
 rw [← hwn]
 obtain ⟨ob, hob⟩ : ∃ z, z = wq4.heap.size := ⟨_, rfl⟩
 rw [← hob] at hBn ⊢
 have hRo : R ≤ ob := by rw [hob, HRz.out]; exact hPw.size
 clear hwn hob
 have h7 := own_ext h7 hP (fun _ _ => id)
 have h13 := own_ext h13 hP (fun _ _ => id)
 have h16 := own_ext h16 hP (fun _ _ => id)
 have hPw := hPw.pure hP
 have hB := hBn
 refine hK.out _ _ (hP.mono (fun _ _ e => e.elim)) (fun hHeld => ?_)
 clear hK K hHeld
 refine region_now (hP.mono (fun _ _ e => e.elim)) ?_
 try simp only [Act.put, sA, sZ, sS]
 refine wpAnyH_ready (rs := [14]) (by kernel_rfl) (by simp) (AllReadyH.cons rfl (fun K hK => ?_) AllReadyH.nil)
 go_simp
 refine (HC4.out wq5 hPw).mono ?_
 rintro e wq6 ⟨A19, C19, rfl, h19n, hP⟩
 have h7 := own_ext h7 hP (fun _ _ => id)
 have h13 := own_ext h13 hP (fun _ _ => id)
 have h16 := own_ext h16 hP (fun _ _ => id)
 have hB := hB.ext hP id
 have hPw := hPw.pure hP
 have h19 := h19n
 refine hK.out _ _ (hP.mono (fun _ _ e => e.elim)) (fun hHeld => ?_)
 clear hK K hHeld
 refine region_now (hP.mono (fun _ _ e => e.elim)) ?_
 try simp only [Act.put, sA, sZ, sS]
 refine region_take 15 20 (v := ?vooq0q0q0q0q115) rfl rfl (by kernel_rfl) (by kernel_rfl) (by kernel_rfl) (fun _ _ _ h => h) (by rfl) (fun w' hS => ?hooq0q0q0q0q115) ?rooq0q0q0q0q115
 case hooq0q0q0q0q115 => go_simp; with_reducible rfl
 try simp only [Act.put, sA, sZ, sS]
 refine wpAnyH_ready (rs := [17]) (by kernel_rfl) (by simp) (AllReadyH.cons rfl (fun K hK => ?_) AllReadyH.nil)
 have hTh : wq6.there ob 0 (#[.slice none 0 0, .slice A13 m13 C13, .slice A16 m16 C16, .slice A19 m19 C19, .int .i64 0, .int .i64 0] : Array Value).size := hB.there 6 rfl
 have hSi : (Tryz.prog.info? 34).map (·.size) = some (#[.slice none 0 0, .slice A13 m13 C13, .slice A16 m16 C16, .slice A19 m19 C19, .int .i64 0, .int .i64 0] : Array Value).size := sizeOr
 have hOn : (#[.slice none 0 0, .slice A13 m13 C13, .slice A16 m16 C16, .slice A19 m19 C19, .int .i64 0, .int .i64 0] : Array Value).all (fun u => u.oneCell') = true := all_oneCell_toArray (by intro u hu; simp only [List.mem_cons, List.not_mem_nil, or_false] at hu; rcases hu with rfl | rfl | rfl | rfl | rfl | rfl <;> rfl)
 have hX : Ext (fun b => R ≤ b) wq6 (wq6.setCells ob 0 [.slice none 0 0, .slice A13 m13 C13, .slice A16 m16 C16, .slice A19 m19 C19, .int .i64 0, .int .i64 0]) := Ext.setCells (S := fun b => R ≤ b) _ 0 _ (Ext.refl _ _) (b := ob) (fun _ => hRo)
 have hX1 : Ext (fun b => b = ob) wq6 (wq6.setCells ob 0 [.slice none 0 0, .slice A13 m13 C13, .slice A16 m16 C16, .slice A19 m19 C19, .int .i64 0, .int .i64 0]) := Ext.setCells (S := fun b => b = ob) _ 0 _ (Ext.refl _ _) (b := ob) (fun _ => rfl)
 have hBf := hB.setAll [.slice none 0 0, .slice A13 m13 C13, .slice A16 m16 C16, .slice A19 m19 C19, .int .i64 0, .int .i64 0] rfl
 have hPf := hPw.trans hX1 (fun i hi e => by have h1 := HRz.out; have h2 : i = ob := e; omega)
 have g13 := own_ext h13 hX1 (fun g hg => own_ne h13 hB (by decide) g hg)
 have g16 := own_ext h16 hX1 (fun g hg => own_ne h16 hB (by decide) g hg)
 have g19 := own_ext h19 hX1 (fun g hg => own_ne h19 hB (by decide) g hg)
 obtain ⟨wf, hwf⟩ : ∃ z, z = wq6.setCells ob 0 [.slice none 0 0, .slice A13 m13 C13, .slice A16 m16 C16, .slice A19 m19 C19, .int .i64 0, .int .i64 0] := ⟨_, rfl⟩
 rw [← hwf] at hX hBf hPf g13 g16 g19
 refine step_of_list ?_
 refine wpList_store_mid rfl 34 (.tmp 3) (.tmp 20) rfl ob 0 #[.slice none 0 0, .slice A13 m13 C13, .slice A16 m16 C16, .slice A19 m19 C19, .int .i64 0, .int .i64 0] rfl rfl hTh hSi hOn ?_
 rw [← hwf]
 clear hwf
 refine hK.out _ _ (hX) (fun hHeld => ?_)
 clear hK K hHeld
 refine region_now (hX) ?_
 try simp only [Act.put, sA, sZ, sS]
 refine wpAnyH_done (by kernel_rfl) ?_ _
 rotate_left
 go_simp
 obtain ⟨wq4, hwn⟩ : ∃ z, z = wq3.alloc (.cells #[.slice none 0 0, .slice none 0 0, .slice none 0 0, .slice none 0 0, .int .i64 0, .int .i64 0] 34) := ⟨_, rfl⟩
 have hP : Pure wq3 wq4 := by rw [hwn]; exact ext_alloc _ _
 have hBn : BlockIs wq4 wq3.heap.size [.slice none 0 0, .slice none 0 0, .slice none 0 0, .slice none 0 0, .int .i64 0, .int .i64 0] 34 := by rw [hwn]; exact BlockIs.new _ _ _
 rw [← hwn]
 obtain ⟨ob, hob⟩ : ∃ z, z = wq3.heap.size := ⟨_, rfl⟩
 rw [← hob] at hBn ⊢
 have hRo : R ≤ ob := by rw [hob, HRz.out]; exact hPw.size
 clear hwn hob
 have h7 := own_ext h7 hP (fun _ _ => id)
 have h13 := own_ext h13 hP (fun _ _ => id)
 have hPw := hPw.pure hP
 have hB := hBn
 refine hK.out _ _ (hP.mono (fun _ _ e => e.elim)) (fun hHeld => ?_)
 clear hK K hHeld
 refine region_now (hP.mono (fun _ _ e => e.elim)) ?_
 try simp only [Act.put, sA, sZ, sS]
 refine wpAnyH_ready (rs := [11]) (by kernel_rfl) (by simp) (AllReadyH.cons rfl (fun K hK => ?_) AllReadyH.nil)
 go_simp
 refine (HC3.out wq4 hPw).mono ?_
 rintro e wq5 ⟨A16, C16, rfl, h16n, hP⟩
 have h7 := own_ext h7 hP (fun _ _ => id)
 have h13 := own_ext h13 hP (fun _ _ => id)
 have hB := hB.ext hP id
 have hPw := hPw.pure hP
 have h16 := h16n
 refine hK.out _ _ (hP.mono (fun _ _ e => e.elim)) (fun hHeld => ?_)
 clear hK K hHeld
 refine region_now (hP.mono (fun _ _ e => e.elim)) ?_
 try simp only [Act.put, sA, sZ, sS]
 refine wpAnyH_ready (rs := [14]) (by kernel_rfl) (by simp) (AllReadyH.cons rfl (fun K hK => ?_) AllReadyH.nil)
 go_simp
 refine (HC4.out wq5 hPw).mono ?_
 rintro e wq6 ⟨A19, C19, rfl, h19n, hP⟩
 have h7 := own_ext h7 hP (fun _ _ => id)
 have h13 := own_ext h13 hP (fun _ _ => id)
 have h16 := own_ext h16 hP (fun _ _ => id)
 have hB := hB.ext hP id
 have hPw := hPw.pure hP
 have h19 := h19n
 refine hK.out _ _ (hP.mono (fun _ _ e => e.elim)) (fun hHeld => ?_)
 clear hK K hHeld
 refine region_now (hP.mono (fun _ _ e => e.elim)) ?_
 try simp only [Act.put, sA, sZ, sS]
 refine region_take 15 20 (v := ?vooq0q0q0q115) rfl rfl (by kernel_rfl) (by kernel_rfl) (by kernel_rfl) (fun _ _ _ h => h) (by rfl) (fun w' hS => ?hooq0q0q0q115) ?rooq0q0q0q115
 case hooq0q0q0q115 => go_simp; with_reducible rfl
 try simp only [Act.put, sA, sZ, sS]
 refine wpAnyH_ready (rs := [17]) (by kernel_rfl) (by simp) (AllReadyH.cons rfl (fun K hK => ?_) AllReadyH.nil)
 have hTh : wq6.there ob 0 (#[.slice none 0 0, .slice A13 m13 C13, .slice A16 m16 C16, .slice A19 m19 C19, .int .i64 0, .int .i64 0] : Array Value).size := hB.there 6 rfl
 have hSi : (Tryz.prog.info? 34).map (·.size) = some (#[.slice none 0 0, .slice A13 m13 C13, .slice A16 m16 C16, .slice A19 m19 C19, .int .i64 0, .int .i64 0] : Array Value).size := sizeOr
 have hOn : (#[.slice none 0 0, .slice A13 m13 C13, .slice A16 m16 C16, .slice A19 m19 C19, .int .i64 0, .int .i64 0] : Array Value).all (fun u => u.oneCell') = true := all_oneCell_toArray (by intro u hu; simp only [List.mem_cons, List.not_mem_nil, or_false] at hu; rcases hu with rfl | rfl | rfl | rfl | rfl | rfl <;> rfl)
 have hX : Ext (fun b => R ≤ b) wq6 (wq6.setCells ob 0 [.slice none 0 0, .slice A13 m13 C13, .slice A16 m16 C16, .slice A19 m19 C19, .int .i64 0, .int .i64 0]) := Ext.setCells (S := fun b => R ≤ b) _ 0 _ (Ext.refl _ _) (b := ob) (fun _ => hRo)
 have hX1 : Ext (fun b => b = ob) wq6 (wq6.setCells ob 0 [.slice none 0 0, .slice A13 m13 C13, .slice A16 m16 C16, .slice A19 m19 C19, .int .i64 0, .int .i64 0]) := Ext.setCells (S := fun b => b = ob) _ 0 _ (Ext.refl _ _) (b := ob) (fun _ => rfl)
 have hBf := hB.setAll [.slice none 0 0, .slice A13 m13 C13, .slice A16 m16 C16, .slice A19 m19 C19, .int .i64 0, .int .i64 0] rfl
 have hPf := hPw.trans hX1 (fun i hi e => by have h1 := HRz.out; have h2 : i = ob := e; omega)
 have g13 := own_ext h13 hX1 (fun g hg => own_ne h13 hB (by decide) g hg)
 have g16 := own_ext h16 hX1 (fun g hg => own_ne h16 hB (by decide) g hg)
 have g19 := own_ext h19 hX1 (fun g hg => own_ne h19 hB (by decide) g hg)
 obtain ⟨wf, hwf⟩ : ∃ z, z = wq6.setCells ob 0 [.slice none 0 0, .slice A13 m13 C13, .slice A16 m16 C16, .slice A19 m19 C19, .int .i64 0, .int .i64 0] := ⟨_, rfl⟩
 rw [← hwf] at hX hBf hPf g13 g16 g19
 refine step_of_list ?_
 refine wpList_store_mid rfl 34 (.tmp 3) (.tmp 20) rfl ob 0 #[.slice none 0 0, .slice A13 m13 C13, .slice A16 m16 C16, .slice A19 m19 C19, .int .i64 0, .int .i64 0] rfl rfl hTh hSi hOn ?_
 rw [← hwf]
 clear hwf
 refine hK.out _ _ (hX) (fun hHeld => ?_)
 clear hK K hHeld
 refine region_now (hX) ?_
 try simp only [Act.put, sA, sZ, sS]
 refine wpAnyH_done (by kernel_rfl) ?_ _
 rotate_left
 go_simp
 obtain ⟨wq3, hwn⟩ : ∃ z, z = wq2.alloc (.cells #[.slice none 0 0, .slice none 0 0, .slice none 0 0, .slice none 0 0, .int .i64 0, .int .i64 0] 34) := ⟨_, rfl⟩
 have hP : Pure wq2 wq3 := by rw [hwn]; exact ext_alloc _ _
 have hBn : BlockIs wq3 wq2.heap.size [.slice none 0 0, .slice none 0 0, .slice none 0 0, .slice none 0 0, .int .i64 0, .int .i64 0] 34 := by rw [hwn]; exact BlockIs.new _ _ _
 rw [← hwn]
 obtain ⟨ob, hob⟩ : ∃ z, z = wq2.heap.size := ⟨_, rfl⟩
 rw [← hob] at hBn ⊢
 have hRo : R ≤ ob := by rw [hob, HRz.out]; exact hPw.size
 clear hwn hob
 have h7 := own_ext h7 hP (fun _ _ => id)
 have hPw := hPw.pure hP
 have hr12 := hr12.ext hP (fun _ _ => id)
 have hB := hBn
 refine hK.out _ _ (hP.mono (fun _ _ e => e.elim)) (fun hHeld => ?_)
 clear hK K hHeld
 refine region_now (hP.mono (fun _ _ e => e.elim)) ?_
 try simp only [Act.put, sA, sZ, sS]
 refine wpAnyH_ready (rs := [8]) (by kernel_rfl) (by simp) (AllReadyH.cons rfl (fun K hK => ?_) AllReadyH.nil)
 go_simp
 have hk7 := own_ok h7 HM7.out
 refine (HC2.out wq3 A7 C7 s12 hPw hk7 hr12).mono ?_
 rintro e wq4 ⟨A13, C13, rfl, h13n, hP⟩
 have h7 := own_ext h7 hP (fun _ _ => id)
 have hB := hB.ext hP id
 have hPw := hPw.pure hP
 have h13 := h13n
 clear hr12 hk7
 refine hK.out _ _ (hP.mono (fun _ _ e => e.elim)) (fun hHeld => ?_)
 clear hK K hHeld
 refine region_now (hP.mono (fun _ _ e => e.elim)) ?_
 try simp only [Act.put, sA, sZ, sS]
 refine wpAnyH_ready (rs := [11]) (by kernel_rfl) (by simp) (AllReadyH.cons rfl (fun K hK => ?_) AllReadyH.nil)
 go_simp
 refine (HC3.out wq4 hPw).mono ?_
 rintro e wq5 ⟨A16, C16, rfl, h16n, hP⟩
 have h7 := own_ext h7 hP (fun _ _ => id)
 have h13 := own_ext h13 hP (fun _ _ => id)
 have hB := hB.ext hP id
 have hPw := hPw.pure hP
 have h16 := h16n
 refine hK.out _ _ (hP.mono (fun _ _ e => e.elim)) (fun hHeld => ?_)
 clear hK K hHeld
 refine region_now (hP.mono (fun _ _ e => e.elim)) ?_
 try simp only [Act.put, sA, sZ, sS]
 refine wpAnyH_ready (rs := [14]) (by kernel_rfl) (by simp) (AllReadyH.cons rfl (fun K hK => ?_) AllReadyH.nil)
 go_simp
 refine (HC4.out wq5 hPw).mono ?_
 rintro e wq6 ⟨A19, C19, rfl, h19n, hP⟩
 have h7 := own_ext h7 hP (fun _ _ => id)
 have h13 := own_ext h13 hP (fun _ _ => id)
 have h16 := own_ext h16 hP (fun _ _ => id)
 have hB := hB.ext hP id
 have hPw := hPw.pure hP
 have h19 := h19n
 refine hK.out _ _ (hP.mono (fun _ _ e => e.elim)) (fun hHeld => ?_)
 clear hK K hHeld
 refine region_now (hP.mono (fun _ _ e => e.elim)) ?_
 try simp only [Act.put, sA, sZ, sS]
 refine region_take 15 20 (v := ?vooq0q0q115) rfl rfl (by kernel_rfl) (by kernel_rfl) (by kernel_rfl) (fun _ _ _ h => h) (by rfl) (fun w' hS => ?hooq0q0q115) ?rooq0q0q115
 case hooq0q0q115 => go_simp; with_reducible rfl
 try simp only [Act.put, sA, sZ, sS]
 refine wpAnyH_ready (rs := [17]) (by kernel_rfl) (by simp) (AllReadyH.cons rfl (fun K hK => ?_) AllReadyH.nil)
 have hTh : wq6.there ob 0 (#[.slice none 0 0, .slice A13 m13 C13, .slice A16 m16 C16, .slice A19 m19 C19, .int .i64 0, .int .i64 0] : Array Value).size := hB.there 6 rfl
 have hSi : (Tryz.prog.info? 34).map (·.size) = some (#[.slice none 0 0, .slice A13 m13 C13, .slice A16 m16 C16, .slice A19 m19 C19, .int .i64 0, .int .i64 0] : Array Value).size := sizeOr
 have hOn : (#[.slice none 0 0, .slice A13 m13 C13, .slice A16 m16 C16, .slice A19 m19 C19, .int .i64 0, .int .i64 0] : Array Value).all (fun u => u.oneCell') = true := all_oneCell_toArray (by intro u hu; simp only [List.mem_cons, List.not_mem_nil, or_false] at hu; rcases hu with rfl | rfl | rfl | rfl | rfl | rfl <;> rfl)
 have hX : Ext (fun b => R ≤ b) wq6 (wq6.setCells ob 0 [.slice none 0 0, .slice A13 m13 C13, .slice A16 m16 C16, .slice A19 m19 C19, .int .i64 0, .int .i64 0]) := Ext.setCells (S := fun b => R ≤ b) _ 0 _ (Ext.refl _ _) (b := ob) (fun _ => hRo)
 have hX1 : Ext (fun b => b = ob) wq6 (wq6.setCells ob 0 [.slice none 0 0, .slice A13 m13 C13, .slice A16 m16 C16, .slice A19 m19 C19, .int .i64 0, .int .i64 0]) := Ext.setCells (S := fun b => b = ob) _ 0 _ (Ext.refl _ _) (b := ob) (fun _ => rfl)
 have hBf := hB.setAll [.slice none 0 0, .slice A13 m13 C13, .slice A16 m16 C16, .slice A19 m19 C19, .int .i64 0, .int .i64 0] rfl
 have hPf := hPw.trans hX1 (fun i hi e => by have h1 := HRz.out; have h2 : i = ob := e; omega)
 have g13 := own_ext h13 hX1 (fun g hg => own_ne h13 hB (by decide) g hg)
 have g16 := own_ext h16 hX1 (fun g hg => own_ne h16 hB (by decide) g hg)
 have g19 := own_ext h19 hX1 (fun g hg => own_ne h19 hB (by decide) g hg)
 obtain ⟨wf, hwf⟩ : ∃ z, z = wq6.setCells ob 0 [.slice none 0 0, .slice A13 m13 C13, .slice A16 m16 C16, .slice A19 m19 C19, .int .i64 0, .int .i64 0] := ⟨_, rfl⟩
 rw [← hwf] at hX hBf hPf g13 g16 g19
 refine step_of_list ?_
 refine wpList_store_mid rfl 34 (.tmp 3) (.tmp 20) rfl ob 0 #[.slice none 0 0, .slice A13 m13 C13, .slice A16 m16 C16, .slice A19 m19 C19, .int .i64 0, .int .i64 0] rfl rfl hTh hSi hOn ?_
 rw [← hwf]
 clear hwf
 refine hK.out _ _ (hX) (fun hHeld => ?_)
 clear hK K hHeld
 refine region_now (hX) ?_
 try simp only [Act.put, sA, sZ, sS]
 refine wpAnyH_done (by kernel_rfl) ?_ _
 rotate_left
 go_simp
 obtain ⟨wq2, hwn⟩ : ∃ z, z = wq1.alloc (.cells #[.slice none 0 0, .slice none 0 0, .slice none 0 0, .slice none 0 0, .int .i64 0, .int .i64 0] 34) := ⟨_, rfl⟩
 have hP : Pure wq1 wq2 := by rw [hwn]; exact ext_alloc _ _
 have hBn : BlockIs wq2 wq1.heap.size [.slice none 0 0, .slice none 0 0, .slice none 0 0, .slice none 0 0, .int .i64 0, .int .i64 0] 34 := by rw [hwn]; exact BlockIs.new _ _ _
 rw [← hwn]
 obtain ⟨ob, hob⟩ : ∃ z, z = wq1.heap.size := ⟨_, rfl⟩
 rw [← hob] at hBn ⊢
 have hRo : R ≤ ob := by rw [hob, HRz.out]; exact hPw.size
 clear hwn hob
 have h7 := own_ext h7 hP (fun _ _ => id)
 have hPw := hPw.pure hP
 have hB := hBn
 refine hK.out _ _ (hP.mono (fun _ _ e => e.elim)) (fun hHeld => ?_)
 clear hK K hHeld
 refine region_now (hP.mono (fun _ _ e => e.elim)) ?_
 try simp only [Act.put, sA, sZ, sS]
 refine wpAnyH_ready (rs := [7]) (by kernel_rfl) (by simp) (AllReadyH.cons rfl (fun K hK => ?_) AllReadyH.nil)
 go_simp
 obtain ⟨wq3, hwn⟩ : ∃ z, z = wq2.alloc (.cells #[.slice A7 m7 C7, .slice a3 n3 c3, .slice a4 n4 c4] 25) := ⟨_, rfl⟩
 have hP : Pure wq2 wq3 := by rw [hwn]; exact ext_alloc _ _
 have hr12 : RowOf wq3 (some ⟨wq2.heap.size, 0, none⟩) [.slice A7 m7 C7, .slice a3 n3 c3, .slice a4 n4 c4] := by rw [hwn]; exact row_at _ rfl rfl
 rw [← hwn]
 obtain ⟨s12, hs12⟩ : ∃ z, z = wq2.heap.size := ⟨_, rfl⟩
 rw [← hs12] at hr12 ⊢
 clear hwn hs12
 have h7 := own_ext h7 hP (fun _ _ => id)
 have hB := hB.ext hP id
 have hPw := hPw.pure hP
 refine hK.out _ _ (hP.mono (fun _ _ e => e.elim)) (fun hHeld => ?_)
 clear hK K hHeld
 refine region_now (hP.mono (fun _ _ e => e.elim)) ?_
 try simp only [Act.put, sA, sZ, sS]
 refine wpAnyH_ready (rs := [8]) (by kernel_rfl) (by simp) (AllReadyH.cons rfl (fun K hK => ?_) AllReadyH.nil)
 go_simp
 have hk7 := own_ok h7 HM7.out
 refine (HC2.out wq3 A7 C7 s12 hPw hk7 hr12).mono ?_
 rintro e wq4 ⟨A13, C13, rfl, h13n, hP⟩
 have h7 := own_ext h7 hP (fun _ _ => id)
 have hB := hB.ext hP id
 have hPw := hPw.pure hP
 have h13 := h13n
 clear hr12 hk7
 refine hK.out _ _ (hP.mono (fun _ _ e => e.elim)) (fun hHeld => ?_)
 clear hK K hHeld
 refine region_now (hP.mono (fun _ _ e => e.elim)) ?_
 try simp only [Act.put, sA, sZ, sS]
 refine wpAnyH_ready (rs := [11]) (by kernel_rfl) (by simp) (AllReadyH.cons rfl (fun K hK => ?_) AllReadyH.nil)
 go_simp
 refine (HC3.out wq4 hPw).mono ?_
 rintro e wq5 ⟨A16, C16, rfl, h16n, hP⟩
 have h7 := own_ext h7 hP (fun _ _ => id)
 have h13 := own_ext h13 hP (fun _ _ => id)
 have hB := hB.ext hP id
 have hPw := hPw.pure hP
 have h16 := h16n
 refine hK.out _ _ (hP.mono (fun _ _ e => e.elim)) (fun hHeld => ?_)
 clear hK K hHeld
 refine region_now (hP.mono (fun _ _ e => e.elim)) ?_
 try simp only [Act.put, sA, sZ, sS]
 refine wpAnyH_ready (rs := [14]) (by kernel_rfl) (by simp) (AllReadyH.cons rfl (fun K hK => ?_) AllReadyH.nil)
 go_simp
 refine (HC4.out wq5 hPw).mono ?_
 rintro e wq6 ⟨A19, C19, rfl, h19n, hP⟩
 have h7 := own_ext h7 hP (fun _ _ => id)
 have h13 := own_ext h13 hP (fun _ _ => id)
 have h16 := own_ext h16 hP (fun _ _ => id)
 have hB := hB.ext hP id
 have hPw := hPw.pure hP
 have h19 := h19n
 refine hK.out _ _ (hP.mono (fun _ _ e => e.elim)) (fun hHeld => ?_)
 clear hK K hHeld
 refine region_now (hP.mono (fun _ _ e => e.elim)) ?_
 try simp only [Act.put, sA, sZ, sS]
 refine region_take 15 20 (v := ?vooq0q115) rfl rfl (by kernel_rfl) (by kernel_rfl) (by kernel_rfl) (fun _ _ _ h => h) (by rfl) (fun w' hS => ?hooq0q115) ?rooq0q115
 case hooq0q115 => go_simp; with_reducible rfl
 try simp only [Act.put, sA, sZ, sS]
 refine wpAnyH_ready (rs := [17]) (by kernel_rfl) (by simp) (AllReadyH.cons rfl (fun K hK => ?_) AllReadyH.nil)
 have hTh : wq6.there ob 0 (#[.slice none 0 0, .slice A13 m13 C13, .slice A16 m16 C16, .slice A19 m19 C19, .int .i64 0, .int .i64 0] : Array Value).size := hB.there 6 rfl
 have hSi : (Tryz.prog.info? 34).map (·.size) = some (#[.slice none 0 0, .slice A13 m13 C13, .slice A16 m16 C16, .slice A19 m19 C19, .int .i64 0, .int .i64 0] : Array Value).size := sizeOr
 have hOn : (#[.slice none 0 0, .slice A13 m13 C13, .slice A16 m16 C16, .slice A19 m19 C19, .int .i64 0, .int .i64 0] : Array Value).all (fun u => u.oneCell') = true := all_oneCell_toArray (by intro u hu; simp only [List.mem_cons, List.not_mem_nil, or_false] at hu; rcases hu with rfl | rfl | rfl | rfl | rfl | rfl <;> rfl)
 have hX : Ext (fun b => R ≤ b) wq6 (wq6.setCells ob 0 [.slice none 0 0, .slice A13 m13 C13, .slice A16 m16 C16, .slice A19 m19 C19, .int .i64 0, .int .i64 0]) := Ext.setCells (S := fun b => R ≤ b) _ 0 _ (Ext.refl _ _) (b := ob) (fun _ => hRo)
 have hX1 : Ext (fun b => b = ob) wq6 (wq6.setCells ob 0 [.slice none 0 0, .slice A13 m13 C13, .slice A16 m16 C16, .slice A19 m19 C19, .int .i64 0, .int .i64 0]) := Ext.setCells (S := fun b => b = ob) _ 0 _ (Ext.refl _ _) (b := ob) (fun _ => rfl)
 have hBf := hB.setAll [.slice none 0 0, .slice A13 m13 C13, .slice A16 m16 C16, .slice A19 m19 C19, .int .i64 0, .int .i64 0] rfl
 have hPf := hPw.trans hX1 (fun i hi e => by have h1 := HRz.out; have h2 : i = ob := e; omega)
 have g13 := own_ext h13 hX1 (fun g hg => own_ne h13 hB (by decide) g hg)
 have g16 := own_ext h16 hX1 (fun g hg => own_ne h16 hB (by decide) g hg)
 have g19 := own_ext h19 hX1 (fun g hg => own_ne h19 hB (by decide) g hg)
 obtain ⟨wf, hwf⟩ : ∃ z, z = wq6.setCells ob 0 [.slice none 0 0, .slice A13 m13 C13, .slice A16 m16 C16, .slice A19 m19 C19, .int .i64 0, .int .i64 0] := ⟨_, rfl⟩
 rw [← hwf] at hX hBf hPf g13 g16 g19
 refine step_of_list ?_
 refine wpList_store_mid rfl 34 (.tmp 3) (.tmp 20) rfl ob 0 #[.slice none 0 0, .slice A13 m13 C13, .slice A16 m16 C16, .slice A19 m19 C19, .int .i64 0, .int .i64 0] rfl rfl hTh hSi hOn ?_
 rw [← hwf]
 clear hwf
 refine hK.out _ _ (hX) (fun hHeld => ?_)
 clear hK K hHeld
 refine region_now (hX) ?_
 try simp only [Act.put, sA, sZ, sS]
 refine wpAnyH_done (by kernel_rfl) ?_ _
 rotate_left
 go_simp
 obtain ⟨wq1, hwn⟩ : ∃ z, z = wd.alloc (.cells #[.slice none 0 0, .slice none 0 0, .slice none 0 0, .slice none 0 0, .int .i64 0, .int .i64 0] 34) := ⟨_, rfl⟩
 have hP : Pure wd wq1 := by rw [hwn]; exact ext_alloc _ _
 have hBn : BlockIs wq1 wd.heap.size [.slice none 0 0, .slice none 0 0, .slice none 0 0, .slice none 0 0, .int .i64 0, .int .i64 0] 34 := by rw [hwn]; exact BlockIs.new _ _ _
 rw [← hwn]
 obtain ⟨ob, hob⟩ : ∃ z, z = wd.heap.size := ⟨_, rfl⟩
 rw [← hob] at hBn ⊢
 have hRo : R ≤ ob := by rw [hob, HRz.out]; exact hPw.size
 clear hwn hob
 have hPw := hPw.pure hP
 have hB := hBn
 refine hK.out _ _ (hP.mono (fun _ _ e => e.elim)) (fun hHeld => ?_)
 clear hK K hHeld
 refine region_now (hP.mono (fun _ _ e => e.elim)) ?_
 try simp only [Act.put, sA, sZ, sS]
 refine wpAnyH_ready (rs := [2]) (by kernel_rfl) (by simp) (AllReadyH.cons rfl (fun K hK => ?_) AllReadyH.nil)
 go_simp
 refine (HC1.out wq1 hPw).mono ?_
 rintro e wq2 ⟨A7, C7, rfl, h7n, hP⟩
 have hB := hB.ext hP id
 have hPw := hPw.pure hP
 have h7 := h7n
 refine hK.out _ _ (hP.mono (fun _ _ e => e.elim)) (fun hHeld => ?_)
 clear hK K hHeld
 refine region_now (hP.mono (fun _ _ e => e.elim)) ?_
 try simp only [Act.put, sA, sZ, sS]
 refine wpAnyH_ready (rs := [7]) (by kernel_rfl) (by simp) (AllReadyH.cons rfl (fun K hK => ?_) AllReadyH.nil)
 go_simp
 obtain ⟨wq3, hwn⟩ : ∃ z, z = wq2.alloc (.cells #[.slice A7 m7 C7, .slice a3 n3 c3, .slice a4 n4 c4] 25) := ⟨_, rfl⟩
 have hP : Pure wq2 wq3 := by rw [hwn]; exact ext_alloc _ _
 have hr12 : RowOf wq3 (some ⟨wq2.heap.size, 0, none⟩) [.slice A7 m7 C7, .slice a3 n3 c3, .slice a4 n4 c4] := by rw [hwn]; exact row_at _ rfl rfl
 rw [← hwn]
 obtain ⟨s12, hs12⟩ : ∃ z, z = wq2.heap.size := ⟨_, rfl⟩
 rw [← hs12] at hr12 ⊢
 clear hwn hs12
 have h7 := own_ext h7 hP (fun _ _ => id)
 have hB := hB.ext hP id
 have hPw := hPw.pure hP
 refine hK.out _ _ (hP.mono (fun _ _ e => e.elim)) (fun hHeld => ?_)
 clear hK K hHeld
 refine region_now (hP.mono (fun _ _ e => e.elim)) ?_
 try simp only [Act.put, sA, sZ, sS]
 refine wpAnyH_ready (rs := [8]) (by kernel_rfl) (by simp) (AllReadyH.cons rfl (fun K hK => ?_) AllReadyH.nil)
 go_simp
 have hk7 := own_ok h7 HM7.out
 refine (HC2.out wq3 A7 C7 s12 hPw hk7 hr12).mono ?_
 rintro e wq4 ⟨A13, C13, rfl, h13n, hP⟩
 have h7 := own_ext h7 hP (fun _ _ => id)
 have hB := hB.ext hP id
 have hPw := hPw.pure hP
 have h13 := h13n
 clear hr12 hk7
 refine hK.out _ _ (hP.mono (fun _ _ e => e.elim)) (fun hHeld => ?_)
 clear hK K hHeld
 refine region_now (hP.mono (fun _ _ e => e.elim)) ?_
 try simp only [Act.put, sA, sZ, sS]
 refine wpAnyH_ready (rs := [11]) (by kernel_rfl) (by simp) (AllReadyH.cons rfl (fun K hK => ?_) AllReadyH.nil)
 go_simp
 refine (HC3.out wq4 hPw).mono ?_
 rintro e wq5 ⟨A16, C16, rfl, h16n, hP⟩
 have h7 := own_ext h7 hP (fun _ _ => id)
 have h13 := own_ext h13 hP (fun _ _ => id)
 have hB := hB.ext hP id
 have hPw := hPw.pure hP
 have h16 := h16n
 refine hK.out _ _ (hP.mono (fun _ _ e => e.elim)) (fun hHeld => ?_)
 clear hK K hHeld
 refine region_now (hP.mono (fun _ _ e => e.elim)) ?_
 try simp only [Act.put, sA, sZ, sS]
 refine wpAnyH_ready (rs := [14]) (by kernel_rfl) (by simp) (AllReadyH.cons rfl (fun K hK => ?_) AllReadyH.nil)
 go_simp
 refine (HC4.out wq5 hPw).mono ?_
 rintro e wq6 ⟨A19, C19, rfl, h19n, hP⟩
 have h7 := own_ext h7 hP (fun _ _ => id)
 have h13 := own_ext h13 hP (fun _ _ => id)
 have h16 := own_ext h16 hP (fun _ _ => id)
 have hB := hB.ext hP id
 have hPw := hPw.pure hP
 have h19 := h19n
 refine hK.out _ _ (hP.mono (fun _ _ e => e.elim)) (fun hHeld => ?_)
 clear hK K hHeld
 refine region_now (hP.mono (fun _ _ e => e.elim)) ?_
 try simp only [Act.put, sA, sZ, sS]
 refine region_take 15 20 (v := ?vooq115) rfl rfl (by kernel_rfl) (by kernel_rfl) (by kernel_rfl) (fun _ _ _ h => h) (by rfl) (fun w' hS => ?hooq115) ?rooq115
 case hooq115 => go_simp; with_reducible rfl
 try simp only [Act.put, sA, sZ, sS]
 refine wpAnyH_ready (rs := [17]) (by kernel_rfl) (by simp) (AllReadyH.cons rfl (fun K hK => ?_) AllReadyH.nil)
 have hTh : wq6.there ob 0 (#[.slice none 0 0, .slice A13 m13 C13, .slice A16 m16 C16, .slice A19 m19 C19, .int .i64 0, .int .i64 0] : Array Value).size := hB.there 6 rfl
 have hSi : (Tryz.prog.info? 34).map (·.size) = some (#[.slice none 0 0, .slice A13 m13 C13, .slice A16 m16 C16, .slice A19 m19 C19, .int .i64 0, .int .i64 0] : Array Value).size := sizeOr
 have hOn : (#[.slice none 0 0, .slice A13 m13 C13, .slice A16 m16 C16, .slice A19 m19 C19, .int .i64 0, .int .i64 0] : Array Value).all (fun u => u.oneCell') = true := all_oneCell_toArray (by intro u hu; simp only [List.mem_cons, List.not_mem_nil, or_false] at hu; rcases hu with rfl | rfl | rfl | rfl | rfl | rfl <;> rfl)
 have hX : Ext (fun b => R ≤ b) wq6 (wq6.setCells ob 0 [.slice none 0 0, .slice A13 m13 C13, .slice A16 m16 C16, .slice A19 m19 C19, .int .i64 0, .int .i64 0]) := Ext.setCells (S := fun b => R ≤ b) _ 0 _ (Ext.refl _ _) (b := ob) (fun _ => hRo)
 have hX1 : Ext (fun b => b = ob) wq6 (wq6.setCells ob 0 [.slice none 0 0, .slice A13 m13 C13, .slice A16 m16 C16, .slice A19 m19 C19, .int .i64 0, .int .i64 0]) := Ext.setCells (S := fun b => b = ob) _ 0 _ (Ext.refl _ _) (b := ob) (fun _ => rfl)
 have hBf := hB.setAll [.slice none 0 0, .slice A13 m13 C13, .slice A16 m16 C16, .slice A19 m19 C19, .int .i64 0, .int .i64 0] rfl
 have hPf := hPw.trans hX1 (fun i hi e => by have h1 := HRz.out; have h2 : i = ob := e; omega)
 have g13 := own_ext h13 hX1 (fun g hg => own_ne h13 hB (by decide) g hg)
 have g16 := own_ext h16 hX1 (fun g hg => own_ne h16 hB (by decide) g hg)
 have g19 := own_ext h19 hX1 (fun g hg => own_ne h19 hB (by decide) g hg)
 obtain ⟨wf, hwf⟩ : ∃ z, z = wq6.setCells ob 0 [.slice none 0 0, .slice A13 m13 C13, .slice A16 m16 C16, .slice A19 m19 C19, .int .i64 0, .int .i64 0] := ⟨_, rfl⟩
 rw [← hwf] at hX hBf hPf g13 g16 g19
 refine step_of_list ?_
 refine wpList_store_mid rfl 34 (.tmp 3) (.tmp 20) rfl ob 0 #[.slice none 0 0, .slice A13 m13 C13, .slice A16 m16 C16, .slice A19 m19 C19, .int .i64 0, .int .i64 0] rfl rfl hTh hSi hOn ?_
 rw [← hwf]
 clear hwf
 refine hK.out _ _ (hX) (fun hHeld => ?_)
 clear hK K hHeld
 refine region_now (hX) ?_
 try simp only [Act.put, sA, sZ, sS]
 refine wpAnyH_done (by kernel_rfl) ?_ _
 rotate_left
 all_goals
  have HB1 := qh hBf
  have HP1 := qh (HPd.out.pure hPf)
  have HPf1 := qh hPf
  have H13 := qh g13
  have H16 := qh g16
  have H19 := qh g19
  have HRo := qh hRo
  have HR1 := qh (HRd.out.ext hPf id)
  clear hX hX1 hBf hPf g13 g16 g19 h13 h16 h19 h7 hB hPw hTh hSi hOn hRo
  have x1 : wf.cell? ⟨ob, 1, none⟩ = some (.slice A13 m13 C13) := HB1.out.cell 1
  have x2 : wf.cell? ⟨ob, 2, none⟩ = some (.slice A16 m16 C16) := HB1.out.cell 2
  have x4 : wf.cell? ⟨ob, 4, none⟩ = some (.int .i64 0) := HB1.out.cell 4
  have x5 : wf.cell? ⟨ob, 5, none⟩ = some (.int .i64 0) := HB1.out.cell 5
  have z4 : wf.frozen? ⟨ob, 4, none⟩ = false := HB1.out.free 4
  have z5 : wf.frozen? ⟨ob, 5, none⟩ = false := HB1.out.free 5
  go_upto_region 4 with (fail)
  obtain ⟨w2, hw2⟩ : ∃ z, z = (wf.setCell ⟨ob, 4, none⟩ (.int .i64 ((m13 : Int) + 1))).setCell ⟨ob, 5, none⟩ (.int .i64 ((m13 : Int) + (m16 : Int) + 2)) := ⟨_, rfl⟩
  rw [← hw2]
  have hB2 : BlockIs w2 ob [.slice none 0 0, .slice A13 m13 C13, .slice A16 m16 C16, .slice A19 m19 C19, .int .i64 ((m13 : Int) + 1), .int .i64 ((m13 : Int) + (m16 : Int) + 2)] 34 := by rw [hw2]; exact (HB1.out.set 4 _).set 5 _
  have hE2 : Ext (fun b => b = ob) wf w2 := by rw [hw2]; exact Ext.setCell (S := fun b => b = ob) (Ext.setCell (S := fun b => b = ob) (Ext.refl _ _) (p := ⟨ob, 4, none⟩) (fun _ => rfl) _) (p := ⟨ob, 5, none⟩) (fun _ => rfl) _
  have hz2 : wf.heap.size = w2.heap.size := by rw [hw2]; simp only [World.size_setCell]
  rw [hz2]
  obtain ⟨w3, hw3⟩ : ∃ z, z = w2.alloc (.cells #[.int .i64 0] 3) := ⟨_, rfl⟩
  rw [← hw3]
  obtain ⟨mb, hmb⟩ : ∃ z, z = w2.heap.size := ⟨_, rfl⟩
  rw [← hmb]
  have hP3 : Pure w2 w3 := by rw [hw3]; exact ext_alloc _ _
  have HM3 : Hid (BlockIs w3 mb [.int .i64 0] 3) := qh (by rw [hw3, hmb]; exact BlockIs.new _ _ _)
  have HB3 := qh (hB2.ext hP3 id)
  have HOb : Hid (ob < mb) := qh (by rw [hmb]; exact hB2.lt)
  have HPb3 : Hid (R ≤ ob ∧ ob < mb) := qh ⟨HRo.out, HOb.out⟩
  have q13 := own_ext H13.out hE2 (fun g hg => own_ne H13.out HB1.out (by decide) g hg)
  have q16 := own_ext H16.out hE2 (fun g hg => own_ne H16.out HB1.out (by decide) g hg)
  have q19 := own_ext H19.out hE2 (fun g hg => own_ne H19.out HB1.out (by decide) g hg)
  have HE3 : Hid (Ext (fun b => R ≤ b) wd w3) := qh (((HPf1.out.mono (fun _ _ e => e.elim)).trans (hE2.mono (fun b _ e => by rw [e]; exact HRo.out)) (fun _ _ e => e)).trans (hP3.mono (fun _ _ e => e.elim)) (fun _ _ e => e))
  have HR : Hid (∀ W, Ext (fun b => b = ob ∨ mb ≤ b ∨ b ≤ pb + 1) w3 W → CRow.ok W ⟨A13, C13, p.main⟩ ∧ CRow.ok W ⟨A16, C16, p.tree⟩ ∧ CRow.ok W ⟨A19, C19, p.first⟩) := qh (fun W hE => by
   have f : ∀ {m : Nat} {A : Option Addr} {C : Nat} {l : List Int}, w2.ownsRow R 3 1 (.slice A m C) m (intsV l) → m = l.length → CRow.ok W ⟨A, C, l⟩ := fun {m} {A} {C} {l} h hm => own_ok (own_ext (own_ext h hP3 (fun _ _ => id)) hE (fun g hg e => by
    rcases e with e | e
    ·exact own_ne h hB2 (by decide) g hg e
    ·have h2 := h.lt g hg
     have h3 := HLr.out
     omega)) hm
   exact ⟨f q13 HM13.out, f q16 HM16.out, f q19 HM19.out⟩)
  have HRr : Hid (∀ W, Ext (fun b => b = ob ∨ mb ≤ b ∨ b ≤ pb + 1) w3 W → RowOf W A13 (intsV p.main) ∧ RowOf W A16 (intsV p.tree) ∧ RowOf W A19 (intsV p.first)) := qh (fun W hE => ⟨(HR.out W hE).1.1, (HR.out W hE).2.1.1, (HR.out W hE).2.2.1⟩)
  have HR3 := qh ((HR1.out.ext hE2 (fun e => by have h1 := HLr.out; have h2 := HRo.out; omega)).ext hP3 id)
  have HC5 := qh (each1_any (ta := none) (tn := 0) (tc := 0) (mc := C13) (hc := C16) (fc := C19) (lin := (m13 : Int) + 1) (hint := (m13 : Int) + (m16 : Int) + 2) HM13.out HM16.out HM19.out HM3.out (fun W hE => HRr.out W (hE.mono (fun b _ e => Or.inr (Or.inl (by rw [e]; exact Nat.le_refl _))))) hzz)
  clear hw2 hB2 hE2 hz2 hw3 hmb hP3 q13 q16 q19 x1 x2 x4 x5 z4 z5
  obtain ⟨mo, hmo⟩ : ∃ z, z = mostP (p.main ++ p.tree ++ p.first) := ⟨_, rfl⟩
  have hmo4 : mo ≤ 4096 := by rw [hmo]; exact mostP_le _
  rw [← hmo] at HC5
  have HMo := qh hmo
  clear hmo
  go_wp2_with (with_reducible refine at_load 34 (.tmp 3) ?_; refine wpList_load_o rfl (.tmp 3) rfl ob 0 rfl _ HB3.out.range rfl ?_)
  refine HC5.out.mono ?_
  rintro e w4 ⟨rfl, hM4, hE4⟩
  have HB4 := qh (HB3.out.ext hE4 (fun e => by have := HOb.out; omega))
  have HE4 : Hid (Ext (fun b => b = ob ∨ mb ≤ b) w3 w4) := qh (hE4.mono (fun b _ e => Or.inr (by rw [e]; exact Nat.le_refl _)))
  have HLm : Hid (mb < w4.heap.size) := qh hM4.lt
  obtain ⟨w5, hw5⟩ : ∃ z, z = w4.alloc (.cells (intsV (List.replicate mo 0)).toArray 3) := ⟨_, rfl⟩
  obtain ⟨kb, hkb⟩ : ∃ z, z = w4.heap.size := ⟨_, rfl⟩
  have HKb := qh hkb
  have HW5 : Hid (w4.alloc (.cells (madeCells #[.int .i64 0] mo) 3) = w5) := qh (by rw [hw5]; exact rep_ints mo _ w4)
  have HK5 : Hid (BlockIs w5 kb (intsV (List.replicate mo 0)) 3) := qh (by rw [hw5, hkb]; exact BlockIs.new w4 _ _)
  have hP5 : Pure w4 w5 := by rw [hw5]; exact ext_alloc _ _
  have HB5 := qh (HB4.out.ext hP5 id)
  have HM5 := qh (hM4.ext hP5 id)
  have HE5 : Hid (Ext (fun b => b = ob ∨ mb ≤ b) w3 w5) := qh (HE4.out.trans (hP5.mono (fun _ _ e => e.elim)) (fun _ _ e => e))
  have x0 : w4.cell? ⟨mb, 0, none⟩ = some (.int .i64 (mo : Int)) := hM4.cell 0
  have y0 : w5.cell? ⟨ob, 0, none⟩ = some (.slice none 0 0) := HB5.out.cell 0
  have z0 : w5.frozen? ⟨ob, 0, none⟩ = false := HB5.out.free 0
  obtain ⟨ii, hi, hzi, hsize, hby⟩ := info_parts infoI
  have HI := qh hi
  have HZ := qh hzi
  have HSi := qh hsize
  have HBy : Hid (ii.bytes * mo ≤ 281474976710656) := qh (by rw [hby]; omega)
  have HMx : Hid (mo ≤ 9223372036854775807) := qh (by omega)
  clear hi hzi hsize hby hw5 hkb hP5 hM4 hE4
  go_upto_region 6 with (refine wpList_make_row _ rfl (.tmp 38) (.tmp 38) 25 rfl 3 ii (.int .i64 0) Tryz.underlying25 HI.out HZ.out HSi.out rfl .i64 .i64 mo rfl rfl HBy.out HMx.out ?_; rw [HW5.out, ← HKb.out])
  obtain ⟨w6, hw6⟩ : ∃ z, z = w5.setCell ⟨ob, 0, none⟩ (.slice (some ⟨kb, 0, none⟩) mo mo) := ⟨_, rfl⟩
  rw [← hw6]
  have hE6 : Ext (fun b => b = ob) w5 w6 := by rw [hw6]; exact Ext.setCell (S := fun b => b = ob) (Ext.refl _ _) (p := ⟨ob, 0, none⟩) (fun _ => rfl) _
  have HB6 : Hid (BlockIs w6 ob [.slice (some ⟨kb, 0, none⟩) mo mo, .slice A13 m13 C13, .slice A16 m16 C16, .slice A19 m19 C19, .int .i64 ((m13 : Int) + 1), .int .i64 ((m13 : Int) + (m16 : Int) + 2)] 34) := qh (by rw [hw6]; exact HB5.out.set 0 _)
  have HKo : Hid (ob ≠ kb ∧ mb ≠ kb) := qh (by have h1 := HKb.out; have h2 := HLm.out; have h3 := HOb.out; omega)
  have HM6 := qh (HM5.out.ext hE6 (fun e => by have := HOb.out; omega))
  have HK6 := qh (HK5.out.ext hE6 (fun e => by have := HKo.out; omega))
  have HE6 : Hid (Ext (fun b => b = ob ∨ mb ≤ b) w3 w6) := qh (HE5.out.trans (hE6.mono (fun _ _ e => Or.inl e)) (fun _ _ e => e))
  have HLk : Hid (mb ≤ kb) := qh (by have h1 := HKb.out; have h2 := HLm.out; omega)
  have HC6 := qh (each2_any (ta := some ⟨kb, 0, none⟩) (tn := mo) (tc := mo) (mc := C13) (hc := C16) (fc := C19) (lin := (m13 : Int) + 1) (hint := (m13 : Int) + (m16 : Int) + 2) HM13.out HM16.out HM19.out HM6.out HB6.out rfl HK6.out hmo4 HKo.out.2 HKo.out.1 (fun W hE => HRr.out W ((HE6.out.trans (hE.mono (fun b _ e => Or.inr (by rw [e]; exact HLk.out))) (fun _ _ e => e)).mono (fun b _ e => e.elim Or.inl (fun e => Or.inr (Or.inl e))))) hzz)
  clear hw6 hE6 x0 y0 z0
  go_wp2_with (with_reducible refine at_load 34 (.tmp 3) ?_; refine wpList_load_o rfl (.tmp 3) rfl ob 0 rfl _ HB6.out.range rfl ?_)
  refine HC6.out.mono ?_
  rintro e w7 ⟨rfl, hK7, hE7⟩
  have hB7 := HB6.out.ext hE7 HKo.out.1
  have hE37 : Ext (fun b => b = ob ∨ mb ≤ b) w3 w7 := HE6.out.trans (hE7.mono (fun b _ e => Or.inr (by rw [e]; exact HLk.out))) (fun _ _ e => e)
  have hR7 := HR3.out.ext hE37 (fun e => by have h1 := HLr.out; have h2 := HPb3.out; omega)
  have HTh : Hid (w7.there (pb + 1) 0 (#[Value.slice (some ⟨kb, 0, none⟩) mo mo, .slice A13 m13 C13, .slice A16 m16 C16, .slice A19 m19 C19, .int .i64 ((m13 : Int) + 1), .int .i64 ((m13 : Int) + (m16 : Int) + 2)] : Array Value).size) := qh (hR7.there 6 rfl)
  have HSz : Hid ((Tryz.prog.info? 34).map (·.size) = some (#[Value.slice (some ⟨kb, 0, none⟩) mo mo, .slice A13 m13 C13, .slice A16 m16 C16, .slice A19 m19 C19, .int .i64 ((m13 : Int) + 1), .int .i64 ((m13 : Int) + (m16 : Int) + 2)] : Array Value).size) := qh sizeOr
  have HOn : Hid (((#[Value.slice (some ⟨kb, 0, none⟩) mo mo, .slice A13 m13 C13, .slice A16 m16 C16, .slice A19 m19 C19, .int .i64 ((m13 : Int) + 1), .int .i64 ((m13 : Int) + (m16 : Int) + 2)] : Array Value).all fun u => u.oneCell') = true) := qh (all_oneCell_toArray (by intro u hu; simp only [List.mem_cons, List.not_mem_nil, or_false] at hu; rcases hu with rfl | rfl | rfl | rfl | rfl | rfl <;> rfl))
  have HB7 := qh hB7
  have HK7 := qh hK7
  have HE37 := qh hE37
  have HR7 := qh hR7
  clear hB7 hK7 hE37 hE7 hR7
  go_wp2_with first
   | (with_reducible refine at_load 34 (.tmp 3) ?_; refine wpList_load_o rfl (.tmp 3) rfl ob 0 rfl _ HB7.out.range rfl ?_)
   | (with_reducible refine at_store 34 (.tmp 2) (.tmp 44) ?_; refine wpList_store_mid rfl 34 (.tmp 2) (.tmp 44) rfl (pb + 1) 0 #[.slice (some ⟨kb, 0, none⟩) mo mo, .slice A13 m13 C13, .slice A16 m16 C16, .slice A19 m19 C19, .int .i64 ((m13 : Int) + 1), .int .i64 ((m13 : Int) + (m16 : Int) + 2)] rfl rfl HTh.out HSz.out HOn.out ?_)
  have hB := HR7.out.setAll [.slice (some ⟨kb, 0, none⟩) mo mo, .slice A13 m13 C13, .slice A16 m16 C16, .slice A19 m19 C19, .int .i64 ((m13 : Int) + 1), .int .i64 ((m13 : Int) + (m16 : Int) + 2)] rfl
  have hE : Ext (fun b => b = pb + 1) w7 (w7.setCells (pb + 1) 0 [.slice (some ⟨kb, 0, none⟩) mo mo, .slice A13 m13 C13, .slice A16 m16 C16, .slice A19 m19 C19, .int .i64 ((m13 : Int) + 1), .int .i64 ((m13 : Int) + (m16 : Int) + 2)]) := Ext.setCells (S := fun b => b = pb + 1) _ 0 _ (Ext.refl _ _) (b := pb + 1) (fun _ => rfl)
  refine bodyPost_ret (results_row1 rfl _ _ (pb + 1) _ [.slice (some ⟨kb, 0, none⟩) mo mo, .slice A13 m13 C13, .slice A16 m16 C16, .slice A19 m19 C19, .int .i64 ((m13 : Int) + 1), .int .i64 ((m13 : Int) + (m16 : Int) + 2)] _ rfl hB Tryz.underlying34 rfl sizeOr) rfl ?_
  refine ⟨some ⟨kb, 0, none⟩, A13, A16, A19, mo, m13, m16, m19, mo, C13, C16, C19, ?_, fun S W hS hSb => ?_, ?_⟩
  ·have e1 : (orderP p).main.length = m13 := HM13.out.symm
   have e2 : (orderP p).head.length = m16 := HM16.out.symm
   rw [e1, e2]
   rfl
  ·obtain ⟨r1, r2, r3⟩ := HR.out W (((HE37.out.mono (fun b _ e => e.elim Or.inl (fun e => Or.inr (Or.inl e)))).trans (hE.mono (fun b _ e => Or.inr (Or.inr (by rw [e]; exact Nat.le_refl _)))) (fun _ _ e => e)).trans (hS.mono (fun b _ e => Or.inr (Or.inr (by have h1 := hSb b e; have h2 := HPb.out; omega)))) (fun _ _ e => e))
   have hk := (HK7.out.ext hE (fun e => by have h1 := HLr.out; have h2 := HPb3.out; have h3 := HLk.out; omega)).ext hS (fun e => by have h0 := hSb _ e; have h1 := HLr.out; have h2 := HPb3.out; have h3 := HLk.out; have h4 := HPb.out; omega)
   exact ⟨⟨some ⟨kb, 0, none⟩, mo, toP (seqP p.main p.tree p.first) mo⟩, ⟨A13, C13, p.main⟩, ⟨A16, C16, p.tree⟩, ⟨A19, C19, p.first⟩, by unfold CRow.v; rw [toP_len], by unfold CRow.v; rw [← HM13.out], by unfold CRow.v; rw [← HM16.out], by unfold CRow.v; rw [← HM19.out], by rw [HMo.out]; rfl, rfl, rfl, rfl, ⟨row_blk hk, fun h => (by cases h), Nat.le_of_eq (toP_len _ _)⟩, r1, r2, r3⟩
  ·exact ((HPd.out.trans HE3.out (fun i hi e => by have h1 := HPb.out; have h2 := HLr.out; omega)).trans HE37.out (fun i hi e => by have h1 := HPb.out; have h2 := HLr.out; have h3 := HPb3.out; omega)).trans hE (fun i hi e => by have h1 := HPb.out; omega)
