import Derived.Test.YtipmbcalnnomjaaGreatRTurnTu
import Derived.Test.YtipmbcalnnomjaaGreatValCmpTu
import Derived.Test.YtipmbcalnnomjaaGreatSqTu
set_option linter.unusedVariables false
set_option linter.unusedSimpArgs false
set_option maxRecDepth 100000
namespace Go.Proofs.YtipmbcalnnomjaaGreat
open Go.RowKit Go.Maps
theorem row_small {W W' : World} {tb : Nat} {cs : List Value} {T : TypeId} (hB : BlockIs W tb cs T) (hl : cs.length < 4) (hE : Ext (fun k => k = tb) W W') {a : Option Addr} {xs : List Value} (h : RowOf W a xs) (hx : xs = [] ∨ 4 ≤ xs.length) : RowOf W' a xs := by
 intro i u hu
 obtain ⟨b, o, ha, hc⟩ := h i u hu
 have h4 : 4 ≤ xs.length := by
  rcases hx with rfl | h4
  ·simp at hu
  ·exact h4
 obtain ⟨b', o', ha', hc3⟩ := h 3 xs[3] (List.getElem?_eq_getElem (by omega))
 rw [ha] at ha'
 cases ha'
 refine ⟨b, o, ha, hE.cell_some hc (fun e => ?_)⟩
 have e2 : b = tb := e
 subst e2
 rw [hB.cell (o + 3), List.getElem?_eq_none (by omega)] at hc3
 cases hc3
theorem Lies.small {W W' : World} {tb : Nat} {cs0 : List Value} {T : TypeId} (hB : BlockIs W tb cs0 T) (hl : cs0.length < 4) (hE : Ext (fun k => k = tb) W W') : ∀ {d : Nat} {v : V} {cs : List Value}, Lies W d v cs → Lies W' d v cs
 | 0, _, _, h => h
 | d + 1, v, cs, h => by
   obtain ⟨a, c, rows, h1, h2, h3, h4, h5, h6, h7, h8, h9⟩ := h
   refine ⟨a, c, rows, h1, h2, h3, row_small hB hl hE h4 ?_, h5, h6, h7, fun i u r hu hr => Lies.small hB hl hE (h8 i u r hu hr), h9⟩
   cases rows with
   | nil => exact Or.inl rfl
   | cons r rows => exact Or.inr (by rw [List.flatMap_cons, List.length_append, show (id r).length = 4 from h3 r List.mem_cons_self]; omega)
theorem OKids.small {W W' : World} {tb : Nat} {cs0 : List Value} {T : TypeId} (hB : BlockIs W tb cs0 T) (hl : cs0.length < 4) (hE : Ext (fun k => k = tb) W W') {d : Nat} {l : List Ob} {a : Option Addr} {rows : List (List Value)} (h : OKids W d l a rows) : OKids W' d l a rows := by
 refine ⟨h.len, h.six, row_small hB hl hE h.row ?_, fun i o r ho hr => ?_⟩
 ·have h6 := h.six
  cases rows with
  | nil => exact Or.inl rfl
  | cons r rows => exact Or.inr (by rw [List.flatMap_cons, List.length_append, show (id r).length = 6 from h6 r List.mem_cons_self]; omega)
 ·obtain ⟨cs, h1, h2⟩ := h.lies i o r ho hr
  exact ⟨cs, h1, h2.small hB hl hE⟩
theorem cmpI_selfO (x : Int) : cmpI x x = 0 := by unfold cmpI; rw [if_neg (by omega), if_neg (by omega)]
theorem bytes_selfO : ∀ a : List UInt8, Lib.compareBytes a a = 0
 | [] => rfl
 | a :: p => by rw [Lib.compareBytes, if_neg (by simp), if_neg (by simp)]; exact bytes_selfO p
mutual
theorem cmp_selfO : ∀ a : V, a.cmp a = 0
 | .mk k n s l => by
   simp only [V.cmp, cmpI_selfO, cmpS, bytes_selfO, cmp_selfLO l, orI]
   decide
theorem cmp_selfLO : ∀ a : List V, cmpL a a = 0
 | [] => by rw [cmpL]
 | a :: p => by rw [cmpL, cmp_selfO a, cmp_selfLO p]; rfl
end
theorem exec_loadOb {oi : Oper} {ev : Operand → Value} {w : World} {x : Operand} {b o : Nat} {cs : List Value} (ho : oi.op = .load 61 x) (hx : ev x = .pointer (some ⟨b, o, none⟩)) (hR : w.rangeAt b o cs) (hl : (Tryz.prog.info? 61).map (·.size) = some cs.length) :
 (execOp ev oi).run Tryz.prog w = .ok (.value (.agg cs.toArray)) w := by
 unfold execOp
 simp only [ho, hx, Instr.loadAt, Instr.sureAddr, Sem.run_bind, Sem.run_pure, Result.andThen_ok, run_loadVar_mid w b o 61 cs _ hR Tryz.underlying61 rfl hl]
set_option maxHeartbeats 2000000 in
theorem rosame_yes (o : Ob) (d d' : Nat) (cs qs : List Value) (w : World) (h : Lies w d o.v cs) (k : Lies w d' o.v qs) (hsz : o.v.size ≤ 100000) :
 Calls Tryz.prog 34 #[.agg (cs ++ [Value.bool o.st, Value.string o.data]).toArray, .agg (qs ++ [Value.bool o.st, Value.string o.data]).toArray] w (BoolTo true w) := by
 have HSm := qh (fun W (hP : Pure w W) => refsame_any d o.v cs d' o.v qs W (h.pure hP) (k.pure hP) hsz hsz)
 rw [decide_eq_true (cmp_selfO o.v)] at HSm
 obtain ⟨k1, n1, s1, a1, m1, c1, rfl⟩ := h.form
 obtain ⟨k2, n2, s2, a2, m2, c2, rfl⟩ := k.form
 generalize o.st = st at *
 generalize o.data = dt at *
 clear h k hsz
 simp only [List.cons_append, List.nil_append]
 go_enter Tryz.func34, Tryz.ntmps34
 obtain ⟨w2, hw2⟩ : ∃ z, z = (w.alloc (.cells #[.int .i64 k1, .int .i64 n1, .string s1, .slice a1 m1 c1, .bool st, .string dt] 61)).alloc (.cells #[.int .i64 k2, .int .i64 n2, .string s2, .slice a2 m2 c2, .bool st, .string dt] 61) := ⟨_, rfl⟩
 have HW2 : Hid ((w.alloc (.cells #[.int .i64 k1, .int .i64 n1, .string s1, .slice a1 m1 c1, .bool st, .string dt] 61)).alloc (.cells #[.int .i64 k2, .int .i64 n2, .string s2, .slice a2 m2 c2, .bool st, .string dt] 61) = w2) := qh hw2.symm
 have HP2 : Hid (Pure w w2) := qh (by rw [hw2]; exact (ext_alloc w _).pure (ext_alloc _ _))
 obtain ⟨tb, htb⟩ : ∃ z, z = w.heap.size := ⟨_, rfl⟩
 have HTb := qh htb
 have HB1 : Hid (BlockIs w2 tb [.int .i64 k1, .int .i64 n1, .string s1, .slice a1 m1 c1, .bool st, .string dt] 61) := qh (by rw [hw2, htb]; exact (BlockIs.new w _ _).alloc _)
 have HB2 : Hid (BlockIs w2 (tb + 1) [.int .i64 k2, .int .i64 n2, .string s2, .slice a2 m2 c2, .bool st, .string dt] 61) := qh (by rw [hw2, htb]; exact blk_alloc w _ _ _)
 clear hw2 htb
 go_upto_region 1 with (fail)
 rw [HW2.out, ← HTb.out]
 have x0 : w2.cell? ⟨tb, 0, none⟩ = some (.int .i64 k1) := HB1.out.cell 0
 have x1 : w2.cell? ⟨tb, 1, none⟩ = some (.int .i64 n1) := HB1.out.cell 1
 have x2 : w2.cell? ⟨tb, 2, none⟩ = some (.string s1) := HB1.out.cell 2
 have x3 : w2.cell? ⟨tb, 3, none⟩ = some (.slice a1 m1 c1) := HB1.out.cell 3
 have y0 : w2.cell? ⟨tb + 1, 0, none⟩ = some (.int .i64 k2) := HB2.out.cell 0
 have y1 : w2.cell? ⟨tb + 1, 1, none⟩ = some (.int .i64 n2) := HB2.out.cell 1
 have y2 : w2.cell? ⟨tb + 1, 2, none⟩ = some (.string s2) := HB2.out.cell 2
 have y3 : w2.cell? ⟨tb + 1, 3, none⟩ = some (.slice a2 m2 c2) := HB2.out.cell 3
 have hl1 := HB1.out.lt
 have hl2 := HB2.out.lt
 go_wp2_with fail
 refine (HSm.out w2 HP2.out).mono ?_
 rintro e w3 ⟨rfl, hP3⟩
 have hB1 := HB1.out.ext hP3 id
 have hB2 := HB2.out.ext hP3 id
 have x4 : w3.cell? ⟨tb, 4, none⟩ = some (.bool st) := hB1.cell 4
 have x5 : w3.cell? ⟨tb, 5, none⟩ = some (.string dt) := hB1.cell 5
 have y4 : w3.cell? ⟨tb + 1, 4, none⟩ = some (.bool st) := hB2.cell 4
 have y5 : w3.cell? ⟨tb + 1, 5, none⟩ = some (.string dt) := hB2.cell 5
 clear x0 x1 x2 x3 y0 y1 y2 y3 hl1 hl2 hB1 hB2
 go_wp2_with fail
 go_ret
 exact ⟨rfl, HP2.out.pure hP3⟩
set_option maxHeartbeats 4000000 in
theorem docsame_yes (l : List Ob) (d d' : Nat) (a a' : Option Addr) (c c' : Nat) (rows rows' : List (List Value)) (w : World) (h : OKids w d l a rows) (k : OKids w d' l a' rows') (hl : l.length ≤ 10000000) (hsz : ∀ o ∈ l, o.v.size ≤ 100000) :
 Calls Tryz.prog 12 #[.slice a l.length c, .slice a' l.length c'] w (BoolTo true w) := by
 obtain ⟨n, hn⟩ : ∃ z, z = l.length := ⟨_, rfl⟩
 rw [← hn] at hl ⊢
 have HN := qh hn
 have HH := qh h
 have HK := qh k
 have HSz := qh hsz
 clear hn h k hsz
 go_enter Tryz.func12, Tryz.ntmps12
 go_wp2_with fail
 go_loopw [5] (fun i W => ∃ K : Nat, K ≤ n ∧ i = .int .i64 K ∧ Hid (Pure w W)) (fun i _ => n - (intOf i).toNat)
 case atStart => exact ⟨0, Nat.zero_le _, rfl, qh (Ext.refl _ _)⟩
 case round =>
  obtain ⟨K, hkn, rfl, HE⟩ := hrel
  by_cases hlt : K < n
  ·have hki : (K : Int) < (n : Int) := by omega
   have hk0 : (0 : Int) ≤ (K : Int) := by omega
   have hkl : K < l.length := by rw [← HN.out]; exact hlt
   obtain ⟨b, o, cs, rfl, _, _, hL, hr⟩ := HH.out.at K _ (List.getElem?_eq_getElem hkl)
   obtain ⟨b', o', qs, rfl, _, _, hM, hr'⟩ := HK.out.at K _ (List.getElem?_eq_getElem hkl)
   have hus := HSz.out _ (List.getElem_mem hkl)
   obtain ⟨u, hu⟩ : ∃ z, z = l[K] := ⟨_, rfl⟩
   rw [← hu] at hL hr hM hr' hus
   have HS := qh (fun W (hP : Pure w W) => rosame_yes u d d' cs qs W (hL.pure hP) (hM.pure hP) hus)
   obtain ⟨k1, n1, s1, a1, m1, c1, rfl⟩ := hL.form
   obtain ⟨k2, n2, s2, a2, m2, c2, rfl⟩ := hM.form
   generalize u.st = st at *
   generalize u.data = dt at *
   simp only [List.cons_append, List.nil_append] at hr hr' HS
   clear hu hL hM hus hkl
   go_upto_region 6 with (fail)
   obtain ⟨wd, hwd⟩ : ∃ z, z = wr.drew := ⟨_, rfl⟩
   have hPd : Pure wr wd := by rw [hwd]; exact (Ext.refl _ wr).drew
   have HPd := qh (HE.out.pure hPd)
   have HR1 := qh (range_ext hr HPd.out)
   have HR2 := qh (range_ext hr' HPd.out)
   have HSz1 : Hid ((Tryz.prog.info? 61).map (·.size) = some ([.int .i64 k1, .int .i64 n1, .string s1, .slice a1 m1 c1, .bool st, .string dt] : List Value).length) := qh size43
   have HSz2 : Hid ((Tryz.prog.info? 61).map (·.size) = some ([.int .i64 k2, .int .i64 n2, .string s2, .slice a2 m2 c2, .bool st, .string dt] : List Value).length) := qh size43
   clear hPd hr hr'
   refine region_start (fun _ => False) (by kernel_rfl) ?_
   try simp only [Act.put, sA, sZ, sS]
   rw [← hwd]
   clear hwd
   refine region_take 0 17 (v := ?vds0) rfl rfl (by kernel_rfl) (by kernel_rfl) (by kernel_rfl) (fun _ _ _ h => h) (by rfl) (fun w' hS => ?hds0) ?rds0
   case hds0 => go_simp; with_reducible rfl
   try simp only [Act.put, sA, sZ, sS]
   refine region_take 1 18 (v := ?vds1) rfl rfl (by kernel_rfl) (by kernel_rfl) (by kernel_rfl) (fun _ _ _ h => h) (by rfl) (fun w' hS => ?hds1) ?rds1
   case hds1 => go_simp; with_reducible rfl
   try simp only [Act.put, sA, sZ, sS]
   refine region_take 2 19 (v := ?vds2) rfl rfl (by kernel_rfl) (by kernel_rfl) (by kernel_rfl) (fun _ _ _ h => h) (by rfl) (fun w' hS => ?hds2) ?rds2
   case hds2 => go_simp; with_reducible rfl
   try simp only [Act.put, sA, sZ, sS]
   refine region_take 3 20 (v := ?vds3) rfl rfl (by kernel_rfl) (by kernel_rfl) (by kernel_rfl) (fun _ _ _ h => h) (by rfl) (fun w' hS => ?hds3) ?rds3
   case hds3 => (refine exec_loadOb (x := .tmp 19) ?_ ?_ (range_ext HR1.out hS) HSz1.out <;> rfl)
   try simp only [Act.put, sA, sZ, sS]
   refine region_take 4 21 (v := ?vds4) rfl rfl (by kernel_rfl) (by kernel_rfl) (by kernel_rfl) (fun _ _ _ h => h) (by rfl) (fun w' hS => ?hds4) ?rds4
   case hds4 => go_simp; with_reducible rfl
   try simp only [Act.put, sA, sZ, sS]
   refine region_take 5 22 (v := ?vds5) rfl rfl (by kernel_rfl) (by kernel_rfl) (by kernel_rfl) (fun _ _ _ h => h) (by rfl) (fun w' hS => ?hds5) ?rds5
   case hds5 => go_simp; with_reducible rfl
   try simp only [Act.put, sA, sZ, sS]
   refine region_take 6 23 (v := ?vds6) rfl rfl (by kernel_rfl) (by kernel_rfl) (by kernel_rfl) (fun _ _ _ h => h) (by rfl) (fun w' hS => ?hds6) ?rds6
   case hds6 => go_simp; with_reducible rfl
   try simp only [Act.put, sA, sZ, sS]
   refine region_take 7 24 (v := ?vds7) rfl rfl (by kernel_rfl) (by kernel_rfl) (by kernel_rfl) (fun _ _ _ h => h) (by rfl) (fun w' hS => ?hds7) ?rds7
   case hds7 => (refine exec_loadOb (x := .tmp 23) ?_ ?_ (range_ext HR2.out hS) HSz2.out <;> rfl)
   try simp only [Act.put, sA, sZ, sS]
   refine wpAnyH_ready (rs := [8]) (by kernel_rfl) (by simp) (AllReadyH.cons rfl (fun K hK => ?_) AllReadyH.nil)
   go_simp
   refine (HS.out wd HPd.out).mono ?_
   rintro e w3 ⟨rfl, hP⟩
   have HP3 := qh (HPd.out.pure hP)
   refine hK.out _ _ (hP) (fun hHeld => ?_)
   clear hK K hHeld
   refine region_now (hP) ?_
   try simp only [Act.put, sA, sZ, sS]
   refine region_take 9 26 (v := ?vds9) rfl rfl (by kernel_rfl) (by kernel_rfl) (by kernel_rfl) (fun _ _ _ h => h) (by rfl) (fun w' hS => ?hds9) ?rds9
   case hds9 => go_simp; with_reducible rfl
   try simp only [Act.put, sA, sZ, sS]
   refine wpAnyH_done (by kernel_rfl) ?_ _
   go_simp
   try simp only [Act.put, sA, sZ, sS]
   go_wp2_with fail
   go_roundw
   case rel => exact ⟨K + 1, by omega, by go_num, HP3⟩
   case measure => simp [intOf]; omega
  ·have hki : ¬ (K : Int) < (n : Int) := by omega
   go_wp2_with fail
   go_ret
   exact ⟨rfl, HE.out⟩
