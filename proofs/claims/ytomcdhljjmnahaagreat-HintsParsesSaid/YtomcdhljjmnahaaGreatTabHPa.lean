import Derived.Test.YtomcdhljjmnahaaGreatHMemPa
import Derived.Test.YtomcdhljjmnahaaGreatLibPAPa
import Derived.Test.YtomcdhljjmnahaaGreatLibSAPa
import Derived.Test.YtomcdhljjmnahaaGreatIdxGPa
import Derived.Test.YtomcdhljjmnahaaGreatSqPa
set_option linter.unusedVariables false
set_option linter.unusedSimpArgs false
set_option maxRecDepth 100000
namespace Go.Proofs.YtomcdhljjmnahaaGreat
open Go.RowKit
structure Hd (w W : World) (tb : Nat) (cs ds : List Value) : Prop where
 b1 : BlockIs W tb cs 25
 b2 : BlockIs W (tb + 1) ds 40
 p : Pure w W
 sz : tb + 2 ≤ W.heap.size
 lo : w.heap.size = tb
theorem Hd.new (w : World) (cs ds : List Value) : Hd w ((w.alloc (.cells cs.toArray 25)).alloc (.cells ds.toArray 40)) w.heap.size cs ds := by
 have h2 := BlockIs.new (w.alloc (.cells cs.toArray 25)) ds 40
 rw [World.size_alloc] at h2
 exact ⟨(BlockIs.new w cs 25).alloc _, h2, (show Pure w (w.alloc (.cells cs.toArray 25)) from ext_alloc w _).pure (ext_alloc _ _), by rw [World.size_alloc, World.size_alloc]; omega, rfl⟩
theorem Hd.ext {S : Nat → Prop} {w W W' : World} {tb : Nat} {cs ds : List Value} (h : Hd w W tb cs ds) (e : Ext S W W') (hS : ∀ i, S i → tb + 2 ≤ i) : Hd w W' tb cs ds :=
 ⟨h.b1.ext e (fun hs => by have := hS _ hs; omega), h.b2.ext e (fun hs => by have := hS _ hs; omega), h.p.trans e (fun i hi hs => by have := hS _ hs; have := h.lo; omega), by have := e.size; have := h.sz; omega, h.lo⟩
theorem Hd.pure {w W W' : World} {tb : Nat} {cs ds : List Value} (h : Hd w W tb cs ds) (e : Pure W W') : Hd w W' tb cs ds := h.ext e (fun _ hs => hs.elim)
theorem wpList_wanted {P : Program} {ops : Array Oper} {Q : Exit → Act → World → Prop} {a : Act} {w : World} {rest : List Oper} {o : Oper} (hw : Region.wanted o (yielded ops a.tmps) = true)
 (h : ∀ K : Act → World → Prop, (∀ a w, wpList P ops Q rest a w → K a w) → o.wp P a w K Q) : wpList P ops Q (o :: rest) a w :=
 wpList_step fun K hK => by rw [if_pos hw]; exact h K hK
theorem wpList_load_h {ops : Array Oper} {Q : Exit → Act → World → Prop} {a : Act} {w : World} {rest : List Oper} {op : Oper} (hw : Region.wanted op (yielded ops a.tmps) = true) (x : Operand) (ho : op.op = .load 25 x)
 (b o : Nat) (hx : a.eval x = .pointer (some ⟨b, o, none⟩)) (cs : List Value) (hc : w.rangeAt b o cs) (hl : cs.length = 7)
 (h : wpList Tryz.prog ops Q rest (a.put op.dst (.agg cs.toArray)) w) : wpList Tryz.prog ops Q (op :: rest) a w :=
 wpList_wanted hw fun _ hK => wp_load_mid 25 x ho b o hx cs _ hc Tryz.underlying25 rfl (sz25 hl) (hK _ _ h)
theorem wpList_load_l {ops : Array Oper} {Q : Exit → Act → World → Prop} {a : Act} {w : World} {rest : List Oper} {op : Oper} (hw : Region.wanted op (yielded ops a.tmps) = true) (x : Operand) (ho : op.op = .load 40 x)
 (b o : Nat) (hx : a.eval x = .pointer (some ⟨b, o, none⟩)) (cs : List Value) (hc : w.rangeAt b o cs) (hl : cs.length = 7)
 (h : wpList Tryz.prog ops Q rest (a.put op.dst (.agg cs.toArray)) w) : wpList Tryz.prog ops Q (op :: rest) a w :=
 wpList_wanted hw fun _ hK => wp_load_mid 40 x ho b o hx cs _ hc Tryz.underlying40 rfl (sz27 hl) (hK _ _ h)
theorem sizeTb : (Tryz.prog.info? 64).map (·.size) = some 4 := by kernel_rfl
theorem one4 (a b c : Int) (la : Option Addr) (n m : Nat) : ((#[Value.int .i64 a, .int .i64 b, .int .i64 c, .slice la n m] : Array Value).all fun u => u.oneCell') = true := all_oneCell_toArray (by intro u hu; simp only [List.mem_cons, List.not_mem_nil, or_false] at hu; rcases hu with rfl | rfl | rfl | rfl <;> rfl)
theorem shared_any (h : HT) (pa la : Option Addr) (pc lc : Nat) (w : World) :
 Calls Tryz.prog 22 #[.agg (hC h pa pc la lc).toArray] w fun e w' => e = .returned (S27.tblV h.so h.sa h.sf la h.sh.length lc) ∧ Pure w w' := by
 obtain ⟨fo, fa, ps, so, sa, sf, sh⟩ := h
 unfold hC S27.tblV
 simp only
 generalize ps.length = pn
 generalize sh.length = sn
 go_enter Tryz.func22, Tryz.ntmps22
 go_wp2_with fail
 refine bodyPost_ret (v := .agg #[.int .i64 so, .int .i64 sa, .int .i64 sf, .slice la sn lc]) (by simp [results, Tryz.results22, go_sem]) rfl ⟨rfl, ?_⟩
 repeat (first | exact Ext.refl _ _ | refine Ext.setCell ?_ (fun e => by simp at e) _ | refine Ext.alloc ?_ _)
set_option maxHeartbeats 2000000 in
theorem tables_any (h : HT) (l : LT) (pa la : Option Addr) (pc lc : Nat) (w : World) (H : HMem w h pa pc la lc) (hm : P26.Mod2 h.ps) :
 Calls Tryz.prog 31 #[.agg (hC h pa pc la lc).toArray, .agg (lC l).toArray] w (BoolTo (tablesP h l) w) := by
 obtain ⟨F, hF⟩ : ∃ F, F = tablesP h l := ⟨_, rfl⟩
 rw [← hF]
 unfold tablesP at hF
 have HC1 := qh (fun W (hP : Pure w W) => P26.check_big h.fa pa pc h.ps W ((H.pure hP).pages) hm)
 have HC2 := qh (fun W (hP : Pure w W) => S27.check_any h.so h.sa h.sf la lc h.sh W ((H.pure hP).share) (by have := H.sn; omega))
 have HSh := qh (fun W => shared_any h pa la pc lc W)
 obtain ⟨cs, hcs⟩ : ∃ z, z = hC h pa pc la lc := ⟨_, rfl⟩
 obtain ⟨ds, hds⟩ : ∃ z, z = lC l := ⟨_, rfl⟩
 have HL7 : Hid (cs.length = 7) := qh (by rw [hcs]; rfl)
 have HM7 : Hid (ds.length = 7) := qh (by rw [hds]; rfl)
 have HCs := qh hcs
 have HDs := qh hds
 rw [← hcs, ← hds]
 have hD0 := Hd.new w cs ds
 obtain ⟨w2, hw2⟩ : ∃ z, z = ((w.alloc (.cells cs.toArray 25)).alloc (.cells ds.toArray 40)) := ⟨_, rfl⟩
 obtain ⟨tb, htb⟩ : ∃ z, z = w.heap.size := ⟨_, rfl⟩
 rw [← hw2, ← htb] at hD0
 have HW : Hid (((w.alloc (.cells cs.toArray 25)).alloc (.cells ds.toArray 40)) = w2) := qh hw2.symm
 have HTb := qh htb
 have HD := qh hD0
 have r0 : ((w.alloc (.cells cs.toArray 25)).alloc (.cells ds.toArray 40)).cell? ⟨w.heap.size, 0, none⟩ = some (.int .i64 h.fo) := by rw [HW.out, ← htb, hD0.b1.cell 0, hcs]; rfl
 have r1 : ((w.alloc (.cells cs.toArray 25)).alloc (.cells ds.toArray 40)).cell? ⟨w.heap.size, 1, none⟩ = some (.int .i64 h.fa) := by rw [HW.out, ← htb, hD0.b1.cell 1, hcs]; rfl
 have r2 : ((w.alloc (.cells cs.toArray 25)).alloc (.cells ds.toArray 40)).cell? ⟨w.heap.size, 2, none⟩ = some (.slice pa h.ps.length pc) := by rw [HW.out, ← htb, hD0.b1.cell 2, hcs]; rfl
 have s3 : ((w.alloc (.cells cs.toArray 25)).alloc (.cells ds.toArray 40)).cell? ⟨w.heap.size + 1, 3, none⟩ = some (.int .i64 l.fo) := by rw [HW.out, ← htb, hD0.b2.cell 3, hds]; rfl
 have s5 : ((w.alloc (.cells cs.toArray 25)).alloc (.cells ds.toArray 40)).cell? ⟨w.heap.size + 1, 5, none⟩ = some (.int .i64 l.pg) := by rw [HW.out, ← htb, hD0.b2.cell 5, hds]; rfl
 clear hcs hds hw2 htb hD0
 rw [← HCs.out] at HSh
 have HRh : Hid (w2.rangeAt tb 0 cs) := qh HD.out.b1.range
 clear H hm
 generalize h.ps.length = pn at *
 generalize h.fo = a1 at *
 generalize l.fo = a2 at *
 generalize l.pg = pg at *
 by_cases h1 : a1 = a2
 case neg =>
  have e1 : (a1 == a2) = false := by simpa using h1
  have HFr : Hid (F = false) := qh (by rw [hF, e1]; rfl)
  clear hF h1 HCs HDs
  go_enter Tryz.func31, Tryz.ntmps31
  go_wp2_with fail
  rw [HW.out]
  go_ret
  exact ⟨by rw [HFr.out]; rfl, HD.out.p⟩
 subst h1
 by_cases h2 : (pn : Int) = pg
 case neg =>
  have e2 : ((pn : Int) == pg) = false := by simpa using h2
  have HFr : Hid (F = false) := qh (by rw [hF, decide_eq_false h2]; simp)
  clear hF h2 HCs HDs
  go_enter Tryz.func31, Tryz.ntmps31
  go_wp2_with fail
  rw [HW.out]
  go_ret
  exact ⟨by rw [HFr.out]; rfl, HD.out.p⟩
 subst h2
 have hF2 : F = (decide (P26.chk h.fa h.ps = 0) && S27.okT h.so h.sa h.sf h.sh) := by rw [hF]; simp
 clear hF HCs HDs
 generalize P26.chk h.fa h.ps = er at *
 generalize S27.okT h.so h.sa h.sf h.sh = ok at *
 generalize h.fa = fa at *
 by_cases h3 : er = 0
 case neg =>
  have e3 : (er == 0) = false := by simpa using h3
  have HFr : Hid (F = false) := qh (by rw [hF2, decide_eq_false h3]; rfl)
  clear hF2 h3
  go_enter Tryz.func31, Tryz.ntmps31
  go_wp2_with fail
  rw [HW.out]
  refine (HC1.out w2 HD.out.p).mono ?_
  rintro e w3 ⟨rfl, hP3⟩
  go_wp2_with fail
  go_ret
  exact ⟨by rw [HFr.out]; rfl, HD.out.p.pure hP3⟩
 subst h3
 have HFr : Hid (F = ok) := qh (by rw [hF2]; simp)
 clear hF2
 go_enter Tryz.func31, Tryz.ntmps31
 go_wp2_with fail
 rw [HW.out, ← HTb.out]
 refine (HC1.out w2 HD.out.p).mono ?_
 rintro e w3 ⟨rfl, hP3⟩
 have HD := qh (HD.out.pure hP3)
 have HRh : Hid (w3.rangeAt tb 0 cs) := qh HD.out.b1.range
 clear hP3
 go_wp2_with (with_reducible refine V11.at_load 25 (.tmp 2) ?_; refine wpList_load_h rfl (.tmp 2) rfl tb 0 rfl cs HRh.out HL7.out ?_)
 refine (HSh.out w3).mono ?_
 rintro e w4 ⟨rfl, hP4⟩
 have HD := qh (HD.out.pure hP4)
 clear hP4
 go_wp2_with fail
 refine (HC2.out w4 HD.out.p).mono ?_
 rintro e w5 ⟨rfl, hP5⟩
 have HD := qh (HD.out.pure hP5)
 clear hP5
 cases ok with
 | true =>
   go_wp2_with fail
   go_ret
   exact ⟨by rw [HFr.out]; rfl, HD.out.p⟩
 | false =>
   go_wp2_with fail
   go_ret
   exact ⟨by rw [HFr.out]; rfl, HD.out.p⟩
