import Derived.Test.YtomcdhljjmnahaaGreatParPlPa
import Derived.Test.YtomcdhljjmnahaaGreatChkHPa
import Derived.Test.YtomcdhljjmnahaaGreatSqPa
set_option linter.unusedVariables false
set_option linter.unusedSimpArgs false
set_option maxRecDepth 100000
namespace Go.Proofs.YtomcdhljjmnahaaGreat
open Go.RowKit
theorem one7 (a b c d e : Int) (p q : Option Addr) (m n u v : Nat) : ((#[Value.int .i64 a, .int .i64 b, .slice p m n, .int .i64 c, .int .i64 d, .int .i64 e, .slice q u v] : Array Value).all fun u => u.oneCell') = true := all_oneCell_toArray (by intro u hu; simp only [List.mem_cons, List.not_mem_nil, or_false] at hu; rcases hu with rfl | rfl | rfl | rfl | rfl | rfl | rfl <;> rfl)
structure Hp (w W : World) (tb : Nat) (os ds : List Value) : Prop where
 b1 : BlockIs W tb os 32
 b2 : BlockIs W (tb + 1) ds 40
 b3 : BlockIs W (tb + 2) [.int .i64 0, .int .i64 0, .slice none 0 0, .int .i64 0, .int .i64 0, .int .i64 0, .slice none 0 0] 25
 p : Pure w W
 sz : tb + 3 ≤ W.heap.size
 lo : w.heap.size = tb
theorem Hp.new (w : World) (os ds : List Value) : Hp w (((w.alloc (.cells os.toArray 32)).alloc (.cells ds.toArray 40)).alloc (.cells #[.int .i64 0, .int .i64 0, .slice none 0 0, .int .i64 0, .int .i64 0, .int .i64 0, .slice none 0 0] 25)) w.heap.size os ds := by
 have h2 := BlockIs.new (w.alloc (.cells os.toArray 32)) ds 40
 rw [World.size_alloc] at h2
 have h3 := BlockIs.new ((w.alloc (.cells os.toArray 32)).alloc (.cells ds.toArray 40)) [.int .i64 0, .int .i64 0, .slice none 0 0, .int .i64 0, .int .i64 0, .int .i64 0, .slice none 0 0] 25
 rw [World.size_alloc, World.size_alloc] at h3
 exact ⟨((BlockIs.new w os 32).alloc _).alloc _, h2.alloc _, h3, ((show Pure w (w.alloc (.cells os.toArray 32)) from ext_alloc w _).pure (ext_alloc _ _)).pure (ext_alloc _ _), by rw [World.size_alloc, World.size_alloc, World.size_alloc]; omega, rfl⟩
theorem Hp.pure {w W W' : World} {tb : Nat} {os ds : List Value} (h : Hp w W tb os ds) (e : Pure W W') : Hp w W' tb os ds :=
 ⟨h.b1.ext e id, h.b2.ext e id, h.b3.ext e id, h.p.pure e, by have := e.size; have := h.sz; omega, h.lo⟩
def ParTo (o : Ob) (l : LT) (w : World) (e : Ending) (w' : World) : Prop := ∃ (h : HT) (pa : Option Addr) (pc : Nat) (la : Option Addr) (lc : Nat) (er : Int), e = .returned (.tuple #[.agg (hC h pa pc la lc).toArray, .int .i64 er]) ∧ ParP o l h er ∧ HMem w' h pa pc la lc ∧ Pure w w'
set_option maxHeartbeats 8000000 in
theorem parse_any (d0 : Nat) (o : Ob) (os : List Value) (l : LT) (w : World) (hO : ObjIs w (d0 + 1) o os) (hvl : o.v.l.length ≤ 1000000) (hdl : o.data.size ≤ 1000000) :
 Calls Tryz.prog 14 #[.agg os.toArray, .agg (lC l).toArray] w (ParTo o l w) := by
 obtain ⟨vs, hos, hL⟩ := hO
 have HGt := qh (fun W (hP : Pure w W) => V11.get_any d0 o.v vs ⟨#[83]⟩ W (hL.pure hP) hvl)
 have hvs := hL.len
 have HO6 : Hid (os.length = 6) := qh (by rw [hos, List.length_append, hvs]; rfl)
 have ho4 : os[4]? = some (.bool o.st) := by rw [hos, List.getElem?_append_right (by omega), hvs]; rfl
 have ho5 : os[5]? = some (.string o.data) := by rw [hos, List.getElem?_append_right (by omega), hvs]; rfl
 obtain ⟨ds, hds⟩ : ∃ z, z = lC l := ⟨_, rfl⟩
 have HM7 : Hid (ds.length = 7) := qh (by rw [hds]; rfl)
 have hd5 : ds[5]? = some (.int .i64 l.pg) := by rw [hds]; rfl
 have hd3 : ds[3]? = some (.int .i64 l.fo) := by rw [hds]; rfl
 have HDs := qh hds
 rw [← hds]
 have hS0 := Hp.new w os ds
 obtain ⟨w2, hw2⟩ : ∃ z, z = (((w.alloc (.cells os.toArray 32)).alloc (.cells ds.toArray 40)).alloc (.cells #[.int .i64 0, .int .i64 0, .slice none 0 0, .int .i64 0, .int .i64 0, .int .i64 0, .slice none 0 0] 25)) := ⟨_, rfl⟩
 obtain ⟨tb, htb⟩ : ∃ z, z = w.heap.size := ⟨_, rfl⟩
 rw [← hw2, ← htb] at hS0
 have HW : Hid ((((w.alloc (.cells os.toArray 32)).alloc (.cells ds.toArray 40)).alloc (.cells #[.int .i64 0, .int .i64 0, .slice none 0 0, .int .i64 0, .int .i64 0, .int .i64 0, .slice none 0 0] 25)) = w2) := qh hw2.symm
 have HTb := qh htb
 have HS := qh hS0
 have HO4 := qh ho4
 have HO5 := qh ho5
 have HD5 := qh hd5
 have HD3 := qh hd3
 have hRv : (((w.alloc (.cells os.toArray 32)).alloc (.cells ds.toArray 40)).alloc (.cells #[.int .i64 0, .int .i64 0, .slice none 0 0, .int .i64 0, .int .i64 0, .int .i64 0, .slice none 0 0] 25)).rangeAt w.heap.size 0 vs := by
  rw [HW.out, ← HTb.out]
  intro j v hv
  have hj : j < 4 := by have := (List.getElem?_eq_some_iff.1 hv).1; omega
  rw [Nat.zero_add, HS.out.b1.cell j, hos, List.getElem?_append_left (by omega)]
  exact hv
 have HRv := qh hRv
 have HVs := qh hvs
 obtain ⟨dat, hdat⟩ : ∃ z, z = o.data := ⟨_, rfl⟩
 obtain ⟨st, hst⟩ : ∃ z, z = o.st := ⟨_, rfl⟩
 obtain ⟨G, hG⟩ : ∃ z, z = o.v.get ⟨#[83]⟩ := ⟨_, rfl⟩
 rw [← hdat] at hdl HO5
 rw [← hst] at HO4
 rw [← hG] at HGt
 have HDat := qh hdat
 have HSt := qh hst
 have HG : Hid (G = o.v.get keyS) := qh hG
 have HDl := qh hdl
 clear hds hS0 hw2 htb ho4 ho5 hd5 hd3 hRv hvs hdat hst hG hos hL hdl hvl
 have hpg : ∃ z, z = l.pg := ⟨_, rfl⟩
 obtain ⟨pg, hpg⟩ := hpg
 have HPg := qh hpg
 rw [← hpg] at HD5
 clear hpg
 obtain ⟨lfo, hfo⟩ : ∃ z, z = l.fo := ⟨_, rfl⟩
 have HFo := qh hfo
 rw [← hfo] at HD3
 clear hfo
 go_enter Tryz.func14, Tryz.ntmps14
 go_wp2_with (with_reducible refine V11.at_load 30 (.tmp 16) ?_; refine wpList_load_mid rfl 30 (.tmp 16) rfl w.heap.size 0 rfl vs _ HRv.out Tryz.underlying30 rfl (by rw [HVs.out]; exact V11.size24) ?_)
 rw [HW.out, ← HTb.out]
 refine (HGt.out w2 HS.out.p).mono ?_
 rintro e w3 ⟨ts, rfl, hLt, hP3⟩
 have HS := qh (HS.out.pure hP3)
 obtain ⟨a4, c4, _, rfl, -⟩ := hLt.kids
 obtain ⟨G1, G2⟩ := G
 simp only at hLt ⊢
 obtain ⟨l4, hl4⟩ : ∃ z, z = G1.l.length := ⟨_, rfl⟩
 obtain ⟨k4, hk4⟩ : ∃ z, z = G1.kind := ⟨_, rfl⟩
 obtain ⟨n4, hn4⟩ : ∃ z, z = G1.n := ⟨_, rfl⟩
 obtain ⟨s4, hs4⟩ : ∃ z, z = G1.s := ⟨_, rfl⟩
 rw [← hl4, ← hk4, ← hn4, ← hs4]
 have HK4 := qh hk4
 have HN4 := qh hn4
 clear hLt hl4 hk4 hn4 hs4 HGt HRv hP3
 obtain ⟨w5, hw5⟩ : ∃ z, z = (w3.alloc (.cells #[.int .i64 0, .int .i64 0, .string ⟨#[]⟩, .slice none 0 0] 30)).setCells w3.heap.size 0 (#[.int .i64 k4, .int .i64 n4, .string s4, .slice a4 l4 c4] : Array Value).toList := ⟨_, rfl⟩
 have hPs : Pure w3 w5 := hw5 ▸ (Ext.setCells _ 0 _ (ext_alloc w3 _) (b := w3.heap.size) (fun h => by omega))
 have hBt : BlockIs w5 w3.heap.size [.int .i64 k4, .int .i64 n4, .string s4, .slice a4 l4 c4] 30 := hw5 ▸ (BlockIs.new w3 [.int .i64 0, .int .i64 0, .string ⟨#[]⟩, .slice none 0 0] 30).setAll [.int .i64 k4, .int .i64 n4, .string s4, .slice a4 l4 c4] rfl
 have HTh : Hid ((w3.alloc (.cells #[.int .i64 0, .int .i64 0, .string ⟨#[]⟩, .slice none 0 0] 30)).there w3.heap.size 0 (#[.int .i64 k4, .int .i64 n4, .string s4, .slice a4 l4 c4] : Array Value).size) := qh (BlockIs.there (BlockIs.new w3 [.int .i64 0, .int .i64 0, .string ⟨#[]⟩, .slice none 0 0] 30) 4 rfl)
 have HSi : Hid ((Tryz.prog.info? 30).map (·.size) = some (#[.int .i64 k4, .int .i64 n4, .string s4, .slice a4 l4 c4] : Array Value).size) := qh V11.size24
 have HOn : Hid (((#[.int .i64 k4, .int .i64 n4, .string s4, .slice a4 l4 c4] : Array Value).all fun u => u.oneCell') = true) := qh (all_oneCell_toArray (by intro u hu; simp only [List.mem_cons, List.not_mem_nil, or_false] at hu; rcases hu with rfl | rfl | rfl | rfl <;> rfl))
 have HW5 := qh hw5.symm
 have HS := qh (HS.out.pure hPs)
 obtain ⟨sb, hsb⟩ : ∃ z, z = w3.heap.size := ⟨_, rfl⟩
 have HSb := qh hsb
 rw [← hsb] at hBt
 clear hw5 hPs hsb
 have e1 : w5.cell? ⟨tb, 4, none⟩ = some (.bool st) := by rw [HS.out.b1.cell 4]; exact HO4.out
 have e2 : w5.cell? ⟨tb, 5, none⟩ = some (.string dat) := by rw [HS.out.b1.cell 5]; exact HO5.out
 have e3 : w5.cell? ⟨sb, 1, none⟩ = some (.int .i64 n4) := hBt.cell 1
 have e4 : w5.cell? ⟨sb, 0, none⟩ = some (.int .i64 k4) := hBt.cell 0
 have e5 : w5.cell? ⟨tb + 1, 5, none⟩ = some (.int .i64 pg) := by rw [HS.out.b2.cell 5]; exact HD5.out
 rw [HSb.out] at e3 e4
 have HNot : Hid (¬ (st = true ∧ k4 = 2 ∧ 0 ≤ n4 ∧ n4 ≤ dat.size) → ParP o l zeroH 27) := qh (fun hn => Or.inl ⟨fun hp => hn (by
  unfold parOk parN at hp
  rw [← HG.out] at hp
  rw [HSt.out, HK4.out, HN4.out, HDat.out]
  exact hp), rfl, rfl⟩)
 have hst1 : st = true ∨ st = false := by cases st <;> simp
 rcases hst1 with hst1 | hst1
 case inr =>
  subst hst1
  have HPar := qh (HNot.out (fun h => by cases h.1))
  have HThz : Hid (w5.there (tb + 2) 0 (#[.int .i64 0, .int .i64 0, .slice none 0 0, .int .i64 0, .int .i64 0, .int .i64 0, .slice none 0 0] : Array Value).size) := qh (HS.out.b3.there 7 rfl)
  have HSiz : Hid ((Tryz.prog.info? 25).map (·.size) = some (#[.int .i64 0, .int .i64 0, .slice none 0 0, .int .i64 0, .int .i64 0, .int .i64 0, .slice none 0 0] : Array Value).size) := qh size25
  have HP8 : Hid (Pure w (w5.setCells (tb + 2) 0 [.int .i64 0, .int .i64 0, .slice none 0 0, .int .i64 0, .int .i64 0, .int .i64 0, .slice none 0 0])) := qh (Ext.setCells _ 0 w5 HS.out.p (b := tb + 2) (fun h => by have := HS.out.lo; omega))
  have HB9 : Hid (BlockIs (w5.setCells (tb + 2) 0 [.int .i64 0, .int .i64 0, .slice none 0 0, .int .i64 0, .int .i64 0, .int .i64 0, .slice none 0 0]) (tb + 2) [.int .i64 0, .int .i64 0, .slice none 0 0, .int .i64 0, .int .i64 0, .int .i64 0, .slice none 0 0] 25) := qh (HS.out.b3.setAll [.int .i64 0, .int .i64 0, .slice none 0 0, .int .i64 0, .int .i64 0, .int .i64 0, .slice none 0 0] rfl)
  clear HNot e2 e3 e4 e5
  go_wp2_with (first
   | (with_reducible refine V11.at_store 30 (.tmp 6) (.tmp 19) ?_; refine wpList_store_mid rfl 30 (.tmp 6) (.tmp 19) rfl w3.heap.size 0 #[.int .i64 k4, .int .i64 n4, .string s4, .slice a4 l4 c4] rfl rfl HTh.out HSi.out HOn.out ?_; rw [HW5.out])
   | (with_reducible refine V11.at_store 25 (.tmp 4) (.tmp 42) ?_; refine wpList_store_mid rfl 25 (.tmp 4) (.tmp 42) rfl (tb + 2) 0 #[.int .i64 0, .int .i64 0, .slice none 0 0, .int .i64 0, .int .i64 0, .int .i64 0, .slice none 0 0] rfl rfl HThz.out HSiz.out (one7 _ _ _ _ _ _ _ _ _ _ _) ?_))
  refine bodyPost_ret (V11.results_row2 rfl _ _ (tb + 2) _ [.int .i64 0, .int .i64 0, .slice none 0 0, .int .i64 0, .int .i64 0, .int .i64 0, .slice none 0 0] _ rfl HB9.out Tryz.underlying25 rfl size25) rfl ?_
  exact ⟨zeroH, none, 0, none, 0, 27, rfl, HPar.out, zero_mem _, HP8.out⟩
 subst hst1
 by_cases hk : k4 = 2
 case neg =>
  have hk1 : (k4 != 2) = true := by simpa using hk
  have HPar := qh (HNot.out (fun h => hk h.2.1))
  have HThz : Hid (w5.there (tb + 2) 0 (#[.int .i64 0, .int .i64 0, .slice none 0 0, .int .i64 0, .int .i64 0, .int .i64 0, .slice none 0 0] : Array Value).size) := qh (HS.out.b3.there 7 rfl)
  have HSiz : Hid ((Tryz.prog.info? 25).map (·.size) = some (#[.int .i64 0, .int .i64 0, .slice none 0 0, .int .i64 0, .int .i64 0, .int .i64 0, .slice none 0 0] : Array Value).size) := qh size25
  have HP8 : Hid (Pure w (w5.setCells (tb + 2) 0 [.int .i64 0, .int .i64 0, .slice none 0 0, .int .i64 0, .int .i64 0, .int .i64 0, .slice none 0 0])) := qh (Ext.setCells _ 0 w5 HS.out.p (b := tb + 2) (fun h => by have := HS.out.lo; omega))
  have HB9 : Hid (BlockIs (w5.setCells (tb + 2) 0 [.int .i64 0, .int .i64 0, .slice none 0 0, .int .i64 0, .int .i64 0, .int .i64 0, .slice none 0 0]) (tb + 2) [.int .i64 0, .int .i64 0, .slice none 0 0, .int .i64 0, .int .i64 0, .int .i64 0, .slice none 0 0] 25) := qh (HS.out.b3.setAll [.int .i64 0, .int .i64 0, .slice none 0 0, .int .i64 0, .int .i64 0, .int .i64 0, .slice none 0 0] rfl)
  clear HNot e2 e3 e5 hk
  go_wp2_with (first
   | (with_reducible refine V11.at_store 30 (.tmp 6) (.tmp 19) ?_; refine wpList_store_mid rfl 30 (.tmp 6) (.tmp 19) rfl w3.heap.size 0 #[.int .i64 k4, .int .i64 n4, .string s4, .slice a4 l4 c4] rfl rfl HTh.out HSi.out HOn.out ?_; rw [HW5.out])
   | (with_reducible refine V11.at_store 25 (.tmp 4) (.tmp 42) ?_; refine wpList_store_mid rfl 25 (.tmp 4) (.tmp 42) rfl (tb + 2) 0 #[.int .i64 0, .int .i64 0, .slice none 0 0, .int .i64 0, .int .i64 0, .int .i64 0, .slice none 0 0] rfl rfl HThz.out HSiz.out (one7 _ _ _ _ _ _ _ _ _ _ _) ?_))
  refine bodyPost_ret (V11.results_row2 rfl _ _ (tb + 2) _ [.int .i64 0, .int .i64 0, .slice none 0 0, .int .i64 0, .int .i64 0, .int .i64 0, .slice none 0 0] _ rfl HB9.out Tryz.underlying25 rfl size25) rfl ?_
  exact ⟨zeroH, none, 0, none, 0, 27, rfl, HPar.out, zero_mem _, HP8.out⟩
 have hk1 : (k4 != 2) = false := by simp [hk]
 have HK2 := qh hk
 clear hk
 by_cases hn0 : n4 < 0
 case pos =>
  have HPar := qh (HNot.out (fun h => by have := h.2.2.1; omega))
  have HThz : Hid (w5.there (tb + 2) 0 (#[.int .i64 0, .int .i64 0, .slice none 0 0, .int .i64 0, .int .i64 0, .int .i64 0, .slice none 0 0] : Array Value).size) := qh (HS.out.b3.there 7 rfl)
  have HSiz : Hid ((Tryz.prog.info? 25).map (·.size) = some (#[.int .i64 0, .int .i64 0, .slice none 0 0, .int .i64 0, .int .i64 0, .int .i64 0, .slice none 0 0] : Array Value).size) := qh size25
  have HP8 : Hid (Pure w (w5.setCells (tb + 2) 0 [.int .i64 0, .int .i64 0, .slice none 0 0, .int .i64 0, .int .i64 0, .int .i64 0, .slice none 0 0])) := qh (Ext.setCells _ 0 w5 HS.out.p (b := tb + 2) (fun h => by have := HS.out.lo; omega))
  have HB9 : Hid (BlockIs (w5.setCells (tb + 2) 0 [.int .i64 0, .int .i64 0, .slice none 0 0, .int .i64 0, .int .i64 0, .int .i64 0, .slice none 0 0]) (tb + 2) [.int .i64 0, .int .i64 0, .slice none 0 0, .int .i64 0, .int .i64 0, .int .i64 0, .slice none 0 0] 25) := qh (HS.out.b3.setAll [.int .i64 0, .int .i64 0, .slice none 0 0, .int .i64 0, .int .i64 0, .int .i64 0, .slice none 0 0] rfl)
  clear HNot e2 e5
  go_wp2_with (first
   | (with_reducible refine V11.at_store 30 (.tmp 6) (.tmp 19) ?_; refine wpList_store_mid rfl 30 (.tmp 6) (.tmp 19) rfl w3.heap.size 0 #[.int .i64 k4, .int .i64 n4, .string s4, .slice a4 l4 c4] rfl rfl HTh.out HSi.out HOn.out ?_; rw [HW5.out])
   | (with_reducible refine V11.at_store 25 (.tmp 4) (.tmp 42) ?_; refine wpList_store_mid rfl 25 (.tmp 4) (.tmp 42) rfl (tb + 2) 0 #[.int .i64 0, .int .i64 0, .slice none 0 0, .int .i64 0, .int .i64 0, .int .i64 0, .slice none 0 0] rfl rfl HThz.out HSiz.out (one7 _ _ _ _ _ _ _ _ _ _ _) ?_))
  refine bodyPost_ret (V11.results_row2 rfl _ _ (tb + 2) _ [.int .i64 0, .int .i64 0, .slice none 0 0, .int .i64 0, .int .i64 0, .int .i64 0, .slice none 0 0] _ rfl HB9.out Tryz.underlying25 rfl size25) rfl ?_
  exact ⟨zeroH, none, 0, none, 0, 27, rfl, HPar.out, zero_mem _, HP8.out⟩
 by_cases hnb : (dat.size : Int) < n4
 case pos =>
  have hn1 : decide (n4 < 0) = false := decide_eq_false hn0
  have HPar := qh (HNot.out (fun h => by have := h.2.2.2; omega))
  have HThz : Hid (w5.there (tb + 2) 0 (#[.int .i64 0, .int .i64 0, .slice none 0 0, .int .i64 0, .int .i64 0, .int .i64 0, .slice none 0 0] : Array Value).size) := qh (HS.out.b3.there 7 rfl)
  have HSiz : Hid ((Tryz.prog.info? 25).map (·.size) = some (#[.int .i64 0, .int .i64 0, .slice none 0 0, .int .i64 0, .int .i64 0, .int .i64 0, .slice none 0 0] : Array Value).size) := qh size25
  have HP8 : Hid (Pure w (w5.setCells (tb + 2) 0 [.int .i64 0, .int .i64 0, .slice none 0 0, .int .i64 0, .int .i64 0, .int .i64 0, .slice none 0 0])) := qh (Ext.setCells _ 0 w5 HS.out.p (b := tb + 2) (fun h => by have := HS.out.lo; omega))
  have HB9 : Hid (BlockIs (w5.setCells (tb + 2) 0 [.int .i64 0, .int .i64 0, .slice none 0 0, .int .i64 0, .int .i64 0, .int .i64 0, .slice none 0 0]) (tb + 2) [.int .i64 0, .int .i64 0, .slice none 0 0, .int .i64 0, .int .i64 0, .int .i64 0, .slice none 0 0] 25) := qh (HS.out.b3.setAll [.int .i64 0, .int .i64 0, .slice none 0 0, .int .i64 0, .int .i64 0, .int .i64 0, .slice none 0 0] rfl)
  clear HNot e5
  go_wp2_with (first
   | (with_reducible refine V11.at_store 30 (.tmp 6) (.tmp 19) ?_; refine wpList_store_mid rfl 30 (.tmp 6) (.tmp 19) rfl w3.heap.size 0 #[.int .i64 k4, .int .i64 n4, .string s4, .slice a4 l4 c4] rfl rfl HTh.out HSi.out HOn.out ?_; rw [HW5.out])
   | (with_reducible refine V11.at_store 25 (.tmp 4) (.tmp 42) ?_; refine wpList_store_mid rfl 25 (.tmp 4) (.tmp 42) rfl (tb + 2) 0 #[.int .i64 0, .int .i64 0, .slice none 0 0, .int .i64 0, .int .i64 0, .int .i64 0, .slice none 0 0] rfl rfl HThz.out HSiz.out (one7 _ _ _ _ _ _ _ _ _ _ _) ?_))
  refine bodyPost_ret (V11.results_row2 rfl _ _ (tb + 2) _ [.int .i64 0, .int .i64 0, .slice none 0 0, .int .i64 0, .int .i64 0, .int .i64 0, .slice none 0 0] _ rfl HB9.out Tryz.underlying25 rfl size25) rfl ?_
  exact ⟨zeroH, none, 0, none, 0, 27, rfl, HPar.out, zero_mem _, HP8.out⟩
 have hn1 : decide (n4 < 0) = false := decide_eq_false hn0
 have hn2 : decide ((dat.size : Int) < n4) = false := decide_eq_false hnb
 obtain ⟨n5, rfl⟩ : ∃ n5 : Nat, n4 = (n5 : Int) := ⟨n4.toNat, by omega⟩
 have HPk : Hid (parOk o) := qh (by
  unfold parOk parN
  rw [← HG.out]
  exact ⟨HSt.out.symm, by rw [← HK4.out]; exact HK2.out, by show 0 ≤ G1.n; rw [← HN4.out]; omega, by show G1.n ≤ _; rw [← HN4.out, ← HDat.out]; omega⟩)
 have HPn : Hid (parN o = (n5 : Int)) := qh (by unfold parN; rw [← HG.out]; exact HN4.out.symm)
 obtain ⟨X1, hX1⟩ : ∃ z, z = dat.extract 0 n5 := ⟨_, rfl⟩
 have HXe : Hid (dat.extract 0 n5 = X1) := qh hX1.symm
 obtain ⟨X2, hX2⟩ : ∃ z, z = dat.extract n5 dat.size := ⟨_, rfl⟩
 have HXf : Hid (dat.extract n5 dat.size = X2) := qh hX2.symm
 obtain ⟨B1, hB1⟩ : ∃ z, z = X1.data.toList := ⟨_, rfl⟩
 have HB1 := qh hB1
 have hnd : n5 ≤ dat.size := by omega
 have HNd := qh hnd
 have HBl : Hid (B1.length = X1.size) := qh (by rw [hB1, Array.length_toList]; rfl)
 have HBs : Hid (B1.length ≤ 5000000) := qh (by rw [HBl.out, hX1, ByteArray.size_extract]; have := HDl.out; omega)
 have HX1 : Hid (b1 o = B1) := qh (by unfold b1; rw [HPn.out, ← HDat.out, hB1, hX1]; rfl)
 obtain ⟨B2, hB2⟩ : ∃ z, z = X2.data.toList := ⟨_, rfl⟩
 have HB2 := qh hB2
 have HBl2 : Hid (B2.length = X2.size) := qh (by rw [hB2, Array.length_toList]; rfl)
 have HBs2 : Hid (B2.length ≤ 10000000) := qh (by rw [HBl2.out, hX2, ByteArray.size_extract]; have := HDl.out; omega)
 have HX2 : Hid (b2 o = B2) := qh (by unfold b2; rw [HPn.out, ← HDat.out, hB2, hX2]; rfl)
 clear HNot hB1 hB2 hnd hX1 hX2
 go_wp2_with (with_reducible refine V11.at_store 30 (.tmp 6) (.tmp 19) ?_; refine wpList_store_mid rfl 30 (.tmp 6) (.tmp 19) rfl w3.heap.size 0 #[.int .i64 k4, .int .i64 (n5 : Int), .string s4, .slice a4 l4 c4] rfl rfl HTh.out HSi.out HOn.out ?_; rw [HW5.out])
 have hBt := hBt.drew
 have HS : Hid (Hp w w5.drew tb os ds) := qh (HS.out.pure (Ext.refl (fun _ => False) w5).drew)
 have e2 : w5.drew.cell? ⟨tb, 5, none⟩ = some (.string dat) := e2
 have e3 : w5.drew.cell? ⟨w3.heap.size, 1, none⟩ = some (.int .i64 (n5 : Int)) := e3
 have e5 : w5.drew.cell? ⟨tb + 1, 5, none⟩ = some (.int .i64 pg) := e5
 refine region_start (fun _ => False) (by kernel_rfl) ?_
 try simp only [Act.put, sA, sZ, sS]
 refine region_take 0 44 (v := ?vpa0) rfl rfl (by kernel_rfl) (by kernel_rfl) (by kernel_rfl) (fun _ _ _ h => h) (by rfl) (fun w' hS => ?hpa0) ?rpa0
 case hpa0 => go_simp; with_reducible rfl
 try simp only [Act.put, sA, sZ, sS]
 refine region_take 1 45 (v := ?vpa1) rfl rfl (by kernel_rfl) (by kernel_rfl) (by kernel_rfl) (fun _ _ _ h => h) (by rfl) (fun w' hS => ?hpa1) ?rpa1
 case hpa1 => (have e := hS.cell_some e2 id; go_simp; with_reducible rfl)
 try simp only [Act.put, sA, sZ, sS]
 refine region_take 2 46 (v := ?vpa2) rfl rfl (by kernel_rfl) (by kernel_rfl) (by kernel_rfl) (fun _ _ _ h => h) (by rfl) (fun w' hS => ?hpa2) ?rpa2
 case hpa2 => go_simp; with_reducible rfl
 try simp only [Act.put, sA, sZ, sS]
 refine region_take 3 47 (v := ?vpa3) rfl rfl (by kernel_rfl) (by kernel_rfl) (by kernel_rfl) (fun _ _ _ h => h) (by rfl) (fun w' hS => ?hpa3) ?rpa3
 case hpa3 => (have e := hS.cell_some e3 id; go_simp; with_reducible rfl)
 try simp only [Act.put, sA, sZ, sS]
 refine region_take 4 48 (v := ?vpa4) rfl rfl (by kernel_rfl) (by kernel_rfl) (by kernel_rfl) (fun _ _ _ h => h) (by rfl) (fun w' hS => ?hpa4) ?rpa4
 case hpa4 => (have q := HNd.out; have hx := HXe.out; go_simp; with_reducible rfl)
 try simp only [Act.put, sA, sZ, sS]
 refine region_take 6 50 (v := ?vpa6) rfl rfl (by kernel_rfl) (by kernel_rfl) (by kernel_rfl) (fun _ _ _ h => h) (by rfl) (fun w' hS => ?hpa6) ?rpa6
 case hpa6 => go_simp; with_reducible rfl
 try simp only [Act.put, sA, sZ, sS]
 refine region_take 7 51 (v := ?vpa7) rfl rfl (by kernel_rfl) (by kernel_rfl) (by kernel_rfl) (fun _ _ _ h => h) (by rfl) (fun w' hS => ?hpa7) ?rpa7
 case hpa7 => (have e := hS.cell_some e5 id; go_simp; with_reducible rfl)
 try simp only [Act.put, sA, sZ, sS]
 have kc := conv_bytes w5.drew X1
 refine wpAnyH_ready (rs := [5]) (by kernel_rfl) (by simp) (AllReadyH.cons rfl (fun K hK => ?_) AllReadyH.nil)
 go_simp
 clear kc
 obtain ⟨wa, hwa⟩ : ∃ z, z = Lib.bytesWorld w5.drew 5 X1 := ⟨_, rfl⟩
 have hPa : Pure w5.drew wa := hwa ▸ conv_pure _ _
 obtain ⟨cp, hcp⟩ : ∃ z, z = grownCap w5.drew X1.size 0 5 := ⟨_, rfl⟩
 have hCp := P26.decode_any (some ⟨w5.heap.size, 0, none⟩) cp B1 pg wa (by rw [HB1.out, hwa]; exact conv_is w5.drew _) (fun e => by cases e) (by rw [HBl.out, hcp]; exact conv_cap _ _) HBs.out
 rw [HBl.out] at hCp
 have HCp := qh hCp
 rw [← hwa, ← hcp]
 clear hwa hCp hcp
 have HS := qh (HS.out.pure hPa)
 have HSa := HS
 have hBt := hBt.ext hPa id
 refine hK.out _ _ (hPa) (fun hHeld => ?_)
 clear hK K hHeld
 refine region_now (hPa) ?_
 try simp only [Act.put, sA, sZ, sS]
 refine wpAnyH_ready (rs := [8]) (by kernel_rfl) (by simp) (AllReadyH.cons rfl (fun K hK => ?_) AllReadyH.nil)
 go_simp
 refine HCp.out.mono ?_
 rintro e wb ⟨d, qs, oa, oc, rfl, hT, hR, hH, hql, hPb⟩
 have HS := qh (HS.out.pure hPb)
 have hBt := hBt.ext hPb id
 have HH := qh hH
 have HT1 := qh hT
 have HR1 := qh hR
 have HQl := qh hql.1
 have HFrs : Hid (∀ p ∈ qs, ∀ g, p.sa = some g → g.block ≠ tb + 2) := qh (fun p hp g hg e => by have h1 := hql.2 p hp g hg; have h2 := HSa.out.sz; omega)
 clear hT hR hH hql HCp
 refine hK.out _ _ (hPb) (fun hHeld => ?_)
 clear hK K hHeld
 refine region_now (hPb) ?_
 try simp only [Act.put, sA, sZ, sS]
 refine region_take 9 43 (v := ?vpa9) rfl rfl (by kernel_rfl) (by kernel_rfl) (by kernel_rfl) (fun _ _ _ h => h) (by rfl) (fun w' hS => ?hpa9) ?rpa9
 case hpa9 => go_simp; with_reducible rfl
 try simp only [Act.put, sA, sZ, sS]
 refine region_take 10 53 (v := ?vpa10) rfl rfl (by kernel_rfl) (by kernel_rfl) (by kernel_rfl) (fun _ _ _ h => h) (by rfl) (fun w' hS => ?hpa10) ?rpa10
 case hpa10 => go_simp; with_reducible rfl
 try simp only [Act.put, sA, sZ, sS]
 refine region_take 11 54 (v := ?vpa11) rfl rfl (by kernel_rfl) (by kernel_rfl) (by kernel_rfl) (fun _ _ _ h => h) (by rfl) (fun w' hS => ?hpa11) ?rpa11
 case hpa11 => go_simp; with_reducible rfl
 try simp only [Act.put, sA, sZ, sS]
 refine region_take 12 55 (v := ?vpa12) rfl rfl (by kernel_rfl) (by kernel_rfl) (by kernel_rfl) (fun _ _ _ h => h) (by rfl) (fun w' hS => ?hpa12) ?rpa12
 case hpa12 => go_simp; with_reducible rfl
 try simp only [Act.put, sA, sZ, sS]
 refine region_take 13 56 (v := ?vpa13) rfl rfl (by kernel_rfl) (by kernel_rfl) (by kernel_rfl) (fun _ _ _ h => h) (by rfl) (fun w' hS => ?hpa13) ?rpa13
 case hpa13 => go_simp; with_reducible rfl
 try simp only [Act.put, sA, sZ, sS]
 refine region_take 14 8 (v := ?vpa14) rfl rfl (by kernel_rfl) (by kernel_rfl) (by kernel_rfl) (fun _ _ _ h => h) (by rfl) (fun w' hS => ?hpa14) ?rpa14
 case hpa14 => go_simp; with_reducible rfl
 try simp only [Act.put, sA, sZ, sS]
 refine region_take 15 9 (v := ?vpa15) rfl rfl (by kernel_rfl) (by kernel_rfl) (by kernel_rfl) (fun _ _ _ h => h) (by rfl) (fun w' hS => ?hpa15) ?rpa15
 case hpa15 => go_simp; with_reducible rfl
 try simp only [Act.put, sA, sZ, sS]
 refine region_take 16 10 (v := ?vpa16) rfl rfl (by kernel_rfl) (by kernel_rfl) (by kernel_rfl) (fun _ _ _ h => h) (by rfl) (fun w' hS => ?hpa16) ?rpa16
 case hpa16 => go_simp; with_reducible rfl
 try simp only [Act.put, sA, sZ, sS]
 refine region_take 17 11 (v := ?vpa17) rfl rfl (by kernel_rfl) (by kernel_rfl) (by kernel_rfl) (fun _ _ _ h => h) (by rfl) (fun w' hS => ?hpa17) ?rpa17
 case hpa17 => go_simp; with_reducible rfl
 try simp only [Act.put, sA, sZ, sS]
 refine wpAnyH_done (by kernel_rfl) ?_ _
 go_simp
 try simp only [Act.put, sA, sZ, sS]
 clear e1 e2 e3 e4 e5 HTh HSi HOn HW5
 obtain ⟨de, hde⟩ : ∃ z, z = d.e := ⟨_, rfl⟩
 rw [← hde]
 have HDe := qh hde
 clear hde
 by_cases hd0 : de = 0
 case neg =>
  have e1 : (de != 0) = true := by simpa using hd0
  have HPar : Hid (ParP o l zeroH 27) := qh (Or.inr ⟨HPk.out, Or.inl ⟨rfl, rfl, d, by rw [HX1.out, ← HPg.out]; exact HT1.out, by rw [← HDe.out]; exact hd0⟩⟩)
  have HThz : Hid (wb.there (tb + 2) 0 (#[.int .i64 0, .int .i64 0, .slice none 0 0, .int .i64 0, .int .i64 0, .int .i64 0, .slice none 0 0] : Array Value).size) := qh (HS.out.b3.there 7 rfl)
  have HSiz : Hid ((Tryz.prog.info? 25).map (·.size) = some (#[.int .i64 0, .int .i64 0, .slice none 0 0, .int .i64 0, .int .i64 0, .int .i64 0, .slice none 0 0] : Array Value).size) := qh size25
  have HP8 : Hid (Pure w (wb.setCells (tb + 2) 0 [.int .i64 0, .int .i64 0, .slice none 0 0, .int .i64 0, .int .i64 0, .int .i64 0, .slice none 0 0])) := qh (Ext.setCells _ 0 wb HS.out.p (b := tb + 2) (fun h => by have := HS.out.lo; omega))
  have HB9 : Hid (BlockIs (wb.setCells (tb + 2) 0 [.int .i64 0, .int .i64 0, .slice none 0 0, .int .i64 0, .int .i64 0, .int .i64 0, .slice none 0 0]) (tb + 2) [.int .i64 0, .int .i64 0, .slice none 0 0, .int .i64 0, .int .i64 0, .int .i64 0, .slice none 0 0] 25) := qh (HS.out.b3.setAll [.int .i64 0, .int .i64 0, .slice none 0 0, .int .i64 0, .int .i64 0, .int .i64 0, .slice none 0 0] rfl)
  clear hd0
  go_wp2_with (with_reducible refine V11.at_store 25 (.tmp 4) (.tmp 59) ?_; refine wpList_store_mid rfl 25 (.tmp 4) (.tmp 59) rfl (tb + 2) 0 #[.int .i64 0, .int .i64 0, .slice none 0 0, .int .i64 0, .int .i64 0, .int .i64 0, .slice none 0 0] rfl rfl HThz.out HSiz.out (one7 _ _ _ _ _ _ _ _ _ _ _) ?_)
  refine bodyPost_ret (V11.results_row2 rfl _ _ (tb + 2) _ [.int .i64 0, .int .i64 0, .slice none 0 0, .int .i64 0, .int .i64 0, .int .i64 0, .slice none 0 0] _ rfl HB9.out Tryz.underlying25 rfl size25) rfl ?_
  exact ⟨zeroH, none, 0, none, 0, 27, rfl, HPar.out, zero_mem _, HP8.out⟩
 subst hd0
 have e2 : wb.cell? ⟨tb, 5, none⟩ = some (.string dat) := by rw [HS.out.b1.cell 5]; exact HO5.out
 have e3 : wb.cell? ⟨w3.heap.size, 1, none⟩ = some (.int .i64 (n5 : Int)) := by rw [← HSb.out]; exact hBt.cell 1
 have hnd := HNd.out
 have hx2 := HXf.out
 have kc := fun W => conv_bytes W X2
 go_wp2_with fail
 obtain ⟨wc, hwc⟩ : ∃ z, z = Lib.bytesWorld wb 5 X2 := ⟨_, rfl⟩
 have hPc : Pure wb wc := hwc ▸ conv_pure _ _
 obtain ⟨cp, hcp⟩ : ∃ z, z = grownCap wb X2.size 0 5 := ⟨_, rfl⟩
 have hCp := S27.decode_any (some ⟨wb.heap.size, 0, none⟩) cp B2 wc (by rw [HB2.out, hwc]; exact conv_is wb _) (fun e => by cases e) (by rw [HBl2.out, hcp]; exact conv_cap _ _) HBs2.out
 rw [HBl2.out] at hCp
 have HCp := qh hCp
 rw [← hwc, ← hcp]
 have HS := qh (HS.out.pure hPc)
 have HH := qh (HH.out.pure hPc)
 clear hwc hCp hcp hPc e2 e3 kc hx2 hnd
 refine HCp.out.mono ?_
 rintro e wd ⟨r, la, lc, rfl, hT2, hR2, hn2, hl2, hPd⟩
 have HS := qh (HS.out.pure hPd)
 have HH := qh (HH.out.pure hPd)
 have HT2 := qh hT2
 have HR2 := qh hR2
 have HNl := qh hn2
 have HLl := qh hl2
 clear hT2 hR2 hn2 hl2 hPd HCp hBt
 unfold S27.tblV
 obtain ⟨ro, hro⟩ : ∃ z : Int, z = r.o := ⟨_, rfl⟩
 obtain ⟨ra, hra⟩ : ∃ z : Int, z = r.a := ⟨_, rfl⟩
 obtain ⟨rf, hrf⟩ : ∃ z : Int, z = r.f := ⟨_, rfl⟩
 obtain ⟨ln, hln⟩ : ∃ z, z = r.ls.length := ⟨_, rfl⟩
 obtain ⟨re, hre⟩ : ∃ z, z = r.e := ⟨_, rfl⟩
 obtain ⟨qn, hqn⟩ : ∃ z, z = qs.length := ⟨_, rfl⟩
 rw [← hro, ← hra, ← hrf, ← hln, ← hre, ← hqn]
 have HRo := qh hro
 have HRa := qh hra
 have HRf := qh hrf
 have HLn := qh hln
 have HRe := qh hre
 have HQn := qh hqn
 clear hro hra hrf hln hre hqn
 obtain ⟨wf, hwf⟩ : ∃ z, z = (wd.alloc (.cells #[.int .i64 0, .int .i64 0, .int .i64 0, .slice none 0 0] 64)).setCells wd.heap.size 0 (#[.int .i64 ro, .int .i64 ra, .int .i64 rf, .slice la ln lc] : Array Value).toList := ⟨_, rfl⟩
 have hPs : Pure wd wf := hwf ▸ (Ext.setCells _ 0 _ (ext_alloc wd _) (b := wd.heap.size) (fun h => by omega))
 have hBt : BlockIs wf wd.heap.size [.int .i64 ro, .int .i64 ra, .int .i64 rf, .slice la ln lc] 64 := hwf ▸ (BlockIs.new wd [.int .i64 0, .int .i64 0, .int .i64 0, .slice none 0 0] 64).setAll [.int .i64 ro, .int .i64 ra, .int .i64 rf, .slice la ln lc] rfl
 have HTh : Hid ((wd.alloc (.cells #[.int .i64 0, .int .i64 0, .int .i64 0, .slice none 0 0] 64)).there wd.heap.size 0 (#[.int .i64 ro, .int .i64 ra, .int .i64 rf, .slice la ln lc] : Array Value).size) := qh (BlockIs.there (BlockIs.new wd [.int .i64 0, .int .i64 0, .int .i64 0, .slice none 0 0] 64) 4 rfl)
 have HSi : Hid ((Tryz.prog.info? 64).map (·.size) = some (#[.int .i64 ro, .int .i64 ra, .int .i64 rf, .slice la ln lc] : Array Value).size) := qh sizeTb
 have HWf := qh hwf.symm
 have HS := qh (HS.out.pure hPs)
 have HH := qh (HH.out.pure hPs)
 have HR2 : Hid (RowOf wf la (r.ls.map C27.intV)) := qh (RowOf.ext HR2.out hPs (fun _ _ => id))
 clear hwf hPs
 by_cases hr0 : re = 0
 case neg =>
  have e1 : (re != 0) = true := by simpa using hr0
  have HPar : Hid (ParP o l zeroH 27) := qh (Or.inr ⟨HPk.out, Or.inr (Or.inl ⟨rfl, rfl, r, by rw [HX2.out]; exact HT2.out, by rw [← HRe.out]; exact hr0⟩)⟩)
  have HThz : Hid (wf.there (tb + 2) 0 (#[.int .i64 0, .int .i64 0, .slice none 0 0, .int .i64 0, .int .i64 0, .int .i64 0, .slice none 0 0] : Array Value).size) := qh (HS.out.b3.there 7 rfl)
  have HSiz : Hid ((Tryz.prog.info? 25).map (·.size) = some (#[.int .i64 0, .int .i64 0, .slice none 0 0, .int .i64 0, .int .i64 0, .int .i64 0, .slice none 0 0] : Array Value).size) := qh size25
  have HP8 : Hid (Pure w (wf.setCells (tb + 2) 0 [.int .i64 0, .int .i64 0, .slice none 0 0, .int .i64 0, .int .i64 0, .int .i64 0, .slice none 0 0])) := qh (Ext.setCells _ 0 wf HS.out.p (b := tb + 2) (fun h => by have := HS.out.lo; omega))
  have HB9 : Hid (BlockIs (wf.setCells (tb + 2) 0 [.int .i64 0, .int .i64 0, .slice none 0 0, .int .i64 0, .int .i64 0, .int .i64 0, .slice none 0 0]) (tb + 2) [.int .i64 0, .int .i64 0, .slice none 0 0, .int .i64 0, .int .i64 0, .int .i64 0, .slice none 0 0] 25) := qh (HS.out.b3.setAll [.int .i64 0, .int .i64 0, .slice none 0 0, .int .i64 0, .int .i64 0, .int .i64 0, .slice none 0 0] rfl)
  clear hr0
  go_wp2_with (first
   | (with_reducible refine V11.at_store 64 (.tmp 12) (.tmp 68) ?_; refine wpList_store_mid rfl 64 (.tmp 12) (.tmp 68) rfl wd.heap.size 0 #[.int .i64 ro, .int .i64 ra, .int .i64 rf, .slice la ln lc] rfl rfl HTh.out HSi.out (one4 _ _ _ _ _ _) ?_; rw [HWf.out])
   | (with_reducible refine V11.at_store 25 (.tmp 4) (.tmp 73) ?_; refine wpList_store_mid rfl 25 (.tmp 4) (.tmp 73) rfl (tb + 2) 0 #[.int .i64 0, .int .i64 0, .slice none 0 0, .int .i64 0, .int .i64 0, .int .i64 0, .slice none 0 0] rfl rfl HThz.out HSiz.out (one7 _ _ _ _ _ _ _ _ _ _ _) ?_))
  refine bodyPost_ret (V11.results_row2 rfl _ _ (tb + 2) _ [.int .i64 0, .int .i64 0, .slice none 0 0, .int .i64 0, .int .i64 0, .int .i64 0, .slice none 0 0] _ rfl HB9.out Tryz.underlying25 rfl size25) rfl ?_
  exact ⟨zeroH, none, 0, none, 0, 27, rfl, HPar.out, zero_mem _, HP8.out⟩
 subst hr0
 have e1 : wf.cell? ⟨tb + 1, 3, none⟩ = some (.int .i64 lfo) := by rw [HS.out.b2.cell 3]; exact HD3.out
 have t0 : wf.cell? ⟨wd.heap.size, 0, none⟩ = some (.int .i64 ro) := hBt.cell 0
 have t1 : wf.cell? ⟨wd.heap.size, 1, none⟩ = some (.int .i64 ra) := hBt.cell 1
 have t2 : wf.cell? ⟨wd.heap.size, 2, none⟩ = some (.int .i64 rf) := hBt.cell 2
 have t3 : wf.cell? ⟨wd.heap.size, 3, none⟩ = some (.slice la ln lc) := hBt.cell 3
 obtain ⟨wg, hwg⟩ : ∃ z, z = (wf.alloc (.cells #[.int .i64 0, .int .i64 0, .slice none 0 0, .int .i64 0, .int .i64 0, .int .i64 0, .slice none 0 0] 25)).setCells wf.heap.size 0 (#[.int .i64 lfo, .int .i64 (d.a : Int), .slice oa qn oc, .int .i64 ro, .int .i64 ra, .int .i64 rf, .slice la ln lc] : Array Value).toList := ⟨_, rfl⟩
 have hPs : Pure wf wg := hwg ▸ (Ext.setCells _ 0 _ (ext_alloc wf _) (b := wf.heap.size) (fun h => by omega))
 have hBg : BlockIs wg wf.heap.size [.int .i64 lfo, .int .i64 (d.a : Int), .slice oa qn oc, .int .i64 ro, .int .i64 ra, .int .i64 rf, .slice la ln lc] 25 := hwg ▸ (BlockIs.new wf [.int .i64 0, .int .i64 0, .slice none 0 0, .int .i64 0, .int .i64 0, .int .i64 0, .slice none 0 0] 25).setAll [.int .i64 lfo, .int .i64 (d.a : Int), .slice oa qn oc, .int .i64 ro, .int .i64 ra, .int .i64 rf, .slice la ln lc] rfl
 have HThg : Hid ((wf.alloc (.cells #[.int .i64 0, .int .i64 0, .slice none 0 0, .int .i64 0, .int .i64 0, .int .i64 0, .slice none 0 0] 25)).there wf.heap.size 0 (#[.int .i64 lfo, .int .i64 (d.a : Int), .slice oa qn oc, .int .i64 ro, .int .i64 ra, .int .i64 rf, .slice la ln lc] : Array Value).size) := qh (BlockIs.there (BlockIs.new wf [.int .i64 0, .int .i64 0, .slice none 0 0, .int .i64 0, .int .i64 0, .int .i64 0, .slice none 0 0] 25) 7 rfl)
 have HSig : Hid ((Tryz.prog.info? 25).map (·.size) = some (#[.int .i64 lfo, .int .i64 (d.a : Int), .slice oa qn oc, .int .i64 ro, .int .i64 ra, .int .i64 rf, .slice la ln lc] : Array Value).size) := qh size25
 have HWg := qh hwg.symm
 have HS := qh (HS.out.pure hPs)
 have HH := qh (HH.out.pure hPs)
 have HR2 : Hid (RowOf wg la (r.ls.map C27.intV)) := qh (RowOf.ext HR2.out hPs (fun _ _ => id))
 have HRg : Hid (wg.rangeAt wf.heap.size 0 [.int .i64 lfo, .int .i64 (d.a : Int), .slice oa qn oc, .int .i64 ro, .int .i64 ra, .int .i64 rf, .slice la ln lc]) := qh hBg.range
 have HRl : Hid (wg.rangeAt (tb + 1) 0 ds) := qh HS.out.b2.range
 have HSz7 : Hid (([.int .i64 lfo, .int .i64 (d.a : Int), .slice oa qn oc, .int .i64 ro, .int .i64 ra, .int .i64 rf, .slice la ln lc] : List Value).length = 7) := qh rfl
 obtain ⟨Hn, hHn⟩ : ∃ z, z = hOf l d qs r := ⟨_, rfl⟩
 have HHc : Hid (hC Hn oa oc la lc = [.int .i64 lfo, .int .i64 (d.a : Int), .slice oa qn oc, .int .i64 ro, .int .i64 ra, .int .i64 rf, .slice la ln lc]) := qh (by
  rw [hHn]
  show [Value.int .i64 l.fo, .int .i64 d.a, .slice oa qs.length oc, .int .i64 r.o, .int .i64 r.a, .int .i64 r.f, .slice la (intsN r.ls).length lc] = _
  rw [show (intsN r.ls).length = ln by rw [HLn.out]; simp [intsN], HFo.out, HQn.out, HRo.out, HRa.out, HRf.out])
 have HMq : Hid (HMem wg Hn oa oc la lc) := qh (by
  rw [hHn]
  refine ⟨HH.out, ?_, by have := HQl.out; show qs.length ≤ _; omega, by show (intsN r.ls).length ≤ _; rw [show (intsN r.ls).length = r.ls.length by simp [intsN]]; exact Nat.le_trans (dec27_small HT2.out) (by decide), ⟨by show (intsN r.ls).length ≤ _; rw [show (intsN r.ls).length = r.ls.length by simp [intsN]]; exact HLl.out, Nat.zero_le _⟩, HNl.out⟩
  show RowOf wg la ((intsN r.ls).map zV)
  unfold intsN
  rw [List.map_map]
  exact HR2.out)
 have hMod : P26.Mod2 Hn.ps := by
  rw [hHn]
  exact dec_mod HT1.out HDe.out.symm HR1.out HQl.out
 have hCk := check_any Hn l oa la oc lc wg HMq.out hMod
 rw [HHc.out, ← HDs.out] at hCk
 obtain ⟨ce, hce⟩ : ∃ z, z = chkE Hn l := ⟨_, rfl⟩
 rw [← hce] at hCk
 have HCk := qh hCk
 have HCe := qh hce
 have HHn := qh hHn
 clear hwg hPs hHn hMod hCk hce
 go_wp2_with (first
  | (with_reducible refine V11.at_store 64 (.tmp 12) (.tmp 68) ?_; refine wpList_store_mid rfl 64 (.tmp 12) (.tmp 68) rfl wd.heap.size 0 #[.int .i64 ro, .int .i64 ra, .int .i64 rf, .slice la ln lc] rfl rfl HTh.out HSi.out (one4 _ _ _ _ _ _) ?_; rw [HWf.out])
  | (with_reducible refine V11.at_store 25 (.tmp 14) (.tmp 86) ?_; refine wpList_store_mid rfl 25 (.tmp 14) (.tmp 86) rfl wf.heap.size 0 #[.int .i64 lfo, .int .i64 (d.a : Int), .slice oa qn oc, .int .i64 ro, .int .i64 ra, .int .i64 rf, .slice la ln lc] rfl rfl HThg.out HSig.out (one7 _ _ _ _ _ _ _ _ _ _ _) ?_; rw [HWg.out])
  | (with_reducible refine V11.at_load 25 (.tmp 14) ?_; refine wpList_load_mid rfl 25 (.tmp 14) rfl wf.heap.size 0 rfl [.int .i64 lfo, .int .i64 (d.a : Int), .slice oa qn oc, .int .i64 ro, .int .i64 ra, .int .i64 rf, .slice la ln lc] _ HRg.out Tryz.underlying25 rfl (sz25 HSz7.out) ?_)
  | (with_reducible refine V11.at_load 40 (.tmp 3) ?_; refine wpList_load_l rfl (.tmp 3) rfl (tb + 1) 0 rfl ds HRl.out HM7.out ?_))
 refine HCk.out.mono ?_
 rintro e wh ⟨rfl, hPh⟩
 have HS := qh (HS.out.pure hPh)
 have HMq := qh (HMq.out.pure hPh)
 have hBg := hBg.ext hPh id
 clear hPh e1 t0 t1 t2 t3 HCk HRg HRl HTh HSi HThg HSig HWf HWg
 have HGd : Hid (∃ d r qs, P26.DecTo (bitsOf true (b1 o)) l.pg d ∧ d.e = 0 ∧ S27.DecTo (bitsOf true (b2 o)) r ∧ r.e = 0 ∧ qs.map pv3 = P26.resV d ∧ Hn = hOf l d qs r) := qh ⟨d, r, qs, by rw [HX1.out, ← HPg.out]; exact HT1.out, HDe.out.symm, by rw [HX2.out]; exact HT2.out, HRe.out.symm, HR1.out, HHn.out⟩
 by_cases hc0 : ce = 0
 case neg =>
  have e1 : (ce != 0) = true := by simpa using hc0
  have HPar : Hid (ParP o l zeroH 27) := qh (by
   obtain ⟨d, r, qs, g1, g2, g3, g4, g5, g6⟩ := HGd.out
   exact Or.inr ⟨HPk.out, Or.inr (Or.inr ⟨d, r, qs, g1, g2, g3, g4, g5, Or.inr ⟨by rw [← g6, ← HCe.out]; exact hc0, rfl, rfl⟩⟩)⟩)
  have HThz : Hid (wh.there (tb + 2) 0 (#[.int .i64 0, .int .i64 0, .slice none 0 0, .int .i64 0, .int .i64 0, .int .i64 0, .slice none 0 0] : Array Value).size) := qh (HS.out.b3.there 7 rfl)
  have HSiz : Hid ((Tryz.prog.info? 25).map (·.size) = some (#[.int .i64 0, .int .i64 0, .slice none 0 0, .int .i64 0, .int .i64 0, .int .i64 0, .slice none 0 0] : Array Value).size) := qh size25
  have HP8 : Hid (Pure w (wh.setCells (tb + 2) 0 [.int .i64 0, .int .i64 0, .slice none 0 0, .int .i64 0, .int .i64 0, .int .i64 0, .slice none 0 0])) := qh (Ext.setCells _ 0 wh HS.out.p (b := tb + 2) (fun h => by have := HS.out.lo; omega))
  have HB9 : Hid (BlockIs (wh.setCells (tb + 2) 0 [.int .i64 0, .int .i64 0, .slice none 0 0, .int .i64 0, .int .i64 0, .int .i64 0, .slice none 0 0]) (tb + 2) [.int .i64 0, .int .i64 0, .slice none 0 0, .int .i64 0, .int .i64 0, .int .i64 0, .slice none 0 0] 25) := qh (HS.out.b3.setAll [.int .i64 0, .int .i64 0, .slice none 0 0, .int .i64 0, .int .i64 0, .int .i64 0, .slice none 0 0] rfl)
  clear hc0
  go_wp2_with (with_reducible refine V11.at_store 25 (.tmp 4) (.tmp 91) ?_; refine wpList_store_mid rfl 25 (.tmp 4) (.tmp 91) rfl (tb + 2) 0 #[.int .i64 0, .int .i64 0, .slice none 0 0, .int .i64 0, .int .i64 0, .int .i64 0, .slice none 0 0] rfl rfl HThz.out HSiz.out (one7 _ _ _ _ _ _ _ _ _ _ _) ?_)
  refine bodyPost_ret (V11.results_row2 rfl _ _ (tb + 2) _ [.int .i64 0, .int .i64 0, .slice none 0 0, .int .i64 0, .int .i64 0, .int .i64 0, .slice none 0 0] _ rfl HB9.out Tryz.underlying25 rfl size25) rfl ?_
  exact ⟨zeroH, none, 0, none, 0, 27, rfl, HPar.out, zero_mem _, HP8.out⟩
 subst hc0
 have HPar : Hid (ParP o l Hn 0) := qh (by
  obtain ⟨d, r, qs, g1, g2, g3, g4, g5, g6⟩ := HGd.out
  exact Or.inr ⟨HPk.out, Or.inr (Or.inr ⟨d, r, qs, g1, g2, g3, g4, g5, Or.inl ⟨by rw [← g6]; exact HCe.out.symm, g6, rfl⟩⟩)⟩)
 have HRg : Hid (wh.rangeAt wf.heap.size 0 [.int .i64 lfo, .int .i64 (d.a : Int), .slice oa qn oc, .int .i64 ro, .int .i64 ra, .int .i64 rf, .slice la ln lc]) := qh hBg.range
 have HThz : Hid (wh.there (tb + 2) 0 (#[.int .i64 lfo, .int .i64 (d.a : Int), .slice oa qn oc, .int .i64 ro, .int .i64 ra, .int .i64 rf, .slice la ln lc] : Array Value).size) := qh (HS.out.b3.there 7 rfl)
 have HSiz : Hid ((Tryz.prog.info? 25).map (·.size) = some (#[.int .i64 lfo, .int .i64 (d.a : Int), .slice oa qn oc, .int .i64 ro, .int .i64 ra, .int .i64 rf, .slice la ln lc] : Array Value).size) := qh size25
 have HP8 : Hid (Pure w (wh.setCells (tb + 2) 0 [.int .i64 lfo, .int .i64 (d.a : Int), .slice oa qn oc, .int .i64 ro, .int .i64 ra, .int .i64 rf, .slice la ln lc])) := qh (Ext.setCells _ 0 wh HS.out.p (b := tb + 2) (fun h => by have := HS.out.lo; omega))
 have HB9 : Hid (BlockIs (wh.setCells (tb + 2) 0 [.int .i64 lfo, .int .i64 (d.a : Int), .slice oa qn oc, .int .i64 ro, .int .i64 ra, .int .i64 rf, .slice la ln lc]) (tb + 2) [.int .i64 lfo, .int .i64 (d.a : Int), .slice oa qn oc, .int .i64 ro, .int .i64 ra, .int .i64 rf, .slice la ln lc] 25) := qh (HS.out.b3.setAll [.int .i64 lfo, .int .i64 (d.a : Int), .slice oa qn oc, .int .i64 ro, .int .i64 ra, .int .i64 rf, .slice la ln lc] rfl)
 have HMz : Hid (HMem (wh.setCells (tb + 2) 0 [.int .i64 lfo, .int .i64 (d.a : Int), .slice oa qn oc, .int .i64 ro, .int .i64 ra, .int .i64 rf, .slice la ln lc]) Hn oa oc la lc) := qh (by
  refine HMq.out.store (B := tb + 2) (Ext.setCells _ 0 wh (Ext.refl _ _) (fun _ => rfl)) (zero_block HS.out.b3) ?_ ?_ ?_
  ·rw [HHn.out]; exact pos_of HT1.out HDe.out.symm HR1.out
  ·rw [HHn.out]
   intro x hx
   obtain ⟨y, hy, rfl⟩ := List.mem_map.1 hx
   have := dec27_pos HT2.out y hy
   omega
  ·rw [HHn.out]; exact HFrs.out)
 go_wp2_with (first
  | (with_reducible refine V11.at_load 25 (.tmp 14) ?_; refine wpList_load_mid rfl 25 (.tmp 14) rfl wf.heap.size 0 rfl [.int .i64 lfo, .int .i64 (d.a : Int), .slice oa qn oc, .int .i64 ro, .int .i64 ra, .int .i64 rf, .slice la ln lc] _ HRg.out Tryz.underlying25 rfl (sz25 HSz7.out) ?_)
  | (with_reducible refine V11.at_store 25 (.tmp 4) (.tmp 92) ?_; refine wpList_store_mid rfl 25 (.tmp 4) (.tmp 92) rfl (tb + 2) 0 #[.int .i64 lfo, .int .i64 (d.a : Int), .slice oa qn oc, .int .i64 ro, .int .i64 ra, .int .i64 rf, .slice la ln lc] rfl rfl HThz.out HSiz.out (one7 _ _ _ _ _ _ _ _ _ _ _) ?_))
 refine bodyPost_ret (V11.results_row2 rfl _ _ (tb + 2) _ [.int .i64 lfo, .int .i64 (d.a : Int), .slice oa qn oc, .int .i64 ro, .int .i64 ra, .int .i64 rf, .slice la ln lc] _ rfl HB9.out Tryz.underlying25 rfl size25) rfl ?_
 exact ⟨Hn, oa, oc, la, lc, 0, by rw [HHc.out]; rfl, HPar.out, HMz.out, HP8.out⟩
