import Derived.Test.YtomcdhljjmnahaaGreatTabHPa
import Derived.Test.YtomcdhljjmnahaaGreatStrPa
import Derived.Test.YtomcdhljjmnahaaGreatLibPEPa
import Derived.Test.YtomcdhljjmnahaaGreatLibSEPa
import Derived.Test.YtomcdhljjmnahaaGreatSqPa
set_option linter.unusedVariables false
set_option linter.unusedSimpArgs false
set_option maxRecDepth 100000
namespace Go.Proofs.YtomcdhljjmnahaaGreat
open Go.RowKit
theorem one6 (k n : Int) (t : ByteArray) (a : Option Addr) (m c : Nat) (b : Bool) (d : ByteArray) : ((#[Value.int .i64 k, .int .i64 n, .string t, .slice a m c, .bool b, .string d] : Array Value).all fun u => u.oneCell') = true := all_oneCell_toArray (by intro u hu; simp only [List.mem_cons, List.not_mem_nil, or_false] at hu; rcases hu with rfl | rfl | rfl | rfl | rfl | rfl <;> rfl)
theorem stream_any (k n : Int) (t : ByteArray) (a : Option Addr) (m c : Nat) (d : ByteArray) (w : World) :
 Calls Tryz.prog 23 #[.agg #[.int .i64 k, .int .i64 n, .string t, .slice a m c], .string d] w fun e w' => e = .returned (.agg #[.int .i64 k, .int .i64 n, .string t, .slice a m c, .bool true, .string d]) ∧ Pure w w' := by
 obtain ⟨w1, hw1⟩ : ∃ z, z = (w.alloc (.cells #[.int .i64 k, .int .i64 n, .string t, .slice a m c] 30)).alloc (.cells #[.int .i64 0, .int .i64 0, .string ⟨#[]⟩, .slice none 0 0, .bool false, .string ⟨#[]⟩] 32) := ⟨_, rfl⟩
 have hP1 : Pure w w1 := hw1 ▸ (show Pure w (w.alloc (.cells #[.int .i64 k, .int .i64 n, .string t, .slice a m c] 30)) from ext_alloc w _).pure (ext_alloc _ _)
 have hBr : BlockIs w1 (w.heap.size + 1) [.int .i64 0, .int .i64 0, .string ⟨#[]⟩, .slice none 0 0, .bool false, .string ⟨#[]⟩] 32 := by
  have := BlockIs.new (w.alloc (.cells #[.int .i64 k, .int .i64 n, .string t, .slice a m c] 30)) [.int .i64 0, .int .i64 0, .string ⟨#[]⟩, .slice none 0 0, .bool false, .string ⟨#[]⟩] 32
  rw [World.size_alloc] at this
  rw [hw1]; exact this
 have HW := qh hw1.symm
 have hRg : ((w.alloc (.cells #[.int .i64 k, .int .i64 n, .string t, .slice a m c] 30)).alloc (.cells #[.int .i64 0, .int .i64 0, .string ⟨#[]⟩, .slice none 0 0, .bool false, .string ⟨#[]⟩] 32)).rangeAt w.heap.size 0 [.int .i64 k, .int .i64 n, .string t, .slice a m c] := ((BlockIs.new w [.int .i64 k, .int .i64 n, .string t, .slice a m c] 30).alloc _).range
 have HRg := qh hRg
 have HTh : Hid (w1.there (w.heap.size + 1) 0 (#[.int .i64 k, .int .i64 n, .string t, .slice a m c, .bool true, .string d] : Array Value).size) := qh (hBr.there 6 rfl)
 have HSi : Hid ((Tryz.prog.info? 32).map (·.size) = some (#[.int .i64 k, .int .i64 n, .string t, .slice a m c, .bool true, .string d] : Array Value).size) := qh size42
 have HP8 : Hid (Pure w (w1.setCells (w.heap.size + 1) 0 [.int .i64 k, .int .i64 n, .string t, .slice a m c, .bool true, .string d])) := qh (Ext.setCells _ 0 w1 hP1 (b := w.heap.size + 1) (fun h => by omega))
 have HB9 : Hid (BlockIs (w1.setCells (w.heap.size + 1) 0 [.int .i64 k, .int .i64 n, .string t, .slice a m c, .bool true, .string d]) (w.heap.size + 1) [.int .i64 k, .int .i64 n, .string t, .slice a m c, .bool true, .string d] 32) := qh (hBr.setAll [.int .i64 k, .int .i64 n, .string t, .slice a m c, .bool true, .string d] rfl)
 clear hw1 hP1 hBr hRg
 go_enter Tryz.func23, Tryz.ntmps23
 go_wp2_with (first
  | (with_reducible refine V11.at_load 30 (.tmp 2) ?_; refine wpList_load_mid rfl 30 (.tmp 2) rfl w.heap.size 0 rfl [.int .i64 k, .int .i64 n, .string t, .slice a m c] _ HRg.out Tryz.underlying30 rfl V11.size24 ?_)
  | (with_reducible refine V11.at_store 32 (.tmp 4) (.tmp 7) ?_; rw [HW.out]; refine wpList_store_mid rfl 32 (.tmp 4) (.tmp 7) rfl (w.heap.size + 1) 0 #[.int .i64 k, .int .i64 n, .string t, .slice a m c, .bool true, .string d] rfl rfl HTh.out HSi.out (one6 _ _ _ _ _ _ _ _) ?_))
 refine bodyPost_ret (V11.results_row1 rfl _ _ (w.heap.size + 1) _ [.int .i64 k, .int .i64 n, .string t, .slice a m c, .bool true, .string d] _ rfl HB9.out Tryz.underlying32 rfl size42) rfl ?_
 exact ⟨rfl, HP8.out⟩
def keyS : ByteArray := ⟨#[83]⟩
def objE (h : HT) : Int := if P26.chk h.fa h.ps = 0 then S27.encE h.so h.sa h.sf h.sh else P26.chk h.fa h.ps
def objV (n : Int) : V11.V := .mk 7 0 ⟨#[]⟩ [.mk 5 0 keyS [], .mk 2 n ⟨#[]⟩ []]
def objO (h : HT) : Ob := if objE h = 0 then ⟨objV (P26.encB h.fa h.ps).length, true, strOf (P26.encB h.fa h.ps) ++ strOf (S27.encB h.so h.sa h.sf h.sh)⟩ else nullO
def ObjTo (o : Ob) (er : Int) (w : World) (e : Ending) (w' : World) : Prop := ∃ cs, e = .returned (.tuple #[.agg cs.toArray, .int .i64 er]) ∧ ObjIs w' 2 o cs ∧ Pure w w'
theorem dict_is (n : Int) : V11.dictL [.mk 5 0 ⟨#[83]⟩ [], .mk 2 n ⟨#[]⟩ []] V11.emptyD = objV n := rfl
theorem dict_fit (n : Nat) (w : World) : V11.Fit w 1 [.mk 5 0 ⟨#[83]⟩ [], .mk 2 (n : Int) ⟨#[]⟩ []] [.int .i64 5, .int .i64 0, .string ⟨#[83]⟩, .slice none 0 0, .int .i64 2, .int .i64 (n : Int), .string ⟨#[]⟩, .slice none 0 0] :=
 .cons (V11.Lies.leaf w 0 5 0 ⟨#[83]⟩ (by decide)) (.cons (V11.Lies.leaf w 0 2 n ⟨#[]⟩ (by decide)) .nil)
theorem lies_any (W W' : World) {d : Nat} {k n : Int} {t : ByteArray} {cs : List Value} (h : V11.Lies W (d + 1) (.mk k n t []) cs) : V11.Lies W' (d + 1) (.mk k n t []) cs := by
 obtain ⟨a, c, rows, h1, h2, h3, h4, h5, h6, h7, h8, h9⟩ := h
 have hr : rows = [] := List.length_eq_zero_iff.1 h2
 subst hr
 exact ⟨a, c, [], h1, h2, h3, (fun i u hu => by simp at hu), h5, h6, h7, (fun i u r hu => by simp [V11.V.l] at hu), h9⟩
theorem fit_any (W W' : World) {d : Nat} : ∀ {l : List V11.V} {xs : List Value}, (∀ u ∈ l, u.l = []) → V11.Fit W (d + 1) l xs → V11.Fit W' (d + 1) l xs
 | [], _, _, .nil => .nil
 | .mk k n t l' :: l, _, hl, .cons h1 h2 => by
   obtain rfl : l' = [] := hl _ List.mem_cons_self
   exact .cons (lies_any W W' h1) (fit_any W W' (fun u hu => hl u (List.mem_cons_of_mem _ hu)) h2)
theorem dict_lies {w0 W : World} {n : Int} {cs : List Value} (h : V11.Top w0 W 1 (objV n) cs) : V11.Lies W 2 (objV n) cs := by
 obtain ⟨a, c, xs, h1, h2, h3, h4, h5, h6, h7⟩ := h.parts
 have h5' := fit_any w0 W (d := 0) (by intro u hu; simp only [objV, V11.V.l, List.mem_cons, List.not_mem_nil, or_false] at hu; rcases hu with rfl | rfl <;> rfl) h5
 rw [h1]
 exact h5'.lies h6 7 0 _ c h2 h3 (fun e => (h4 e).2) h7
theorem enc26_len {a : Int} {ps : List PH} (hm : P26.Mod ps) : (P26.encB a ps).length ≤ 600000 := by
 unfold P26.encB
 split
 ·next h => exact P26.tab_len (P26.chk_ok h hm).ok (by decide) (by decide) (by decide)
 ·simp
theorem enc27_len (o a f : Int) (ls : List Int) : (S27.encB o a f ls).length ≤ 300000 := by
 unfold S27.encB
 split
 ·next h =>
  have hk := S27.okT_ints h
  have hl := (S27.okT_true.1 h).2.2.1
  have h1 := S27.tab_len (o := o.toNat) (a := a.toNat) (f := f.toNat) (ls := S27.nats ls) (groups := 0) (signed := []) (by rw [← hk.2.2.2, ← hk.1, ← hk.2.1, ← hk.2.2.1]; exact h) (by decide)
  have h2 : (S27.nats ls).length = ls.length := by simp [S27.nats]
  omega
 ·simp
set_option maxHeartbeats 4000000 in
theorem object_any (h : HT) (pa la : Option Addr) (pc lc : Nat) (w : World) (H : HMem w h pa pc la lc) (hm : P26.Mod h.ps) :
 Calls Tryz.prog 8 #[.agg (hC h pa pc la lc).toArray] w (ObjTo (objO h) (objE h) w) := by
 obtain ⟨E, hE⟩ : ∃ E, E = objE h := ⟨_, rfl⟩
 obtain ⟨O, hO⟩ : ∃ O, O = objO h := ⟨_, rfl⟩
 rw [← hE, ← hO]
 unfold objO at hO
 rw [← hE] at hO
 unfold objE at hE
 have HE1 := qh (fun W (hP : Pure w W) => P26.encode_any h.fa pa pc h.ps W (H.pure hP).pages hm)
 have HE2 := qh (fun W (hP : Pure w W) => S27.encode_any h.so h.sa h.sf la lc h.sh W (H.pure hP).share (by have := H.sn; omega))
 have HSh := qh (fun W => shared_any h pa la pc lc W)
 obtain ⟨cs, hcs⟩ : ∃ z, z = hC h pa pc la lc := ⟨_, rfl⟩
 have HL7 : Hid (cs.length = 7) := qh (by rw [hcs]; rfl)
 have HCs := qh hcs
 rw [← hcs]
 obtain ⟨w2, hw2⟩ : ∃ z, z = ((w.alloc (.cells cs.toArray 25)).alloc (.cells #[.int .i64 0, .int .i64 0, .string ⟨#[]⟩, .slice none 0 0, .bool false, .string ⟨#[]⟩] 32)) := ⟨_, rfl⟩
 obtain ⟨tb, htb⟩ : ∃ z, z = w.heap.size := ⟨_, rfl⟩
 have HW : Hid (((w.alloc (.cells cs.toArray 25)).alloc (.cells #[.int .i64 0, .int .i64 0, .string ⟨#[]⟩, .slice none 0 0, .bool false, .string ⟨#[]⟩] 32)) = w2) := qh hw2.symm
 have HTb := qh htb
 rw [← HCs.out] at HSh
 have hRh : ((w.alloc (.cells cs.toArray 25)).alloc (.cells #[.int .i64 0, .int .i64 0, .string ⟨#[]⟩, .slice none 0 0, .bool false, .string ⟨#[]⟩] 32)).rangeAt w.heap.size 0 cs := ((BlockIs.new w cs 25).alloc _).range
 have r1 : ((w.alloc (.cells cs.toArray 25)).alloc (.cells #[.int .i64 0, .int .i64 0, .string ⟨#[]⟩, .slice none 0 0, .bool false, .string ⟨#[]⟩] 32)).cell? ⟨w.heap.size, 1, none⟩ = some (.int .i64 h.fa) := by
  have := ((BlockIs.new w cs 25).alloc (.cells #[.int .i64 0, .int .i64 0, .string ⟨#[]⟩, .slice none 0 0, .bool false, .string ⟨#[]⟩] 32)).cell 1
  rw [this, HCs.out]; rfl
 have r2 : ((w.alloc (.cells cs.toArray 25)).alloc (.cells #[.int .i64 0, .int .i64 0, .string ⟨#[]⟩, .slice none 0 0, .bool false, .string ⟨#[]⟩] 32)).cell? ⟨w.heap.size, 2, none⟩ = some (.slice pa h.ps.length pc) := by
  have := ((BlockIs.new w cs 25).alloc (.cells #[.int .i64 0, .int .i64 0, .string ⟨#[]⟩, .slice none 0 0, .bool false, .string ⟨#[]⟩] 32)).cell 2
  rw [this, HCs.out]; rfl
 have hP : Pure w w2 := by rw [← HW.out]; exact (show Pure w (w.alloc (.cells cs.toArray 25)) from ext_alloc w _).pure (ext_alloc _ _)
 have hBh : BlockIs w2 tb cs 25 := by rw [← HW.out, HTb.out]; exact (BlockIs.new w cs 25).alloc _
 have hBr : BlockIs w2 (tb + 1) [.int .i64 0, .int .i64 0, .string ⟨#[]⟩, .slice none 0 0, .bool false, .string ⟨#[]⟩] 32 := by
  have hh := BlockIs.new (w.alloc (.cells cs.toArray 25)) [.int .i64 0, .int .i64 0, .string ⟨#[]⟩, .slice none 0 0, .bool false, .string ⟨#[]⟩] 32
  rw [World.size_alloc] at hh
  rw [← HW.out, HTb.out]; exact hh
 have HLw := qh hBr.lt
 clear H HCs hcs hw2 htb hRh
 generalize h.ps.length = pn at *
 unfold P26.EncTo at HE1
 unfold S27.EncTo at HE2
 obtain ⟨c1, hc1⟩ : ∃ z, z = P26.chk h.fa h.ps := ⟨_, rfl⟩
 obtain ⟨c2, hc2⟩ : ∃ z, z = S27.encE h.so h.sa h.sf h.sh := ⟨_, rfl⟩
 have hsz1 := enc26_len (a := h.fa) hm
 have hsz2 := enc27_len h.so h.sa h.sf h.sh
 obtain ⟨A, hA⟩ : ∃ z, z = P26.encB h.fa h.ps := ⟨_, rfl⟩
 obtain ⟨B, hB⟩ : ∃ z, z = S27.encB h.so h.sa h.sf h.sh := ⟨_, rfl⟩
 rw [← hc1, ← hc2] at hE
 rw [← hA, ← hB] at hO
 rw [← hA] at hsz1
 rw [← hB] at hsz2
 have HSz := qh (And.intro hsz1 hsz2)
 rw [← hc1, ← hA] at HE1
 rw [← hc2, ← hB] at HE2
 clear hc1 hc2 hA hB hsz1 hsz2 hm
 obtain ⟨na, hna⟩ : ∃ z, z = A.length := ⟨_, rfl⟩
 obtain ⟨nb, hnb⟩ : ∃ z, z = B.length := ⟨_, rfl⟩
 have HAl := qh hna.symm
 have HBl := qh hnb.symm
 rw [← hna] at HE1 hO
 rw [← hnb] at HE2
 have HEr := qh hE
 have HOo := qh hO
 clear hE hO hna hnb
 go_enter Tryz.func8, Tryz.ntmps8
 go_wp2_with fail
 rw [HW.out, ← HTb.out]
 refine (HE1.out w2 hP).mono ?_
 rintro e w3 ⟨ra, rc, rfl, hN3⟩
 have hBh := hBh.ext hN3.ext id
 have hBr := hBr.ext hN3.ext id
 have hP := hP.pure hN3.ext
 have HBa := qh hN3.bytes
 have HLa : Hid (∀ g, ra = some g → tb + 1 < g.block) := qh (fun g hg => by have h1 := hN3.fresh g hg; have h2 := HLw.out; omega)
 clear hN3 HE1 r1 r2
 by_cases h1 : c1 = 0
 case neg =>
  have e1 : (c1 != 0) = true := by simpa using h1
  have HEr : Hid (E = c1) := qh (by rw [HEr.out, if_neg h1])
  have HOo : Hid (O = nullO) := qh (by rw [HOo.out, if_neg (by rw [HEr.out]; exact h1)])
  clear h1
  have HTh : Hid (w3.there (tb + 1) 0 (#[.int .i64 0, .int .i64 0, .string ⟨#[]⟩, .slice none 0 0, .bool false, .string ⟨#[]⟩] : Array Value).size) := qh (hBr.there 6 rfl)
  have HSi : Hid ((Tryz.prog.info? 32).map (·.size) = some (#[.int .i64 0, .int .i64 0, .string ⟨#[]⟩, .slice none 0 0, .bool false, .string ⟨#[]⟩] : Array Value).size) := qh size42
  have HP8 : Hid (Pure w (w3.setCells (tb + 1) 0 [.int .i64 0, .int .i64 0, .string ⟨#[]⟩, .slice none 0 0, .bool false, .string ⟨#[]⟩])) := qh (Ext.setCells _ 0 w3 hP (b := (tb + 1)) (fun h => by have := HTb.out; omega))
  have HB9 : Hid (BlockIs (w3.setCells (tb + 1) 0 [.int .i64 0, .int .i64 0, .string ⟨#[]⟩, .slice none 0 0, .bool false, .string ⟨#[]⟩]) (tb + 1) [.int .i64 0, .int .i64 0, .string ⟨#[]⟩, .slice none 0 0, .bool false, .string ⟨#[]⟩] 32) := qh (hBr.setAll [.int .i64 0, .int .i64 0, .string ⟨#[]⟩, .slice none 0 0, .bool false, .string ⟨#[]⟩] rfl)
  clear hBr hP
  go_wp2_with (with_reducible refine V11.at_store 32 (.tmp 2) (.tmp 17) ?_; refine wpList_store_mid rfl 32 (.tmp 2) (.tmp 17) rfl (tb + 1) 0 #[.int .i64 0, .int .i64 0, .string ⟨#[]⟩, .slice none 0 0, .bool false, .string ⟨#[]⟩] rfl rfl HTh.out HSi.out (one6 _ _ _ _ _ _ _ _) ?_)
  refine bodyPost_ret (V11.results_row2 rfl _ _ (tb + 1) _ [.int .i64 0, .int .i64 0, .string ⟨#[]⟩, .slice none 0 0, .bool false, .string ⟨#[]⟩] _ rfl HB9.out Tryz.underlying32 rfl size42) rfl ?_
  exact ⟨[.int .i64 0, .int .i64 0, .string ⟨#[]⟩, .slice none 0 0, .bool false, .string ⟨#[]⟩], by rw [HEr.out]; rfl, by rw [HOo.out]; exact ⟨_, rfl, null_lies _⟩, HP8.out⟩
 subst h1
 have HEr : Hid (E = c2) := qh (by rw [HEr.out, if_pos rfl])
 have hRh : w3.rangeAt tb 0 cs := hBh.range
 go_wp2_with (with_reducible refine V11.at_load 25 (.tmp 1) ?_; refine wpList_load_h rfl (.tmp 1) rfl tb 0 rfl cs hRh HL7.out ?_)
 refine (HSh.out w3).mono ?_
 rintro e w4 ⟨rfl, hP4⟩
 have hBr := hBr.ext hP4 id
 have hP := hP.pure hP4
 have HBa := qh (HBa.out.pure hP4)
 clear hRh hBh hP4 HSh
 unfold S27.tblV
 go_wp2_with fail
 refine (HE2.out w4 hP).mono ?_
 rintro e w5 ⟨rb, rd, rfl, hN5⟩
 have HLb : Hid (∀ g, rb = some g → tb + 1 < g.block) := qh (fun g hg => by have h1 := hN5.fresh g hg; have h2 := hBr.lt; omega)
 have hBr := hBr.ext hN5.ext id
 have hP := hP.pure hN5.ext
 have HBa := qh (HBa.out.pure hN5.ext)
 have HBb := qh hN5.bytes
 clear hN5 HE2
 by_cases h2 : c2 = 0
 case neg =>
  have e1 : (c2 != 0) = true := by simpa using h2
  have HOo : Hid (O = nullO) := qh (by rw [HOo.out, if_neg (by rw [HEr.out]; exact h2)])
  clear h2
  have HTh : Hid (w5.there (tb + 1) 0 (#[.int .i64 0, .int .i64 0, .string ⟨#[]⟩, .slice none 0 0, .bool false, .string ⟨#[]⟩] : Array Value).size) := qh (hBr.there 6 rfl)
  have HSi : Hid ((Tryz.prog.info? 32).map (·.size) = some (#[.int .i64 0, .int .i64 0, .string ⟨#[]⟩, .slice none 0 0, .bool false, .string ⟨#[]⟩] : Array Value).size) := qh size42
  have HP8 : Hid (Pure w (w5.setCells (tb + 1) 0 [.int .i64 0, .int .i64 0, .string ⟨#[]⟩, .slice none 0 0, .bool false, .string ⟨#[]⟩])) := qh (Ext.setCells _ 0 w5 hP (b := (tb + 1)) (fun h => by have := HTb.out; omega))
  have HB9 : Hid (BlockIs (w5.setCells (tb + 1) 0 [.int .i64 0, .int .i64 0, .string ⟨#[]⟩, .slice none 0 0, .bool false, .string ⟨#[]⟩]) (tb + 1) [.int .i64 0, .int .i64 0, .string ⟨#[]⟩, .slice none 0 0, .bool false, .string ⟨#[]⟩] 32) := qh (hBr.setAll [.int .i64 0, .int .i64 0, .string ⟨#[]⟩, .slice none 0 0, .bool false, .string ⟨#[]⟩] rfl)
  clear hBr hP
  go_wp2_with (with_reducible refine V11.at_store 32 (.tmp 2) (.tmp 27) ?_; refine wpList_store_mid rfl 32 (.tmp 2) (.tmp 27) rfl (tb + 1) 0 #[.int .i64 0, .int .i64 0, .string ⟨#[]⟩, .slice none 0 0, .bool false, .string ⟨#[]⟩] rfl rfl HTh.out HSi.out (one6 _ _ _ _ _ _ _ _) ?_)
  refine bodyPost_ret (V11.results_row2 rfl _ _ (tb + 1) _ [.int .i64 0, .int .i64 0, .string ⟨#[]⟩, .slice none 0 0, .bool false, .string ⟨#[]⟩] _ rfl HB9.out Tryz.underlying32 rfl size42) rfl ?_
  exact ⟨[.int .i64 0, .int .i64 0, .string ⟨#[]⟩, .slice none 0 0, .bool false, .string ⟨#[]⟩], by rw [HEr.out]; rfl, by rw [HOo.out]; exact ⟨_, rfl, null_lies _⟩, HP8.out⟩
 subst h2
 have HE0 : Hid (E = 0) := qh (by have h := HEr.out; rw [h]; rfl)
 have HOo : Hid (O = ⟨objV (na : Int), true, strOf A ++ strOf B⟩) := qh (by rw [HOo.out, if_pos HE0.out])
 have hsz : ¬ 9223372036854775807 < (strOf A).size + (strOf B).size := by have h1 := HSz.out; rw [strOf_size, strOf_size]; omega
 go_wp2_with fail
 have hBr := hBr.drew
 have hP := hP.drew
 have HBa : Hid (Bytes w5.drew ra A) := qh (HBa.out.ext (Ext.refl (fun _ => False) w5).drew (fun _ _ => id))
 have HBb : Hid (Bytes w5.drew rb B) := qh (HBb.out.ext (Ext.refl (fun _ => False) w5).drew (fun _ _ => id))
 refine region_start (fun k => k = tb + 1) (by kernel_rfl) ?_
 try simp only [Act.put, sA, sZ, sS]
 refine region_take 1 30 (v := ?vob1) rfl rfl (by kernel_rfl) (by kernel_rfl) (by kernel_rfl) (fun _ _ _ h => h) (by rfl) (fun w' hS => ?hob1) ?rob1
 case hob1 => go_simp; with_reducible rfl
 try simp only [Act.put, sA, sZ, sS]
 refine region_take 2 31 (v := ?vob2) rfl rfl (by kernel_rfl) (by kernel_rfl) (by kernel_rfl) (fun _ _ _ h => h) (by rfl) (fun w' hS => ?hob2) ?rob2
 case hob2 => go_simp; with_reducible rfl
 try simp only [Act.put, sA, sZ, sS]
 refine region_take 6 35 (v := ?vob6) rfl rfl (by kernel_rfl) (by kernel_rfl) (by kernel_rfl) (fun _ _ _ h => h) (by rfl) (fun w' hS => ?hob6) ?rob6
 case hob6 => go_simp; with_reducible rfl
 try simp only [Act.put, sA, sZ, sS]
 refine region_take 7 36 (v := ?vob7) rfl rfl (by kernel_rfl) (by kernel_rfl) (by kernel_rfl) (fun _ _ _ h => h) (by rfl) (fun w' hS => ?hob7) ?rob7
 case hob7 => (have e := conv_txt w' ra rc A (HBa.out.ext hS (fun g hg e => by have h1 := HLa.out g hg; have e' : g.block = tb + 1 := e; omega)); rw [HAl.out] at e; go_simp; with_reducible rfl)
 try simp only [Act.put, sA, sZ, sS]
 refine region_take 8 37 (v := ?vob8) rfl rfl (by kernel_rfl) (by kernel_rfl) (by kernel_rfl) (fun _ _ _ h => h) (by rfl) (fun w' hS => ?hob8) ?rob8
 case hob8 => go_simp; with_reducible rfl
 try simp only [Act.put, sA, sZ, sS]
 refine region_take 9 38 (v := ?vob9) rfl rfl (by kernel_rfl) (by kernel_rfl) (by kernel_rfl) (fun _ _ _ h => h) (by rfl) (fun w' hS => ?hob9) ?rob9
 case hob9 => (have e := conv_txt w' rb rd B (HBb.out.ext hS (fun g hg e => by have h1 := HLb.out g hg; have e' : g.block = tb + 1 := e; omega)); rw [HBl.out] at e; go_simp; with_reducible rfl)
 try simp only [Act.put, sA, sZ, sS]
 refine region_take 10 39 (v := ?vob10) rfl rfl (by kernel_rfl) (by kernel_rfl) (by kernel_rfl) (fun _ _ _ h => h) (by rfl) (fun w' hS => ?hob10) ?rob10
 case hob10 => (go_simp; with_reducible rfl)
 try simp only [Act.put, sA, sZ, sS]
 refine wpAnyH_ready (rs := [0]) (by kernel_rfl) (by simp) (AllReadyH.cons rfl (fun K hK => ?_) AllReadyH.nil)
 go_simp
 refine (V11.name_any ⟨#[83]⟩ _).mono ?_
 rintro e wa ⟨rfl, hPa⟩
 have hBr := hBr.ext hPa id
 have hP := hP.pure hPa
 refine hK.out _ _ ((hPa.mono (fun _ _ e => e.elim))) (fun hHeld => ?_)
 clear hK K hHeld
 refine region_now ((hPa.mono (fun _ _ e => e.elim))) ?_
 try simp only [Act.put, sA, sZ, sS]
 refine wpAnyH_ready (rs := [3]) (by kernel_rfl) (by simp) (AllReadyH.cons rfl (fun K hK => ?_) AllReadyH.nil)
 go_simp
 refine (V11.int_any (na : Int) _).mono ?_
 rintro e wb ⟨rfl, hPb⟩
 have hBr := hBr.ext hPb id
 have hP := hP.pure hPb
 refine hK.out _ _ ((hPb.mono (fun _ _ e => e.elim))) (fun hHeld => ?_)
 clear hK K hHeld
 refine region_now ((hPb.mono (fun _ _ e => e.elim))) ?_
 try simp only [Act.put, sA, sZ, sS]
 refine wpAnyH_ready (rs := [4]) (by kernel_rfl) (by simp) (AllReadyH.cons rfl (fun K hK => ?_) AllReadyH.nil)
 go_simp
 obtain ⟨wc, hwc⟩ : ∃ z, z = wb.alloc (.cells #[.int .i64 5, .int .i64 0, .string ⟨#[83]⟩, .slice none 0 0, .int .i64 2, .int .i64 (na : Int), .string ⟨#[]⟩, .slice none 0 0] 30) := ⟨_, rfl⟩
 have hPc : Pure wb wc := hwc ▸ ext_alloc wb _
 have hRow : RowOf wc (some ⟨wb.heap.size, 0, none⟩) [.int .i64 5, .int .i64 0, .string ⟨#[83]⟩, .slice none 0 0, .int .i64 2, .int .i64 (na : Int), .string ⟨#[]⟩, .slice none 0 0] := hwc ▸ row_at _ rfl rfl
 obtain ⟨sb, hsb⟩ : ∃ z, z = wb.heap.size := ⟨_, rfl⟩
 rw [← hsb] at hRow
 have HRow := qh hRow
 have hBr := hBr.ext hPc id
 have hP := hP.pure hPc
 rw [← hwc, ← hsb]
 clear hwc hsb hRow
 refine hK.out _ _ ((hPc.mono (fun _ _ e => e.elim))) (fun hHeld => ?_)
 clear hK K hHeld
 refine region_now ((hPc.mono (fun _ _ e => e.elim))) ?_
 try simp only [Act.put, sA, sZ, sS]
 refine wpAnyH_ready (rs := [5]) (by kernel_rfl) (by simp) (AllReadyH.cons rfl (fun K hK => ?_) AllReadyH.nil)
 go_simp
 refine (V11.dictof_any 0 [.mk 5 0 ⟨#[83]⟩ [], .mk 2 (na : Int) ⟨#[]⟩ []] _ (some ⟨sb, 0, none⟩) 2 2 wc (dict_fit na wc) HRow.out rfl (by omega)).mono ?_
 rintro e wd ⟨cs3, rfl, hTop, hPd, hOff⟩
 rw [dict_is] at hTop
 have HTop := qh hTop
 have HOff := qh (hOff (tb + 1) (hBr.lt) (V11.zero_off _))
 obtain ⟨a3, c3, xs3, rfl, -⟩ := hTop.parts
 have hBr := hBr.ext hPd id
 have hP := hP.pure hPd
 clear hTop hOff
 refine hK.out _ _ ((hPd.mono (fun _ _ e => e.elim))) (fun hHeld => ?_)
 clear hK K hHeld
 refine region_now ((hPd.mono (fun _ _ e => e.elim))) ?_
 try simp only [Act.put, sA, sZ, sS]
 refine wpAnyH_ready (rs := [11]) (by kernel_rfl) (by simp) (AllReadyH.cons rfl (fun K hK => ?_) AllReadyH.nil)
 go_simp
 refine (stream_any 7 0 ⟨#[]⟩ a3 2 c3 (strOf A ++ strOf B) _).mono ?_
 rintro e we ⟨rfl, hPe⟩
 have HTop := qh (HTop.out.pure hPe)
 have hBr := hBr.ext hPe id
 have hP := hP.pure hPe
 refine hK.out _ _ ((hPe.mono (fun _ _ e => e.elim))) (fun hHeld => ?_)
 clear hK K hHeld
 refine region_now ((hPe.mono (fun _ _ e => e.elim))) ?_
 try simp only [Act.put, sA, sZ, sS]
 refine wpAnyH_ready (rs := [12]) (by kernel_rfl) (by simp) (AllReadyH.cons rfl (fun K hK => ?_) AllReadyH.nil)
 refine step_of_list ?_
 have hTh := qh (hBr.there 6 rfl)
 obtain ⟨wE, hwE⟩ : ∃ z, z = we.setCells (tb + 1) 0 [.int .i64 7, .int .i64 0, .string ⟨#[]⟩, .slice a3 2 c3, .bool true, .string (strOf A ++ strOf B)] := ⟨_, rfl⟩
 have hX : Ext (fun k => k = tb + 1) we wE := hwE ▸ Ext.setCells _ 0 _ (Ext.refl _ _) (fun _ => rfl)
 have hPx : Pure w wE := hwE ▸ Ext.setCells _ 0 _ hP (b := tb + 1) (fun h => by have h2 := HTb.out; omega)
 have hBx : BlockIs wE (tb + 1) [.int .i64 7, .int .i64 0, .string ⟨#[]⟩, .slice a3 2 c3, .bool true, .string (strOf A ++ strOf B)] 32 := hwE ▸ hBr.setAll [.int .i64 7, .int .i64 0, .string ⟨#[]⟩, .slice a3 2 c3, .bool true, .string (strOf A ++ strOf B)] rfl
 have HLx : Hid (V11.Lies wE 2 (objV (na : Int)) [.int .i64 7, .int .i64 0, .string ⟨#[]⟩, .slice a3 2 c3]) := qh (dict_lies (HTop.out.ext hX (fun b hb => by have hb2 : b = tb + 1 := hb; rw [hb2]; exact HOff.out)))
 refine wpList_store_mid rfl 32 (.tmp 2) (.tmp 40) rfl (tb + 1) 0 #[.int .i64 7, .int .i64 0, .string ⟨#[]⟩, .slice a3 2 c3, .bool true, .string (strOf A ++ strOf B)] rfl rfl hTh.out (by exact size42) (one6 _ _ _ _ _ _ _ _) ?_
 have HwE : Hid (we.setCells (tb + 1) 0 (#[.int .i64 7, .int .i64 0, .string ⟨#[]⟩, .slice a3 2 c3, .bool true, .string (strOf A ++ strOf B)] : Array Value).toList = wE) := qh (by rw [hwE])
 rw [HwE.out]
 clear hwE
 refine hK.out _ _ (hX) (fun hHeld => ?_)
 clear hK K hHeld
 refine region_now (hX) ?_
 try simp only [Act.put, sA, sZ, sS]
 refine region_take 13 3 (v := ?vob13) rfl rfl (by kernel_rfl) (by kernel_rfl) (by kernel_rfl) (fun _ _ _ h => h) (by rfl) (fun w' hS => ?hob13) ?rob13
 case hob13 => go_simp; with_reducible rfl
 try simp only [Act.put, sA, sZ, sS]
 refine wpAnyH_done (by kernel_rfl) ?_ _
 go_simp
 try simp only [Act.put, sA, sZ, sS]
 go_wp2_with fail
 refine bodyPost_ret (V11.results_row2 rfl _ _ (tb + 1) _ [.int .i64 7, .int .i64 0, .string ⟨#[]⟩, .slice a3 2 c3, .bool true, .string (strOf A ++ strOf B)] _ rfl hBx Tryz.underlying32 rfl size42) rfl ?_
 exact ⟨[.int .i64 7, .int .i64 0, .string ⟨#[]⟩, .slice a3 2 c3, .bool true, .string (strOf A ++ strOf B)], by rw [HE0.out]; rfl, by rw [HOo.out]; exact ⟨_, rfl, HLx.out⟩, hPx⟩
