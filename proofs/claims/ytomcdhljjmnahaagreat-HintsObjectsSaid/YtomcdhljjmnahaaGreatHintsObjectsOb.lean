/-
  HintsObjects: the stream of any hints is as the document says, or the error. No condition.
-/
import Derived.Test.YtomcdhljjmnahaaGreatOpenHOb
import Derived.Test.YtomcdhljjmnahaaGreatRefObjOb
namespace Go.Proofs.YtomcdhljjmnahaaGreat.hintsObjects
open Go.ChangeShapes Go.WideShapes Go.ChangeAt Go.RowKit Go.Proofs.YtomcdhljjmnahaaGreat
set_option linter.unusedVariables false
set_option linter.unusedSimpArgs false

theorem cmpI_self (x : Int) : V11.cmpI x x = 0 := by unfold V11.cmpI; rw [if_neg (by omega), if_neg (by omega)]
theorem bytes_self : ∀ a : List UInt8, Lib.compareBytes a a = 0
  | [] => rfl
  | a :: p => by rw [Lib.compareBytes, if_neg (by simp), if_neg (by simp)]; exact bytes_self p
mutual
theorem cmp_self : ∀ a : V11.V, a.cmp a = 0
  | .mk k n s l => by
    simp only [V11.V.cmp, cmpI_self, V11.cmpS, bytes_self, cmp_selfL l, V11.orI]
    decide
theorem cmp_selfL : ∀ a : List V11.V, V11.cmpL a a = 0
  | [] => by rw [V11.cmpL]
  | a :: p => by rw [V11.cmpL, cmp_self a, cmp_selfL p]; rfl
end
theorem obj_size (n : Int) : (objV n).size ≤ 100000 := by
  have : (objV n).size = (objV 0).size := by kernel_rfl
  rw [this]; decide
theorem obj_self (h : HT) : (objO h).v.size ≤ 100000 ∧ (objO h).v.cmp (objO h).v = 0 := by
  unfold objO
  split
  · exact ⟨by show (objV _).size ≤ _; exact obj_size _, cmp_self _⟩
  · exact ⟨by show nullO.v.size ≤ _; decide, cmp_self _⟩
set_option maxHeartbeats 4000000 in
set_option maxRecDepth 100000 in
theorem walk (h : HT) (pa la : Option Addr) (pc lc : Nat) (w : World) (hR : HRaw w h pa pc la lc) :
    Calls Tryz.prog 3 #[.agg (hC h pa pc la lc).toArray] w fun e w' => e = .returned (.bool true) ∧ Below w.heap.size w w' := by
  have HFw := Lib.hid (fun W (hP : Pure w W) => fewh_any h pa la pc lc W (hR.pure hP).pages (by have := hR.pcap; unfold maxLen at this; omega) (by have := hR.lcap; unfold maxLen at this; omega))
  have HO1 := Lib.hid (fun W (hP : Pure w W) (hf : fewH h = true) => object_any h pa la pc lc W ((hR.pure hP).mem hf) (fewH_in hf).1)
  have HO2 := Lib.hid (fun W (hP : Pure w W) (hf : fewH h = true) => refobject_any h pa la pc lc W ((hR.pure hP).mem hf) (fewH_in hf).1)
  have HSl := Lib.hid (obj_self h)
  obtain ⟨cs, hcs⟩ : ∃ z, z = hC h pa pc la lc := ⟨_, rfl⟩
  have HL7 : Hid (cs.length = 7) := Lib.hid (by rw [hcs]; rfl)
  rw [← hcs] at HFw HO1 HO2
  rw [← hcs]
  obtain ⟨w2, hw2⟩ : ∃ z, z = (w.alloc (.cells cs.toArray 25)) := ⟨_, rfl⟩
  obtain ⟨tb, htb⟩ : ∃ z, z = w.heap.size := ⟨_, rfl⟩
  have hB1 : BlockIs w2 tb cs 25 := by rw [hw2, htb]; exact BlockIs.new w cs _
  have hPw : Pure w w2 := hw2 ▸ ext_alloc w _
  have HW : Hid ((w.alloc (.cells cs.toArray 25)) = w2) := Lib.hid hw2.symm
  have HTb := Lib.hid htb
  have HRh : Hid ((w.alloc (.cells cs.toArray 25)).rangeAt w.heap.size 0 cs) := Lib.hid (by rw [HW.out, ← htb]; exact hB1.range)
  obtain ⟨fw, hfw⟩ : ∃ z, z = fewH h := ⟨_, rfl⟩
  obtain ⟨O, hOe⟩ : ∃ z, z = objO h := ⟨_, rfl⟩
  obtain ⟨E, hEe⟩ : ∃ z, z = objE h := ⟨_, rfl⟩
  rw [← hfw] at HFw HO1 HO2
  rw [← hOe, ← hEe] at HO1 HO2
  rw [← hOe] at HSl
  clear hfw hOe hEe hR hcs hw2 htb
  go_enter Tryz.func3, Tryz.ntmps3
  go_wp2_with (with_reducible refine V11.at_load 25 (.tmp 1) ?_; refine wpList_load_h rfl (.tmp 1) rfl w.heap.size 0 rfl cs HRh.out HL7.out ?_)
  rw [HW.out, ← HTb.out]
  refine (HFw.out w2 hPw).mono ?_
  rintro e w3 ⟨rfl, hP⟩
  have hB1 := hB1.ext hP id
  have hPw := hPw.pure hP
  clear hP HFw HRh
  cases fw with
  | false =>
    clear HO1 HO2
    go_wp2_with fail
    refine (works_any _).mono ?_
    rintro e wz ⟨rfl, hPz⟩
    go_wp2_with fail
    go_ret
    exact ⟨rfl, (hPw.pure hPz).below⟩
  | true =>
  replace HO1 := Lib.hid (fun W hP => HO1.out W hP rfl)
  replace HO2 := Lib.hid (fun W hP => HO2.out W hP rfl)
  have HRh : Hid (w3.rangeAt tb 0 cs) := Lib.hid hB1.range
  go_wp2_with (with_reducible refine V11.at_load 25 (.tmp 1) ?_; refine wpList_load_h rfl (.tmp 1) rfl tb 0 rfl cs HRh.out HL7.out ?_)
  refine (HO1.out w3 hPw).mono ?_
  rintro e w4 ⟨os4, rfl, hO4, hP⟩
  have hB1 := hB1.ext hP id
  have hPw := hPw.pure hP
  clear hP HO1 HRh
  have hI4 := hO4
  obtain ⟨vs4, rfl, hLv4⟩ := hO4
  obtain ⟨a4, c4, _, rfl, -⟩ := hLv4.kids
  obtain ⟨k4, hk4⟩ : ∃ z, z = O.v.kind := ⟨_, rfl⟩
  obtain ⟨n4, hn4⟩ : ∃ z, z = O.v.n := ⟨_, rfl⟩
  obtain ⟨s4, hs4⟩ : ∃ z, z = O.v.s := ⟨_, rfl⟩
  obtain ⟨l4, hl4⟩ : ∃ z, z = O.v.l.length := ⟨_, rfl⟩
  obtain ⟨st4, hst4⟩ : ∃ z, z = O.st := ⟨_, rfl⟩
  obtain ⟨d4, hd4⟩ : ∃ z, z = O.data := ⟨_, rfl⟩
  rw [← hk4, ← hn4, ← hs4, ← hl4, ← hst4, ← hd4] at hI4 ⊢
  simp only [List.cons_append, List.nil_append] at hI4 ⊢
  have HI4 := Lib.hid hI4
  clear hLv4 hI4
  obtain ⟨w5, hw5⟩ : ∃ z, z = (w4.alloc (.cells #[.int .i64 0, .int .i64 0, .string ⟨#[]⟩, .slice none 0 0, .bool false, .string ⟨#[]⟩] 32)).setCells w4.heap.size 0 (#[.int .i64 k4, .int .i64 n4, .string s4, .slice a4 l4 c4, .bool st4, .string d4] : Array Value).toList := ⟨_, rfl⟩
  have hPs : Pure w4 w5 := hw5 ▸ (Ext.setCells _ 0 _ (ext_alloc w4 _) (b := w4.heap.size) (fun h => by omega))
  have hB3 : BlockIs w5 w4.heap.size [.int .i64 k4, .int .i64 n4, .string s4, .slice a4 l4 c4, .bool st4, .string d4] 32 := hw5 ▸ (BlockIs.new w4 [.int .i64 0, .int .i64 0, .string ⟨#[]⟩, .slice none 0 0, .bool false, .string ⟨#[]⟩] 32).setAll [.int .i64 k4, .int .i64 n4, .string s4, .slice a4 l4 c4, .bool st4, .string d4] rfl
  have HTh3 : Hid ((w4.alloc (.cells #[.int .i64 0, .int .i64 0, .string ⟨#[]⟩, .slice none 0 0, .bool false, .string ⟨#[]⟩] 32)).there w4.heap.size 0 (#[.int .i64 k4, .int .i64 n4, .string s4, .slice a4 l4 c4, .bool st4, .string d4] : Array Value).size) := Lib.hid (BlockIs.there (BlockIs.new w4 [.int .i64 0, .int .i64 0, .string ⟨#[]⟩, .slice none 0 0, .bool false, .string ⟨#[]⟩] 32) 6 rfl)
  have HSi3 : Hid ((Tryz.prog.info? 32).map (·.size) = some (#[.int .i64 k4, .int .i64 n4, .string s4, .slice a4 l4 c4, .bool st4, .string d4] : Array Value).size) := Lib.hid size42
  have HOn3 : Hid (((#[.int .i64 k4, .int .i64 n4, .string s4, .slice a4 l4 c4, .bool st4, .string d4] : Array Value).all fun u => u.oneCell') = true) := Lib.hid (all_oneCell_toArray (by intro u hu; simp only [List.mem_cons, List.not_mem_nil, or_false] at hu; rcases hu with rfl | rfl | rfl | rfl | rfl | rfl <;> rfl))
  have HWw5 := Lib.hid hw5.symm
  clear hw5
  have hB1 := hB1.ext hPs id
  have hPw := hPw.pure hPs
  have HI4 := Lib.hid (HI4.out.pure hPs)
  have HRh : Hid (w5.rangeAt tb 0 cs) := Lib.hid hB1.range
  have HSx : Hid (([.int .i64 k4, .int .i64 n4, .string s4, .slice a4 l4 c4, .bool st4, .string d4] : List Value).length = 6) := Lib.hid rfl
  have HK := Lib.hid (And.intro hk4 (And.intro hn4 (And.intro hs4 (And.intro hl4 (And.intro hst4 hd4)))))
  clear hPs hk4 hn4 hs4 hl4 hst4 hd4
  go_wp2_with (first
    | (with_reducible refine V11.at_store 32 (.tmp 3) (.tmp 14) ?_; refine wpList_store_mid rfl 32 (.tmp 3) (.tmp 14) rfl w4.heap.size 0 #[.int .i64 k4, .int .i64 n4, .string s4, .slice a4 l4 c4, .bool st4, .string d4] rfl rfl HTh3.out HSi3.out HOn3.out ?_; rw [HWw5.out])
    | (with_reducible refine V11.at_load 25 (.tmp 1) ?_; refine wpList_load_h rfl (.tmp 1) rfl tb 0 rfl cs HRh.out HL7.out ?_))
  refine (HO2.out w5 hPw).mono ?_
  rintro e w6 ⟨os5, rfl, hO5, hP⟩
  have hPw := hPw.pure hP
  have hB3 := hB3.ext hP id
  have HI4 := Lib.hid (HI4.out.pure hP)
  clear hP HO2 HRh HTh3 HSi3 HOn3 HWw5 hB1
  have hI5 := hO5
  obtain ⟨vs5, rfl, hLv5⟩ := hO5
  obtain ⟨a5, c5, _, rfl, -⟩ := hLv5.kids
  obtain ⟨hk4, hn4, hs4, hl4, hst4, hd4⟩ := HK.out
  rw [← hk4, ← hn4, ← hs4, ← hl4, ← hst4, ← hd4] at hI5 ⊢
  simp only [List.cons_append, List.nil_append] at hI5 ⊢
  have HI5 := Lib.hid hI5
  clear hLv5 hI5 hk4 hn4 hs4 hl4 hst4 hd4
  obtain ⟨w7, hw7⟩ : ∃ z, z = (w6.alloc (.cells #[.int .i64 0, .int .i64 0, .string ⟨#[]⟩, .slice none 0 0, .bool false, .string ⟨#[]⟩] 32)).setCells w6.heap.size 0 (#[.int .i64 k4, .int .i64 n4, .string s4, .slice a5 l4 c5, .bool st4, .string d4] : Array Value).toList := ⟨_, rfl⟩
  have hPs : Pure w6 w7 := hw7 ▸ (Ext.setCells _ 0 _ (ext_alloc w6 _) (b := w6.heap.size) (fun h => by omega))
  have hB5 : BlockIs w7 w6.heap.size [.int .i64 k4, .int .i64 n4, .string s4, .slice a5 l4 c5, .bool st4, .string d4] 32 := hw7 ▸ (BlockIs.new w6 [.int .i64 0, .int .i64 0, .string ⟨#[]⟩, .slice none 0 0, .bool false, .string ⟨#[]⟩] 32).setAll [.int .i64 k4, .int .i64 n4, .string s4, .slice a5 l4 c5, .bool st4, .string d4] rfl
  have HTh5 : Hid ((w6.alloc (.cells #[.int .i64 0, .int .i64 0, .string ⟨#[]⟩, .slice none 0 0, .bool false, .string ⟨#[]⟩] 32)).there w6.heap.size 0 (#[.int .i64 k4, .int .i64 n4, .string s4, .slice a5 l4 c5, .bool st4, .string d4] : Array Value).size) := Lib.hid (BlockIs.there (BlockIs.new w6 [.int .i64 0, .int .i64 0, .string ⟨#[]⟩, .slice none 0 0, .bool false, .string ⟨#[]⟩] 32) 6 rfl)
  have HSi5 : Hid ((Tryz.prog.info? 32).map (·.size) = some (#[.int .i64 k4, .int .i64 n4, .string s4, .slice a5 l4 c5, .bool st4, .string d4] : Array Value).size) := Lib.hid size42
  have HOn5 : Hid (((#[.int .i64 k4, .int .i64 n4, .string s4, .slice a5 l4 c5, .bool st4, .string d4] : Array Value).all fun u => u.oneCell') = true) := Lib.hid (all_oneCell_toArray (by intro u hu; simp only [List.mem_cons, List.not_mem_nil, or_false] at hu; rcases hu with rfl | rfl | rfl | rfl | rfl | rfl <;> rfl))
  have HWw7 := Lib.hid hw7.symm
  clear hw7
  have hPw := hPw.pure hPs
  have HR3 : Hid (w7.rangeAt w4.heap.size 0 [.int .i64 k4, .int .i64 n4, .string s4, .slice a4 l4 c4, .bool st4, .string d4]) := Lib.hid (hB3.ext hPs id).range
  have HR5 : Hid (w7.rangeAt w6.heap.size 0 [.int .i64 k4, .int .i64 n4, .string s4, .slice a5 l4 c5, .bool st4, .string d4]) := Lib.hid hB5.range
  have HSy : Hid (([.int .i64 k4, .int .i64 n4, .string s4, .slice a5 l4 c5, .bool st4, .string d4] : List Value).length = 6) := Lib.hid rfl
  have HSm := Lib.hid (objsame_yes 2 O _ _ w7 (HI4.out.pure hPs) (HI5.out.pure hPs) HSl.out.1 HSl.out.2)
  clear hPs hB3 hB5 HI4 HI5
  go_wp2_with (first
    | (with_reducible refine V11.at_store 32 (.tmp 5) (.tmp 19) ?_; refine wpList_store_mid rfl 32 (.tmp 5) (.tmp 19) rfl w6.heap.size 0 #[.int .i64 k4, .int .i64 n4, .string s4, .slice a5 l4 c5, .bool st4, .string d4] rfl rfl HTh5.out HSi5.out HOn5.out ?_; rw [HWw7.out])
    | (with_reducible refine V11.at_load 32 (.tmp 3) ?_; refine wpList_load_mid rfl 32 (.tmp 3) rfl w4.heap.size 0 rfl [.int .i64 k4, .int .i64 n4, .string s4, .slice a4 l4 c4, .bool st4, .string d4] _ HR3.out Tryz.underlying32 rfl (sz42 HSx.out) ?_)
    | (with_reducible refine V11.at_load 32 (.tmp 5) ?_; refine wpList_load_mid rfl 32 (.tmp 5) rfl w6.heap.size 0 rfl [.int .i64 k4, .int .i64 n4, .string s4, .slice a5 l4 c5, .bool st4, .string d4] _ HR5.out Tryz.underlying32 rfl (sz42 HSy.out) ?_))
  refine HSm.out.mono ?_
  rintro e w8 ⟨rfl, hP⟩
  have hPw := hPw.pure hP
  clear hP HSm HR3 HR5 HSx HSy HTh5 HSi5 HOn5 HWw7
  go_wp2_with fail
  refine (works_any _).mono ?_
  rintro e wz ⟨rfl, hPz⟩
  go_wp2_with fail
  go_ret
  exact ⟨rfl, (hPw.pure hPz).below⟩

set_option maxRecDepth 100000 in
theorem lifted (os : Os) (started : os.Started) (H : Type) (enc : TypeId × Value → H) :
    ReturnsInHanded {} Tryz.checked os 3 .any (Rows.hintsObjectsSpec.pre6 enc Tryz.prog Tryz.f3 Rows.hintsObjectsRow.domain false) (Rows.hintsObjectsSpec.post enc Tryz.prog Tryz.f3 false true false false) := by
  refine returnsInHanded_of_change (C := Tryz.checked) own started (by kernel_rfl) Tryz.func3
    (ChangeSpec.witness6 (enc := enc) (C := Tryz.checked) false ⟨#[], #[.agg #[.int .i64 0, .int .i64 0, .slice none 0 0, .int .i64 0, .int .i64 0, .int .i64 0, .slice none 0 0]], []⟩ 8 (by kernel_rfl) (by kernel_rfl) (by kernel_rfl) (by kernel_rfl)) ?_
  intro W base args ds gs before hval0 hW hcnd _
  have hval : ∀ (j : Nat) t v, Tryz.f3.params[j]? = some t → args[j]? = some v → Value.okWide Tryz.prog W .any base t v := hval0
  have hW' := hW
  obtain ⟨p, q, hA0, hV, rfl, hfz, hnd⟩ := hW
  have hA : DataW.TrodAll enc Tryz.prog W 0 (fun _ => true) true Tryz.f3.params.toList args.toList ds p := hA0
  rw [Tryz.params3] at hA hval
  obtain ⟨v0, vs0, d0, ds0, p0, q0, hargs, rfl, rfl, h0, r0⟩ := trodAll_cons hA
  obtain ⟨rfl, rfl, rfl⟩ := trodAll_nil r0
  obtain rfl : args = #[v0] := by cases args; simp_all
  obtain ⟨rfl, rfl⟩ := trodVars_none hV
  have k0 := h0
  have lt0 : ∀ x ∈ p0, x.block < W.heap.size := by obtain ⟨m, hm⟩ := k0; exact DataW.trod_lt m _ _ _ hm
  obtain ⟨h0', pa, la, pc, lc, rfl, hR⟩ := open_h (hval 0 25 v0 rfl rfl) h0
  clear hA0 hval0
  refine (walk h0' pa la pc lc W hR).mono fun e W' ⟨he, bel⟩ => ?_
  subst he
  exact ⟨_, rfl, _, _, _, [], _, [], hW', trodAll_mk1 (shut_bool Tryz.underlying4 _), (trodAll_cons_mk (Below.trod laidOut (by kernel_rfl) (of_decide_eq_true (by kernel_rfl)) k0 bel lt0) trodAll_mk0), rfl, bel.frame _, fun h => by cases h⟩

theorem proved : Rows.HintsObjectsSaid :=
  OpenClaim.holds_of_wide 3 Tryz.f3 rfl rfl rfl rfl rfl rfl rfl ⟨rfl, rfl, rfl, rfl, rfl⟩ rfl rfl rfl rfl rfl (by kernel_rfl) Tryz.func3 (by kernel_rfl)
    (of_decide_eq_true (by kernel_rfl)) (by unfold Func.isWrapper; first | (rw [if_pos (by decide +kernel)]; kernel_rfl) | (rw [if_neg (by decide +kernel)]; exact ⟨rfl, rfl⟩))
    (fun os started H enc _ => lifted os started H enc)
#print axioms proved
end Go.Proofs.YtomcdhljjmnahaaGreat.hintsObjects
