/-
  HintsSpans: which bytes any hints tell of, of any page and of any shared object, is as the document says. No condition.
-/
import Derived.Test.YtomcdhljjmnahaaOpenH
import Derived.Test.YtomcdhljjmnahaaRefOwn
namespace Go.Proofs.Ytomcdhljjmnahaa.hintsSpans
open Go.ChangeShapes Go.WideShapes Go.ChangeAt Go.RowKit Go.Proofs.Ytomcdhljjmnahaa
set_option linter.unusedVariables false
set_option linter.unusedSimpArgs false

theorem wpList_load_s {ops : Array Oper} {Q : Exit → Act → World → Prop} {a : Act} {w : World} {rest : List Oper} {op : Oper} (hw : Region.wanted op (yielded ops a.tmps) = true) (x : Operand) (ho : op.op = .load 31 x)
    (b o : Nat) (hx : a.eval x = .pointer (some ⟨b, o, none⟩)) (cs : List Value) (hc : w.rangeAt b o cs) (hl : cs.length = 2)
    (h : wpList Try.prog ops Q rest (a.put op.dst (.agg cs.toArray)) w) : wpList Try.prog ops Q (op :: rest) a w :=
  wpList_wanted hw fun _ hK => wp_load_mid 31 x ho b o hx cs _ hc Try.underlying31 rfl (by rw [hl]; exact sizeSp) (hK _ _ h)
theorem eqSame (x y : Int) (w : World) : (binOp .eql 31 (.agg #[.int .i64 x, .int .i64 y]) (.agg #[.int .i64 x, .int .i64 y])).run Try.prog w = .ok (.bool true) w := by
  rw [run_eql_struct]
  go_simp
  try simp
set_option maxHeartbeats 4000000 in
set_option maxRecDepth 100000 in
theorem walk (h : HT) (pa la : Option Addr) (pc lc : Nat) (l : LT) (n : Int) (w : World) (hR : HRaw w h pa pc la lc) :
    Calls Try.prog 3 #[.agg (hC h pa pc la lc).toArray, .agg (lC l).toArray, .int .i64 n] w fun e w' => e = .returned (.bool true) ∧ Below w.heap.size w w' := by
  have HFw := Lib.hid (fun W (hP : Pure w W) => fewh_any h pa la pc lc W (hR.pure hP).pages (by have := hR.pcap; unfold maxLen at this; omega) (by have := hR.lcap; unfold maxLen at this; omega))
  have HO1 := Lib.hid (fun W (hP : Pure w W) (hf : fewH h = true) => own_any h l n pa la pc lc W ((hR.pure hP).mem hf) (Or.inr hR.pcap.1))
  have HO2 := Lib.hid (fun W (hP : Pure w W) (hf : fewH h = true) => refown_any h l n pa la pc lc W ((hR.pure hP).mem hf))
  have HG1 := Lib.hid (fun W (hP : Pure w W) (hf : fewH h = true) => group_any h n pa la pc lc W ((hR.pure hP).mem hf))
  have HG2 := Lib.hid (fun W (hP : Pure w W) (hf : fewH h = true) => refgroup_any h n pa la pc lc W ((hR.pure hP).mem hf))
  unfold SpanIs spanV at HO1 HO2 HG1 HG2
  obtain ⟨cs, hcs⟩ : ∃ z, z = hC h pa pc la lc := ⟨_, rfl⟩
  obtain ⟨ds, hds⟩ : ∃ z, z = lC l := ⟨_, rfl⟩
  have HL7 : Hid (cs.length = 7) := Lib.hid (by rw [hcs]; rfl)
  have HM7 : Hid (ds.length = 7) := Lib.hid (by rw [hds]; rfl)
  have HCs := Lib.hid hcs
  have HDs := Lib.hid hds
  rw [← hcs, ← hds]
  have hD0 := Hd.new w cs ds
  obtain ⟨w2, hw2⟩ : ∃ z, z = ((w.alloc (.cells cs.toArray 25)).alloc (.cells ds.toArray 27)) := ⟨_, rfl⟩
  obtain ⟨tb, htb⟩ : ∃ z, z = w.heap.size := ⟨_, rfl⟩
  rw [← hw2, ← htb] at hD0
  have HW : Hid (((w.alloc (.cells cs.toArray 25)).alloc (.cells ds.toArray 27)) = w2) := Lib.hid hw2.symm
  have HTb := Lib.hid htb
  have HD := Lib.hid hD0
  clear hcs hds hw2 htb hD0
  rw [← HCs.out] at HFw
  rw [← HCs.out, ← HDs.out] at HO1 HO2
  rw [← HCs.out] at HG1 HG2
  have HRh0 : Hid (((w.alloc (.cells cs.toArray 25)).alloc (.cells ds.toArray 27)).rangeAt w.heap.size 0 cs) := Lib.hid (by rw [HW.out, ← HTb.out]; exact HD.out.b1.range)
  have HRl0 : Hid (((w.alloc (.cells cs.toArray 25)).alloc (.cells ds.toArray 27)).rangeAt (w.heap.size + 1) 0 ds) := Lib.hid (by rw [HW.out, ← HTb.out]; exact HD.out.b2.range)
  obtain ⟨fw, hfw⟩ : ∃ z, z = fewH h := ⟨_, rfl⟩
  rw [← hfw] at HFw HO1 HO2 HG1 HG2
  obtain ⟨O, hO⟩ : ∃ z, z = ownP h l n := ⟨_, rfl⟩
  obtain ⟨G, hG⟩ : ∃ z, z = groupP h n := ⟨_, rfl⟩
  rw [← hO] at HO1 HO2
  rw [← hG] at HG1 HG2
  obtain ⟨ox, hox⟩ : ∃ z, z = (O.getD (0, 0)).1 := ⟨_, rfl⟩
  obtain ⟨oy, hoy⟩ : ∃ z, z = (O.getD (0, 0)).2 := ⟨_, rfl⟩
  obtain ⟨oi, hoi⟩ : ∃ z, z = O.isSome := ⟨_, rfl⟩
  obtain ⟨gx, hgx⟩ : ∃ z, z = (G.getD (0, 0)).1 := ⟨_, rfl⟩
  obtain ⟨gy, hgy⟩ : ∃ z, z = (G.getD (0, 0)).2 := ⟨_, rfl⟩
  obtain ⟨gi, hgi⟩ : ∃ z, z = G.isSome := ⟨_, rfl⟩
  rw [← hox, ← hoy, ← hoi] at HO1 HO2
  rw [← hgx, ← hgy, ← hgi] at HG1 HG2
  clear hfw hO hG hox hoy hoi hgx hgy hgi HCs HDs hR
  go_enter Try.func3, Try.ntmps3
  go_wp2_with (first
    | (with_reducible refine V11.at_load 25 (.tmp 3) ?_; refine wpList_load_h rfl (.tmp 3) rfl w.heap.size 0 rfl cs HRh0.out HL7.out ?_))
  rw [HW.out, ← HTb.out]
  refine (HFw.out w2 HD.out.p).mono ?_
  rintro e w3 ⟨rfl, hP⟩
  have HD := Lib.hid (HD.out.pure hP)
  clear hP HFw HRh0 HRl0
  cases fw with
  | false =>
    clear HO1 HO2 HG1 HG2
    go_wp2_with fail
    refine (works_any _).mono ?_
    rintro e wz ⟨rfl, hPz⟩
    go_wp2_with fail
    go_ret
    exact ⟨rfl, (HD.out.p.pure hPz).below⟩
  | true =>
  replace HO1 := Lib.hid (fun W hP => HO1.out W hP rfl)
  replace HO2 := Lib.hid (fun W hP => HO2.out W hP rfl)
  replace HG1 := Lib.hid (fun W hP => HG1.out W hP rfl)
  replace HG2 := Lib.hid (fun W hP => HG2.out W hP rfl)
  have HRh : Hid (w3.rangeAt tb 0 cs) := Lib.hid HD.out.b1.range
  have HRl : Hid (w3.rangeAt (tb + 1) 0 ds) := Lib.hid HD.out.b2.range
  go_wp2_with (first
    | (with_reducible refine V11.at_load 25 (.tmp 3) ?_; refine wpList_load_h rfl (.tmp 3) rfl tb 0 rfl cs HRh.out HL7.out ?_)
    | (with_reducible refine V11.at_load 27 (.tmp 4) ?_; refine wpList_load_l rfl (.tmp 4) rfl (tb + 1) 0 rfl ds HRl.out HM7.out ?_))
  refine (HO1.out w3 HD.out.p).mono ?_
  rintro e w4 ⟨rfl, hP⟩
  have HD := Lib.hid (HD.out.pure hP)
  clear hP HO1 HRh HRl
  have HTh7 : Hid ((w4.alloc (.cells #[.int .i64 0, .int .i64 0] 31)).there w4.heap.size 0 (#[.int .i64 ox, .int .i64 oy] : Array Value).size) := Lib.hid (BlockIs.there (BlockIs.new w4 [.int .i64 0, .int .i64 0] 31) 2 rfl)
  have HSi7 : Hid ((Try.prog.info? 31).map (·.size) = some (#[.int .i64 ox, .int .i64 oy] : Array Value).size) := Lib.hid sizeSp
  obtain ⟨w5, hw5⟩ : ∃ z, z = (w4.alloc (.cells #[.int .i64 0, .int .i64 0] 31)).setCells w4.heap.size 0 (#[.int .i64 ox, .int .i64 oy] : Array Value).toList := ⟨_, rfl⟩
  have hPs : Pure w4 w5 := hw5 ▸ (Ext.setCells _ 0 _ (ext_alloc w4 _) (b := w4.heap.size) (fun h => by omega))
  have hB7 : BlockIs w5 w4.heap.size [.int .i64 ox, .int .i64 oy] 31 := hw5 ▸ (BlockIs.new w4 [.int .i64 0, .int .i64 0] 31).setAll [.int .i64 ox, .int .i64 oy] rfl
  have HWw5 := Lib.hid hw5.symm
  have HD := Lib.hid (HD.out.pure hPs)
  clear hw5
  clear hPs
  have HRh : Hid (w5.rangeAt tb 0 cs) := Lib.hid HD.out.b1.range
  have HRl : Hid (w5.rangeAt (tb + 1) 0 ds) := Lib.hid HD.out.b2.range
  go_wp2_with (first
    | (with_reducible refine V11.at_store 31 (.tmp 7) (.tmp 24) ?_; refine wpList_store_mid rfl 31 (.tmp 7) (.tmp 24) rfl w4.heap.size 0 #[.int .i64 ox, .int .i64 oy] rfl rfl HTh7.out HSi7.out (one2 _ _) ?_; rw [HWw5.out])
    | (with_reducible refine V11.at_load 25 (.tmp 3) ?_; refine wpList_load_h rfl (.tmp 3) rfl tb 0 rfl cs HRh.out HL7.out ?_)
    | (with_reducible refine V11.at_load 27 (.tmp 4) ?_; refine wpList_load_l rfl (.tmp 4) rfl (tb + 1) 0 rfl ds HRl.out HM7.out ?_))
  refine (HO2.out w5 HD.out.p).mono ?_
  rintro e w6 ⟨rfl, hP⟩
  have HD := Lib.hid (HD.out.pure hP)
  have hB7 := hB7.ext hP id
  clear hP HO2 HRh HRl HTh7 HSi7 HWw5
  have HTh9 : Hid ((w6.alloc (.cells #[.int .i64 0, .int .i64 0] 31)).there w6.heap.size 0 (#[.int .i64 ox, .int .i64 oy] : Array Value).size) := Lib.hid (BlockIs.there (BlockIs.new w6 [.int .i64 0, .int .i64 0] 31) 2 rfl)
  have HSi9 : Hid ((Try.prog.info? 31).map (·.size) = some (#[.int .i64 ox, .int .i64 oy] : Array Value).size) := Lib.hid sizeSp
  obtain ⟨w7, hw7⟩ : ∃ z, z = (w6.alloc (.cells #[.int .i64 0, .int .i64 0] 31)).setCells w6.heap.size 0 (#[.int .i64 ox, .int .i64 oy] : Array Value).toList := ⟨_, rfl⟩
  have hPs : Pure w6 w7 := hw7 ▸ (Ext.setCells _ 0 _ (ext_alloc w6 _) (b := w6.heap.size) (fun h => by omega))
  have hB9 : BlockIs w7 w6.heap.size [.int .i64 ox, .int .i64 oy] 31 := hw7 ▸ (BlockIs.new w6 [.int .i64 0, .int .i64 0] 31).setAll [.int .i64 ox, .int .i64 oy] rfl
  have HWw7 := Lib.hid hw7.symm
  have HD := Lib.hid (HD.out.pure hPs)
  clear hw7
  have hB7 := hB7.ext hPs id
  clear hPs
  have HRh : Hid (w7.rangeAt tb 0 cs) := Lib.hid HD.out.b1.range
  have HRl : Hid (w7.rangeAt (tb + 1) 0 ds) := Lib.hid HD.out.b2.range
  go_wp2_with (first
    | (with_reducible refine V11.at_store 31 (.tmp 9) (.tmp 31) ?_; refine wpList_store_mid rfl 31 (.tmp 9) (.tmp 31) rfl w6.heap.size 0 #[.int .i64 ox, .int .i64 oy] rfl rfl HTh9.out HSi9.out (one2 _ _) ?_; rw [HWw7.out])
    | (with_reducible refine V11.at_load 25 (.tmp 3) ?_; refine wpList_load_h rfl (.tmp 3) rfl tb 0 rfl cs HRh.out HL7.out ?_))
  refine (HG1.out w7 HD.out.p).mono ?_
  rintro e w8 ⟨rfl, hP⟩
  have HD := Lib.hid (HD.out.pure hP)
  have hB7 := hB7.ext hP id
  have hB9 := hB9.ext hP id
  clear hP HG1 HRh HRl HTh9 HSi9 HWw7
  have HTh11 : Hid ((w8.alloc (.cells #[.int .i64 0, .int .i64 0] 31)).there w8.heap.size 0 (#[.int .i64 gx, .int .i64 gy] : Array Value).size) := Lib.hid (BlockIs.there (BlockIs.new w8 [.int .i64 0, .int .i64 0] 31) 2 rfl)
  have HSi11 : Hid ((Try.prog.info? 31).map (·.size) = some (#[.int .i64 gx, .int .i64 gy] : Array Value).size) := Lib.hid sizeSp
  obtain ⟨w9, hw9⟩ : ∃ z, z = (w8.alloc (.cells #[.int .i64 0, .int .i64 0] 31)).setCells w8.heap.size 0 (#[.int .i64 gx, .int .i64 gy] : Array Value).toList := ⟨_, rfl⟩
  have hPs : Pure w8 w9 := hw9 ▸ (Ext.setCells _ 0 _ (ext_alloc w8 _) (b := w8.heap.size) (fun h => by omega))
  have hB11 : BlockIs w9 w8.heap.size [.int .i64 gx, .int .i64 gy] 31 := hw9 ▸ (BlockIs.new w8 [.int .i64 0, .int .i64 0] 31).setAll [.int .i64 gx, .int .i64 gy] rfl
  have HWw9 := Lib.hid hw9.symm
  have HD := Lib.hid (HD.out.pure hPs)
  clear hw9
  have hB7 := hB7.ext hPs id
  have hB9 := hB9.ext hPs id
  clear hPs
  have HRh : Hid (w9.rangeAt tb 0 cs) := Lib.hid HD.out.b1.range
  have HRl : Hid (w9.rangeAt (tb + 1) 0 ds) := Lib.hid HD.out.b2.range
  go_wp2_with (first
    | (with_reducible refine V11.at_store 31 (.tmp 11) (.tmp 37) ?_; refine wpList_store_mid rfl 31 (.tmp 11) (.tmp 37) rfl w8.heap.size 0 #[.int .i64 gx, .int .i64 gy] rfl rfl HTh11.out HSi11.out (one2 _ _) ?_; rw [HWw9.out])
    | (with_reducible refine V11.at_load 25 (.tmp 3) ?_; refine wpList_load_h rfl (.tmp 3) rfl tb 0 rfl cs HRh.out HL7.out ?_))
  refine (HG2.out w9 HD.out.p).mono ?_
  rintro e w10 ⟨rfl, hP⟩
  have HD := Lib.hid (HD.out.pure hP)
  have hB7 := hB7.ext hP id
  have hB9 := hB9.ext hP id
  have hB11 := hB11.ext hP id
  clear hP HG2 HRh HRl HTh11 HSi11 HWw9
  have HTh13 : Hid ((w10.alloc (.cells #[.int .i64 0, .int .i64 0] 31)).there w10.heap.size 0 (#[.int .i64 gx, .int .i64 gy] : Array Value).size) := Lib.hid (BlockIs.there (BlockIs.new w10 [.int .i64 0, .int .i64 0] 31) 2 rfl)
  have HSi13 : Hid ((Try.prog.info? 31).map (·.size) = some (#[.int .i64 gx, .int .i64 gy] : Array Value).size) := Lib.hid sizeSp
  obtain ⟨w11, hw11⟩ : ∃ z, z = (w10.alloc (.cells #[.int .i64 0, .int .i64 0] 31)).setCells w10.heap.size 0 (#[.int .i64 gx, .int .i64 gy] : Array Value).toList := ⟨_, rfl⟩
  have hPs : Pure w10 w11 := hw11 ▸ (Ext.setCells _ 0 _ (ext_alloc w10 _) (b := w10.heap.size) (fun h => by omega))
  have hB13 : BlockIs w11 w10.heap.size [.int .i64 gx, .int .i64 gy] 31 := hw11 ▸ (BlockIs.new w10 [.int .i64 0, .int .i64 0] 31).setAll [.int .i64 gx, .int .i64 gy] rfl
  have HWw11 := Lib.hid hw11.symm
  have HD := Lib.hid (HD.out.pure hPs)
  clear hw11
  have HR7 : Hid (w11.rangeAt w4.heap.size 0 [.int .i64 ox, .int .i64 oy]) := Lib.hid (hB7.ext hPs id).range
  have HR9 : Hid (w11.rangeAt w6.heap.size 0 [.int .i64 ox, .int .i64 oy]) := Lib.hid (hB9.ext hPs id).range
  have HR11 : Hid (w11.rangeAt w8.heap.size 0 [.int .i64 gx, .int .i64 gy]) := Lib.hid (hB11.ext hPs id).range
  have HR13 : Hid (w11.rangeAt w10.heap.size 0 [.int .i64 gx, .int .i64 gy]) := Lib.hid hB13.range
  have q1 := eqSame ox oy
  have q2 := eqSame gx gy
  clear hPs hB7 hB9 hB11 hB13
  go_wp2_with (first
    | (with_reducible refine V11.at_store 31 (.tmp 13) (.tmp 43) ?_; refine wpList_store_mid rfl 31 (.tmp 13) (.tmp 43) rfl w10.heap.size 0 #[.int .i64 gx, .int .i64 gy] rfl rfl HTh13.out HSi13.out (one2 _ _) ?_; rw [HWw11.out])
    | (with_reducible refine V11.at_load 31 (.tmp 7) ?_; refine wpList_load_s rfl (.tmp 7) rfl w4.heap.size 0 rfl [.int .i64 ox, .int .i64 oy] HR7.out rfl ?_)
    | (with_reducible refine V11.at_load 31 (.tmp 9) ?_; refine wpList_load_s rfl (.tmp 9) rfl w6.heap.size 0 rfl [.int .i64 ox, .int .i64 oy] HR9.out rfl ?_)
    | (with_reducible refine V11.at_load 31 (.tmp 11) ?_; refine wpList_load_s rfl (.tmp 11) rfl w8.heap.size 0 rfl [.int .i64 gx, .int .i64 gy] HR11.out rfl ?_)
    | (with_reducible refine V11.at_load 31 (.tmp 13) ?_; refine wpList_load_s rfl (.tmp 13) rfl w10.heap.size 0 rfl [.int .i64 gx, .int .i64 gy] HR13.out rfl ?_))
  refine (works_any _).mono ?_
  rintro e wz ⟨rfl, hPz⟩
  go_wp2_with fail
  go_ret
  exact ⟨rfl, (HD.out.p.pure hPz).below⟩

set_option maxRecDepth 100000 in
theorem lifted (os : Os) (started : os.Started) (H : Type) (enc : TypeId × Value → H) :
    ReturnsInHanded {} Try.checked os 3 .any (Rows.hintsSpansSpec.pre6 enc Try.prog Try.f3 Rows.hintsSpansRow.domain false) (Rows.hintsSpansSpec.post enc Try.prog Try.f3 false true false false) := by
  refine returnsInHanded_of_change (C := Try.checked) own started (by kernel_rfl) Try.func3
    (ChangeSpec.witness6 (enc := enc) (C := Try.checked) false ⟨#[], #[.agg #[.int .i64 0, .int .i64 0, .slice none 0 0, .int .i64 0, .int .i64 0, .int .i64 0, .slice none 0 0], .agg #[.int .i64 0, .int .i64 0, .int .i64 0, .int .i64 0, .int .i64 0, .int .i64 0, .int .i64 0], .int .i64 0], []⟩ 8 (by kernel_rfl) (by kernel_rfl) (by kernel_rfl) (by kernel_rfl)) ?_
  intro W base args ds gs before hval0 hW hcnd _
  have hval : ∀ (j : Nat) t v, Try.f3.params[j]? = some t → args[j]? = some v → Value.okWide Try.prog W .any base t v := hval0
  have hW' := hW
  obtain ⟨p, q, hA0, hV, rfl, hfz, hnd⟩ := hW
  have hA : DataW.TrodAll enc Try.prog W 0 (fun _ => true) true Try.f3.params.toList args.toList ds p := hA0
  rw [Try.params3] at hA hval
  obtain ⟨v0, vs0, d0, ds0, p0, q0, hargs, rfl, rfl, h0, r0⟩ := trodAll_cons hA
  obtain ⟨v1, vs1, d1, ds1, p1, q1, rfl, rfl, rfl, h1, r1⟩ := trodAll_cons r0
  obtain ⟨v2, vs2, d2, ds2, p2, q2, rfl, rfl, rfl, h2, r2⟩ := trodAll_cons r1
  obtain ⟨rfl, rfl, rfl⟩ := trodAll_nil r2
  obtain rfl : args = #[v0, v1, v2] := by cases args; simp_all
  obtain ⟨rfl, rfl⟩ := trodVars_none hV
  have k0 := h0
  have lt0 : ∀ x ∈ p0, x.block < W.heap.size := by obtain ⟨m, hm⟩ := k0; exact DataW.trod_lt m _ _ _ hm
  have k1 := h1
  have lt1 : ∀ x ∈ p1, x.block < W.heap.size := by obtain ⟨m, hm⟩ := k1; exact DataW.trod_lt m _ _ _ hm
  have k2 := h2
  have lt2 : ∀ x ∈ p2, x.block < W.heap.size := by obtain ⟨m, hm⟩ := k2; exact DataW.trod_lt m _ _ _ hm
  obtain ⟨h0', pa, la, pc, lc, rfl, hR⟩ := open_h (hval 0 25 v0 rfl rfl) h0
  obtain ⟨l0, rfl⟩ := open_l (hval 1 27 v1 rfl rfl) h1
  obtain ⟨x2, rfl, rfl, wx2⟩ := open_int Try.underlying3 (hval 2 3 v2 rfl rfl) h2
  clear hA0 hval0
  refine (walk h0' pa la pc lc l0 x2 W hR).mono fun e W' ⟨he, bel⟩ => ?_
  subst he
  exact ⟨_, rfl, _, _, _, [], _, [], hW', trodAll_mk1 (shut_bool Try.underlying4 _), (trodAll_cons_mk (Below.trod laidOut (by kernel_rfl) (of_decide_eq_true (by kernel_rfl)) k0 bel lt0) (trodAll_cons_mk (Below.trod laidOut (by kernel_rfl) (of_decide_eq_true (by kernel_rfl)) k1 bel lt1) (trodAll_cons_mk (Below.trod laidOut (by kernel_rfl) (of_decide_eq_true (by kernel_rfl)) k2 bel lt2) trodAll_mk0))), rfl, bel.frame _, fun h => by cases h⟩

theorem proved : Rows.HintsSpansSaid :=
  OpenClaim.holds_of_wide 3 Try.f3 rfl rfl rfl rfl rfl rfl rfl ⟨rfl, rfl, rfl, rfl, rfl⟩ rfl rfl rfl rfl rfl (by kernel_rfl) Try.func3 (by kernel_rfl)
    (of_decide_eq_true (by kernel_rfl)) (by unfold Func.isWrapper; first | (rw [if_pos (by decide +kernel)]; kernel_rfl) | (rw [if_neg (by decide +kernel)]; exact ⟨rfl, rfl⟩))
    (fun os started H enc _ => lifted os started H enc)
#print axioms proved
end Go.Proofs.Ytomcdhljjmnahaa.hintsSpans
