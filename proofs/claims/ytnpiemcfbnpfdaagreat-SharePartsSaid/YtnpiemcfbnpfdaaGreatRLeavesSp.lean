import Derived.Test.YtnpiemcfbnpfdaaGreatRDownSp
import Derived.Test.YtnpiemcfbnpfdaaGreatSqSp
set_option linter.unusedVariables false
set_option linter.unusedSimpArgs false
set_option maxRecDepth 100000
namespace Go.Proofs.YtnpiemcfbnpfdaaGreat
open Go.RowKit Go.Maps
theorem infoLfR : (Tryz.prog.info? 72).map (fun i => (i.zero, i.size, i.bytes)) = some (some (.agg #[.int .i64 0, .slice none 0 0, .int .i64 0, .int .i64 0, .string ⟨#[]⟩, .slice none 0 0]), 6, 88) := by kernel_rfl
set_option maxHeartbeats 2000000 in
theorem refpages_any (d : Nat) (l : List Ob) (oa : Option Addr) (oc : Nat) (root : Int) (rows : List (List Value)) (n : Int) (w0 w : World) (hP0 : Pure w0 w) (hD : DocOk w0 d l oa rows root) (kids : List Int) (q : Int) (hT : TopOk l root n kids q) :
 Calls Tryz.prog 39 #[.agg #[.bool true, .slice oa l.length oc, .slice none 0 0, .slice none 0 0, .slice none 0 0, .int .i64 root]] w (fun e w' => e = .returned (.tuple #[.int .i64 q, .int .i64 0, .int .i64 0]) ∧ Pure w w') := by
 have HTo := qh (fun W (hP : Pure w W) => reftop_any d l oa oc root rows n w0 W (hP0.pure hP) hD kids q hT);have HNo := qh (fun cs (hL : Lies w0 (d + 1) (obAt l n).v cs) W (hP : Pure w W) => refnode_any d (obAt l n) cs w0 W (hP0.pure hP) hL (hD.at_size n));unfold RNodTo at HNo;rw [hT.node] at HNo;unfold RTopTo at HTo;obtain ⟨o, ho⟩ : ∃ z, z = obAt l n := ⟨_, rfl⟩;rw [← ho] at HTo HNo;obtain ⟨st, hst⟩ : ∃ z, z = o.st := ⟨_, rfl⟩;obtain ⟨dt, hdt⟩ : ∃ z, z = o.data := ⟨_, rfl⟩;rw [← hst, ← hdt] at HTo HNo;obtain ⟨ln, hln⟩ : ∃ z, z = l.length := ⟨_, rfl⟩;rw [← hln] at HTo ⊢;obtain ⟨w1, hw1⟩ : ∃ z, z = w.alloc (.cells #[.bool true, .slice oa ln oc, .slice none 0 0, .slice none 0 0, .slice none 0 0, .int .i64 root] 64) := ⟨_, rfl⟩;have HP1 : Hid (Pure w w1) := qh (by rw [hw1]; exact ext_alloc w _);have HBf1 : Hid (BlockIs w1 w.heap.size [.bool true, .slice oa ln oc, .slice none 0 0, .slice none 0 0, .slice none 0 0, .int .i64 root] 64) := qh (by rw [hw1]; exact BlockIs.new w _ _);have HW1 := qh hw1.symm;obtain ⟨tb, htb⟩ : ∃ z, z = w.heap.size := ⟨_, rfl⟩;rw [← htb] at HBf1;have HTb := qh htb.symm;have f0 : w1.cell? ⟨tb, 0, none⟩ = some (.bool true) := HBf1.out.cell 0;have f1 : w1.cell? ⟨tb, 0 + 1, none⟩ = some (.slice oa ln oc) := HBf1.out.cell 1;have f2 : w1.cell? ⟨tb, 0 + 2, none⟩ = some (.slice none 0 0) := HBf1.out.cell 2;have f3 : w1.cell? ⟨tb, 0 + 3, none⟩ = some (.slice none 0 0) := HBf1.out.cell 3;have f4 : w1.cell? ⟨tb, 0 + 4, none⟩ = some (.slice none 0 0) := HBf1.out.cell 4;have f5 : w1.cell? ⟨tb, 0 + 5, none⟩ = some (.int .i64 root) := HBf1.out.cell 5;clear hP0 hD hT ho hst hdt hln hw1 htb
 go_enter Tryz.func39, Tryz.ntmps39
 go_upto_region 1 with (fail)
 rw [HW1.out, HTb.out]
 go_wp2_with fail
 refine (HTo.out w1 HP1.out).mono ?_;rintro e w2 ⟨cs, rfl, hL, hP2⟩;obtain ⟨k, m, s, a, c, d2, hcs⟩ := hL.form;subst hcs;have HNo2 := qh (HNo.out _ hL);obtain ⟨w3, hw3⟩ : ∃ z, z = w2.alloc (.cells #[.int .i64 k, .int .i64 m, .string s, .slice a c d2, .bool st, .string dt] 50) := ⟨_, rfl⟩;have HP3 := qh ((HP1.out.pure hP2).pure (show Pure w2 w3 by rw [hw3]; exact ext_alloc _ _));have HBo : Hid (BlockIs w3 w2.heap.size [.int .i64 k, .int .i64 m, .string s, .slice a c d2, .bool st, .string dt] 50) := qh (by rw [hw3]; exact BlockIs.new _ _ _);have HW3 := qh hw3.symm;obtain ⟨b7, hb7⟩ : ∃ z, z = w2.heap.size := ⟨_, rfl⟩;rw [← hb7] at HBo;have HB7 := qh hb7.symm;have o0 : w3.cell? ⟨b7, 0, none⟩ = some (.int .i64 k) := HBo.out.cell 0;have o1 : w3.cell? ⟨b7, 0 + 1, none⟩ = some (.int .i64 m) := HBo.out.cell 1;have o2 : w3.cell? ⟨b7, 0 + 2, none⟩ = some (.string s) := HBo.out.cell 2;have o3 : w3.cell? ⟨b7, 0 + 3, none⟩ = some (.slice a c d2) := HBo.out.cell 3;have o4 : w3.cell? ⟨b7, 0 + 4, none⟩ = some (.bool st) := HBo.out.cell 4;have o5 : w3.cell? ⟨b7, 0 + 5, none⟩ = some (.string dt) := HBo.out.cell 5;clear hL hw3 hb7 hP2 f0 f1 f2 f3 f4 f5 HNo HTo
 go_upto_region 4 with (fail)
 rw [HW3.out, HB7.out]
 go_wp2_with fail
 refine (HNo2.out w3 HP3.out).mono ?_;rintro e w4 ⟨na, nm, ncap, nc, rfl, hP4, hk⟩;obtain ⟨_, hkc, _⟩ := hk kids q rfl;subst hkc;have HP4 := qh (HP3.out.pure hP4);clear hP4 hk o0 o1 o2 o3 o4 o5
 go_wp2_with fail
 go_ret3;exact ⟨rfl, HP4.out⟩
set_option maxHeartbeats 2000000 in
theorem reffindp_any (d : Nat) (l : List Ob) (oa : Option Addr) (oc : Nat) (root : Int) (rows : List (List Value)) (n : Int) (w0 w : World) (hP0 : Pure w0 w) (hD : DocOk w0 d l oa rows root) (kids : List Int) (q : Int) (hT : TopOk l root n kids q) (p : Int) (hp0 : 0 ≤ p) (hpq : p < q)
 (R : Int × List Int × V) (hR : findP l 64 n kids q p [] emptyV = some R) :
 Calls Tryz.prog 40 #[.agg #[.bool true, .slice oa l.length oc, .slice none 0 0, .slice none 0 0, .slice none 0 0, .int .i64 root], .int .i64 p] w (RLfTo w0 d R w) := by
 have HTo := qh (fun W (hP : Pure w W) => reftop_any d l oa oc root rows n w0 W (hP0.pure hP) hD kids q hT);have HNo := qh (fun cs (hL : Lies w0 (d + 1) (obAt l n).v cs) W (hP : Pure w W) => refnode_any d (obAt l n) cs w0 W (hP0.pure hP) hL (hD.at_size n));unfold RNodTo at HNo;rw [hT.node] at HNo;unfold RTopTo at HTo;have HDn := qh (fun cs (hL : Lies w0 (d + 1) (obAt l n).v cs) W (hP : Pure w W) => refdown_any d l oa oc root rows w0 hD R 64 n p kids q [] [] none none 0 0 [] cs W rfl rfl (hP0.pure hP) hT.node hL hp0 hpq (fun i u hu => by cases hu) (fun _ => ⟨rfl, rfl⟩) Fit.nil (fun i u hu => by cases hu) (fun _ => ⟨rfl, rfl⟩) (fun v hv => by cases hv) hR);rw [show ([] : List Int).length = 0 from rfl, show ([] : List V).length = 0 from rfl] at HDn;unfold RLfTo at HDn;obtain ⟨o, ho⟩ : ∃ z, z = obAt l n := ⟨_, rfl⟩;rw [← ho] at HTo HNo HDn;obtain ⟨st, hst⟩ : ∃ z, z = o.st := ⟨_, rfl⟩;obtain ⟨dt, hdt⟩ : ∃ z, z = o.data := ⟨_, rfl⟩;rw [← hst, ← hdt] at HTo HNo HDn;obtain ⟨ln, hln⟩ : ∃ z, z = l.length := ⟨_, rfl⟩;rw [← hln] at HTo HDn ⊢;obtain ⟨w1, hw1⟩ : ∃ z, z = (w.alloc (.cells #[.bool true, .slice oa ln oc, .slice none 0 0, .slice none 0 0, .slice none 0 0, .int .i64 root] 64)).alloc (.cells #[.int .i64 0, .slice none 0 0, .int .i64 0, .int .i64 0, .string ⟨#[]⟩, .slice none 0 0] 72) := ⟨_, rfl⟩;have HP1 : Hid (Pure w w1) := qh (by rw [hw1]; exact (ext_alloc w _).pure (ext_alloc _ _));have HBf1 : Hid (BlockIs w1 w.heap.size [.bool true, .slice oa ln oc, .slice none 0 0, .slice none 0 0, .slice none 0 0, .int .i64 root] 64) := qh (by rw [hw1]; exact (BlockIs.new w _ _).alloc _);have HBz1 : Hid (BlockIs w1 (w.heap.size + 1) [.int .i64 0, .slice none 0 0, .int .i64 0, .int .i64 0, .string ⟨#[]⟩, .slice none 0 0] 72) := qh (by
  have := BlockIs.new (w.alloc (.cells #[.bool true, .slice oa ln oc, .slice none 0 0, .slice none 0 0, .slice none 0 0, .int .i64 root] 64)) [.int .i64 0, .slice none 0 0, .int .i64 0, .int .i64 0, .string ⟨#[]⟩, .slice none 0 0] 72;rw [World.size_alloc] at this;rw [hw1]; exact this)
 have HW1 := qh hw1.symm;obtain ⟨tb, htb⟩ : ∃ z, z = w.heap.size := ⟨_, rfl⟩;rw [← htb] at HBf1 HBz1;have HTb := qh htb.symm;have f0 : w1.cell? ⟨tb, 0, none⟩ = some (.bool true) := HBf1.out.cell 0;have f1 : w1.cell? ⟨tb, 0 + 1, none⟩ = some (.slice oa ln oc) := HBf1.out.cell 1;have f2 : w1.cell? ⟨tb, 0 + 2, none⟩ = some (.slice none 0 0) := HBf1.out.cell 2;have f3 : w1.cell? ⟨tb, 0 + 3, none⟩ = some (.slice none 0 0) := HBf1.out.cell 3;have f4 : w1.cell? ⟨tb, 0 + 4, none⟩ = some (.slice none 0 0) := HBf1.out.cell 4;have f5 : w1.cell? ⟨tb, 0 + 5, none⟩ = some (.int .i64 root) := HBf1.out.cell 5;have hpl : ¬ p < 0 := by omega
 have hpr : ¬ q ≤ p := by omega
 clear hP0 hD hT ho hst hdt hln hw1 htb hR
 go_enter Tryz.func40, Tryz.ntmps40
 go_upto_region 1 with (fail)
 rw [HW1.out, HTb.out]
 go_wp2_with fail
 refine (HTo.out w1 HP1.out).mono ?_;rintro e w2 ⟨cs, rfl, hL, hP2⟩;obtain ⟨k, m, s, a, c, d2, hcs⟩ := hL.form;subst hcs;have HNo2 := qh (HNo.out _ hL);have HDn2 := qh (HDn.out _ hL);obtain ⟨w3, hw3⟩ : ∃ z, z = w2.alloc (.cells #[.int .i64 k, .int .i64 m, .string s, .slice a c d2, .bool st, .string dt] 50) := ⟨_, rfl⟩;have hP23 : Pure w2 w3 := by rw [hw3]; exact ext_alloc _ _
 have HP3 := qh ((HP1.out.pure hP2).pure hP23);have HBf3 := qh (HBf1.out.ext (hP2.pure hP23) id);have HBz3 := qh (HBz1.out.ext (hP2.pure hP23) id);have HBo : Hid (BlockIs w3 w2.heap.size [.int .i64 k, .int .i64 m, .string s, .slice a c d2, .bool st, .string dt] 50) := qh (by rw [hw3]; exact BlockIs.new _ _ _);have HW3 := qh hw3.symm;obtain ⟨b7, hb7⟩ : ∃ z, z = w2.heap.size := ⟨_, rfl⟩;rw [← hb7] at HBo;have HB7 := qh hb7.symm;have o0 : w3.cell? ⟨b7, 0, none⟩ = some (.int .i64 k) := HBo.out.cell 0;have o1 : w3.cell? ⟨b7, 0 + 1, none⟩ = some (.int .i64 m) := HBo.out.cell 1;have o2 : w3.cell? ⟨b7, 0 + 2, none⟩ = some (.string s) := HBo.out.cell 2;have o3 : w3.cell? ⟨b7, 0 + 3, none⟩ = some (.slice a c d2) := HBo.out.cell 3;have o4 : w3.cell? ⟨b7, 0 + 4, none⟩ = some (.bool st) := HBo.out.cell 4;have o5 : w3.cell? ⟨b7, 0 + 5, none⟩ = some (.string dt) := HBo.out.cell 5;clear hL hw3 hb7 hP2 hP23 f0 f1 f2 f3 f4 f5 HNo HTo HDn HBf1 HBz1
 go_upto_region 4 with (fail)
 rw [HW3.out, HB7.out]
 go_wp2_with fail
 refine (HNo2.out w3 HP3.out).mono ?_;rintro e w4 ⟨na, nm, ncap, nc, rfl, hP4, hk⟩;obtain ⟨_, hkc, _⟩ := hk kids q rfl;subst hkc;have HP4 := qh (HP3.out.pure hP4);have HBf4 := qh (HBf3.out.ext hP4 id);have HBz4 := qh (HBz3.out.ext hP4 id);have HBo4 := qh (HBo.out.ext hP4 id);clear hP4 hk o0 o1 o2 o3 o4 o5 HBf3 HBz3 HBo;have f0 : w4.cell? ⟨tb, 0, none⟩ = some (.bool true) := HBf4.out.cell 0;have f1 : w4.cell? ⟨tb, 0 + 1, none⟩ = some (.slice oa ln oc) := HBf4.out.cell 1;have f2 : w4.cell? ⟨tb, 0 + 2, none⟩ = some (.slice none 0 0) := HBf4.out.cell 2;have f3 : w4.cell? ⟨tb, 0 + 3, none⟩ = some (.slice none 0 0) := HBf4.out.cell 3;have f4 : w4.cell? ⟨tb, 0 + 4, none⟩ = some (.slice none 0 0) := HBf4.out.cell 4;have f5 : w4.cell? ⟨tb, 0 + 5, none⟩ = some (.int .i64 root) := HBf4.out.cell 5;have o0 : w4.cell? ⟨b7, 0, none⟩ = some (.int .i64 k) := HBo4.out.cell 0;have o1 : w4.cell? ⟨b7, 0 + 1, none⟩ = some (.int .i64 m) := HBo4.out.cell 1;have o2 : w4.cell? ⟨b7, 0 + 2, none⟩ = some (.string s) := HBo4.out.cell 2;have o3 : w4.cell? ⟨b7, 0 + 3, none⟩ = some (.slice a c d2) := HBo4.out.cell 3;have o4 : w4.cell? ⟨b7, 0 + 4, none⟩ = some (.bool st) := HBo4.out.cell 4;have o5 : w4.cell? ⟨b7, 0 + 5, none⟩ = some (.string dt) := HBo4.out.cell 5
 go_wp2_with fail
 refine (HDn2.out w4 HP4.out).mono ?_;rintro e w5 ⟨lcs, rfl, hOk, hP5, hFr⟩;obtain ⟨fn, fa, fc, fe, fk, fm, fs, fb, ff, fg, hlc⟩ := hOk.form;subst hlc;have hBz := HBz4.out.ext hP5 id;have HTh : Hid (w5.there (tb + 1) 0 (#[.int .i64 fn, .slice fa fc fe, .int .i64 fk, .int .i64 fm, .string fs, .slice fb ff fg] : Array Value).size) := qh (hBz.there 6 rfl);have HSi : Hid ((Tryz.prog.info? 72).map (·.size) = some (#[.int .i64 fn, .slice fa fc fe, .int .i64 fk, .int .i64 fm, .string fs, .slice fb ff fg] : Array Value).size) := qh size72;have HOn : Hid ((#[.int .i64 fn, .slice fa fc fe, .int .i64 fk, .int .i64 fm, .string fs, .slice fb ff fg] : Array Value).all (fun u => u.oneCell') = true) := qh one6;have HBs : Hid (BlockIs (w5.setCells (tb + 1) 0 [.int .i64 fn, .slice fa fc fe, .int .i64 fk, .int .i64 fm, .string fs, .slice fb ff fg]) (tb + 1) [.int .i64 fn, .slice fa fc fe, .int .i64 fk, .int .i64 fm, .string fs, .slice fb ff fg] 72) := qh (hBz.setAll _ rfl);have hX : Ext (fun b => b = tb + 1) w5 (w5.setCells (tb + 1) 0 [.int .i64 fn, .slice fa fc fe, .int .i64 fk, .int .i64 fm, .string fs, .slice fb ff fg]) := Ext.setCells (S := fun b => b = tb + 1) _ 0 _ (Ext.refl _ _) (fun _ => rfl);have hlt := HBz4.out.lt;have HOk : Hid (LeafOk w0 (w5.setCells (tb + 1) 0 [.int .i64 fn, .slice fa fc fe, .int .i64 fk, .int .i64 fm, .string fs, .slice fb ff fg]) d R [.int .i64 fn, .slice fa fc fe, .int .i64 fk, .int .i64 fm, .string fs, .slice fb ff fg]) := qh (hOk.ext hX (fun b hb => by subst hb; exact hFr _ hlt));have HFr : Hid (∀ b, b < w.heap.size → LeafOff b R [.int .i64 fn, .slice fa fc fe, .int .i64 fk, .int .i64 fm, .string fs, .slice fb ff fg]) := qh (fun b hb => hFr b (by have := HTb.out; omega));have HPs : Hid (Pure w (w5.setCells (tb + 1) 0 [.int .i64 fn, .slice fa fc fe, .int .i64 fk, .int .i64 fm, .string fs, .slice fb ff fg])) := qh ((HP4.out.pure hP5).trans hX (fun i hi e => by have := HTb.out; omega));clear hOk hP5 hFr hBz hX hlt f0 f1 f2 f3 f4 f5 o0 o1 o2 o3 o4 o5
 go_wp2_with (with_reducible refine at_store 72 (.tmp 4) (.tmp 45) ?_; refine wpList_store_mid rfl 72 (.tmp 4) (.tmp 45) rfl (tb + 1) 0 #[.int .i64 fn, .slice fa fc fe, .int .i64 fk, .int .i64 fm, .string fs, .slice fb ff fg] rfl rfl HTh.out HSi.out HOn.out ?_)
 refine bodyPost_ret (results_row3 rfl _ _ (tb + 1) _ [.int .i64 fn, .slice fa fc fe, .int .i64 fk, .int .i64 fm, .string fs, .slice fb ff fg] _ rfl HBs.out Tryz.underlying72 rfl size72) rfl ?_;exact ⟨[.int .i64 fn, .slice fa fc fe, .int .i64 fk, .int .i64 fm, .string fs, .slice fb ff fg], rfl, HOk.out, HPs.out, HFr.out⟩
structure RLeavesI (w0 w : World) (d R0 : Nat) (Rs : List (Int × List Int × V)) (a : Option Addr) (c : Nat) (rows : List (List Value)) (W : World) : Prop where
 base : Pure w W
 len : rows.length = Rs.length
 row : W.ownsRow R0 72 6 (.slice a Rs.length c) Rs.length (rows.flatMap id)
 ok : ∀ (i : Nat) (R : Int × List Int × V) (r : List Value), Rs[i]? = some R → rows[i]? = some r → LeafOk w0 W d R r ∧ ∀ b, (Value.slice a Rs.length c).ownBlock = some b → LeafOff b R r
 rs : R0 ≤ W.heap.size
 lo : w.heap.size ≤ R0
theorem RLeavesI.pure {w0 w : World} {d R0 : Nat} {Rs : List (Int × List Int × V)} {a : Option Addr} {c : Nat} {rows : List (List Value)} {W W' : World} (h : RLeavesI w0 w d R0 Rs a c rows W) (hP : Pure W W') : RLeavesI w0 w d R0 Rs a c rows W' :=
 ⟨h.base.pure hP, h.len, own_ext h.row hP (fun _ _ => id), fun i R r hR hr => ⟨(h.ok i R r hR hr).1.pure hP, (h.ok i R r hR hr).2⟩, Nat.le_trans h.rs hP.size, h.lo⟩
theorem RLeavesI.step {w0 w : World} {d R0 : Nat} {Rs : List (Int × List Int × V)} {a a2 : Option Addr} {c c2 : Nat} {rows : List (List Value)} {W W2 : World} {R : Int × List Int × V} {cs : List Value}
 (h : RLeavesI w0 w d R0 Rs a c rows W) (hL : LeafOk w0 W d R cs) (hO : ∀ b, (Value.slice a Rs.length c).ownBlock = some b → LeafOff b R cs)
 (hO2 : W2.ownsRow R0 72 6 (.slice a2 (Rs.length + 1) c2) (Rs.length + 1) (rows.flatMap id ++ cs)) (hg : W.grownBy W2 (Value.slice a Rs.length c).ownBlock) (hf : ∀ x, a2 = some x → (Value.slice a Rs.length c).ownBlock = some x.block ∨ W.heap.size ≤ x.block) :
 RLeavesI w0 w d R0 (Rs ++ [R]) a2 c2 (rows ++ [cs]) W2 := by
 have hE := ext_of_grown hg;have hall : ∀ (i : Nat) (R' : Int × List Int × V) (r : List Value), (Rs ++ [R])[i]? = some R' → (rows ++ [cs])[i]? = some r → LeafOk w0 W d R' r ∧ ∀ b, (Value.slice a Rs.length c).ownBlock = some b → LeafOff b R' r := by
  intro i R' r hR hr
  by_cases hi : i < Rs.length
  ·rw [List.getElem?_append_left hi] at hR
   rw [List.getElem?_append_left (by rw [h.len]; exact hi)] at hr;exact h.ok i R' r hR hr
  ·have hi2 : i = Rs.length := by
    have := (List.getElem?_eq_some_iff.1 hR).1;rw [List.length_append, List.length_singleton] at this
    omega
   subst hi2;rw [List.getElem?_append_right (Nat.le_refl _), Nat.sub_self] at hR;rw [List.getElem?_append_right (by rw [h.len]; exact Nat.le_refl _), h.len, Nat.sub_self] at hr;cases hR
   cases hr
   exact ⟨hL, hO⟩
 refine ⟨h.base.trans hE (fun b hb e => by have := (h.row.lt b e).1; have := h.lo; omega), by rw [List.length_append, List.length_append, h.len]; rfl, ?_, fun i R' r hR hr => ?_, Nat.le_trans h.rs hE.size, h.lo⟩
 ·have e : (rows ++ [cs]).flatMap id = rows.flatMap id ++ cs := by rw [List.flatMap_append]; simp
  rw [e, List.length_append];exact hO2
 ·obtain ⟨h1, h2⟩ := hall i R' r hR hr
  refine ⟨h1.ext hE (fun b hb => h2 b hb), fun b hb => ?_⟩
  obtain ⟨x, hx, hxb⟩ : ∃ x, a2 = some x ∧ x.block = b := by
   cases a2 with
   | none => cases hb
   | some x => exact ⟨x, rfl, Option.some.inj hb⟩
  rcases hf x hx with hf | hf
  ·exact h2 b (by rw [← hxb]; exact hf)
  ·exact h1.off_new (by omega)
set_option maxHeartbeats 4000000 in
theorem refleaves_any (d : Nat) (l : List Ob) (oa : Option Addr) (oc : Nat) (root : Int) (rows : List (List Value)) (n0 : Int) (w0 w : World) (hP0 : Pure w0 w) (hD : DocOk w0 d l oa rows root)
 (kids0 : List Int) (q0 : Int) (hT : TopOk l root n0 kids0 q0) (Rs : List (Int × List Int × V)) (hq : (Rs.length : Int) = q0) (hR : ∀ (p : Nat) (h : p < Rs.length), findP l 64 n0 kids0 q0 (p : Int) [] emptyV = some Rs[p]) :
 Calls Tryz.prog 20 #[.agg #[.bool true, .slice oa l.length oc, .slice none 0 0, .slice none 0 0, .slice none 0 0, .int .i64 root]] w (LeavesTo w0 d Rs w) := by
 have HPg := qh (fun W (hP : Pure w W) => refpages_any d l oa oc root rows n0 w0 W (hP0.pure hP) hD kids0 q0 hT);have HFi := qh (fun (p : Nat) (h : p < Rs.length) W (hP : Pure w W) => reffindp_any d l oa oc root rows n0 w0 W (hP0.pure hP) hD kids0 q0 hT (p : Int) (by omega) (by omega) Rs[p] (hR p h));have hq2 : Rs.length ≤ 2048 := by have := (node_typed hT.node).2.2.2; omega
 obtain ⟨n, hn⟩ : ∃ z, z = Rs.length := ⟨_, rfl⟩;rw [← hn] at hq hq2;have HN := qh hn;rw [← hq] at HPg;unfold RLfTo at HFi;obtain ⟨ln, hln⟩ : ∃ z, z = l.length := ⟨_, rfl⟩;rw [← hln] at HPg HFi ⊢;obtain ⟨w1, hw1⟩ : ∃ z, z = w.alloc (.cells #[.bool true, .slice oa ln oc, .slice none 0 0, .slice none 0 0, .slice none 0 0, .int .i64 root] 64) := ⟨_, rfl⟩;have HP1 : Hid (Pure w w1) := qh (by rw [hw1]; exact ext_alloc w _);have HBf1 : Hid (BlockIs w1 w.heap.size [.bool true, .slice oa ln oc, .slice none 0 0, .slice none 0 0, .slice none 0 0, .int .i64 root] 64) := qh (by rw [hw1]; exact BlockIs.new w _ _);have HW1 := qh hw1.symm;obtain ⟨tb, htb⟩ : ∃ z, z = w.heap.size := ⟨_, rfl⟩;rw [← htb] at HBf1;have HTb := qh htb.symm;have f0 : w1.cell? ⟨tb, 0, none⟩ = some (.bool true) := HBf1.out.cell 0;have f1 : w1.cell? ⟨tb, 0 + 1, none⟩ = some (.slice oa ln oc) := HBf1.out.cell 1;have f2 : w1.cell? ⟨tb, 0 + 2, none⟩ = some (.slice none 0 0) := HBf1.out.cell 2;have f3 : w1.cell? ⟨tb, 0 + 3, none⟩ = some (.slice none 0 0) := HBf1.out.cell 3;have f4 : w1.cell? ⟨tb, 0 + 4, none⟩ = some (.slice none 0 0) := HBf1.out.cell 4;have f5 : w1.cell? ⟨tb, 0 + 5, none⟩ = some (.int .i64 root) := HBf1.out.cell 5;clear hP0 hD hT hq hR hn hln hw1 htb
 go_enter Tryz.func20, Tryz.ntmps20
 go_upto_region 1 with (fail)
 rw [HW1.out, HTb.out]
 go_wp2_with fail
 refine (HPg.out w1 HP1.out).mono ?_;rintro e W1 ⟨rfl, hP⟩;obtain ⟨R0, hR0⟩ : ∃ z, z = W1.heap.size := ⟨_, rfl⟩;have HI0 : Hid (RLeavesI w0 w d R0 (Rs.take 0) none 0 [] W1) := qh ⟨HP1.out.pure hP, rfl, World.ownsRow_nil _ _ _ _, fun i R r h => by simp at h, Nat.le_of_eq hR0, by rw [hR0]; exact (HP1.out.pure hP).size⟩;have HBf2 := qh (HBf1.out.ext hP id);have HQ0 : Hid (Pure w1 W1) := qh hP;have HLr : Hid (w1.heap.size ≤ R0) := qh (by rw [hR0]; exact hP.size);have HLt : Hid (tb < R0) := qh (by rw [hR0]; exact HBf2.out.lt);clear hP hR0 HPg f0 f1 f2 f3 f4 f5
 go_wp2_with fail
 go_loopw [9, 8] (fun x o wr => ∃ (k : Nat) (a : Option Addr) (c : Nat) (rws : List (List Value)), k ≤ n ∧ x = .int .i64 k ∧ o = .slice a k c ∧ Hid (RLeavesI w0 w d R0 (Rs.take k) a c rws wr) ∧ Hid (Pure w1 wr)) (fun x _ _ => n - (intOf x).toNat)
 case atStart => exact ⟨0, none, 0, [], Nat.zero_le _, rfl, rfl, HI0, HQ0⟩
 case round =>
  obtain ⟨k, a, c, rws, hk, rfl, rfl, HI, HQ⟩ := hrel
  by_cases hlt : k < n
  ·have hki : (k : Int) < (n : Int) := by omega
   have hkR : k < Rs.length := by rw [← HN.out]; exact hlt
   have HF1 := qh (HFi.out k hkR);have HTk : Hid (Rs.take (k + 1) = Rs.take k ++ [Rs[k]]) := qh (List.take_succ_eq_append_getElem hkR);have HLk : Hid ((Rs.take k).length = k) := qh (by rw [List.length_take]; omega);obtain ⟨R, hRe⟩ : ∃ z, z = Rs[k] := ⟨_, rfl⟩;rw [← hRe] at HF1 HTk;clear hRe hkR;have HBfr := qh (HBf1.out.ext HQ.out id);have f0 : wr.cell? ⟨tb, 0, none⟩ = some (.bool true) := HBfr.out.cell 0;have f1 : wr.cell? ⟨tb, 0 + 1, none⟩ = some (.slice oa ln oc) := HBfr.out.cell 1;have f2 : wr.cell? ⟨tb, 0 + 2, none⟩ = some (.slice none 0 0) := HBfr.out.cell 2;have f3 : wr.cell? ⟨tb, 0 + 3, none⟩ = some (.slice none 0 0) := HBfr.out.cell 3;have f4 : wr.cell? ⟨tb, 0 + 4, none⟩ = some (.slice none 0 0) := HBfr.out.cell 4;have f5 : wr.cell? ⟨tb, 0 + 5, none⟩ = some (.int .i64 root) := HBfr.out.cell 5
   go_wp2_with fail
   refine (HF1.out wr HI.out.base).mono ?_;rintro e W2 ⟨lcs, rfl, hLf, hP, hFr⟩;obtain ⟨fn, fa, fc, fe, fk, fm, fs, fb, ff, fg, hlc⟩ := hLf.form;subst hlc;have HLo : Hid (∀ b, (Value.slice a (Rs.take k).length c).ownBlock = some b → LeafOff b R [.int .i64 fn, .slice fa fc fe, .int .i64 fk, .int .i64 fm, .string fs, .slice fb ff fg]) := qh (fun b hb => hFr b (HI.out.row.lt b hb).2);have HI2 := qh (HI.out.pure hP);have HQ2 := qh (HQ.out.pure hP);have HLf := qh hLf;clear hLf hP hFr HF1 HI HQ f0 f1 f2 f3 f4 f5;obtain ⟨W3, hW3⟩ : ∃ z, z = W2.alloc (.cells #[.int .i64 fn, .slice fa fc fe, .int .i64 fk, .int .i64 fm, .string fs, .slice fb ff fg] 72) := ⟨_, rfl⟩;obtain ⟨W4, hW4⟩ : ∃ z, z = W3.alloc (.cells #[.int .i64 fn, .slice fa fc fe, .int .i64 fk, .int .i64 fm, .string fs, .slice fb ff fg] 72) := ⟨_, rfl⟩;have hP24 : Pure W2 W4 := by rw [hW4, hW3]; exact (ext_alloc W2 _).pure (ext_alloc _ _)
   have HI4 := qh (HI2.out.pure hP24);have HQ4 := qh (HQ2.out.pure hP24);have HLf4 := qh (HLf.out.pure hP24);have HRw : Hid (RowOf W4 (some ⟨W2.heap.size + 1, 0, none⟩) [.int .i64 fn, .slice fa fc fe, .int .i64 fk, .int .i64 fm, .string fs, .slice fb ff fg]) := qh (fun i u hu => ⟨W2.heap.size + 1, 0, rfl, by rw [show W2.heap.size + 1 = W3.heap.size by rw [hW3, World.size_alloc], hW4, (BlockIs.new W3 [.int .i64 fn, .slice fa fc fe, .int .i64 fk, .int .i64 fm, .string fs, .slice fb ff fg] 72).cell, Nat.zero_add]; exact hu⟩);have HO4 : Hid (W4.ownsRow R0 72 6 (.slice a k c) k (rws.flatMap id)) := qh (by have h := HI4.out.row; rw [HLk.out] at h; exact h);have HOne := qh HLf4.out.one;have HB1 : Hid ((k + 1) * 88 ≤ 140737488355328) := qh (by omega);have HB2 : Hid (k + 1 ≤ maxLen) := qh (by unfold maxLen; omega);have HRs := qh HI4.out.rs;have HW3 := qh hW3;have HW4 := qh hW4;clear hW3 hW4 hP24 HI2 HQ2
   go_wp2_with (at_builtin; rw [← HW3.out, ← HW4.out]; refine wpList_append_fresh rfl (.tmp 39) (.tmp 41) 66 rfl R0 72 (.agg #[.int .i64 0, .slice none 0 0, .int .i64 0, .int .i64 0, .string ⟨#[]⟩, .slice none 0 0]) 6 88 Tryz.underlying66 infoLfR rfl (by decide) (.slice a k c) k (rws.flatMap id) rfl HO4.out (some ⟨W2.heap.size + 1, 0, none⟩) 1 1 [.int .i64 fn, .slice fa fc fe, .int .i64 fk, .int .i64 fm, .string fs, .slice fb ff fg] rfl (fun e => by cases e) rfl HRw.out HOne.out (k + 1) rfl (rws.flatMap id ++ [.int .i64 fn, .slice fa fc fe, .int .i64 fk, .int .i64 fm, .string fs, .slice fb ff fg]) rfl HB1.out HB2.out HRs.out ?_; intro a6 c6 W6 hO6 hg6 hf6)
   have HNew : Hid (RLeavesI w0 w d R0 (Rs.take (k + 1)) a6 c6 (rws ++ [[.int .i64 fn, .slice fa fc fe, .int .i64 fk, .int .i64 fm, .string fs, .slice fb ff fg]]) W6) := qh (by
    rw [HTk.out];refine HI4.out.step HLf4.out HLo.out ?_ ?_ ?_
    ·rw [HLk.out]; exact hO6
    ·rw [HLk.out]; exact hg6
    ·rw [HLk.out]; exact hf6)
   have HQ6 : Hid (Pure w1 W6) := qh (HQ4.out.trans (ext_of_grown hg6) (fun i hi e => by have h1 := (HO4.out.lt i e).1; have h2 := HQ0.out.size; have h3 := HI0.out.rs; have h4 := HLr.out; omega));clear hO6 hg6 hf6
   go_wp2_with fail
   go_roundw
   case rel => exact ⟨k + 1, a6, c6, _, by omega, by go_num, rfl, HNew, HQ6⟩
   case measure => simp [intOf]; omega
  ·have hki : ¬ (k : Int) < (n : Int) := by omega
   obtain rfl : k = n := by omega
   have HIf : Hid (RLeavesI w0 w d R0 Rs a c rws wr) := qh (by have h := HI.out; rwa [List.take_of_length_le (by rw [← HN.out]; exact Nat.le_refl _)] at h)
   go_wp2_with fail
   go_ret3;exact ⟨a, c, rws, by rw [← HN.out]; rfl, own_row HIf.out.row, HIf.out.len, fun i R r hR hr => (HIf.out.ok i R r hR hr).1, HIf.out.base⟩
