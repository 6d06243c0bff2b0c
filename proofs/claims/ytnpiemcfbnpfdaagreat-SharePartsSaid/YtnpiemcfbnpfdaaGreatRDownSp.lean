import Derived.Test.YtnpiemcfbnpfdaaGreatRGivenSp
import Derived.Test.YtnpiemcfbnpfdaaGreatZGetSp
import Derived.Test.YtnpiemcfbnpfdaaGreatRTypedSp
import Derived.Test.YtnpiemcfbnpfdaaGreatAskSp
import Derived.Test.YtnpiemcfbnpfdaaGreatLeavesSp
import Derived.Deep.CutRange
import Derived.Test.YtnpiemcfbnpfdaaGreatSqSp
set_option linter.unusedVariables false
set_option linter.unusedSimpArgs false
set_option maxRecDepth 100000
namespace Go.Proofs.YtnpiemcfbnpfdaaGreat
open Go.RowKit Go.Maps
theorem results_c4 {P : Program} {fn : Func} {p u v x : Tmp} {ty : TypeId} (h : fn.results = #[.tmp u, .cell p ty, .tmp v, .tmp x]) (tmps : Array Value) (w : World) (g : Nat) (t : TypeId) (cs : List Value) (d : TypeDesc)
 (hp : tmps.getD p undef = .pointer (some ⟨g, 0, none⟩)) (hg : BlockIs w g cs t) (hu : P.underlying ty = some d) (hd : (match d with | .struct _ | .array _ _ => true | _ => false) = true) (hi : (P.info? ty).map (·.size) = some cs.length) :
 (results fn tmps).run P w = .ok (.tuple #[tmps.getD u undef, .agg cs.toArray, tmps.getD v undef, tmps.getD x undef]) w := by
 have := run_loadVar_row (P := P) w g t ty cs.toArray (0, 0) d hg hu hd (by simpa using hi);have e : (results fn tmps).run P w = ((asAddr (tmps.getD p undef)).run P w).andThen fun a w₁ => ((loadVar ty a).run P w₁).andThen fun y w₂ => .ok (.tuple #[tmps.getD u undef, y, tmps.getD v undef, tmps.getD x undef]) w₂ := by
  simp only [results, h]
  simp [Sem.run_bind, Result.andThen]
 rw [e, hp];simp only [asAddr, Sem.run_pure, Result.andThen, this]
theorem exec_loadOb {oi : Oper} {ev : Operand → Value} {w : World} {x : Operand} {b : Nat} {cs : List Value} {T : TypeId} (ho : oi.op = .load 50 x) (hx : ev x = .pointer (some ⟨b, 0, none⟩)) (hB : BlockIs w b cs T) (hl : cs.length = 6) :
 (execOp ev oi).run Tryz.prog w = .ok (.value (.agg cs.toArray)) w := by
 unfold execOp;simp only [ho, hx, Instr.loadAt, Instr.sureAddr, Sem.run_bind, Sem.run_pure, Result.andThen_ok, run_loadVar_mid w b 0 50 cs _ hB.range Tryz.underlying50 rfl (by rw [hl]; exact size43)]
theorem one_obj {a b c d : Value} {st : Bool} {dt : ByteArray} (h : ((#[a, b, c, d] : Array Value).all fun u => u.oneCell') = true) : ((#[a, b, c, d, .bool st, .string dt] : Array Value).all fun u => u.oneCell') = true := by
 refine all_oneCell_toArray (cs := [a, b, c, d, .bool st, .string dt]) fun u hu => ?_;have h2 := Array.all_eq_true_iff_forall_mem.1 h;simp only [List.mem_cons, List.not_mem_nil, or_false] at hu
 rcases hu with rfl | rfl | rfl | rfl | rfl | rfl
 ·exact h2 _ (by simp)
 ·exact h2 _ (by simp)
 ·exact h2 _ (by simp)
 ·exact h2 _ (by simp)
 ·rfl
 ·rfl
def RTopTo (w0 : World) (d : Nat) (o : Ob) (n : Int) (w : World) (e : Ending) (w' : World) : Prop :=
 ∃ cs, e = .returned (.tuple #[.int .i64 n, .agg (cs ++ [.bool o.st, .string o.data]).toArray, .int .i64 0, .int .i64 0]) ∧ Lies w0 (d + 1) o.v cs ∧ Pure w w'
set_option maxHeartbeats 4000000 in
theorem reftop_any (d : Nat) (l : List Ob) (oa : Option Addr) (oc : Nat) (root : Int) (rows : List (List Value)) (n : Int) (w0 w : World) (hP0 : Pure w0 w) (hD : DocOk w0 d l oa rows root)
 (kids : List Int) (q : Int) (hT : TopOk l root n kids q) :
 Calls Tryz.prog 77 #[.agg #[.bool true, .slice oa l.length oc, .slice none 0 0, .slice none 0 0, .slice none 0 0, .int .i64 root]] w (RTopTo w0 d (obAt l n) n w) := by
 have HG := qh (fun i W (hP : Pure w W) => refgetdoc_any d l oa oc rows root i w0 W (hP0.pure hP) hD);have hsz := hD.at_size;obtain ⟨o, ho⟩ : ∃ z, z = obAt l root := ⟨_, rfl⟩;obtain ⟨t, ht⟩ : ∃ z, z = obAt l n := ⟨_, rfl⟩;have hr := hT.root;have hn := hT.node;rw [← ho] at hr;rw [← ht] at hn ⊢;have hos := hsz root;have hts := hsz n;rw [← ho] at hos;rw [← ht] at hts;have HTy := qh (fun cs (hL : Lies w0 (d + 1) o.v cs) W (hP : Pure w W) => reftyped_any d o cs "Catalog".toUTF8 W (hL.pure (hP0.pure hP)) (by have := V.len_size o.v; omega));have HGp := qh (fun cs (hL : Lies w0 (d + 1) o.v cs) W (hP : Pure w W) => refgetw_any d o.v cs "Pages".toUTF8 w0 W (hP0.pure hP) hL (by have := V.len_size o.v; omega));have HNo := qh (fun cs (hL : Lies w0 (d + 1) t.v cs) W (hP : Pure w W) => refnode_any d t cs w0 W (hP0.pure hP) hL hts);have hro : typedO o "Catalog".toUTF8 = true ∧ (o.v.get "Pages".toUTF8).1.kind = 8 ∧ (o.v.get "Pages".toUTF8).1.n = n := by
  have e : rootO o = if typedO o "Catalog".toUTF8 && decide ((o.v.get "Pages".toUTF8).1.kind = 8) then some (o.v.get "Pages".toUTF8).1.n else none := rfl
  rw [e] at hr
  split at hr
  ·rename_i hc
   rw [Bool.and_eq_true, decide_eq_true_eq] at hc;exact ⟨hc.1, hc.2, Option.some.inj hr⟩
  ·cases hr
 have HGr := qh (fun W (hP : Pure w W) => (ho ▸ HG.out root W hP : Calls Tryz.prog 41 #[.agg #[.bool true, .slice oa l.length oc, .slice none 0 0, .slice none 0 0, .slice none 0 0, .int .i64 root], .int .i64 root] W (ObW w0 o d W)));have HGn := qh (fun W (hP : Pure w W) => (ht ▸ HG.out n W hP : Calls Tryz.prog 41 #[.agg #[.bool true, .slice oa l.length oc, .slice none 0 0, .slice none 0 0, .slice none 0 0, .int .i64 root], .int .i64 n] W (ObW w0 t d W)));obtain ⟨G, hG⟩ : ∃ z, z = o.v.get "Pages".toUTF8 := ⟨_, rfl⟩;rw [← hG] at HGp hro;rw [hro.1] at HTy;rw [← k_pages] at HGp;rw [← k_cat] at HTy;obtain ⟨pv, pb⟩ := G;have HKn := qh (show pv.kind = 8 ∧ pv.n = n from hro.2);unfold RNodTo at HNo;rw [hn] at HNo;unfold GetW at HGp;unfold ObW at HGr HGn;simp only at HGp;obtain ⟨ln, hln⟩ : ∃ z, z = l.length := ⟨_, rfl⟩;rw [← hln] at HGr HGn ⊢;obtain ⟨st, hst⟩ : ∃ z, z = o.st := ⟨_, rfl⟩;obtain ⟨dt, hdt⟩ : ∃ z, z = o.data := ⟨_, rfl⟩;obtain ⟨tst, htst⟩ : ∃ z, z = t.st := ⟨_, rfl⟩;obtain ⟨tdt, htdt⟩ : ∃ z, z = t.data := ⟨_, rfl⟩;unfold RTopTo;rw [← hst, ← hdt] at HGr HTy;rw [← htst, ← htdt] at HGn HNo ⊢;obtain ⟨w1, hw1⟩ : ∃ z, z = ((w.alloc (.cells #[.bool true, .slice oa ln oc, .slice none 0 0, .slice none 0 0, .slice none 0 0, .int .i64 root] 64)).alloc (.cells #[.int .i64 0, .int .i64 0, .string ⟨#[]⟩, .slice none 0 0, .bool false, .string ⟨#[]⟩] 50)).alloc (.cells #[.int .i64 0, .int .i64 0, .string ⟨#[]⟩, .slice none 0 0, .bool false, .string ⟨#[]⟩] 50) := ⟨_, rfl⟩;have HP1 : Hid (Pure w w1) := qh (by rw [hw1]; exact ((ext_alloc w _).pure (ext_alloc _ _)).pure (ext_alloc _ _));have HBf : Hid (BlockIs w1 w.heap.size [.bool true, .slice oa ln oc, .slice none 0 0, .slice none 0 0, .slice none 0 0, .int .i64 root] 64) := qh (by rw [hw1]; exact ((BlockIs.new w _ _).alloc _).alloc _);have HBz : Hid (BlockIs w1 (w.heap.size + 1) [.int .i64 0, .int .i64 0, .string ⟨#[]⟩, .slice none 0 0, .bool false, .string ⟨#[]⟩] 50) := qh (by
  have := BlockIs.new (w.alloc (.cells #[.bool true, .slice oa ln oc, .slice none 0 0, .slice none 0 0, .slice none 0 0, .int .i64 root] 64)) [.int .i64 0, .int .i64 0, .string ⟨#[]⟩, .slice none 0 0, .bool false, .string ⟨#[]⟩] 50;rw [World.size_alloc] at this;rw [hw1]; exact this.alloc _)
 have HW1 := qh hw1.symm;obtain ⟨tb, htb⟩ : ∃ z, z = w.heap.size := ⟨_, rfl⟩;rw [← htb] at HBf HBz;have HTb := qh htb.symm;clear hP0 hD hT hsz ho ht hr hn hos hts HG hG hro hln hst hdt htst htdt hw1 htb;have f0 : w1.cell? ⟨tb, 0, none⟩ = some (.bool true) := HBf.out.cell 0;have f1 : w1.cell? ⟨tb, 0 + 1, none⟩ = some (.slice oa ln oc) := HBf.out.cell 1;have f2 : w1.cell? ⟨tb, 0 + 2, none⟩ = some (.slice none 0 0) := HBf.out.cell 2;have f3 : w1.cell? ⟨tb, 0 + 3, none⟩ = some (.slice none 0 0) := HBf.out.cell 3;have f4 : w1.cell? ⟨tb, 0 + 4, none⟩ = some (.slice none 0 0) := HBf.out.cell 4;have f5 : w1.cell? ⟨tb, 0 + 5, none⟩ = some (.int .i64 root) := HBf.out.cell 5
 go_enter Tryz.func77, Tryz.ntmps77
 go_upto_region 2 with (fail)
 rw [HW1.out, HTb.out]
 go_wp2_with fail
 refine (HGr.out w1 HP1.out).mono ?_;rintro e w2 ⟨cs, rfl, hL, hP2⟩;obtain ⟨k, m, s, a, c, d2, hcs⟩ := hL.form;subst hcs;have HGp2 := qh (HGp.out _ hL);have HTy2 := qh (HTy.out _ hL);obtain ⟨w3, hw3⟩ : ∃ z, z = w2.alloc (.cells #[.int .i64 k, .int .i64 m, .string s, .slice a c d2, .bool st, .string dt] 50) := ⟨_, rfl⟩;have hP23 : Pure w2 w3 := by rw [hw3]; exact ext_alloc _ _
 have HP3 := qh ((HP1.out.pure hP2).pure hP23);have HBf3 := qh (HBf.out.ext (hP2.pure hP23) id);have HBz3 := qh (HBz.out.ext (hP2.pure hP23) id);have HBo : Hid (BlockIs w3 w2.heap.size [.int .i64 k, .int .i64 m, .string s, .slice a c d2, .bool st, .string dt] 50) := qh (by rw [hw3]; exact BlockIs.new _ _ _);have HW3 := qh hw3.symm;obtain ⟨b7, hb7⟩ : ∃ z, z = w2.heap.size := ⟨_, rfl⟩;rw [← hb7] at HBo;have HB7 := qh hb7.symm;have o0 : w3.cell? ⟨b7, 0, none⟩ = some (.int .i64 k) := HBo.out.cell 0;have o1 : w3.cell? ⟨b7, 1, none⟩ = some (.int .i64 m) := HBo.out.cell 1;have o2 : w3.cell? ⟨b7, 2, none⟩ = some (.string s) := HBo.out.cell 2;have o3 : w3.cell? ⟨b7, 3, none⟩ = some (.slice a c d2) := HBo.out.cell 3;clear hL hw3 hb7 hP2 hP23 f0 f1 f2 f3 f4 f5 HBf HBz HGp HTy HGr
 go_upto_region 5 with (fail)
 rw [HW3.out, HB7.out]
 go_wp2_with fail
 refine (HGp2.out w3 HP3.out).mono ?_;rintro e w4 ⟨us, rfl, hLu, hP4⟩;obtain ⟨_, uc, urows, hus, _⟩ := hLu.kids;rw [HKn.out.1, HKn.out.2] at hus
 rename_i ua _
 subst hus;obtain ⟨w5, hw5⟩ : ∃ z, z = w4.alloc (.cells #[.int .i64 8, .int .i64 n, .string pv.s, .slice ua pv.l.length uc] 48) := ⟨_, rfl⟩;have hP45 : Pure w4 w5 := by rw [hw5]; exact ext_alloc _ _
 have HP5 := qh ((HP3.out.pure hP4).pure hP45);have HBf5 := qh (HBf3.out.ext (hP4.pure hP45) id);have HBz5 := qh (HBz3.out.ext (hP4.pure hP45) id);have HBo5 := qh (HBo.out.ext (hP4.pure hP45) id);have HBv : Hid (BlockIs w5 w4.heap.size [.int .i64 8, .int .i64 n, .string pv.s, .slice ua pv.l.length uc] 48) := qh (by rw [hw5]; exact BlockIs.new _ _ _);have HW5 := qh hw5.symm;obtain ⟨ba, hba⟩ : ∃ z, z = w4.heap.size := ⟨_, rfl⟩;rw [← hba] at HBv;have HBa := qh hba.symm;have HLa : Hid (tb + 1 < ba) := qh (by rw [hba]; exact (HBz3.out.ext hP4 id).lt);clear hLu hw5 hba hP4 hP45 o0 o1 o2 o3 HBf3 HBz3 HBo HGp2;generalize pv.s = ps at *;generalize pv.l.length = pm at *;have o0 : w5.cell? ⟨b7, 0, none⟩ = some (.int .i64 k) := HBo5.out.cell 0;have o1 : w5.cell? ⟨b7, 0 + 1, none⟩ = some (.int .i64 m) := HBo5.out.cell 1;have o2 : w5.cell? ⟨b7, 0 + 2, none⟩ = some (.string s) := HBo5.out.cell 2;have o3 : w5.cell? ⟨b7, 0 + 3, none⟩ = some (.slice a c d2) := HBo5.out.cell 3;have o4 : w5.cell? ⟨b7, 0 + 4, none⟩ = some (.bool st) := HBo5.out.cell 4;have o5 : w5.cell? ⟨b7, 0 + 5, none⟩ = some (.string dt) := HBo5.out.cell 5
 go_upto_region 6 with (fail)
 rw [HW5.out, HBa.out]
 go_wp2_with fail
 refine (HTy2.out w5 HP5.out).mono ?_;rintro e w6 ⟨rfl, hP6⟩;have HP6 := qh (HP5.out.pure hP6);have HBf6 := qh (HBf5.out.ext hP6 id);have HBz6 := qh (HBz5.out.ext hP6 id);have HBv6 := qh (HBv.out.ext hP6 id);clear hP6 o0 o1 o2 o3 o4 o5 HBf5 HBz5 HBo5 HBv HTy2;have v0 : w6.cell? ⟨ba, 0, none⟩ = some (.int .i64 8) := HBv6.out.cell 0;have v1 : w6.cell? ⟨ba, 1, none⟩ = some (.int .i64 n) := HBv6.out.cell 1;have f0 : w6.cell? ⟨tb, 0, none⟩ = some (.bool true) := HBf6.out.cell 0;have f1 : w6.cell? ⟨tb, 0 + 1, none⟩ = some (.slice oa ln oc) := HBf6.out.cell 1;have f2 : w6.cell? ⟨tb, 0 + 2, none⟩ = some (.slice none 0 0) := HBf6.out.cell 2;have f3 : w6.cell? ⟨tb, 0 + 3, none⟩ = some (.slice none 0 0) := HBf6.out.cell 3;have f4 : w6.cell? ⟨tb, 0 + 4, none⟩ = some (.slice none 0 0) := HBf6.out.cell 4;have f5 : w6.cell? ⟨tb, 0 + 5, none⟩ = some (.int .i64 root) := HBf6.out.cell 5
 go_wp2_with fail
 refine (HGn.out w6 HP6.out).mono ?_;rintro e w7 ⟨cs, rfl, hL, hP7⟩;obtain ⟨tk, tm, ts, ta, tc, td, hcs⟩ := hL.form;subst hcs;have HNo2 := qh (HNo.out _ hL);have HLt := qh hL;obtain ⟨w8, hw8⟩ : ∃ z, z = w7.alloc (.cells #[.int .i64 tk, .int .i64 tm, .string ts, .slice ta tc td, .bool tst, .string tdt] 50) := ⟨_, rfl⟩;have hP78 : Pure w7 w8 := by rw [hw8]; exact ext_alloc _ _
 have HP8 := qh ((HP6.out.pure hP7).pure hP78);have HBz8 := qh (HBz6.out.ext (hP7.pure hP78) id);have HBv8 := qh (HBv6.out.ext (hP7.pure hP78) id);have HBt : Hid (BlockIs w8 w7.heap.size [.int .i64 tk, .int .i64 tm, .string ts, .slice ta tc td, .bool tst, .string tdt] 50) := qh (by rw [hw8]; exact BlockIs.new _ _ _);have HW8 := qh hw8.symm;obtain ⟨bt, hbt⟩ : ∃ z, z = w7.heap.size := ⟨_, rfl⟩;rw [← hbt] at HBt;have HBt' := qh hbt.symm;have HLb : Hid (tb + 1 < bt) := qh (by rw [hbt]; exact (HBz6.out.ext hP7 id).lt);clear hL hw8 hbt hP7 hP78 f0 f1 f2 f3 f4 f5 v0 v1 HBf6 HBz6 HBv6 HNo HGn;have o0 : w8.cell? ⟨bt, 0, none⟩ = some (.int .i64 tk) := HBt.out.cell 0;have o1 : w8.cell? ⟨bt, 0 + 1, none⟩ = some (.int .i64 tm) := HBt.out.cell 1;have o2 : w8.cell? ⟨bt, 0 + 2, none⟩ = some (.string ts) := HBt.out.cell 2;have o3 : w8.cell? ⟨bt, 0 + 3, none⟩ = some (.slice ta tc td) := HBt.out.cell 3;have o4 : w8.cell? ⟨bt, 0 + 4, none⟩ = some (.bool tst) := HBt.out.cell 4;have o5 : w8.cell? ⟨bt, 0 + 5, none⟩ = some (.string tdt) := HBt.out.cell 5
 go_upto_region 11 with (fail)
 rw [HW8.out, HBt'.out]
 go_wp2_with fail
 refine (HNo2.out w8 HP8.out).mono ?_;rintro e w9 ⟨na, nm, ncap, nc, rfl, hP9, _⟩;have hBz := HBz8.out.ext hP9 id;have hBv := HBv8.out.ext hP9 id;have hBt := HBt.out.ext hP9 id;have HP9 := qh (HP8.out.pure hP9);clear hP9 o0 o1 o2 o3 o4 o5 HBz8 HBv8 HNo2
 go_upto_region 14 with (fail)
 have hne : ¬ ba = tb + 1 ∧ ¬ bt = tb + 1 := by
  have h1 := HLa.out;have h2 := HLb.out
  omega
 have HOn : Hid ((#[Value.int .i64 tk, .int .i64 tm, .string ts, .slice ta tc td, .bool tst, .string tdt] : Array Value).all (fun u => u.oneCell') = true) := qh (one_obj HLt.out.one);obtain ⟨wd, hwd⟩ : ∃ z, z = w9.drew := ⟨_, rfl⟩;have hPd : Pure w9 wd := by rw [hwd]; exact (Ext.refl _ w9).drew
 have hBz := hBz.ext hPd id;have hBv := hBv.ext hPd id;have hBt := hBt.ext hPd id;have hPw := HP9.out.pure hPd;refine region_start (fun b => b = tb + 1) (by kernel_rfl) ?_
 try simp only [Act.put, sA, sZ, sS]
 rw [← hwd];clear hwd;refine rT 0 69 ?_;refine rU 1 70 (v := ?vta1) (fun w' hS => ?hta1) ?rta1
 case hta1 => (have e : w'.cell? ⟨ba, 1, none⟩ = some (.int .i64 n) := (hBv.ext hS hne.1).cell 1; go_simp; with_reducible rfl)
 try simp only [Act.put, sA, sZ, sS]
 refine rU 2 71 (v := ?vta2) (fun w' hS => ?hta2) ?rta2
 case hta2 => (refine exec_loadOb (x := .tmp 12) ?_ ?_ (hBt.ext hS hne.2) rfl <;> rfl)
 try simp only [Act.put, sA, sZ, sS]
 refine rT 3 2 ?_;refine rR 4 (fun K hK => ?_);have hTh : wd.there (tb + 1) 0 (#[.int .i64 tk, .int .i64 tm, .string ts, .slice ta tc td, .bool tst, .string tdt] : Array Value).size := hBz.there 6 rfl;have hSi : (Tryz.prog.info? 50).map (·.size) = some (#[.int .i64 tk, .int .i64 tm, .string ts, .slice ta tc td, .bool tst, .string tdt] : Array Value).size := size43;obtain ⟨V3, hV3⟩ : ∃ z, z = wd.setCells (tb + 1) 0 [.int .i64 tk, .int .i64 tm, .string ts, .slice ta tc td, .bool tst, .string tdt] := ⟨_, rfl⟩;have hX : Ext (fun b => b = tb + 1) wd V3 := by rw [hV3]; exact Ext.setCells (S := fun b => b = tb + 1) _ 0 _ (Ext.refl _ _) (fun _ => rfl)
 have HBs : Hid (BlockIs V3 (tb + 1) [.int .i64 tk, .int .i64 tm, .string ts, .slice ta tc td, .bool tst, .string tdt] 50) := qh (by rw [hV3]; exact hBz.setAll _ rfl);have HPs : Hid (Pure w V3) := qh (hPw.trans hX (fun i hi e => by have := HTb.out; omega));have HV3 : Hid (wd.setCells (tb + 1) 0 (#[.int .i64 tk, .int .i64 tm, .string ts, .slice ta tc td, .bool tst, .string tdt] : Array Value).toList = V3) := qh (by rw [hV3]);clear hV3;refine step_of_list ?_;refine wpList_store_mid rfl 50 (.tmp 3) (.tmp 71) rfl (tb + 1) 0 #[.int .i64 tk, .int .i64 tm, .string ts, .slice ta tc td, .bool tst, .string tdt] rfl rfl hTh hSi HOn.out ?_;rw [HV3.out];refine hK.out _ _ (hX) (fun hHeld => ?_);clear hK K hHeld;refine region_now (hX) ?_
 try simp only [Act.put, sA, sZ, sS]
 refine rT 5 4 ?_;refine rT 6 5 ?_;refine wpAnyH_done (by kernel_rfl) ?_ _
 go_simp
 try simp only [Act.put, sA, sZ, sS]
 go_wp2_with fail
 refine bodyPost_ret (results_c4 rfl _ _ (tb + 1) _ [.int .i64 tk, .int .i64 tm, .string ts, .slice ta tc td, .bool tst, .string tdt] _ rfl HBs.out Tryz.underlying50 rfl size43) rfl ?_;exact ⟨[.int .i64 tk, .int .i64 tm, .string ts, .slice ta tc td], rfl, HLt.out, HPs.out⟩
theorem exec_loadF {oi : Oper} {ev : Operand → Value} {w : World} {x : Operand} {b : Nat} {cs : List Value} {T : TypeId} (ho : oi.op = .load 64 x) (hx : ev x = .pointer (some ⟨b, 0, none⟩)) (hB : BlockIs w b cs T) (hl : cs.length = 6) :
 (execOp ev oi).run Tryz.prog w = .ok (.value (.agg cs.toArray)) w := by
 unfold execOp;simp only [ho, hx, Instr.loadAt, Instr.sureAddr, Sem.run_bind, Sem.run_pure, Result.andThen_ok, run_loadVar_mid w b 0 64 cs _ hB.range Tryz.underlying64 rfl (by rw [hl]; exact size93)]
theorem exec_loadV4 {oi : Oper} {ev : Operand → Value} {w : World} {x : Operand} {b : Nat} {u0 u1 u2 u3 u4 u5 : Value} {T : TypeId} (ho : oi.op = .load 48 x) (hx : ev x = .pointer (some ⟨b, 0, none⟩)) (hB : BlockIs w b [u0, u1, u2, u3, u4, u5] T) :
 (execOp ev oi).run Tryz.prog w = .ok (.value (.agg #[u0, u1, u2, u3])) w := by
 have hR : w.rangeAt b 0 [u0, u1, u2, u3] := fun i v hv => hB.range i v (by
  rw [show [u0, u1, u2, u3, u4, u5] = [u0, u1, u2, u3] ++ [u4, u5] from rfl, List.getElem?_append_left (by have := (List.getElem?_eq_some_iff.1 hv).1; exact this)];exact hv)
 unfold execOp;simp only [ho, hx, Instr.loadAt, Instr.sureAddr, Sem.run_bind, Sem.run_pure, Result.andThen_ok, run_loadVar_mid w b 0 48 [u0, u1, u2, u3] _ hR Tryz.underlying48 rfl size24]
theorem row_lt {W : World} {b : Nat} {u : Value} {xs : List Value} (h : RowOf W (some ⟨b, 0, none⟩) (u :: xs)) : b < W.heap.size := by
 obtain ⟨b', o', h1, h2⟩ := h 0 u rfl;cases h1
 exact World.block_lt_of_cell? W _ h2
theorem size72 : (Tryz.prog.info? 72).map (·.size) = some 6 := by kernel_rfl
theorem one4 {k m : Int} {s : ByteArray} {a : Option Addr} {c d2 : Nat} : ∀ u ∈ [Value.int .i64 k, .int .i64 m, .string s, .slice a c d2], u.oneCell' = true := fun u hu => by
 simp only [List.mem_cons, List.not_mem_nil, or_false] at hu
 rcases hu with rfl | rfl | rfl | rfl <;> rfl
theorem one6 {n : Int} {a : Option Addr} {c d2 : Nat} {k m : Int} {s : ByteArray} {b : Option Addr} {e f : Nat} : ((#[Value.int .i64 n, .slice a c d2, .int .i64 k, .int .i64 m, .string s, .slice b e f] : Array Value).all fun u => u.oneCell') = true := all_oneCell_toArray (by
 intro u hu
 simp only [List.mem_cons, List.not_mem_nil, or_false] at hu
 rcases hu with rfl | rfl | rfl | rfl | rfl | rfl <;> rfl)
def RLfTo (w0 : World) (d : Nat) (R : Int × List Int × V) (w : World) (e : Ending) (w' : World) : Prop :=
 ∃ cs, e = .returned (.tuple #[.agg cs.toArray, .int .i64 0, .int .i64 0]) ∧ LeafOk w0 w' d R cs ∧ Pure w w' ∧ ∀ b, b < w.heap.size → LeafOff b R cs
theorem LeafOk.form {w0 W : World} {d : Nat} {R : Int × List Int × V} {cs : List Value} (h : LeafOk w0 W d R cs) : ∃ (n : Int) (a : Option Addr) (c e : Nat) (k m : Int) (s : ByteArray) (b : Option Addr) (f g : Nat), cs = [.int .i64 n, .slice a c e, .int .i64 k, .int .i64 m, .string s, .slice b f g] := by
 obtain ⟨pa, pc, gcs, rfl, _, hT⟩ := h;obtain ⟨ca, cc, cxs, rfl, _⟩ := hT.parts;exact ⟨_, _, _, _, _, _, _, _, _, _, rfl⟩
def DownAt (d : Nat) (l : List Ob) (oa : Option Addr) (oc : Nat) (root : Int) (w0 : World) (R : Int × List Int × V) (f : Nat) : Prop :=
 ∀ (n p : Int) (kids : List Int) (q : Int) (path : List Int) (way : List V) (pa wa : Option Addr) (pc wc : Nat) (ws cs : List Value) (w : World),
   path.length + f = 64 → way.length = path.length → Pure w0 w → nodeO (obAt l n) = some (kids, q) → Lies w0 (d + 1) (obAt l n).v cs → 0 ≤ p → p < q → RowOf w pa (intsV path) → (pa = none → path.length = 0 ∧ pc = 0) → Fit w0 (d + 1) way ws → RowOf w wa ws → (wa = none → way.length = 0 ∧ wc = 0) → (∀ v ∈ way, v.l.length ≤ 1000000) →
   findP l f n kids q p path (way.foldl giveP emptyV) = some R →
   Calls Tryz.prog 79 #[.agg #[.bool true, .slice oa l.length oc, .slice none 0 0, .slice none 0 0, .slice none 0 0, .int .i64 root], .int .i64 n, .agg (cs ++ [Value.bool (obAt l n).st, Value.string (obAt l n).data]).toArray, .int .i64 p, .slice pa path.length pc, .slice wa way.length wc] w (RLfTo w0 d R w)
set_option maxHeartbeats 8000000 in
theorem refdown_step (d : Nat) (l : List Ob) (oa : Option Addr) (oc : Nat) (root : Int) (rows : List (List Value)) (w0 : World) (hD : DocOk w0 d l oa rows root) (R : Int × List Int × V) (f : Nat) (IH : DownAt d l oa oc root w0 R f) : DownAt d l oa oc root w0 R (f + 1) := by
 intro n p kids q path way pa wa pc wc ws cs w hpf hwp hP0 hno hLo hp0 hpq hpr hpn hwf hwr hwn hwv hfd
 unfold DownAt at IH;have HIH := qh IH;clear IH;have HG := qh (fun i W (hP : Pure w0 W) => refgetdoc_any d l oa oc rows root i w0 W hP hD);have HSz := qh hD.at_size;have HTy := qh (fun i cs (hL : Lies w0 (d + 1) (obAt l i).v cs) W (hP : Pure w0 W) => reftyped_any d (obAt l i) cs "Page".toUTF8 W (hL.pure hP) (by have := V.len_size (obAt l i).v; have := hD.at_size i; omega));have HNo := qh (fun i cs (hL : Lies w0 (d + 1) (obAt l i).v cs) W (hP : Pure w0 W) => refnode_any d (obAt l i) cs w0 W hP hL (hD.at_size i));rw [← k_page] at HTy;have HNn := qh (HNo.out n cs hLo);have hcn := node_typed hno;unfold RNodTo at HNn HNo;rw [hno] at HNn;unfold ObW at HG;have hov : (obAt l n).v.l.length ≤ 1000000 := by have := V.len_size (obAt l n).v; have := hD.at_size n; omega
 unfold findP at hfd;rw [← k_page] at hfd;have HFd := qh hfd;have HLo := qh hLo;obtain ⟨o, ho⟩ : ∃ z, z = obAt l n := ⟨_, rfl⟩;rw [← ho] at HNn HFd HLo hov ⊢;obtain ⟨st, hst⟩ : ∃ z, z = o.st := ⟨_, rfl⟩;obtain ⟨dt, hdt⟩ : ∃ z, z = o.data := ⟨_, rfl⟩;obtain ⟨ov, hov2⟩ : ∃ z, z = o.v := ⟨_, rfl⟩;rw [← hst, ← hdt] at HNn ⊢;rw [← hov2] at HFd HLo hov;obtain ⟨k, m, s, a, c, d2, hcs⟩ := HLo.out.form;subst hcs;obtain ⟨ln, hln⟩ : ∃ z, z = l.length := ⟨_, rfl⟩;rw [← hln] at HG HIH ⊢;obtain ⟨pn, hpl⟩ : ∃ z, z = path.length := ⟨_, rfl⟩;rw [hwp, ← hpl] at hwn;rw [← hpl] at hpn hpf;rw [hwp, ← hpl];have HPl := qh hpl;have HWl := qh (hwp.trans hpl.symm);have HWv := qh hwv;have HWf := qh hwf;have HWr := qh hwr;have HWn := qh hwn;have HPn := qh hpn;have HPr := qh hpr;have HP0 := qh hP0;obtain ⟨w1, hw1⟩ : ∃ z, z = ((w.alloc (.cells #[.bool true, .slice oa ln oc, .slice none 0 0, .slice none 0 0, .slice none 0 0, .int .i64 root] 64)).alloc (.cells #[.int .i64 k, .int .i64 m, .string s, .slice a c d2, .bool st, .string dt] 50)).alloc (.cells #[.int .i64 0, .slice none 0 0, .int .i64 0, .int .i64 0, .string ⟨#[]⟩, .slice none 0 0] 72) := ⟨_, rfl⟩;have HP1 : Hid (Pure w w1) := qh (by rw [hw1]; exact ((ext_alloc w _).pure (ext_alloc _ _)).pure (ext_alloc _ _));have HBf : Hid (BlockIs w1 w.heap.size [.bool true, .slice oa ln oc, .slice none 0 0, .slice none 0 0, .slice none 0 0, .int .i64 root] 64) := qh (by rw [hw1]; exact ((BlockIs.new w _ _).alloc _).alloc _);have HBo : Hid (BlockIs w1 (w.heap.size + 1) [.int .i64 k, .int .i64 m, .string s, .slice a c d2, .bool st, .string dt] 50) := qh (by
  have := BlockIs.new (w.alloc (.cells #[.bool true, .slice oa ln oc, .slice none 0 0, .slice none 0 0, .slice none 0 0, .int .i64 root] 64)) [.int .i64 k, .int .i64 m, .string s, .slice a c d2, .bool st, .string dt] 50;rw [World.size_alloc] at this;rw [hw1]; exact this.alloc _)
 have HBz : Hid (BlockIs w1 (w.heap.size + 1 + 1) [.int .i64 0, .slice none 0 0, .int .i64 0, .int .i64 0, .string ⟨#[]⟩, .slice none 0 0] 72) := qh (by
  have := BlockIs.new ((w.alloc (.cells #[.bool true, .slice oa ln oc, .slice none 0 0, .slice none 0 0, .slice none 0 0, .int .i64 root] 64)).alloc (.cells #[.int .i64 k, .int .i64 m, .string s, .slice a c d2, .bool st, .string dt] 50)) [.int .i64 0, .slice none 0 0, .int .i64 0, .int .i64 0, .string ⟨#[]⟩, .slice none 0 0] 72;rw [World.size_alloc, World.size_alloc] at this;rw [hw1]; exact this)
 have HW1 := qh hw1.symm;obtain ⟨tb, htb⟩ : ∃ z, z = w.heap.size := ⟨_, rfl⟩;rw [← htb] at HBf HBo HBz;have HTb := qh htb.symm;have hp64 : ((pn : Int) == 64) = false := beq_eq_false_iff_ne.2 (by omega);have hpn64 : pn ≤ 63 := by omega
 have HPq := qh (And.intro hp0 hpq);have HPf := qh hpf;have HOv := qh hov;have HCn := qh hcn;obtain ⟨w2, hw2⟩ : ∃ z, z = w1.alloc (.cells #[] 3) := ⟨_, rfl⟩;have HP2 : Hid (Pure w1 w2) := qh (by rw [hw2]; exact ext_alloc _ _);have HO2 : Hid (w2.ownsRow w1.heap.size 3 1 (.slice (some ⟨w1.heap.size, 0, none⟩) 0 0) 0 []) := qh (by rw [hw2]; exact own_new (cs := []) rfl (Nat.zero_le _) _ (Nat.le_refl _));have HW2 : Hid (w1.alloc (.cells #[] 3) = w2) := qh hw2.symm;have HRp : Hid (RowOf w2 pa (intsV path)) := qh (HPr.out.ext (HP1.out.pure HP2.out) (fun _ _ => id));have HXl : Hid ((intsV path).length = pn * 1) := qh (by rw [intsV_len, HPl.out]; omega);have HX1 : Hid (∀ u ∈ intsV path, u.oneCell' = true) := qh (fun u hu => by obtain ⟨x, _, rfl⟩ := List.mem_map.1 hu; rfl);have HS2 : Hid (w1.heap.size ≤ w2.heap.size) := qh HP2.out.size;have HBp : Hid (pn * 8 ≤ 140737488355328 ∧ pn ≤ maxLen ∧ (pn + 1) * 8 ≤ 140737488355328 ∧ pn + 1 ≤ maxLen) := qh (by unfold maxLen; omega);obtain ⟨B1, hB1⟩ : ∃ z, z = w1.heap.size := ⟨_, rfl⟩;have HB1 := qh hB1.symm;clear hB1 hw2 hpf hwp hP0 hno hLo hp0 hpq hpr hpn hwf hwr hwn hwv hfd ho hst hdt hov2 hln hpl hw1 htb hcn
 go_enter Tryz.func79, Tryz.ntmps79
 go_upto_region 1 with (fail)
 rw [HW1.out, HTb.out]
 go_upto_region 4 with (first
  | (at_builtin; rw [HW2.out]; refine wpList_append_any rfl (.tmp 35) (.tmp 36) 35 rfl w1.heap.size 3 (.int .i64 0) 1 8 Tryz.underlying35 infoI rfl (by decide) (.slice (some ⟨w1.heap.size, 0, none⟩) 0 0) 0 [] rfl HO2.out pa pn pc (intsV path) rfl HPn.out HXl.out HRp.out HX1.out pn (by omega) ([] ++ intsV path) rfl HBp.out.1 HBp.out.2.1 HS2.out ?_; intro a3 c3 w3 hO3 hg3; obtain ⟨w4, hw4⟩ : ∃ z, z = w3.alloc (.cells #[.int .i64 n] 3) := ⟨_, rfl⟩; have HP34 : Hid (Pure w3 w4) := qh (by rw [hw4]; exact ext_alloc _ _); have HP13 : Hid (Pure w1 w3) := qh (Ext.own HP2.out HO2.out hg3); have HO4 : Hid (w4.ownsRow w1.heap.size 3 1 (.slice a3 pn c3) pn ([] ++ intsV path)) := qh (own_ext hO3 HP34.out (fun _ _ => id)); have HR4 : Hid (RowOf w4 (some ⟨w3.heap.size, 0, none⟩) [.int .i64 n]) := qh (by rw [hw4]; exact row_at _ rfl rfl); have HW4 : Hid (w3.alloc (.cells #[.int .i64 n] 3) = w4) := qh hw4.symm; have HS4 : Hid (w1.heap.size ≤ w4.heap.size) := qh (HP13.out.pure HP34.out).size; have HON : Hid (∀ u ∈ [Value.int .i64 n], u.oneCell' = true) := qh (fun u hu => by rw [List.mem_singleton] at hu; subst hu; rfl); clear hO3 hg3 hw4)
  | (at_builtin; rw [HW4.out]; refine wpList_append_any rfl (.tmp 37) (.tmp 39) 35 rfl w1.heap.size 3 (.int .i64 0) 1 8 Tryz.underlying35 infoI rfl (by decide) (.slice a3 pn c3) pn ([] ++ intsV path) rfl HO4.out (some ⟨w3.heap.size, 0, none⟩) 1 1 [.int .i64 n] rfl (fun e => by cases e) rfl HR4.out HON.out (pn + 1) rfl ([] ++ intsV path ++ [.int .i64 n]) rfl HBp.out.2.2.1 HBp.out.2.2.2 HS4.out ?_; intro a5 c5 w5 hO5 hg5))
 have HPs : Hid (tb + 1 + 1 < w1.heap.size) := qh HBz.out.lt;have HP15 : Hid (Pure w1 w5) := qh (Ext.own (HP13.out.pure HP34.out) HO4.out hg5);have HP5 := qh (HP1.out.pure HP15.out);have HPath : Hid (w5.ownsRow w1.heap.size 3 1 (.slice a5 (pn + 1) c5) (pn + 1) (intsV (path ++ [n]))) := qh (by rw [intsV_snoc]; exact hO5);have HPaN := qh (own_none hO5);have HBf5 := qh (HBf.out.ext HP15.out id);have HBo5 := qh (HBo.out.ext HP15.out id);have HBz5 := qh (HBz.out.ext HP15.out id);have HPl5 : Hid (pn + 1 = (path ++ [n]).length) := qh (by rw [List.length_append, ← HPl.out]; rfl);have HWl5 : Hid ((way ++ [ov]).length = pn + 1) := qh (by rw [List.length_append, HWl.out]; rfl);clear hO5 hg5 HBf HBo HBz HO4 HR4 HO2 HRp HPr HX1 HXl HON HS4 HS2 HP34 HP13 HP2 HW4 HW2 HBp
 go_cut [5] from 41 to 47 (fun x W => ∃ (b : Option Addr) (e : Nat) (xs : List Value), x = .slice b (pn + 1) e ∧ Hid (RowOf W b xs) ∧ Hid (Fit w0 (d + 1) (way ++ [ov]) xs) ∧ Hid (b = none → pn + 1 = 0 ∧ e = 0) ∧ Hid (Pure w5 W))
 case first =>
  rename_i J0 K0 hJ0 hK0
  obtain ⟨wd, hwd⟩ : ∃ z, z = w5.drew := ⟨_, rfl⟩;have hPd : Pure w5 wd := by rw [hwd]; exact (Ext.refl _ w5).drew
  obtain ⟨RB, hRB⟩ : ∃ z, z = wd.heap.size := ⟨_, rfl⟩;have HBo' := qh (HBo5.out.ext hPd id);have HLt : Hid (¬ RB ≤ tb + 1) := qh (by have := HBo'.out.lt; omega);have HXw : Hid ((ws).length = pn * 4) := qh (by rw [HWf.out.len, HWl.out]);have HX1 : Hid (∀ u ∈ ws, u.oneCell' = true) := qh HWf.out.one;have HRw : Hid (∀ W, Pure wd W → RowOf W wa ws) := qh (fun W hP => HWr.out.ext ((HP5.out.pure hPd).pure hP) (fun _ _ => id));have HBq : Hid (pn * 56 ≤ 140737488355328 ∧ pn ≤ maxLen ∧ (pn + 1) * 56 ≤ 140737488355328 ∧ pn + 1 ≤ maxLen) := qh (by unfold maxLen; omega);have HRB := qh hRB;have HPd := qh hPd;have HFz : Hid (Fit w0 (d + 1) (way ++ [ov]) (ws ++ [.int .i64 k, .int .i64 m, .string s, .slice a c d2])) := qh (HWf.out.append (Fit.single HLo.out));have hPw : Pure wd wd := Ext.refl _ _;clear hRB hPd;refine region_start (fun b => RB ≤ b) (by kernel_rfl) ?_
  try simp only [Act.put, sA, sZ, sS]
  rw [← hwd];clear hwd;refine rT 1 42 ?_;refine rT 3 44 ?_;refine rU 4 45 (v := ?vda4) (fun w' hS => ?hda4) ?rda4
  case hda4 => (refine exec_loadV4 (x := .tmp 44) ?_ ?_ (HBo'.out.ext hS HLt.out) <;> rfl)
  try simp only [Act.put, sA, sZ, sS]
  refine wpAnyH_ready (rs := [0, 5]) (by kernel_rfl) (by simp) (AllReadyH.cons rfl (fun K hK => ?_) (AllReadyH.cons rfl (fun K hK => ?_) (AllReadyH.nil)))
  go_simp
  obtain ⟨V1, hwn⟩ : ∃ z, z = wd.alloc (.cells #[] 48) := ⟨_, rfl⟩;have hP : Pure wd V1 := by rw [hwn]; exact ext_alloc _ _
  have hOn : V1.ownsRow RB 48 4 (.slice (some ⟨wd.heap.size, 0, none⟩) 0 0) 0 [] := by rw [hwn]; exact own_new (cs := []) rfl (Nat.zero_le _) _ (by rw [HRB.out]; exact hPw.size)
  rw [← hwn];obtain ⟨eb, heb⟩ : ∃ z, z = wd.heap.size := ⟨_, rfl⟩;rw [← heb] at hOn ⊢;clear hwn heb;have hPw := hPw.pure hP;have hO := hOn;refine hK.out _ _ (hP.mono (fun _ _ e => e.elim)) (fun hHeld => ?_);clear hK K hHeld;refine region_now (hP.mono (fun _ _ e => e.elim)) ?_
  try simp only [Act.put, sA, sZ, sS]
  refine wpAnyH_ready (rs := [2, 5]) (by kernel_rfl) (by simp) (AllReadyH.cons rfl (fun K hK => ?_) (AllReadyH.cons rfl (fun K hK => ?_) (AllReadyH.nil)));refine step_of_list ?_;refine wpList_append_any rfl (.tmp 41) (.tmp 42) 46 rfl RB 48 (.agg #[.int .i64 0, .int .i64 0, .string ⟨#[]⟩, .slice none 0 0]) 4 56 Tryz.underlying46 info24 rfl (by decide) (.slice (some ⟨eb, 0, none⟩) 0 0) 0 [] rfl hO wa pn wc ws rfl HWn.out HXw.out (HRw.out V1 hPw) HX1.out pn (by omega) ([] ++ ws) rfl HBq.out.1 HBq.out.2.1 (by rw [HRB.out]; exact hPw.size) ?_
  intro aw cw V2 hOw hgw
  have hXw := ext_of_grown hgw;have hLw : ∀ i, (Value.slice (some ⟨eb, 0, none⟩) 0 0).ownBlock = some i → RB ≤ i := fun i e => (hO.lt i e).1;have hX : Ext (fun b => RB ≤ b) V1 V2 := hXw.mono (fun i _ e => hLw i e);have hPw := hPw.trans hXw (fun i hi e => by have h1 := hLw i e; have h2 := HRB.out; omega);clear hgw;refine hK.out _ _ (hX) (fun hHeld => ?_);clear hK K hHeld;refine region_now (hX) ?_
  try simp only [Act.put, sA, sZ, sS]
  refine rR 5 (fun K hK => ?_)
  go_simp
  obtain ⟨V3, hwn⟩ : ∃ z, z = V2.alloc (.cells #[.int .i64 k, .int .i64 m, .string s, .slice a c d2] 48) := ⟨_, rfl⟩;have hP : Pure V2 V3 := by rw [hwn]; exact ext_alloc _ _
  have hRn : RowOf V3 (some ⟨V2.heap.size, 0, none⟩) [.int .i64 k, .int .i64 m, .string s, .slice a c d2] := by rw [hwn]; exact row_at _ rfl rfl
  rw [← hwn];obtain ⟨vb, hvb⟩ : ∃ z, z = V2.heap.size := ⟨_, rfl⟩;rw [← hvb] at hRn ⊢;clear hwn hvb;have hOw := own_ext hOw hP (fun _ _ => id);have hPw := hPw.pure hP;have hRv := hRn;refine hK.out _ _ (hP.mono (fun _ _ e => e.elim)) (fun hHeld => ?_);clear hK K hHeld;refine region_now (hP.mono (fun _ _ e => e.elim)) ?_
  try simp only [Act.put, sA, sZ, sS]
  refine rR 6 (fun K hK => ?_);refine step_of_list ?_;refine wpList_append_any rfl (.tmp 43) (.tmp 46) 46 rfl RB 48 (.agg #[.int .i64 0, .int .i64 0, .string ⟨#[]⟩, .slice none 0 0]) 4 56 Tryz.underlying46 info24 rfl (by decide) (.slice aw pn cw) pn ([] ++ ws) rfl hOw (some ⟨vb, 0, none⟩) 1 1 [.int .i64 k, .int .i64 m, .string s, .slice a c d2] rfl (fun e => by cases e) rfl hRv one4 (pn + 1) rfl ([] ++ ws ++ [.int .i64 k, .int .i64 m, .string s, .slice a c d2]) rfl HBq.out.2.2.1 HBq.out.2.2.2 (by rw [HRB.out]; exact hPw.size) ?_
  intro az cz V4 hOz hgz
  have hXz := ext_of_grown hgz;have hX : Ext (fun b => RB ≤ b) V3 V4 := hXz.mono (fun i _ e => (hOw.lt i e).1);have HRz : Hid (RowOf V4 az (ws ++ [.int .i64 k, .int .i64 m, .string s, .slice a c d2])) := qh (own_row hOz);have HNz := qh (own_none hOz);have HPz : Hid (Pure w5 V4) := qh (HPd.out.pure (hPw.trans hXz (fun i hi e => by have h1 := (hOw.lt i e).1; have h2 := HRB.out; omega)));clear hgz;refine hK.out _ _ (hX) (fun hHeld => ?_);clear hK K hHeld;refine region_now (hX) ?_
  try simp only [Act.put, sA, sZ, sS]
  refine rT 7 5 ?_;refine wpAnyH_done (by kernel_rfl) ?_ _
  rotate_left
  go_simp
  obtain ⟨V2, hwn⟩ : ∃ z, z = V1.alloc (.cells #[.int .i64 k, .int .i64 m, .string s, .slice a c d2] 48) := ⟨_, rfl⟩;have hP : Pure V1 V2 := by rw [hwn]; exact ext_alloc _ _
  have hRn : RowOf V2 (some ⟨V1.heap.size, 0, none⟩) [.int .i64 k, .int .i64 m, .string s, .slice a c d2] := by rw [hwn]; exact row_at _ rfl rfl
  rw [← hwn];obtain ⟨vb, hvb⟩ : ∃ z, z = V1.heap.size := ⟨_, rfl⟩;rw [← hvb] at hRn ⊢;have hVe : ¬ ((Value.slice (some ⟨eb, 0, none⟩) 0 0).ownBlock = some vb) := fun e => by have h1 : eb = vb := Option.some.inj e; have h2 := (hO.lt eb rfl).2; omega
  clear hwn hvb;have hO := own_ext hO hP (fun _ _ => id);have hPw := hPw.pure hP;have hRv := hRn;refine hK.out _ _ (hP.mono (fun _ _ e => e.elim)) (fun hHeld => ?_);clear hK K hHeld;refine region_now (hP.mono (fun _ _ e => e.elim)) ?_
  try simp only [Act.put, sA, sZ, sS]
  refine rR 2 (fun K hK => ?_);refine step_of_list ?_;refine wpList_append_any rfl (.tmp 41) (.tmp 42) 46 rfl RB 48 (.agg #[.int .i64 0, .int .i64 0, .string ⟨#[]⟩, .slice none 0 0]) 4 56 Tryz.underlying46 info24 rfl (by decide) (.slice (some ⟨eb, 0, none⟩) 0 0) 0 [] rfl hO wa pn wc ws rfl HWn.out HXw.out (HRw.out V2 hPw) HX1.out pn (by omega) ([] ++ ws) rfl HBq.out.1 HBq.out.2.1 (by rw [HRB.out]; exact hPw.size) ?_
  intro aw cw V3 hOw hgw
  have hXw := ext_of_grown hgw;have hLw : ∀ i, (Value.slice (some ⟨eb, 0, none⟩) 0 0).ownBlock = some i → RB ≤ i := fun i e => (hO.lt i e).1;have hX : Ext (fun b => RB ≤ b) V2 V3 := hXw.mono (fun i _ e => hLw i e);have hRv := hRv.ext hXw (fun x hx e => by cases hx; exact hVe e);have hPw := hPw.trans hXw (fun i hi e => by have h1 := hLw i e; have h2 := HRB.out; omega);clear hgw;refine hK.out _ _ (hX) (fun hHeld => ?_);clear hK K hHeld;refine region_now (hX) ?_
  try simp only [Act.put, sA, sZ, sS]
  refine rR 6 (fun K hK => ?_);refine step_of_list ?_;refine wpList_append_any rfl (.tmp 43) (.tmp 46) 46 rfl RB 48 (.agg #[.int .i64 0, .int .i64 0, .string ⟨#[]⟩, .slice none 0 0]) 4 56 Tryz.underlying46 info24 rfl (by decide) (.slice aw pn cw) pn ([] ++ ws) rfl hOw (some ⟨vb, 0, none⟩) 1 1 [.int .i64 k, .int .i64 m, .string s, .slice a c d2] rfl (fun e => by cases e) rfl hRv one4 (pn + 1) rfl ([] ++ ws ++ [.int .i64 k, .int .i64 m, .string s, .slice a c d2]) rfl HBq.out.2.2.1 HBq.out.2.2.2 (by rw [HRB.out]; exact hPw.size) ?_
  intro az cz V4 hOz hgz
  have hXz := ext_of_grown hgz;have hX : Ext (fun b => RB ≤ b) V3 V4 := hXz.mono (fun i _ e => (hOw.lt i e).1);have HRz : Hid (RowOf V4 az (ws ++ [.int .i64 k, .int .i64 m, .string s, .slice a c d2])) := qh (own_row hOz);have HNz := qh (own_none hOz);have HPz : Hid (Pure w5 V4) := qh (HPd.out.pure (hPw.trans hXz (fun i hi e => by have h1 := (hOw.lt i e).1; have h2 := HRB.out; omega)));clear hgz;refine hK.out _ _ (hX) (fun hHeld => ?_);clear hK K hHeld;refine region_now (hX) ?_
  try simp only [Act.put, sA, sZ, sS]
  refine rT 7 5 ?_;refine wpAnyH_done (by kernel_rfl) ?_ _
  rotate_left
  go_simp
  obtain ⟨V1, hwn⟩ : ∃ z, z = wd.alloc (.cells #[.int .i64 k, .int .i64 m, .string s, .slice a c d2] 48) := ⟨_, rfl⟩;have hP : Pure wd V1 := by rw [hwn]; exact ext_alloc _ _
  have hRn : RowOf V1 (some ⟨wd.heap.size, 0, none⟩) [.int .i64 k, .int .i64 m, .string s, .slice a c d2] := by rw [hwn]; exact row_at _ rfl rfl
  rw [← hwn];obtain ⟨vb, hvb⟩ : ∃ z, z = wd.heap.size := ⟨_, rfl⟩;rw [← hvb] at hRn ⊢;clear hwn hvb;have hPw := hPw.pure hP;have hRv := hRn;refine hK.out _ _ (hP.mono (fun _ _ e => e.elim)) (fun hHeld => ?_);clear hK K hHeld;refine region_now (hP.mono (fun _ _ e => e.elim)) ?_
  try simp only [Act.put, sA, sZ, sS]
  refine rR 0 (fun K hK => ?_)
  go_simp
  obtain ⟨V2, hwn⟩ : ∃ z, z = V1.alloc (.cells #[] 48) := ⟨_, rfl⟩;have hP : Pure V1 V2 := by rw [hwn]; exact ext_alloc _ _
  have hOn : V2.ownsRow RB 48 4 (.slice (some ⟨V1.heap.size, 0, none⟩) 0 0) 0 [] := by rw [hwn]; exact own_new (cs := []) rfl (Nat.zero_le _) _ (by rw [HRB.out]; exact hPw.size)
  rw [← hwn];obtain ⟨eb, heb⟩ : ∃ z, z = V1.heap.size := ⟨_, rfl⟩;rw [← heb] at hOn ⊢;have hVe : ¬ ((Value.slice (some ⟨eb, 0, none⟩) 0 0).ownBlock = some vb) := fun e => by have h1 : eb = vb := Option.some.inj e; have h2 := row_lt hRv; omega
  clear hwn heb;have hRv := hRv.ext hP (fun _ _ => id);have hPw := hPw.pure hP;have hO := hOn;refine hK.out _ _ (hP.mono (fun _ _ e => e.elim)) (fun hHeld => ?_);clear hK K hHeld;refine region_now (hP.mono (fun _ _ e => e.elim)) ?_
  try simp only [Act.put, sA, sZ, sS]
  refine rR 2 (fun K hK => ?_);refine step_of_list ?_;refine wpList_append_any rfl (.tmp 41) (.tmp 42) 46 rfl RB 48 (.agg #[.int .i64 0, .int .i64 0, .string ⟨#[]⟩, .slice none 0 0]) 4 56 Tryz.underlying46 info24 rfl (by decide) (.slice (some ⟨eb, 0, none⟩) 0 0) 0 [] rfl hO wa pn wc ws rfl HWn.out HXw.out (HRw.out V2 hPw) HX1.out pn (by omega) ([] ++ ws) rfl HBq.out.1 HBq.out.2.1 (by rw [HRB.out]; exact hPw.size) ?_
  intro aw cw V3 hOw hgw
  have hXw := ext_of_grown hgw;have hLw : ∀ i, (Value.slice (some ⟨eb, 0, none⟩) 0 0).ownBlock = some i → RB ≤ i := fun i e => (hO.lt i e).1;have hX : Ext (fun b => RB ≤ b) V2 V3 := hXw.mono (fun i _ e => hLw i e);have hRv := hRv.ext hXw (fun x hx e => by cases hx; exact hVe e);have hPw := hPw.trans hXw (fun i hi e => by have h1 := hLw i e; have h2 := HRB.out; omega);clear hgw;refine hK.out _ _ (hX) (fun hHeld => ?_);clear hK K hHeld;refine region_now (hX) ?_
  try simp only [Act.put, sA, sZ, sS]
  refine rR 6 (fun K hK => ?_);refine step_of_list ?_;refine wpList_append_any rfl (.tmp 43) (.tmp 46) 46 rfl RB 48 (.agg #[.int .i64 0, .int .i64 0, .string ⟨#[]⟩, .slice none 0 0]) 4 56 Tryz.underlying46 info24 rfl (by decide) (.slice aw pn cw) pn ([] ++ ws) rfl hOw (some ⟨vb, 0, none⟩) 1 1 [.int .i64 k, .int .i64 m, .string s, .slice a c d2] rfl (fun e => by cases e) rfl hRv one4 (pn + 1) rfl ([] ++ ws ++ [.int .i64 k, .int .i64 m, .string s, .slice a c d2]) rfl HBq.out.2.2.1 HBq.out.2.2.2 (by rw [HRB.out]; exact hPw.size) ?_
  intro az cz V4 hOz hgz
  have hXz := ext_of_grown hgz;have hX : Ext (fun b => RB ≤ b) V3 V4 := hXz.mono (fun i _ e => (hOw.lt i e).1);have HRz : Hid (RowOf V4 az (ws ++ [.int .i64 k, .int .i64 m, .string s, .slice a c d2])) := qh (own_row hOz);have HNz := qh (own_none hOz);have HPz : Hid (Pure w5 V4) := qh (HPd.out.pure (hPw.trans hXz (fun i hi e => by have h1 := (hOw.lt i e).1; have h2 := HRB.out; omega)));clear hgz;refine hK.out _ _ (hX) (fun hHeld => ?_);clear hK K hHeld;refine region_now (hX) ?_
  try simp only [Act.put, sA, sZ, sS]
  refine rT 7 5 ?_;refine wpAnyH_done (by kernel_rfl) ?_ _
  rotate_left
  all_goals
   go_simp
   try simp only [Act.put, sA, sZ, sS]
   refine hK0 _ _ ?_
   go_meet
   exact ⟨_, _, _, rfl, HRz, HFz, HNz, HPz⟩
 case rest =>
  obtain ⟨wa6, wc6, ws6, rfl, HR6, HF6, HN6, HP56⟩ := hcut;obtain ⟨w6, rfl⟩ : ∃ z : World, z = wc := ⟨_, rfl⟩;have HP6 := qh (HP5.out.pure HP56.out);have HBf6 := qh (HBf5.out.ext HP56.out id);have HBo6 := qh (HBo5.out.ext HP56.out id);have HBz6 := qh (HBz5.out.ext HP56.out id);have HPa6 := qh (own_ext HPath.out HP56.out (fun _ _ => id));have HLb : Hid (w.heap.size = tb ∧ tb + 1 + 1 < w1.heap.size ∧ w1.heap.size ≤ w6.heap.size) := qh ⟨HTb.out, by have := HBz5.out.lt; have h2 := HPs.out; omega, (HP15.out.pure HP56.out).size⟩;have o0 : w6.cell? ⟨tb + 1, 0, none⟩ = some (.int .i64 k) := HBo6.out.cell 0;have o1 : w6.cell? ⟨tb + 1, 0 + 1, none⟩ = some (.int .i64 m) := HBo6.out.cell 1;have o2 : w6.cell? ⟨tb + 1, 0 + 2, none⟩ = some (.string s) := HBo6.out.cell 2;have o3 : w6.cell? ⟨tb + 1, 0 + 3, none⟩ = some (.slice a c d2) := HBo6.out.cell 3;have o4 : w6.cell? ⟨tb + 1, 0 + 4, none⟩ = some (.bool st) := HBo6.out.cell 4;have o5 : w6.cell? ⟨tb + 1, 0 + 5, none⟩ = some (.string dt) := HBo6.out.cell 5;clear HBf5 HBo5 HBz5 HPath HP15
  go_wp2_with fail
  refine (HNn.out w6 (HP0.out.pure HP6.out)).mono ?_;rintro e w7 ⟨ka, km, kcap, kc, rfl, hP7, hk⟩;obtain ⟨hkm, hkc, hkr⟩ := hk kids q rfl;obtain rfl : kc = q := hkc;have HKm := qh hkm;have HKr := qh (own_row hkr);have HKlo : Hid (∀ x, ka = some x → w6.heap.size ≤ x.block) := qh (fun x hx => (hkr.lt x.block (by rw [hx]; rfl)).1);have HP7 := qh (HP6.out.pure hP7);have HBf7 := qh (HBf6.out.ext hP7 id);have HBz7 := qh (HBz6.out.ext hP7 id);have HPa7 := qh (own_ext HPa6.out hP7 (fun _ _ => id));have HW7 : Hid (∀ W, Pure w7 W → RowOf W wa6 ws6 ∧ RowOf W a5 (intsV (path ++ [n]))) := qh (fun W hP => ⟨HR6.out.ext (hP7.pure hP) (fun _ _ => id), (own_row HPa7.out).ext hP (fun _ _ => id)⟩);have HLs : Hid (tb + 1 + 1 < w7.heap.size ∧ w.heap.size = tb ∧ w1.heap.size ≤ w7.heap.size ∧ tb + 1 + 1 < w1.heap.size) := qh ⟨HBz7.out.lt, HLb.out.1, by have := hP7.size; have := HLb.out; omega, HLb.out.2.1⟩;obtain ⟨g', hg'⟩ : ∃ z, z = giveP (way.foldl giveP emptyV) ov := ⟨_, rfl⟩;have HGw : Hid ((way ++ [ov]).foldl giveP emptyV = g') := qh (by rw [List.foldl_append, hg']; rfl);rw [← hg'] at HFd;have HIh := qh (fun y p kids q cs W (h1 : Pure w7 W) => HIH.out y p kids q (path ++ [n]) (way ++ [ov]) a5 wa6 c5 wc6 ws6 cs W (by have := HPf.out; have := HPl5.out; omega) (by rw [HWl5.out, HPl5.out]));rw [HGw.out, HWl5.out, ← HPl5.out] at HIh;have HIh := qh (fun y p kids q cs W (h1 : Pure w7 W) (h2 : nodeO (obAt l y) = some (kids, q)) (h3 : Lies w0 (d + 1) (obAt l y).v cs) (h4 : 0 ≤ p) (h5 : p < q) (h6 : findP l f y kids q p (path ++ [n]) g' = some R) => HIh.out y p kids q cs W h1 (HP0.out.pure (HP7.out.pure h1)) h2 h3 h4 h5 (HW7.out W h1).2 HPaN.out HF6.out (HW7.out W h1).1 HN6.out (fun v hv => by
   rcases List.mem_append.1 hv with hv | hv
   ·exact HWv.out v hv
   ·rw [List.mem_singleton.1 hv]; exact HOv.out) h6)
  unfold RLfTo at HIh;clear hkm hkr hk hP7 o0 o1 o2 o3 o4 o5 HBf6 HBo6 HBz6 HPa6 HNn HR6 HIH
  by_cases hqk : kc = (km : Int)
  ·have hqb : (kc == (km : Int)) = true := by simpa using hqk
   obtain ⟨j, hj⟩ : ∃ j : Nat, p = (j : Int) := ⟨p.toNat, by have := HPq.out; omega⟩;subst hj;have hjk : j < kids.length := by have := HPq.out; have := HKm.out; omega
   have hji : (j : Int) < (km : Int) := by have := HKm.out; omega
   have hj0 : (0 : Int) ≤ (j : Int) := by omega
   obtain ⟨kb, ko, rfl, hkc⟩ := HKr.out j _ (intsV_get hjk);obtain ⟨y, hy⟩ : ∃ y, y = kids[j] := ⟨_, rfl⟩;rw [← hy] at hkc;have HSt : Hid ((if typedO (obAt l y) ⟨#[80, 97, 103, 101]⟩ = true then some (y, path ++ [n], leafP g' (obAt l y).v)
    else match nodeO (obAt l y) with
     | some (ks, c) => if c = 1 then findP l f y ks 1 0 (path ++ [n]) g' else none
     | none => none) = some R) := qh (by
    have h := HFd.out;have e : kids.getD ((j : Int)).toNat 0 = y := by rw [Int.toNat_natCast, List.getD_eq_getElem?_getD, List.getElem?_eq_getElem hjk, hy]; rfl
    rw [if_pos (by rw [← HKm.out]; exact hqk), e] at h;exact h)
   have HKc := qh hkc;clear HFd hy hjk hkc
   go_upto_region 7 with (fail)
   obtain ⟨xv, hxv⟩ : ∃ z, z = (obAt l y).v := ⟨_, rfl⟩;have HGy := qh (HG.out y);have HTyy := qh (HTy.out y);have HNoy := qh (HNo.out y);obtain ⟨xst, hxst⟩ : ∃ z, z = (obAt l y).st := ⟨_, rfl⟩;obtain ⟨xdt, hxdt⟩ : ∃ z, z = (obAt l y).data := ⟨_, rfl⟩;have HIhy := qh (fun p kids q cs W h1 h2 h3 h4 h5 h6 => HIh.out y p kids q cs W h1 h2 h3 h4 h5 h6);have HXl : Hid (xv.l.length ≤ 1000000) := qh (by rw [hxv]; have := V.len_size (obAt l y).v; have := HSz.out y; omega);rw [← hxst, ← hxdt, ← hxv] at HGy HIhy;rw [← hxst, ← hxdt, ← hxv] at HTyy;rw [← hxst, ← hxdt, ← hxv] at HNoy;obtain ⟨Ty, hTy⟩ : ∃ z, z = typedO (obAt l y) ⟨#[80, 97, 103, 101]⟩ := ⟨_, rfl⟩;rw [← hTy] at HTyy HSt;rw [← hxv] at HSt;have HP7c : Hid (Pure w7 w7) := qh (Ext.refl _ _);have HW7s : Hid (w7.heap.size ≤ w7.heap.size) := qh (Nat.le_refl _);have HKn : Hid (¬ kb = tb + 1 + 1) := qh (by have h1 := HKlo.out _ rfl; have h2 := HLb.out; simp only at h1; omega);clear hxv hxst hxdt hTy
   go_cut [18, 19, 20] from 58 to 67 (fun v t1 t2 W => ∃ (vb : Nat) (us : List Value), v = .pointer (some ⟨vb, 0, none⟩) ∧ t1 = .int .i64 0 ∧ t2 = .int .i64 0 ∧ Hid (BlockIs W vb (us ++ [.bool xst, .string xdt]) 50) ∧ Hid (Lies w0 (d + 1) xv us) ∧ Hid (w7.heap.size ≤ vb) ∧ Hid (Pure w7 W))
   case first =>
    rename_i J0 K0 hJ0 hK0
    obtain ⟨wd, hwd⟩ : ∃ z, z = w7.drew := ⟨_, rfl⟩;have hPd : Pure w7 wd := by rw [hwd]; exact (Ext.refl _ w7).drew
    have HSd : Hid (w7.heap.size ≤ wd.heap.size) := qh (by have := HW7s.out; have e : wd.heap.size = w7.heap.size := (by rw [hwd]; rfl); omega)
    have HBfd := qh (HBf7.out.ext (HP7c.out.pure hPd) id);have HKd : Hid (wd.cell? ⟨kb, ko + j, none⟩ = some (.int .i64 y)) := qh ((HP7c.out.pure hPd).cell_some HKc.out id);have HLt : Hid (¬ wd.heap.size ≤ tb ∧ ¬ wd.heap.size ≤ kb) := qh ⟨by have := HBfd.out.lt; omega, by have := World.block_lt_of_cell? wd _ HKd.out; simp only at this; omega⟩;have hPw : Pure wd wd := Ext.refl _ _;refine region_start (fun b => wd.heap.size ≤ b) (by kernel_rfl) ?_
    try simp only [Act.put, sA, sZ, sS]
    rw [← hwd];clear hwd;refine rU 0 59 (v := ?vob70) (fun w' hS => ?hob70) ?rob70
    case hob70 => (refine exec_loadF (x := .tmp 6) ?_ ?_ (HBfd.out.ext hS HLt.out.1) rfl <;> rfl)
    try simp only [Act.put, sA, sZ, sS]
    refine rT 1 60 ?_;refine rT 2 61 ?_;refine rT 3 62 ?_;refine rU 4 63 (v := ?vob74) (fun w' hS => ?hob74) ?rob74
    case hob74 => (have e : w'.cell? ⟨kb, ko + j, none⟩ = some (.int .i64 y) := hS.cell_some HKd.out HLt.out.2; go_simp; with_reducible rfl)
    try simp only [Act.put, sA, sZ, sS]
    refine wpAnyH_ready (rs := [5, 10]) (by kernel_rfl) (by simp) (AllReadyH.cons rfl (fun K hK => ?_) (AllReadyH.cons rfl (fun K hK => ?_) (AllReadyH.nil)))
    go_simp
    refine (HGy.out wd (HP0.out.pure (HP7.out.pure (hPd.pure hPw)))).mono ?_;rintro e V1 ⟨us, rfl, hL, hP⟩;obtain ⟨uk, un, ust, ua, um, uc, hus⟩ := hL.form;subst hus;have HLf := qh hL;have hPw := hPw.pure hP;clear hL;refine hK.out _ _ (hP.mono (fun _ _ e => e.elim)) (fun hHeld => ?_);clear hK K hHeld;refine region_now (hP.mono (fun _ _ e => e.elim)) ?_
    try simp only [Act.put, sA, sZ, sS]
    refine rT 6 58 ?_;refine rT 7 65 ?_;refine rT 8 66 ?_;refine rT 9 67 ?_;refine rR 10 (fun K hK => ?_)
    go_simp
    obtain ⟨V2, hwn⟩ : ∃ z, z = V1.alloc (.cells #[.int .i64 0, .int .i64 0, .string ⟨#[]⟩, .slice none 0 0, .bool false, .string ⟨#[]⟩] 50) := ⟨_, rfl⟩;have hP : Pure V1 V2 := by rw [hwn]; exact ext_alloc _ _
    have hBv : BlockIs V2 V1.heap.size [.int .i64 0, .int .i64 0, .string ⟨#[]⟩, .slice none 0 0, .bool false, .string ⟨#[]⟩] 50 := by rw [hwn]; exact BlockIs.new _ _ _
    rw [← hwn];obtain ⟨vb, hvb⟩ : ∃ z, z = V1.heap.size := ⟨_, rfl⟩;rw [← hvb] at hBv ⊢;have hvd : wd.heap.size ≤ vb := by rw [hvb]; exact hPw.size
    have hPw := hPw.pure hP;clear hwn hvb;refine hK.out _ _ (hP.mono (fun _ _ e => e.elim)) (fun hHeld => ?_);clear hK K hHeld;refine region_now (hP.mono (fun _ _ e => e.elim)) ?_
    try simp only [Act.put, sA, sZ, sS]
    refine rR 11 (fun K hK => ?_);have hTh : V2.there vb 0 (#[.int .i64 uk, .int .i64 un, .string ust, .slice ua um uc, .bool xst, .string xdt] : Array Value).size := hBv.there 6 rfl;have hSi : (Tryz.prog.info? 50).map (·.size) = some (#[.int .i64 uk, .int .i64 un, .string ust, .slice ua um uc, .bool xst, .string xdt] : Array Value).size := size43;have hOn : (#[.int .i64 uk, .int .i64 un, .string ust, .slice ua um uc, .bool xst, .string xdt] : Array Value).all (fun u => u.oneCell') = true := one_obj HLf.out.one;obtain ⟨V3, hV3⟩ : ∃ z, z = V2.setCells vb 0 [.int .i64 uk, .int .i64 un, .string ust, .slice ua um uc, .bool xst, .string xdt] := ⟨_, rfl⟩;have hX : Ext (fun b => wd.heap.size ≤ b) V2 V3 := by rw [hV3]; exact Ext.setCells (S := fun b => wd.heap.size ≤ b) _ 0 _ (Ext.refl _ _) (b := vb) (fun _ => hvd)
    have HBf0 : Hid (BlockIs V3 vb ([.int .i64 uk, .int .i64 un, .string ust, .slice ua um uc] ++ [.bool xst, .string xdt]) 50) := qh (by rw [hV3]; exact hBv.setAll _ rfl);have HPf0 : Hid (Pure w7 V3) := qh (hPd.pure (hPw.trans hX (fun i hi e => by omega)));have HVf : Hid (w7.heap.size ≤ vb) := qh (by have := HSd.out; omega);have HV3 : Hid (V2.setCells vb 0 (#[.int .i64 uk, .int .i64 un, .string ust, .slice ua um uc, .bool xst, .string xdt] : Array Value).toList = V3) := qh (by rw [hV3]);clear hV3;refine step_of_list ?_;refine wpList_store_mid rfl 50 (.tmp 18) (.tmp 65) rfl vb 0 #[.int .i64 uk, .int .i64 un, .string ust, .slice ua um uc, .bool xst, .string xdt] rfl rfl hTh hSi hOn ?_;rw [HV3.out];refine hK.out _ _ (hX) (fun hHeld => ?_);clear hK K hHeld;refine region_now (hX) ?_
    try simp only [Act.put, sA, sZ, sS]
    refine rT 12 19 ?_;refine rT 13 20 ?_;refine wpAnyH_done (by kernel_rfl) ?_ _
    rotate_left
    go_simp
    obtain ⟨V1, hwn⟩ : ∃ z, z = wd.alloc (.cells #[.int .i64 0, .int .i64 0, .string ⟨#[]⟩, .slice none 0 0, .bool false, .string ⟨#[]⟩] 50) := ⟨_, rfl⟩;have hP : Pure wd V1 := by rw [hwn]; exact ext_alloc _ _
    have hBv : BlockIs V1 wd.heap.size [.int .i64 0, .int .i64 0, .string ⟨#[]⟩, .slice none 0 0, .bool false, .string ⟨#[]⟩] 50 := by rw [hwn]; exact BlockIs.new _ _ _
    rw [← hwn];obtain ⟨vb, hvb⟩ : ∃ z, z = wd.heap.size := ⟨_, rfl⟩;rw [← hvb] at hBv ⊢;have hvd : wd.heap.size ≤ vb := by rw [hvb]; exact hPw.size
    have hPw := hPw.pure hP;clear hwn hvb;refine hK.out _ _ (hP.mono (fun _ _ e => e.elim)) (fun hHeld => ?_);clear hK K hHeld;refine region_now (hP.mono (fun _ _ e => e.elim)) ?_
    try simp only [Act.put, sA, sZ, sS]
    refine rR 5 (fun K hK => ?_)
    go_simp
    refine (HGy.out V1 (HP0.out.pure (HP7.out.pure (hPd.pure hPw)))).mono ?_;rintro e V2 ⟨us, rfl, hL, hP⟩;obtain ⟨uk, un, ust, ua, um, uc, hus⟩ := hL.form;subst hus;have HLf := qh hL;have hPw := hPw.pure hP;have hBv := hBv.ext hP id;clear hL;refine hK.out _ _ (hP.mono (fun _ _ e => e.elim)) (fun hHeld => ?_);clear hK K hHeld;refine region_now (hP.mono (fun _ _ e => e.elim)) ?_
    try simp only [Act.put, sA, sZ, sS]
    refine rT 6 58 ?_;refine rT 7 65 ?_;refine rT 8 66 ?_;refine rT 9 67 ?_;refine rR 11 (fun K hK => ?_);have hTh : V2.there vb 0 (#[.int .i64 uk, .int .i64 un, .string ust, .slice ua um uc, .bool xst, .string xdt] : Array Value).size := hBv.there 6 rfl;have hSi : (Tryz.prog.info? 50).map (·.size) = some (#[.int .i64 uk, .int .i64 un, .string ust, .slice ua um uc, .bool xst, .string xdt] : Array Value).size := size43;have hOn : (#[.int .i64 uk, .int .i64 un, .string ust, .slice ua um uc, .bool xst, .string xdt] : Array Value).all (fun u => u.oneCell') = true := one_obj HLf.out.one;obtain ⟨V3, hV3⟩ : ∃ z, z = V2.setCells vb 0 [.int .i64 uk, .int .i64 un, .string ust, .slice ua um uc, .bool xst, .string xdt] := ⟨_, rfl⟩;have hX : Ext (fun b => wd.heap.size ≤ b) V2 V3 := by rw [hV3]; exact Ext.setCells (S := fun b => wd.heap.size ≤ b) _ 0 _ (Ext.refl _ _) (b := vb) (fun _ => hvd)
    have HBf0 : Hid (BlockIs V3 vb ([.int .i64 uk, .int .i64 un, .string ust, .slice ua um uc] ++ [.bool xst, .string xdt]) 50) := qh (by rw [hV3]; exact hBv.setAll _ rfl);have HPf0 : Hid (Pure w7 V3) := qh (hPd.pure (hPw.trans hX (fun i hi e => by omega)));have HVf : Hid (w7.heap.size ≤ vb) := qh (by have := HSd.out; omega);have HV3 : Hid (V2.setCells vb 0 (#[.int .i64 uk, .int .i64 un, .string ust, .slice ua um uc, .bool xst, .string xdt] : Array Value).toList = V3) := qh (by rw [hV3]);clear hV3;refine step_of_list ?_;refine wpList_store_mid rfl 50 (.tmp 18) (.tmp 65) rfl vb 0 #[.int .i64 uk, .int .i64 un, .string ust, .slice ua um uc, .bool xst, .string xdt] rfl rfl hTh hSi hOn ?_;rw [HV3.out];refine hK.out _ _ (hX) (fun hHeld => ?_);clear hK K hHeld;refine region_now (hX) ?_
    try simp only [Act.put, sA, sZ, sS]
    refine rT 12 19 ?_;refine rT 13 20 ?_;refine wpAnyH_done (by kernel_rfl) ?_ _
    rotate_left
    all_goals
     go_simp
     try simp only [Act.put, sA, sZ, sS]
     refine hK0 _ _ ?_
     go_meet
     exact ⟨_, _, rfl, rfl, rfl, HBf0, HLf, HVf, HPf0⟩
   obtain ⟨vb, us, rfl, rfl, rfl, HBx, HLx, HVb, HP78⟩ := hcut;obtain ⟨w8, rfl⟩ : ∃ z : World, z = wc := ⟨_, rfl⟩;have HP8 := qh (HP7.out.pure HP78.out);obtain ⟨xk, xm, xs, xa, xc, xd, hxs⟩ := HLx.out.form;subst hxs;have HBx : Hid (BlockIs w8 vb [.int .i64 xk, .int .i64 xm, .string xs, .slice xa xc xd, .bool xst, .string xdt] 50) := HBx;have hx0 : w8.cell? ⟨vb, 0, none⟩ = some (.int .i64 xk) := HBx.out.cell 0;have hx1 : w8.cell? ⟨vb, 0 + 1, none⟩ = some (.int .i64 xm) := HBx.out.cell 1;have hx2 : w8.cell? ⟨vb, 0 + 2, none⟩ = some (.string xs) := HBx.out.cell 2;have hx3 : w8.cell? ⟨vb, 0 + 3, none⟩ = some (.slice xa xc xd) := HBx.out.cell 3;have hx4 : w8.cell? ⟨vb, 0 + 4, none⟩ = some (.bool xst) := HBx.out.cell 4;have hx5 : w8.cell? ⟨vb, 0 + 5, none⟩ = some (.string xdt) := HBx.out.cell 5
   go_wp2_with fail
   refine (HTyy.out _ HLx.out w8 (HP0.out.pure HP8.out)).mono ?_;rintro e w9 ⟨rfl, hP9⟩;have HP79 := qh (HP78.out.pure hP9);have HP9 := qh (HP8.out.pure hP9);have HBx9 := qh (HBx.out.ext hP9 id);have HBf9 := qh (HBf7.out.ext HP79.out id);have HBz9 := qh (HBz7.out.ext HP79.out id);have HL9 : Hid (tb + 1 + 1 < w9.heap.size ∧ w7.heap.size ≤ w9.heap.size ∧ tb + 1 + 1 < vb) := qh ⟨HBz9.out.lt, HP79.out.size, by have := HVb.out; have := HLs.out; omega⟩;clear hP9 hx0 hx1 hx2 hx3 hx4 hx5 HBx;cases Ty with
   | true =>
     have HRe : Hid (R = (y, path ++ [n], givenR xv (way ++ [ov]))) := qh (by
      have h := HSt.out;rw [if_pos rfl] at h;rw [← Option.some.inj h, ← given_eq, HGw.out])
     have HGv := qh (fun W (hP : Pure w7 W) => refgiven_any w0 W (HP0.out.pure (HP7.out.pure hP)) d xv _ HLx.out HXl.out (way ++ [ov]) wa6 wc6 ws6 HF6.out (HW7.out W hP).1 (by rw [HWl5.out]; omega) (fun v hv => by
      rcases List.mem_append.1 hv with hv | hv
      ·exact HWv.out v hv
      ·rw [List.mem_singleton.1 hv]; exact HOv.out))
     rw [HWl5.out] at HGv;unfold GivTo at HGv;clear HSt
     go_wp2_with fail
     go_upto_region 11 with (fail)
     obtain ⟨wd, hwd⟩ : ∃ z, z = w9.drew := ⟨_, rfl⟩;have hPd : Pure w9 wd := by rw [hwd]; exact (Ext.refl _ w9).drew
     have HBd := qh (HBx9.out.ext hPd id);have HKd : Hid (∀ W, Ext (fun b => b = tb + 1 + 1) wd W → W.cell? ⟨kb, ko + j, none⟩ = some (.int .i64 y)) := qh (fun W hE => hE.cell_some ((HP79.out.pure hPd).cell_some HKc.out id) (fun e => HKn.out e));have HBz' := qh (HBz9.out.ext hPd id);have HNe : Hid (¬ vb = tb + 1 + 1) := qh (by have := HL9.out; omega);have hPw := (HP79.out.pure hPd);have hP0w := (HP9.out.pure hPd);refine region_start (fun b => b = tb + 1 + 1) (by kernel_rfl) ?_
     try simp only [Act.put, sA, sZ, sS]
     rw [← hwd];clear hwd;refine rT 0 75 ?_;refine rT 1 76 ?_;refine rT 2 77 ?_;refine rU 3 78 (v := ?vlf3) (fun w' hS => ?hlf3) ?rlf3
     case hlf3 => (have e : w'.cell? ⟨kb, ko + j, none⟩ = some (.int .i64 y) := HKd.out w' hS; go_simp; with_reducible rfl)
     try simp only [Act.put, sA, sZ, sS]
     refine rT 4 79 ?_;refine rT 5 80 ?_;refine rU 6 81 (v := ?vlf6) (fun w' hS => ?hlf6) ?rlf6
     case hlf6 => (refine exec_loadV4 (x := .tmp 80) ?_ ?_ (HBd.out.ext hS HNe.out) <;> rfl)
     try simp only [Act.put, sA, sZ, sS]
     refine rT 7 82 ?_;refine rR 8 (fun K hK => ?_)
     go_simp
     refine (HGv.out _ hPw).mono ?_;rintro e V1 ⟨gcs, rfl, hT, hP, hOff⟩;obtain ⟨gk, gn, gs, ga, gm, gc, hgc⟩ := (hT.lies ((HP0.out.pure (HP7.out.pure hPw)).pure hP)).form;subst hgc;have hBzc := HBz'.out.ext hP id;have hPw1 := hPw.pure hP;have hOff1 : ∀ b, b ≤ tb + 1 + 1 → Off b [.int .i64 gk, .int .i64 gn, .string gs, .slice ga gm gc] := fun b hb => hOff b (by have := hPd.size; have := HL9.out; omega);refine hK.out _ _ (hP.mono (fun _ _ e => e.elim)) (fun hHeld => ?_);clear hK K hHeld;refine region_now (hP.mono (fun _ _ e => e.elim)) ?_
     try simp only [Act.put, sA, sZ, sS]
     refine rT 9 84 ?_;refine rR 10 (fun K hK => ?_);have hTh : V1.there (tb + 1 + 1) 0 (#[.int .i64 y, .slice a5 (pn + 1) c5, .int .i64 gk, .int .i64 gn, .string gs, .slice ga gm gc] : Array Value).size := hBzc.there 6 rfl;have hSi : (Tryz.prog.info? 72).map (·.size) = some (#[.int .i64 y, .slice a5 (pn + 1) c5, .int .i64 gk, .int .i64 gn, .string gs, .slice ga gm gc] : Array Value).size := size72;have hOn : (#[.int .i64 y, .slice a5 (pn + 1) c5, .int .i64 gk, .int .i64 gn, .string gs, .slice ga gm gc] : Array Value).all (fun u => u.oneCell') = true := one6;obtain ⟨V3, hV3⟩ : ∃ z, z = V1.setCells (tb + 1 + 1) 0 [.int .i64 y, .slice a5 (pn + 1) c5, .int .i64 gk, .int .i64 gn, .string gs, .slice ga gm gc] := ⟨_, rfl⟩;have hX : Ext (fun b => b = tb + 1 + 1) V1 V3 := by rw [hV3]; exact Ext.setCells (S := fun b => b = tb + 1 + 1) _ 0 _ (Ext.refl _ _) (fun _ => rfl)
     have HBs : Hid (BlockIs V3 (tb + 1 + 1) [.int .i64 y, .slice a5 (pn + 1) c5, .int .i64 gk, .int .i64 gn, .string gs, .slice ga gm gc] 72) := qh (by rw [hV3]; exact hBzc.setAll _ rfl);have HPs2 : Hid (Pure w V3) := qh ((HP7.out.pure hPw1).trans hX (fun i hi e => by have := HLs.out; omega));have HOk : Hid (LeafOk w0 V3 d R [.int .i64 y, .slice a5 (pn + 1) c5, .int .i64 gk, .int .i64 gn, .string gs, .slice ga gm gc]) := qh (by rw [HRe.out]; exact ⟨a5, c5, [.int .i64 gk, .int .i64 gn, .string gs, .slice ga gm gc], by show _ = Value.int .i64 y :: Value.slice a5 (path ++ [n]).length c5 :: _; rw [← HPl5.out], (HW7.out V1 hPw1).2.ext hX (fun x hx e => by have h1 := (HPa7.out.lt x.block (by rw [hx]; rfl)).1; have h2 := HLs.out; omega), hT.ext hX (fun b hb => by subst hb; exact hOff1 _ (Nat.le_refl _))⟩);have HFr : Hid (∀ b, b < w.heap.size → LeafOff b R [.int .i64 y, .slice a5 (pn + 1) c5, .int .i64 gk, .int .i64 gn, .string gs, .slice ga gm gc]) := qh (fun b hb => ⟨fun _ x n' c' hx e => by cases hx; have h1 := (HPa7.out.lt x.block rfl).1; have h2 := HLs.out; omega, fun _ => hOff1 b (by have := HLs.out; omega)⟩);have HV3 : Hid (V1.setCells (tb + 1 + 1) 0 (#[.int .i64 y, .slice a5 (pn + 1) c5, .int .i64 gk, .int .i64 gn, .string gs, .slice ga gm gc] : Array Value).toList = V3) := qh (by rw [hV3]);clear hV3;refine step_of_list ?_;refine wpList_store_mid rfl 72 (.tmp 12) (.tmp 84) rfl (tb + 1 + 1) 0 #[.int .i64 y, .slice a5 (pn + 1) c5, .int .i64 gk, .int .i64 gn, .string gs, .slice ga gm gc] rfl rfl hTh hSi hOn ?_;rw [HV3.out];refine hK.out _ _ (hX) (fun hHeld => ?_);clear hK K hHeld;refine region_now (hX) ?_
     try simp only [Act.put, sA, sZ, sS]
     refine rT 11 13 ?_;refine rT 12 14 ?_;refine wpAnyH_done (by kernel_rfl) ?_ _
     go_simp
     try simp only [Act.put, sA, sZ, sS]
     go_wp2_with fail
     refine bodyPost_ret (results_row3 rfl _ _ (tb + 1 + 1) _ [.int .i64 y, .slice a5 (pn + 1) c5, .int .i64 gk, .int .i64 gn, .string gs, .slice ga gm gc] _ rfl HBs.out Tryz.underlying72 rfl size72) rfl ?_;exact ⟨[.int .i64 y, .slice a5 (pn + 1) c5, .int .i64 gk, .int .i64 gn, .string gs, .slice ga gm gc], rfl, HOk.out, HPs2.out, HFr.out⟩
   | false =>
     obtain ⟨Nd, hNd⟩ : ∃ z, z = nodeO (obAt l y) := ⟨_, rfl⟩;have hSt := HSt.out;rw [if_neg (by decide), ← hNd] at hSt;cases Nd with
     | none => cases hSt
     | some X =>
       obtain ⟨ks, cc⟩ := X;simp only at hSt;have hcc : cc = 1 := by
        by_cases h : cc = 1
        ·exact h
        ·rw [if_neg h] at hSt; cases hSt
       rw [if_pos hcc] at hSt;subst hcc;have HFind := qh hSt;have HNd := qh hNd.symm;rw [← hNd] at HNoy;have hx0 : w9.cell? ⟨vb, 0, none⟩ = some (.int .i64 xk) := HBx9.out.cell 0;have hx1 : w9.cell? ⟨vb, 0 + 1, none⟩ = some (.int .i64 xm) := HBx9.out.cell 1;have hx2 : w9.cell? ⟨vb, 0 + 2, none⟩ = some (.string xs) := HBx9.out.cell 2;have hx3 : w9.cell? ⟨vb, 0 + 3, none⟩ = some (.slice xa xc xd) := HBx9.out.cell 3;have hx4 : w9.cell? ⟨vb, 0 + 4, none⟩ = some (.bool xst) := HBx9.out.cell 4;have hx5 : w9.cell? ⟨vb, 0 + 5, none⟩ = some (.string xdt) := HBx9.out.cell 5;clear hSt HSt hNd
       go_wp2_with fail
       refine (HNoy.out _ HLx.out w9 (HP0.out.pure HP9.out)).mono ?_;rintro e wA ⟨za, zm, zcap, zc, rfl, hPA, hz⟩;obtain ⟨_, hzc, _⟩ := hz ks 1 rfl;subst hzc;have HP7A := qh (HP79.out.pure hPA);have HBxA := qh (HBx9.out.ext hPA id);clear hPA hz hx0 hx1 hx2 hx3 hx4 hx5
       go_upto_region 15 with (fail)
       obtain ⟨wd, hwd⟩ : ∃ z, z = wA.drew := ⟨_, rfl⟩;have hPd : Pure wA wd := by rw [hwd]; exact (Ext.refl _ wA).drew
       have HBd := qh (HBxA.out.ext hPd id);have hPw := (HP7A.out.pure hPd);have HKd : Hid (∀ W, Ext (fun b => b = tb + 1 + 1) wd W → W.cell? ⟨kb, ko + j, none⟩ = some (.int .i64 y)) := qh (fun W hE => hE.cell_some (hPw.cell_some HKc.out id) (fun e => HKn.out e));have HBz' := qh (HBz7.out.ext hPw id);have HBfd := qh (HBf7.out.ext hPw id);have HNe : Hid (¬ vb = tb + 1 + 1 ∧ ¬ tb = tb + 1 + 1) := qh (by have := HL9.out; omega);refine region_start (fun b => b = tb + 1 + 1) (by kernel_rfl) ?_
       try simp only [Act.put, sA, sZ, sS]
       rw [← hwd];clear hwd;refine rU 0 98 (v := ?vdn150) (fun w' hS => ?hdn150) ?rdn150
       case hdn150 => (refine exec_loadF (x := .tmp 6) ?_ ?_ (HBfd.out.ext hS HNe.out.2) rfl <;> rfl)
       try simp only [Act.put, sA, sZ, sS]
       refine rT 1 99 ?_;refine rT 2 100 ?_;refine rT 3 101 ?_;refine rU 4 102 (v := ?vdn154) (fun w' hS => ?hdn154) ?rdn154
       case hdn154 => (have e : w'.cell? ⟨kb, ko + j, none⟩ = some (.int .i64 y) := HKd.out w' hS; go_simp; with_reducible rfl)
       try simp only [Act.put, sA, sZ, sS]
       refine rU 5 103 (v := ?vdn155) (fun w' hS => ?hdn155) ?rdn155
       case hdn155 => (refine exec_loadOb (x := .tmp 18) ?_ ?_ (HBd.out.ext hS HNe.out.1) rfl <;> rfl)
       try simp only [Act.put, sA, sZ, sS]
       refine rT 6 104 ?_;refine rT 7 105 ?_;refine rR 8 (fun K hK => ?_)
       go_simp
       refine (HIhy.out 0 ks 1 _ _ hPw HNd.out HLx.out (by decide) (by decide) HFind.out).mono ?_;rintro e V1 ⟨lcs, rfl, hOk, hP, hFr⟩;obtain ⟨fn, fa, fc, fe, fk, fm, fs, fb, ff, fg, hlc⟩ := hOk.form;subst hlc;have hBzc := HBz'.out.ext hP id;have hPw1 := hPw.pure hP;have hlt : tb + 1 + 1 < wd.heap.size := HBz'.out.lt;refine hK.out _ _ (hP.mono (fun _ _ e => e.elim)) (fun hHeld => ?_);clear hK K hHeld;refine region_now (hP.mono (fun _ _ e => e.elim)) ?_
       try simp only [Act.put, sA, sZ, sS]
       refine rT 9 107 ?_;refine rT 10 108 ?_;refine rT 11 109 ?_;refine rR 12 (fun K hK => ?_);have hTh : V1.there (tb + 1 + 1) 0 (#[.int .i64 fn, .slice fa fc fe, .int .i64 fk, .int .i64 fm, .string fs, .slice fb ff fg] : Array Value).size := hBzc.there 6 rfl;have hSi : (Tryz.prog.info? 72).map (·.size) = some (#[.int .i64 fn, .slice fa fc fe, .int .i64 fk, .int .i64 fm, .string fs, .slice fb ff fg] : Array Value).size := size72;have hOn : (#[.int .i64 fn, .slice fa fc fe, .int .i64 fk, .int .i64 fm, .string fs, .slice fb ff fg] : Array Value).all (fun u => u.oneCell') = true := one6;obtain ⟨V3, hV3⟩ : ∃ z, z = V1.setCells (tb + 1 + 1) 0 [.int .i64 fn, .slice fa fc fe, .int .i64 fk, .int .i64 fm, .string fs, .slice fb ff fg] := ⟨_, rfl⟩;have hX : Ext (fun b => b = tb + 1 + 1) V1 V3 := by rw [hV3]; exact Ext.setCells (S := fun b => b = tb + 1 + 1) _ 0 _ (Ext.refl _ _) (fun _ => rfl)
       have HBs : Hid (BlockIs V3 (tb + 1 + 1) [.int .i64 fn, .slice fa fc fe, .int .i64 fk, .int .i64 fm, .string fs, .slice fb ff fg] 72) := qh (by rw [hV3]; exact hBzc.setAll _ rfl);have HPs2 : Hid (Pure w V3) := qh ((HP7.out.pure hPw1).trans hX (fun i hi e => by have := HLs.out; omega));have HOk : Hid (LeafOk w0 V3 d R [.int .i64 fn, .slice fa fc fe, .int .i64 fk, .int .i64 fm, .string fs, .slice fb ff fg]) := qh (hOk.ext hX (fun b hb => by subst hb; exact hFr _ hlt));have HFr : Hid (∀ b, b < w.heap.size → LeafOff b R [.int .i64 fn, .slice fa fc fe, .int .i64 fk, .int .i64 fm, .string fs, .slice fb ff fg]) := qh (fun b hb => hFr b (by have := HLs.out; omega));have HV3 : Hid (V1.setCells (tb + 1 + 1) 0 (#[.int .i64 fn, .slice fa fc fe, .int .i64 fk, .int .i64 fm, .string fs, .slice fb ff fg] : Array Value).toList = V3) := qh (by rw [hV3]);clear hV3;refine step_of_list ?_;refine wpList_store_mid rfl 72 (.tmp 12) (.tmp 107) rfl (tb + 1 + 1) 0 #[.int .i64 fn, .slice fa fc fe, .int .i64 fk, .int .i64 fm, .string fs, .slice fb ff fg] rfl rfl hTh hSi hOn ?_;rw [HV3.out];refine hK.out _ _ (hX) (fun hHeld => ?_);clear hK K hHeld;refine region_now (hX) ?_
       try simp only [Act.put, sA, sZ, sS]
       refine rT 13 13 ?_;refine rT 14 14 ?_;refine wpAnyH_done (by kernel_rfl) ?_ _
       go_simp
       try simp only [Act.put, sA, sZ, sS]
       go_wp2_with fail
       refine bodyPost_ret (results_row3 rfl _ _ (tb + 1 + 1) _ [.int .i64 fn, .slice fa fc fe, .int .i64 fk, .int .i64 fm, .string fs, .slice fb ff fg] _ rfl HBs.out Tryz.underlying72 rfl size72) rfl ?_;exact ⟨[.int .i64 fn, .slice fa fc fe, .int .i64 fk, .int .i64 fm, .string fs, .slice fb ff fg], rfl, HOk.out, HPs2.out, HFr.out⟩
  ·have hqb : (kc == (km : Int)) = false := by simpa using hqk
   have hX : ∃ y0 ks0 c0 p0, pickP l kids p = some (y0, ks0, c0, p0) ∧ findP l f y0 ks0 c0 p0 (path ++ [n]) g' = some R := by
    have h := HFd.out;rw [if_neg (by rw [← HKm.out]; exact hqk)] at h;cases hX : pickP l kids p with
    | none => rw [hX] at h; cases h
    | some X =>
      obtain ⟨y0, ks0, c0, p0⟩ := X;rw [hX] at h;exact ⟨y0, ks0, c0, p0, rfl, h⟩
   obtain ⟨y0, ks0, c0, p0, hpk, hfd⟩ := hX;have HFind := qh hfd;have HPk0 : Hid (pickP l (kids.drop 0) p = some (y0, ks0, c0, p0)) := qh hpk;have hpb : 0 ≤ p ∧ p ≤ 2048 := by have h1 := HPq.out; have h2 := HCn.out; omega
   clear hpk hfd HFd
   go_wp2_with fail
   go_loopw [24, 3] (fun i v W => ∃ (j : Nat) (p' : Int), j ≤ km ∧ i = .int .i64 j ∧ v = .int .i64 p' ∧ (0 ≤ p' ∧ p' ≤ 2048) ∧ Hid (pickP l (kids.drop j) p' = some (y0, ks0, c0, p0)) ∧ Hid (Pure w7 W)) (fun i _ _ => km - (intOf i).toNat)
   case atStart => exact ⟨0, p, Nat.zero_le _, rfl, rfl, hpb, HPk0, qh (Ext.refl _ _)⟩
   case round =>
    clear HPk0 hpb;obtain ⟨j, p', hj, rfl, rfl, hpb, HPk, HE⟩ := hrel
    by_cases hlt : j < km
    ·have hkmb : km ≤ 2048 := by have h1 := HCn.out; have h2 := HKm.out; omega
     have hji : (j : Int) < (km : Int) := by omega
     have hj0 : (0 : Int) ≤ (j : Int) := by omega
     have hjk : j < kids.length := by have := HKm.out; omega
     obtain ⟨kb, ko, rfl, hkc⟩ := HKr.out j _ (intsV_get hjk);obtain ⟨y, hy⟩ : ∃ y, y = kids[j] := ⟨_, rfl⟩;rw [← hy] at hkc;have hpk : pickP l (y :: kids.drop (j + 1)) p' = some (y0, ks0, c0, p0) := by
      have h := HPk.out
      rwa [← List.getElem_cons_drop hjk, ← hy] at h
     unfold pickP at hpk;obtain ⟨Nd, hNd⟩ : ∃ z, z = nodeO (obAt l y) := ⟨_, rfl⟩;rw [← hNd] at hpk;have HKc := qh hkc;cases Nd with
     | none => cases hpk
     | some X =>
     obtain ⟨ks, cc⟩ := X;simp only at hpk;have hcb : 0 < cc ∧ cc ≤ 2048 := by have := node_typed hNd.symm; omega
     have HPk2 := qh hpk;have HNd := qh hNd.symm;clear hy hjk hkc hpk hNd HPk
     go_upto_region 19 with (fail)
     obtain ⟨xv, hxv⟩ : ∃ z, z = (obAt l y).v := ⟨_, rfl⟩;have HGy := qh (HG.out y);have HTyy := qh (HTy.out y);have HNoy := qh (HNo.out y);obtain ⟨xst, hxst⟩ : ∃ z, z = (obAt l y).st := ⟨_, rfl⟩;obtain ⟨xdt, hxdt⟩ : ∃ z, z = (obAt l y).data := ⟨_, rfl⟩;have HIhy := qh (fun p kids q cs W h1 h2 h3 h4 h5 h6 => HIh.out y p kids q cs W h1 h2 h3 h4 h5 h6);have HXl : Hid (xv.l.length ≤ 1000000) := qh (by rw [hxv]; have := V.len_size (obAt l y).v; have := HSz.out y; omega);rw [← hxst, ← hxdt, ← hxv] at HGy HIhy;rw [← hxst, ← hxdt, ← hxv] at HTyy;rw [← hxst, ← hxdt, ← hxv] at HNoy;have HKn : Hid (¬ kb = tb + 1 + 1) := qh (by have h1 := HKlo.out _ rfl; have h2 := HLb.out; simp only at h1; omega);have HP7c := HE;have HW7s : Hid (w7.heap.size ≤ wr.heap.size) := qh HE.out.size;have HPr : Hid (Pure w wr) := qh (HP7.out.pure HE.out);clear hxv hxst hxdt
     go_cut [25, 26, 27] from 116 to 125 (fun v t1 t2 W => ∃ (vb : Nat) (us : List Value), v = .pointer (some ⟨vb, 0, none⟩) ∧ t1 = .int .i64 0 ∧ t2 = .int .i64 0 ∧ Hid (BlockIs W vb (us ++ [.bool xst, .string xdt]) 50) ∧ Hid (Lies w0 (d + 1) xv us) ∧ Hid (w7.heap.size ≤ vb) ∧ Hid (Pure wr W))
     case first =>
      rename_i J0 K0 hJ0 hK0
      obtain ⟨wd, hwd⟩ : ∃ z, z = wr.drew := ⟨_, rfl⟩;have hPd : Pure wr wd := by rw [hwd]; exact (Ext.refl _ wr).drew
      have HSd : Hid (w7.heap.size ≤ wd.heap.size) := qh (by have := HW7s.out; have e : wd.heap.size = wr.heap.size := (by rw [hwd]; rfl); omega)
      have HBfd := qh (HBf7.out.ext (HP7c.out.pure hPd) id);have HKd : Hid (wd.cell? ⟨kb, ko + j, none⟩ = some (.int .i64 y)) := qh ((HP7c.out.pure hPd).cell_some HKc.out id);have HLt : Hid (¬ wd.heap.size ≤ tb ∧ ¬ wd.heap.size ≤ kb) := qh ⟨by have := HBfd.out.lt; omega, by have := World.block_lt_of_cell? wd _ HKd.out; simp only at this; omega⟩;have hPw : Pure wd wd := Ext.refl _ _;refine region_start (fun b => wd.heap.size ≤ b) (by kernel_rfl) ?_
      try simp only [Act.put, sA, sZ, sS]
      rw [← hwd];clear hwd;refine rU 0 117 (v := ?vob190) (fun w' hS => ?hob190) ?rob190
      case hob190 => (refine exec_loadF (x := .tmp 6) ?_ ?_ (HBfd.out.ext hS HLt.out.1) rfl <;> rfl)
      try simp only [Act.put, sA, sZ, sS]
      refine rT 1 118 ?_;refine rT 2 119 ?_;refine rT 3 120 ?_;refine rU 4 121 (v := ?vob194) (fun w' hS => ?hob194) ?rob194
      case hob194 => (have e : w'.cell? ⟨kb, ko + j, none⟩ = some (.int .i64 y) := hS.cell_some HKd.out HLt.out.2; go_simp; with_reducible rfl)
      try simp only [Act.put, sA, sZ, sS]
      refine wpAnyH_ready (rs := [5, 10]) (by kernel_rfl) (by simp) (AllReadyH.cons rfl (fun K hK => ?_) (AllReadyH.cons rfl (fun K hK => ?_) (AllReadyH.nil)))
      go_simp
      refine (HGy.out wd (HP0.out.pure (HPr.out.pure (hPd.pure hPw)))).mono ?_;rintro e V1 ⟨us, rfl, hL, hP⟩;obtain ⟨uk, un, ust, ua, um, uc, hus⟩ := hL.form;subst hus;have HLf := qh hL;have hPw := hPw.pure hP;clear hL;refine hK.out _ _ (hP.mono (fun _ _ e => e.elim)) (fun hHeld => ?_);clear hK K hHeld;refine region_now (hP.mono (fun _ _ e => e.elim)) ?_
      try simp only [Act.put, sA, sZ, sS]
      refine rT 6 116 ?_;refine rT 7 123 ?_;refine rT 8 124 ?_;refine rT 9 125 ?_;refine rR 10 (fun K hK => ?_)
      go_simp
      obtain ⟨V2, hwn⟩ : ∃ z, z = V1.alloc (.cells #[.int .i64 0, .int .i64 0, .string ⟨#[]⟩, .slice none 0 0, .bool false, .string ⟨#[]⟩] 50) := ⟨_, rfl⟩;have hP : Pure V1 V2 := by rw [hwn]; exact ext_alloc _ _
      have hBv : BlockIs V2 V1.heap.size [.int .i64 0, .int .i64 0, .string ⟨#[]⟩, .slice none 0 0, .bool false, .string ⟨#[]⟩] 50 := by rw [hwn]; exact BlockIs.new _ _ _
      rw [← hwn];obtain ⟨vb, hvb⟩ : ∃ z, z = V1.heap.size := ⟨_, rfl⟩;rw [← hvb] at hBv ⊢;have hvd : wd.heap.size ≤ vb := by rw [hvb]; exact hPw.size
      have hPw := hPw.pure hP;clear hwn hvb;refine hK.out _ _ (hP.mono (fun _ _ e => e.elim)) (fun hHeld => ?_);clear hK K hHeld;refine region_now (hP.mono (fun _ _ e => e.elim)) ?_
      try simp only [Act.put, sA, sZ, sS]
      refine rR 11 (fun K hK => ?_);have hTh : V2.there vb 0 (#[.int .i64 uk, .int .i64 un, .string ust, .slice ua um uc, .bool xst, .string xdt] : Array Value).size := hBv.there 6 rfl;have hSi : (Tryz.prog.info? 50).map (·.size) = some (#[.int .i64 uk, .int .i64 un, .string ust, .slice ua um uc, .bool xst, .string xdt] : Array Value).size := size43;have hOn : (#[.int .i64 uk, .int .i64 un, .string ust, .slice ua um uc, .bool xst, .string xdt] : Array Value).all (fun u => u.oneCell') = true := one_obj HLf.out.one;obtain ⟨V3, hV3⟩ : ∃ z, z = V2.setCells vb 0 [.int .i64 uk, .int .i64 un, .string ust, .slice ua um uc, .bool xst, .string xdt] := ⟨_, rfl⟩;have hX : Ext (fun b => wd.heap.size ≤ b) V2 V3 := by rw [hV3]; exact Ext.setCells (S := fun b => wd.heap.size ≤ b) _ 0 _ (Ext.refl _ _) (b := vb) (fun _ => hvd)
      have HBf0 : Hid (BlockIs V3 vb ([.int .i64 uk, .int .i64 un, .string ust, .slice ua um uc] ++ [.bool xst, .string xdt]) 50) := qh (by rw [hV3]; exact hBv.setAll _ rfl);have HPf0 : Hid (Pure wr V3) := qh (hPd.pure (hPw.trans hX (fun i hi e => by omega)));have HVf : Hid (w7.heap.size ≤ vb) := qh (by have := HSd.out; omega);have HV3 : Hid (V2.setCells vb 0 (#[.int .i64 uk, .int .i64 un, .string ust, .slice ua um uc, .bool xst, .string xdt] : Array Value).toList = V3) := qh (by rw [hV3]);clear hV3;refine step_of_list ?_;refine wpList_store_mid rfl 50 (.tmp 25) (.tmp 123) rfl vb 0 #[.int .i64 uk, .int .i64 un, .string ust, .slice ua um uc, .bool xst, .string xdt] rfl rfl hTh hSi hOn ?_;rw [HV3.out];refine hK.out _ _ (hX) (fun hHeld => ?_);clear hK K hHeld;refine region_now (hX) ?_
      try simp only [Act.put, sA, sZ, sS]
      refine rT 12 26 ?_;refine rT 13 27 ?_;refine wpAnyH_done (by kernel_rfl) ?_ _
      rotate_left
      go_simp
      obtain ⟨V1, hwn⟩ : ∃ z, z = wd.alloc (.cells #[.int .i64 0, .int .i64 0, .string ⟨#[]⟩, .slice none 0 0, .bool false, .string ⟨#[]⟩] 50) := ⟨_, rfl⟩;have hP : Pure wd V1 := by rw [hwn]; exact ext_alloc _ _
      have hBv : BlockIs V1 wd.heap.size [.int .i64 0, .int .i64 0, .string ⟨#[]⟩, .slice none 0 0, .bool false, .string ⟨#[]⟩] 50 := by rw [hwn]; exact BlockIs.new _ _ _
      rw [← hwn];obtain ⟨vb, hvb⟩ : ∃ z, z = wd.heap.size := ⟨_, rfl⟩;rw [← hvb] at hBv ⊢;have hvd : wd.heap.size ≤ vb := by rw [hvb]; exact hPw.size
      have hPw := hPw.pure hP;clear hwn hvb;refine hK.out _ _ (hP.mono (fun _ _ e => e.elim)) (fun hHeld => ?_);clear hK K hHeld;refine region_now (hP.mono (fun _ _ e => e.elim)) ?_
      try simp only [Act.put, sA, sZ, sS]
      refine rR 5 (fun K hK => ?_)
      go_simp
      refine (HGy.out V1 (HP0.out.pure (HPr.out.pure (hPd.pure hPw)))).mono ?_;rintro e V2 ⟨us, rfl, hL, hP⟩;obtain ⟨uk, un, ust, ua, um, uc, hus⟩ := hL.form;subst hus;have HLf := qh hL;have hPw := hPw.pure hP;have hBv := hBv.ext hP id;clear hL;refine hK.out _ _ (hP.mono (fun _ _ e => e.elim)) (fun hHeld => ?_);clear hK K hHeld;refine region_now (hP.mono (fun _ _ e => e.elim)) ?_
      try simp only [Act.put, sA, sZ, sS]
      refine rT 6 116 ?_;refine rT 7 123 ?_;refine rT 8 124 ?_;refine rT 9 125 ?_;refine rR 11 (fun K hK => ?_);have hTh : V2.there vb 0 (#[.int .i64 uk, .int .i64 un, .string ust, .slice ua um uc, .bool xst, .string xdt] : Array Value).size := hBv.there 6 rfl;have hSi : (Tryz.prog.info? 50).map (·.size) = some (#[.int .i64 uk, .int .i64 un, .string ust, .slice ua um uc, .bool xst, .string xdt] : Array Value).size := size43;have hOn : (#[.int .i64 uk, .int .i64 un, .string ust, .slice ua um uc, .bool xst, .string xdt] : Array Value).all (fun u => u.oneCell') = true := one_obj HLf.out.one;obtain ⟨V3, hV3⟩ : ∃ z, z = V2.setCells vb 0 [.int .i64 uk, .int .i64 un, .string ust, .slice ua um uc, .bool xst, .string xdt] := ⟨_, rfl⟩;have hX : Ext (fun b => wd.heap.size ≤ b) V2 V3 := by rw [hV3]; exact Ext.setCells (S := fun b => wd.heap.size ≤ b) _ 0 _ (Ext.refl _ _) (b := vb) (fun _ => hvd)
      have HBf0 : Hid (BlockIs V3 vb ([.int .i64 uk, .int .i64 un, .string ust, .slice ua um uc] ++ [.bool xst, .string xdt]) 50) := qh (by rw [hV3]; exact hBv.setAll _ rfl);have HPf0 : Hid (Pure wr V3) := qh (hPd.pure (hPw.trans hX (fun i hi e => by omega)));have HVf : Hid (w7.heap.size ≤ vb) := qh (by have := HSd.out; omega);have HV3 : Hid (V2.setCells vb 0 (#[.int .i64 uk, .int .i64 un, .string ust, .slice ua um uc, .bool xst, .string xdt] : Array Value).toList = V3) := qh (by rw [hV3]);clear hV3;refine step_of_list ?_;refine wpList_store_mid rfl 50 (.tmp 25) (.tmp 123) rfl vb 0 #[.int .i64 uk, .int .i64 un, .string ust, .slice ua um uc, .bool xst, .string xdt] rfl rfl hTh hSi hOn ?_;rw [HV3.out];refine hK.out _ _ (hX) (fun hHeld => ?_);clear hK K hHeld;refine region_now (hX) ?_
      try simp only [Act.put, sA, sZ, sS]
      refine rT 12 26 ?_;refine rT 13 27 ?_;refine wpAnyH_done (by kernel_rfl) ?_ _
      rotate_left
      all_goals
       go_simp
       try simp only [Act.put, sA, sZ, sS]
       refine hK0 _ _ ?_
       go_meet
       exact ⟨_, _, rfl, rfl, rfl, HBf0, HLf, HVf, HPf0⟩
     obtain ⟨vb, us, rfl, rfl, rfl, HBx, HLx, HVb, HPr8⟩ := hcut;obtain ⟨w8, rfl⟩ : ∃ z : World, z = wc := ⟨_, rfl⟩;have HP8 := qh (HPr.out.pure HPr8.out);obtain ⟨xk, xm, xs, xa, xc, xd, hxs⟩ := HLx.out.form;subst hxs;have HBx : Hid (BlockIs w8 vb [.int .i64 xk, .int .i64 xm, .string xs, .slice xa xc xd, .bool xst, .string xdt] 50) := HBx;have hx0 : w8.cell? ⟨vb, 0, none⟩ = some (.int .i64 xk) := HBx.out.cell 0;have hx1 : w8.cell? ⟨vb, 0 + 1, none⟩ = some (.int .i64 xm) := HBx.out.cell 1;have hx2 : w8.cell? ⟨vb, 0 + 2, none⟩ = some (.string xs) := HBx.out.cell 2;have hx3 : w8.cell? ⟨vb, 0 + 3, none⟩ = some (.slice xa xc xd) := HBx.out.cell 3;have hx4 : w8.cell? ⟨vb, 0 + 4, none⟩ = some (.bool xst) := HBx.out.cell 4;have hx5 : w8.cell? ⟨vb, 0 + 5, none⟩ = some (.string xdt) := HBx.out.cell 5;rw [HNd.out] at HNoy
     go_wp2_with fail
     refine (HNoy.out _ HLx.out w8 (HP0.out.pure HP8.out)).mono ?_;rintro e wA ⟨za, zm, zcap, zc, rfl, hPA, hz⟩;obtain ⟨_, hzc, _⟩ := hz ks cc rfl;subst hzc;have HP7A := qh ((HE.out.pure HPr8.out).pure hPA);have HBxA := qh (HBx.out.ext hPA id);clear hPA hz hx0 hx1 hx2 hx3 hx4 hx5 HBx
     by_cases hpc : p' < zc
     ·have HQ : Hid (findP l f y ks zc p' (path ++ [n]) g' = some R) := qh (by
       have h := HPk2.out;rw [if_pos hpc] at h;cases h
       exact HFind.out)
      go_upto_region 26 with (fail)
      obtain ⟨wd, hwd⟩ : ∃ z, z = wA.drew := ⟨_, rfl⟩;have hPd : Pure wA wd := by rw [hwd]; exact (Ext.refl _ wA).drew
      have HBd := qh (HBxA.out.ext hPd id);have hPw := (HP7A.out.pure hPd);have HKd : Hid (∀ W, Ext (fun b => b = tb + 1 + 1) wd W → W.cell? ⟨kb, ko + j, none⟩ = some (.int .i64 y)) := qh (fun W hE => hE.cell_some (hPw.cell_some HKc.out id) (fun e => HKn.out e));have HBz' := qh (HBz7.out.ext hPw id);have HBfd := qh (HBf7.out.ext hPw id);have HNe : Hid (¬ vb = tb + 1 + 1 ∧ ¬ tb = tb + 1 + 1) := qh (by have := HVb.out; have := HLs.out; omega);refine region_start (fun b => b = tb + 1 + 1) (by kernel_rfl) ?_
      try simp only [Act.put, sA, sZ, sS]
      rw [← hwd];clear hwd;refine rU 0 143 (v := ?vdn260) (fun w' hS => ?hdn260) ?rdn260
      case hdn260 => (refine exec_loadF (x := .tmp 6) ?_ ?_ (HBfd.out.ext hS HNe.out.2) rfl <;> rfl)
      try simp only [Act.put, sA, sZ, sS]
      refine rT 1 144 ?_;refine rT 2 145 ?_;refine rT 3 146 ?_;refine rU 4 147 (v := ?vdn264) (fun w' hS => ?hdn264) ?rdn264
      case hdn264 => (have e : w'.cell? ⟨kb, ko + j, none⟩ = some (.int .i64 y) := HKd.out w' hS; go_simp; with_reducible rfl)
      try simp only [Act.put, sA, sZ, sS]
      refine rU 5 148 (v := ?vdn265) (fun w' hS => ?hdn265) ?rdn265
      case hdn265 => (refine exec_loadOb (x := .tmp 25) ?_ ?_ (HBd.out.ext hS HNe.out.1) rfl <;> rfl)
      try simp only [Act.put, sA, sZ, sS]
      refine rT 6 149 ?_;refine rT 7 150 ?_;refine rT 8 151 ?_;refine rR 9 (fun K hK => ?_)
      go_simp
      refine (HIhy.out p' ks zc _ _ hPw HNd.out HLx.out hpb.1 hpc HQ.out).mono ?_;rintro e V1 ⟨lcs, rfl, hOk, hP, hFr⟩;obtain ⟨fn, fa, fc, fe, fk, fm, fs, fb, ff, fg, hlc⟩ := hOk.form;subst hlc;have hBzc := HBz'.out.ext hP id;have hPw1 := hPw.pure hP;have hlt : tb + 1 + 1 < wd.heap.size := HBz'.out.lt;refine hK.out _ _ (hP.mono (fun _ _ e => e.elim)) (fun hHeld => ?_);clear hK K hHeld;refine region_now (hP.mono (fun _ _ e => e.elim)) ?_
      try simp only [Act.put, sA, sZ, sS]
      refine rT 10 153 ?_;refine rT 11 154 ?_;refine rT 12 155 ?_;refine rR 13 (fun K hK => ?_);have hTh : V1.there (tb + 1 + 1) 0 (#[.int .i64 fn, .slice fa fc fe, .int .i64 fk, .int .i64 fm, .string fs, .slice fb ff fg] : Array Value).size := hBzc.there 6 rfl;have hSi : (Tryz.prog.info? 72).map (·.size) = some (#[.int .i64 fn, .slice fa fc fe, .int .i64 fk, .int .i64 fm, .string fs, .slice fb ff fg] : Array Value).size := size72;have hOn : (#[.int .i64 fn, .slice fa fc fe, .int .i64 fk, .int .i64 fm, .string fs, .slice fb ff fg] : Array Value).all (fun u => u.oneCell') = true := one6;obtain ⟨V3, hV3⟩ : ∃ z, z = V1.setCells (tb + 1 + 1) 0 [.int .i64 fn, .slice fa fc fe, .int .i64 fk, .int .i64 fm, .string fs, .slice fb ff fg] := ⟨_, rfl⟩;have hX : Ext (fun b => b = tb + 1 + 1) V1 V3 := by rw [hV3]; exact Ext.setCells (S := fun b => b = tb + 1 + 1) _ 0 _ (Ext.refl _ _) (fun _ => rfl)
      have HBs : Hid (BlockIs V3 (tb + 1 + 1) [.int .i64 fn, .slice fa fc fe, .int .i64 fk, .int .i64 fm, .string fs, .slice fb ff fg] 72) := qh (by rw [hV3]; exact hBzc.setAll _ rfl);have HPs2 : Hid (Pure w V3) := qh ((HP7.out.pure hPw1).trans hX (fun i hi e => by have := HLs.out; omega));have HOk : Hid (LeafOk w0 V3 d R [.int .i64 fn, .slice fa fc fe, .int .i64 fk, .int .i64 fm, .string fs, .slice fb ff fg]) := qh (hOk.ext hX (fun b hb => by subst hb; exact hFr _ hlt));have HFr : Hid (∀ b, b < w.heap.size → LeafOff b R [.int .i64 fn, .slice fa fc fe, .int .i64 fk, .int .i64 fm, .string fs, .slice fb ff fg]) := qh (fun b hb => hFr b (by have := HLs.out; omega));have HV3 : Hid (V1.setCells (tb + 1 + 1) 0 (#[.int .i64 fn, .slice fa fc fe, .int .i64 fk, .int .i64 fm, .string fs, .slice fb ff fg] : Array Value).toList = V3) := qh (by rw [hV3]);clear hV3;refine step_of_list ?_;refine wpList_store_mid rfl 72 (.tmp 12) (.tmp 153) rfl (tb + 1 + 1) 0 #[.int .i64 fn, .slice fa fc fe, .int .i64 fk, .int .i64 fm, .string fs, .slice fb ff fg] rfl rfl hTh hSi hOn ?_;rw [HV3.out];refine hK.out _ _ (hX) (fun hHeld => ?_);clear hK K hHeld;refine region_now (hX) ?_
      try simp only [Act.put, sA, sZ, sS]
      refine rT 14 13 ?_;refine rT 15 14 ?_;refine wpAnyH_done (by kernel_rfl) ?_ _
      go_simp
      try simp only [Act.put, sA, sZ, sS]
      go_wp2_with fail
      refine bodyPost_ret (results_row3 rfl _ _ (tb + 1 + 1) _ [.int .i64 fn, .slice fa fc fe, .int .i64 fk, .int .i64 fm, .string fs, .slice fb ff fg] _ rfl HBs.out Tryz.underlying72 rfl size72) rfl ?_;exact ⟨[.int .i64 fn, .slice fa fc fe, .int .i64 fk, .int .i64 fm, .string fs, .slice fb ff fg], rfl, HOk.out, HPs2.out, HFr.out⟩
     ·have hpc' : zc ≤ p' := by omega
      have HPk3 : Hid (pickP l (kids.drop (j + 1)) (p' - zc) = some (y0, ks0, c0, p0)) := qh (by
       have h := HPk2.out
       rwa [if_neg hpc] at h)
      clear HPk2
      go_wp2_with fail
      go_roundw
      case rel => exact ⟨j + 1, p' - zc, by omega, by go_num, by go_num, by omega, HPk3, HP7A⟩
      case measure => simp [intOf]; omega
    ·exfalso
     have h := HPk.out;rw [List.drop_eq_nil_of_le (by have := HKm.out; omega)] at h;unfold pickP at h;cases h
theorem refdown_any (d : Nat) (l : List Ob) (oa : Option Addr) (oc : Nat) (root : Int) (rows : List (List Value)) (w0 : World) (hD : DocOk w0 d l oa rows root) (R : Int × List Int × V) : ∀ f, DownAt d l oa oc root w0 R f
 | 0 => by
   intro n p kids q path way pa wa pc wc ws cs w _ _ _ _ _ _ _ _ _ _ _ _ _ hf
   unfold findP at hf;cases hf
 | f + 1 => refdown_step d l oa oc root rows w0 hD R f (refdown_any d l oa oc root rows w0 hD R f)
