import Derived.Test.YtnpiemcfbnpfdaaGreatZGetSp
import Derived.Test.YtnpiemcfbnpfdaaGreatRTypedSp
import Derived.Test.YtnpiemcfbnpfdaaGreatRStraySp
import Derived.Test.YtnpiemcfbnpfdaaGreatDownISp
import Derived.Test.YtnpiemcfbnpfdaaGreatSqSp
set_option linter.unusedVariables false
set_option linter.unusedSimpArgs false
set_option maxRecDepth 100000
namespace Go.Proofs.YtnpiemcfbnpfdaaGreat
open Go.RowKit
theorem size33 : (Tryz.prog.info? 76).map (·.size) = some 2 := by kernel_rfl
theorem one2r (a : Option Addr) (m c : Nat) (b : Option Addr) (q r : Nat) : ((#[Value.slice a m c, .slice b q r] : Array Value).all fun u => u.oneCell') = true := all_oneCell_toArray (by intro u hu; simp only [List.mem_cons, List.not_mem_nil, or_false] at hu; rcases hu with rfl | rfl <;> rfl)
structure RowA (W : World) (a : Option Addr) (c : Nat) (xs : List Int) : Prop where
 row : RowOf W a (intsV xs)
 nil : a = none → c = 0
theorem RowA.pure {W W' : World} {a : Option Addr} {c : Nat} {xs : List Int} (h : RowA W a c xs) (hP : Pure W W') : RowA W' a c xs := ⟨h.row.ext hP (fun _ _ => id), h.nil⟩
theorem RowA.none0 {W : World} {a : Option Addr} {c : Nat} {xs : List Int} (h : RowA W a c xs) (e : a = none) : xs.length = 0 ∧ c = 0 := by
 refine ⟨?_, h.nil e⟩;cases xs with
 | nil => rfl
 | cons x r =>
   obtain ⟨b, o, h1, _⟩ := h.row 0 (.int .i64 x) rfl;rw [e] at h1; cases h1
theorem RowA.own {W : World} {B c : Nat} {a : Option Addr} {xs : List Int} {n : Nat} (h : W.ownsRow B 3 1 (.slice a n c) n (intsV xs)) : RowA W a c xs := by
 obtain ⟨a', c', e, _, _, h3, _⟩ := own_form h;cases e
 exact ⟨own_row h, h3⟩
theorem RowA.off {W W' : World} {a : Option Addr} {c : Nat} {xs : List Int} (h : RowA W a c xs) {b : Nat} {x1 x2 : Option Addr} {m1 m2 k1 k2 : Nat} {T : TypeId} (hB : BlockIs W b [.slice x1 m1 k1, .slice x2 m2 k2] T) (hE : Ext (fun k => k = b) W W') : RowA W' a c xs := by
 refine ⟨fun i u hu => ?_, h.nil⟩;obtain ⟨b', o, h1, h2⟩ := h.row i u hu;refine ⟨b', o, h1, hE.cell_some h2 (fun e => ?_)⟩;have e2 : b' = b := e;subst e2;rw [hB.cell] at h2;obtain ⟨x, rfl⟩ : ∃ x, u = .int .i64 x := by
  unfold intsV at hu;rw [List.getElem?_map, Option.map_eq_some_iff] at hu;obtain ⟨x, _, rfl⟩ := hu;exact ⟨x, rfl⟩
 match h3 : o + i with
 | 0 => rw [h3] at h2; cases h2
 | 1 => rw [h3] at h2; cases h2
 | k + 2 => rw [h3] at h2; cases h2
theorem off_first {B k a b : Nat} (hk : k < B) : ¬ ((Value.slice (some ⟨B, 0, none⟩) a b).ownBlock = some k) := fun e => by
 have e2 : some B = some k := e;cases e2
 omega
def RBelTo (w : World) (r : Option (Tr × Int)) (e : Ending) (w' : World) : Prop := Pure w w' ∧ match r with
 | some (u, m) => ∃ b1 c1 b2 c2, e = .returned (.tuple #[.agg #[.slice b1 u.nodes.length c1, .slice b2 u.pages.length c2], .int .i64 m]) ∧ RowA w' b1 c1 u.nodes ∧ RowA w' b2 c2 u.pages
 | none => ∃ b1 n1 c1 b2 n2 c2, e = .returned (.tuple #[.agg #[.slice b1 n1 c1, .slice b2 n2 c2], .int .i64 (-1)])
def RBelR (w' : World) (r : Option (Tr × Int)) (x1 : Option Addr) (m1 k1 : Nat) (x2 : Option Addr) (m2 k2 : Nat) (mm : Int) : Prop := match r with
 | some (u, m) => mm = m ∧ m1 = u.nodes.length ∧ m2 = u.pages.length ∧ RowA w' x1 k1 u.nodes ∧ RowA w' x2 k2 u.pages
 | none => mm = -1
theorem RBelTo.form {w : World} {r : Option (Tr × Int)} {e : Ending} {w' : World} (h : RBelTo w r e w') : Pure w w' ∧ ∃ x1 m1 k1 x2 m2 k2 mm, e = .returned (.tuple #[.agg #[.slice x1 m1 k1, .slice x2 m2 k2], .int .i64 mm]) ∧ RBelR w' r x1 m1 k1 x2 m2 k2 mm := by
 refine ⟨h.1, ?_⟩;have h2 := h.2
 match r with
 | some (u, m) =>
   obtain ⟨b1, c1, b2, c2, rfl, h3, h4⟩ := h2;exact ⟨b1, _, c1, b2, _, c2, m, rfl, rfl, rfl, rfl, h3, h4⟩
 | none =>
   obtain ⟨b1, n1, c1, b2, n2, c2, rfl⟩ := h2;exact ⟨b1, n1, c1, b2, n2, c2, -1, rfl, rfl⟩
theorem RBelR.pure {w w' : World} {r : Option (Tr × Int)} {x1 : Option Addr} {m1 k1 : Nat} {x2 : Option Addr} {m2 k2 : Nat} {mm : Int} (h : RBelR w r x1 m1 k1 x2 m2 k2 mm) (hP : Pure w w') : RBelR w' r x1 m1 k1 x2 m2 k2 mm := by
 match r with
 | some (u, m) => exact ⟨h.1, h.2.1, h.2.2.1, h.2.2.2.1.pure hP, h.2.2.2.2.pure hP⟩
 | none => exact h
theorem RBelR.off {w w' : World} {r : Option (Tr × Int)} {x1 : Option Addr} {m1 k1 : Nat} {x2 : Option Addr} {m2 k2 : Nat} {mm : Int} (h : RBelR w r x1 m1 k1 x2 m2 k2 mm) {b : Nat} {y1 y2 : Option Addr} {i1 i2 j1 j2 : Nat} {T : TypeId} (hB : BlockIs w b [.slice y1 i1 j1, .slice y2 i2 j2] T) (hE : Ext (fun k => k = b) w w') : RBelR w' r x1 m1 k1 x2 m2 k2 mm := by
 match r with
 | some (u, m) => exact ⟨h.1, h.2.1, h.2.2.1, h.2.2.2.1.off hB hE, h.2.2.2.2.off hB hE⟩
 | none => exact h
theorem size_doc2 : (Tryz.prog.info? 24).map (·.size) = some 2 := by kernel_rfl
theorem exec_load24 {oi : Oper} {ev : Operand → Value} {w : World} {x : Operand} {b : Nat} {cs : List Value} {T : TypeId} (ho : oi.op = .load 24 x) (hx : ev x = .pointer (some ⟨b, 0, none⟩)) (hB : BlockIs w b cs T) (hl : (Tryz.prog.info? 24).map (·.size) = some cs.length) :
 (execOp ev oi).run Tryz.prog w = .ok (.value (.agg cs.toArray)) w := by
 unfold execOp;simp only [ho, hx, Instr.loadAt, Instr.sureAddr, Sem.run_bind, Sem.run_pure, Result.andThen_ok, run_loadVar_mid w b 0 24 cs _ hB.range Tryz.underlying24 rfl hl]
theorem exec_load33 {oi : Oper} {ev : Operand → Value} {w : World} {x : Operand} {b : Nat} {cs : List Value} {T : TypeId} (ho : oi.op = .load 76 x) (hx : ev x = .pointer (some ⟨b, 0, none⟩)) (hB : BlockIs w b cs T) (hl : (Tryz.prog.info? 76).map (·.size) = some cs.length) :
 (execOp ev oi).run Tryz.prog w = .ok (.value (.agg cs.toArray)) w := by
 unfold execOp;simp only [ho, hx, Instr.loadAt, Instr.sureAddr, Sem.run_bind, Sem.run_pure, Result.andThen_ok, run_loadVar_mid w b 0 76 cs _ hB.range Tryz.underlying76 rfl hl]
theorem belP_eq2 (l : List Ob) (root : Int) (f : Nat) (parent : Int) (page : Bool) (t : Tr) (n : Int) : belP l root f parent page t n =
 (if n = root ∨ t.has n ∨ parentB (obAt l n).v parent = false then none
  else if page && typedO (obAt l n) "Page".toUTF8 then some (⟨t.nodes, t.pages ++ [n]⟩, 1)
  else match f, nodeO (obAt l n) with
   | f + 1, some (kids, count) =>
     match kidsP (belP l root f n (decide (count = kids.length))) (decide (count = kids.length)) kids ⟨t.nodes ++ [n], t.pages⟩ 0 with
     | some (u, s) => if s = count then some (u, s) else none
     | none => none
   | _, _ => none) := by
 conv => lhs; unfold belP
 rfl
set_option maxHeartbeats 8000000 in
theorem refbelow_any (d : Nat) (l : List Ob) (oa : Option Addr) (oc : Nat) (rows : List (List Value)) (root : Int) (w0 : World) (hD : DocOk w0 d l oa rows root) : ∀ (f : Nat), f ≤ 64 → ∀ (n parent G : Int) (page : Bool) (t : Tr) (a1 a2 : Option Addr) (c1 c2 : Nat) (W0 : World), G = 64 - (f : Int) → Pure w0 W0 → t.Ok l → RowA W0 a1 c1 t.nodes → RowA W0 a2 c2 t.pages →
 Calls Tryz.prog 54 #[.agg #[.slice oa l.length oc, .int .i64 root], .agg #[.slice a1 t.nodes.length c1, .slice a2 t.pages.length c2], .int .i64 n, .int .i64 parent, .int .i64 G, .bool page] W0 (RBelTo W0 (belP l root f parent page t n)) := by
 intro f0
 induction f0 using Nat.strongRecOn with
 | ind f0 ih =>
 intro hf n parent G page t a1 a2 c1 c2 W0 hG hPw hok hr1 hr2
 obtain ⟨r, hr⟩ : ∃ z, z = belP l root f0 parent page t n := ⟨_, rfl⟩;rw [← hr];rw [belP_eq2] at hr;have HR0 := qh hr;have HIH := qh ih;have HG := qh hG;have HPw := qh hPw;have HOk := qh hok;have HD := qh hD;have hlen := hok.len;have hdl := hD.len;have HC0 := qh (fun x W (hP : Pure W0 W) => refhas_any x a1 c1 t.nodes W (hr1.pure hP).row (by omega));have HC1 := qh (fun x W (hP : Pure W0 W) => refhas_any x a2 c2 t.pages W (hr2.pure hP).row (by omega));have HOb := qh (fun W (hP : Pure W0 W) => refobject_any d l oa oc rows root n W (hD.pure (hPw.pure hP)));have HRa1 := qh hr1;have HRa2 := qh hr2;have HLen : Hid (t.nodes.length + t.pages.length ≤ 5000) := qh (by omega);obtain ⟨on, hon⟩ : ∃ z, z = l.length := ⟨_, rfl⟩;obtain ⟨an, han⟩ : ∃ z, z = t.nodes.length := ⟨_, rfl⟩;obtain ⟨bn, hbn⟩ : ∃ z, z = t.pages.length := ⟨_, rfl⟩;rw [← hon] at HOb ⊢;rw [← han] at HC0 ⊢;rw [← hbn] at HC1 ⊢;have HAn := qh han;have HBn := qh hbn;have HOn' := qh hon;obtain ⟨wo, hwo⟩ : ∃ z, z = ((W0.alloc (.cells #[.slice oa on oc, .int .i64 root] 24)).alloc (.cells #[.slice a1 an c1, .slice a2 bn c2] 76)).alloc (.cells #[.slice none 0 0, .slice none 0 0] 76) := ⟨_, rfl⟩;obtain ⟨tb, htb⟩ : ∃ z, z = W0.heap.size := ⟨_, rfl⟩;have HPo : Hid (Pure W0 wo) := qh (by rw [hwo]; exact ((ext_alloc W0 _).pure (ext_alloc _ _)).pure (ext_alloc _ _));have HBd : Hid (BlockIs wo tb [.slice oa on oc, .int .i64 root] 24) := qh (by rw [hwo, htb]; exact ((BlockIs.new W0 [.slice oa on oc, .int .i64 root] 24).alloc _).alloc _);have HBt : Hid (BlockIs wo (tb + 1) [.slice a1 an c1, .slice a2 bn c2] 76) := qh (by rw [hwo, htb]; exact (blk_alloc W0 _ [.slice a1 an c1, .slice a2 bn c2] 76).alloc _);have HBr : Hid (BlockIs wo (tb + 1 + 1) [.slice none 0 0, .slice none 0 0] 76) := qh (by
  have h := blk_alloc (W0.alloc (.cells #[.slice oa on oc, .int .i64 root] 24)) (.cells #[.slice a1 an c1, .slice a2 bn c2] 76) [.slice none 0 0, .slice none 0 0] 76;rw [World.size_alloc, ← htb] at h;rw [hwo]; exact h)
 have HWo : Hid (((W0.alloc (.cells #[.slice oa on oc, .int .i64 root] 24)).alloc (.cells #[.slice a1 an c1, .slice a2 bn c2] 76)).alloc (.cells #[.slice none 0 0, .slice none 0 0] 76) = wo) := qh hwo.symm;have HTb := qh htb;have HD0 : Hid (f0 ≤ 64) := qh hf;clear hr hG hPw hok hD hlen hdl hr1 hr2 hon han hbn hwo htb ih hf
 go_enter Tryz.func54, Tryz.ntmps54
 go_wp2_with fail
 rw [HWo.out, ← HTb.out];refine (HOb.out wo HPo.out).mono ?_;rintro e W2 ⟨cs, rfl, hL, hP⟩;have hr := HR0.out;clear HR0;have hsz := HD.out.at_size n;have hvw := HD.out.at_wf n;obtain ⟨o, ho⟩ : ∃ z, z = obAt l n := ⟨_, rfl⟩;rw [← ho] at hr hL hsz hvw ⊢;have hl : o.v.l.length ≤ 1000000 := by have := V.len_size o.v; omega
 have hkb := fun kids c (h : nodeO o = some (kids, c)) => (node_typed h).2;have hkp : ∀ kids c, nodeO o = some (kids, c) → 1 ≤ n ∧ n ≤ l.length := fun kids c h => typed_in (by rw [← ho]; exact (node_typed h).1);have HNd := qh (fun W (hP : Pure wo W) => refnode_any d o cs wo W hP hL hsz);have HPa := qh (fun W (hP : Pure wo W) => refchild_any d o.v cs parent W (hL.pure hP) hl);have HPg := qh (fun W (hP : Pure wo W) => reftyped_any d o cs "Page".toUTF8 W (hL.pure hP) hl);rw [← k_page] at HPg;obtain ⟨va, vc, vrows, hcs, _⟩ := hL.kids;rw [hcs] at HNd HPa HPg ⊢;obtain ⟨N, hN⟩ : ∃ z, z = nodeO o := ⟨_, rfl⟩;obtain ⟨P, hPe⟩ : ∃ z, z = parentB o.v parent := ⟨_, rfl⟩;obtain ⟨Y, hY⟩ : ∃ z, z = typedO o "Page".toUTF8 := ⟨_, rfl⟩;unfold RNodTo at HNd;rw [← hN] at hr HNd hkb hkp;rw [← hPe] at hr HPa;rw [k_page] at HPg;rw [← hY] at hr HPg;rw [← k_page] at HPg;have HR := qh hr;have HKb := qh hkb;have HKp := qh hkp;have HPg2 := qh hP;have HBd2 := qh (HBd.out.ext hP id);have HBt2 := qh (HBt.out.ext hP id);have HBr2 := qh (HBr.out.ext hP id);clear hcs hL hP hsz hvw ho hl hN hPe hY hr hkb hkp HBd HBt HBr HOb;generalize o.v.l.length = vm at *;generalize o.v.kind = vk at *;generalize o.v.n = vn at *;generalize o.v.s = vs at *;generalize o.st = st at *;generalize o.data = dt at *;simp only [List.cons_append, List.nil_append] at HNd HPa HPg ⊢
 go_upto_region 2 with (fail)
 obtain ⟨W3, hW3⟩ : ∃ z, z = W2.alloc (.cells #[.int .i64 vk, .int .i64 vn, .string vs, .slice va vm vc, .bool st, .string dt] 50) := ⟨_, rfl⟩;obtain ⟨ob, hob⟩ : ∃ z, z = W2.heap.size := ⟨_, rfl⟩;have HB6 : Hid (BlockIs W3 ob [.int .i64 vk, .int .i64 vn, .string vs, .slice va vm vc, .bool st, .string dt] 50) := qh (by rw [hW3, hob]; exact BlockIs.new W2 [.int .i64 vk, .int .i64 vn, .string vs, .slice va vm vc, .bool st, .string dt] 50);have HBd3 : Hid (BlockIs W3 tb [.slice oa on oc, .int .i64 root] 24) := qh (by rw [hW3]; exact HBd2.out.alloc _);have HBt3 : Hid (BlockIs W3 (tb + 1) [.slice a1 an c1, .slice a2 bn c2] 76) := qh (by rw [hW3]; exact HBt2.out.alloc _);have HBr3 : Hid (BlockIs W3 (tb + 1 + 1) [.slice none 0 0, .slice none 0 0] 76) := qh (by rw [hW3]; exact HBr2.out.alloc _);have HP3 : Hid (Pure wo W3) := qh (by rw [hW3]; exact HPg2.out.pure (ext_alloc _ _));rw [← hW3, ← hob];clear hW3 hob HBd2 HBt2 HBr2 HPg2;have q0 : W3.cell? ⟨tb + 1, 0, none⟩ = some (.slice a1 an c1) := HBt3.out.cell 0;have q1 : W3.cell? ⟨tb + 1, 1, none⟩ = some (.slice a2 bn c2) := HBt3.out.cell 1;have d1 : W3.cell? ⟨tb, 1, none⟩ = some (.int .i64 root) := HBd3.out.cell 1;have y0 : W3.cell? ⟨ob, 0, none⟩ = some (.int .i64 vk) := HB6.out.cell 0;have y1 : W3.cell? ⟨ob, 1, none⟩ = some (.int .i64 vn) := HB6.out.cell 1;have y2 : W3.cell? ⟨ob, 2, none⟩ = some (.string vs) := HB6.out.cell 2;have y3 : W3.cell? ⟨ob, 3, none⟩ = some (.slice va vm vc) := HB6.out.cell 3;have y4 : W3.cell? ⟨ob, 4, none⟩ = some (.bool st) := HB6.out.cell 4;have y5 : W3.cell? ⟨ob, 5, none⟩ = some (.string dt) := HB6.out.cell 5
 by_cases hbad : n = root ∨ t.has n ∨ P = false
 ·have HNn : Hid (r = none) := qh (HR.out.trans (if_pos hbad))
  have hb4 : n = root ∨ (n ≠ root ∧ (n ∈ t.nodes ∨ (n ∉ t.nodes ∧ (n ∈ t.pages ∨ (n ∉ t.pages ∧ P = false))))) := by
   by_cases h1 : n = root
   ·exact Or.inl h1
   ·by_cases h2 : n ∈ t.nodes
    ·exact Or.inr ⟨h1, Or.inl h2⟩
    ·by_cases h3 : n ∈ t.pages
     ·exact Or.inr ⟨h1, Or.inr ⟨h2, Or.inl h3⟩⟩
     ·rcases hbad with h | h | h
      ·exact absurd h h1
      ·exact absurd h (fun h => h.elim h2 h3)
      ·exact Or.inr ⟨h1, Or.inr ⟨h2, Or.inr ⟨h3, h⟩⟩⟩
  clear hbad HR;have HP03 := qh (HPo.out.pure HP3.out)
  rcases hb4 with hn1 | ⟨hn1, hn2 | ⟨hn2, hn3 | ⟨hn3, rfl⟩⟩⟩
  ·have hrb : (n == root) = true := by simpa using hn1
   have HTh : Hid (W3.there (tb + 1 + 1) 0 (#[.slice a1 an c1, .slice a2 bn c2] : Array Value).size) := qh (HBr3.out.there 2 rfl);have HSi : Hid ((Tryz.prog.info? 76).map (·.size) = some (#[.slice a1 an c1, .slice a2 bn c2] : Array Value).size) := qh size33;have HOn : Hid (((#[.slice a1 an c1, .slice a2 bn c2] : Array Value).all fun u => u.oneCell') = true) := qh (one2r _ _ _ _ _ _)
   have HBz := qh (HBr3.out.setAll [.slice a1 an c1, .slice a2 bn c2] rfl);have HPz : Hid (Pure W0 (W3.setCells (tb + 1 + 1) 0 [.slice a1 an c1, .slice a2 bn c2])) := qh (Ext.setCells _ 0 _ HP03.out (b := tb + 1 + 1) (fun h => by have := HTb.out; omega))
   go_wp2_with (first
    | (with_reducible refine at_store 76 (.tmp 12) (.tmp 48) ?_; refine wpList_store_mid rfl 76 (.tmp 12) (.tmp 48) rfl (tb + 1 + 1) 0 #[.slice a1 an c1, .slice a2 bn c2] rfl rfl HTh.out HSi.out HOn.out ?_))
   refine bodyPost_ret (results_row2 rfl _ _ (tb + 1 + 1) _ [.slice a1 an c1, .slice a2 bn c2] _ rfl HBz.out Tryz.underlying76 rfl size33) rfl ?_;rw [HNn.out];exact ⟨HPz.out, _, _, _, _, _, _, rfl⟩
  ·have hrb : (n == root) = false := by simpa using hn1
   have hcb : decide (n ∈ t.nodes) = true := decide_eq_true hn2
   go_wp2_with fail
   refine (HC0.out n W3 HP03.out).mono ?_;rintro e W' ⟨rfl, hw'⟩;obtain rfl := hw'.symm;have HTh : Hid (W3.there (tb + 1 + 1) 0 (#[.slice a1 an c1, .slice a2 bn c2] : Array Value).size) := qh (HBr3.out.there 2 rfl);have HSi : Hid ((Tryz.prog.info? 76).map (·.size) = some (#[.slice a1 an c1, .slice a2 bn c2] : Array Value).size) := qh size33;have HOn : Hid (((#[.slice a1 an c1, .slice a2 bn c2] : Array Value).all fun u => u.oneCell') = true) := qh (one2r _ _ _ _ _ _)
   have HBz := qh (HBr3.out.setAll [.slice a1 an c1, .slice a2 bn c2] rfl);have HPz : Hid (Pure W0 (W3.setCells (tb + 1 + 1) 0 [.slice a1 an c1, .slice a2 bn c2])) := qh (Ext.setCells _ 0 _ HP03.out (b := tb + 1 + 1) (fun h => by have := HTb.out; omega))
   go_wp2_with (first
    | (with_reducible refine at_store 76 (.tmp 12) (.tmp 48) ?_; refine wpList_store_mid rfl 76 (.tmp 12) (.tmp 48) rfl (tb + 1 + 1) 0 #[.slice a1 an c1, .slice a2 bn c2] rfl rfl HTh.out HSi.out HOn.out ?_))
   refine bodyPost_ret (results_row2 rfl _ _ (tb + 1 + 1) _ [.slice a1 an c1, .slice a2 bn c2] _ rfl HBz.out Tryz.underlying76 rfl size33) rfl ?_;rw [HNn.out];exact ⟨HPz.out, _, _, _, _, _, _, rfl⟩
  ·have hrb : (n == root) = false := by simpa using hn1
   have hcb : decide (n ∈ t.nodes) = false := decide_eq_false hn2;have hcc : decide (n ∈ t.pages) = true := decide_eq_true hn3
   go_wp2_with fail
   refine (HC0.out n W3 HP03.out).mono ?_;rintro e W' ⟨rfl, hw'⟩;obtain rfl := hw'.symm
   go_wp2_with fail
   refine (HC1.out n W3 HP03.out).mono ?_;rintro e W' ⟨rfl, hw'⟩;obtain rfl := hw'.symm;have HTh : Hid (W3.there (tb + 1 + 1) 0 (#[.slice a1 an c1, .slice a2 bn c2] : Array Value).size) := qh (HBr3.out.there 2 rfl);have HSi : Hid ((Tryz.prog.info? 76).map (·.size) = some (#[.slice a1 an c1, .slice a2 bn c2] : Array Value).size) := qh size33;have HOn : Hid (((#[.slice a1 an c1, .slice a2 bn c2] : Array Value).all fun u => u.oneCell') = true) := qh (one2r _ _ _ _ _ _)
   have HBz := qh (HBr3.out.setAll [.slice a1 an c1, .slice a2 bn c2] rfl);have HPz : Hid (Pure W0 (W3.setCells (tb + 1 + 1) 0 [.slice a1 an c1, .slice a2 bn c2])) := qh (Ext.setCells _ 0 _ HP03.out (b := tb + 1 + 1) (fun h => by have := HTb.out; omega))
   go_wp2_with (first
    | (with_reducible refine at_store 76 (.tmp 12) (.tmp 48) ?_; refine wpList_store_mid rfl 76 (.tmp 12) (.tmp 48) rfl (tb + 1 + 1) 0 #[.slice a1 an c1, .slice a2 bn c2] rfl rfl HTh.out HSi.out HOn.out ?_))
   refine bodyPost_ret (results_row2 rfl _ _ (tb + 1 + 1) _ [.slice a1 an c1, .slice a2 bn c2] _ rfl HBz.out Tryz.underlying76 rfl size33) rfl ?_;rw [HNn.out];exact ⟨HPz.out, _, _, _, _, _, _, rfl⟩
  ·have hrb : (n == root) = false := by simpa using hn1
   have hcb : decide (n ∈ t.nodes) = false := decide_eq_false hn2;have hcc : decide (n ∈ t.pages) = false := decide_eq_false hn3
   go_wp2_with fail
   refine (HC0.out n W3 HP03.out).mono ?_;rintro e W' ⟨rfl, hw'⟩;obtain rfl := hw'.symm
   go_wp2_with fail
   refine (HC1.out n W3 HP03.out).mono ?_;rintro e W' ⟨rfl, hw'⟩;obtain rfl := hw'.symm
   go_wp2_with fail
   refine (HPa.out W3 HP3.out).mono ?_;rintro e W4 ⟨rfl, hP4⟩;have HP04 := qh (HP03.out.pure hP4);have HBr4 := qh (HBr3.out.ext hP4 id);have hBt4 := HBt3.out.ext hP4 id;clear q0 q1;have q0 : W4.cell? ⟨tb + 1, 0, none⟩ = some (.slice a1 an c1) := hBt4.cell 0;have q1 : W4.cell? ⟨tb + 1, 1, none⟩ = some (.slice a2 bn c2) := hBt4.cell 1;clear hP4 hBt4;have HTh : Hid (W4.there (tb + 1 + 1) 0 (#[.slice a1 an c1, .slice a2 bn c2] : Array Value).size) := qh (HBr4.out.there 2 rfl);have HSi : Hid ((Tryz.prog.info? 76).map (·.size) = some (#[.slice a1 an c1, .slice a2 bn c2] : Array Value).size) := qh size33;have HOn : Hid (((#[.slice a1 an c1, .slice a2 bn c2] : Array Value).all fun u => u.oneCell') = true) := qh (one2r _ _ _ _ _ _)
   have HBz := qh (HBr4.out.setAll [.slice a1 an c1, .slice a2 bn c2] rfl);have HPz : Hid (Pure W0 (W4.setCells (tb + 1 + 1) 0 [.slice a1 an c1, .slice a2 bn c2])) := qh (Ext.setCells _ 0 _ HP04.out (b := tb + 1 + 1) (fun h => by have := HTb.out; omega))
   go_wp2_with (first
    | (with_reducible refine at_store 76 (.tmp 12) (.tmp 48) ?_; refine wpList_store_mid rfl 76 (.tmp 12) (.tmp 48) rfl (tb + 1 + 1) 0 #[.slice a1 an c1, .slice a2 bn c2] rfl rfl HTh.out HSi.out HOn.out ?_))
   refine bodyPost_ret (results_row2 rfl _ _ (tb + 1 + 1) _ [.slice a1 an c1, .slice a2 bn c2] _ rfl HBz.out Tryz.underlying76 rfl size33) rfl ?_;rw [HNn.out];exact ⟨HPz.out, _, _, _, _, _, _, rfl⟩
 ·have hn1 : ¬ n = root := fun h => hbad (Or.inl h)
  have hn2 : n ∉ t.nodes := fun h => hbad (Or.inr (Or.inl (Or.inl h)));have hn3 : n ∉ t.pages := fun h => hbad (Or.inr (Or.inl (Or.inr h)));have hPt : P = true := by cases P with
   | true => rfl
   | false => exact absurd (Or.inr (Or.inr rfl)) hbad
  subst hPt;have HNh : Hid (¬ t.has n) := qh (fun h => h.elim hn2 hn3);have HR2 : Hid (r = if (page && Y) = true then some (⟨t.nodes, t.pages ++ [n]⟩, 1) else match f0, N with
   | f + 1, some (kids, count) =>
     match kidsP (belP l root f n (decide (count = kids.length))) (decide (count = kids.length)) kids ⟨t.nodes ++ [n], t.pages⟩ 0 with
     | some (u, s) => if s = count then some (u, s) else none
     | none => none
   | _, _ => none) := qh (HR.out.trans (if_neg hbad))
  clear hbad HR;have HP03 := qh (HPo.out.pure HP3.out);have hrb : (n == root) = false := by simpa using hn1
  have hcb : decide (n ∈ t.nodes) = false := decide_eq_false hn2;have hcc : decide (n ∈ t.pages) = false := decide_eq_false hn3
  go_wp2_with fail
  refine (HC0.out n W3 HP03.out).mono ?_;rintro e W' ⟨rfl, hw'⟩;obtain rfl := hw'.symm
  go_wp2_with fail
  refine (HC1.out n W3 HP03.out).mono ?_;rintro e W' ⟨rfl, hw'⟩;obtain rfl := hw'.symm
  go_wp2_with fail
  refine (HPa.out W3 HP3.out).mono ?_;rintro e W4 ⟨rfl, hP4⟩;have hB64 := HB6.out.ext hP4 id;have HB64 := qh hB64;have HP4 := qh (HP3.out.pure hP4);have HBd4 := qh (HBd3.out.ext hP4 id);have HBt4 := qh (HBt3.out.ext hP4 id);have HBr4 := qh (HBr3.out.ext hP4 id);clear y0 y1 y2 y3 y4 y5 q0 q1 d1 hP4 HBd3 HBt3 HBr3 HB6 HP3 HP03 HC0 HC1 HPa;have y0 : W4.cell? ⟨ob, 0, none⟩ = some (.int .i64 vk) := hB64.cell 0;have y1 : W4.cell? ⟨ob, 1, none⟩ = some (.int .i64 vn) := hB64.cell 1;have y2 : W4.cell? ⟨ob, 2, none⟩ = some (.string vs) := hB64.cell 2;have y3 : W4.cell? ⟨ob, 3, none⟩ = some (.slice va vm vc) := hB64.cell 3;have y4 : W4.cell? ⟨ob, 4, none⟩ = some (.bool st) := hB64.cell 4;have y5 : W4.cell? ⟨ob, 5, none⟩ = some (.string dt) := hB64.cell 5;clear hB64
  go_upto_region 4 with (fail)
  go_cut [53] (fun x W => x = .bool (page && Y) ∧ Hid (Pure W4 W))
  case first =>
   cases page with
   | true =>
     go_wp2_with fail
     refine (HPg.out W4 HP4.out).mono ?_;rintro e W5 ⟨rfl, hP5⟩
     go_wp2_with fail
     go_meet
     exact ⟨rfl, qh hP5⟩
   | false =>
     go_wp2_with fail
     go_meet
     exact ⟨rfl, qh (Ext.refl _ _)⟩
  case rest =>
   obtain ⟨rfl, HE5⟩ := hcut;obtain ⟨W5, rfl⟩ : ∃ z : World, z = wc := ⟨_, rfl⟩;obtain ⟨B, hB⟩ : ∃ z, z = (page && Y) := ⟨_, rfl⟩;rw [← hB] at HR2 ⊢;have hB65 := HB64.out.ext HE5.out id;have hBt5 := HBt4.out.ext HE5.out id;have HBd5 := qh (HBd4.out.ext HE5.out id);have HBr5 := qh (HBr4.out.ext HE5.out id);have HBt5 := qh hBt5;have HP5 := qh (HP4.out.pure HE5.out);clear hB y0 y1 y2 y3 y4 y5 HBd4 HBt4 HBr4 HB64 HE5 HPg HP4;have y0 : W5.cell? ⟨ob, 0, none⟩ = some (.int .i64 vk) := hB65.cell 0;have y1 : W5.cell? ⟨ob, 1, none⟩ = some (.int .i64 vn) := hB65.cell 1;have y2 : W5.cell? ⟨ob, 2, none⟩ = some (.string vs) := hB65.cell 2;have y3 : W5.cell? ⟨ob, 3, none⟩ = some (.slice va vm vc) := hB65.cell 3;have y4 : W5.cell? ⟨ob, 4, none⟩ = some (.bool st) := hB65.cell 4;have y5 : W5.cell? ⟨ob, 5, none⟩ = some (.string dt) := hB65.cell 5;have q0 : W5.cell? ⟨tb + 1, 0, none⟩ = some (.slice a1 an c1) := hBt5.cell 0;have q1 : W5.cell? ⟨tb + 1, 1, none⟩ = some (.slice a2 bn c2) := hBt5.cell 1;have hob5 : ob < W5.heap.size := hB65.lt;clear hB65 hBt5;cases B with
   | true =>
     have HF : Hid (r = some (⟨t.nodes, t.pages ++ [n]⟩, 1)) := qh (HR2.out.trans (if_pos rfl));have HP05 : Hid (Pure W0 W5) := qh (HPo.out.pure HP5.out);clear HR2 y0 y1 y2 y3 y4 y5;have hlt1 : tb + 1 < W5.heap.size := HBt5.out.lt;have hlt2 : tb + 1 + 1 < W5.heap.size := HBr5.out.lt;have HLt1 := qh hlt1;have HLt2 := qh hlt2;have HE0 : Hid ((W5.alloc (.cells #[] 3)).ownsRow W5.heap.size 3 1 (.slice (some ⟨W5.heap.size, 0, none⟩) 0 0) 0 []) := qh (World.ownsRow_lit (base := W5.heap.size) (e := 3) (size := 1) W5 #[] 0 (Nat.le_refl _) (Nat.zero_le _) rfl);have HRwx : Hid (RowOf (W5.alloc (.cells #[] 3)) a2 (intsV t.pages)) := qh ((HRa2.out.pure (HP05.out.pure (ext_alloc _ _))).row);have HNl : Hid (a2 = none → bn = 0 ∧ c2 = 0) := qh (fun e => by rw [HBn.out]; exact HRa2.out.none0 e);have HLnx : Hid ((intsV t.pages).length = bn * 1) := qh (by rw [HBn.out, intsV, List.length_map, Nat.mul_one]);have HOnx : Hid (∀ u ∈ intsV t.pages, u.oneCell' = true) := qh (fun u hu => by
      unfold intsV at hu;obtain ⟨x, _, rfl⟩ := List.mem_map.1 hu
      rfl)
     have HBx : Hid (bn ≤ 5000) := qh (by have := HLen.out; have := HBn.out; omega);have HB1 : Hid (bn * 8 ≤ 140737488355328) := qh (by have := HBx.out; omega);have HB2 : Hid (bn ≤ maxLen) := qh (by have := HBx.out; unfold maxLen; omega);have HB3 : Hid ((bn + 1) * 8 ≤ 140737488355328) := qh (by have := HBx.out; omega);have HB4 : Hid (bn + 1 ≤ maxLen) := qh (by have := HBx.out; unfold maxLen; omega);have HBs : Hid (W5.heap.size ≤ (W5.alloc (.cells #[] 3)).heap.size) := qh (by rw [World.size_alloc]; omega)
     go_upto_region 6 with (first | (at_builtin; refine wpList_append_any rfl (.tmp 54) (.tmp 56) 35 rfl W5.heap.size 3 (.int .i64 0) 1 8 Tryz.underlying35 infoI rfl (by decide) (.slice (some ⟨W5.heap.size, 0, none⟩) 0 0) 0 [] rfl HE0.out a2 bn c2 (intsV t.pages) rfl HNl.out HLnx.out HRwx.out HOnx.out bn (Nat.zero_add _) (intsV t.pages) rfl HB1.out HB2.out HBs.out ?_; intro a6 c6 W6 hO6 hg6; have HOs : Hid ((W6.alloc (.cells #[.int .i64 n] 3)).ownsRow W5.heap.size 3 1 (.slice a6 bn c6) bn (intsV t.pages)) := qh (own_ext hO6 (ext_alloc W6 _) (fun _ _ => id)); have HSz : Hid (W5.heap.size ≤ (W6.alloc (.cells #[.int .i64 n] 3)).heap.size) := qh (by have := hg6.size; rw [World.size_alloc] at this ⊢; omega); have HBtA : Hid (BlockIs (W6.alloc (.cells #[.int .i64 n] 3)) (tb + 1) [.slice a1 an c1, .slice a2 bn c2] 76) := qh (((HBt5.out.alloc _).ext (ext_of_grown hg6) (off_first HLt1.out)).alloc _); have HBrA : Hid (BlockIs (W6.alloc (.cells #[.int .i64 n] 3)) (tb + 1 + 1) [.slice none 0 0, .slice none 0 0] 76) := qh (((HBr5.out.alloc _).ext (ext_of_grown hg6) (off_first HLt2.out)).alloc _); have HPA : Hid (Pure W5 (W6.alloc (.cells #[.int .i64 n] 3))) := qh (((ext_alloc W5 _).grown hg6 (fun i hi hlt => off_first hlt hi)).pure (ext_alloc _ _)); have HRo : Hid (RowOf (W6.alloc (.cells #[.int .i64 n] 3)) (some ⟨W6.heap.size, 0, none⟩) [.int .i64 n]) := qh (row_at _ rfl rfl)) | (at_builtin; refine wpList_append_any rfl (.tmp 57) (.tmp 59) 35 rfl W5.heap.size 3 (.int .i64 0) 1 8 Tryz.underlying35 infoI rfl (by decide) (.slice a6 bn c6) bn (intsV t.pages) rfl HOs.out (some ⟨W6.heap.size, 0, none⟩) 1 1 [.int .i64 n] rfl (fun e => by cases e) rfl HRo.out (fun u hu => by simp at hu; subst hu; rfl) (bn + 1) rfl (intsV t.pages ++ [.int .i64 n]) rfl HB3.out HB4.out HSz.out ?_; intro a7 c7 W7 hO7 hg7; have hT7 := HBtA.out.ext (ext_of_grown hg7) (fun e => by have := (HOs.out.lt _ e).1; have := HLt1.out; omega); have cT7 : W7.cell? ⟨tb + 1, 1, none⟩ = some (.slice a2 bn c2) := hT7.cell 1; have fT7 : W7.frozen? ⟨tb + 1, 1, none⟩ = false := hT7.free 1))
     clear hO6 hg6 HE0 HRwx HLnx HNl HBs hlt1 hlt2 q0 q1;obtain ⟨W8, hW8⟩ : ∃ z, z = W7.setCell ⟨tb + 1, 1, none⟩ (.slice a7 (bn + 1) c7) := ⟨_, rfl⟩;have HBt8 : Hid (BlockIs W8 (tb + 1) [.slice a1 an c1, .slice a7 (bn + 1) c7] 76) := qh (by rw [hW8]; exact hT7.set 1 _);have hr7 := HBrA.out.ext (ext_of_grown hg7) (fun e => by have := (HOs.out.lt _ e).1; have := HLt2.out; omega);have hX8 : Ext (fun k => k = tb + 1) W7 W8 := by rw [hW8]; exact Ext.setCell (S := fun i => i = tb + 1) (Ext.refl _ W7) (p := ⟨tb + 1, 1, none⟩) (fun _ => rfl) _
     have HBr8 : Hid (BlockIs W8 (tb + 1 + 1) [.slice none 0 0, .slice none 0 0] 76) := qh (hr7.ext hX8 (by omega));have hP7 : Pure W5 W7 := HPA.out.grown hg7 (fun i hi hlt => by have := (HOs.out.lt i hi).1; omega);have HO8 : Hid (W8.ownsRow W5.heap.size 3 1 (.slice a7 (bn + 1) c7) (bn + 1) (intsV (t.pages ++ [n]))) := qh (by rw [intsV_snoc]; exact own_ext hO7 hX8 (fun g hg e => by have := (hO7.lt g hg).1; have := HLt1.out; omega));have HX8 : Hid (Ext (fun k => k = tb + 1) W5 W8) := qh ((hP7.mono (fun _ _ e => nomatch e)).trans hX8 (fun _ _ e => e))
     have HP8 : Hid (Pure W0 W8) := qh (HP05.out.trans HX8.out (fun i hi e => by have := HTb.out; omega));rw [← hW8];clear hW8 hT7 cT7 fT7 hr7 hX8 hP7 hO7 hg7 HOs HSz HBtA HBrA HPA HRo;have q0 : W8.cell? ⟨tb + 1, 0, none⟩ = some (.slice a1 an c1) := HBt8.out.cell 0;have q1 : W8.cell? ⟨tb + 1, 1, none⟩ = some (.slice a7 (bn + 1) c7) := HBt8.out.cell 1;have HTh : Hid (W8.there (tb + 1 + 1) 0 (#[.slice a1 an c1, .slice a7 (bn + 1) c7] : Array Value).size) := qh (HBr8.out.there 2 rfl);have HSi : Hid ((Tryz.prog.info? 76).map (·.size) = some (#[.slice a1 an c1, .slice a7 (bn + 1) c7] : Array Value).size) := qh size33;have HOn : Hid (((#[.slice a1 an c1, .slice a7 (bn + 1) c7] : Array Value).all fun u => u.oneCell') = true) := qh (one2r _ _ _ _ _ _)
     have HBz := qh (HBr8.out.setAll [.slice a1 an c1, .slice a7 (bn + 1) c7] rfl);have HPz : Hid (Pure W0 (W8.setCells (tb + 1 + 1) 0 [.slice a1 an c1, .slice a7 (bn + 1) c7])) := qh (Ext.setCells _ 0 _ HP8.out (b := tb + 1 + 1) (fun h => by have := HTb.out; omega))
     go_wp2_with (first
      | (with_reducible refine at_store 76 (.tmp 12) (.tmp 62) ?_; refine wpList_store_mid rfl 76 (.tmp 12) (.tmp 62) rfl (tb + 1 + 1) 0 #[.slice a1 an c1, .slice a7 (bn + 1) c7] rfl rfl HTh.out HSi.out HOn.out ?_))
     refine bodyPost_ret (results_row2 rfl _ _ (tb + 1 + 1) _ [.slice a1 an c1, .slice a7 (bn + 1) c7] _ rfl HBz.out Tryz.underlying76 rfl size33) rfl ?_;rw [HF.out];refine ⟨HPz.out, a1, c1, a7, c7, ?_, HRa1.out.pure HPz.out, ?_⟩
     ·simp only [List.length_append, List.length_singleton, ← HAn.out, ← HBn.out]
      rfl
     ·exact RowA.own (own_ext HO8.out (Ext.setCells (S := fun k => k = tb + 1 + 1) _ 0 _ (Ext.refl _ _) (b := tb + 1 + 1) (fun _ => rfl)) (fun g hg e => by have := (HO8.out.lt g hg).1; have := HLt2.out; omega))
   | false =>
     have hr3 := HR2.out;rw [if_neg Bool.false_ne_true] at hr3;have HR3 := qh hr3;clear hr3;clear HR2
     go_wp2_with fail
     refine (HNd.out W5 HP5.out).mono ?_;rintro e V6 ⟨xa, xm, xc, cn, rfl, hP6, hK⟩;have HLt5 : Hid (tb + 1 < W5.heap.size) := qh HBt5.out.lt;have HKk := qh hK;have HBt6 := qh (HBt5.out.ext hP6 id);have HBr6 := qh (HBr5.out.ext hP6 id);have HBd6 := qh (HBd5.out.ext hP6 id);have HP06 : Hid (Pure W0 V6) := qh (HPo.out.pure (HP5.out.pure hP6));clear hK hP6 HBt5 HBr5 HBd5 HP5 y0 y1 y2 y3 y4 y5 q0 q1 hob5 HNd;have q0 : V6.cell? ⟨tb + 1, 0, none⟩ = some (.slice a1 an c1) := HBt6.out.cell 0;have q1 : V6.cell? ⟨tb + 1, 1, none⟩ = some (.slice a2 bn c2) := HBt6.out.cell 1;cases N with
     | none =>
       have HNn : Hid (r = none) := qh (by rw [HR3.out]; cases f0 <;> rfl);simp only [Option.isSome];have HTh : Hid (V6.there (tb + 1 + 1) 0 (#[.slice a1 an c1, .slice a2 bn c2] : Array Value).size) := qh (HBr6.out.there 2 rfl);have HSi : Hid ((Tryz.prog.info? 76).map (·.size) = some (#[.slice a1 an c1, .slice a2 bn c2] : Array Value).size) := qh size33;have HOn : Hid (((#[.slice a1 an c1, .slice a2 bn c2] : Array Value).all fun u => u.oneCell') = true) := qh (one2r _ _ _ _ _ _)
       have HBz := qh (HBr6.out.setAll [.slice a1 an c1, .slice a2 bn c2] rfl);have HPz : Hid (Pure W0 (V6.setCells (tb + 1 + 1) 0 [.slice a1 an c1, .slice a2 bn c2])) := qh (Ext.setCells _ 0 _ HP06.out (b := tb + 1 + 1) (fun h => by have := HTb.out; omega))
       go_wp2_with (first
        | (with_reducible refine at_store 76 (.tmp 12) (.tmp 75) ?_; refine wpList_store_mid rfl 76 (.tmp 12) (.tmp 75) rfl (tb + 1 + 1) 0 #[.slice a1 an c1, .slice a2 bn c2] rfl rfl HTh.out HSi.out HOn.out ?_))
       refine bodyPost_ret (results_row2 rfl _ _ (tb + 1 + 1) _ [.slice a1 an c1, .slice a2 bn c2] _ rfl HBz.out Tryz.underlying76 rfl size33) rfl ?_;rw [HNn.out];exact ⟨HPz.out, _, _, _, _, _, _, rfl⟩
     | some q =>
       obtain ⟨kids, q⟩ := q;simp only [Option.isSome];obtain ⟨hxm, hcq, hKow⟩ := HKk.out kids q rfl;subst hcq
       by_cases hf0 : f0 = 0
       ·subst hf0
        have hGb : (G == 64) = true := by have := HG.out; simpa using this
        have HNn : Hid (r = none) := qh (by rw [HR3.out]);clear hKow;have HTh : Hid (V6.there (tb + 1 + 1) 0 (#[.slice a1 an c1, .slice a2 bn c2] : Array Value).size) := qh (HBr6.out.there 2 rfl);have HSi : Hid ((Tryz.prog.info? 76).map (·.size) = some (#[.slice a1 an c1, .slice a2 bn c2] : Array Value).size) := qh size33;have HOn : Hid (((#[.slice a1 an c1, .slice a2 bn c2] : Array Value).all fun u => u.oneCell') = true) := qh (one2r _ _ _ _ _ _)
        have HBz := qh (HBr6.out.setAll [.slice a1 an c1, .slice a2 bn c2] rfl);have HPz : Hid (Pure W0 (V6.setCells (tb + 1 + 1) 0 [.slice a1 an c1, .slice a2 bn c2])) := qh (Ext.setCells _ 0 _ HP06.out (b := tb + 1 + 1) (fun h => by have := HTb.out; omega))
        go_wp2_with (first
         | (with_reducible refine at_store 76 (.tmp 12) (.tmp 75) ?_; refine wpList_store_mid rfl 76 (.tmp 12) (.tmp 75) rfl (tb + 1 + 1) 0 #[.slice a1 an c1, .slice a2 bn c2] rfl rfl HTh.out HSi.out HOn.out ?_))
        refine bodyPost_ret (results_row2 rfl _ _ (tb + 1 + 1) _ [.slice a1 an c1, .slice a2 bn c2] _ rfl HBz.out Tryz.underlying76 rfl size33) rfl ?_;rw [HNn.out];exact ⟨HPz.out, _, _, _, _, _, _, rfl⟩
       ·obtain ⟨f, rfl⟩ : ∃ g, f0 = g + 1 := ⟨f0 - 1, by omega⟩
        have hG64 : G < 64 := by have := HG.out; omega
        have hG0 : 0 ≤ G := by have h1 := HG.out; have h2 := HD0.out; omega
        have hGb : (G == 64) = false := by
         have h : G ≠ 64 := by omega
         simpa using h
        have HKn : Hid (kids.length = xm) := qh hxm.symm;obtain ⟨kn, hkn⟩ : ∃ z, z = xm := ⟨_, rfl⟩;rw [← hkn] at HKn hKow ⊢;have HKow := qh hKow;have hknb : kn ≤ 2048 := by
         have h := HKb.out kids cn rfl;rw [HKn.out] at h
         omega
        have HGf : Hid (G + 1 = 64 - (f : Int)) := qh (by have := HG.out; omega);have HIh := qh (fun n parent G page t a1 a2 c1 c2 W hG hP ho h1 h2 => HIH.out f (Nat.lt_succ_self f) (by have := HD0.out; omega) n parent G page t a1 a2 c1 c2 W hG hP ho h1 h2);obtain ⟨one, hone⟩ : ∃ z, (cn == (kn : Int)) = z := ⟨_, rfl⟩;have HOne : Hid (decide (cn = (kn : Int)) = one) := qh (by rw [← hone]; rfl);have HOneB : Hid ((cn == (kn : Int)) = one) := qh hone;have HOk2 : Hid (Tr.Ok l ⟨t.nodes ++ [n], t.pages⟩) := qh (HOk.out.node HNh.out (HKp.out kids cn rfl));obtain ⟨F, hF⟩ : ∃ z, z = belP l root f n (decide (cn = (kn : Int))) := ⟨_, rfl⟩;have HFi : Hid (F = belP l root f n one) := qh (by rw [hF, HOne.out]);have HFk : Hid (∀ (t : Tr) (k : Int) (u : Tr) (m : Int), t.Ok l → F t k = some (u, m) → u.Ok l ∧ 1 ≤ m) := qh (by rw [hF]; exact fun t k u m ht h => belP_ok l root f n _ t k u m ht h);have HFl : Hid (∀ (t : Tr) (k : Int) (u : Tr) (m : Int), F t k = some (u, m) → (u.pages.length : Int) = t.pages.length + m) := qh (by rw [hF]; exact fun t k u m h => belP_len l root f n _ t k u m h);have HRk : Hid (r = match kidsP F one kids ⟨t.nodes ++ [n], t.pages⟩ 0 with
         | some (u, s) => if s = cn then some (u, s) else none
         | none => none) := qh (by
           rw [HR3.out, hF];simp only [HKn.out, HOne.out])
        clear hF HR3 hxm hkn hKow hf0 HIH HKk;have hlt1 : tb + 1 < V6.heap.size := HBt6.out.lt;have hlt2 : tb + 1 + 1 < V6.heap.size := HBr6.out.lt;have HLt1 := qh hlt1;have HLt2 := qh hlt2;have HE0 : Hid ((V6.alloc (.cells #[] 3)).ownsRow V6.heap.size 3 1 (.slice (some ⟨V6.heap.size, 0, none⟩) 0 0) 0 []) := qh (World.ownsRow_lit (base := V6.heap.size) (e := 3) (size := 1) V6 #[] 0 (Nat.le_refl _) (Nat.zero_le _) rfl);have HRwx : Hid (RowOf (V6.alloc (.cells #[] 3)) a1 (intsV t.nodes)) := qh ((HRa1.out.pure (HP06.out.pure (ext_alloc _ _))).row);have HNl : Hid (a1 = none → an = 0 ∧ c1 = 0) := qh (fun e => by rw [HAn.out]; exact HRa1.out.none0 e);have HLnx : Hid ((intsV t.nodes).length = an * 1) := qh (by rw [HAn.out, intsV, List.length_map, Nat.mul_one]);have HOnx : Hid (∀ u ∈ intsV t.nodes, u.oneCell' = true) := qh (fun u hu => by
         unfold intsV at hu;obtain ⟨x, _, rfl⟩ := List.mem_map.1 hu
         rfl)
        have HBx : Hid (an ≤ 5000) := qh (by have := HLen.out; have := HAn.out; omega);have HB1 : Hid (an * 8 ≤ 140737488355328) := qh (by have := HBx.out; omega);have HB2 : Hid (an ≤ maxLen) := qh (by have := HBx.out; unfold maxLen; omega);have HB3 : Hid ((an + 1) * 8 ≤ 140737488355328) := qh (by have := HBx.out; omega);have HB4 : Hid (an + 1 ≤ maxLen) := qh (by have := HBx.out; unfold maxLen; omega);have HBs : Hid (V6.heap.size ≤ (V6.alloc (.cells #[] 3)).heap.size) := qh (by rw [World.size_alloc]; omega)
        go_upto_region 11 with (first | (at_builtin; refine wpList_append_any rfl (.tmp 76) (.tmp 78) 35 rfl V6.heap.size 3 (.int .i64 0) 1 8 Tryz.underlying35 infoI rfl (by decide) (.slice (some ⟨V6.heap.size, 0, none⟩) 0 0) 0 [] rfl HE0.out a1 an c1 (intsV t.nodes) rfl HNl.out HLnx.out HRwx.out HOnx.out an (Nat.zero_add _) (intsV t.nodes) rfl HB1.out HB2.out HBs.out ?_; intro a6 c6 W6 hO6 hg6; have HOs : Hid ((W6.alloc (.cells #[.int .i64 n] 3)).ownsRow V6.heap.size 3 1 (.slice a6 an c6) an (intsV t.nodes)) := qh (own_ext hO6 (ext_alloc W6 _) (fun _ _ => id)); have HSz : Hid (V6.heap.size ≤ (W6.alloc (.cells #[.int .i64 n] 3)).heap.size) := qh (by have := hg6.size; rw [World.size_alloc] at this ⊢; omega); have HBtA : Hid (BlockIs (W6.alloc (.cells #[.int .i64 n] 3)) (tb + 1) [.slice a1 an c1, .slice a2 bn c2] 76) := qh (((HBt6.out.alloc _).ext (ext_of_grown hg6) (off_first HLt1.out)).alloc _); have HBrA : Hid (BlockIs (W6.alloc (.cells #[.int .i64 n] 3)) (tb + 1 + 1) [.slice none 0 0, .slice none 0 0] 76) := qh (((HBr6.out.alloc _).ext (ext_of_grown hg6) (off_first HLt2.out)).alloc _); have HPA : Hid (Pure V6 (W6.alloc (.cells #[.int .i64 n] 3))) := qh (((ext_alloc V6 _).grown hg6 (fun i hi hlt => off_first hlt hi)).pure (ext_alloc _ _)); have HRo : Hid (RowOf (W6.alloc (.cells #[.int .i64 n] 3)) (some ⟨W6.heap.size, 0, none⟩) [.int .i64 n]) := qh (row_at _ rfl rfl)) | (at_builtin; refine wpList_append_any rfl (.tmp 79) (.tmp 81) 35 rfl V6.heap.size 3 (.int .i64 0) 1 8 Tryz.underlying35 infoI rfl (by decide) (.slice a6 an c6) an (intsV t.nodes) rfl HOs.out (some ⟨W6.heap.size, 0, none⟩) 1 1 [.int .i64 n] rfl (fun e => by cases e) rfl HRo.out (fun u hu => by simp at hu; subst hu; rfl) (an + 1) rfl (intsV t.nodes ++ [.int .i64 n]) rfl HB3.out HB4.out HSz.out ?_; intro a7 c7 W7 hO7 hg7; have hT7 := HBtA.out.ext (ext_of_grown hg7) (fun e => by have := (HOs.out.lt _ e).1; have := HLt1.out; omega); have cT7 : W7.cell? ⟨tb + 1, 0, none⟩ = some (.slice a1 an c1) := hT7.cell 0; have fT7 : W7.frozen? ⟨tb + 1, 0, none⟩ = false := hT7.free 0))
        clear hO6 hg6 HE0 HRwx HLnx HNl HBs hlt1 hlt2 q0 q1;obtain ⟨W8, hW8⟩ : ∃ z, z = W7.setCell ⟨tb + 1, 0, none⟩ (.slice a7 (an + 1) c7) := ⟨_, rfl⟩;have HBt8 : Hid (BlockIs W8 (tb + 1) [.slice a7 (an + 1) c7, .slice a2 bn c2] 76) := qh (by rw [hW8]; exact hT7.set 0 _);have hr7 := HBrA.out.ext (ext_of_grown hg7) (fun e => by have := (HOs.out.lt _ e).1; have := HLt2.out; omega);have hX8 : Ext (fun k => k = tb + 1) W7 W8 := by rw [hW8]; exact Ext.setCell (S := fun i => i = tb + 1) (Ext.refl _ W7) (p := ⟨tb + 1, 0, none⟩) (fun _ => rfl) _
        have HBr8 : Hid (BlockIs W8 (tb + 1 + 1) [.slice none 0 0, .slice none 0 0] 76) := qh (hr7.ext hX8 (by omega));have hP7 : Pure V6 W7 := HPA.out.grown hg7 (fun i hi hlt => by have := (HOs.out.lt i hi).1; omega);have HO8 : Hid (W8.ownsRow V6.heap.size 3 1 (.slice a7 (an + 1) c7) (an + 1) (intsV (t.nodes ++ [n]))) := qh (by rw [intsV_snoc]; exact own_ext hO7 hX8 (fun g hg e => by have := (hO7.lt g hg).1; have := HLt1.out; omega));have HX8 : Hid (Ext (fun k => k = tb + 1) V6 W8) := qh ((hP7.mono (fun _ _ e => nomatch e)).trans hX8 (fun _ _ e => e))
        have HP8 : Hid (Pure W0 W8) := qh (HP06.out.trans HX8.out (fun i hi e => by have := HTb.out; omega));rw [← hW8];clear hW8 hT7 cT7 fT7 hr7 hX8 hP7 hO7 hg7 HOs HSz HBtA HBrA HPA HRo;have q0 : W8.cell? ⟨tb + 1, 0, none⟩ = some (.slice a7 (an + 1) c7) := HBt8.out.cell 0;have q1 : W8.cell? ⟨tb + 1, 1, none⟩ = some (.slice a2 bn c2) := HBt8.out.cell 1;have HBd8 : Hid (BlockIs W8 tb [.slice oa on oc, .int .i64 root] 24) := qh (HBd6.out.ext HX8.out (by omega));have HBt9 : Hid (BlockIs W8 (tb + 1) [.slice a7 (t.nodes ++ [n]).length c7, .slice a2 t.pages.length c2] 76) := qh (by rw [List.length_append, List.length_singleton, ← HAn.out, ← HBn.out]; exact HBt8.out);have HKr : Hid (∀ Wr, Ext (fun k => k = tb + 1) W8 Wr → RowOf Wr xa (intsV kids)) := qh (fun Wr hE => own_row (own_ext HKow.out (HX8.out.trans hE (fun _ _ e => e)) (fun g hg e => by have := (HKow.out.lt g hg).1; have h5 := HLt5.out; have e2 : g = tb + 1 := e; omega)));clear q0 q1
        go_wp2_with fail
        go_loopw [18, 19] (fun s i wr => ∃ (k : Nat) (u : Tr) (b1 b2 : Option Addr) (d1 d2 : Nat) (m : Int), k ≤ kn ∧ i = .int .i64 k ∧ s = .int .i64 m ∧ 0 ≤ m ∧ m ≤ 5000 ∧ Hid (kidsP F one (kids.take k) ⟨t.nodes ++ [n], t.pages⟩ 0 = some (u, m)) ∧ Hid (u.Ok l) ∧ Hid (RowA wr b1 d1 u.nodes ∧ RowA wr b2 d2 u.pages) ∧ Hid (BlockIs wr (tb + 1) [.slice b1 u.nodes.length d1, .slice b2 u.pages.length d2] 76) ∧ Hid (Ext (fun k => k = tb + 1) W8 wr)) (fun _ i _ => kn - (intOf i).toNat)
        case atStart => exact ⟨0, ⟨t.nodes ++ [n], t.pages⟩, a7, a2, c7, c2, 0, Nat.zero_le _, rfl, rfl, Int.le_refl _, by omega, qh (by rw [List.take_zero]; rfl), HOk2, qh ⟨RowA.own HO8.out, HRa2.out.pure HP8.out⟩, HBt9, qh (Ext.refl _ _)⟩
        case round =>
         obtain ⟨k, u, b1, b2, d1, d2, m, hk, rfl, rfl, hm0, hm1, HPk, HUk, HRr, HBtr, HEr⟩ := hrel;obtain ⟨un, hun⟩ : ∃ z, z = u.nodes.length := ⟨_, rfl⟩;obtain ⟨up, hup⟩ : ∃ z, z = u.pages.length := ⟨_, rfl⟩;rw [← hun, ← hup] at HBtr;have HUn := qh hun;have HUp := qh hup;have HPwr : Hid (Pure W0 wr) := qh (HP8.out.trans HEr.out (fun i hi e => by have := HTb.out; have e2 : i = tb + 1 := e; omega));have HBdr := qh (HBd8.out.ext HEr.out (by omega));have HBrr := qh (HBr8.out.ext HEr.out (by omega));have HLtd : Hid (tb < wr.heap.size) := qh HBdr.out.lt;have HLtr : Hid (tb + 1 < wr.heap.size) := qh HBtr.out.lt;clear hun hup
         by_cases hlt : k < kn
         ·have hki : (k : Int) < (kn : Int) := by omega
          have hk0 : (0 : Int) ≤ (k : Int) := by omega
          obtain ⟨x, hx⟩ : ∃ x, kids[k]? = some x := ⟨_, List.getElem?_eq_getElem (by rw [HKn.out]; exact hlt)⟩;obtain ⟨kb, ko, hxa, hcx⟩ := HKr.out wr HEr.out k (.int .i64 x) (by rw [intsV, List.getElem?_map, hx]; rfl);subst hxa;have HKx : Hid (∀ W, Ext (fun k => wr.heap.size ≤ k) wr.drew W → W.cell? ⟨kb, ko + k, none⟩ = some (.int .i64 x)) := qh (fun W hE => hE.cell_some (show wr.drew.cell? ⟨kb, ko + k, none⟩ = _ from hcx) (Nat.not_le.2 (World.block_lt_of_cell? wr _ hcx)));have HSn := qh (kidsP_snoc hx HPk.out);have HCall := qh (fun W (hP : Pure wr W) => HIh.out x n (G + 1) one u b1 b2 d1 d2 W HGf.out ((HPw.out.pure HPwr.out).pure hP) HUk.out (HRr.out.1.pure hP) (HRr.out.2.pure hP));rw [← HFi.out, ← HOn'.out, ← HUn.out, ← HUp.out] at HCall;obtain ⟨q, hq⟩ : ∃ z, z = F u x := ⟨_, rfl⟩;rw [← hq] at HCall HSn;have hwG : IntKind.i64.wrap (G + 1) = G + 1 := by rw [IntKind.wrap_i64]; omega
          have HCall2 := HCall;rw [← HOneB.out] at HCall2;have HQ := qh hq;clear hx hq hcx HIh
          go_upto_region 15 with (fail)
          go_cut [20, 21] (fun p y W => ∃ bz x1 m1 k1 x2 m2 k2 mm, p = .pointer (some ⟨bz, 0, none⟩) ∧ y = .int .i64 mm ∧ Hid (RBelR W q x1 m1 k1 x2 m2 k2 mm) ∧ Hid (BlockIs W bz [.slice x1 m1 k1, .slice x2 m2 k2] 76) ∧ Hid (Pure wr W) ∧ Hid (wr.heap.size ≤ bz))
          case first =>
           have hPw : Pure wr wr.drew := (Ext.refl _ wr).drew;refine region_start (fun k => wr.heap.size ≤ k) (by kernel_rfl) ?_
           try simp only [Act.put, sA, sZ, sS]
           refine rU 0 91 (v := ?vrr0) (fun w' hS => ?hrr0) ?rrr0
           case hrr0 => (refine exec_load24 (x := .tmp 6) ?_ ?_ (HBdr.out.drew.ext hS (Nat.not_le.2 HLtd.out)) size_doc2 <;> rfl)
           try simp only [Act.put, sA, sZ, sS]
           refine rU 1 92 (v := ?vrr1) (fun w' hS => ?hrr1) ?rrr1
           case hrr1 => (refine exec_load33 (x := .tmp 7) ?_ ?_ (HBtr.out.drew.ext hS (Nat.not_le.2 HLtr.out)) size33 <;> rfl)
           try simp only [Act.put, sA, sZ, sS]
           refine rT 2 93 ?_;refine rT 3 94 ?_;refine rT 4 95 ?_;refine rU 5 96 (v := ?vrr5) (fun w' hS => ?hrr5) ?rrr5
           case hrr5 => (have e : w'.cell? ⟨kb, ko + k, none⟩ = some (.int .i64 x) := HKx.out w' hS; go_simp; with_reducible rfl)
           try simp only [Act.put, sA, sZ, sS]
           refine rT 6 97 ?_;refine rT 7 98 ?_;refine rT 8 99 ?_;refine rT 9 100 ?_;refine rT 10 101 ?_;refine rT 11 102 ?_;refine rT 12 103 ?_;refine wpAnyH_ready (rs := [13, 17]) (by kernel_rfl) (by simp) (AllReadyH.cons rfl (fun K hK => ?_) (AllReadyH.cons rfl (fun K hK => ?_) (AllReadyH.nil)))
           go_simp
           first | (with_reducible refine (HCall.out _ hPw).mono ?_) | (with_reducible refine (HCall2.out _ hPw).mono ?_)
           intro e wa hC
           obtain ⟨hP, x1, m1, k1, x2, m2, k2, mm, rfl, hRes⟩ := hC.form;have hXc : Ext (fun k => wr.heap.size ≤ k) _ wa := hP.mono (fun _ _ e => nomatch e)
           refine hK.out _ _ (hXc) (fun hHeld => ?_);clear hK K hHeld;refine region_now (hXc) ?_
           try simp only [Act.put, sA, sZ, sS]
           refine rT 14 90 ?_;refine rT 15 105 ?_;refine rT 16 106 ?_;refine rR 17 (fun K hK => ?_)
           go_simp
           obtain ⟨wb, hwb⟩ : ∃ z, z = wa.alloc (.cells #[.slice none 0 0, .slice none 0 0] 76) := ⟨_, rfl⟩;obtain ⟨bz, hbz⟩ : ∃ z, z = wa.heap.size := ⟨_, rfl⟩;rw [← hwb, ← hbz];have hBz : BlockIs wb bz [.slice none 0 0, .slice none 0 0] 76 := by rw [hwb, hbz]; exact BlockIs.new wa [.slice none 0 0, .slice none 0 0] 76
           have hXa : Ext (fun k => wr.heap.size ≤ k) wa wb := by rw [hwb]; exact (ext_alloc wa _).mono (fun _ _ e => nomatch e)
           have hlo : wr.heap.size ≤ bz := by have h := hP.size; rw [hbz]; exact h
           have hRes := hRes.pure (show Pure wa wb by rw [hwb]; exact ext_alloc wa _);have hPv : Pure wr wb := (hPw.pure hP).pure (by rw [hwb]; exact ext_alloc wa _);clear hwb hbz hP;refine hK.out _ _ (hXa) (fun hHeld => ?_);clear hK K hHeld;refine region_now (hXa) ?_
           try simp only [Act.put, sA, sZ, sS]
           refine rR 18 (fun K hK => ?_);obtain ⟨wc, hwc⟩ : ∃ z, z = wb.setCells bz 0 (#[.slice x1 m1 k1, .slice x2 m2 k2] : Array Value).toList := ⟨_, rfl⟩;have hXq : Ext (fun k => k = bz) wb wc := by rw [hwc]; exact Ext.setCells _ 0 _ (Ext.refl _ _) (fun _ => rfl)
           have hXs : Ext (fun k => wr.heap.size ≤ k) wb wc := hXq.mono (fun i _ e => by have e2 : i = bz := e; rw [e2]; exact hlo);have hBc : BlockIs wc bz [.slice x1 m1 k1, .slice x2 m2 k2] 76 := by rw [hwc]; exact hBz.setAll _ rfl
           have hRc := hRes.off hBz hXq;have hPc : Pure wr wc := hPv.trans hXq (fun i hi e => by have e2 : i = bz := e; omega);have HTh : Hid (wb.there bz 0 (#[.slice x1 m1 k1, .slice x2 m2 k2] : Array Value).size) := qh (hBz.there 2 rfl);have HSi : Hid ((Tryz.prog.info? 76).map (·.size) = some (#[.slice x1 m1 k1, .slice x2 m2 k2] : Array Value).size) := qh size33;have HOn : Hid (((#[.slice x1 m1 k1, .slice x2 m2 k2] : Array Value).all fun u => u.oneCell') = true) := qh (one2r _ _ _ _ _ _)
           refine step_of_list ?_;refine wpList_store_mid rfl 76 (.tmp 20) (.tmp 105) rfl bz 0 #[.slice x1 m1 k1, .slice x2 m2 k2] rfl rfl HTh.out HSi.out HOn.out ?_;rw [← hwc];clear hwc hXq hRes hBz hPv;refine hK.out _ _ (hXs) (fun hHeld => ?_);clear hK K hHeld;refine region_now (hXs) ?_
           try simp only [Act.put, sA, sZ, sS]
           refine rT 19 21 ?_;refine wpAnyH_done (by kernel_rfl) ?_ _
           rotate_left
           go_simp
           obtain ⟨wb, hwb⟩ : ∃ z, z = (wr.alloc (.cells #[.slice none 0 0, .slice none 0 0] 76)).drew := ⟨_, rfl⟩;obtain ⟨bz, hbz⟩ : ∃ z, z = wr.heap.size := ⟨_, rfl⟩;rw [← hwb, ← hbz];have hBz : BlockIs wb bz [.slice none 0 0, .slice none 0 0] 76 := by rw [hwb, hbz]; exact (BlockIs.new wr [.slice none 0 0, .slice none 0 0] 76).drew
           have hPb : Pure wr wb := by rw [hwb]; exact (ext_alloc wr _).drew
           have hXa : Ext (fun k => wr.heap.size ≤ k) wr.drew wb := by
            have hE := ((Ext.refl (fun k => wr.heap.size ≤ k) wr).alloc (.cells #[.slice none 0 0, .slice none 0 0] 76)).drew;rw [hwb]; exact ⟨hE.os, hE.tape, hE.output, hE.size, hE.block⟩
           have hlo : wr.heap.size ≤ bz := by rw [hbz]; exact Nat.le_refl _
           clear hwb hbz;refine hK.out _ _ (hXa) (fun hHeld => ?_);clear hK K hHeld;refine region_now (hXa) ?_
           try simp only [Act.put, sA, sZ, sS]
           refine rR 13 (fun K hK => ?_)
           go_simp
           first | (with_reducible refine (HCall.out _ hPb).mono ?_) | (with_reducible refine (HCall2.out _ hPb).mono ?_)
           intro e wa hC
           obtain ⟨hP, x1, m1, k1, x2, m2, k2, mm, rfl, hRes⟩ := hC.form;have hXc : Ext (fun k => wr.heap.size ≤ k) _ wa := hP.mono (fun _ _ e => nomatch e)
           have hBz := hBz.ext hP id;have hPv := hPb.pure hP;clear hP hPb;refine hK.out _ _ (hXc) (fun hHeld => ?_);clear hK K hHeld;refine region_now (hXc) ?_
           try simp only [Act.put, sA, sZ, sS]
           refine rT 14 90 ?_;refine rT 15 105 ?_;refine rT 16 106 ?_;refine rR 18 (fun K hK => ?_);obtain ⟨wc, hwc⟩ : ∃ z, z = wa.setCells bz 0 (#[.slice x1 m1 k1, .slice x2 m2 k2] : Array Value).toList := ⟨_, rfl⟩;have hXq : Ext (fun k => k = bz) wa wc := by rw [hwc]; exact Ext.setCells _ 0 _ (Ext.refl _ _) (fun _ => rfl)
           have hXs : Ext (fun k => wr.heap.size ≤ k) wa wc := hXq.mono (fun i _ e => by have e2 : i = bz := e; rw [e2]; exact hlo);have hBc : BlockIs wc bz [.slice x1 m1 k1, .slice x2 m2 k2] 76 := by rw [hwc]; exact hBz.setAll _ rfl
           have hRc := hRes.off hBz hXq;have hPc : Pure wr wc := hPv.trans hXq (fun i hi e => by have e2 : i = bz := e; omega);have HTh : Hid (wa.there bz 0 (#[.slice x1 m1 k1, .slice x2 m2 k2] : Array Value).size) := qh (hBz.there 2 rfl);have HSi : Hid ((Tryz.prog.info? 76).map (·.size) = some (#[.slice x1 m1 k1, .slice x2 m2 k2] : Array Value).size) := qh size33;have HOn : Hid (((#[.slice x1 m1 k1, .slice x2 m2 k2] : Array Value).all fun u => u.oneCell') = true) := qh (one2r _ _ _ _ _ _)
           refine step_of_list ?_;refine wpList_store_mid rfl 76 (.tmp 20) (.tmp 105) rfl bz 0 #[.slice x1 m1 k1, .slice x2 m2 k2] rfl rfl HTh.out HSi.out HOn.out ?_;rw [← hwc];clear hwc hXq hRes hBz hPv;refine hK.out _ _ (hXs) (fun hHeld => ?_);clear hK K hHeld;refine region_now (hXs) ?_
           try simp only [Act.put, sA, sZ, sS]
           refine rT 19 21 ?_;refine wpAnyH_done (by kernel_rfl) ?_ _
           rotate_left
           all_goals
            try simp only [Act.put, sA, sZ, sS]
            go_wp2_with fail
            go_meet
            exact ⟨bz, x1, m1, k1, x2, m2, k2, mm, rfl, rfl, qh hRc, qh hBc, qh hPc, qh hlo⟩
          case rest =>
           obtain ⟨bz, x1, m1, k1, x2, m2, k2, mm, rfl, rfl, HRc, HBc, HPc, HLo⟩ := hcut;obtain ⟨Wc, rfl⟩ : ∃ z : World, z = wc := ⟨_, rfl⟩;have hBtc := HBtr.out.ext HPc.out id;have hBrc := HBrr.out.ext HPc.out id;have HP0c := qh (HPwr.out.pure HPc.out);clear HCall HCall2;have q0 : Wc.cell? ⟨tb + 1, 0, none⟩ = some (.slice b1 un d1) := hBtc.cell 0;have q1 : Wc.cell? ⟨tb + 1, 1, none⟩ = some (.slice b2 up d2) := hBtc.cell 1;cases q with
           | none =>
             obtain rfl : mm = -1 := HRc.out;have HNn : Hid (r = none) := qh (by rw [HRk.out, kidsP_none (k := k + 1) HSn.out]);have HTh : Hid (Wc.there (tb + 1 + 1) 0 (#[.slice b1 un d1, .slice b2 up d2] : Array Value).size) := qh (hBrc.there 2 rfl);have HSi : Hid ((Tryz.prog.info? 76).map (·.size) = some (#[.slice b1 un d1, .slice b2 up d2] : Array Value).size) := qh size33;have HOn : Hid (((#[.slice b1 un d1, .slice b2 up d2] : Array Value).all fun u => u.oneCell') = true) := qh (one2r _ _ _ _ _ _)
             have HBz := qh (hBrc.setAll [.slice b1 un d1, .slice b2 up d2] rfl);have HPz : Hid (Pure W0 (Wc.setCells (tb + 1 + 1) 0 [.slice b1 un d1, .slice b2 up d2])) := qh (Ext.setCells _ 0 _ HP0c.out (b := tb + 1 + 1) (fun h => by have := HTb.out; omega))
             go_wp2_with (first
              | (with_reducible refine at_store 76 (.tmp 12) (.tmp 119) ?_; refine wpList_store_mid rfl 76 (.tmp 12) (.tmp 119) rfl (tb + 1 + 1) 0 #[.slice b1 un d1, .slice b2 up d2] rfl rfl HTh.out HSi.out HOn.out ?_))
             refine bodyPost_ret (results_row2 rfl _ _ (tb + 1 + 1) _ [.slice b1 un d1, .slice b2 up d2] _ rfl HBz.out Tryz.underlying76 rfl size33) rfl ?_;rw [HNn.out];exact ⟨HPz.out, _, _, _, _, _, _, rfl⟩
           | some q =>
             obtain ⟨v, q⟩ := q;obtain ⟨rfl, rfl, rfl, hv1, hv2⟩ := HRc.out;have hok4 := HFk.out u x v mm HUk.out HQ.out.symm;have hq1 : 1 ≤ mm := hok4.2;have hq0 : ¬ mm < 0 := by omega
             have HVo := qh hok4.1
             by_cases hbad : one = true ∧ ¬ mm = 1
             ·obtain ⟨rfl, hq2⟩ := hbad
              have hqb : (mm != 1) = true := by simpa using hq2
              have HNn : Hid (r = none) := qh (by rw [HRk.out, kidsP_none (k := k + 1) (HSn.out.trans (if_pos ⟨rfl, hq2⟩))]);have HTh : Hid (Wc.there (tb + 1 + 1) 0 (#[.slice b1 un d1, .slice b2 up d2] : Array Value).size) := qh (hBrc.there 2 rfl);have HSi : Hid ((Tryz.prog.info? 76).map (·.size) = some (#[.slice b1 un d1, .slice b2 up d2] : Array Value).size) := qh size33;have HOn : Hid (((#[.slice b1 un d1, .slice b2 up d2] : Array Value).all fun u => u.oneCell') = true) := qh (one2r _ _ _ _ _ _)
              have HBz := qh (hBrc.setAll [.slice b1 un d1, .slice b2 up d2] rfl);have HPz : Hid (Pure W0 (Wc.setCells (tb + 1 + 1) 0 [.slice b1 un d1, .slice b2 up d2])) := qh (Ext.setCells _ 0 _ HP0c.out (b := tb + 1 + 1) (fun h => by have := HTb.out; omega))
              go_wp2_with (first
               | (with_reducible refine at_store 76 (.tmp 12) (.tmp 119) ?_; refine wpList_store_mid rfl 76 (.tmp 12) (.tmp 119) rfl (tb + 1 + 1) 0 #[.slice b1 un d1, .slice b2 up d2] rfl rfl HTh.out HSi.out HOn.out ?_))
              refine bodyPost_ret (results_row2 rfl _ _ (tb + 1 + 1) _ [.slice b1 un d1, .slice b2 up d2] _ rfl HBz.out Tryz.underlying76 rfl size33) rfl ?_;rw [HNn.out];exact ⟨HPz.out, _, _, _, _, _, _, rfl⟩
             ·have HSn2 : Hid (kidsP F one (kids.take (k + 1)) ⟨t.nodes ++ [n], t.pages⟩ 0 = some (v, m + mm)) := qh (HSn.out.trans (if_neg (fun h => hbad ⟨h.1, h.2⟩)))
              have hmq : m + mm ≤ 5000 := by
               have h1 := kidsP_len HFl.out _ _ _ _ _ HSn2.out;have h2 := hok4.1.len;have h3 := HD.out.len
               omega
              have hway : one = false ∨ (one = true ∧ mm = 1) := by
               cases one with
               | false => exact Or.inl rfl
               | true => exact Or.inr ⟨rfl, Decidable.byContradiction fun h => hbad ⟨rfl, h⟩⟩
              obtain ⟨Wd, hWd⟩ : ∃ z, z = Wc.setCells (tb + 1) 0 [.slice x1 v.nodes.length k1, .slice x2 v.pages.length k2] := ⟨_, rfl⟩;have HTh : Hid (Wc.there (tb + 1) 0 (#[.slice x1 v.nodes.length k1, .slice x2 v.pages.length k2] : Array Value).size) := qh (hBtc.there 2 rfl);have HSi : Hid ((Tryz.prog.info? 76).map (·.size) = some (#[.slice x1 v.nodes.length k1, .slice x2 v.pages.length k2] : Array Value).size) := qh size33;have HOn : Hid (((#[.slice x1 v.nodes.length k1, .slice x2 v.pages.length k2] : Array Value).all fun u => u.oneCell') = true) := qh (one2r _ _ _ _ _ _)
              have hXd : Ext (fun k => k = tb + 1) Wc Wd := by rw [hWd]; exact Ext.setCells _ 0 _ (Ext.refl _ _) (fun _ => rfl)
              have HBtd : Hid (BlockIs Wd (tb + 1) [.slice x1 v.nodes.length k1, .slice x2 v.pages.length k2] 76) := qh (by rw [hWd]; exact hBtc.setAll _ rfl);have HRd : Hid (RowA Wd x1 k1 v.nodes ∧ RowA Wd x2 k2 v.pages) := qh ⟨hv1.off hBtc hXd, hv2.off hBtc hXd⟩;have HEd : Hid (Ext (fun k => k = tb + 1) W8 Wd) := qh (HEr.out.trans ((HPc.out.mono (fun _ _ e => nomatch e)).trans hXd (fun _ _ e => e)) (fun _ _ e => e))
              have z0 : Wc.cell? ⟨bz, 0, none⟩ = some (.slice x1 v.nodes.length k1) := HBc.out.cell 0;have z1 : Wc.cell? ⟨bz, 1, none⟩ = some (.slice x2 v.pages.length k2) := HBc.out.cell 1;have HWd : Hid (Wc.setCells (tb + 1) 0 [.slice x1 v.nodes.length k1, .slice x2 v.pages.length k2] = Wd) := qh hWd.symm;clear hbad hWd hXd hBtc hBrc hok4 hv1 hv2
              rcases hway with rfl | ⟨rfl, rfl⟩
              all_goals
               go_wp2_with (first
                | (with_reducible refine at_store 76 (.tmp 7) (.tmp 120) ?_; refine wpList_store_mid rfl 76 (.tmp 7) (.tmp 120) rfl (tb + 1) 0 #[.slice x1 v.nodes.length k1, .slice x2 v.pages.length k2] rfl rfl HTh.out HSi.out HOn.out ?_; rw [HWd.out]))
               go_roundw
               case rel => exact ⟨k + 1, v, x1, x2, k1, k2, _, by omega, by go_num, rfl, by omega, hmq, HSn2, HVo, HRd, HBtd, HEd⟩
               case measure => simp [intOf]; omega
         ·have hki : ¬ (k : Int) < (kn : Int) := by omega
          have hPa : kidsP F one kids ⟨t.nodes ++ [n], t.pages⟩ 0 = some (u, m) := by have h := HPk.out; rwa [List.take_of_length_le (by rw [HKn.out]; omega)] at h
          have HF : Hid (r = if m = cn then some (u, m) else none) := qh (by rw [HRk.out, hPa])
          clear hPa;have q0 : wr.cell? ⟨tb + 1, 0, none⟩ = some (.slice b1 un d1) := HBtr.out.cell 0;have q1 : wr.cell? ⟨tb + 1, 1, none⟩ = some (.slice b2 up d2) := HBtr.out.cell 1
          by_cases hmc : m = cn
          ·have HFr : Hid (r = some (u, m)) := qh (by rw [HF.out, if_pos hmc])
           subst hmc;have hmb : (m != m) = false := by simp
           have HTh : Hid (wr.there (tb + 1 + 1) 0 (#[.slice b1 un d1, .slice b2 up d2] : Array Value).size) := qh (HBrr.out.there 2 rfl);have HSi : Hid ((Tryz.prog.info? 76).map (·.size) = some (#[.slice b1 un d1, .slice b2 up d2] : Array Value).size) := qh size33;have HOn : Hid (((#[.slice b1 un d1, .slice b2 up d2] : Array Value).all fun u => u.oneCell') = true) := qh (one2r _ _ _ _ _ _)
           have HBz := qh (HBrr.out.setAll [.slice b1 un d1, .slice b2 up d2] rfl);have HPz : Hid (Pure W0 (wr.setCells (tb + 1 + 1) 0 [.slice b1 un d1, .slice b2 up d2])) := qh (Ext.setCells _ 0 _ HPwr.out (b := tb + 1 + 1) (fun h => by have := HTb.out; omega))
           go_wp2_with (first
            | (with_reducible refine at_store 76 (.tmp 12) (.tmp 128) ?_; refine wpList_store_mid rfl 76 (.tmp 12) (.tmp 128) rfl (tb + 1 + 1) 0 #[.slice b1 un d1, .slice b2 up d2] rfl rfl HTh.out HSi.out HOn.out ?_))
           refine bodyPost_ret (results_row2 rfl _ _ (tb + 1 + 1) _ [.slice b1 un d1, .slice b2 up d2] _ rfl HBz.out Tryz.underlying76 rfl size33) rfl ?_;rw [HFr.out];refine ⟨HPz.out, b1, d1, b2, d2, ?_, HRr.out.1.off HBrr.out (Ext.setCells _ 0 _ (Ext.refl _ _) (fun _ => rfl)), HRr.out.2.off HBrr.out (Ext.setCells _ 0 _ (Ext.refl _ _) (fun _ => rfl))⟩;simp only [← HUn.out, ← HUp.out]
           rfl
          ·have HNn : Hid (r = none) := qh (by rw [HF.out, if_neg hmc])
           have hmb : (m != cn) = true := by simpa using hmc
           have HTh : Hid (wr.there (tb + 1 + 1) 0 (#[.slice b1 un d1, .slice b2 up d2] : Array Value).size) := qh (HBrr.out.there 2 rfl);have HSi : Hid ((Tryz.prog.info? 76).map (·.size) = some (#[.slice b1 un d1, .slice b2 up d2] : Array Value).size) := qh size33;have HOn : Hid (((#[.slice b1 un d1, .slice b2 up d2] : Array Value).all fun u => u.oneCell') = true) := qh (one2r _ _ _ _ _ _)
           have HBz := qh (HBrr.out.setAll [.slice b1 un d1, .slice b2 up d2] rfl);have HPz : Hid (Pure W0 (wr.setCells (tb + 1 + 1) 0 [.slice b1 un d1, .slice b2 up d2])) := qh (Ext.setCells _ 0 _ HPwr.out (b := tb + 1 + 1) (fun h => by have := HTb.out; omega))
           go_wp2_with (first
            | (with_reducible refine at_store 76 (.tmp 12) (.tmp 127) ?_; refine wpList_store_mid rfl 76 (.tmp 12) (.tmp 127) rfl (tb + 1 + 1) 0 #[.slice b1 un d1, .slice b2 up d2] rfl rfl HTh.out HSi.out HOn.out ?_))
           refine bodyPost_ret (results_row2 rfl _ _ (tb + 1 + 1) _ [.slice b1 un d1, .slice b2 up d2] _ rfl HBz.out Tryz.underlying76 rfl size33) rfl ?_;rw [HNn.out];exact ⟨HPz.out, _, _, _, _, _, _, rfl⟩
