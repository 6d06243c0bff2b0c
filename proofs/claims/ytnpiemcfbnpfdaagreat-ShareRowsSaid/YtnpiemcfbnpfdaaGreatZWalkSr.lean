import Derived.Test.YtnpiemcfbnpfdaaGreatZBelowSr
import Derived.Test.YtnpiemcfbnpfdaaGreatSqSr
set_option linter.unusedVariables false
set_option linter.unusedSimpArgs false
set_option maxRecDepth 100000
namespace Go.Proofs.YtnpiemcfbnpfdaaGreat
open Go.RowKit
def RWkTo (p : Tr × Int) (w : World) (e : Ending) (w' : World) : Prop := Pure w w' ∧ ∃ b1 d1 b2 d2, e = .returned (.tuple #[.agg #[.slice b1 p.1.nodes.length d1, .slice b2 p.1.pages.length d2], .int .i64 p.2]) ∧ RowA w' b1 d1 p.1.nodes ∧ RowA w' b2 d2 p.1.pages
set_option maxHeartbeats 4000000 in
theorem refwalk_any (d : Nat) (l : List Ob) (oa : Option Addr) (oc : Nat) (rows : List (List Value)) (root : Int) (w : World) (hD : DocOk w d l oa rows root) :
 Calls Tryz.prog 24 #[.agg #[.slice oa l.length oc, .int .i64 root]] w (RWkTo (walkP l root) w) := by
 obtain ⟨r, hr⟩ : ∃ z, z = walkP l root := ⟨_, rfl⟩
 rw [← hr]
 unfold walkP at hr
 have HOb := qh (fun W (hP : Pure w W) => refobject_any d l oa oc rows root root W (hD.pure hP))
 have HBe := qh (fun n W (hP : Pure w W) => refbelow_any d l oa oc rows root w hD 64 (Nat.le_refl _) n 0 0 false ⟨[], []⟩ none none 0 0 W rfl hP (Tr.ok_nil l) ⟨row_nil _ _, fun _ => rfl⟩ ⟨row_nil _ _, fun _ => rfl⟩)
 have HFl : Hid (∀ n u m, belP l root 64 0 false ⟨[], []⟩ n = some (u, m) → 1 ≤ m) := qh (fun n u m h => (belP_ok l root 64 0 false ⟨[], []⟩ n u m (Tr.ok_nil l) h).2)
 have HD := qh hD
 obtain ⟨on, hon⟩ : ∃ z, z = l.length := ⟨_, rfl⟩
 rw [← hon] at HOb HBe ⊢
 obtain ⟨wo, hwo⟩ : ∃ z, z = (w.alloc (.cells #[.slice oa on oc, .int .i64 root] 24)).alloc (.cells #[.slice none 0 0, .slice none 0 0] 76) := ⟨_, rfl⟩
 obtain ⟨tb, htb⟩ : ∃ z, z = w.heap.size := ⟨_, rfl⟩
 have HPo : Hid (Pure w wo) := qh (by rw [hwo]; exact (ext_alloc w _).pure (ext_alloc _ _))
 have HBd : Hid (BlockIs wo tb [.slice oa on oc, .int .i64 root] 24) := qh (by rw [hwo, htb]; exact (BlockIs.new w [.slice oa on oc, .int .i64 root] 24).alloc _)
 have HBr : Hid (BlockIs wo (tb + 1) [.slice none 0 0, .slice none 0 0] 76) := qh (by rw [hwo, htb]; exact blk_alloc w _ [.slice none 0 0, .slice none 0 0] 76)
 have HWo : Hid ((w.alloc (.cells #[.slice oa on oc, .int .i64 root] 24)).alloc (.cells #[.slice none 0 0, .slice none 0 0] 76) = wo) := qh hwo.symm
 have HTb := qh htb
 have HR0 := qh hr
 clear hr hD hon hwo htb
 go_enter Tryz.func24, Tryz.ntmps24
 have d0 : wo.cell? ⟨tb, 0, none⟩ = some (.slice oa on oc) := HBd.out.cell 0
 have d1 : wo.cell? ⟨tb, 1, none⟩ = some (.int .i64 root) := HBd.out.cell 1
 go_upto_region 1 with (fail)
 rw [HWo.out, ← HTb.out]
 go_wp2_with fail
 refine (HOb.out wo HPo.out).mono ?_
 rintro e W2 ⟨cs, rfl, hL, hP⟩
 have hr := HR0.out
 clear HR0
 have hsz := HD.out.at_size root
 obtain ⟨o, ho⟩ : ∃ z, z = obAt l root := ⟨_, rfl⟩
 rw [← ho] at hr hL hsz ⊢
 have hl : o.v.l.length ≤ 1000000 := by have := V.len_size o.v; omega
 have HG := qh (fun W (hP : Pure wo W) => refget_any d o.v cs "Pages".toUTF8 W (hL.pure hP) hl)
 have HTy := qh (fun W (hP : Pure wo W) => reftyped_any d o cs "Catalog".toUTF8 W (hL.pure hP) hl)
 rw [← k_pages] at HG hr
 rw [← k_cat] at HTy hr
 obtain ⟨va, vc, vrows, hcs, _⟩ := hL.kids
 rw [hcs] at HG HTy ⊢
 obtain ⟨Q, hQ⟩ : ∃ z, z = o.v.get ⟨#[80, 97, 103, 101, 115]⟩ := ⟨_, rfl⟩
 obtain ⟨Y, hY⟩ : ∃ z, z = typedO o ⟨#[67, 97, 116, 97, 108, 111, 103]⟩ := ⟨_, rfl⟩
 rw [← hQ] at hr HG
 rw [← hY] at hr HTy
 have HR := qh hr
 have HP2 := qh hP
 have HBd2 := qh (HBd.out.ext hP id)
 have HBr2 := qh (HBr.out.ext hP id)
 clear hcs hL hP hsz ho hl hQ hY hr HBd HBr HOb d0 d1
 generalize o.v.l.length = vm at *
 generalize o.v.kind = vk at *
 generalize o.v.n = vn at *
 generalize o.v.s = vs at *
 generalize o.st = st at *
 generalize o.data = dt at *
 simp only [List.cons_append, List.nil_append] at HG HTy ⊢
 go_upto_region 2 with (fail)
 obtain ⟨W3, hW3⟩ : ∃ z, z = W2.alloc (.cells #[.int .i64 vk, .int .i64 vn, .string vs, .slice va vm vc, .bool st, .string dt] 50) := ⟨_, rfl⟩
 obtain ⟨ob, hob⟩ : ∃ z, z = W2.heap.size := ⟨_, rfl⟩
 have HB6 : Hid (BlockIs W3 ob [.int .i64 vk, .int .i64 vn, .string vs, .slice va vm vc, .bool st, .string dt] 50) := qh (by rw [hW3, hob]; exact BlockIs.new W2 [.int .i64 vk, .int .i64 vn, .string vs, .slice va vm vc, .bool st, .string dt] 50)
 have HBd3 : Hid (BlockIs W3 tb [.slice oa on oc, .int .i64 root] 24) := qh (by rw [hW3]; exact HBd2.out.alloc _)
 have HBr3 : Hid (BlockIs W3 (tb + 1) [.slice none 0 0, .slice none 0 0] 76) := qh (by rw [hW3]; exact HBr2.out.alloc _)
 have HP3 : Hid (Pure wo W3) := qh (by rw [hW3]; exact HP2.out.pure (ext_alloc _ _))
 rw [← hW3, ← hob]
 clear hW3 hob HBd2 HBr2 HP2
 have y0 : W3.cell? ⟨ob, 0, none⟩ = some (.int .i64 vk) := HB6.out.cell 0
 have y1 : W3.cell? ⟨ob, 1, none⟩ = some (.int .i64 vn) := HB6.out.cell 1
 have y2 : W3.cell? ⟨ob, 2, none⟩ = some (.string vs) := HB6.out.cell 2
 have y3 : W3.cell? ⟨ob, 3, none⟩ = some (.slice va vm vc) := HB6.out.cell 3
 have y4 : W3.cell? ⟨ob, 4, none⟩ = some (.bool st) := HB6.out.cell 4
 have y5 : W3.cell? ⟨ob, 5, none⟩ = some (.string dt) := HB6.out.cell 5
 go_wp2_with fail
 refine (HG.out W3 HP3.out).mono ?_
 rintro e W4 ⟨cs, rfl, hL, hP⟩
 obtain ⟨ga, gc, grows, rfl, _⟩ := hL.kids
 obtain ⟨⟨gk, gn, gs, gl⟩, gi⟩ := Q
 simp only [V.kind, V.n, V.s, V.l] at HR ⊢
 generalize gl.length = gm at *
 have hB64 := HB6.out.ext hP id
 have HB64 := qh hB64
 have HBd4 := qh (HBd3.out.ext hP id)
 have HBr4 := qh (HBr3.out.ext hP id)
 have HP4 := qh (HP3.out.pure hP)
 clear y0 y1 y2 y3 y4 y5 hL hP HB6 HBd3 HBr3 HP3 HG
 have y0 : W4.cell? ⟨ob, 0, none⟩ = some (.int .i64 vk) := hB64.cell 0
 have y1 : W4.cell? ⟨ob, 1, none⟩ = some (.int .i64 vn) := hB64.cell 1
 have y2 : W4.cell? ⟨ob, 2, none⟩ = some (.string vs) := hB64.cell 2
 have y3 : W4.cell? ⟨ob, 3, none⟩ = some (.slice va vm vc) := hB64.cell 3
 have y4 : W4.cell? ⟨ob, 4, none⟩ = some (.bool st) := hB64.cell 4
 have y5 : W4.cell? ⟨ob, 5, none⟩ = some (.string dt) := hB64.cell 5
 have hob4 : ob < W4.heap.size := hB64.lt
 clear hB64
 go_upto_region 3 with (fail)
 obtain ⟨W5, hW5⟩ : ∃ z, z = W4.alloc (.cells #[.int .i64 gk, .int .i64 gn, .string gs, .slice ga gm gc] 48) := ⟨_, rfl⟩
 obtain ⟨gb, hgb⟩ : ∃ z, z = W4.heap.size := ⟨_, rfl⟩
 have HBg : Hid (BlockIs W5 gb [.int .i64 gk, .int .i64 gn, .string gs, .slice ga gm gc] 48) := qh (by rw [hW5, hgb]; exact BlockIs.new W4 [.int .i64 gk, .int .i64 gn, .string gs, .slice ga gm gc] 48)
 have hB65 : BlockIs W5 ob [.int .i64 vk, .int .i64 vn, .string vs, .slice va vm vc, .bool st, .string dt] 50 := by rw [hW5]; exact HB64.out.alloc _
 have HBd5 : Hid (BlockIs W5 tb [.slice oa on oc, .int .i64 root] 24) := qh (by rw [hW5]; exact HBd4.out.alloc _)
 have HBr5 : Hid (BlockIs W5 (tb + 1) [.slice none 0 0, .slice none 0 0] 76) := qh (by rw [hW5]; exact HBr4.out.alloc _)
 have HP5 : Hid (Pure wo W5) := qh (by rw [hW5]; exact HP4.out.pure (ext_alloc _ _))
 rw [← hW5, ← hgb]
 clear hW5 hgb HB64 HBd4 HBr4 HP4 y0 y1 y2 y3 y4 y5 hob4
 have y0 : W5.cell? ⟨ob, 0, none⟩ = some (.int .i64 vk) := hB65.cell 0
 have y1 : W5.cell? ⟨ob, 1, none⟩ = some (.int .i64 vn) := hB65.cell 1
 have y2 : W5.cell? ⟨ob, 2, none⟩ = some (.string vs) := hB65.cell 2
 have y3 : W5.cell? ⟨ob, 3, none⟩ = some (.slice va vm vc) := hB65.cell 3
 have y4 : W5.cell? ⟨ob, 4, none⟩ = some (.bool st) := hB65.cell 4
 have y5 : W5.cell? ⟨ob, 5, none⟩ = some (.string dt) := hB65.cell 5
 clear hB65
 go_wp2_with fail
 refine (HTy.out W5 HP5.out).mono ?_
 rintro e W6 ⟨rfl, hP⟩
 have hBg := HBg.out.ext hP id
 have hBd := HBd5.out.ext hP id
 have HBr6 := qh (HBr5.out.ext hP id)
 have HP6 := qh (HPo.out.pure (HP5.out.pure hP))
 have g0 : W6.cell? ⟨gb, 0, none⟩ = some (.int .i64 gk) := hBg.cell 0
 have g1 : W6.cell? ⟨gb, 1, none⟩ = some (.int .i64 gn) := hBg.cell 1
 have d0 : W6.cell? ⟨tb, 0, none⟩ = some (.slice oa on oc) := hBd.cell 0
 have d1 : W6.cell? ⟨tb, 1, none⟩ = some (.int .i64 root) := hBd.cell 1
 clear y0 y1 y2 y3 y4 y5 hP HBg HBd5 HBr5 HP5 HTy hBg hBd
 cases Y with
 | false =>
   have HF : Hid (r = (⟨[], []⟩, 23)) := qh (by rw [HR.out]; rfl)
   have HTh : Hid (W6.there (tb + 1) 0 (#[.slice none 0 0, .slice none 0 0] : Array Value).size) := qh (HBr6.out.there 2 rfl)
   have HSi : Hid ((Tryz.prog.info? 76).map (·.size) = some (#[.slice none 0 0, .slice none 0 0] : Array Value).size) := qh size33
   have HOn : Hid (((#[.slice none 0 0, .slice none 0 0] : Array Value).all fun u => u.oneCell') = true) := qh (one2r _ _ _ _ _ _)
   have HBz := qh (HBr6.out.setAll [.slice none 0 0, .slice none 0 0] rfl)
   have HPz : Hid (Pure w (W6.setCells (tb + 1) 0 [.slice none 0 0, .slice none 0 0])) := qh (Ext.setCells _ 0 _ HP6.out (b := tb + 1) (fun h => by have := HTb.out; omega))
   go_wp2_with (first
    | (with_reducible refine at_store 76 (.tmp 2) (.tmp 27) ?_; refine wpList_store_mid rfl 76 (.tmp 2) (.tmp 27) rfl (tb + 1) 0 #[.slice none 0 0, .slice none 0 0] rfl rfl HTh.out HSi.out HOn.out ?_))
   refine bodyPost_ret (results_row2 rfl _ _ (tb + 1) _ [.slice none 0 0, .slice none 0 0] _ rfl HBz.out Tryz.underlying76 rfl size33) rfl ?_
   rw [HF.out]
   exact ⟨HPz.out, none, 0, none, 0, rfl, ⟨row_nil _ _, fun _ => rfl⟩, ⟨row_nil _ _, fun _ => rfl⟩⟩
 | true =>
   by_cases hk8 : gk = 8
   ·subst hk8
    have HR2 : Hid (r = match belP l root 64 0 false ⟨[], []⟩ gn with
     | some (t, _) => (t, 0)
     | none => (⟨[], []⟩, 24)) := qh (by rw [HR.out]; rfl)
    clear HR
    go_wp2_with fail
    refine (HBe.out gn W6 HP6.out).mono ?_
    intro e W7 hC
    obtain ⟨q, hq⟩ : ∃ z, z = belP l root 64 0 false ⟨[], []⟩ gn := ⟨_, rfl⟩
    rw [← hq] at hC HR2
    obtain ⟨hP, x1, m1, k1, x2, m2, k2, mm, rfl, hRes⟩ := hC.form
    have HBr7 := qh (HBr6.out.ext hP id)
    have HP7 := qh (HP6.out.pure hP)
    have HQ := qh hq
    have hlt7 : tb + 1 < W7.heap.size := HBr7.out.lt
    clear hC hq hP HBr6 HP6 HBe
    cases q with
    | none =>
      obtain rfl : mm = -1 := hRes
      have HF : Hid (r = (⟨[], []⟩, 24)) := qh HR2.out
      have HBr8 := qh (HBr7.out.alloc (.cells #[.slice x1 m1 k1, .slice x2 m2 k2] 76))
      have HP8 := qh (HP7.out.pure (ext_alloc W7 (.cells #[.slice x1 m1 k1, .slice x2 m2 k2] 76)))
      have HTh : Hid ((W7.alloc (.cells #[.slice x1 m1 k1, .slice x2 m2 k2] 76)).there (tb + 1) 0 (#[.slice none 0 0, .slice none 0 0] : Array Value).size) := qh (HBr8.out.there 2 rfl)
      have HSi : Hid ((Tryz.prog.info? 76).map (·.size) = some (#[.slice none 0 0, .slice none 0 0] : Array Value).size) := qh size33
      have HOn : Hid (((#[.slice none 0 0, .slice none 0 0] : Array Value).all fun u => u.oneCell') = true) := qh (one2r _ _ _ _ _ _)
      have HBz := qh (HBr8.out.setAll [.slice none 0 0, .slice none 0 0] rfl)
      have HPz : Hid (Pure w ((W7.alloc (.cells #[.slice x1 m1 k1, .slice x2 m2 k2] 76)).setCells (tb + 1) 0 [.slice none 0 0, .slice none 0 0])) := qh (Ext.setCells _ 0 _ HP8.out (b := tb + 1) (fun h => by have := HTb.out; omega))
      go_wp2_with (first
       | (with_reducible refine at_store 76 (.tmp 2) (.tmp 38) ?_; refine wpList_store_mid rfl 76 (.tmp 2) (.tmp 38) rfl (tb + 1) 0 #[.slice none 0 0, .slice none 0 0] rfl rfl HTh.out HSi.out HOn.out ?_))
      refine bodyPost_ret (results_row2 rfl _ _ (tb + 1) _ [.slice none 0 0, .slice none 0 0] _ rfl HBz.out Tryz.underlying76 rfl size33) rfl ?_
      rw [HF.out]
      exact ⟨HPz.out, none, 0, none, 0, rfl, ⟨row_nil _ _, fun _ => rfl⟩, ⟨row_nil _ _, fun _ => rfl⟩⟩
    | some q =>
      obtain ⟨u, q⟩ := q
      obtain ⟨rfl, rfl, rfl, hv1, hv2⟩ := hRes
      have hm1 : ¬ mm < 0 := by have := HFl.out gn u mm HQ.out.symm; omega
      have HF : Hid (r = (u, 0)) := qh HR2.out
      have HBr8 := qh (HBr7.out.alloc (.cells #[.slice x1 u.nodes.length k1, .slice x2 u.pages.length k2] 76))
      have hPa := ext_alloc W7 (.cells #[.slice x1 u.nodes.length k1, .slice x2 u.pages.length k2] 76)
      have HP8 := qh (HP7.out.pure hPa)
      have HV := qh (And.intro (hv1.pure hPa) (hv2.pure hPa))
      clear hv1 hv2 hPa
      have HTh : Hid ((W7.alloc (.cells #[.slice x1 u.nodes.length k1, .slice x2 u.pages.length k2] 76)).there (tb + 1) 0 (#[.slice x1 u.nodes.length k1, .slice x2 u.pages.length k2] : Array Value).size) := qh (HBr8.out.there 2 rfl)
      have HSi : Hid ((Tryz.prog.info? 76).map (·.size) = some (#[.slice x1 u.nodes.length k1, .slice x2 u.pages.length k2] : Array Value).size) := qh size33
      have HOn : Hid (((#[.slice x1 u.nodes.length k1, .slice x2 u.pages.length k2] : Array Value).all fun u => u.oneCell') = true) := qh (one2r _ _ _ _ _ _)
      have HBz := qh (HBr8.out.setAll [.slice x1 u.nodes.length k1, .slice x2 u.pages.length k2] rfl)
      have HPz : Hid (Pure w ((W7.alloc (.cells #[.slice x1 u.nodes.length k1, .slice x2 u.pages.length k2] 76)).setCells (tb + 1) 0 [.slice x1 u.nodes.length k1, .slice x2 u.pages.length k2])) := qh (Ext.setCells _ 0 _ HP8.out (b := tb + 1) (fun h => by have := HTb.out; omega))
      go_wp2_with (first
       | (with_reducible refine at_store 76 (.tmp 2) (.tmp 39) ?_; refine wpList_store_mid rfl 76 (.tmp 2) (.tmp 39) rfl (tb + 1) 0 #[.slice x1 u.nodes.length k1, .slice x2 u.pages.length k2] rfl rfl HTh.out HSi.out HOn.out ?_))
      refine bodyPost_ret (results_row2 rfl _ _ (tb + 1) _ [.slice x1 u.nodes.length k1, .slice x2 u.pages.length k2] _ rfl HBz.out Tryz.underlying76 rfl size33) rfl ?_
      rw [HF.out]
      exact ⟨HPz.out, x1, k1, x2, k2, rfl, HV.out.1.off HBr8.out (Ext.setCells _ 0 _ (Ext.refl _ _) (fun _ => rfl)), HV.out.2.off HBr8.out (Ext.setCells _ 0 _ (Ext.refl _ _) (fun _ => rfl))⟩
   ·have HF : Hid (r = (⟨[], []⟩, 23)) := qh (by rw [HR.out]; simp [hk8])
    have hkb : (gk != 8) = true := by simpa using hk8
    have HTh : Hid (W6.there (tb + 1) 0 (#[.slice none 0 0, .slice none 0 0] : Array Value).size) := qh (HBr6.out.there 2 rfl)
    have HSi : Hid ((Tryz.prog.info? 76).map (·.size) = some (#[.slice none 0 0, .slice none 0 0] : Array Value).size) := qh size33
    have HOn : Hid (((#[.slice none 0 0, .slice none 0 0] : Array Value).all fun u => u.oneCell') = true) := qh (one2r _ _ _ _ _ _)
    have HBz := qh (HBr6.out.setAll [.slice none 0 0, .slice none 0 0] rfl)
    have HPz : Hid (Pure w (W6.setCells (tb + 1) 0 [.slice none 0 0, .slice none 0 0])) := qh (Ext.setCells _ 0 _ HP6.out (b := tb + 1) (fun h => by have := HTb.out; omega))
    go_wp2_with (first
     | (with_reducible refine at_store 76 (.tmp 2) (.tmp 27) ?_; refine wpList_store_mid rfl 76 (.tmp 2) (.tmp 27) rfl (tb + 1) 0 #[.slice none 0 0, .slice none 0 0] rfl rfl HTh.out HSi.out HOn.out ?_))
    refine bodyPost_ret (results_row2 rfl _ _ (tb + 1) _ [.slice none 0 0, .slice none 0 0] _ rfl HBz.out Tryz.underlying76 rfl size33) rfl ?_
    rw [HF.out]
    exact ⟨HPz.out, none, 0, none, 0, rfl, ⟨row_nil _ _, fun _ => rfl⟩, ⟨row_nil _ _, fun _ => rfl⟩⟩
