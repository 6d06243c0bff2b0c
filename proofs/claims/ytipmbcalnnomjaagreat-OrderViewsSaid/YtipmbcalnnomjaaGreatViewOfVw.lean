import Derived.Test.YtipmbcalnnomjaaGreatRenumVw
import Derived.Test.YtipmbcalnnomjaaGreatSqVw
set_option linter.unusedVariables false
set_option linter.unusedSimpArgs false
set_option maxRecDepth 100000
namespace Go.Proofs.YtipmbcalnnomjaaGreat
open Go.RowKit Go.Maps
def zeroLeaf : List Value := [.int .i64 0, .slice none 0 0, .int .i64 0, .int .i64 0, .string ⟨#[]⟩, .slice none 0 0]
def zeroPage : List Value := [.slice none 0 0, .int .i64 0, .int .i64 0, .string ⟨#[]⟩, .slice none 0 0]
theorem tfind_no (d : Nat) (l : List Ob) (oa : Option Addr) (oc : Nat) (root : Int) (rows : List (List Value)) (fb db : Nat) (n0 : Int) (w0 w : World) (hP0 : Pure w0 w) (hD : DocOk w0 d l oa rows root) (hF : FileAt w fb db oa l.length oc root)
 (kids0 : List Int) (q0 : Int) (hT : TopOk l root n0 kids0 q0) (p0 : Int) (hp : p0 < 0 ∨ q0 ≤ p0) :
 Calls Tryz.prog 39 #[.pointer (some ⟨fb, 0, none⟩), .int .i64 p0] w (fun e w' => e = .returned (.tuple #[.agg #[.int .i64 0, .slice none 0 0, .int .i64 0, .int .i64 0, .string ⟨#[]⟩, .slice none 0 0], .int .i64 0, .int .i64 25]) ∧ Pure w w') := by
 have HTop := qh (fun W (hP : Pure w W) => top_any d l oa oc root rows fb db n0 w0 W (hP0.pure hP) hD (hF.ext hP id id) kids0 q0 hT)
 obtain ⟨wz, hwz⟩ : ∃ z, z = w.alloc (.cells #[.int .i64 0, .slice none 0 0, .int .i64 0, .int .i64 0, .string ⟨#[]⟩, .slice none 0 0] 92) := ⟨_, rfl⟩
 obtain ⟨tb, htb⟩ : ∃ z, z = w.heap.size := ⟨_, rfl⟩
 have HBz : Hid (BlockIs wz tb zeroLeaf 92) := qh (by rw [hwz, htb]; exact BlockIs.new w zeroLeaf _)
 have HPz : Hid (Pure w wz) := qh (by rw [hwz]; exact ext_alloc w _)
 have HWz : Hid (w.alloc (.cells #[.int .i64 0, .slice none 0 0, .int .i64 0, .int .i64 0, .string ⟨#[]⟩, .slice none 0 0] 92) = wz) := qh hwz.symm
 have HTb := qh htb
 have HPq := qh hp
 unfold AskTo at HTop
 clear hwz htb hP0 hD hF hT hp
 go_enter Tryz.func39, Tryz.ntmps39
 go_upto_region 1 with (fail)
 go_step3
 go_upto_region 1 with (fail)
 rw [HWz.out, ← HTb.out]
 go_wp2_with fail
 refine (HTop.out wz HPz.out).mono ?_
 rintro e W1 ⟨vcs, ka, kc, rfl, hL, hP, hO⟩
 have HB1 := qh (HBz.out.ext hP id)
 have HP1 := qh (HPz.out.pure hP)
 obtain ⟨vk, vn, vs, va, vm, vc, hvc⟩ := hL.form
 rw [hvc]
 obtain ⟨km, hkm⟩ : ∃ z, z = kids0.length := ⟨_, rfl⟩
 rw [← hkm]
 clear hkm hL hP hO hvc HTop HBz HPz HWz
 simp only [List.cons_append, List.nil_append]
 obtain ⟨W2, hW2⟩ : ∃ z, z = W1.alloc (.cells #[.int .i64 n0, .int .i64 vk, .int .i64 vn, .string vs, .slice va vm vc, .slice ka km kc, .int .i64 q0] 101) := ⟨_, rfl⟩
 have HW2 : Hid (W1.alloc (.cells #[.int .i64 n0, .int .i64 vk, .int .i64 vn, .string vs, .slice va vm vc, .slice ka km kc, .int .i64 q0] 101) = W2) := qh hW2.symm
 have hPa : Pure W1 W2 := by rw [hW2]; exact ext_alloc W1 _
 have HB2 := qh (HB1.out.ext hPa id)
 have HPa := qh (HP1.out.pure hPa)
 have HX2 : Hid (BlockIs W2 W1.heap.size [.int .i64 n0, .int .i64 vk, .int .i64 vn, .string vs, .slice va vm vc, .slice ka km kc, .int .i64 q0] 101) := qh (by rw [hW2]; exact BlockIs.new W1 [.int .i64 n0, .int .i64 vk, .int .i64 vn, .string vs, .slice va vm vc, .slice ka km kc, .int .i64 q0] _)
 clear hW2 hPa
 go_upto_region 2 with (fail)
 rw [HW2.out]
 have x6 : W2.cell? ⟨W1.heap.size, 6, none⟩ = some (.int .i64 q0) := HX2.out.cell 6
 have hxl := HX2.out.lt
 have HTh : Hid (W2.there tb 0 (#[.int .i64 0, .slice none 0 0, .int .i64 0, .int .i64 0, .string ⟨#[]⟩, .slice none 0 0] : Array Value).size) := qh (HB2.out.there 6 rfl)
 have HSi : Hid ((Tryz.prog.info? 92).map (·.size) = some (#[.int .i64 0, .slice none 0 0, .int .i64 0, .int .i64 0, .string ⟨#[]⟩, .slice none 0 0] : Array Value).size) := qh size55
 have HOn : Hid (((#[.int .i64 0, .slice none 0 0, .int .i64 0, .int .i64 0, .string ⟨#[]⟩, .slice none 0 0] : Array Value).all fun u => u.oneCell') = true) := qh (all_oneCell_toArray (by intro u hu; simp only [List.mem_cons, List.not_mem_nil, or_false] at hu; rcases hu with rfl | rfl | rfl | rfl | rfl | rfl <;> rfl))
 have HBq := qh (HB2.out.setAll zeroLeaf rfl)
 have hway : p0 < 0 ∨ (¬ p0 < 0 ∧ q0 ≤ p0) := by have := HPq.out; omega
 rcases hway with hm1 | ⟨hm1, hm2⟩
 all_goals
  go_wp2_with (with_reducible refine at_store 92 (.tmp 4) (.tmp 44) ?_; refine wpList_store_mid rfl 92 (.tmp 4) (.tmp 44) rfl tb 0 #[.int .i64 0, .slice none 0 0, .int .i64 0, .int .i64 0, .string ⟨#[]⟩, .slice none 0 0] rfl rfl HTh.out HSi.out HOn.out ?_)
  try refine (show ∀ Q : Exit → Act → World → Prop, ∀ a w, Q .ret a w → Exit.noGoto Q .ret a w from fun _ _ _ h => h) _ _ _ ?_
  refine bodyPost_ret (results_row3 rfl _ _ tb _ zeroLeaf _ rfl HBq.out Tryz.underlying92 rfl size55) rfl ?_
  exact ⟨rfl, HPa.out.trans (Ext.setCells (S := fun b => b = tb) zeroLeaf 0 _ (Ext.refl _ _) (fun _ => rfl)) (fun i hi e => by have := HTb.out; have e2 : i = tb := e; omega)⟩
theorem map_idx (f : Nat → Ob → Ob) (g : Int → Ob) (xs : List Int) : (xs.map g).mapIdx f = xs.mapIdx fun i x => f i (g x) := by
 apply List.ext_getElem?
 intro i
 rw [List.getElem?_mapIdx, List.getElem?_mapIdx, List.getElem?_map]
 cases xs[i]? with
 | none => simp only [Option.map_none]
 | some x => simp only [Option.map_some]
def ViewTo (P : PageP) (d : Nat) (w : World) (e : Ending) (w' : World) : Prop :=
 ∃ oa oc rows gcs, e = .returned (.tuple #[.agg (Value.slice oa P.obs.length oc :: gcs).toArray, .int .i64 0, .int .i64 0]) ∧ OKids w' (d + 1) P.obs oa rows ∧ Lies w' (d + 1) P.given gcs ∧ Pure w w'
set_option maxHeartbeats 4000000 in
theorem viewof_any (d : Nat) (l : List Ob) (oa : Option Addr) (oc : Nat) (root : Int) (rows : List (List Value)) (fb db : Nat) (n0 : Int) (w0 w : World) (hP0 : Pure w0 w) (hD : DocOk w0 d l oa rows root) (hF : FileAt w fb db oa l.length oc root)
 (kids0 : List Int) (q0 : Int) (hT : TopOk l root n0 kids0 q0) (p0 : Int) (hp : 0 ≤ p0 ∧ p0 < q0) (R : Int × List Int × V) (hR : findP l 64 n0 kids0 q0 p0 [] emptyV = some R) (hgz : R.2.2.size ≤ 100000) (hgw : R.2.2.wf) (hn : (Lit.int .i64 R.1).wf = true) :
 Calls Tryz.prog 15 #[.pointer (some ⟨fb, 0, none⟩), .int .i64 p0] w (ViewTo (pageP l (closP l R.1 R.2.2) R.2.2) (d + 1) w) := by
 have HFi := qh (fun W (hP : Pure w W) => tfind_any d l oa oc root rows fb db n0 w0 W (hP0.pure hP) hD (hF.ext hP id id) kids0 q0 hT p0 hp R hR)
 have HCl := qh (fun pa pm pc gcs W (hP : Pure w W) (hg : Lies W (d + 1 + 1) R.2.2 gcs) => closure_any d (d + 1) l oa oc root rows fb db R.1 pa pm pc R.2.2 gcs w0 W (hP0.pure hP) hD.ok (by have := hD.len; omega) (hF.ext hP id id) hg hgz hgw (fun i => hD.at_size i) (fun i => hD.at_wf i) hn)
 have HLm : Hid ((closP l R.1 R.2.2).length ≤ 1000000) := qh (by have := (closP_lim l R.1 R.2.2).len; omega)
 have HOs : Hid (∀ o ∈ (closP l R.1 R.2.2).map (obAt l), o.v.size ≤ 100000) := qh (fun o ho => by
  obtain ⟨x, _, rfl⟩ := List.mem_map.1 ho
  exact hD.at_size x)
 have HP0 := qh hP0
 have HGz := qh hgz
 obtain ⟨xs, hxs⟩ : ∃ z, z = closP l R.1 R.2.2 := ⟨_, rfl⟩
 rw [← hxs] at HCl HLm HOs ⊢
 obtain ⟨Rn, Rp, g⟩ := R
 simp only at HFi HCl HGz hxs ⊢
 obtain ⟨m, hm⟩ : ∃ z, z = xs.length := ⟨_, rfl⟩
 have HM := qh hm
 obtain ⟨wz, hwz⟩ : ∃ z, z = w.alloc (.cells #[.slice none 0 0, .int .i64 0, .int .i64 0, .string ⟨#[]⟩, .slice none 0 0] 50) := ⟨_, rfl⟩
 obtain ⟨tb, htb⟩ : ∃ z, z = w.heap.size := ⟨_, rfl⟩
 have HBz : Hid (BlockIs wz tb zeroPage 50) := qh (by rw [hwz, htb]; exact BlockIs.new w zeroPage _)
 have HPz : Hid (Pure w wz) := qh (by rw [hwz]; exact ext_alloc w _)
 have HWz : Hid (w.alloc (.cells #[.slice none 0 0, .int .i64 0, .int .i64 0, .string ⟨#[]⟩, .slice none 0 0] 50) = wz) := qh hwz.symm
 have HSz : Hid (wz.heap.size = tb + 1) := qh (by rw [hwz, World.size_alloc, htb])
 have HTb := qh htb
 unfold FindTo at HFi
 unfold ClosTo at HCl
 rw [← hm] at HCl HLm
 clear hP0 hD hF hT hp hR hgz hgw hn hxs hm hwz htb
 go_enter Tryz.func15, Tryz.ntmps15
 go_upto_region 1 with (fail)
 rw [HWz.out, ← HTb.out]
 go_wp2_with fail
 refine (HFi.out wz HPz.out).mono ?_
 rintro e W1 ⟨pa, pc, cs, rfl, hT1, hP1, hO1, hOff⟩
 have hL1 : LiesIn (fun b => b < w0.heap.size ∨ wz.heap.size ≤ b) W1 (d + 1 + 1) g cs := top_in hT1 ((HP0.out.pure HPz.out).pure hP1) (fun b hb => Or.inl hb) (fun hne x n c hx => by
  by_cases h : x.block < wz.heap.size
  ·exact absurd rfl (hOff hne x.block h x n c hx)
  ·exact Or.inr (by omega))
 obtain ⟨gk, gn, gs, ga, gm, gc, hcs⟩ := hL1.lies.form
 subst hcs
 obtain ⟨pl, hpl⟩ : ∃ z, z = Rp.length := ⟨_, rfl⟩
 simp only at hpl ⊢
 rw [← hpl]
 obtain ⟨W2, hW2⟩ : ∃ z, z = W1.alloc (.cells #[.int .i64 Rn, .slice pa pl pc, .int .i64 gk, .int .i64 gn, .string gs, .slice ga gm gc] 92) := ⟨_, rfl⟩
 have HW2 : Hid (W1.alloc (.cells #[.int .i64 Rn, .slice pa pl pc, .int .i64 gk, .int .i64 gn, .string gs, .slice ga gm gc] 92) = W2) := qh hW2.symm
 obtain ⟨lb, hlb⟩ : ∃ z, z = W1.heap.size := ⟨_, rfl⟩
 have hPa : Pure W1 W2 := by rw [hW2]; exact ext_alloc W1 _
 have HB2 : Hid (BlockIs W2 lb [.int .i64 Rn, .slice pa pl pc, .int .i64 gk, .int .i64 gn, .string gs, .slice ga gm gc] 92) := qh (by rw [hW2, hlb]; exact BlockIs.new W1 [.int .i64 Rn, .slice pa pl pc, .int .i64 gk, .int .i64 gn, .string gs, .slice ga gm gc] _)
 have HP2 := qh ((HPz.out.pure hP1).pure hPa)
 have HZ2 := qh ((HBz.out.ext hP1 id).ext hPa id)
 have HL2 := qh (LiesIn.pure hPa hL1)
 have HS2 : Hid (wz.heap.size ≤ W2.heap.size) := qh (by have := hP1.size; have := hPa.size; omega)
 have HC2 := qh (HCl.out pa pl pc [.int .i64 gk, .int .i64 gn, .string gs, .slice ga gm gc] W2 HP2.out HL2.out.lies)
 have HLb := qh hlb
 clear hT1 hP1 hO1 hOff hL1 hpl hW2 hlb hPa HFi HCl HBz
 go_upto_region 2 with (fail)
 rw [HW2.out, ← HLb.out]
 have x0 : W2.cell? ⟨lb, 0, none⟩ = some (.int .i64 Rn) := HB2.out.cell 0
 have x1 : W2.cell? ⟨lb, 1, none⟩ = some (.slice pa pl pc) := HB2.out.cell 1
 have x2 : W2.cell? ⟨lb, 2, none⟩ = some (.int .i64 gk) := HB2.out.cell 2
 have x3 : W2.cell? ⟨lb, 3, none⟩ = some (.int .i64 gn) := HB2.out.cell 3
 have x4 : W2.cell? ⟨lb, 4, none⟩ = some (.string gs) := HB2.out.cell 4
 have x5 : W2.cell? ⟨lb, 5, none⟩ = some (.slice ga gm gc) := HB2.out.cell 5
 have hlbl := HB2.out.lt
 go_wp2_with fail
 refine HC2.out.mono ?_
 rintro e W3 ⟨a3, c3, oa3, oc3, rws, rfl, hO3, hQ3, hlen3, hok3, hP3⟩
 have hB3 := HB2.out.ext hP3 id
 have hP03 := (HP0.out.pure HP2.out).pure hP3
 have hold : ObsOld w0 W3 (d + 1 + 1) (xs.map (obAt l)) oa3 rws := ⟨by rw [List.length_map, hlen3, ← HM.out], fun r hr => by
  obtain ⟨i, hi, rfl⟩ := List.getElem_of_mem hr
  obtain ⟨x, hx⟩ : ∃ x, xs[i]? = some x := ⟨_, List.getElem?_eq_getElem (show i < xs.length by rw [← HM.out, ← hlen3]; exact hi)⟩
  obtain ⟨cs, h1, h2⟩ := hok3 i x rws[i] hx (List.getElem?_eq_getElem hi)
  rw [h1, List.length_append, h2.len]
  rfl, own_row hQ3, fun i o r ho hr => by
  rw [List.getElem?_map] at ho
  obtain ⟨x, hx, rfl⟩ := Option.map_eq_some_iff.1 ho
  obtain ⟨cs, h1, h2⟩ := hok3 i x r hx hr
  exact ⟨cs, h1, h2.mono (by omega)⟩⟩
 have hRn := renum_any (d + 1) (xs.map (obAt l)) xs a3 oa3 c3 oc3 rws g [.int .i64 gk, .int .i64 gn, .string gs, .slice ga gm gc] w0 W3 hP03 (fun b => (b < w0.heap.size ∨ wz.heap.size ≤ b) ∧ b < W3.heap.size) (fun b hb => hb.2) (own_row hO3) hold ((LiesIn.pure hP3 HL2.out).mono (fun b hb h => ⟨h, hb⟩)) (by rw [← HM.out]; exact HLm.out) (by rw [List.length_map, ← HM.out]; exact HLm.out) HOs.out HGz.out
 rw [List.length_map, ← HM.out, map_idx] at hRn
 have HRn := qh hRn
 have HP3 := qh (HP2.out.pure hP3)
 have HZ3 := qh (HZ2.out.ext hP3 id)
 have HS3 : Hid (wz.heap.size ≤ W3.heap.size) := qh (by have := HS2.out; have := hP3.size; omega)
 have z2 : W3.cell? ⟨lb, 2, none⟩ = some (.int .i64 gk) := hB3.cell 2
 have z3 : W3.cell? ⟨lb, 3, none⟩ = some (.int .i64 gn) := hB3.cell 3
 have z4 : W3.cell? ⟨lb, 4, none⟩ = some (.string gs) := hB3.cell 4
 have z5 : W3.cell? ⟨lb, 5, none⟩ = some (.slice ga gm gc) := hB3.cell 5
 have hl3 := hB3.lt
 unfold RenTo at HRn
 have HPl : Hid ((pageP l xs g).obs.length = m) := qh (by show (xs.mapIdx _).length = m; rw [List.length_mapIdx, HM.out])
 obtain ⟨PG, hPG⟩ : ∃ z, z = pageP l xs g := ⟨_, rfl⟩
 have hPG2 : PG = ⟨xs.mapIdx fun i x => seenOb (rowTo xs) i (obAt l x), g.seen (rowTo xs)⟩ := hPG
 have HPG := qh hPG
 rw [← hPG2] at HRn
 rw [← hPG] at HPl
 rw [HPl.out] at HRn
 clear hO3 hQ3 hlen3 hok3 hP3 hB3 hP03 hold hRn x0 x1 x2 x3 x4 x5 hlbl HC2 hPG hPG2
 go_wp2_with fail
 refine HRn.out.mono ?_
 rintro e W4 ⟨oa4, oc4, rows4, gcs4, rfl, hOb, hRw, hRo, hG4, hP4⟩
 obtain ⟨hk, hn, hs, ha, hm, hc, hcs4⟩ := hG4.lies.form
 subst hcs4
 have hZ4 := HZ3.out.ext hP4 id
 have HTh : Hid (W4.there tb 0 (#[.slice oa4 m oc4, .int .i64 hk, .int .i64 hn, .string hs, .slice ha hm hc] : Array Value).size) := qh (hZ4.there 5 rfl)
 have HSi : Hid ((Tryz.prog.info? 50).map (·.size) = some (#[.slice oa4 m oc4, .int .i64 hk, .int .i64 hn, .string hs, .slice ha hm hc] : Array Value).size) := qh sizePg
 have HOn : Hid (((#[.slice oa4 m oc4, .int .i64 hk, .int .i64 hn, .string hs, .slice ha hm hc] : Array Value).all fun u => u.oneCell') = true) := qh (all_oneCell_toArray (by intro u hu; simp only [List.mem_cons, List.not_mem_nil, or_false] at hu; rcases hu with rfl | rfl | rfl | rfl | rfl <;> rfl))
 have HBf := qh (hZ4.setAll [.slice oa4 m oc4, .int .i64 hk, .int .i64 hn, .string hs, .slice ha hm hc] rfl)
 have hXs : Ext (fun b => b = tb) W4 (W4.setCells tb 0 [.slice oa4 m oc4, .int .i64 hk, .int .i64 hn, .string hs, .slice ha hm hc]) := Ext.setCells (S := fun b => b = tb) _ 0 _ (Ext.refl _ _) (fun _ => rfl)
 have HEnd : Hid (ViewTo PG (d + 1) w (.returned (.tuple #[.agg #[.slice oa4 m oc4, .int .i64 hk, .int .i64 hn, .string hs, .slice ha hm hc], .int .i64 0, .int .i64 0])) (W4.setCells tb 0 [.slice oa4 m oc4, .int .i64 hk, .int .i64 hn, .string hs, .slice ha hm hc])) := qh (by
  have h1 := HTb.out
  have h2 := HSz.out
  have h3 := HS3.out
  have h4 := HP0.out.size
  have hob := hOb.ext hXs (fun b hb e => by have e2 : b = tb := e; omega)
  refine ⟨oa4, oc4, rows4, [.int .i64 hk, .int .i64 hn, .string hs, .slice ha hm hc], by rw [HPl.out], ⟨hob.len, hob.six, hRw.ext hXs (fun x hx e => by have := hRo x hx; have e2 : x.block = tb := e; omega), fun i o r ho hr => ?_⟩, (hG4.ext hXs (fun b hb e => by have e2 : b = tb := e; omega)).lies, (HP3.out.pure hP4).trans hXs (fun i hi e => by have e2 : i = tb := e; omega)⟩
  obtain ⟨cs, q1, q2⟩ := hob.lies i o r ho hr
  exact ⟨cs, q1, q2.lies⟩)
 clear hOb hRw hRo hG4 hP4 hZ4 hXs z2 z3 z4 z5 hl3 HRn
 go_wp2_with (with_reducible refine at_store 50 (.tmp 4) (.tmp 41) ?_; refine wpList_store_mid rfl 50 (.tmp 4) (.tmp 41) rfl tb 0 #[.slice oa4 m oc4, .int .i64 hk, .int .i64 hn, .string hs, .slice ha hm hc] rfl rfl HTh.out HSi.out HOn.out ?_)
 refine bodyPost_ret (results_row3 rfl _ _ tb _ [.slice oa4 m oc4, .int .i64 hk, .int .i64 hn, .string hs, .slice ha hm hc] _ rfl HBf.out Tryz.underlying50 rfl sizePg) rfl ?_
 rw [← HPG.out]
 exact HEnd.out
theorem viewof_no (d : Nat) (l : List Ob) (oa : Option Addr) (oc : Nat) (root : Int) (rows : List (List Value)) (fb db : Nat) (n0 : Int) (w0 w : World) (hP0 : Pure w0 w) (hD : DocOk w0 d l oa rows root) (hF : FileAt w fb db oa l.length oc root)
 (kids0 : List Int) (q0 : Int) (hT : TopOk l root n0 kids0 q0) (p0 : Int) (hp : p0 < 0 ∨ q0 ≤ p0) :
 Calls Tryz.prog 15 #[.pointer (some ⟨fb, 0, none⟩), .int .i64 p0] w (fun e w' => e = .returned (.tuple #[.agg #[.slice none 0 0, .int .i64 0, .int .i64 0, .string ⟨#[]⟩, .slice none 0 0], .int .i64 0, .int .i64 25]) ∧ Pure w w') := by
 have HFi := qh (fun W (hP : Pure w W) => tfind_no d l oa oc root rows fb db n0 w0 W (hP0.pure hP) hD (hF.ext hP id id) kids0 q0 hT p0 hp)
 obtain ⟨wz, hwz⟩ : ∃ z, z = w.alloc (.cells #[.slice none 0 0, .int .i64 0, .int .i64 0, .string ⟨#[]⟩, .slice none 0 0] 50) := ⟨_, rfl⟩
 obtain ⟨tb, htb⟩ : ∃ z, z = w.heap.size := ⟨_, rfl⟩
 have HBz : Hid (BlockIs wz tb zeroPage 50) := qh (by rw [hwz, htb]; exact BlockIs.new w zeroPage _)
 have HPz : Hid (Pure w wz) := qh (by rw [hwz]; exact ext_alloc w _)
 have HWz : Hid (w.alloc (.cells #[.slice none 0 0, .int .i64 0, .int .i64 0, .string ⟨#[]⟩, .slice none 0 0] 50) = wz) := qh hwz.symm
 have HTb := qh htb
 clear hP0 hD hF hT hp hwz htb
 go_enter Tryz.func15, Tryz.ntmps15
 go_upto_region 1 with (fail)
 rw [HWz.out, ← HTb.out]
 go_wp2_with fail
 refine (HFi.out wz HPz.out).mono ?_
 rintro e W1 ⟨rfl, hP1⟩
 obtain ⟨W2, hW2⟩ : ∃ z, z = W1.alloc (.cells #[.int .i64 0, .slice none 0 0, .int .i64 0, .int .i64 0, .string ⟨#[]⟩, .slice none 0 0] 92) := ⟨_, rfl⟩
 have HW2 : Hid (W1.alloc (.cells #[.int .i64 0, .slice none 0 0, .int .i64 0, .int .i64 0, .string ⟨#[]⟩, .slice none 0 0] 92) = W2) := qh hW2.symm
 have hPa : Pure W1 W2 := by rw [hW2]; exact ext_alloc W1 _
 have HP2 := qh ((HPz.out.pure hP1).pure hPa)
 have hZ2 := (HBz.out.ext hP1 id).ext hPa id
 have HTh : Hid (W2.there tb 0 (#[.slice none 0 0, .int .i64 0, .int .i64 0, .string ⟨#[]⟩, .slice none 0 0] : Array Value).size) := qh (hZ2.there 5 rfl)
 have HSi : Hid ((Tryz.prog.info? 50).map (·.size) = some (#[.slice none 0 0, .int .i64 0, .int .i64 0, .string ⟨#[]⟩, .slice none 0 0] : Array Value).size) := qh sizePg
 have HOn : Hid (((#[.slice none 0 0, .int .i64 0, .int .i64 0, .string ⟨#[]⟩, .slice none 0 0] : Array Value).all fun u => u.oneCell') = true) := qh (all_oneCell_toArray (by intro u hu; simp only [List.mem_cons, List.not_mem_nil, or_false] at hu; rcases hu with rfl | rfl | rfl | rfl | rfl <;> rfl))
 have HBf := qh (hZ2.setAll zeroPage rfl)
 clear hP1 hW2 hPa hZ2
 go_upto_region 2 with (fail)
 rw [HW2.out]
 go_wp2_with (with_reducible refine at_store 50 (.tmp 4) (.tmp 21) ?_; refine wpList_store_mid rfl 50 (.tmp 4) (.tmp 21) rfl tb 0 #[.slice none 0 0, .int .i64 0, .int .i64 0, .string ⟨#[]⟩, .slice none 0 0] rfl rfl HTh.out HSi.out HOn.out ?_)
 refine bodyPost_ret (results_row3 rfl _ _ tb _ zeroPage _ rfl HBf.out Tryz.underlying50 rfl sizePg) rfl ?_
 exact ⟨rfl, HP2.out.trans (Ext.setCells (S := fun b => b = tb) zeroPage 0 _ (Ext.refl _ _) (fun _ => rfl)) (fun i hi e => by have := HTb.out; have e2 : i = tb := e; omega)⟩
