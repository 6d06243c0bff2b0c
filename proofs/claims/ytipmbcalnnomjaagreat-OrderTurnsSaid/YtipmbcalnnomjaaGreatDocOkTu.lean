import Derived.Test.YtipmbcalnnomjaaGreatRefsRTu
import Derived.Test.YtipmbcalnnomjaaGreatOpenTu
import Derived.Test.YtipmbcalnnomjaaGreatFewDTu
import Derived.Test.YtipmbcalnnomjaaGreatGetTu
import Derived.Test.YtipmbcalnnomjaaGreatTreePlTu
import Derived.Test.YtipmbcalnnomjaaGreatSqTu
set_option linter.unusedVariables false
set_option linter.unusedSimpArgs false
set_option maxRecDepth 100000
namespace Go.Proofs.YtipmbcalnnomjaaGreat
open Go.RowKit
theorem numsL_of {l : List V} {p : Int → Prop} (h : ∀ u ∈ l, ∀ x ∈ u.nums, p x) : ∀ x ∈ numsL l, p x := by
 induction l with
 | nil => intro x hx; rw [numsL] at hx; cases hx
 | cons u l ih =>
   intro x hx
   rw [numsL, List.mem_append] at hx
   rcases hx with hx | hx
   ·exact h u (by simp) x hx
   ·exact ih (fun u hu => h u (by simp [hu])) x hx
theorem nums_rows {k m : Int} {s : ByteArray} {rows : List (List Value × V)} (hm : (Lit.int .i64 m).wf = true) (h : ∀ q ∈ rows, ∀ x ∈ q.2.nums, (Lit.int .i64 x).wf = true) : ∀ x ∈ (V.mk k m s (rows.map (·.2))).nums, (Lit.int .i64 x).wf = true := by
 intro x hx
 rw [V.nums] at hx
 rcases List.mem_cons.1 hx with rfl | hx
 ·exact hm
 ·refine numsL_of (p := fun x => (Lit.int .i64 x).wf = true) (fun u hu => ?_) x hx
  obtain ⟨q, hq, rfl⟩ := List.mem_map.1 hu
  exact h q hq
section
open Go.ChangeShapes Go.WideShapes Go.ChangeAt
theorem open_lies_wf {H : Type} {enc : TypeId × Value → H} {W : World} {held : Bool} : ∀ (F : Nat) (cs : List Value) (y : DataW H × List MemPlace), DataW.trod enc Tryz.prog W 0 (fun _ => true) held F 48 cs = some y → cs.length = 4 → ∃ v, Lies W F v cs ∧ ∀ x ∈ v.nums, (Lit.int .i64 x).wf = true := by
 intro F
 induction F using Nat.strongRecOn with
 | ind F ih =>
   intro cs y hy hlen
   have s4 : Tryz.prog.cellsOf 48 = 4 := by kernel_rfl
   have s0 : Tryz.prog.cellsOf 3 = 1 := by kernel_rfl
   have s1 : Tryz.prog.cellsOf 9 = 1 := by kernel_rfl
   have s2 : Tryz.prog.cellsOf 46 = 1 := by kernel_rfl
   match cs, hlen with
   | [c0, c1, c2, c3], _ =>
     obtain ⟨xs, n, hF, hx, _, hl4, hfs⟩ := DataW.trod_struct Tryz.underlying48 hy
     have h0 : DataW.trod enc Tryz.prog W 0 (fun _ => true) held n 3 (([c0, c1, c2, c3].drop 0).take (Tryz.prog.cellsOf 3)) = xs[0]? := hfs 0 _ rfl
     have h1 : DataW.trod enc Tryz.prog W 0 (fun _ => true) held n 3 (([c0, c1, c2, c3].drop 1).take (Tryz.prog.cellsOf 3)) = xs[1]? := hfs 1 _ rfl
     have h2 : DataW.trod enc Tryz.prog W 0 (fun _ => true) held n 9 (([c0, c1, c2, c3].drop 2).take (Tryz.prog.cellsOf 9)) = xs[2]? := hfs 2 _ rfl
     have h3 : DataW.trod enc Tryz.prog W 0 (fun _ => true) held n 46 (([c0, c1, c2, c3].drop 3).take (Tryz.prog.cellsOf 46)) = xs[3]? := hfs 3 _ rfl
     rw [s0] at h0 h1
     rw [s1] at h2
     rw [s2] at h3
     simp only [List.drop, List.take] at h0 h1 h2 h3
     match xs, hl4 with
     | [y0, y1, y2, y3], _ =>
       simp only [List.getElem?_cons_zero, List.getElem?_cons_succ] at h0 h1 h2 h3
       obtain ⟨k, e0, _, _⟩ := DataW.trod_int Tryz.underlying3 h0
       obtain ⟨m, e1, _, wm⟩ := DataW.trod_int Tryz.underlying3 h1
       obtain ⟨s, e2, _, hs⟩ := DataW.trod_string Tryz.underlying9 h2
       cases e0
       cases e1
       cases e2
       obtain ⟨a, c, rows, hcs, hl, hm, hn, hq, hrow⟩ := open_rows2 (size := 4) (Q := fun cs (u : V) => Lies W n u cs ∧ ∀ x ∈ u.nums, (Lit.int .i64 x).wf = true) Tryz.underlying46 s4 (by decide) (fun n' cs y hn' hy hlen => by
        obtain ⟨u, hu, hw⟩ := ih n' (by omega) cs y hy hlen
        exact ⟨u, hu.mono (by omega), hw⟩) h3
       cases hcs
       subst hF
       refine ⟨.mk k m s (rows.map (·.2)), ?_, nums_rows wm (fun q hq' => (hq q hq').2.2)⟩
       refine ⟨a, c, rows.map (·.1), by simp [V.kind, V.n, V.s, V.l], by simp [V.l], ?_, ?_, by simpa [V.l] using hl, hm, hn, ?_, hs⟩
       ·intro r hr
        obtain ⟨q, hq', rfl⟩ := List.mem_map.1 hr
        exact (hq q hq').1
       ·rw [List.flatMap_map]; exact hrow
       ·intro i u r hu hr
        simp only [V.l, List.getElem?_map, Option.map_eq_some_iff] at hu hr
        obtain ⟨q, h1, rfl⟩ := hu
        obtain ⟨q', h2, rfl⟩ := hr
        rw [h1] at h2
        cases h2
        exact (hq q (List.mem_of_getElem? h1)).2.1
end
end Go.Proofs.YtipmbcalnnomjaaGreat
namespace Go.Proofs.YtipmbcalnnomjaaGreat
open Go.RowKit
def V.wf (v : V) : Prop := ∀ x ∈ v.nums, (Lit.int .i64 x).wf = true
section
open Go.ChangeShapes Go.WideShapes Go.ChangeAt
theorem open_obj_wf {H : Type} {enc : TypeId × Value → H} {W : World} {held : Bool} {F : Nat} {cs : List Value} {y : DataW H × List MemPlace} (hy : DataW.trod enc Tryz.prog W 0 (fun _ => true) held F 61 cs = some y) (hlen : cs.length = 6) :
 ∃ (o : Ob) (vs : List Value), cs = vs ++ [Value.bool o.st, Value.string o.data] ∧ Lies W F o.v vs ∧ o.data.size ≤ maxLen ∧ o.v.wf := by
 have s4 : Tryz.prog.cellsOf 48 = 4 := by kernel_rfl
 have s0 : Tryz.prog.cellsOf 4 = 1 := by kernel_rfl
 have s1 : Tryz.prog.cellsOf 9 = 1 := by kernel_rfl
 match cs, hlen with
 | [c0, c1, c2, c3, c4, c5], _ =>
   obtain ⟨xs, n, hF, hx, _, hl4, hfs⟩ := DataW.trod_struct Tryz.underlying61 hy
   have h0 : DataW.trod enc Tryz.prog W 0 (fun _ => true) held n 48 (([c0, c1, c2, c3, c4, c5].drop 0).take (Tryz.prog.cellsOf 48)) = xs[0]? := hfs 0 _ rfl
   have h1 : DataW.trod enc Tryz.prog W 0 (fun _ => true) held n 4 (([c0, c1, c2, c3, c4, c5].drop 4).take (Tryz.prog.cellsOf 4)) = xs[1]? := hfs 1 _ rfl
   have h2 : DataW.trod enc Tryz.prog W 0 (fun _ => true) held n 9 (([c0, c1, c2, c3, c4, c5].drop 5).take (Tryz.prog.cellsOf 9)) = xs[2]? := hfs 2 _ rfl
   rw [s4] at h0
   rw [s0] at h1
   rw [s1] at h2
   simp only [List.drop, List.take] at h0 h1 h2
   match xs, hl4 with
   | [y0, y1, y2], _ =>
     simp only [List.getElem?_cons_zero, List.getElem?_cons_succ] at h0 h1 h2
     obtain ⟨u, hu, hw⟩ := open_lies_wf n _ _ h0 rfl
     obtain ⟨b, e1, _⟩ := DataW.trod_bool Tryz.underlying4 h1
     obtain ⟨s, e2, _, hs⟩ := DataW.trod_string Tryz.underlying9 h2
     cases e1
     cases e2
     exact ⟨⟨u, b, s⟩, [c0, c1, c2, c3], rfl, hu.mono (by omega), hs, hw⟩
theorem open_objs_wf {H : Type} {enc : TypeId × Value → H} {W : World} {held : Bool} {F : Nat} {cs : List Value} {y : DataW H × List MemPlace} (hy : DataW.trod enc Tryz.prog W 0 (fun _ => true) held F 22 cs = some y) :
 ∃ (objs : List Ob) (oa : Option Addr) (oc : Nat) (rows : List (List Value)), cs = [.slice oa objs.length oc] ∧ OKids W F objs oa rows ∧ objs.length ≤ oc ∧ oc ≤ maxLen ∧ (∀ u ∈ objs, u.data.size ≤ maxLen ∧ u.v.wf) ∧ (oa = none → oc = 0) := by
 have s6 : Tryz.prog.cellsOf 61 = 6 := by kernel_rfl
 obtain ⟨a, c, rows, hcs, hl, hm, hn, hq, hrow⟩ := open_rows2 (size := 6) (Q := fun cs (o : Ob) => (∃ vs, cs = vs ++ [Value.bool o.st, Value.string o.data] ∧ Lies W F o.v vs) ∧ o.data.size ≤ maxLen ∧ o.v.wf) Tryz.underlying22 s6 (by decide) (fun n' cs y hn' hy hlen => by
  obtain ⟨o, vs, h1, h2, h3, h4⟩ := open_obj_wf hy hlen
  exact ⟨o, ⟨vs, h1, h2.mono (by omega)⟩, h3, h4⟩) hy
 refine ⟨rows.map (·.2), a, c, rows.map (·.1), by rw [hcs, List.length_map], ⟨by simp, ?_, ?_, ?_⟩, by simpa using hl, hm, ?_, hn⟩
 ·intro r hr
  obtain ⟨q, hq', rfl⟩ := List.mem_map.1 hr
  exact (hq q hq').1
 ·rw [List.flatMap_map]; exact hrow
 ·intro i o r ho hr
  simp only [List.getElem?_map, Option.map_eq_some_iff] at ho hr
  obtain ⟨q, h1, rfl⟩ := ho
  obtain ⟨q', h2, rfl⟩ := hr
  rw [h1] at h2
  cases h2
  exact (hq q (List.mem_of_getElem? h1)).2.1
 ·intro u hu
  obtain ⟨q, hq', rfl⟩ := List.mem_map.1 hu
  exact (hq q hq').2.2
theorem open_doc {H : Type} {enc : TypeId × Value → H} {W : World} {v : Value} {d : DataW H} {p : List MemPlace} {base : Nat}
 (hv : Value.okWide Tryz.prog W .any base 24 v) (h : DataW.Trod enc Tryz.prog W 0 (fun _ => true) true 24 v d p) :
 ∃ (F : Nat) (objs : List Ob) (oa : Option Addr) (oc : Nat) (rows : List (List Value)) (root : Int), v = .agg #[.slice oa objs.length oc, .int .i64 root] ∧ OKids W F objs oa rows ∧ objs.length ≤ oc ∧ oc ≤ maxLen ∧ (∀ u ∈ objs, u.data.size ≤ maxLen ∧ u.v.wf) ∧ (oa = none → oc = 0) ∧ (Lit.int .i64 root).wf = true := by
 obtain ⟨cs, rfl, hcs⟩ := okWide_struct Tryz.underlying24 hv
 have s2 : Tryz.prog.cellsOf 24 = 2 := by kernel_rfl
 have s0 : Tryz.prog.cellsOf 22 = 1 := by kernel_rfl
 have s1 : Tryz.prog.cellsOf 3 = 1 := by kernel_rfl
 rw [s2] at hcs
 obtain ⟨fuel, hy⟩ := h
 simp only [Value.cells] at hy hcs
 obtain ⟨l, rfl⟩ : ∃ l : List Value, cs = l.toArray := ⟨cs.toList, by simp⟩
 have hlen : l.length = 2 := by simpa using hcs
 simp only [List.toList_toArray] at hy
 match l, hlen with
 | [c0, c1], _ =>
   obtain ⟨xs, n, hF, hx, _, hl4, hfs⟩ := DataW.trod_struct Tryz.underlying24 hy
   have h0 : DataW.trod enc Tryz.prog W 0 (fun _ => true) true n 22 (([c0, c1].drop 0).take (Tryz.prog.cellsOf 22)) = xs[0]? := hfs 0 _ rfl
   have h1 : DataW.trod enc Tryz.prog W 0 (fun _ => true) true n 3 (([c0, c1].drop 1).take (Tryz.prog.cellsOf 3)) = xs[1]? := hfs 1 _ rfl
   rw [s0] at h0
   rw [s1] at h1
   simp only [List.drop, List.take] at h0 h1
   match xs, hl4 with
   | [y0, y1], _ =>
     simp only [List.getElem?_cons_zero, List.getElem?_cons_succ] at h0 h1
     obtain ⟨objs, oa, oc, rows, e0, g1, g2, g3, g4, g5⟩ := open_objs_wf h0
     obtain ⟨k, e1, _, wk⟩ := DataW.trod_int Tryz.underlying3 h1
     cases e0
     cases e1
     exact ⟨n, objs, oa, oc, rows, k, rfl, g1, g2, g3, g4, g5, wk⟩
end
end Go.Proofs.YtipmbcalnnomjaaGreat
namespace Go.Proofs.YtipmbcalnnomjaaGreat
open Go.RowKit
structure FileAt (W : World) (fb db : Nat) (oa : Option Addr) (n oc : Nat) (root : Int) : Prop where
 d : BlockIs W db [.slice oa n oc, .int .i64 root] 24
 f : BlockIs W fb [.int .i64 root, .int .i64 n, .func (.func 42) #[] #[.pointer (some ⟨db, 0, none⟩)]] 99
theorem FileAt.ext {S : Nat → Prop} {W W' : World} {fb db : Nat} {oa : Option Addr} {n oc : Nat} {root : Int} (h : FileAt W fb db oa n oc root) (e : Ext S W W') (h1 : ¬ S fb) (h2 : ¬ S db) : FileAt W' fb db oa n oc root := ⟨h.d.ext e h2, h.f.ext e h1⟩
def OfTo (oa : Option Addr) (n oc : Nat) (root : Int) (w : World) (e : Ending) (w' : World) : Prop :=
 ∃ fb db, e = .returned (.pointer (some ⟨fb, 0, none⟩)) ∧ w.heap.size ≤ db ∧ db < fb ∧ FileAt w' fb db oa n oc root ∧ Pure w w'
theorem of_any (oa : Option Addr) (n oc : Nat) (root : Int) (w : World) :
 Calls Tryz.prog 16 #[.agg #[.slice oa n oc, .int .i64 root]] w (OfTo oa n oc root w) := by
 obtain ⟨w1, hw1⟩ : ∃ z, z = w.alloc (.cells #[.slice oa n oc, .int .i64 root] 24) := ⟨_, rfl⟩
 have hB1 : BlockIs w1 w.heap.size [.slice oa n oc, .int .i64 root] 24 := hw1 ▸ BlockIs.new w _ _
 have hP1 : Pure w w1 := hw1 ▸ ext_alloc w _
 have hs1 : w1.heap.size = w.heap.size + 1 := by rw [hw1, World.size_alloc]
 have t0 : w1.cell? ⟨w.heap.size, 0, none⟩ = some (.slice oa n oc) := hB1.cell 0
 have t1 : w1.cell? ⟨w.heap.size, 0 + 1, none⟩ = some (.int .i64 root) := hB1.cell 1
 have HB := qh hB1
 have HP := qh hP1
 have HS := qh hs1
 clear hB1 hP1 hs1
 go_enter Tryz.func16, Tryz.ntmps16
 go_wp2_with fail
 go_ret
 rw [← hw1, ← HS.out]
 refine ⟨w1.heap.size, w.heap.size, rfl, Nat.le_refl _, by rw [HS.out]; omega, ⟨HB.out.alloc _, BlockIs.new w1 _ _⟩, HP.out.pure (ext_alloc w1 _)⟩
theorem results_row3 {P : Program} {fn : Func} {p u v : Tmp} {ty : TypeId} (h : fn.results = #[.cell p ty, .tmp u, .tmp v]) (tmps : Array Value) (w : World) (g : Nat) (t : TypeId) (cs : List Value) (d : TypeDesc)
 (hp : tmps.getD p undef = .pointer (some ⟨g, 0, none⟩)) (hg : BlockIs w g cs t) (hu : P.underlying ty = some d) (hd : (match d with | .struct _ | .array _ _ => true | _ => false) = true) (hi : (P.info? ty).map (·.size) = some cs.length) :
 (results fn tmps).run P w = .ok (.tuple #[.agg cs.toArray, tmps.getD u undef, tmps.getD v undef]) w := by
 have := run_loadVar_row (P := P) w g t ty cs.toArray (0, 0) d hg hu hd (by simpa using hi)
 have e : (results fn tmps).run P w = ((asAddr (tmps.getD p undef)).run P w).andThen fun a w₁ => ((loadVar ty a).run P w₁).andThen fun x w₂ => .ok (.tuple #[x, tmps.getD u undef, tmps.getD v undef]) w₂ := by
  simp only [results, h]
  simp [Sem.run_bind, Result.andThen]
 rw [e, hp]
 simp only [asAddr, Sem.run_pure, Result.andThen, this]
theorem is_any {fb db : Nat} {oa : Option Addr} {n oc : Nat} {root : Int} (w : World) (h : FileAt w fb db oa n oc root) :
 Calls Tryz.prog 50 #[.pointer (some ⟨fb, 0, none⟩)] w (fun e w' => e = .returned (.bool true) ∧ Pure w w') := by
 have t2 : w.cell? ⟨fb, 0 + 2, none⟩ = some (.func (.func 42) #[] #[.pointer (some ⟨db, 0, none⟩)]) := h.f.cell 2
 have hrun : Sem.run Tryz.prog (binOp BinOp.neq 66 (Value.func (.func 42) #[] #[.pointer (some ⟨db, 0, none⟩)]) Value.nilFunc) w = .ok (.bool true) w := by kernel_rfl
 go_enter Tryz.func50, Tryz.ntmps50
 go_wp2_with fail
 go_ret
 exact ⟨rfl, Ext.refl _ _⟩
abbrev zeroOb : List Value := [.int .i64 0, .int .i64 0, .string ⟨#[]⟩, .slice none 0 0, .bool false, .string ⟨#[]⟩]
def ObW (w0 : World) (o : Ob) (d : Nat) (w : World) (e : Ending) (w' : World) : Prop :=
 ∃ cs, e = .returned (.tuple #[.agg (cs ++ [.bool o.st, .string o.data]).toArray, .int .i64 0, .int .i64 0]) ∧ Lies w0 (d + 1) o.v cs ∧ Pure w w'
theorem size43 : (Tryz.prog.info? 61).map (·.size) = some 6 := by kernel_rfl
theorem obAt_out {l : List Ob} {n : Int} (h : ¬ (1 ≤ n ∧ n ≤ l.length)) : obAt l n = noOb := by unfold obAt; rw [if_neg h]
theorem obAt_in {l : List Ob} {k : Nat} {u : Ob} (h : l[k]? = some u) : obAt l ((k : Int) + 1) = u := by
 have hk := (List.getElem?_eq_some_iff.1 h).1
 unfold obAt
 rw [if_pos ⟨by omega, by omega⟩, show ((k : Int) + 1 - 1).toNat = k by omega, h]
 rfl
set_option maxHeartbeats 1000000 in
theorem obget_any (d : Nat) (l : List Ob) (oa : Option Addr) (oc : Nat) (root : Int) (rows : List (List Value)) (db : Nat) (n : Int) (w0 w : World) (hP0 : Pure w0 w) (hOK : OKids w0 (d + 1) l oa rows) (hol : l.length ≤ 1000000)
 (hD : BlockIs w db [.slice oa l.length oc, .int .i64 root] 24) :
 Calls Tryz.prog 42 #[.int .i64 n, .pointer (some ⟨db, 0, none⟩)] w (ObW w0 (obAt l n) d w) := by
 obtain ⟨on, hon⟩ : ∃ on, on = l.length := ⟨_, rfl⟩
 rw [← hon] at hol hD
 obtain ⟨w1, hw1⟩ : ∃ z, z = w.alloc (.cells zeroOb.toArray 61) := ⟨_, rfl⟩
 have hB : BlockIs w1 w.heap.size zeroOb 61 := hw1 ▸ BlockIs.new w _ _
 have hP : Pure w w1 := hw1 ▸ ext_alloc w _
 have hD1 := hD.ext hP id
 have HW : Hid (w.alloc (.cells #[.int .i64 0, .int .i64 0, .string ⟨#[]⟩, .slice none 0 0, .bool false, .string ⟨#[]⟩] 61) = w1) := qh (by rw [hw1])
 have t0 : (w.alloc (.cells #[.int .i64 0, .int .i64 0, .string ⟨#[]⟩, .slice none 0 0, .bool false, .string ⟨#[]⟩] 61)).cell? ⟨db, 0, none⟩ = some (.slice oa on oc) := by rw [HW.out]; exact hD1.cell 0
 have HTh : Hid (w1.there w.heap.size 0 zeroOb.toArray.size) := qh (hB.there 6 rfl)
 have HB := qh hB
 have HP := qh hP
 have HOK := qh hOK
 have HOn := qh hon
 have HP0 := qh hP0
 clear hB hP hOK hon hP0 hD hD1 hw1
 by_cases hin : 1 ≤ n ∧ n ≤ (on : Int)
 ·obtain ⟨k, rfl⟩ : ∃ k : Nat, n = (k : Int) + 1 := ⟨(n - 1).toNat, by omega⟩
  have hk : k < on := by omega
  obtain ⟨u, hu⟩ : ∃ u, l[k]? = some u := ⟨_, List.getElem?_eq_getElem (by rw [← HOn.out]; exact hk)⟩
  obtain ⟨ob, oo, cs, rfl, hr, hl4, hL, hr6⟩ := HOK.out.at k u hu
  rw [obAt_in hu]
  obtain ⟨us, hus⟩ : ∃ us, us = cs ++ [.bool u.st, .string u.data] := ⟨_, rfl⟩
  have hl6 : us.length = 6 := by rw [hus, List.length_append, hl4]; rfl
  have hur : (w.alloc (.cells #[.int .i64 0, .int .i64 0, .string ⟨#[]⟩, .slice none 0 0, .bool false, .string ⟨#[]⟩] 61)).rangeAt ob (oo + k * 6) us := fun i x hx => by rw [HW.out]; exact (HP0.out.pure HP.out).cell_some (hr6 i x (by rw [← hus]; exact hx)) id
  have h1 : ¬ ((k : Int) + 1 < 1) := by omega
  have h2 : ¬ ((on : Int) < (k : Int) + 1) := by omega
  have hkn : (k : Int) < (on : Int) := by omega
  have hk0 : (0 : Int) ≤ (k : Int) := by omega
  have hk1 : (k : Int) + 1 - 1 = (k : Int) := by omega
  have HL6 := qh hl6
  have HSi : Hid ((Tryz.prog.info? 61).map (·.size) = some us.toArray.size) := qh (by rw [List.size_toArray, hl6]; exact size43)
  have HOne : Hid ((us.toArray.all fun u => u.oneCell') = true) := qh (by
   have h1 := hL.one
   rw [hus]
   simp only [List.all_toArray, List.all_append, Bool.and_eq_true] at h1 ⊢
   exact ⟨h1, rfl⟩)
  have HThu : Hid ((w.alloc (.cells #[.int .i64 0, .int .i64 0, .string ⟨#[]⟩, .slice none 0 0, .bool false, .string ⟨#[]⟩] 61)).there w.heap.size 0 us.toArray.size) := qh (by rw [HW.out, show us.toArray.size = 6 by rw [List.size_toArray, hl6]]; exact HTh.out)
  have HBz : Hid (BlockIs ((w.alloc (.cells #[.int .i64 0, .int .i64 0, .string ⟨#[]⟩, .slice none 0 0, .bool false, .string ⟨#[]⟩] 61)).setCells w.heap.size 0 us) w.heap.size us 61) := qh (by rw [HW.out]; exact HB.out.setAll us hl6.symm)
  have HPz : Hid (Pure w ((w.alloc (.cells #[.int .i64 0, .int .i64 0, .string ⟨#[]⟩, .slice none 0 0, .bool false, .string ⟨#[]⟩] 61)).setCells w.heap.size 0 us)) := qh (by rw [HW.out]; exact Ext.setCells _ 0 w1 HP.out (b := w.heap.size) (fun h => by omega))
  have HUs := qh hus
  have HL := qh hL
  clear hin hu hr hr6 hus hl6 hl4 hL
  go_enter Tryz.func42, Tryz.ntmps42
  go_wp2_with (first
   | (with_reducible refine at_load 61 (.tmp 20) ?_; refine wpList_load_mid rfl 61 (.tmp 20) rfl ob (oo + k * 6) rfl us _ hur Tryz.underlying61 rfl (by rw [HL6.out]; exact size43) ?_)
   | (with_reducible refine at_store 61 (.tmp 3) (.tmp 21) ?_; refine wpList_store_mid rfl 61 (.tmp 3) (.tmp 21) rfl w.heap.size 0 us.toArray rfl rfl HThu.out HSi.out HOne.out ?_))
  refine bodyPost_ret (results_row3 rfl _ _ w.heap.size _ us _ rfl HBz.out Tryz.underlying61 rfl (by rw [HL6.out]; exact size43)) rfl ?_
  exact ⟨cs, by rw [HUs.out]; rfl, HL.out, HPz.out⟩
 ·rw [obAt_out (by rw [← HOn.out]; exact hin)]
  have HThu : Hid ((w.alloc (.cells #[.int .i64 0, .int .i64 0, .string ⟨#[]⟩, .slice none 0 0, .bool false, .string ⟨#[]⟩] 61)).there w.heap.size 0 zeroOb.toArray.size) := qh (by rw [HW.out]; exact HTh.out)
  have HBz : Hid (BlockIs ((w.alloc (.cells #[.int .i64 0, .int .i64 0, .string ⟨#[]⟩, .slice none 0 0, .bool false, .string ⟨#[]⟩] 61)).setCells w.heap.size 0 zeroOb) w.heap.size zeroOb 61) := qh (by rw [HW.out]; exact HB.out.setAll zeroOb rfl)
  have HPz : Hid (Pure w ((w.alloc (.cells #[.int .i64 0, .int .i64 0, .string ⟨#[]⟩, .slice none 0 0, .bool false, .string ⟨#[]⟩] 61)).setCells w.heap.size 0 zeroOb)) := qh (by rw [HW.out]; exact Ext.setCells _ 0 w1 HP.out (b := w.heap.size) (fun h => by omega))
  have HSi : Hid ((Tryz.prog.info? 61).map (·.size) = some zeroOb.toArray.size) := qh size43
  have HOne : Hid ((zeroOb.toArray.all fun u => u.oneCell') = true) := qh (all_oneCell_toArray (by intro u hu; simp only [zeroOb, List.mem_cons, List.not_mem_nil, or_false] at hu; rcases hu with rfl | rfl | rfl | rfl | rfl | rfl <;> rfl))
  by_cases h1 : n < 1
  ·clear hin
   go_enter Tryz.func42, Tryz.ntmps42
   go_wp2_with (first
    | (with_reducible refine at_store 61 (.tmp 3) (.tmp 15) ?_; refine wpList_store_mid rfl 61 (.tmp 3) (.tmp 15) rfl w.heap.size 0 zeroOb.toArray rfl rfl HThu.out HSi.out HOne.out ?_))
   refine bodyPost_ret (results_row3 rfl _ _ w.heap.size _ zeroOb _ rfl HBz.out Tryz.underlying61 rfl size43) rfl ?_
   exact ⟨zeroCs, rfl, lies_null w0 d, HPz.out⟩
  ·have h2 : (on : Int) < n := by omega
   clear hin
   go_enter Tryz.func42, Tryz.ntmps42
   go_wp2_with (first
    | (with_reducible refine at_store 61 (.tmp 3) (.tmp 15) ?_; refine wpList_store_mid rfl 61 (.tmp 3) (.tmp 15) rfl w.heap.size 0 zeroOb.toArray rfl rfl HThu.out HSi.out HOne.out ?_))
   refine bodyPost_ret (results_row3 rfl _ _ w.heap.size _ zeroOb _ rfl HBz.out Tryz.underlying61 rfl size43) rfl ?_
   exact ⟨zeroCs, rfl, lies_null w0 d, HPz.out⟩
set_option maxHeartbeats 1000000 in
theorem fget_any (d : Nat) (l : List Ob) (oa : Option Addr) (oc : Nat) (root : Int) (rows : List (List Value)) (fb db : Nat) (n : Int) (w0 w : World) (hP0 : Pure w0 w) (hOK : OKids w0 (d + 1) l oa rows) (hol : l.length ≤ 1000000)
 (hF : FileAt w fb db oa l.length oc root) :
 Calls Tryz.prog 24 #[.pointer (some ⟨fb, 0, none⟩), .int .i64 n] w (ObW w0 (obAt l n) d w) := by
 obtain ⟨w1, hw1⟩ : ∃ z, z = w.alloc (.cells zeroOb.toArray 61) := ⟨_, rfl⟩
 have hB : BlockIs w1 w.heap.size zeroOb 61 := by rw [hw1]; exact BlockIs.new w _ _
 have hP : Pure w w1 := hw1 ▸ ext_alloc w _
 have hF1 := hF.ext hP id id
 have HW : Hid (w.alloc (.cells #[.int .i64 0, .int .i64 0, .string ⟨#[]⟩, .slice none 0 0, .bool false, .string ⟨#[]⟩] 61) = w1) := qh (by rw [hw1])
 have HIs := qh (is_any w1 hF1)
 have HGet := qh (fun W (hP : Pure w1 W) => obget_any d l oa oc root rows db n w0 W (hP0.pure (show Pure w w1 from by assumption) |>.pure hP) hOK hol (hF1.ext hP id id).d)
 clear hw1 hF
 go_enter Tryz.func24, Tryz.ntmps24
 go_wp2_with fail
 rw [HW.out]
 refine HIs.out.mono ?_
 rintro e w2 ⟨rfl, hP2⟩
 have hF2 := hF1.ext hP2 id id
 have hB2 := hB.ext hP2 id
 have hPP := hP.pure hP2
 have t2 : w2.cell? ⟨fb, 0 + 2, none⟩ = some (.func (.func 42) #[] #[.pointer (some ⟨db, 0, none⟩)]) := hF2.f.cell 2
 have HG := qh (HGet.out w2 hP2)
 clear HGet HIs hF1 hB hP hP2
 go_wp2_with fail
 refine HG.out.mono ?_
 rintro e w3 ⟨cs, rfl, hL, hP3⟩
 obtain ⟨o, ho⟩ : ∃ o, o = obAt l n := ⟨_, rfl⟩
 rw [← ho] at hL ⊢
 obtain ⟨us, hus⟩ : ∃ us, us = cs ++ [.bool o.st, .string o.data] := ⟨_, rfl⟩
 rw [← hus]
 have hl6 : us.length = 6 := by rw [hus, List.length_append, hL.len]; rfl
 have hB3 := hB2.ext hP3 id
 have hP03 := hPP.pure hP3
 have HSi : Hid ((Tryz.prog.info? 61).map (·.size) = some us.toArray.size) := qh (by rw [List.size_toArray, hl6]; exact size43)
 have HOne : Hid ((us.toArray.all fun u => u.oneCell') = true) := qh (by
  have h1 := hL.one
  rw [hus]
  simp only [List.all_toArray, List.all_append, Bool.and_eq_true] at h1 ⊢
  exact ⟨h1, rfl⟩)
 have HThu : Hid (w3.there w.heap.size 0 us.toArray.size) := qh (by rw [show us.toArray.size = 6 by rw [List.size_toArray, hl6]]; exact hB3.there 6 rfl)
 have HBz : Hid (BlockIs (w3.setCells w.heap.size 0 us) w.heap.size us 61) := qh (hB3.setAll us hl6.symm)
 have HPz : Hid (Pure w (w3.setCells w.heap.size 0 us)) := qh (Ext.setCells _ 0 w3 hP03 (b := w.heap.size) (fun h => by omega))
 have HUs := qh hus
 have HO := qh ho
 have HL := qh hL
 have HL6 := qh hl6
 clear hus hl6 hL hB3 hP03 hP3 hB2 hF2 hPP HG t2 ho
 go_wp2_with (first
  | (with_reducible refine at_store 61 (.tmp 4) (.tmp 17) ?_; refine wpList_store_mid rfl 61 (.tmp 4) (.tmp 17) rfl w.heap.size 0 us.toArray rfl rfl HThu.out HSi.out HOne.out ?_))
 refine bodyPost_ret (results_row3 rfl _ _ w.heap.size _ us _ rfl HBz.out Tryz.underlying61 rfl (by rw [HL6.out]; exact size43)) rfl ?_
 exact ⟨cs, by rw [← HO.out, HUs.out]; rfl, by rw [← HO.out]; exact HL.out, HPz.out⟩
structure DocOk (w0 : World) (d : Nat) (l : List Ob) (oa : Option Addr) (rows : List (List Value)) (root : Int) : Prop where
 ok : OKids w0 (d + 1) l oa rows
 len : l.length ≤ 5000
 size : ∀ u ∈ l, u.v.size ≤ 100000
 wf : ∀ u ∈ l, u.v.wf
 root : (Lit.int .i64 root).wf = true
theorem DocOk.pure {w0 w : World} {d : Nat} {l : List Ob} {oa : Option Addr} {rows : List (List Value)} {root : Int} (h : DocOk w0 d l oa rows root) (hP : Pure w0 w) : DocOk w d l oa rows root := ⟨h.ok.pure hP, h.len, h.size, h.wf, h.root⟩
theorem sizeL_len : ∀ l : List V, l.length ≤ sizeL l
 | [] => Nat.zero_le _
 | .mk _ _ _ m :: l => by have := sizeL_len l; rw [sizeL, V.size, List.length_cons]; omega
theorem V.len_size (v : V) : v.l.length ≤ v.size := by cases v with | mk k n s l => have := sizeL_len l; rw [V.size]; show l.length ≤ _; omega
theorem sizeL_mem : ∀ {l : List V} {u : V}, u ∈ l → u.size ≤ sizeL l
 | _ :: l, u, h => by
   rw [sizeL]
   rcases List.mem_cons.1 h with rfl | h
   ·omega
   ·have := sizeL_mem h; omega
theorem V.mem_size {v u : V} (h : u ∈ v.l) : u.size ≤ v.size := by cases v with | mk k n s l => have := sizeL_mem (l := l) h; rw [V.size]; omega
theorem V.wf.down {v u : V} (h : v.wf) (hu : u ∈ v.l) : u.wf := fun x hx => h x (by rw [nums_eq]; exact List.mem_cons_of_mem _ (nums_mem hu x hx))
theorem V.wf.n {v : V} (h : v.wf) : (Lit.int .i64 v.n).wf = true := h _ (by rw [nums_eq]; exact List.mem_cons_self)
theorem null_wf : nullV.wf := by
 intro x hx
 have e : nullV.nums = [0] := by unfold nullV; rw [V.nums, numsL]
 rw [e, List.mem_singleton] at hx
 subst hx
 rfl
theorem obAt_cases (l : List Ob) (n : Int) : obAt l n ∈ l ∨ obAt l n = noOb := by
 unfold obAt
 split
 ·rename_i hc
  have hk : (n - 1).toNat < l.length := by omega
  rw [List.getElem?_eq_getElem hk, Option.getD_some]
  exact Or.inl (List.getElem_mem hk)
 ·exact Or.inr rfl
theorem DocOk.at_wf {w0 : World} {d : Nat} {l : List Ob} {oa : Option Addr} {rows : List (List Value)} {root : Int} (h : DocOk w0 d l oa rows root) (n : Int) : (obAt l n).v.wf := by
 rcases obAt_cases l n with hm | e
 ·exact h.wf _ hm
 ·rw [e]; exact null_wf
theorem DocOk.at_size {w0 : World} {d : Nat} {l : List Ob} {oa : Option Addr} {rows : List (List Value)} {root : Int} (h : DocOk w0 d l oa rows root) (n : Int) : (obAt l n).v.size ≤ 100000 := by
 rcases obAt_cases l n with hm | e
 ·exact h.size _ hm
 ·rw [e]
  have : noOb.v.size = 1 := by unfold noOb nullV; rw [V.size, sizeL]
  omega
theorem get_mem (v : V) (key : ByteArray) : (v.get key).1 ∈ v.l ∨ (v.get key).1 = nullV := by
 unfold V.get
 split
 ·rename_i i hi
  cases h : v.l[i + 1]? with
  | none => exact Or.inr rfl
  | some u => exact Or.inl (List.mem_of_getElem? h)
 ·exact Or.inr rfl
theorem V.wf.get {v : V} (h : v.wf) (key : ByteArray) : (v.get key).1.wf := by
 rcases get_mem v key with hm | e
 ·exact h.down hm
 ·rw [e]; exact null_wf
theorem get_size {v : V} {m : Nat} (h : v.size ≤ m) (hm : 1 ≤ m) (key : ByteArray) : (v.get key).1.size ≤ m := by
 rcases get_mem v key with hm | e
 ·exact Nat.le_trans (V.mem_size hm) h
 ·rw [e]
  have : nullV.size = 1 := by unfold nullV; rw [V.size, sizeL]
  omega
theorem node_wf {o : Ob} {kids : List Int} {c : Int} (hw : o.v.wf) (h : nodeO o = some (kids, c)) : ∀ k ∈ kids, (Lit.int .i64 k).wf = true := by
 unfold nodeO at h
 split at h
 ·simp only [Option.some.injEq, Prod.mk.injEq] at h
  obtain ⟨rfl, _⟩ := h
  intro k hk
  obtain ⟨u, hu, rfl⟩ := List.mem_map.1 hk
  exact ((hw.get _).down hu).n
 ·cases h
theorem kidsP_cons {f : Tr → Int → Option (Tr × Int)} {one : Bool} (k : Int) (r : List Int) (t : Tr) (s : Int) :
 kidsP f one (k :: r) t s = match f t k with
  | none => none
  | some (u, m) => if one = true ∧ m ≠ 1 then none else kidsP f one r u (s + m) := rfl
theorem kidsP_append {f : Tr → Int → Option (Tr × Int)} {one : Bool} : ∀ (a b : List Int) (t : Tr) (s : Int),
 kidsP f one (a ++ b) t s = match kidsP f one a t s with
  | none => none
  | some (u, m) => kidsP f one b u m
 | [], b, t, s => rfl
 | k :: a, b, t, s => by
   rw [List.cons_append, kidsP_cons, kidsP_cons]
   cases h : f t k with
   | none => rfl
   | some p =>
     obtain ⟨u, m⟩ := p
     simp only
     split
     ·rfl
     ·exact kidsP_append a b u (s + m)
theorem kidsP_snoc {f : Tr → Int → Option (Tr × Int)} {one : Bool} {l : List Int} {k : Nat} {x : Int} (hx : l[k]? = some x) {t u : Tr} {s m : Int} (h : kidsP f one (l.take k) t s = some (u, m)) :
 kidsP f one (l.take (k + 1)) t s = match f u x with
  | none => none
  | some (v, q) => if one = true ∧ q ≠ 1 then none else some (v, m + q) := by
 obtain ⟨hk, rfl⟩ := List.getElem?_eq_some_iff.1 hx
 rw [List.take_succ_eq_append_getElem hk, kidsP_append, h]
 rfl
theorem kidsP_none {f : Tr → Int → Option (Tr × Int)} {one : Bool} {l : List Int} {k : Nat} {t : Tr} {s : Int} (h : kidsP f one (l.take k) t s = none) : kidsP f one l t s = none := by
 rw [← List.take_append_drop k l, kidsP_append, h]
