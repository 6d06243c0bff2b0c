/-
  Walked: the law's works.
-/
import Derived.Test.YtkkmppalifjgnaaWkDoc
namespace Go.Proofs.Ytkkmppalifjgnaa
open Go.RowKit Go.Maps
set_option linter.unusedVariables false
set_option linter.unusedSimpArgs false

theorem infoO : (Try.prog.info? 43).map (fun i => (i.zero, i.size, i.bytes)) = some (some (.agg #[.int .i64 0, .int .i64 0, .string ⟨#[]⟩, .slice none 0 0, .bool false, .string ⟨#[]⟩]), 6, 80) := by kernel_rfl
theorem stray_ok {l : List Ob} {oa : Option Addr} {rows : List (List Value)} {W : World} {d : Nat} (h : OKids W (d + 1) l oa rows) (hs : l.all (fun u => decide (u.v.size ≤ 100000) && u.v.nums.all (fun x => (Lit.int .i64 x).wf) && decide (u.data.size ≤ maxLen)) = true) (hl : l.length ≤ 5000) (root : Int) (hr : (Lit.int .i64 root).wf = true) :
    DocOk W d l oa rows root ∧ ∀ u ∈ l, u.data.size ≤ maxLen := by
  rw [List.all_eq_true] at hs
  refine ⟨⟨h, hl, fun u hu => ?_, fun u hu x hx => ?_, hr⟩, fun u hu => ?_⟩
  · have h1 := hs u hu
    rw [Bool.and_eq_true, Bool.and_eq_true] at h1
    exact of_decide_eq_true h1.1.1
  · have h1 := hs u hu
    rw [Bool.and_eq_true, Bool.and_eq_true, List.all_eq_true] at h1
    exact h1.1.2 x hx
  · have h1 := hs u hu
    rw [Bool.and_eq_true] at h1
    exact of_decide_eq_true h1.2
theorem small_size : smallL.all (fun u => decide (u.v.size ≤ 100000) && u.v.nums.all (fun x => (Lit.int .i64 x).wf) && decide (u.data.size ≤ maxLen)) = true := by
  have h := wk_size
  rw [strayL, List.all_append, Bool.and_eq_true] at h
  exact h.1
theorem OKids.one {W : World} {d : Nat} {l : List Ob} {a : Option Addr} {rows : List (List Value)} (h : OKids W d l a rows) : ∀ u ∈ rows.flatMap id, u.oneCell' = true := by
  intro u hu
  obtain ⟨r, hr, hu⟩ := List.mem_flatMap.1 hu
  obtain ⟨i, hi, rfl⟩ := List.mem_iff_getElem.1 hr
  obtain ⟨cs, h1, h2⟩ := h.lies i (l[i]'(by rw [← h.len]; exact hi)) rows[i] (List.getElem?_eq_getElem (by rw [← h.len]; exact hi)) (List.getElem?_eq_getElem hi)
  rw [show id rows[i] = rows[i] from rfl, h1] at hu
  rcases List.mem_append.1 hu with hu | hu
  · have h3 := h2.one
    rw [Array.all_eq_true'] at h3
    exact h3 u (by simpa using hu)
  · simp only [List.mem_cons, List.not_mem_nil, or_false] at hu
    rcases hu with rfl | rfl <;> rfl
theorem RowOf.one_at {W : World} {b o : Nat} {v : Value} (h : RowOf W (some ⟨b, o, none⟩) [v]) : W.cell? ⟨b, o, none⟩ = some v := by
  obtain ⟨b', o', e, hc⟩ := h 0 v rfl
  cases e
  exact hc
theorem rows_flat {rows : List (List Value)} {n : Nat} (h : ∀ r ∈ rows, r.length = n) : (rows.flatMap id).length = rows.length * n := flat_len id rows h
theorem tr_is {t : Tr} {a b : List Int} (h1 : t.nodes = a) (h2 : t.pages = b) : t = ⟨a, b⟩ := by cases t; simp only at h1 h2; subst h1; subst h2; rfl
theorem wk_walk : walkP smallL 1 = (⟨[2], [3]⟩, 0) := Prod.ext (tr_is wk_nodes wk_pages) wk_err
set_option maxHeartbeats 4000000 in
set_option maxRecDepth 100000 in
theorem works_any (w : World) : Calls Try.prog 8 #[] w (BoolTo true w) := by
  go_enter Try.func8, Try.ntmps8
  go_wp2_with fail
  refine (small_any w).mono ?_
  rintro e w1 ⟨bo, rows, rfl, hOK, hP1⟩
  go_wp2_with fail
  obtain ⟨w2, hw2⟩ : ∃ z, z = w1.alloc (.cells #[.slice (some ⟨bo, 0, none⟩) 3 3, .int .i64 1] 24) := ⟨_, rfl⟩
  have hP2 : Pure w1 w2 := hw2 ▸ ext_alloc w1 _
  have hD2 : BlockIs w2 w1.heap.size [.slice (some ⟨bo, 0, none⟩) 3 3, .int .i64 1] 24 := hw2 ▸ BlockIs.new w1 _ _
  obtain ⟨b1, hb1⟩ : ∃ z, z = w1.heap.size := ⟨_, rfl⟩
  rw [← hb1] at hD2
  rw [← hw2, ← hb1]
  have hOK2 := hOK.pure hP2
  have hPw := hP1.pure hP2
  obtain ⟨hDo, hDs⟩ := stray_ok hOK2 small_size (by decide) 1 (by decide)
  have HDo := Lib.hid hDo
  have HDs := Lib.hid hDs
  clear hw2 hb1 hP1 hP2 hOK hOK2
  refine (walk_docs 3 smallL _ 3 rows 1 w2 hDo).mono ?_
  rw [wk_walk]
  rintro e w3 ⟨a1, x1, a2, x2, rfl, hP3, hr1, hr2, hl1, hl2, hn1, hn2, hc1, hm1, hc2, hm2⟩
  clear hDo hDs
  obtain ⟨b, o, rfl, hpg⟩ := hr2 0 (.int .i64 3) rfl
  have hD3 := hD2.ext hP3 id
  have HD3 := Lib.hid hD3
  have HPw3 := Lib.hid (hPw.pure hP3)
  have HP23 := Lib.hid hP3
  have HR1 := Lib.hid hr1
  have HR2 := Lib.hid hr2
  have hlt : b1 < w3.heap.size := hD3.lt
  have d0 : w3.cell? ⟨b1, 0, none⟩ = some (.slice (some ⟨bo, 0, none⟩) 3 3) := hD3.cell 0
  have HFa := Lib.hid (⟨hn1, hn2, hc1, hc2⟩ : (a1 = none → x1 = 0) ∧ ((some ⟨b, o, none⟩ : Option Addr) = none → x2 = 0) ∧ 1 ≤ x1 ∧ 1 ≤ x2)
  clear hP3 hr1 hr2 hl1 hl2 hn1 hn2 hc1 hm1 hc2 hm2 hD2 hD3 hPw
  simp only [List.length_cons, List.length_nil, Nat.zero_add]
  have hl1 : b1 < w3.heap.size + 1 := by omega
  have hl2 : b1 < w3.heap.size + 1 + 1 := by omega
  obtain ⟨wF, hwF⟩ : ∃ z, z = (((w3.alloc (.cells #[.slice a1 1 x1, .slice (some ⟨b, o, none⟩) 1 x2] 31)).alloc (.cells #[.slice none 0 0, .int .i64 0] 24)).alloc (.cells #[] 43)) := ⟨_, rfl⟩
  obtain ⟨s3, hs3⟩ : ∃ z, z = w3.heap.size := ⟨_, rfl⟩
  have hPF : Pure w3 wF := by rw [hwF]; exact ((ext_alloc w3 _).pure (ext_alloc _ _)).pure (ext_alloc _ _)
  have hT4 : BlockIs wF s3 [.slice a1 1 x1, .slice (some ⟨b, o, none⟩) 1 x2] 31 := by rw [hwF, hs3]; exact ((BlockIs.new w3 _ _).alloc _).alloc _
  have hN4 : BlockIs wF (s3 + 1) [.slice none 0 0, .int .i64 0] 24 := by
    have h := (BlockIs.new (w3.alloc (.cells #[.slice a1 1 x1, .slice (some ⟨b, o, none⟩) 1 x2] 31)) [.slice none 0 0, .int .i64 0] 24).alloc (.cells #[] 43)
    rw [World.size_alloc, ← hs3] at h
    rw [hwF]; exact h
  have hO4 : wF.ownsRow (s3 + 1 + 1) 43 6 (.slice (some ⟨s3 + 1 + 1, 0, none⟩) 0 0) 0 [] := by
    refine ⟨rfl, Or.inr ⟨s3 + 1 + 1, 0, #[], rfl, Nat.le_refl _, ?_, Nat.le_refl _, Nat.zero_le _, rfl, rfl⟩⟩
    have h := heap_alloc_new ((w3.alloc (.cells #[.slice a1 1 x1, .slice (some ⟨b, o, none⟩) 1 x2] 31)).alloc (.cells #[.slice none 0 0, .int .i64 0] 24)) (.cells #[] 43)
    rw [World.size_alloc, World.size_alloc, ← hs3] at h
    rw [hwF]; exact h
  have hfl := rows_flat HDo.out.ok.six
  rw [HDo.out.ok.len] at hfl
  have HFl : Hid ((rows.flatMap id).length = 3 * 6) := Lib.hid hfl
  have HRf : Hid (RowOf wF (some ⟨bo, 0, none⟩) (rows.flatMap id)) := Lib.hid (HDo.out.ok.row.ext (HP23.out.pure hPF) (fun _ _ => id))
  have HOn : Hid (∀ u ∈ rows.flatMap id, u.oneCell' = true) := Lib.hid HDo.out.ok.one
  have HO4 := Lib.hid hO4
  have HWF : Hid ((((w3.alloc (.cells #[.slice a1 1 x1, .slice (some ⟨b, o, none⟩) 1 x2] 31)).alloc (.cells #[.slice none 0 0, .int .i64 0] 24)).alloc (.cells #[] 43)) = wF) := Lib.hid hwF.symm
  have HS3 := Lib.hid hs3
  have HD4 := Lib.hid (HD3.out.ext hPF id)
  have HT4 := Lib.hid hT4
  have HN4 := Lib.hid hN4
  have HPF := Lib.hid hPF
  have HRs : Hid (s3 + 1 + 1 ≤ wF.heap.size) := Lib.hid (by have := hO4.lt (s3 + 1 + 1) rfl; omega)
  clear hwF hPF hT4 hN4 hO4 hfl hpg
  clear hs3
  go_wp2_with (at_builtin; rw [HWF.out, ← HS3.out]; refine wpList_append_any rfl (.tmp 13) (.tmp 15) 22 rfl (s3 + 1 + 1) 43 (.agg #[.int .i64 0, .int .i64 0, .string ⟨#[]⟩, .slice none 0 0, .bool false, .string ⟨#[]⟩]) 6 80 Try.underlying22 infoO rfl (by decide) (.slice (some ⟨s3 + 1 + 1, 0, none⟩) 0 0) 0 [] rfl HO4.out (some ⟨bo, 0, none⟩) 3 3 (rows.flatMap id) rfl (fun e => by cases e) HFl.out HRf.out HOn.out 3 rfl (rows.flatMap id) rfl (by decide) (by decide) HRs.out ?_; intro a4 c4 w4 hO4 hg4)
  have hE4 := ext_of_grown hg4
  have hb1s : b1 < s3 := by rw [HS3.out]; exact hlt
  have HD5 := Lib.hid (HD4.out.ext hE4 (fun e => by have h : s3 + 1 + 1 = _ := Option.some.inj e; omega))
  have HT5 := Lib.hid (HT4.out.ext hE4 (fun e => by have h : s3 + 1 + 1 = _ := Option.some.inj e; omega))
  have HN5 := Lib.hid (HN4.out.ext hE4 (fun e => by have h : s3 + 1 + 1 = _ := Option.some.inj e; omega))
  have HP35 : Hid (Pure w3 w4) := Lib.hid (HPF.out.trans hE4 (fun i hi e => by have h : s3 + 1 + 1 = i := Option.some.inj e; have := HS3.out; omega))
  refine (ref_any 3 w4).mono ?_
  rintro e w5 ⟨rfl, hP5⟩
  obtain ⟨wG, hwG⟩ : ∃ z, z = w5.alloc (.cells #[.int .i64 8, .int .i64 3, .string ⟨#[]⟩, .slice none 0 0, .bool false, .string ⟨#[]⟩] 43) := ⟨_, rfl⟩
  have hPG : Pure w4 wG := by rw [hwG]; exact hP5.pure (ext_alloc _ _)
  have HOg := Lib.hid (own_ext hO4 hPG (fun _ _ => id))
  have HRg : Hid (RowOf wG (some ⟨w5.heap.size, 0, none⟩) [.int .i64 8, .int .i64 3, .string ⟨#[]⟩, .slice none 0 0, .bool false, .string ⟨#[]⟩]) := Lib.hid (by rw [hwG]; exact row_at _ rfl rfl)
  have HDg := Lib.hid (HD5.out.ext hPG id)
  have HTg := Lib.hid (HT5.out.ext hPG id)
  have HNg := Lib.hid (HN5.out.ext hPG id)
  have HP3g := Lib.hid (HP35.out.pure hPG)
  have HWG : Hid (w5.alloc (.cells #[.int .i64 8, .int .i64 3, .string ⟨#[]⟩, .slice none 0 0, .bool false, .string ⟨#[]⟩] 43) = wG) := Lib.hid hwG.symm
  have HRs2 : Hid (s3 + 1 + 1 ≤ wG.heap.size) := Lib.hid (Nat.le_trans HRs.out (Nat.le_trans hE4.size hPG.size))
  have HQ6 : Hid (∀ w6, wG.grownBy w6 (Value.slice a4 3 c4).ownBlock → BlockIs w6 b1 [.slice (some ⟨bo, 0, none⟩) 3 3, .int .i64 1] 24 ∧ BlockIs w6 s3 [.slice a1 1 x1, .slice (some ⟨b, o, none⟩) 1 x2] 31 ∧ BlockIs w6 (s3 + 1) [.slice none 0 0, .int .i64 0] 24 ∧ Pure w3 w6 ∧ b1 < w6.heap.size ∧ w6.cell? ⟨b1, 0, none⟩ = some (.slice (some ⟨bo, 0, none⟩) 3 3) ∧ w6.cell? ⟨b1, 1, none⟩ = some (.int .i64 1)) := Lib.hid (fun w6 hg => by
    have hE := ext_of_grown hg
    have hn : ∀ i, i < s3 + 1 + 1 → ¬ ((Value.slice a4 3 c4).ownBlock = some i) := fun i hi e => by have := (HOg.out.lt i e).1; omega
    have h1 := HDg.out.ext hE (hn _ (by omega))
    exact ⟨h1, HTg.out.ext hE (hn _ (by omega)), HNg.out.ext hE (hn _ (by omega)), HP3g.out.trans hE (fun i hi e => hn i (by have := HS3.out; omega) e), h1.lt, h1.cell 0, h1.cell 1⟩)
  clear hE4 hg4 hO4 hP5 hwG hPG HD4 HT4 HN4 HD5 HT5 HN5 HO4 HPF HWF
  go_wp2_with (at_builtin; rw [HWG.out]; refine wpList_append_any rfl (.tmp 16) (.tmp 19) 22 rfl (s3 + 1 + 1) 43 (.agg #[.int .i64 0, .int .i64 0, .string ⟨#[]⟩, .slice none 0 0, .bool false, .string ⟨#[]⟩]) 6 80 Try.underlying22 infoO rfl (by decide) (.slice a4 3 c4) 3 (rows.flatMap id) rfl HOg.out (some ⟨w5.heap.size, 0, none⟩) 1 1 [.int .i64 8, .int .i64 3, .string ⟨#[]⟩, .slice none 0 0, .bool false, .string ⟨#[]⟩] rfl (fun e => by cases e) rfl HRg.out (fun u hu => by simp at hu; rcases hu with rfl | rfl | rfl | rfl | rfl | rfl <;> rfl) 4 rfl (rows.flatMap id ++ [.int .i64 8, .int .i64 3, .string ⟨#[]⟩, .slice none 0 0, .bool false, .string ⟨#[]⟩]) rfl (by decide) (by decide) HRs2.out ?_; intro a6 c6 w6 hO6 hg6; obtain ⟨hD6, hT6, hN6, hP36, hlt6, k0, k1⟩ := HQ6.out w6 hg6)
  have hrow6 := own_row hO6
  obtain ⟨w7, hw7⟩ : ∃ z, z = w6.alloc (.cells #[.slice a6 4 c6, .int .i64 1] 24) := ⟨_, rfl⟩
  obtain ⟨b5, hb5⟩ : ∃ z, z = w6.heap.size := ⟨_, rfl⟩
  have hQ : Pure w6 w7 := by rw [hw7]; exact ext_alloc _ _
  have HSw : Hid (BlockIs w7 b5 [.slice a6 4 c6, .int .i64 1] 24) := Lib.hid (by rw [hw7, hb5]; exact BlockIs.new _ _ _)
  have HDw := Lib.hid (hD6.ext hQ id)
  have HTw := Lib.hid (hT6.ext hQ id)
  have HNw := Lib.hid (hN6.ext hQ id)
  have HP3w := Lib.hid (hP36.pure hQ)
  have HP2w := Lib.hid (HP23.out.pure (hP36.pure hQ))
  have HOw : Hid (OKids w7 4 strayL a6 (rows ++ [[.int .i64 8, .int .i64 3, .string ⟨#[]⟩, .slice none 0 0, .bool false, .string ⟨#[]⟩]])) := Lib.hid (by
    have hok := HDo.out.ok.pure HP2w.out
    refine ⟨by rw [List.length_append, hok.len]; rfl, fun r hr => ?_, ?_, fun i o r ho hr => ?_⟩
    · rcases List.mem_append.1 hr with hr | hr
      · exact hok.six r hr
      · simp only [List.mem_cons, List.not_mem_nil, or_false] at hr
        rw [hr]; rfl
    · rw [List.flatMap_append]
      exact (hrow6.ext hQ (fun _ _ => id))
    · have hl3 : rows.length = 3 := hok.len
      by_cases hi : i < 3
      · rw [List.getElem?_append_left (by rw [hl3]; exact hi)] at hr
        rw [strayL, List.getElem?_append_left (by exact hi)] at ho
        exact hok.lies i o r ho hr
      · have hi3 : i = 3 := by
          have := (List.getElem?_eq_some_iff.1 ho).1
          have e : strayL.length = 4 := rfl
          omega
        subst hi3
        rw [List.getElem?_append_right (by rw [hl3]; exact Nat.le_refl _), hl3] at hr
        cases hr
        cases ho
        exact ⟨[.int .i64 8, .int .i64 3, .string ⟨#[]⟩, .slice none 0 0], rfl, ref_lies w7 3 3⟩)
  have HNo : Hid (∀ W : World, DocOk W 3 [] none [] 0) := Lib.hid (fun W => ⟨⟨rfl, fun r hr => (by cases hr), row_nil _ _, fun i o r ho => by simp at ho⟩, by decide, fun u hu => (by cases hu), fun u hu => (by cases hu), by decide⟩)
  rw [← hw7, ← hb5]
  clear hQ hrow6 hO6 hg6 hD6 hT6 hN6 hP36 hlt6 k0 k1 hw7 hb5 HQ6 HWG HOg HRg HRs2 HRs HDg HTg HNg HP3g HP35 HFl HRf HOn hlt hl1 hl2 hb1s HD3 HP23
  refine (wk_doc ▸ doc_any 3 smallL (some ⟨bo, 0, none⟩) 3 _ 1 w7 (HDo.out.pure HP2w.out) HDs.out).mono ?_
  rintro e w8 ⟨rfl, hQ⟩
  have HDv := Lib.hid (HDw.out.ext hQ id)
  have HTv := Lib.hid (HTw.out.ext hQ id)
  have HNv := Lib.hid (HNw.out.ext hQ id)
  have HSv := Lib.hid (HSw.out.ext hQ id)
  have HPv := Lib.hid (HP3w.out.pure hQ)
  have HP2v := Lib.hid (HP2w.out.pure hQ)
  have HOv := Lib.hid (HOw.out.pure hQ)
  clear HDw HTw HNw HSw HP3w HP2w HOw hQ
  have HDw := HDv
  clear HDv
  have HTw := HTv
  clear HTv
  have HNw := HNv
  clear HNv
  have HSw := HSv
  clear HSv
  have HP3w := HPv
  clear HPv
  have HP2w := HP2v
  clear HP2v
  have HOw := HOv
  clear HOv
  have d0 : w8.cell? ⟨b1, 0, none⟩ = some (.slice (some ⟨bo, 0, none⟩) 3 3) := HDw.out.cell 0
  have d1 : w8.cell? ⟨b1, 1, none⟩ = some (.int .i64 1) := HDw.out.cell 1
  have t0 : w8.cell? ⟨s3, 0, none⟩ = some (.slice a1 1 x1) := HTw.out.cell 0
  have t1 : w8.cell? ⟨s3, 1, none⟩ = some (.slice (some ⟨b, o, none⟩) 1 x2) := HTw.out.cell 1
  have n0 : w8.cell? ⟨s3 + 1, 0, none⟩ = some (.slice none 0 0) := HNw.out.cell 0
  have n1 : w8.cell? ⟨s3 + 1, 1, none⟩ = some (.int .i64 0) := HNw.out.cell 1
  have s0 : w8.cell? ⟨b5, 0, none⟩ = some (.slice a6 4 c6) := HSw.out.cell 0
  have s1 : w8.cell? ⟨b5, 1, none⟩ = some (.int .i64 1) := HSw.out.cell 1
  have pg : w8.cell? ⟨b, o, none⟩ = some (.int .i64 3) := (HR2.out.ext HP3w.out (fun _ _ => id)).one_at
  go_wp2_with fail
  refine (wk_stray ▸ stray_docs 3 smallL (some ⟨bo, 0, none⟩) 3 _ 1 ⟨[2], [3]⟩ a1 (some ⟨b, o, none⟩) x1 x2 w8 (HDo.out.pure HP2w.out) (HR1.out.ext HP3w.out (fun _ _ => id)) (HR2.out.ext HP3w.out (fun _ _ => id)) HFa.out.1 HFa.out.2.1 HFa.out.2.2.1 HFa.out.2.2.2 (by decide) (by decide) (by decide) (by decide)).mono ?_
  rintro e w9 ⟨rfl, hQ⟩
  have HDv := Lib.hid (HDw.out.ext hQ id)
  have HTv := Lib.hid (HTw.out.ext hQ id)
  have HNv := Lib.hid (HNw.out.ext hQ id)
  have HSv := Lib.hid (HSw.out.ext hQ id)
  have HPv := Lib.hid (HP3w.out.pure hQ)
  have HP2v := Lib.hid (HP2w.out.pure hQ)
  have HOv := Lib.hid (HOw.out.pure hQ)
  clear HDw HTw HNw HSw HP3w HP2w HOw hQ d0 d1 t0 t1 n0 n1 s0 s1 pg
  have HDw := HDv
  clear HDv
  have HTw := HTv
  clear HTv
  have HNw := HNv
  clear HNv
  have HSw := HSv
  clear HSv
  have HP3w := HPv
  clear HPv
  have HP2w := HP2v
  clear HP2v
  have HOw := HOv
  clear HOv
  have d0 : w9.cell? ⟨b1, 0, none⟩ = some (.slice (some ⟨bo, 0, none⟩) 3 3) := HDw.out.cell 0
  have d1 : w9.cell? ⟨b1, 1, none⟩ = some (.int .i64 1) := HDw.out.cell 1
  have t0 : w9.cell? ⟨s3, 0, none⟩ = some (.slice a1 1 x1) := HTw.out.cell 0
  have t1 : w9.cell? ⟨s3, 1, none⟩ = some (.slice (some ⟨b, o, none⟩) 1 x2) := HTw.out.cell 1
  have n0 : w9.cell? ⟨s3 + 1, 0, none⟩ = some (.slice none 0 0) := HNw.out.cell 0
  have n1 : w9.cell? ⟨s3 + 1, 1, none⟩ = some (.int .i64 0) := HNw.out.cell 1
  have s0 : w9.cell? ⟨b5, 0, none⟩ = some (.slice a6 4 c6) := HSw.out.cell 0
  have s1 : w9.cell? ⟨b5, 1, none⟩ = some (.int .i64 1) := HSw.out.cell 1
  have pg : w9.cell? ⟨b, o, none⟩ = some (.int .i64 3) := (HR2.out.ext HP3w.out (fun _ _ => id)).one_at
  go_wp2_with fail
  refine (wk_none ▸ doc_any 3 [] none 0 _ 0 w9 (HNo.out w9) (fun u hu => by cases hu)).mono ?_
  rintro e w10 ⟨rfl, hQ⟩
  have HDv := Lib.hid (HDw.out.ext hQ id)
  have HTv := Lib.hid (HTw.out.ext hQ id)
  have HNv := Lib.hid (HNw.out.ext hQ id)
  have HSv := Lib.hid (HSw.out.ext hQ id)
  have HPv := Lib.hid (HP3w.out.pure hQ)
  have HP2v := Lib.hid (HP2w.out.pure hQ)
  have HOv := Lib.hid (HOw.out.pure hQ)
  clear HDw HTw HNw HSw HP3w HP2w HOw hQ d0 d1 t0 t1 n0 n1 s0 s1 pg
  have HDw := HDv
  clear HDv
  have HTw := HTv
  clear HTv
  have HNw := HNv
  clear HNv
  have HSw := HSv
  clear HSv
  have HP3w := HPv
  clear HPv
  have HP2w := HP2v
  clear HP2v
  have HOw := HOv
  clear HOv
  have d0 : w10.cell? ⟨b1, 0, none⟩ = some (.slice (some ⟨bo, 0, none⟩) 3 3) := HDw.out.cell 0
  have d1 : w10.cell? ⟨b1, 1, none⟩ = some (.int .i64 1) := HDw.out.cell 1
  have t0 : w10.cell? ⟨s3, 0, none⟩ = some (.slice a1 1 x1) := HTw.out.cell 0
  have t1 : w10.cell? ⟨s3, 1, none⟩ = some (.slice (some ⟨b, o, none⟩) 1 x2) := HTw.out.cell 1
  have n0 : w10.cell? ⟨s3 + 1, 0, none⟩ = some (.slice none 0 0) := HNw.out.cell 0
  have n1 : w10.cell? ⟨s3 + 1, 1, none⟩ = some (.int .i64 0) := HNw.out.cell 1
  have s0 : w10.cell? ⟨b5, 0, none⟩ = some (.slice a6 4 c6) := HSw.out.cell 0
  have s1 : w10.cell? ⟨b5, 1, none⟩ = some (.int .i64 1) := HSw.out.cell 1
  have pg : w10.cell? ⟨b, o, none⟩ = some (.int .i64 3) := (HR2.out.ext HP3w.out (fun _ _ => id)).one_at
  go_wp2_with fail
  refine (wk_stray2 ▸ stray_docs 3 strayL a6 c6 _ 1 ⟨[2], [3]⟩ a1 (some ⟨b, o, none⟩) x1 x2 w10 (stray_ok HOw.out wk_size (by decide) 1 (by decide)).1 (HR1.out.ext HP3w.out (fun _ _ => id)) (HR2.out.ext HP3w.out (fun _ _ => id)) HFa.out.1 HFa.out.2.1 HFa.out.2.2.1 HFa.out.2.2.2 (by decide) (by decide) (by decide) (by decide)).mono ?_
  rintro e w11 ⟨rfl, hQ⟩
  have HDv := Lib.hid (HDw.out.ext hQ id)
  have HTv := Lib.hid (HTw.out.ext hQ id)
  have HNv := Lib.hid (HNw.out.ext hQ id)
  have HSv := Lib.hid (HSw.out.ext hQ id)
  have HPv := Lib.hid (HP3w.out.pure hQ)
  have HP2v := Lib.hid (HP2w.out.pure hQ)
  have HOv := Lib.hid (HOw.out.pure hQ)
  clear HDw HTw HNw HSw HP3w HP2w HOw hQ d0 d1 t0 t1 n0 n1 s0 s1 pg
  have HDw := HDv
  clear HDv
  have HTw := HTv
  clear HTv
  have HNw := HNv
  clear HNv
  have HSw := HSv
  clear HSv
  have HP3w := HPv
  clear HPv
  have HP2w := HP2v
  clear HP2v
  have HOw := HOv
  clear HOv
  have d0 : w11.cell? ⟨b1, 0, none⟩ = some (.slice (some ⟨bo, 0, none⟩) 3 3) := HDw.out.cell 0
  have d1 : w11.cell? ⟨b1, 1, none⟩ = some (.int .i64 1) := HDw.out.cell 1
  have t0 : w11.cell? ⟨s3, 0, none⟩ = some (.slice a1 1 x1) := HTw.out.cell 0
  have t1 : w11.cell? ⟨s3, 1, none⟩ = some (.slice (some ⟨b, o, none⟩) 1 x2) := HTw.out.cell 1
  have n0 : w11.cell? ⟨s3 + 1, 0, none⟩ = some (.slice none 0 0) := HNw.out.cell 0
  have n1 : w11.cell? ⟨s3 + 1, 1, none⟩ = some (.int .i64 0) := HNw.out.cell 1
  have s0 : w11.cell? ⟨b5, 0, none⟩ = some (.slice a6 4 c6) := HSw.out.cell 0
  have s1 : w11.cell? ⟨b5, 1, none⟩ = some (.int .i64 1) := HSw.out.cell 1
  have pg : w11.cell? ⟨b, o, none⟩ = some (.int .i64 3) := (HR2.out.ext HP3w.out (fun _ _ => id)).one_at
  go_wp2_with fail
  refine (wk_doc2 ▸ doc_any 3 strayL a6 c6 _ 1 w11 (stray_ok HOw.out wk_size (by decide) 1 (by decide)).1 (stray_ok HOw.out wk_size (by decide) 1 (by decide)).2).mono ?_
  rintro e w12 ⟨rfl, hQ⟩
  have HDv := Lib.hid (HDw.out.ext hQ id)
  have HTv := Lib.hid (HTw.out.ext hQ id)
  have HNv := Lib.hid (HNw.out.ext hQ id)
  have HSv := Lib.hid (HSw.out.ext hQ id)
  have HPv := Lib.hid (HP3w.out.pure hQ)
  have HP2v := Lib.hid (HP2w.out.pure hQ)
  have HOv := Lib.hid (HOw.out.pure hQ)
  clear HDw HTw HNw HSw HP3w HP2w HOw hQ d0 d1 t0 t1 n0 n1 s0 s1 pg
  have HDw := HDv
  clear HDv
  have HTw := HTv
  clear HTv
  have HNw := HNv
  clear HNv
  have HSw := HSv
  clear HSv
  have HP3w := HPv
  clear HPv
  have HP2w := HP2v
  clear HP2v
  have HOw := HOv
  clear HOv
  go_wp2_with fail
  go_ret
  exact ⟨rfl, HPw3.out.pure HP3w.out⟩
end Go.Proofs.Ytkkmppalifjgnaa
