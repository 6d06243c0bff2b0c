import Derived.Test.YtipmbcalnnomjaaGreatDownITu
import Derived.Test.YtipmbcalnnomjaaGreatSqTu
set_option linter.unusedVariables false
set_option linter.unusedSimpArgs false
set_option maxRecDepth 100000
namespace Go.Proofs.YtipmbcalnnomjaaGreat
open Go.RowKit Go.Maps
theorem belP_eq (l : List Ob) (root : Int) (f : Nat) (parent : Int) (page : Bool) (t : Tr) (n : Int) : belP l root f parent page t n =
 (if n = root ∨ t.has n ∨ parentB (obAt l n).v parent = false then none
  else if page && typedO (obAt l n) "Page".toUTF8 then some (⟨t.nodes, t.pages ++ [n]⟩, 1)
  else match f, nodeO (obAt l n) with
   | f + 1, some (kids, count) =>
     match kidsP (belP l root f n (decide (count = kids.length))) (decide (count = kids.length)) kids ⟨t.nodes ++ [n], t.pages⟩ 0 with
     | some (u, s) => if s = count then some (u, s) else none
     | none => none
   | _, _ => none) := by
 conv => lhs; unfold belP
 rfl
set_option maxHeartbeats 8000000 in
theorem down_any (K : DownK) (hK : K.Ok) : ∀ (f : Nat), f ≤ 64 → ∀ (n parent D : Int) (page : Bool) (γ : DownG) (W : World), D = 64 - (f : Int) → (Lit.int .i64 n).wf = true → Seen K γ → DownI K γ W →
 Calls Tryz.prog 63 #[.int .i64 n, .int .i64 parent, .int .i64 D, .bool (!page), .pointer (some ⟨K.tm, 0, none⟩), .pointer (some ⟨K.tf, 0, none⟩), .pointer (some ⟨K.tt, 0, none⟩), .pointer (some ⟨K.td, 0, none⟩)] W (DownTo K γ W (belP K.l K.root f parent page γ.t n)) := by
 intro f0
 induction f0 using Nat.strongRecOn with
 | ind f0 ih =>
 intro hf n parent D page γ W hD hwf hseen hI
 obtain ⟨r, hr⟩ : ∃ z, z = belP K.l K.root f0 parent page γ.t n := ⟨_, rfl⟩
 rw [← hr]
 rw [belP_eq] at hr
 have HR0 := qh hr
 have HIH := qh ih
 have HD := qh hD
 have HWf := qh hwf
 have HSeen := qh hseen
 have HI := qh hI
 have HKo := qh hK
 have hMn := hseen.is n
 obtain ⟨y, hy⟩ : ∃ z, z = γ.M n := ⟨_, rfl⟩
 rw [← hy] at hMn
 have HMn := qh hMn
 have hy0 : 0 ≤ y := by rw [hMn]; split <;> decide
 have hy1 : y ≤ 1 := by rw [hMn]; split <;> decide
 have cm : W.cell? ⟨K.tm, 0, none⟩ = some (.map (some K.B)) := hI.mp.cell 0
 have hrun := hI.lookup hwf
 rw [← hy] at hrun
 have HKm : Hid (γ.k < maxLen) := qh (by have h1 := hseen.few; have h2 := hI.ok.len; have h3 := hK.doc.len; unfold maxLen; omega)
 have HLen : Hid (γ.t.nodes.length + γ.t.pages.length ≤ 5000) := qh (by have h2 := hI.ok.len; have h3 := hK.doc.len; omega)
 have HWy : Hid ((Lit.int .i64 (y + 1)).wf = true) := qh (by
  have : y = 0 ∨ y = 1 := by omega
  rcases this with rfl | rfl <;> decide)
 have HLl : Hid (K.l.length ≤ 1000000) := qh (by have h3 := hK.doc.len; omega)
 clear hD hwf hseen hI hK ih hMn hy hr
 go_enter Tryz.func63, Tryz.ntmps63
 go_wp2_with (at_mapUpdate; refine wpList_mapUpdate_own _ rfl (.tmp 26) (.tmp 27) (.tmp 29) 122 rfl 3 3 lawInt Tryz.underlying122 _ K.B γ.k γ.D rfl HI.out.own HKm.out _ _ _ rfl rfl (keyOf_int_mk Tryz.underlying3 HWf.out) _ [] (plainElem_int Tryz.underlying3 HWy.out) ?_; intro W2 hO2 hg2; have HS2 := qh (HI.out.met HKo.out hO2 hg2); have ct : W2.cell? ⟨K.tf, 0, none⟩ = some (.pointer (some ⟨K.fb, 0, none⟩)) := HS2.out.inv.fl.cell 0)
 clear cm hrun hO2 hg2
 refine (fget_any K.d K.l K.oa K.oc K.root K.rows K.fb K.db n K.w0 W2 HS2.out.inv.base HKo.out.doc.ok HLl.out HS2.out.inv.file).mono ?_
 rintro e W3 ⟨cs, rfl, hL, hP3⟩
 have hr := HR0.out
 clear HR0
 have hsz := HKo.out.doc.at_size n
 have hvw := HKo.out.doc.at_wf n
 obtain ⟨o, ho⟩ : ∃ z, z = obAt K.l n := ⟨_, rfl⟩
 have hin : typedO o "Page".toUTF8 = true → 1 ≤ n ∧ n ≤ K.l.length := fun h => typed_in (by rw [← ho]; exact h)
 have hin2 : ∀ kids c, nodeO o = some (kids, c) → 1 ≤ n ∧ n ≤ K.l.length := fun kids c h => typed_in (by rw [← ho]; exact (node_typed h).1)
 have hkb := fun kids c (h : nodeO o = some (kids, c)) => (node_typed h).2
 have hkw := fun kids c (h : nodeO o = some (kids, c)) => node_wf (show o.v.wf by rw [ho]; exact hvw) h
 rw [← ho] at hr hL hsz ⊢
 have hl : o.v.l.length ≤ 1000000 := by have := V.len_size o.v; omega
 have HN := qh (fun W (hP : Pure K.w0 W) => node_any K.d o cs K.w0 W hP hL hsz)
 have HPa := qh (fun W (hP : Pure K.w0 W) => parented_any K.d o.v cs parent W (hL.pure hP) hl)
 have HPg := qh (fun W (hP : Pure K.w0 W) => page_any K.d o cs W (hL.pure hP) hl)
 obtain ⟨va, vc, vrows, hcs, _⟩ := hL.kids
 rw [hcs] at HN HPa HPg ⊢
 have HS3 := qh (HS2.out.trans (HS2.out.inv.pure hP3))
 obtain ⟨N, hN⟩ : ∃ z, z = nodeO o := ⟨_, rfl⟩
 obtain ⟨P, hP⟩ : ∃ z, z = parentB o.v parent := ⟨_, rfl⟩
 obtain ⟨G, hG⟩ : ∃ z, z = typedO o "Page".toUTF8 := ⟨_, rfl⟩
 unfold NodTo at HN
 rw [← hN] at hr HN hkw hin2 hkb
 rw [← hP] at hr HPa
 rw [← hG] at hr HPg hin
 have HR := qh hr
 have HIn := qh hin
 have HIn2 := qh hin2
 have HKw0 := qh hkw
 have HKb := qh hkb
 clear hcs hL hP3 hsz hvw ho hl hN hP hG hr hin hin2 hkw hkb HS2 ct
 generalize o.v.l.length = vm at *
 generalize o.v.kind = vk at *
 generalize o.v.n = vn at *
 generalize o.v.s = vs at *
 generalize o.st = st at *
 generalize o.data = dt at *
 simp only [List.cons_append, List.nil_append] at HN HPa HPg ⊢
 go_wp2_with fail
 have hP4 := ext_alloc W3 (.cells #[.int .i64 vk, .int .i64 vn, .string vs, .slice va vm vc, .bool st, .string dt] 61)
 have HP4 := qh (HS3.out.inv.base.pure hP4)
 have HS4 := qh (HS3.out.trans (HS3.out.inv.pure hP4))
 have HB4 := qh (BlockIs.new W3 [.int .i64 vk, .int .i64 vn, .string vs, .slice va vm vc, .bool st, .string dt] 61)
 clear hP4
 refine (HN.out _ HP4.out).mono ?_
 rintro e W5 ⟨xa, xm, xc, cn, rfl, hP5, hKk⟩
 have hS5 := HS4.out.trans (HS4.out.inv.pure hP5)
 have hB5 := HB4.out.ext hP5 id
 obtain ⟨b14, hb14⟩ : ∃ z, z = W3.heap.size := ⟨_, rfl⟩
 rw [← hb14] at hB5 ⊢
 have cm : W5.cell? ⟨K.tm, 0, none⟩ = some (.map (some K.B)) := hS5.inv.mp.cell 0
 have hrun := hS5.inv.lookup HWf.out
 rw [show (γ.met n (y + 1)).M n = y + 1 from if_pos rfl] at hrun
 have c0 : W5.cell? ⟨b14, 0, none⟩ = some (.int .i64 vk) := hB5.cell 0
 have c1 : W5.cell? ⟨b14, 1, none⟩ = some (.int .i64 vn) := hB5.cell 1
 have c2 : W5.cell? ⟨b14, 2, none⟩ = some (.string vs) := hB5.cell 2
 have c3 : W5.cell? ⟨b14, 3, none⟩ = some (.slice va vm vc) := hB5.cell 3
 have c4 : W5.cell? ⟨b14, 4, none⟩ = some (.bool st) := hB5.cell 4
 have c5 : W5.cell? ⟨b14, 5, none⟩ = some (.string dt) := hB5.cell 5
 have hlt : b14 < W5.heap.size := hB5.lt
 have HS5 := qh hS5
 have HB5 := qh hB5
 have HKk := qh hKk
 have HKlo0 : Hid (∀ x, (∃ kids q, N = some (kids, q)) → xa = some x → K.R ≤ x.block ∧ (∀ z, γ.a1 = some z → z.block < x.block) ∧ (∀ z, γ.a2 = some z → z.block < x.block)) := qh (fun x hq hx => by
  obtain ⟨kids, q, hN⟩ := hq
  have h1 := (hKk kids q hN).2.2.lt x.block (by rw [hx]; rfl)
  refine ⟨Nat.le_trans HS4.out.inv.rs h1.1, fun z hz => ?_, fun z hz => ?_⟩
  ·have := (HS4.out.inv.lt1 hz).2; omega
  ·have := (HS4.out.inv.lt2 hz).2; omega)
 clear hS5 hB5 hKk hP5 HB4 HP4 hb14 HS3 HN
 by_cases hmet : n = K.root ∨ γ.t.has n
 ·have hy2 : y = 1 := by rw [HMn.out, if_pos hmet]
  have HF : Hid (r = none) := qh (by rw [HR.out]; exact if_pos (by rcases hmet with h | h; exact Or.inl h; exact Or.inr (Or.inl h)))
  subst hy2
  clear hmet
  go_wp2_with fail
  go_ret2
  rw [HF.out]
  exact ⟨0, rfl, HS5.out.ext⟩
 ·have hy2 : y = 0 := by rw [HMn.out, if_neg hmet]
  have HM := qh hmet
  subst hy2
  have HY1 : Hid ((0 : Int) + 1 = 1) := qh rfl
  clear hmet
  go_wp2_with fail
  refine (HPa.out W5 HS5.out.inv.base).mono ?_
  rintro e W6 ⟨rfl, hP6⟩
  have hB6 := HB5.out.ext hP6 id
  have c0 : W6.cell? ⟨b14, 0, none⟩ = some (.int .i64 vk) := hB6.cell 0
  have c1 : W6.cell? ⟨b14, 1, none⟩ = some (.int .i64 vn) := hB6.cell 1
  have c2 : W6.cell? ⟨b14, 2, none⟩ = some (.string vs) := hB6.cell 2
  have c3 : W6.cell? ⟨b14, 3, none⟩ = some (.slice va vm vc) := hB6.cell 3
  have c4 : W6.cell? ⟨b14, 4, none⟩ = some (.bool st) := hB6.cell 4
  have c5 : W6.cell? ⟨b14, 5, none⟩ = some (.string dt) := hB6.cell 5
  have hlt : b14 < W6.heap.size := hB6.lt
  have HS6 := qh (HS5.out.trans (HS5.out.inv.pure hP6))
  have HP6 := qh hP6
  clear hB6 hP6 HB5 cm hrun
  cases P with
  | false =>
    have HF : Hid (r = none) := qh (by rw [HR.out]; exact if_pos (Or.inr (Or.inr rfl)))
    go_wp2_with fail
    go_ret2
    rw [HF.out]
    exact ⟨0, rfl, HS6.out.ext⟩
  | true =>
    have HR2 := qh (HR.out.trans (if_neg (fun h => by
     rcases h with h | h | h
     ·exact HM.out (Or.inl h)
     ·exact HM.out (Or.inr h)
     ·cases h)))
    go_wp2_with fail
    refine (HPg.out W6 HS6.out.inv.base).mono ?_
    rintro e W7 ⟨rfl, hP7⟩
    have HS7 := qh (HS6.out.trans (HS6.out.inv.pure hP7))
    have HP57 := qh (HP6.out.pure hP7)
    clear hP7 HS6 HP6 HPg HPa c0 c1 c2 c3 c4 c5 hlt HS4
    by_cases hpg : page = true ∧ G = true
    ·obtain ⟨rfl, rfl⟩ := hpg
     have HF : Hid (r = some (⟨γ.t.nodes, γ.t.pages ++ [n]⟩, 1)) := qh HR2.out
     have HOkP := qh (HI.out.ok.page (fun h => HM.out (Or.inr h)) (HIn.out rfl))
     have HS8 := qh (HS7.out.trans (HS7.out.inv.pure (ext_alloc W7 (.cells #[.int .i64 n] 3))))
     have HRw : Hid (RowOf (W7.alloc (.cells #[.int .i64 n] 3)) (some ⟨W7.heap.size, 0, none⟩) [.int .i64 n]) := qh (row_at _ rfl rfl)
     have cT7 : W7.cell? ⟨K.tt, 1, none⟩ = some (.slice γ.a2 γ.t.pages.length γ.c2) := HS7.out.inv.tr.cell 1
     have HB1 : Hid ((γ.t.pages.length + 1) * 8 ≤ 140737488355328) := qh (by have := HLen.out; omega)
     have HB2 : Hid (γ.t.pages.length + 1 ≤ maxLen) := qh (by have := HLen.out; unfold maxLen; omega)
     go_wp2_with (at_builtin; refine wpList_append_fresh rfl (.tmp 63) (.tmp 65) 25 rfl K.R 3 (.int .i64 0) 1 8 Tryz.underlying25 infoI rfl (by decide) (.slice γ.a2 γ.t.pages.length γ.c2) γ.t.pages.length (intsV γ.t.pages) rfl HS8.out.inv.row2 (some ⟨W7.heap.size, 0, none⟩) 1 1 [.int .i64 n] rfl (fun e => by cases e) rfl HRw.out (fun u hu => by simp at hu; subst hu; rfl) (γ.t.pages.length + 1) rfl (intsV γ.t.pages ++ [.int .i64 n]) rfl HB1.out HB2.out HS8.out.inv.rs ?_; intro a3 c3 W9 hO9 hg9 hf9; have hT9 := HS8.out.inv.tr.ext (ext_of_grown hg9) (fun e => by have := (HS8.out.inv.row2.lt K.tt e).1; have := HKo.out.htt.1; omega); have cT9 : W9.cell? ⟨K.tt, 1, none⟩ = some (.slice γ.a2 γ.t.pages.length γ.c2) := hT9.cell 1; have fT9 : W9.frozen? ⟨K.tt, 1, none⟩ = false := hT9.free 1)
     go_ret2
     rw [HF.out]
     exact ⟨_, rfl, rfl, HSeen.out.page (n := n) _ rfl, HS8.out.trans (HS8.out.inv.addPage HKo.out hg9 hO9 hf9 HOkP.out)⟩
    ·have HR3 := qh (HR2.out.trans (if_neg (fun h => hpg (by rw [Bool.and_eq_true] at h; exact h))))
     have hway : G = false ∨ (G = true ∧ page = false) := by
      cases G with
      | false => exact Or.inl rfl
      | true =>
        cases page with
        | false => exact Or.inr ⟨rfl, rfl⟩
        | true => exact absurd ⟨rfl, rfl⟩ hpg
     clear hpg
     cases N with
     | none =>
       have HF : Hid (r = none) := qh (by rw [HR3.out]; cases f0 <;> rfl)
       rcases hway with rfl | ⟨rfl, rfl⟩
       all_goals
        simp only [Option.isSome]
        go_wp2_with fail
        go_ret2
        rw [HF.out]
        exact ⟨0, rfl, HS7.out.ext⟩
     | some N =>
       obtain ⟨kids, q⟩ := N
       obtain ⟨hkn, rfl, hkow⟩ := HKk.out kids q rfl
       have HKn : Hid (kids.length = xm) := qh hkn.symm
       have hkn2 : xm ≤ 2048 := by have h := HKb.out kids cn rfl; omega
       have HKow := qh (own_ext hkow HP57.out (fun _ _ => id))
       have HKw := qh (HKw0.out kids cn rfl)
       have HOkN := qh (HI.out.ok.node (fun h => HM.out (Or.inr h)) (HIn2.out kids cn rfl))
       have HKlo := qh (fun x hx => HKlo0.out x ⟨kids, cn, rfl⟩ hx)
       obtain ⟨kn, hkn3⟩ : ∃ z, z = xm := ⟨_, rfl⟩
       rw [← hkn3] at HKn HKow hkn2 ⊢
       clear hkow hkn HKk HKlo0 HIn HIn2 HKw0 HKb hkn3
       by_cases hf00 : f0 = 0
       ·have HF : Hid (r = none) := qh (by rw [HR3.out]; subst hf00; rfl)
        have hD64 : D = 64 := by rw [HD.out, hf00]; rfl
        subst hD64
        clear hf00
        rcases hway with rfl | ⟨rfl, rfl⟩
        all_goals
         simp only [Option.isSome]
         go_wp2_with fail
         go_ret2
         rw [HF.out]
         exact ⟨0, rfl, HS7.out.ext⟩
       ·simp only [Option.isSome]
        rcases hway with rfl | ⟨rfl, rfl⟩
        all_goals
         have hD64 : D < 64 := by have := HD.out; omega
         have hD0 : 0 ≤ D := by have := HD.out; omega
         obtain ⟨f, rfl⟩ : ∃ g, f0 = g + 1 := ⟨f0 - 1, by have := HD.out; omega⟩
         have HIh := qh (fun n parent D page γ W hD hw hs hi => HIH.out f (Nat.lt_succ_self f) (by omega) n parent D page γ W hD hw hs hi)
         have HDf : Hid (D + 1 = 64 - (f : Int)) := qh (by have := HD.out; omega)
         have HS8 := qh (HS7.out.trans (HS7.out.inv.pure (ext_alloc W7 (.cells #[.int .i64 n] 3))))
         have HRw : Hid (RowOf (W7.alloc (.cells #[.int .i64 n] 3)) (some ⟨W7.heap.size, 0, none⟩) [.int .i64 n]) := qh (row_at _ rfl rfl)
         have cT7 : W7.cell? ⟨K.tt, 0, none⟩ = some (.slice γ.a1 γ.t.nodes.length γ.c1) := HS7.out.inv.tr.cell 0
         have HB1 : Hid ((γ.t.nodes.length + 1) * 8 ≤ 140737488355328) := qh (by have := HLen.out; omega)
         have HB2 : Hid (γ.t.nodes.length + 1 ≤ maxLen) := qh (by have := HLen.out; unfold maxLen; omega)
         have HKo7 := qh (show ∀ x, γ.a1 = some x → x.block < W7.heap.size from fun x hx => (HS7.out.inv.lt1 hx).2)
         obtain ⟨one, hone⟩ : ∃ z, (cn == (kn : Int)) = z := ⟨_, rfl⟩
         have HOne : Hid (decide (cn = (kn : Int)) = one) := qh (by rw [← hone]; rfl)
         clear hf
         go_wp2_with (at_builtin; refine wpList_append_fresh rfl (.tmp 76) (.tmp 78) 25 rfl K.R 3 (.int .i64 0) 1 8 Tryz.underlying25 infoI rfl (by decide) (.slice γ.a1 γ.t.nodes.length γ.c1) γ.t.nodes.length (intsV γ.t.nodes) rfl HS8.out.inv.row1 (some ⟨W7.heap.size, 0, none⟩) 1 1 [.int .i64 n] rfl (fun e => by cases e) rfl HRw.out (fun u hu => by simp at hu; subst hu; rfl) (γ.t.nodes.length + 1) rfl (intsV γ.t.nodes ++ [.int .i64 n]) rfl HB1.out HB2.out HS8.out.inv.rs ?_; intro a3 c3 W9 hO9 hg9 hf9; have hT9 := HS8.out.inv.tr.ext (ext_of_grown hg9) (fun e => by have := (HS8.out.inv.row1.lt K.tt e).1; have := HKo.out.htt.1; omega); have cT9 : W9.cell? ⟨K.tt, 0, none⟩ = some (.slice γ.a1 γ.t.nodes.length γ.c1) := hT9.cell 0; have fT9 : W9.frozen? ⟨K.tt, 0, none⟩ = false := hT9.free 0)
         have HS10 := qh (HS8.out.trans (HS8.out.inv.addNode HKo.out hg9 hO9 hf9 (HOkN.out)))
         have HSe := qh (HSeen.out.node (n := n) (0 + 1) HY1.out (a3 := a3) (c3 := c3))
         obtain ⟨γ3, hγ3⟩ : ∃ z : DownG, z = { (γ.met n (0 + 1)) with t := ⟨γ.t.nodes ++ [n], γ.t.pages⟩, a1 := a3, c1 := c3 } := ⟨_, rfl⟩
         obtain ⟨W10, hW10⟩ : ∃ z, z = W9.setCell ⟨K.tt, 0, none⟩ (.slice a3 (γ.t.nodes.length + 1) c3) := ⟨_, rfl⟩
         have HS10 : Hid (Step (DownS K) (DownI K) γ W γ3 W10) := qh (by rw [hγ3, hW10]; exact HS10.out)
         have HSe : Hid (Seen K γ3) := qh (by rw [hγ3]; exact HSe.out)
         have HT3 : Hid (γ3.t = ⟨γ.t.nodes ++ [n], γ.t.pages⟩) := qh (by rw [hγ3])
         have HKr : Hid (∀ γ' Wr, Step (DownS K) (DownI K) γ3 W10 γ' Wr → RowOf Wr xa (intsV kids)) := qh (fun γ' Wr hs => by
          have hr8 := (own_row HKow.out).ext (ext_alloc W7 (.cells #[.int .i64 n] 3)) (fun _ _ => id)
          have hlo : ∀ x, xa = some x → K.R ≤ x.block ∧ x.block < W7.heap.size ∧ (∀ z, γ.a1 = some z → z.block ≠ x.block) ∧ (∀ z, γ.a2 = some z → z.block ≠ x.block) := fun x hx => by
           have h1 := HKow.out.lt x.block (by rw [hx]; rfl)
           refine ⟨HKlo.out x hx |>.1, h1.2, fun z hz e => ?_, fun z hz e => ?_⟩
           ·have h2 := (HKlo.out x hx).2.1 z hz
            omega
           ·have h2 := (HKlo.out x hx).2.2 z hz
            omega
          have hr9 := hr8.ext (ext_of_grown hg9) (fun x hx e => by
           obtain ⟨h1, h2, h3, h4⟩ := hlo x hx
           cases ha : γ.a1 with
           | none => rw [ha] at e; cases e
           | some z => rw [ha] at e; exact h3 z ha (Option.some.inj e))
          have hr10 := hr9.ext (Ext.setCell (S := fun i => i = K.tt) (Ext.refl _ W9) (p := ⟨K.tt, 0, none⟩) (fun _ => rfl) (.slice a3 (γ.t.nodes.length + 1) c3)) (fun x hx e => by
           obtain ⟨h1, h2, h3, h4⟩ := hlo x hx
           have := HKo.out.htt.1
           omega)
          rw [← hW10] at hr10
          refine hr10.ext hs.ext (fun x hx e => ?_)
          obtain ⟨h1, h2, h3, h4⟩ := hlo x hx
          rw [hγ3] at e
          rcases e with e | e | ⟨z, hz, e⟩ | ⟨z, hz, e⟩
          ·have := HKo.out.htt.1; omega
          ·have := HKo.out.hB; omega
          ·rcases hf9 z hz with h5 | h5
           ·cases ha : γ.a1 with
            | none => rw [ha] at h5; cases h5
            | some q => rw [ha] at h5; exact h3 q ha ((Option.some.inj h5).trans e)
           ·rw [World.size_alloc] at h5; omega
          ·exact h4 z hz e)
         rw [← hW10]
         obtain ⟨F, hF⟩ : ∃ z, z = belP K.l K.root f n (decide (cn = (kn : Int))) := ⟨_, rfl⟩
         have HFi : Hid (F = belP K.l K.root f n one) := qh (by rw [hF, HOne.out])
         have HFk : Hid (∀ (t : Tr) (k : Int) (u : Tr) (m : Int), t.Ok K.l → F t k = some (u, m) → u.Ok K.l ∧ 1 ≤ m) := qh (by rw [hF]; exact fun t k u m ht h => belP_ok K.l K.root f n _ t k u m ht h)
         have HFl : Hid (∀ (t : Tr) (k : Int) (u : Tr) (m : Int), F t k = some (u, m) → (u.pages.length : Int) = t.pages.length + m) := qh (by rw [hF]; exact fun t k u m h => belP_len K.l K.root f n _ t k u m h)
         have HRk : Hid (r = match kidsP F one kids γ3.t 0 with
          | some (u, s) => if s = cn then some (u, s) else none
          | none => none) := qh (by
            rw [HR3.out, HT3.out, hF]
            simp only [HKn.out, HOne.out])
         have HSt0 : Hid (Step (DownS K) (DownI K) γ3 W10 γ3 W10) := qh (HS10.out.inv.pure (Ext.refl _ _))
         clear hg9 hO9 hf9 hT9 cT9 fT9 hγ3 hW10 hF cT7 HR3 HB1 HB2 HRw HS8 HS7 HKow HKlo HKo7
         go_loopw [21, 87] (fun s i wr => ∃ (k : Nat) (γ' : DownG) (m : Int), k ≤ kn ∧ i = .int .i64 k ∧ s = .int .i64 m ∧ 0 ≤ m ∧ m ≤ 5000 ∧ Hid (kidsP F one (kids.take k) γ3.t 0 = some (γ'.t, m)) ∧ Hid (Seen K γ') ∧ Hid (Step (DownS K) (DownI K) γ3 W10 γ' wr)) (fun _ i _ => kn - (intOf i).toNat)
         case atStart => exact ⟨0, γ3, 0, Nat.zero_le _, rfl, rfl, Int.le_refl _, by omega, qh (by rw [List.take_zero]; rfl), HSe, HSt0⟩
         case round =>
          obtain ⟨k, γ', m, hk, rfl, rfl, hm0, hm1, HP, HSe', HSt⟩ := hrel
          by_cases hlt : k < kn
          ·have hki : (k : Int) < (kn : Int) := by omega
           obtain ⟨x, hx⟩ : ∃ x, kids[k]? = some x := ⟨_, List.getElem?_eq_getElem (by rw [HKn.out]; exact hlt)⟩
           obtain ⟨b, o, hxa, hcx⟩ := HKr.out γ' wr HSt.out k (.int .i64 x) (by rw [intsV, List.getElem?_map, hx]; rfl)
           have hwx : Hid ((Lit.int .i64 x).wf = true) := qh (HKw.out x (List.mem_of_getElem? hx))
           subst hxa
           have cd : wr.cell? ⟨K.td, 0, none⟩ = some (.func (.func 63) #[] #[.pointer (some ⟨K.tm, 0, none⟩), .pointer (some ⟨K.tf, 0, none⟩), .pointer (some ⟨K.tt, 0, none⟩), .pointer (some ⟨K.td, 0, none⟩)]) := HSt.out.inv.dn.cell 0
           have HSn := qh (kidsP_snoc hx HP.out)
           have HCall := qh (HIh.out x n (D + 1) one γ' wr HDf.out hwx.out HSe'.out HSt.out.inv)
           rw [← HFi.out] at HCall
           obtain ⟨q, hq⟩ : ∃ z, z = F γ'.t x := ⟨_, rfl⟩
           rw [← hq] at HCall HSn
           have HQ := qh hq
           clear hx hq
           go_wp2_with fail
           refine HCall.out.mono ?_
           cases q with
           | none =>
             have HF : Hid (r = none) := qh (by rw [HRk.out, kidsP_none (k := k + 1) HSn.out])
             rintro e W11 ⟨z, rfl, hPz⟩
             go_wp2_with fail
             go_ret2
             rw [HF.out]
             exact ⟨_, rfl, HS10.out.trans_ext (HSt.out.trans_ext hPz)⟩
           | some q =>
             obtain ⟨u, q⟩ := q
             rintro e W11 ⟨γ4, rfl, hu, hSe4, hSt4⟩
             have hok4 := HFk.out γ'.t x u q HSt.out.inv.ok HQ.out.symm
             have hq1 : 1 ≤ q := hok4.2
             have HSt4 := qh (HSt.out.trans hSt4)
             have HSe4 := qh hSe4
             have HU := qh hu
             clear hu hok4 hSe4 hSt4
             by_cases hbad : one = true ∧ ¬ q = 1
             ·obtain ⟨rfl, hq2⟩ := hbad
              have hqb : (q != 1) = true := by simpa using hq2
              have HF : Hid (r = none) := qh (by
               rw [HRk.out, kidsP_none (k := k + 1) (HSn.out.trans (if_pos ⟨rfl, hq2⟩))])
              go_wp2_with fail
              go_ret2
              rw [HF.out]
              exact ⟨_, rfl, (HS10.out.trans HSt4.out).ext⟩
             ·have HSn2 : Hid (kidsP F one (kids.take (k + 1)) γ3.t 0 = some (u, m + q)) := qh (HSn.out.trans (if_neg (fun h => hbad ⟨h.1, h.2⟩)))
              have hmq : m + q ≤ 5000 := by
               have h1 := kidsP_len HFl.out _ _ _ _ _ HSn2.out
               have h2 := HSt4.out.inv.ok.len
               rw [HU.out] at h2
               have h3 := HKo.out.doc.len
               omega
              have hway : one = false ∨ (one = true ∧ q = 1) := by
               cases one with
               | false => exact Or.inl rfl
               | true => exact Or.inr ⟨rfl, Decidable.byContradiction fun h => hbad ⟨rfl, h⟩⟩
              clear hbad
              rcases hway with rfl | ⟨rfl, rfl⟩
              all_goals
               go_wp2_with fail
               go_roundw
               case rel => exact ⟨k + 1, γ4, _, by omega, by go_num, rfl, by omega, hmq, qh (by rw [HSn2.out, HU.out]), HSe4, HSt4⟩
               case measure => simp [intOf]; omega
          ·have hki : ¬ (k : Int) < (kn : Int) := by omega
           have HPa : Hid (kidsP F one kids γ3.t 0 = some (γ'.t, m)) := qh (by have h := HP.out; rwa [List.take_of_length_le (by rw [HKn.out]; omega)] at h)
           have HF : Hid (r = if m = cn then some (γ'.t, m) else none) := qh (by rw [HRk.out, HPa.out])
           by_cases hmc : m = cn
           ·have HFr : Hid (r = some (γ'.t, m)) := qh (by rw [HF.out, if_pos hmc])
            subst hmc
            go_wp2_with fail
            go_ret2
            rw [HFr.out]
            refine ⟨γ', by simp, rfl, HSe'.out, HS10.out.trans HSt.out⟩
           ·have HFr : Hid (r = none) := qh (by rw [HF.out, if_neg hmc])
            go_wp2_with fail
            go_ret2
            rw [HFr.out]
            exact ⟨m, by simp [hmc], (HS10.out.trans HSt.out).ext⟩
theorem run_store_func (P : Program) (w : World) (a : Addr) (m : Mode) (f : Fn) (xs ys : Array Value) : (store a (.func f xs ys) m).run P w = stored P w a (.func f xs ys) m := run_store P w a _ m rfl
attribute [local go_sem] run_store_func
theorem size31 : (Tryz.prog.info? 85).map (·.size) = some 2 := by kernel_rfl
theorem one2s (a : Option Addr) (m c : Nat) (b : Option Addr) (q r : Nat) : ((#[Value.slice a m c, .slice b q r] : Array Value).all fun u => u.oneCell') = true := all_oneCell_toArray (by intro u hu; simp only [List.mem_cons, List.not_mem_nil, or_false] at hu; rcases hu with rfl | rfl <;> rfl)
theorem walk_root (l : List Ob) (root : Int) : walkP l root = match rootO (obAt l root) with
 | some n => (match belP l root 64 0 false ⟨[], []⟩ n with
   | some (t, _) => (t, 0)
   | none => (⟨[], []⟩, 24))
 | none => (⟨[], []⟩, 23) := by
 unfold walkP rootO
 split <;> rfl
theorem rootO_n {o : Ob} {n : Int} (h : rootO o = some n) : n = (o.v.get "Pages".toUTF8).1.n := by
 unfold rootO at h
 split at h
 ·cases h; rfl
 ·cases h
def WkTo (r : Tr × Int) (w : World) (e : Ending) (w' : World) : Prop :=
 ∃ a1 c1 a2 c2, e = .returned (.tuple #[.agg #[.slice a1 r.1.nodes.length c1, .slice a2 r.1.pages.length c2], .int .i64 r.2]) ∧ Pure w w' ∧ RowOf w' a1 (intsV r.1.nodes) ∧ RowOf w' a2 (intsV r.1.pages) ∧ r.1.nodes.length ≤ 5000 ∧ r.1.pages.length ≤ 5000 ∧ (a1 = none → c1 = 0) ∧ (a2 = none → c2 = 0) ∧ r.1.nodes.length ≤ c1 ∧ c1 ≤ maxLen ∧ r.1.pages.length ≤ c2 ∧ c2 ≤ maxLen
set_option maxHeartbeats 4000000 in
theorem walk_docs (d : Nat) (l : List Ob) (oa : Option Addr) (oc : Nat) (rows : List (List Value)) (root : Int) (w : World) (hD : DocOk w d l oa rows root) :
 Calls Tryz.prog 36 #[.agg #[.slice oa l.length oc, .int .i64 root]] w (WkTo (walkP l root) w) := by
 have hmm := @run_makeMap Tryz.prog
 obtain ⟨r, hr⟩ : ∃ z, z = walkP l root := ⟨_, rfl⟩
 rw [← hr]
 rw [walk_root] at hr
 obtain ⟨n, hn⟩ : ∃ z, z = l.length := ⟨_, rfl⟩
 rw [← hn]
 have HOf := qh (fun W => of_any oa n oc root W)
 have HN := qh hn
 have HD := qh hD
 have HR := qh hr
 clear hn hD hr
 go_enter Tryz.func36, Tryz.ntmps36
 go_wp2_with fail
 refine (HOf.out _).mono ?_
 rintro e w2 ⟨fb, db, rfl, hdb, hfb, hF, hP2⟩
 obtain ⟨tb, htb⟩ : ∃ z, z = w.heap.size := ⟨_, rfl⟩
 have hB1 : BlockIs w2 tb [.slice oa n oc, .int .i64 root] 24 := by rw [htb]; exact ((BlockIs.new w [.slice oa n oc, .int .i64 root] 24).alloc _).ext hP2 id
 have hB2 : BlockIs w2 (tb + 1) [.slice none 0 0, .slice none 0 0] 85 := by
  have h := (BlockIs.new (w.alloc (.cells #[.slice oa n oc, .int .i64 root] 24)) [.slice none 0 0, .slice none 0 0] 85).ext hP2 id
  rwa [World.size_alloc, ← htb] at h
 have hPw : Pure w w2 := ((ext_alloc w _).pure (ext_alloc _ _)).pure hP2
 have hdb2 : tb + 2 ≤ db := by rw [World.size_alloc, World.size_alloc, ← htb] at hdb; omega
 rw [← htb]
 have HTb := qh htb
 have hfb2 : fb < w2.heap.size := hF.f.lt
 have HF := qh hF
 have HHb := qh hfb
 have HDb := qh hdb2
 have HFb2 := qh hfb2
 have HB1 := qh hB1
 have HB2 := qh hB2
 have HPw := qh hPw
 have hlt : tb < w2.heap.size := hB1.lt
 have c1 : w2.cell? ⟨tb, 1, none⟩ = some (.int .i64 root) := hB1.cell 1
 have hl1 : tb < w2.heap.size + 1 := by omega
 have hl2 : tb < w2.heap.size + 1 + 1 := by omega
 have hl3 : tb < w2.heap.size + 1 + 1 + 1 := by omega
 have hl4 : tb < w2.heap.size + 1 + 1 + 1 + 1 := by omega
 clear hP2 hdb hfb hF hB1 hB2 hPw hdb2 hfb2 HOf htb
 go_wp2_with fail
 obtain ⟨w3, hw3⟩ : ∃ z, z = (((((w2.alloc (.cells #[.pointer (some ⟨fb, 0, none⟩)] 53)).alloc (.cells #[.slice none 0 0, .slice none 0 0] 85)).alloc (.map #[] 0)).alloc (.cells #[.map (some (w2.heap.size + 1 + 1))] 122)).alloc (.cells #[.func (.func 63) #[] #[.pointer (some ⟨w2.heap.size + 1 + 1 + 1, 0, none⟩), .pointer (some ⟨w2.heap.size, 0, none⟩), .pointer (some ⟨w2.heap.size + 1, 0, none⟩), .pointer (some ⟨w2.heap.size + 1 + 1 + 1 + 1, 0, none⟩)]] 123)) := ⟨_, rfl⟩
 obtain ⟨tf, htf⟩ : ∃ z, z = w2.heap.size := ⟨_, rfl⟩
 obtain ⟨K, hK⟩ : ∃ z : DownK, z = ⟨w, d, l, oa, oc, rows, root, fb, db, tf + 1 + 1 + 1, tf, tf + 1, tf + 1 + 1 + 1 + 1, tf + 1 + 1, tf + 5⟩ := ⟨_, rfl⟩
 have hP3 : Pure w2 w3 := by rw [hw3]; exact ((((ext_alloc w2 _).pure (ext_alloc _ _)).pure (ext_alloc _ _)).pure (ext_alloc _ _)).pure (ext_alloc _ _)
 have s3 : w3.heap.size = tf + 5 := by rw [hw3, World.size_alloc, World.size_alloc, World.size_alloc, World.size_alloc, World.size_alloc, ← htf]
 have bf : BlockIs w3 tf [.pointer (some ⟨fb, 0, none⟩)] 53 := by
  rw [hw3, htf]; exact ((((BlockIs.new w2 [.pointer (some ⟨fb, 0, none⟩)] 53).alloc _).alloc _).alloc _).alloc _
 have bt : BlockIs w3 (tf + 1) [.slice none 0 0, .slice none 0 0] 85 := by
  have h := (((BlockIs.new (w2.alloc (.cells #[.pointer (some ⟨fb, 0, none⟩)] 53)) [.slice none 0 0, .slice none 0 0] 85).alloc (.map #[] 0)).alloc (.cells #[.map (some (w2.heap.size + 1 + 1))] 122)).alloc (.cells #[.func (.func 63) #[] #[.pointer (some ⟨w2.heap.size + 1 + 1 + 1, 0, none⟩), .pointer (some ⟨w2.heap.size, 0, none⟩), .pointer (some ⟨w2.heap.size + 1, 0, none⟩), .pointer (some ⟨w2.heap.size + 1 + 1 + 1 + 1, 0, none⟩)]] 123)
  rw [World.size_alloc, ← htf] at h
  rw [hw3, ← htf]; exact h
 have bm : BlockIs w3 (tf + 1 + 1 + 1) [.map (some (tf + 1 + 1))] 122 := by
  have h := (BlockIs.new (((w2.alloc (.cells #[.pointer (some ⟨fb, 0, none⟩)] 53)).alloc (.cells #[.slice none 0 0, .slice none 0 0] 85)).alloc (.map #[] 0)) [.map (some (w2.heap.size + 1 + 1))] 122).alloc (.cells #[.func (.func 63) #[] #[.pointer (some ⟨w2.heap.size + 1 + 1 + 1, 0, none⟩), .pointer (some ⟨w2.heap.size, 0, none⟩), .pointer (some ⟨w2.heap.size + 1, 0, none⟩), .pointer (some ⟨w2.heap.size + 1 + 1 + 1 + 1, 0, none⟩)]] 123)
  rw [World.size_alloc, World.size_alloc, World.size_alloc, ← htf] at h
  rw [hw3, ← htf]; exact h
 have bd : BlockIs w3 (tf + 1 + 1 + 1 + 1) [.func (.func 63) #[] K.caps] 123 := by
  have h := BlockIs.new ((((w2.alloc (.cells #[.pointer (some ⟨fb, 0, none⟩)] 53)).alloc (.cells #[.slice none 0 0, .slice none 0 0] 85)).alloc (.map #[] 0)).alloc (.cells #[.map (some (w2.heap.size + 1 + 1))] 122)) [.func (.func 63) #[] #[.pointer (some ⟨w2.heap.size + 1 + 1 + 1, 0, none⟩), .pointer (some ⟨w2.heap.size, 0, none⟩), .pointer (some ⟨w2.heap.size + 1, 0, none⟩), .pointer (some ⟨w2.heap.size + 1 + 1 + 1 + 1, 0, none⟩)]] 123
  rw [World.size_alloc, World.size_alloc, World.size_alloc, World.size_alloc, ← htf] at h
  rw [hw3, hK, ← htf]; exact h
 have bo : w3.ownsMap Tryz.prog 3 (plainElem (H := Unit) Tryz.prog 3) (tf + 1 + 1) 0 (.map []) := by
  have h : ((w2.alloc (.cells #[.pointer (some ⟨fb, 0, none⟩)] 53)).alloc (.cells #[.slice none 0 0, .slice none 0 0] 85) |>.alloc (.map #[] 0)).ownsMap Tryz.prog 3 (plainElem (H := Unit) Tryz.prog 3) _ 0 (.map []) := World.ownsMap_made _ _ _ _
  rw [World.size_alloc, World.size_alloc, ← htf] at h
  rw [hw3, ← htf]; exact own_map_ext h ((ext_alloc _ _).pure (ext_alloc _ _)) id
 have hKok : K.Ok := by
  rw [hK]
  have h1 := HTb.out
  have h2 := HHb.out
  have h3 := HDb.out
  have h4 := HFb2.out
  exact ⟨HD.out, by show w.heap.size ≤ tf + 1; omega, by show w.heap.size ≤ tf + 1 + 1; omega, by show w.heap.size ≤ tf + 5; omega, by show fb < tf + 5 ∧ fb ≠ tf + 1 ∧ fb ≠ tf + 1 + 1; omega, by show db < tf + 5 ∧ db ≠ tf + 1 ∧ db ≠ tf + 1 + 1; omega, by show tf + 1 + 1 + 1 < tf + 5 ∧ tf + 1 + 1 + 1 ≠ tf + 1 ∧ tf + 1 + 1 + 1 ≠ tf + 1 + 1; omega, by show tf < tf + 5 ∧ tf ≠ tf + 1 ∧ tf ≠ tf + 1 + 1; omega, by show tf + 1 + 1 + 1 + 1 < tf + 5 ∧ tf + 1 + 1 + 1 + 1 ≠ tf + 1 ∧ tf + 1 + 1 + 1 + 1 ≠ tf + 1 + 1; omega, by show tf + 1 < tf + 5 ∧ tf + 1 ≠ tf + 1 + 1; omega, by show tf + 1 + 1 < tf + 5; omega⟩
 have hI3 : DownI K ⟨⟨[], []⟩, fun _ => 0, none, 0, none, 0, 0, .map []⟩ w3 := by
  have hf := HF.out.ext hP3 id id
  rw [HN.out] at hf
  rw [hK] at bd
  rw [hK]
  exact ⟨HPw.out.pure hP3, hf, bm, bf, bt, bd, bo, World.ownsRow_nil _ _ _ _, World.ownsRow_nil _ _ _ _, fun x y hx => (by cases hx), isMap_empty, fun x => (by kernel_rfl), (by show tf + 5 ≤ w3.heap.size; omega), Tr.ok_nil _⟩
 rw [← hw3, ← htf]
 have HKok := qh hKok
 have HI3 := qh hI3
 have HB13 := qh (HB1.out.ext hP3 id)
 have HB23 := qh (HB2.out.ext hP3 id)
 have HTf : Hid (tb + 1 < tf) := qh (by rw [htf]; have h2 := HHb.out; have h3 := HDb.out; have h4 := HFb2.out; omega)
 have HS3 := qh s3
 have hkl : K.l = l := by rw [hK]
 have HGet := qh (fun W (h : DownI K ⟨⟨[], []⟩, fun _ => 0, none, 0, none, 0, 0, .map []⟩ W) => fget_any d l oa oc root rows fb db root w W (by have := h.base; rw [hK] at this; exact this) HD.out.ok (by have := HD.out.len; omega) (by have := h.file; rw [hK] at this; exact this))
 have HKe := qh hK
 clear HB1 HB2 hl1 hl2 hl3 hl4 hK hw3 htf hP3 bf bt bm bd bo hKok hI3 s3 hkl c1 hlt HF HHb HDb HFb2
 refine (HGet.out w3 HI3.out).mono ?_
 rintro e w4 ⟨cs, rfl, hL, hP4⟩
 have hsz := HD.out.at_size root
 have hvw := HD.out.at_wf root
 have hr := HR.out
 obtain ⟨o, ho⟩ : ∃ z, z = obAt l root := ⟨_, rfl⟩
 rw [← ho] at hr hL hsz hvw ⊢
 have hl : o.v.l.length ≤ 1000000 := by have := V.len_size o.v; omega
 have HRt := qh (fun W (hP : Pure w W) => root_any d o cs W (hL.pure hP) hl)
 obtain ⟨va, vc, vrows, hcs, _⟩ := hL.kids
 rw [hcs] at HRt ⊢
 obtain ⟨rt, hrt⟩ : ∃ z, z = rootO o := ⟨_, rfl⟩
 have HWn : Hid (∀ m, rt = some m → (Lit.int .i64 m).wf = true) := qh (fun m h => by rw [rootO_n (hrt.symm.trans h)]; exact (hvw.get _).n)
 rw [← hrt] at hr HRt
 have HR2 := qh hr
 have HI4 := qh (HI3.out.keep hP4)
 have HB14 := qh (HB13.out.ext hP4 id)
 have HB24 := qh (HB23.out.ext hP4 id)
 have HZ4 : Hid (tf + 5 ≤ w4.heap.size) := qh (by have h1 := hP4.size; have h2 := HS3.out; omega)
 clear hcs hL hP4 hsz hvw ho hl hrt hr HGet HR HI3 HB13 HB23 HS3
 generalize o.v.l.length = vm at *
 generalize o.v.kind = vk at *
 generalize o.v.n = vn at *
 generalize o.v.s = vs at *
 generalize o.st = st at *
 generalize o.data = dt at *
 simp only [List.cons_append, List.nil_append] at HRt ⊢
 go_wp2_with fail
 have hP5 := ext_alloc w4 (.cells #[.int .i64 vk, .int .i64 vn, .string vs, .slice va vm vc, .bool st, .string dt] 61)
 have HPk : Hid (∀ W, DownI K ⟨⟨[], []⟩, fun _ => 0, none, 0, none, 0, 0, .map []⟩ W → Pure w W) := qh (fun W h => by have := h.base; rw [HKe.out] at this; exact this)
 refine (HRt.out _ (HPk.out _ (HI4.out.keep hP5))).mono ?_
 unfold RootTo
 rintro e w6 ⟨rfl, hP6⟩
 have HI6 := qh ((HI4.out.keep hP5).keep hP6)
 have hB1 := (HB14.out.ext hP5 id).ext hP6 id
 have hB2 := (HB24.out.ext hP5 id).ext hP6 id
 have hZ6 : tf + 5 ≤ w6.heap.size := by have h1 := hP6.size; rw [World.size_alloc] at h1; have h2 := HZ4.out; omega
 have hPw := HPk.out _ HI6.out
 clear hP5 hP6 HI4 HB14 HB24 HZ4 HRt
 cases rt with
 | none =>
   have HF : Hid (r = (⟨[], []⟩, 23)) := qh HR2.out
   simp only [Option.getD, Option.isSome]
   have HTh : Hid (w6.there (tb + 1) 0 (#[.slice none 0 0, .slice none 0 0] : Array Value).size) := qh (hB2.there 2 rfl)
   have HSi : Hid ((Tryz.prog.info? 85).map (·.size) = some (#[.slice none 0 0, .slice none 0 0] : Array Value).size) := qh size31
   have HOn : Hid (((#[.slice none 0 0, .slice none 0 0] : Array Value).all fun u => u.oneCell') = true) := qh (one2s _ _ _ _ _ _)
   have HB9 := qh (hB2.setAll [.slice none 0 0, .slice none 0 0] rfl)
   have HP9 : Hid (Pure w (w6.setCells (tb + 1) 0 [.slice none 0 0, .slice none 0 0])) := qh (Ext.setCells _ 0 _ hPw (b := tb + 1) (fun h => by have := HTb.out; omega))
   have HX9 : Hid (Ext (fun k => k = tb + 1) w6 (w6.setCells (tb + 1) 0 [.slice none 0 0, .slice none 0 0])) := qh (Ext.setCells _ 0 _ (Ext.refl _ _) (b := tb + 1) (fun _ => rfl))
   clear hB2 hPw
   go_wp2_with (first
    | (with_reducible refine at_store 85 (.tmp 2) (.tmp 34) ?_; refine wpList_store_mid rfl 85 (.tmp 2) (.tmp 34) rfl (tb + 1) 0 #[.slice none 0 0, .slice none 0 0] rfl rfl HTh.out HSi.out HOn.out ?_))
   refine bodyPost_ret (results_row2 rfl _ _ (tb + 1) _ [.slice none 0 0, .slice none 0 0] _ rfl HB9.out Tryz.underlying85 rfl size31) rfl ?_
   exact ⟨none, 0, none, 0, by rw [HF.out]; rfl, HP9.out, by rw [HF.out]; exact row_nil _ _, by rw [HF.out]; exact row_nil _ _, by rw [HF.out]; exact Nat.zero_le _, by rw [HF.out]; exact Nat.zero_le _, fun _ => rfl, fun _ => rfl, by rw [HF.out]; exact Nat.le_refl _, Nat.zero_le _, by rw [HF.out]; exact Nat.le_refl _, Nat.zero_le _⟩
 | some nn =>
   simp only [Option.getD, Option.isSome]
   have c1 : w6.cell? ⟨tb, 1, none⟩ = some (.int .i64 root) := hB1.cell 1
   have cm : w6.cell? ⟨tf + 1 + 1 + 1, 0, none⟩ = some (.map (some (tf + 1 + 1))) := by have h := HI6.out.mp.cell 0; rw [HKe.out] at h; exact h
   have hrun := HI6.out.lookup HD.out.root
   rw [show K.B = tf + 1 + 1 by rw [HKe.out]] at hrun
   have HOw : Hid (w6.ownsMap Tryz.prog 3 (plainElem (H := Unit) Tryz.prog 3) (tf + 1 + 1) 0 (.map [])) := qh (by have h := HI6.out.own; rw [HKe.out] at h; exact h)
   have HB2 := qh hB2
   clear hB1 hB2 hPw
   go_wp2_with (at_mapUpdate; refine wpList_mapUpdate_own _ rfl (.tmp 35) (.tmp 37) (.tmp 39) 122 rfl 3 3 lawInt Tryz.underlying122 _ (tf + 1 + 1) 0 (.map []) rfl HOw.out (by decide) _ _ _ rfl rfl (keyOf_int_mk Tryz.underlying3 HD.out.root) _ [] (plainElem_int Tryz.underlying3 (show (Lit.int .i64 1).wf = true by decide)) ?_; intro w7 hO7 hg7; have HS7 := qh (HI6.out.met HKok.out (n := root) (y := 1) (by rw [show K.B = tf + 1 + 1 by rw [HKe.out]]; exact hO7) (by rw [show K.B = tf + 1 + 1 by rw [HKe.out]]; exact hg7)); have cd : w7.cell? ⟨tf + 1 + 1 + 1 + 1, 0, none⟩ = some (.func (.func 63) #[] #[.pointer (some ⟨tf + 1 + 1 + 1, 0, none⟩), .pointer (some ⟨tf, 0, none⟩), .pointer (some ⟨tf + 1, 0, none⟩), .pointer (some ⟨tf + 1 + 1 + 1 + 1, 0, none⟩)]) := by have h := HS7.out.inv.dn.cell 0; rw [HKe.out] at h; exact h)
   have HSe : Hid (Seen K (DownG.met ⟨⟨[], []⟩, fun _ => 0, none, 0, none, 0, 0, .map []⟩ root 1)) := qh ⟨fun x => by
    show (if x = root then (1 : Int) else 0) = _
    have e : K.root = root := by rw [HKe.out]
    rw [e]
    by_cases h : x = root
    ·rw [if_pos h, if_pos (Or.inl h)]
    ·rw [if_neg h, if_neg (fun h2 => h2.elim h (fun h3 => by simp [DownG.met, Tr.has] at h3))], Nat.le_refl _⟩
   have HCall := down_any K HKok.out 64 (Nat.le_refl _) nn 0 0 false _ w7 (by decide) (HWn.out nn rfl) HSe.out HS7.out.inv
   obtain ⟨q, hq⟩ : ∃ z, z = belP l root 64 0 false ⟨[], []⟩ nn := ⟨_, rfl⟩
   have hq2 : belP K.l K.root 64 0 false (DownG.met ⟨⟨[], []⟩, fun _ => 0, none, 0, none, 0, 0, .map []⟩ root 1).t nn = q := by rw [hq, show K.l = l by rw [HKe.out], show K.root = root by rw [HKe.out]]; rfl
   rw [hq2] at HCall
   have hr2 := HR2.out
   rw [← hq] at hr2
   have hnS : ¬ DownS K (DownG.met ⟨⟨[], []⟩, fun _ => 0, none, 0, none, 0, 0, .map []⟩ root 1) (tb + 1) := by
    rw [HKe.out]
    have h1 := HTf.out
    rintro (h | h | ⟨x, hx, _⟩ | ⟨x, hx, _⟩)
    ·have h2 : tb + 1 = tf + 1 := h
     omega
    ·have h2 : tb + 1 = tf + 1 + 1 := h
     omega
    ·cases hx
    ·cases hx
   have HB27 := qh (HB2.out.ext HS7.out.ext hnS)
   have HnS := qh hnS
   rw [show K.tm = tf + 1 + 1 + 1 by rw [HKe.out], show K.tf = tf by rw [HKe.out], show K.tt = tf + 1 by rw [HKe.out], show K.td = tf + 1 + 1 + 1 + 1 by rw [HKe.out]] at HCall
   have HC := qh HCall
   have HR3 := qh hr2
   have HPw7 : Hid (Pure w w7) := qh (by have h := HS7.out.inv.base; rw [HKe.out] at h; exact h)
   clear HCall hq hq2 hr2 hnS HB2 c1 cm hrun HOw hO7 hg7 HR2
   refine HC.out.mono ?_
   cases q with
   | none =>
     rintro e w8 ⟨x, rfl, hE8⟩
     have HF : Hid (r = (⟨[], []⟩, 24)) := qh HR3.out
     have hB2 := HB27.out.ext hE8 HnS.out
     have hPw : Pure w w8 := HPw7.out.trans hE8 (fun i hi hs => by
      have h1 := HS7.out.inv.above HKok.out hs
      rw [HKe.out] at h1
      have h2 : w.heap.size ≤ i := h1
      omega)
     clear hE8 cd
     have HTh : Hid (w8.there (tb + 1) 0 (#[.slice none 0 0, .slice none 0 0] : Array Value).size) := qh (hB2.there 2 rfl)
     have HSi : Hid ((Tryz.prog.info? 85).map (·.size) = some (#[.slice none 0 0, .slice none 0 0] : Array Value).size) := qh size31
     have HOn : Hid (((#[.slice none 0 0, .slice none 0 0] : Array Value).all fun u => u.oneCell') = true) := qh (one2s _ _ _ _ _ _)
     have HB9 := qh (hB2.setAll [.slice none 0 0, .slice none 0 0] rfl)
     have HP9 : Hid (Pure w (w8.setCells (tb + 1) 0 [.slice none 0 0, .slice none 0 0])) := qh (Ext.setCells _ 0 _ hPw (b := tb + 1) (fun h => by have := HTb.out; omega))
     have HX9 : Hid (Ext (fun k => k = tb + 1) w8 (w8.setCells (tb + 1) 0 [.slice none 0 0, .slice none 0 0])) := qh (Ext.setCells _ 0 _ (Ext.refl _ _) (b := tb + 1) (fun _ => rfl))
     clear hB2 hPw
     go_wp2_with (first
      | (with_reducible refine at_store 85 (.tmp 2) (.tmp 48) ?_; refine wpList_store_mid rfl 85 (.tmp 2) (.tmp 48) rfl (tb + 1) 0 #[.slice none 0 0, .slice none 0 0] rfl rfl HTh.out HSi.out HOn.out ?_))
     refine bodyPost_ret (results_row2 rfl _ _ (tb + 1) _ [.slice none 0 0, .slice none 0 0] _ rfl HB9.out Tryz.underlying85 rfl size31) rfl ?_
     exact ⟨none, 0, none, 0, by rw [HF.out]; rfl, HP9.out, by rw [HF.out]; exact row_nil _ _, by rw [HF.out]; exact row_nil _ _, by rw [HF.out]; exact Nat.zero_le _, by rw [HF.out]; exact Nat.zero_le _, fun _ => rfl, fun _ => rfl, by rw [HF.out]; exact Nat.le_refl _, Nat.zero_le _, by rw [HF.out]; exact Nat.le_refl _, Nat.zero_le _⟩
   | some q =>
     obtain ⟨u, m⟩ := q
     rintro e w8 ⟨γ, rfl, hu, hse, hst⟩
     have HF : Hid (r = (u, 0)) := qh HR3.out
     have hB2 := HB27.out.ext hst.ext HnS.out
     have hPw : Pure w w8 := by have h := hst.inv.base; rw [HKe.out] at h; exact h
     obtain ⟨t, M, a1, x1, a2, x2, kk, DD⟩ := γ
     simp only at hu
     subst hu
     have HT8 : Hid (BlockIs w8 (tf + 1) [.slice a1 t.nodes.length x1, .slice a2 t.pages.length x2] 85) := qh (by have h := hst.inv.tr; rw [HKe.out] at h; exact h)
     have q0 : w8.cell? ⟨tf + 1, 0, none⟩ = some (.slice a1 t.nodes.length x1) := HT8.out.cell 0
     have q1 : w8.cell? ⟨tf + 1, 1, none⟩ = some (.slice a2 t.pages.length x2) := HT8.out.cell 1
     have HR1 : Hid (w8.ownsRow (tf + 5) 3 1 (.slice a1 t.nodes.length x1) t.nodes.length (intsV t.nodes)) := qh (by have h := hst.inv.row1; rw [show K.R = tf + 5 by rw [HKe.out]] at h; exact h)
     have HR2 : Hid (w8.ownsRow (tf + 5) 3 1 (.slice a2 t.pages.length x2) t.pages.length (intsV t.pages)) := qh (by have h := hst.inv.row2; rw [show K.R = tf + 5 by rw [HKe.out]] at h; exact h)
     have HLn : Hid (t.nodes.length + t.pages.length ≤ 5000) := qh (by have h := hst.inv.ok.len; rw [HKe.out] at h; have h2 := HD.out.len; simp only at h; omega)
     clear hst hse cd HT8
     have HTh : Hid (w8.there (tb + 1) 0 (#[.slice a1 t.nodes.length x1, .slice a2 t.pages.length x2] : Array Value).size) := qh (hB2.there 2 rfl)
     have HSi : Hid ((Tryz.prog.info? 85).map (·.size) = some (#[.slice a1 t.nodes.length x1, .slice a2 t.pages.length x2] : Array Value).size) := qh size31
     have HOn : Hid (((#[.slice a1 t.nodes.length x1, .slice a2 t.pages.length x2] : Array Value).all fun u => u.oneCell') = true) := qh (one2s _ _ _ _ _ _)
     have HB9 := qh (hB2.setAll [.slice a1 t.nodes.length x1, .slice a2 t.pages.length x2] rfl)
     have HP9 : Hid (Pure w (w8.setCells (tb + 1) 0 [.slice a1 t.nodes.length x1, .slice a2 t.pages.length x2])) := qh (Ext.setCells _ 0 _ hPw (b := tb + 1) (fun h => by have := HTb.out; omega))
     have HX9 : Hid (Ext (fun k => k = tb + 1) w8 (w8.setCells (tb + 1) 0 [.slice a1 t.nodes.length x1, .slice a2 t.pages.length x2])) := qh (Ext.setCells _ 0 _ (Ext.refl _ _) (b := tb + 1) (fun _ => rfl))
     clear hB2 hPw
     go_wp2_with (first
      | (with_reducible refine at_store 85 (.tmp 2) (.tmp 49) ?_; refine wpList_store_mid rfl 85 (.tmp 2) (.tmp 49) rfl (tb + 1) 0 #[.slice a1 t.nodes.length x1, .slice a2 t.pages.length x2] rfl rfl HTh.out HSi.out HOn.out ?_))
     refine bodyPost_ret (results_row2 rfl _ _ (tb + 1) _ [.slice a1 t.nodes.length x1, .slice a2 t.pages.length x2] _ rfl HB9.out Tryz.underlying85 rfl size31) rfl ?_
     obtain ⟨_, _, e1, f1, f2, f3, _⟩ := own_form HR1.out
     cases e1
     obtain ⟨_, _, e2, g1, g2, g3, _⟩ := own_form HR2.out
     cases e2
     have hln := HLn.out
     have htf := HTf.out
     rw [HF.out]
     refine ⟨a1, x1, a2, x2, rfl, HP9.out, ?_, ?_, by show t.nodes.length ≤ 5000; omega, by show t.pages.length ≤ 5000; omega, f3, g3, f1, f2, g1, g2⟩
     ·exact (own_row HR1.out).ext HX9.out (fun x hx e => by have h := (HR1.out.lt x.block (by rw [hx]; rfl)).1; omega)
     ·exact (own_row HR2.out).ext HX9.out (fun x hx e => by have h := (HR2.out.lt x.block (by rw [hx]; rfl)).1; omega)
