/-
  Walked: the reference's Page (printed by mkrpage.py).
-/
import Derived.Test.YtnibjjpohhknkaaPage
import Derived.Test.YtnibjjpohhknkaaOfR
import Derived.Test.YtnibjjpohhknkaaNamedR
namespace Go.Proofs.Ytnibjjpohhknkaa
open Go.RowKit
set_option linter.unusedVariables false
set_option linter.unusedSimpArgs false

theorem size54 : (Try.prog.info? 54).map (·.size) = some 7 := by kernel_rfl
theorem sz54 (a b c d e f g : Int) : (Try.prog.info? 54).map (·.size) = some ([Value.int .i64 a, .int .i64 b, .int .i64 c, .int .i64 d, .int .i64 e, .int .i64 f, .int .i64 g] : List Value).length := size54
theorem sz28r (a b c d : Int) : (Try.prog.info? 32).map (·.size) = some ([Value.int .i64 a, .int .i64 b, .int .i64 c, .int .i64 d] : List Value).length := size32
theorem boxO_err (o : Option (List Int)) : (boxO o).2 = 0 ∨ boxO o = (.zero, 2) := by
  unfold boxO
  split
  · exact Or.inl rfl
  · exact Or.inr rfl
theorem box_err (v : V) : v.box.2 = 0 ∨ v.box = (.zero, 2) := by
  unfold V.box
  split
  · exact boxO_err _
  · exact Or.inr rfl
theorem both_wide (a b : Bx) : 0 ≤ (a.both b).w := by
  unfold Bx.both
  split
  · split
    · exact Int.le_refl _
    · omega
  · exact Int.le_refl _
theorem both_zero (a b : Bx) : a.both b = .zero ↔ ¬ 0 < (a.both b).w := by
  constructor
  · intro h; rw [h]; decide
  · intro h
    exact both_none (by have := both_wide a b; omega)
/-- from the box on -/
def tailR (T : V × Bool) (r : Bx) : Sn × Int :=
  if T.2 = true then (if T.1.kind = 2 ∧ T.1.n.tmod 90 = 0 then (mkSn r (q4 (wrap64 (T.1.n.tdiv 90))), 0) else (.zero, 2)) else (mkSn r 0, 0)
def pageQ (M C T : V × Bool) : Sn × Int :=
  if M.2 = true then
    if M.1.box.2 = 0 then
      if C.2 = true then
        if C.1.box.2 = 0 then tailR T (if 0 < (M.1.box.1.both C.1.box.1).w then M.1.box.1.both C.1.box.1 else M.1.box.1) else (.zero, 2)
      else tailR T M.1.box.1
    else (.zero, 2)
  else (.zero, 4)
theorem pageP_eq (l : List Ob) (g : V) (hl : l.length ≠ 0) : pageP l g = pageQ (namedP l g kMedia) (namedP l g kCrop) (namedP l g kRot) := by
  unfold pageP wholeP pageQ tailR
  rw [if_neg hl]
  generalize namedP l g kMedia = M
  generalize namedP l g kCrop = C
  generalize namedP l g kRot = T
  obtain ⟨m, mi⟩ := M
  obtain ⟨c, ci⟩ := C
  have hm := box_err m
  have hc := box_err c
  simp only []
  generalize m.box = mb at *
  generalize c.box = cb at *
  obtain ⟨mr, me⟩ := mb
  obtain ⟨cr, ce⟩ := cb
  simp only [] at *
  have hz := both_zero mr cr
  generalize mr.both cr = x at *
  cases mi with
  | false => rfl
  | true =>
    rcases hm with rfl | hm
    · cases ci with
      | false => rfl
      | true =>
        rcases hc with rfl | hc
        · by_cases hx : x = .zero
          · simp [hx, Bx.zero]
          · have hw : 0 < x.w := Decidable.of_not_not (fun h => hx (hz.2 h))
            simp [hx, hw]
        · cases hc
          rfl
    · cases hm
      rfl
set_option maxHeartbeats 4000000 in
set_option maxRecDepth 100000 in
theorem refpage_any (d : Nat) (objs : List Ob) (oa : Option Addr) (oc : Nat) (rows : List (List Value)) (gv : V) (gcs : List Value) (w0 w : World) (hP0 : Pure w0 w) (hOK : OKids w0 (d + 1) objs oa rows) (hG : Lies w0 (d + 1) gv gcs) (hol : objs.length ≤ 1000000) (hvl : ∀ u ∈ objs, u.v.l.length ≤ 1000000) (hgl : gv.l.length ≤ 1000000) (hnl : ∀ k, (namedP objs gv k).1.l.length ≤ 1000000) :
    Calls Try.prog 22 #[.agg (Value.slice oa objs.length oc :: gcs).toArray] w (SnTo (pageP objs gv) w) := by
  obtain ⟨F, hF⟩ : ∃ F, F = pageP objs gv := ⟨_, rfl⟩
  have hz0 : objs.length = 0 → F = (.zero, 4) := fun h => by rw [hF]; unfold pageP; rw [if_pos h]
  have hFe : objs.length ≠ 0 → F = pageQ (namedP objs gv kMedia) (namedP objs gv kCrop) (namedP objs gv kRot) := fun h => hF.trans (pageP_eq objs gv h)
  rw [← hF]
  have hgl4 := hG.len
  have HL5 : Hid ((Value.slice oa objs.length oc :: gcs).length = 5) := Lib.hid (by rw [List.length_cons, hgl4])
  have HN1 := Lib.hid (fun W (hP : Pure w W) (hne : 0 < objs.length) => refnamed_any d objs oa oc rows gv gcs kMedia w0 W (hP0.pure hP) hOK hG hne hol hvl hgl)
  have HN2 := Lib.hid (fun W (hP : Pure w W) (hne : 0 < objs.length) => refnamed_any d objs oa oc rows gv gcs kCrop w0 W (hP0.pure hP) hOK hG hne hol hvl hgl)
  have HN3 := Lib.hid (fun W (hP : Pure w W) (hne : 0 < objs.length) => refnamed_any d objs oa oc rows gv gcs kRot w0 W (hP0.pure hP) hOK hG hne hol hvl hgl)
  have l1 := hnl kMedia
  have l2 := hnl kCrop
  obtain ⟨G1, hG1⟩ : ∃ G, G = namedP objs gv kMedia := ⟨_, rfl⟩
  obtain ⟨G2, hG2⟩ : ∃ G, G = namedP objs gv kCrop := ⟨_, rfl⟩
  obtain ⟨G3, hG3⟩ : ∃ G, G = namedP objs gv kRot := ⟨_, rfl⟩
  rw [← hG1, ← hG2, ← hG3] at hFe
  rw [← hG1] at HN1 l1
  rw [← hG2] at HN2 l2
  rw [← hG3] at HN3
  obtain ⟨on, hon⟩ : ∃ on, on = objs.length := ⟨_, rfl⟩
  rw [← hon] at HN1 HN2 HN3 HL5 hFe hz0 ⊢
  have HFe := Lib.hid hFe
  have HFz := Lib.hid hz0
  obtain ⟨w1, hw1⟩ : ∃ z, z = w.alloc (.cells (Value.slice oa on oc :: gcs).toArray 47) := ⟨_, rfl⟩
  obtain ⟨tb, htb⟩ : ∃ z, z = w.heap.size := ⟨_, rfl⟩
  have hB1 : BlockIs w1 tb (Value.slice oa on oc :: gcs) 47 := by rw [htb, hw1]; exact BlockIs.new w _ _
  have hs1 : w1.heap.size = tb + 1 := by rw [hw1, World.size_alloc, htb]
  obtain ⟨w2, hw2⟩ : ∃ z, z = w1.alloc (.cells #[.int .i64 0, .int .i64 0, .int .i64 0, .int .i64 0, .int .i64 0, .int .i64 0, .int .i64 0] 54) := ⟨_, rfl⟩
  have hs2 : w2.heap.size = tb + 2 := by rw [hw2, World.size_alloc, hs1]
  have hBt : BlockIs w2 tb (Value.slice oa on oc :: gcs) 47 := hw2 ▸ hB1.alloc _
  have hBr : BlockIs w2 (tb + 1) [.int .i64 0, .int .i64 0, .int .i64 0, .int .i64 0, .int .i64 0, .int .i64 0, .int .i64 0] 54 := by rw [← hs1, hw2]; exact BlockIs.new w1 _ _
  have hP : Pure w w2 := (show Pure w w1 from hw1 ▸ ext_alloc w _).pure (hw2 ▸ ext_alloc w1 _)
  have HW : Hid ((w.alloc (.cells (Value.slice oa on oc :: gcs).toArray 47)).alloc (.cells #[.int .i64 0, .int .i64 0, .int .i64 0, .int .i64 0, .int .i64 0, .int .i64 0, .int .i64 0] 54) = w2) := Lib.hid (by rw [hw2, hw1])
  have HTb := Lib.hid htb
  have HS2 := Lib.hid hs2
  have hRp : ((w.alloc (.cells (Value.slice oa on oc :: gcs).toArray 47)).alloc (.cells #[.int .i64 0, .int .i64 0, .int .i64 0, .int .i64 0, .int .i64 0, .int .i64 0, .int .i64 0] 54)).rangeAt w.heap.size 0 (Value.slice oa on oc :: gcs) := by rw [HW.out, ← htb]; exact hBt.range
  have t0 : ((w.alloc (.cells (Value.slice oa on oc :: gcs).toArray 47)).alloc (.cells #[.int .i64 0, .int .i64 0, .int .i64 0, .int .i64 0, .int .i64 0, .int .i64 0, .int .i64 0] 54)).cell? ⟨w.heap.size, 0, none⟩ = some (.slice oa on oc) := by rw [HW.out, ← htb]; exact hBt.cell 0
  clear hF hFe hz0 hw1 hw2 hs1 hs2 hB1 htb hOK hG hon hvl hgl hG1 hG2 hG3 hgl4 hnl hol
  by_cases hz : on = 0
  · subst hz
    have HFr : Hid (F = (.zero, 4)) := Lib.hid (HFz.out rfl)
    clear HN1 HN2 HN3 HFe HFz
    go_enter Try.func22, Try.ntmps22
    go_wp2_with fail
    rw [HW.out, ← HTb.out]
    refine bodyPost_ret (results_row2 rfl _ _ (tb + 1) _ [.int .i64 0, .int .i64 0, .int .i64 0, .int .i64 0, .int .i64 0, .int .i64 0, .int .i64 0] _ rfl hBr Try.underlying54 rfl size54) rfl ?_
    exact ⟨by rw [HFr.out]; rfl, hP⟩
  have hzi : ((on : Int) == 0) = false := by simpa using (by omega : ¬ (on : Int) = 0)
  have HNe : Hid (0 < on) := Lib.hid (by omega)
  have HN1 := Lib.hid (fun W hP => HN1.out W hP HNe.out)
  have HN2 := Lib.hid (fun W hP => HN2.out W hP HNe.out)
  have HN3 := Lib.hid (fun W hP => HN3.out W hP HNe.out)
  have HFe : Hid (F = pageQ G1 G2 G3) := Lib.hid (HFe.out hz)
  clear hz HFz
  go_enter Try.func22, Try.ntmps22
  go_wp2_with (first
    | (with_reducible refine at_load 47 (.tmp 1) ?_; refine wpList_load_mid rfl 47 (.tmp 1) rfl w.heap.size 0 rfl (Value.slice oa on oc :: gcs) _ hRp Try.underlying47 rfl (sz47 HL5.out) ?_))
  rw [HW.out, ← HTb.out]
  clear hRp t0
  refine (HN1.out w2 hP).mono ?_
  rintro e w3 ⟨cb, rfl, hLc, hP3⟩
  have hBt := hBt.ext hP3 id
  have hBr := hBr.ext hP3 id
  have hP := hP.pure hP3
  have hb3 : tb + 2 ≤ w3.heap.size := by have := HS2.out; have := hP3.size; omega
  clear hP3 HN1
  obtain ⟨hth, hB6, hPx⟩ := put_new (W := w3) _ rfl (d := d + 1) (hLc.pure (hP0.pure hP))
  obtain ⟨w4, hwn⟩ : ∃ z, z = (w3.alloc (.cells zeroCs.toArray 24)).setCells w3.heap.size 0 cb := ⟨_, rfl⟩
  rw [← hwn] at hB6 hPx
  have hl6 := hLc.len
  have HThcb := Lib.hid (show (w3.alloc (.cells #[.int .i64 0, .int .i64 0, .string ⟨#[]⟩, .slice none 0 0] 24)).there w3.heap.size 0 cb.toArray.size by rw [show cb.toArray.size = 4 by simpa using hl6]; exact hth)
  have HSicb : Hid ((Try.prog.info? 24).map (·.size) = some cb.toArray.size) := Lib.hid (by rw [List.size_toArray, hl6]; exact size24)
  have HOncb := Lib.hid hLc.one
  have HWncb : Hid (w4 = (w3.alloc (.cells #[.int .i64 0, .int .i64 0, .string ⟨#[]⟩, .slice none 0 0] 24)).setCells w3.heap.size 0 cb.toArray.toList) := Lib.hid (by rw [hwn]; rfl)
  have hBt := hBt.ext hPx id
  have hBr := hBr.ext hPx id
  have hP := hP.pure hPx
  have hL6 := hLc
  clear hwn hth hPx hLc
  have HCb := Lib.hid hl6
  by_cases hi1 : G1.2 = true
  · rw [hi1]
    have HOf := Lib.hid (ofr_any d G1.1 cb w4 (hL6.pure (hP0.pure hP)) l1)
    replace HFe : Hid (F = if G1.1.box.2 = 0 then (if G2.2 = true then (if G2.1.box.2 = 0 then tailR G3 (if 0 < (G1.1.box.1.both G2.1.box.1).w then G1.1.box.1.both G2.1.box.1 else G1.1.box.1) else (.zero, 2)) else tailR G3 G1.1.box.1) else (.zero, 2)) := Lib.hid (by rw [HFe.out]; unfold pageQ; rw [if_pos hi1])
    obtain ⟨Q1, hQ1⟩ : ∃ Q, Q = G1.1.box := ⟨_, rfl⟩
    rw [← hQ1] at HFe HOf
    have hR6 := hB6.range
    clear hQ1 hL6 hl6 hB6 hi1
    go_wp2_with (first
      | (with_reducible refine at_store 24 (.tmp 4) (.tmp 24) ?_; refine wpList_store_mid rfl 24 (.tmp 4) (.tmp 24) rfl w3.heap.size 0 cb.toArray rfl rfl HThcb.out HSicb.out HOncb.out ?_; rw [← HWncb.out])
      | (with_reducible refine at_load 24 (.tmp 4) ?_; refine wpList_load_mid rfl 24 (.tmp 4) rfl w3.heap.size 0 rfl cb _ hR6 Try.underlying24 rfl (sz24 HCb.out) ?_))
    refine HOf.out.mono ?_
    rintro e w5 ⟨rfl, hP5⟩
    have hBt := hBt.ext hP5 id
    have hBr := hBr.ext hP5 id
    have hP := hP.pure hP5
    obtain ⟨R1, e1⟩ := Q1
    have hb5 : tb + 2 ≤ w5.heap.size := by have := hBr.lt; omega
    clear hP5 HOf hR6
    obtain ⟨w6, hwn⟩ : ∃ z, z = w5.alloc (.cells #[.int .i64 R1.x, .int .i64 R1.y, .int .i64 R1.w, .int .i64 R1.h] 32) := ⟨_, rfl⟩
    have hBR : BlockIs w6 w5.heap.size [.int .i64 R1.x, .int .i64 R1.y, .int .i64 R1.w, .int .i64 R1.h] 32 := hwn ▸ BlockIs.new w5 _ _
    have hPx : Pure w5 w6 := hwn ▸ ext_alloc w5 _
    have HWw6 : Hid (w5.alloc (.cells #[.int .i64 R1.x, .int .i64 R1.y, .int .i64 R1.w, .int .i64 R1.h] 32) = w6) := Lib.hid hwn.symm
    have hBt := hBt.ext hPx id
    have hBr := hBr.ext hPx id
    have hP := hP.pure hPx
    clear hwn hPx
    by_cases he1 : e1 = 0
    · subst he1
      have hRp : (w5.alloc (.cells #[.int .i64 R1.x, .int .i64 R1.y, .int .i64 R1.w, .int .i64 R1.h] 32)).rangeAt tb 0 (Value.slice oa on oc :: gcs) := by rw [HWw6.out]; exact hBt.range
      replace HFe : Hid (F = if G2.2 = true then (if G2.1.box.2 = 0 then tailR G3 (if 0 < (R1.both G2.1.box.1).w then R1.both G2.1.box.1 else R1) else (.zero, 2)) else tailR G3 R1) := Lib.hid (by rw [HFe.out]; rfl)
      go_wp2_with (first
        | (with_reducible refine at_load 47 (.tmp 1) ?_; refine wpList_load_mid rfl 47 (.tmp 1) rfl tb 0 rfl (Value.slice oa on oc :: gcs) _ hRp Try.underlying47 rfl (sz47 HL5.out) ?_))
      rw [HWw6.out]
      clear hRp
      refine (HN2.out w6 hP).mono ?_
      rintro e w7 ⟨cc, rfl, hLc, hP7⟩
      have hBt := hBt.ext hP7 id
      have hBr := hBr.ext hP7 id
      have hBR := hBR.ext hP7 id
      have hP := hP.pure hP7
      have hb7 : tb + 2 ≤ w7.heap.size ∧ w5.heap.size < w7.heap.size := by have := hBR.lt; have := hBr.lt; omega
      clear hP7 HN2
      obtain ⟨hth, hB6, hPx⟩ := put_new (W := w7) _ rfl (d := d + 1) (hLc.pure (hP0.pure hP))
      obtain ⟨w8, hwn⟩ : ∃ z, z = (w7.alloc (.cells zeroCs.toArray 24)).setCells w7.heap.size 0 cc := ⟨_, rfl⟩
      rw [← hwn] at hB6 hPx
      have hl6 := hLc.len
      have HThcc := Lib.hid (show (w7.alloc (.cells #[.int .i64 0, .int .i64 0, .string ⟨#[]⟩, .slice none 0 0] 24)).there w7.heap.size 0 cc.toArray.size by rw [show cc.toArray.size = 4 by simpa using hl6]; exact hth)
      have HSicc : Hid ((Try.prog.info? 24).map (·.size) = some cc.toArray.size) := Lib.hid (by rw [List.size_toArray, hl6]; exact size24)
      have HOncc := Lib.hid hLc.one
      have HWncc : Hid (w8 = (w7.alloc (.cells #[.int .i64 0, .int .i64 0, .string ⟨#[]⟩, .slice none 0 0] 24)).setCells w7.heap.size 0 cc.toArray.toList) := Lib.hid (by rw [hwn]; rfl)
      have hBt := hBt.ext hPx id
      have hBr := hBr.ext hPx id
      have hBR := hBR.ext hPx id
      have hP := hP.pure hPx
      have hL6 := hLc
      clear hwn hth hPx hLc
      have HCc := Lib.hid hl6
      by_cases hi2 : G2.2 = true
      · rw [hi2]
        have HOf := Lib.hid (ofr_any d G2.1 cc w8 (hL6.pure (hP0.pure hP)) l2)
        replace HFe : Hid (F = if G2.1.box.2 = 0 then tailR G3 (if 0 < (R1.both G2.1.box.1).w then R1.both G2.1.box.1 else R1) else (.zero, 2)) := Lib.hid (by rw [HFe.out, if_pos hi2])
        obtain ⟨Q2, hQ2⟩ : ∃ Q, Q = G2.1.box := ⟨_, rfl⟩
        rw [← hQ2] at HFe HOf
        have hR6 := hB6.range
        clear hQ2 hL6 hl6 hB6 hi2
        go_wp2_with (first
          | (with_reducible refine at_store 24 (.tmp 8) (.tmp 40) ?_; refine wpList_store_mid rfl 24 (.tmp 8) (.tmp 40) rfl w7.heap.size 0 cc.toArray rfl rfl HThcc.out HSicc.out HOncc.out ?_; rw [← HWncc.out])
          | (with_reducible refine at_load 24 (.tmp 8) ?_; refine wpList_load_mid rfl 24 (.tmp 8) rfl w7.heap.size 0 rfl cc _ hR6 Try.underlying24 rfl (sz24 HCc.out) ?_))
        refine HOf.out.mono ?_
        rintro e w9 ⟨rfl, hP9⟩
        have hBt := hBt.ext hP9 id
        have hBr := hBr.ext hP9 id
        have hBR := hBR.ext hP9 id
        have hP := hP.pure hP9
        obtain ⟨R2, e2⟩ := Q2
        clear hP9 HOf hR6
        obtain ⟨wa, hwn⟩ : ∃ z, z = w9.alloc (.cells #[.int .i64 R2.x, .int .i64 R2.y, .int .i64 R2.w, .int .i64 R2.h] 32) := ⟨_, rfl⟩
        have hBC : BlockIs wa w9.heap.size [.int .i64 R2.x, .int .i64 R2.y, .int .i64 R2.w, .int .i64 R2.h] 32 := hwn ▸ BlockIs.new w9 _ _
        have hPx : Pure w9 wa := hwn ▸ ext_alloc w9 _
        have HWwa : Hid (w9.alloc (.cells #[.int .i64 R2.x, .int .i64 R2.y, .int .i64 R2.w, .int .i64 R2.h] 32) = wa) := Lib.hid hwn.symm
        have hBt := hBt.ext hPx id
        have hBr := hBr.ext hPx id
        have hBR := hBR.ext hPx id
        have hP := hP.pure hPx
        clear hwn hPx
        by_cases he2 : e2 = 0
        · subst he2
          have hRR : (w9.alloc (.cells #[.int .i64 R2.x, .int .i64 R2.y, .int .i64 R2.w, .int .i64 R2.h] 32)).rangeAt w5.heap.size 0 [.int .i64 R1.x, .int .i64 R1.y, .int .i64 R1.w, .int .i64 R1.h] := by rw [HWwa.out]; exact hBR.range
          have hRC : (w9.alloc (.cells #[.int .i64 R2.x, .int .i64 R2.y, .int .i64 R2.w, .int .i64 R2.h] 32)).rangeAt w9.heap.size 0 [.int .i64 R2.x, .int .i64 R2.y, .int .i64 R2.w, .int .i64 R2.h] := by rw [HWwa.out]; exact hBC.range
          clear hBC
          go_wp2_with (first
            | (with_reducible refine at_load 32 (.tmp 6) ?_; refine wpList_load_mid rfl 32 (.tmp 6) rfl w5.heap.size 0 rfl [.int .i64 R1.x, .int .i64 R1.y, .int .i64 R1.w, .int .i64 R1.h] _ hRR Try.underlying32 rfl (sz28r _ _ _ _) ?_)
            | (with_reducible refine at_load 32 (.tmp 10) ?_; refine wpList_load_mid rfl 32 (.tmp 10) rfl w9.heap.size 0 rfl [.int .i64 R2.x, .int .i64 R2.y, .int .i64 R2.w, .int .i64 R2.h] _ hRC Try.underlying32 rfl (sz28r _ _ _ _) ?_))
          rw [HWwa.out]
          clear hRR hRC
          refine (refboth_any R1 R2 wa).mono ?_
          rintro e wb ⟨rfl, hPb⟩
          obtain ⟨B, hB⟩ : ∃ B, B = R1.both R2 := ⟨_, rfl⟩
          rw [← hB]
          have HFb : Hid (F = tailR G3 (if 0 < B.w then B else R1)) := Lib.hid (by rw [HFe.out, hB]; rfl)
          have hBt := hBt.ext hPb id
          have hBr := hBr.ext hPb id
          have hBR := hBR.ext hPb id
          have hP := hP.pure hPb
          clear hPb hB HFe
          obtain ⟨wc, hwn⟩ : ∃ z, z = wb.alloc (.cells #[.int .i64 B.x, .int .i64 B.y, .int .i64 B.w, .int .i64 B.h] 32) := ⟨_, rfl⟩
          have hBD : BlockIs wc wb.heap.size [.int .i64 B.x, .int .i64 B.y, .int .i64 B.w, .int .i64 B.h] 32 := hwn ▸ BlockIs.new wb _ _
          have hPx : Pure wb wc := hwn ▸ ext_alloc wb _
          have HWwc : Hid (wb.alloc (.cells #[.int .i64 B.x, .int .i64 B.y, .int .i64 B.w, .int .i64 B.h] 32) = wc) := Lib.hid hwn.symm
          have hBt := hBt.ext hPx id
          have hBr := hBr.ext hPx id
          have hBR := hBR.ext hPx id
          have hP := hP.pure hPx
          have hRD : (wb.alloc (.cells #[.int .i64 B.x, .int .i64 B.y, .int .i64 B.w, .int .i64 B.h] 32)).rangeAt wb.heap.size 0 [.int .i64 B.x, .int .i64 B.y, .int .i64 B.w, .int .i64 B.h] := by rw [HWwc.out]; exact hBD.range
          have hlw : w5.heap.size < wc.heap.size := hBR.lt
          clear hwn hPx
          by_cases hBw : 0 < B.w
          · have HFt : Hid (F = tailR G3 B) := Lib.hid (by rw [HFb.out, if_pos hBw])
            have HTh6 : Hid ((wb.alloc (.cells #[.int .i64 B.x, .int .i64 B.y, .int .i64 B.w, .int .i64 B.h] 32)).there w5.heap.size 0 (#[.int .i64 B.x, .int .i64 B.y, .int .i64 B.w, .int .i64 B.h] : Array Value).size) := Lib.hid (by rw [HWwc.out]; exact hBR.there 4 rfl)
            have HSi6 : Hid ((Try.prog.info? 32).map (·.size) = some (#[.int .i64 B.x, .int .i64 B.y, .int .i64 B.w, .int .i64 B.h] : Array Value).size) := Lib.hid size32
            obtain ⟨wd, hwd⟩ : ∃ z, z = wc.setCells w5.heap.size 0 [.int .i64 B.x, .int .i64 B.y, .int .i64 B.w, .int .i64 B.h] := ⟨_, rfl⟩
            have hXd : Ext (fun k => k = w5.heap.size) wc wd := hwd ▸ Ext.setCells _ 0 wc (Ext.refl _ _) (fun _ => rfl)
            have hBR : BlockIs wd w5.heap.size [.int .i64 B.x, .int .i64 B.y, .int .i64 B.w, .int .i64 B.h] 32 := hwd ▸ setRect hBR rfl _ _ _ _
            have hBt := hBt.ext hXd (fun e => by have e' : tb = w5.heap.size := e; omega)
            have hBr := hBr.ext hXd (fun e => by have e' : tb + 1 = w5.heap.size := e; omega)
            have hP : Pure w wd := hP.trans hXd (fun i hi e => by have e' : i = w5.heap.size := e; have := HTb.out; omega)
            have HWd : Hid ((wb.alloc (.cells #[.int .i64 B.x, .int .i64 B.y, .int .i64 B.w, .int .i64 B.h] 32)).setCells w5.heap.size 0 (#[.int .i64 B.x, .int .i64 B.y, .int .i64 B.w, .int .i64 B.h] : Array Value).toList = wd) := Lib.hid (by rw [HWwc.out, hwd])
            clear HFb hBD hwd hXd
            unfold tailR at HFt
            have hRp : wd.rangeAt tb 0 (Value.slice oa on oc :: gcs) := hBt.range
            go_wp2_with (first
              | (with_reducible refine at_load 32 (.tmp 12) ?_; refine wpList_load_mid rfl 32 (.tmp 12) rfl wb.heap.size 0 rfl [.int .i64 B.x, .int .i64 B.y, .int .i64 B.w, .int .i64 B.h] _ hRD Try.underlying32 rfl (sz28r _ _ _ _) ?_)
              | (with_reducible refine at_store 32 (.tmp 6) (.tmp 57) ?_; refine wpList_store_mid rfl 32 (.tmp 6) (.tmp 57) rfl w5.heap.size 0 #[.int .i64 B.x, .int .i64 B.y, .int .i64 B.w, .int .i64 B.h] rfl rfl HTh6.out HSi6.out (one4 _ _ _ _) ?_; rw [HWd.out])
              | (with_reducible refine at_load 47 (.tmp 1) ?_; refine wpList_load_mid rfl 47 (.tmp 1) rfl tb 0 rfl (Value.slice oa on oc :: gcs) _ hRp Try.underlying47 rfl (sz47 HL5.out) ?_))
            clear hRD
            clear hRp
            refine (HN3.out wd hP).mono ?_
            rintro e px ⟨cd, rfl, hLc, hPz⟩
            have hBt := hBt.ext hPz id
            have hBr := hBr.ext hPz id
            have hBR := hBR.ext hPz id
            have hP := hP.pure hPz
            have hbx : tb + 2 ≤ px.heap.size ∧ w5.heap.size < px.heap.size := by have := hBR.lt; have := hBr.lt; omega
            clear hPz HN3
            obtain ⟨hth, hB6, hPx⟩ := put_new (W := px) _ rfl (d := d + 1) (hLc.pure (hP0.pure hP))
            obtain ⟨py, hwn⟩ : ∃ z, z = (px.alloc (.cells zeroCs.toArray 24)).setCells px.heap.size 0 cd := ⟨_, rfl⟩
            rw [← hwn] at hB6 hPx
            have hl6 := hLc.len
            have HThcd := Lib.hid (show (px.alloc (.cells #[.int .i64 0, .int .i64 0, .string ⟨#[]⟩, .slice none 0 0] 24)).there px.heap.size 0 cd.toArray.size by rw [show cd.toArray.size = 4 by simpa using hl6]; exact hth)
            have HSicd : Hid ((Try.prog.info? 24).map (·.size) = some cd.toArray.size) := Lib.hid (by rw [List.size_toArray, hl6]; exact size24)
            have HOncd := Lib.hid hLc.one
            have HWncd : Hid (py = (px.alloc (.cells #[.int .i64 0, .int .i64 0, .string ⟨#[]⟩, .slice none 0 0] 24)).setCells px.heap.size 0 cd.toArray.toList) := Lib.hid (by rw [hwn]; rfl)
            have hBt := hBt.ext hPx id
            have hBr := hBr.ext hPx id
            have hBR := hBR.ext hPx id
            have hP := hP.pure hPx
            have hL6 := hLc
            clear hwn hth hPx hLc
            obtain ⟨ya, ym, yc, hy⟩ : ∃ ya ym yc, cd = [.int .i64 G3.1.kind, .int .i64 G3.1.n, .string G3.1.s, .slice ya ym yc] := by
              obtain ⟨a', c', _, he, _⟩ := hL6.kids
              exact ⟨_, _, _, he⟩
            have y0 : py.cell? ⟨px.heap.size, 0, none⟩ = some (.int .i64 G3.1.kind) := (hB6.cell 0).trans (by rw [hy]; rfl)
            have y1 : py.cell? ⟨px.heap.size, 1, none⟩ = some (.int .i64 G3.1.n) := (hB6.cell 1).trans (by rw [hy]; rfl)
            obtain ⟨is3, his3⟩ : ∃ z, z = G3.2 := ⟨_, rfl⟩
            rw [← his3] at HFt ⊢
            have hRR := hBR.range
            have r0 : py.cell? ⟨w5.heap.size, 2, none⟩ = some (.int .i64 B.w) := hBR.cell 2
            have r1 : py.cell? ⟨w5.heap.size, 3, none⟩ = some (.int .i64 B.h) := hBR.cell 3
            obtain ⟨k3, hk3⟩ : ∃ z, z = G3.1.kind := ⟨_, rfl⟩
            obtain ⟨n3, hn3⟩ : ∃ z, z = G3.1.n := ⟨_, rfl⟩
            rw [← hk3] at y0 HFt
            rw [← hn3] at y1 HFt
            have hby := hB6.lt
            clear his3 hL6 hl6 hy hB6 hk3 hn3 hBt
            obtain ⟨w8, hw8⟩ : ∃ z, z = py.alloc (.cells #[.int .i64 B.x, .int .i64 B.y, .int .i64 B.w, .int .i64 B.h, .int .i64 0, .int .i64 B.w, .int .i64 B.h] 54) := ⟨_, rfl⟩
            have hBS : BlockIs w8 py.heap.size [.int .i64 B.x, .int .i64 B.y, .int .i64 B.w, .int .i64 B.h, .int .i64 0, .int .i64 B.w, .int .i64 B.h] 54 := hw8 ▸ BlockIs.new py _ _
            have hP8 : Pure py w8 := hw8 ▸ ext_alloc py _
            have HW8 : Hid (py.alloc (.cells #[.int .i64 B.x, .int .i64 B.y, .int .i64 B.w, .int .i64 B.h, .int .i64 0, .int .i64 B.w, .int .i64 B.h] 54) = w8) := Lib.hid hw8.symm
            cases is3 with
            | false =>
              have HFr : Hid (F = (⟨B, 0, B.w, B.h⟩, 0)) := Lib.hid (by rw [HFt.out]; rfl)
              have hBr := hBr.ext hP8 id
              have hP := hP.pure hP8
              have hRS : w8.rangeAt py.heap.size 0 [.int .i64 B.x, .int .i64 B.y, .int .i64 B.w, .int .i64 B.h, .int .i64 0, .int .i64 B.w, .int .i64 B.h] := hBS.range
              rw [← HW8.out] at hBr hP hRS
              clear HFt hBS hP8 hw8 hBR
              have HTh : Hid ((py.alloc (.cells #[.int .i64 B.x, .int .i64 B.y, .int .i64 B.w, .int .i64 B.h, .int .i64 0, .int .i64 B.w, .int .i64 B.h] 54)).there (tb + 1) 0 (#[.int .i64 B.x, .int .i64 B.y, .int .i64 B.w, .int .i64 B.h, .int .i64 0, .int .i64 B.w, .int .i64 B.h] : Array Value).size) := Lib.hid (hBr.there 7 rfl)
              have HSi : Hid ((Try.prog.info? 54).map (·.size) = some (#[.int .i64 B.x, .int .i64 B.y, .int .i64 B.w, .int .i64 B.h, .int .i64 0, .int .i64 B.w, .int .i64 B.h] : Array Value).size) := Lib.hid size54
              have HP8 : Hid (Pure w ((py.alloc (.cells #[.int .i64 B.x, .int .i64 B.y, .int .i64 B.w, .int .i64 B.h, .int .i64 0, .int .i64 B.w, .int .i64 B.h] 54)).setCells (tb + 1) 0 [.int .i64 B.x, .int .i64 B.y, .int .i64 B.w, .int .i64 B.h, .int .i64 0, .int .i64 B.w, .int .i64 B.h])) := Lib.hid (Ext.setCells _ 0 (py.alloc (.cells #[.int .i64 B.x, .int .i64 B.y, .int .i64 B.w, .int .i64 B.h, .int .i64 0, .int .i64 B.w, .int .i64 B.h] 54)) hP (b := tb + 1) (fun h => by have := HTb.out; omega))
              have HB9 := Lib.hid (set7 hBr rfl (.int .i64 B.x) (.int .i64 B.y) (.int .i64 B.w) (.int .i64 B.h) (.int .i64 0) (.int .i64 B.w) (.int .i64 B.h))
              clear hBr hP
              go_wp2_with (first
                | (with_reducible refine at_store 24 (.tmp 13) (.tmp 61) ?_; refine wpList_store_mid rfl 24 (.tmp 13) (.tmp 61) rfl px.heap.size 0 cd.toArray rfl rfl HThcd.out HSicd.out HOncd.out ?_; rw [← HWncd.out])
                | (with_reducible refine at_load 32 (.tmp 6) ?_; refine wpList_load_mid rfl 32 (.tmp 6) rfl w5.heap.size 0 rfl [.int .i64 B.x, .int .i64 B.y, .int .i64 B.w, .int .i64 B.h] _ hRR Try.underlying32 rfl (sz28r _ _ _ _) ?_)
                | (with_reducible refine at_load 54 (.tmp 15) ?_; refine wpList_load_mid rfl 54 (.tmp 15) rfl py.heap.size 0 rfl [.int .i64 B.x, .int .i64 B.y, .int .i64 B.w, .int .i64 B.h, .int .i64 0, .int .i64 B.w, .int .i64 B.h] _ hRS Try.underlying54 rfl (sz54 _ _ _ _ _ _ _) ?_)
                | (with_reducible refine at_store 54 (.tmp 2) (.tmp 102) ?_; refine wpList_store_mid rfl 54 (.tmp 2) (.tmp 102) rfl (tb + 1) 0 #[.int .i64 B.x, .int .i64 B.y, .int .i64 B.w, .int .i64 B.h, .int .i64 0, .int .i64 B.w, .int .i64 B.h] rfl rfl HTh.out HSi.out (one7 _ _ _ _ _ _ _) ?_))
              refine bodyPost_ret (results_row2 rfl _ _ (tb + 1) _ [.int .i64 B.x, .int .i64 B.y, .int .i64 B.w, .int .i64 B.h, .int .i64 0, .int .i64 B.w, .int .i64 B.h] _ rfl HB9.out Try.underlying54 rfl size54) rfl ?_
              exact ⟨by rw [HFr.out]; rfl, HP8.out⟩
            | true =>
              by_cases hk : k3 = 2
              · subst hk
                by_cases hn : n3.tmod 90 = 0
                · have hn0 : (n3.tmod 90 != 0) = false := by rw [hn]; rfl
                  obtain ⟨X, hX⟩ : ∃ z, z = wrap64 (n3.tdiv 90) := ⟨_, rfl⟩
                  have x1 : wrap64 (n3.tdiv 90) = X := hX.symm
                  have x2 : IntKind.i64.wrap (n3.tdiv 90) = X := by rw [hX, IntKind.wrap_i64]; unfold wrap64; omega
                  have HFq : Hid (F = (mkSn B (q4 X), 0)) := Lib.hid (by rw [HFt.out]; simp [hn, ← hX])
                  have y1' : (py.alloc (.cells #[.int .i64 B.x, .int .i64 B.y, .int .i64 B.w, .int .i64 B.h, .int .i64 0, .int .i64 B.w, .int .i64 B.h] 54)).cell? ⟨px.heap.size, 1, none⟩ = some (.int .i64 n3) := by rw [HW8.out]; exact hP8.cell_some y1 id
                  have hBr := hBr.ext hP8 id
                  have hP := hP.pure hP8
                  have HTi := Lib.hid (times_any X w8)
                  obtain ⟨qv, hqv⟩ : ∃ z : Int, z = (q4 X : Int) := ⟨_, rfl⟩
                  rw [← hqv] at HTi HFq
                  have hq4 : qv = 0 ∨ qv = 1 ∨ qv = 2 ∨ qv = 3 := by have := q4_lt X; omega
                  have hbb : tb + 1 < py.heap.size := by omega
                  clear HFt hX hw8 hBR hn hqv hP8
                  go_wp2_with (first
                    | (with_reducible refine at_store 24 (.tmp 13) (.tmp 61) ?_; refine wpList_store_mid rfl 24 (.tmp 13) (.tmp 61) rfl px.heap.size 0 cd.toArray rfl rfl HThcd.out HSicd.out HOncd.out ?_; rw [← HWncd.out])
                    | (with_reducible refine at_load 32 (.tmp 6) ?_; refine wpList_load_mid rfl 32 (.tmp 6) rfl w5.heap.size 0 rfl [.int .i64 B.x, .int .i64 B.y, .int .i64 B.w, .int .i64 B.h] _ hRR Try.underlying32 rfl (sz28r _ _ _ _) ?_))
                  rw [HW8.out]
                  refine HTi.out.mono ?_
                  rintro e w9 ⟨rfl, hP9⟩
                  have hBS := hBS.ext hP9 id
                  have hBr := hBr.ext hP9 id
                  have hP := hP.pure hP9
                  obtain ⟨bS, hbS⟩ : ∃ z, z = py.heap.size := ⟨_, rfl⟩
                  rw [← hbS] at hBS hbb ⊢
                  have e4 : w9.cell? ⟨bS, 4, none⟩ = some (.int .i64 0) := hBS.cell 4
                  have f4 : w9.frozen? ⟨bS, 4, none⟩ = false := hBS.free 4
                  have e5 : w9.cell? ⟨bS, 5, none⟩ = some (.int .i64 B.w) := hBS.cell 5
                  have f5 : w9.frozen? ⟨bS, 5, none⟩ = false := hBS.free 5
                  have e6 : w9.cell? ⟨bS, 6, none⟩ = some (.int .i64 B.h) := hBS.cell 6
                  have f6 : w9.frozen? ⟨bS, 6, none⟩ = false := hBS.free 6
                  clear y0 y1 y1' hRR r0 r1 hP9 HTi HW8 x1 x2 hn0 hbS
                  rcases hq4 with rfl | rfl | rfl | rfl
                  · have HFr : Hid (F = (⟨B, 0, B.w, B.h⟩, 0)) := Lib.hid (by rw [HFq.out]; rfl)
                    have hBz : BlockIs (w9.setCell ⟨bS, 4, none⟩ (.int .i64 0)) bS [.int .i64 B.x, .int .i64 B.y, .int .i64 B.w, .int .i64 B.h, .int .i64 0, .int .i64 B.w, .int .i64 B.h] 54 := (hBS.set 4 (.int .i64 0))
                    have hXz : Ext (fun k => k = bS) w9 (w9.setCell ⟨bS, 4, none⟩ (.int .i64 0)) := ((Ext.refl (fun k => k = bS) w9).setCell (p := ⟨bS, 4, none⟩) (fun _ => rfl) _)
                    have hBr := hBr.ext hXz (fun e => by have e' : tb + 1 = bS := e; omega)
                    have hP : Pure w (w9.setCell ⟨bS, 4, none⟩ (.int .i64 0)) := hP.trans hXz (fun i hi e => by have e' : i = bS := e; have := HTb.out; omega)
                    have hRS := hBz.range
                    clear hXz hBz hBS HFq
                    have HTh : Hid ((w9.setCell ⟨bS, 4, none⟩ (.int .i64 0)).there (tb + 1) 0 (#[.int .i64 B.x, .int .i64 B.y, .int .i64 B.w, .int .i64 B.h, .int .i64 0, .int .i64 B.w, .int .i64 B.h] : Array Value).size) := Lib.hid (hBr.there 7 rfl)
                    have HSi : Hid ((Try.prog.info? 54).map (·.size) = some (#[.int .i64 B.x, .int .i64 B.y, .int .i64 B.w, .int .i64 B.h, .int .i64 0, .int .i64 B.w, .int .i64 B.h] : Array Value).size) := Lib.hid size54
                    have HP8 : Hid (Pure w ((w9.setCell ⟨bS, 4, none⟩ (.int .i64 0)).setCells (tb + 1) 0 [.int .i64 B.x, .int .i64 B.y, .int .i64 B.w, .int .i64 B.h, .int .i64 0, .int .i64 B.w, .int .i64 B.h])) := Lib.hid (Ext.setCells _ 0 (w9.setCell ⟨bS, 4, none⟩ (.int .i64 0)) hP (b := tb + 1) (fun h => by have := HTb.out; omega))
                    have HB9 := Lib.hid (set7 hBr rfl (.int .i64 B.x) (.int .i64 B.y) (.int .i64 B.w) (.int .i64 B.h) (.int .i64 0) (.int .i64 B.w) (.int .i64 B.h))
                    clear hBr hP
                    go_wp2_with (first
                      | (with_reducible refine at_load 54 (.tmp 15) ?_; refine wpList_load_mid rfl 54 (.tmp 15) rfl bS 0 rfl [.int .i64 B.x, .int .i64 B.y, .int .i64 B.w, .int .i64 B.h, .int .i64 0, .int .i64 B.w, .int .i64 B.h] _ hRS Try.underlying54 rfl (sz54 _ _ _ _ _ _ _) ?_)
                      | (with_reducible refine at_store 54 (.tmp 2) (.tmp 102) ?_; refine wpList_store_mid rfl 54 (.tmp 2) (.tmp 102) rfl (tb + 1) 0 #[.int .i64 B.x, .int .i64 B.y, .int .i64 B.w, .int .i64 B.h, .int .i64 0, .int .i64 B.w, .int .i64 B.h] rfl rfl HTh.out HSi.out (one7 _ _ _ _ _ _ _) ?_))
                    refine bodyPost_ret (results_row2 rfl _ _ (tb + 1) _ [.int .i64 B.x, .int .i64 B.y, .int .i64 B.w, .int .i64 B.h, .int .i64 0, .int .i64 B.w, .int .i64 B.h] _ rfl HB9.out Try.underlying54 rfl size54) rfl ?_
                    exact ⟨by rw [HFr.out]; rfl, HP8.out⟩
                  · have HFr : Hid (F = (⟨B, 1, B.h, B.w⟩, 0)) := Lib.hid (by rw [HFq.out]; rfl)
                    have hBz : BlockIs (((w9.setCell ⟨bS, 4, none⟩ (.int .i64 1)).setCell ⟨bS, 5, none⟩ (.int .i64 B.h)).setCell ⟨bS, 6, none⟩ (.int .i64 B.w)) bS [.int .i64 B.x, .int .i64 B.y, .int .i64 B.w, .int .i64 B.h, .int .i64 1, .int .i64 B.h, .int .i64 B.w] 54 := (((hBS.set 4 (.int .i64 1)).set 5 (.int .i64 B.h)).set 6 (.int .i64 B.w))
                    have hXz : Ext (fun k => k = bS) w9 (((w9.setCell ⟨bS, 4, none⟩ (.int .i64 1)).setCell ⟨bS, 5, none⟩ (.int .i64 B.h)).setCell ⟨bS, 6, none⟩ (.int .i64 B.w)) := ((((Ext.refl (fun k => k = bS) w9).setCell (p := ⟨bS, 4, none⟩) (fun _ => rfl) _).setCell (p := ⟨bS, 5, none⟩) (fun _ => rfl) _).setCell (p := ⟨bS, 6, none⟩) (fun _ => rfl) _)
                    have hBr := hBr.ext hXz (fun e => by have e' : tb + 1 = bS := e; omega)
                    have hP : Pure w (((w9.setCell ⟨bS, 4, none⟩ (.int .i64 1)).setCell ⟨bS, 5, none⟩ (.int .i64 B.h)).setCell ⟨bS, 6, none⟩ (.int .i64 B.w)) := hP.trans hXz (fun i hi e => by have e' : i = bS := e; have := HTb.out; omega)
                    have hRS := hBz.range
                    clear hXz hBz hBS HFq
                    have HTh : Hid ((((w9.setCell ⟨bS, 4, none⟩ (.int .i64 1)).setCell ⟨bS, 5, none⟩ (.int .i64 B.h)).setCell ⟨bS, 6, none⟩ (.int .i64 B.w)).there (tb + 1) 0 (#[.int .i64 B.x, .int .i64 B.y, .int .i64 B.w, .int .i64 B.h, .int .i64 1, .int .i64 B.h, .int .i64 B.w] : Array Value).size) := Lib.hid (hBr.there 7 rfl)
                    have HSi : Hid ((Try.prog.info? 54).map (·.size) = some (#[.int .i64 B.x, .int .i64 B.y, .int .i64 B.w, .int .i64 B.h, .int .i64 1, .int .i64 B.h, .int .i64 B.w] : Array Value).size) := Lib.hid size54
                    have HP8 : Hid (Pure w ((((w9.setCell ⟨bS, 4, none⟩ (.int .i64 1)).setCell ⟨bS, 5, none⟩ (.int .i64 B.h)).setCell ⟨bS, 6, none⟩ (.int .i64 B.w)).setCells (tb + 1) 0 [.int .i64 B.x, .int .i64 B.y, .int .i64 B.w, .int .i64 B.h, .int .i64 1, .int .i64 B.h, .int .i64 B.w])) := Lib.hid (Ext.setCells _ 0 (((w9.setCell ⟨bS, 4, none⟩ (.int .i64 1)).setCell ⟨bS, 5, none⟩ (.int .i64 B.h)).setCell ⟨bS, 6, none⟩ (.int .i64 B.w)) hP (b := tb + 1) (fun h => by have := HTb.out; omega))
                    have HB9 := Lib.hid (set7 hBr rfl (.int .i64 B.x) (.int .i64 B.y) (.int .i64 B.w) (.int .i64 B.h) (.int .i64 1) (.int .i64 B.h) (.int .i64 B.w))
                    clear hBr hP
                    go_wp2_with (first
                      | (with_reducible refine at_load 54 (.tmp 15) ?_; refine wpList_load_mid rfl 54 (.tmp 15) rfl bS 0 rfl [.int .i64 B.x, .int .i64 B.y, .int .i64 B.w, .int .i64 B.h, .int .i64 1, .int .i64 B.h, .int .i64 B.w] _ hRS Try.underlying54 rfl (sz54 _ _ _ _ _ _ _) ?_)
                      | (with_reducible refine at_store 54 (.tmp 2) (.tmp 102) ?_; refine wpList_store_mid rfl 54 (.tmp 2) (.tmp 102) rfl (tb + 1) 0 #[.int .i64 B.x, .int .i64 B.y, .int .i64 B.w, .int .i64 B.h, .int .i64 1, .int .i64 B.h, .int .i64 B.w] rfl rfl HTh.out HSi.out (one7 _ _ _ _ _ _ _) ?_))
                    refine bodyPost_ret (results_row2 rfl _ _ (tb + 1) _ [.int .i64 B.x, .int .i64 B.y, .int .i64 B.w, .int .i64 B.h, .int .i64 1, .int .i64 B.h, .int .i64 B.w] _ rfl HB9.out Try.underlying54 rfl size54) rfl ?_
                    exact ⟨by rw [HFr.out]; rfl, HP8.out⟩
                  · have HFr : Hid (F = (⟨B, 2, B.w, B.h⟩, 0)) := Lib.hid (by rw [HFq.out]; rfl)
                    have hBz : BlockIs (w9.setCell ⟨bS, 4, none⟩ (.int .i64 2)) bS [.int .i64 B.x, .int .i64 B.y, .int .i64 B.w, .int .i64 B.h, .int .i64 2, .int .i64 B.w, .int .i64 B.h] 54 := (hBS.set 4 (.int .i64 2))
                    have hXz : Ext (fun k => k = bS) w9 (w9.setCell ⟨bS, 4, none⟩ (.int .i64 2)) := ((Ext.refl (fun k => k = bS) w9).setCell (p := ⟨bS, 4, none⟩) (fun _ => rfl) _)
                    have hBr := hBr.ext hXz (fun e => by have e' : tb + 1 = bS := e; omega)
                    have hP : Pure w (w9.setCell ⟨bS, 4, none⟩ (.int .i64 2)) := hP.trans hXz (fun i hi e => by have e' : i = bS := e; have := HTb.out; omega)
                    have hRS := hBz.range
                    clear hXz hBz hBS HFq
                    have HTh : Hid ((w9.setCell ⟨bS, 4, none⟩ (.int .i64 2)).there (tb + 1) 0 (#[.int .i64 B.x, .int .i64 B.y, .int .i64 B.w, .int .i64 B.h, .int .i64 2, .int .i64 B.w, .int .i64 B.h] : Array Value).size) := Lib.hid (hBr.there 7 rfl)
                    have HSi : Hid ((Try.prog.info? 54).map (·.size) = some (#[.int .i64 B.x, .int .i64 B.y, .int .i64 B.w, .int .i64 B.h, .int .i64 2, .int .i64 B.w, .int .i64 B.h] : Array Value).size) := Lib.hid size54
                    have HP8 : Hid (Pure w ((w9.setCell ⟨bS, 4, none⟩ (.int .i64 2)).setCells (tb + 1) 0 [.int .i64 B.x, .int .i64 B.y, .int .i64 B.w, .int .i64 B.h, .int .i64 2, .int .i64 B.w, .int .i64 B.h])) := Lib.hid (Ext.setCells _ 0 (w9.setCell ⟨bS, 4, none⟩ (.int .i64 2)) hP (b := tb + 1) (fun h => by have := HTb.out; omega))
                    have HB9 := Lib.hid (set7 hBr rfl (.int .i64 B.x) (.int .i64 B.y) (.int .i64 B.w) (.int .i64 B.h) (.int .i64 2) (.int .i64 B.w) (.int .i64 B.h))
                    clear hBr hP
                    go_wp2_with (first
                      | (with_reducible refine at_load 54 (.tmp 15) ?_; refine wpList_load_mid rfl 54 (.tmp 15) rfl bS 0 rfl [.int .i64 B.x, .int .i64 B.y, .int .i64 B.w, .int .i64 B.h, .int .i64 2, .int .i64 B.w, .int .i64 B.h] _ hRS Try.underlying54 rfl (sz54 _ _ _ _ _ _ _) ?_)
                      | (with_reducible refine at_store 54 (.tmp 2) (.tmp 102) ?_; refine wpList_store_mid rfl 54 (.tmp 2) (.tmp 102) rfl (tb + 1) 0 #[.int .i64 B.x, .int .i64 B.y, .int .i64 B.w, .int .i64 B.h, .int .i64 2, .int .i64 B.w, .int .i64 B.h] rfl rfl HTh.out HSi.out (one7 _ _ _ _ _ _ _) ?_))
                    refine bodyPost_ret (results_row2 rfl _ _ (tb + 1) _ [.int .i64 B.x, .int .i64 B.y, .int .i64 B.w, .int .i64 B.h, .int .i64 2, .int .i64 B.w, .int .i64 B.h] _ rfl HB9.out Try.underlying54 rfl size54) rfl ?_
                    exact ⟨by rw [HFr.out]; rfl, HP8.out⟩
                  · have HFr : Hid (F = (⟨B, 3, B.h, B.w⟩, 0)) := Lib.hid (by rw [HFq.out]; rfl)
                    have hBz : BlockIs (((w9.setCell ⟨bS, 4, none⟩ (.int .i64 3)).setCell ⟨bS, 5, none⟩ (.int .i64 B.h)).setCell ⟨bS, 6, none⟩ (.int .i64 B.w)) bS [.int .i64 B.x, .int .i64 B.y, .int .i64 B.w, .int .i64 B.h, .int .i64 3, .int .i64 B.h, .int .i64 B.w] 54 := (((hBS.set 4 (.int .i64 3)).set 5 (.int .i64 B.h)).set 6 (.int .i64 B.w))
                    have hXz : Ext (fun k => k = bS) w9 (((w9.setCell ⟨bS, 4, none⟩ (.int .i64 3)).setCell ⟨bS, 5, none⟩ (.int .i64 B.h)).setCell ⟨bS, 6, none⟩ (.int .i64 B.w)) := ((((Ext.refl (fun k => k = bS) w9).setCell (p := ⟨bS, 4, none⟩) (fun _ => rfl) _).setCell (p := ⟨bS, 5, none⟩) (fun _ => rfl) _).setCell (p := ⟨bS, 6, none⟩) (fun _ => rfl) _)
                    have hBr := hBr.ext hXz (fun e => by have e' : tb + 1 = bS := e; omega)
                    have hP : Pure w (((w9.setCell ⟨bS, 4, none⟩ (.int .i64 3)).setCell ⟨bS, 5, none⟩ (.int .i64 B.h)).setCell ⟨bS, 6, none⟩ (.int .i64 B.w)) := hP.trans hXz (fun i hi e => by have e' : i = bS := e; have := HTb.out; omega)
                    have hRS := hBz.range
                    clear hXz hBz hBS HFq
                    have HTh : Hid ((((w9.setCell ⟨bS, 4, none⟩ (.int .i64 3)).setCell ⟨bS, 5, none⟩ (.int .i64 B.h)).setCell ⟨bS, 6, none⟩ (.int .i64 B.w)).there (tb + 1) 0 (#[.int .i64 B.x, .int .i64 B.y, .int .i64 B.w, .int .i64 B.h, .int .i64 3, .int .i64 B.h, .int .i64 B.w] : Array Value).size) := Lib.hid (hBr.there 7 rfl)
                    have HSi : Hid ((Try.prog.info? 54).map (·.size) = some (#[.int .i64 B.x, .int .i64 B.y, .int .i64 B.w, .int .i64 B.h, .int .i64 3, .int .i64 B.h, .int .i64 B.w] : Array Value).size) := Lib.hid size54
                    have HP8 : Hid (Pure w ((((w9.setCell ⟨bS, 4, none⟩ (.int .i64 3)).setCell ⟨bS, 5, none⟩ (.int .i64 B.h)).setCell ⟨bS, 6, none⟩ (.int .i64 B.w)).setCells (tb + 1) 0 [.int .i64 B.x, .int .i64 B.y, .int .i64 B.w, .int .i64 B.h, .int .i64 3, .int .i64 B.h, .int .i64 B.w])) := Lib.hid (Ext.setCells _ 0 (((w9.setCell ⟨bS, 4, none⟩ (.int .i64 3)).setCell ⟨bS, 5, none⟩ (.int .i64 B.h)).setCell ⟨bS, 6, none⟩ (.int .i64 B.w)) hP (b := tb + 1) (fun h => by have := HTb.out; omega))
                    have HB9 := Lib.hid (set7 hBr rfl (.int .i64 B.x) (.int .i64 B.y) (.int .i64 B.w) (.int .i64 B.h) (.int .i64 3) (.int .i64 B.h) (.int .i64 B.w))
                    clear hBr hP
                    go_wp2_with (first
                      | (with_reducible refine at_load 54 (.tmp 15) ?_; refine wpList_load_mid rfl 54 (.tmp 15) rfl bS 0 rfl [.int .i64 B.x, .int .i64 B.y, .int .i64 B.w, .int .i64 B.h, .int .i64 3, .int .i64 B.h, .int .i64 B.w] _ hRS Try.underlying54 rfl (sz54 _ _ _ _ _ _ _) ?_)
                      | (with_reducible refine at_store 54 (.tmp 2) (.tmp 102) ?_; refine wpList_store_mid rfl 54 (.tmp 2) (.tmp 102) rfl (tb + 1) 0 #[.int .i64 B.x, .int .i64 B.y, .int .i64 B.w, .int .i64 B.h, .int .i64 3, .int .i64 B.h, .int .i64 B.w] rfl rfl HTh.out HSi.out (one7 _ _ _ _ _ _ _) ?_))
                    refine bodyPost_ret (results_row2 rfl _ _ (tb + 1) _ [.int .i64 B.x, .int .i64 B.y, .int .i64 B.w, .int .i64 B.h, .int .i64 3, .int .i64 B.h, .int .i64 B.w] _ rfl HB9.out Try.underlying54 rfl size54) rfl ?_
                    exact ⟨by rw [HFr.out]; rfl, HP8.out⟩
                · have hn' : (n3.tmod 90 != 0) = true := by simpa using hn
                  have HFr : Hid (F = (.zero, 2)) := Lib.hid (by rw [HFt.out]; simp [hn])
                  clear HFt hBS hP8 hw8 HW8 hBR hn
                  have HTh : Hid (py.there (tb + 1) 0 (#[.int .i64 0, .int .i64 0, .int .i64 0, .int .i64 0, .int .i64 0, .int .i64 0, .int .i64 0] : Array Value).size) := Lib.hid (hBr.there 7 rfl)
                  have HSi : Hid ((Try.prog.info? 54).map (·.size) = some (#[.int .i64 0, .int .i64 0, .int .i64 0, .int .i64 0, .int .i64 0, .int .i64 0, .int .i64 0] : Array Value).size) := Lib.hid size54
                  have HP8 : Hid (Pure w (py.setCells (tb + 1) 0 [.int .i64 0, .int .i64 0, .int .i64 0, .int .i64 0, .int .i64 0, .int .i64 0, .int .i64 0])) := Lib.hid (Ext.setCells _ 0 py hP (b := tb + 1) (fun h => by have := HTb.out; omega))
                  have HB9 := Lib.hid (set7 hBr rfl (.int .i64 0) (.int .i64 0) (.int .i64 0) (.int .i64 0) (.int .i64 0) (.int .i64 0) (.int .i64 0))
                  clear hBr hP
                  go_wp2_with (first
                    | (with_reducible refine at_store 24 (.tmp 13) (.tmp 61) ?_; refine wpList_store_mid rfl 24 (.tmp 13) (.tmp 61) rfl px.heap.size 0 cd.toArray rfl rfl HThcd.out HSicd.out HOncd.out ?_; rw [← HWncd.out])
                    | (with_reducible refine at_store 54 (.tmp 2) (.tmp 75) ?_; refine wpList_store_mid rfl 54 (.tmp 2) (.tmp 75) rfl (tb + 1) 0 #[.int .i64 0, .int .i64 0, .int .i64 0, .int .i64 0, .int .i64 0, .int .i64 0, .int .i64 0] rfl rfl HTh.out HSi.out (one7 _ _ _ _ _ _ _) ?_))
                  refine bodyPost_ret (results_row2 rfl _ _ (tb + 1) _ [.int .i64 0, .int .i64 0, .int .i64 0, .int .i64 0, .int .i64 0, .int .i64 0, .int .i64 0] _ rfl HB9.out Try.underlying54 rfl size54) rfl ?_
                  exact ⟨by rw [HFr.out]; rfl, HP8.out⟩
              · have hk' : (k3 != 2) = true := by simpa using hk
                have HFr : Hid (F = (.zero, 2)) := Lib.hid (by rw [HFt.out]; simp [hk])
                clear HFt hBS hP8 hw8 HW8 hBR hk
                have HTh : Hid (py.there (tb + 1) 0 (#[.int .i64 0, .int .i64 0, .int .i64 0, .int .i64 0, .int .i64 0, .int .i64 0, .int .i64 0] : Array Value).size) := Lib.hid (hBr.there 7 rfl)
                have HSi : Hid ((Try.prog.info? 54).map (·.size) = some (#[.int .i64 0, .int .i64 0, .int .i64 0, .int .i64 0, .int .i64 0, .int .i64 0, .int .i64 0] : Array Value).size) := Lib.hid size54
                have HP8 : Hid (Pure w (py.setCells (tb + 1) 0 [.int .i64 0, .int .i64 0, .int .i64 0, .int .i64 0, .int .i64 0, .int .i64 0, .int .i64 0])) := Lib.hid (Ext.setCells _ 0 py hP (b := tb + 1) (fun h => by have := HTb.out; omega))
                have HB9 := Lib.hid (set7 hBr rfl (.int .i64 0) (.int .i64 0) (.int .i64 0) (.int .i64 0) (.int .i64 0) (.int .i64 0) (.int .i64 0))
                clear hBr hP
                go_wp2_with (first
                  | (with_reducible refine at_store 24 (.tmp 13) (.tmp 61) ?_; refine wpList_store_mid rfl 24 (.tmp 13) (.tmp 61) rfl px.heap.size 0 cd.toArray rfl rfl HThcd.out HSicd.out HOncd.out ?_; rw [← HWncd.out])
                  | (with_reducible refine at_store 54 (.tmp 2) (.tmp 75) ?_; refine wpList_store_mid rfl 54 (.tmp 2) (.tmp 75) rfl (tb + 1) 0 #[.int .i64 0, .int .i64 0, .int .i64 0, .int .i64 0, .int .i64 0, .int .i64 0, .int .i64 0] rfl rfl HTh.out HSi.out (one7 _ _ _ _ _ _ _) ?_))
                refine bodyPost_ret (results_row2 rfl _ _ (tb + 1) _ [.int .i64 0, .int .i64 0, .int .i64 0, .int .i64 0, .int .i64 0, .int .i64 0, .int .i64 0] _ rfl HB9.out Try.underlying54 rfl size54) rfl ?_
                exact ⟨by rw [HFr.out]; rfl, HP8.out⟩
          · have HFt : Hid (F = tailR G3 R1) := Lib.hid (by rw [HFb.out, if_neg hBw])
            clear HFb hBD hRD
            unfold tailR at HFt
            have hRp : wc.rangeAt tb 0 (Value.slice oa on oc :: gcs) := hBt.range
            rw [← HWwc.out] at hRp
            go_wp2_with (first
              | (with_reducible refine at_load 47 (.tmp 1) ?_; refine wpList_load_mid rfl 47 (.tmp 1) rfl tb 0 rfl (Value.slice oa on oc :: gcs) _ hRp Try.underlying47 rfl (sz47 HL5.out) ?_))
            rw [HWwc.out]
            clear hRp
            refine (HN3.out wc hP).mono ?_
            rintro e qx ⟨cd, rfl, hLc, hPz⟩
            have hBt := hBt.ext hPz id
            have hBr := hBr.ext hPz id
            have hBR := hBR.ext hPz id
            have hP := hP.pure hPz
            have hbx : tb + 2 ≤ qx.heap.size ∧ w5.heap.size < qx.heap.size := by have := hBR.lt; have := hBr.lt; omega
            clear hPz HN3
            obtain ⟨hth, hB6, hPx⟩ := put_new (W := qx) _ rfl (d := d + 1) (hLc.pure (hP0.pure hP))
            obtain ⟨qy, hwn⟩ : ∃ z, z = (qx.alloc (.cells zeroCs.toArray 24)).setCells qx.heap.size 0 cd := ⟨_, rfl⟩
            rw [← hwn] at hB6 hPx
            have hl6 := hLc.len
            have HThcd := Lib.hid (show (qx.alloc (.cells #[.int .i64 0, .int .i64 0, .string ⟨#[]⟩, .slice none 0 0] 24)).there qx.heap.size 0 cd.toArray.size by rw [show cd.toArray.size = 4 by simpa using hl6]; exact hth)
            have HSicd : Hid ((Try.prog.info? 24).map (·.size) = some cd.toArray.size) := Lib.hid (by rw [List.size_toArray, hl6]; exact size24)
            have HOncd := Lib.hid hLc.one
            have HWncd : Hid (qy = (qx.alloc (.cells #[.int .i64 0, .int .i64 0, .string ⟨#[]⟩, .slice none 0 0] 24)).setCells qx.heap.size 0 cd.toArray.toList) := Lib.hid (by rw [hwn]; rfl)
            have hBt := hBt.ext hPx id
            have hBr := hBr.ext hPx id
            have hBR := hBR.ext hPx id
            have hP := hP.pure hPx
            have hL6 := hLc
            clear hwn hth hPx hLc
            obtain ⟨ya, ym, yc, hy⟩ : ∃ ya ym yc, cd = [.int .i64 G3.1.kind, .int .i64 G3.1.n, .string G3.1.s, .slice ya ym yc] := by
              obtain ⟨a', c', _, he, _⟩ := hL6.kids
              exact ⟨_, _, _, he⟩
            have y0 : qy.cell? ⟨qx.heap.size, 0, none⟩ = some (.int .i64 G3.1.kind) := (hB6.cell 0).trans (by rw [hy]; rfl)
            have y1 : qy.cell? ⟨qx.heap.size, 1, none⟩ = some (.int .i64 G3.1.n) := (hB6.cell 1).trans (by rw [hy]; rfl)
            obtain ⟨is3, his3⟩ : ∃ z, z = G3.2 := ⟨_, rfl⟩
            rw [← his3] at HFt ⊢
            have hRR := hBR.range
            have r0 : qy.cell? ⟨w5.heap.size, 2, none⟩ = some (.int .i64 R1.w) := hBR.cell 2
            have r1 : qy.cell? ⟨w5.heap.size, 3, none⟩ = some (.int .i64 R1.h) := hBR.cell 3
            obtain ⟨k3, hk3⟩ : ∃ z, z = G3.1.kind := ⟨_, rfl⟩
            obtain ⟨n3, hn3⟩ : ∃ z, z = G3.1.n := ⟨_, rfl⟩
            rw [← hk3] at y0 HFt
            rw [← hn3] at y1 HFt
            have hby := hB6.lt
            clear his3 hL6 hl6 hy hB6 hk3 hn3 hBt
            obtain ⟨w8, hw8⟩ : ∃ z, z = qy.alloc (.cells #[.int .i64 R1.x, .int .i64 R1.y, .int .i64 R1.w, .int .i64 R1.h, .int .i64 0, .int .i64 R1.w, .int .i64 R1.h] 54) := ⟨_, rfl⟩
            have hBS : BlockIs w8 qy.heap.size [.int .i64 R1.x, .int .i64 R1.y, .int .i64 R1.w, .int .i64 R1.h, .int .i64 0, .int .i64 R1.w, .int .i64 R1.h] 54 := hw8 ▸ BlockIs.new qy _ _
            have hP8 : Pure qy w8 := hw8 ▸ ext_alloc qy _
            have HW8 : Hid (qy.alloc (.cells #[.int .i64 R1.x, .int .i64 R1.y, .int .i64 R1.w, .int .i64 R1.h, .int .i64 0, .int .i64 R1.w, .int .i64 R1.h] 54) = w8) := Lib.hid hw8.symm
            cases is3 with
            | false =>
              have HFr : Hid (F = (⟨R1, 0, R1.w, R1.h⟩, 0)) := Lib.hid (by rw [HFt.out]; rfl)
              have hBr := hBr.ext hP8 id
              have hP := hP.pure hP8
              have hRS : w8.rangeAt qy.heap.size 0 [.int .i64 R1.x, .int .i64 R1.y, .int .i64 R1.w, .int .i64 R1.h, .int .i64 0, .int .i64 R1.w, .int .i64 R1.h] := hBS.range
              rw [← HW8.out] at hBr hP hRS
              clear HFt hBS hP8 hw8 hBR
              have HTh : Hid ((qy.alloc (.cells #[.int .i64 R1.x, .int .i64 R1.y, .int .i64 R1.w, .int .i64 R1.h, .int .i64 0, .int .i64 R1.w, .int .i64 R1.h] 54)).there (tb + 1) 0 (#[.int .i64 R1.x, .int .i64 R1.y, .int .i64 R1.w, .int .i64 R1.h, .int .i64 0, .int .i64 R1.w, .int .i64 R1.h] : Array Value).size) := Lib.hid (hBr.there 7 rfl)
              have HSi : Hid ((Try.prog.info? 54).map (·.size) = some (#[.int .i64 R1.x, .int .i64 R1.y, .int .i64 R1.w, .int .i64 R1.h, .int .i64 0, .int .i64 R1.w, .int .i64 R1.h] : Array Value).size) := Lib.hid size54
              have HP8 : Hid (Pure w ((qy.alloc (.cells #[.int .i64 R1.x, .int .i64 R1.y, .int .i64 R1.w, .int .i64 R1.h, .int .i64 0, .int .i64 R1.w, .int .i64 R1.h] 54)).setCells (tb + 1) 0 [.int .i64 R1.x, .int .i64 R1.y, .int .i64 R1.w, .int .i64 R1.h, .int .i64 0, .int .i64 R1.w, .int .i64 R1.h])) := Lib.hid (Ext.setCells _ 0 (qy.alloc (.cells #[.int .i64 R1.x, .int .i64 R1.y, .int .i64 R1.w, .int .i64 R1.h, .int .i64 0, .int .i64 R1.w, .int .i64 R1.h] 54)) hP (b := tb + 1) (fun h => by have := HTb.out; omega))
              have HB9 := Lib.hid (set7 hBr rfl (.int .i64 R1.x) (.int .i64 R1.y) (.int .i64 R1.w) (.int .i64 R1.h) (.int .i64 0) (.int .i64 R1.w) (.int .i64 R1.h))
              clear hBr hP
              go_wp2_with (first
                | (with_reducible refine at_store 24 (.tmp 13) (.tmp 61) ?_; refine wpList_store_mid rfl 24 (.tmp 13) (.tmp 61) rfl qx.heap.size 0 cd.toArray rfl rfl HThcd.out HSicd.out HOncd.out ?_; rw [← HWncd.out])
                | (with_reducible refine at_load 32 (.tmp 6) ?_; refine wpList_load_mid rfl 32 (.tmp 6) rfl w5.heap.size 0 rfl [.int .i64 R1.x, .int .i64 R1.y, .int .i64 R1.w, .int .i64 R1.h] _ hRR Try.underlying32 rfl (sz28r _ _ _ _) ?_)
                | (with_reducible refine at_load 54 (.tmp 15) ?_; refine wpList_load_mid rfl 54 (.tmp 15) rfl qy.heap.size 0 rfl [.int .i64 R1.x, .int .i64 R1.y, .int .i64 R1.w, .int .i64 R1.h, .int .i64 0, .int .i64 R1.w, .int .i64 R1.h] _ hRS Try.underlying54 rfl (sz54 _ _ _ _ _ _ _) ?_)
                | (with_reducible refine at_store 54 (.tmp 2) (.tmp 102) ?_; refine wpList_store_mid rfl 54 (.tmp 2) (.tmp 102) rfl (tb + 1) 0 #[.int .i64 R1.x, .int .i64 R1.y, .int .i64 R1.w, .int .i64 R1.h, .int .i64 0, .int .i64 R1.w, .int .i64 R1.h] rfl rfl HTh.out HSi.out (one7 _ _ _ _ _ _ _) ?_))
              refine bodyPost_ret (results_row2 rfl _ _ (tb + 1) _ [.int .i64 R1.x, .int .i64 R1.y, .int .i64 R1.w, .int .i64 R1.h, .int .i64 0, .int .i64 R1.w, .int .i64 R1.h] _ rfl HB9.out Try.underlying54 rfl size54) rfl ?_
              exact ⟨by rw [HFr.out]; rfl, HP8.out⟩
            | true =>
              by_cases hk : k3 = 2
              · subst hk
                by_cases hn : n3.tmod 90 = 0
                · have hn0 : (n3.tmod 90 != 0) = false := by rw [hn]; rfl
                  obtain ⟨X, hX⟩ : ∃ z, z = wrap64 (n3.tdiv 90) := ⟨_, rfl⟩
                  have x1 : wrap64 (n3.tdiv 90) = X := hX.symm
                  have x2 : IntKind.i64.wrap (n3.tdiv 90) = X := by rw [hX, IntKind.wrap_i64]; unfold wrap64; omega
                  have HFq : Hid (F = (mkSn R1 (q4 X), 0)) := Lib.hid (by rw [HFt.out]; simp [hn, ← hX])
                  have y1' : (qy.alloc (.cells #[.int .i64 R1.x, .int .i64 R1.y, .int .i64 R1.w, .int .i64 R1.h, .int .i64 0, .int .i64 R1.w, .int .i64 R1.h] 54)).cell? ⟨qx.heap.size, 1, none⟩ = some (.int .i64 n3) := by rw [HW8.out]; exact hP8.cell_some y1 id
                  have hBr := hBr.ext hP8 id
                  have hP := hP.pure hP8
                  have HTi := Lib.hid (times_any X w8)
                  obtain ⟨qv, hqv⟩ : ∃ z : Int, z = (q4 X : Int) := ⟨_, rfl⟩
                  rw [← hqv] at HTi HFq
                  have hq4 : qv = 0 ∨ qv = 1 ∨ qv = 2 ∨ qv = 3 := by have := q4_lt X; omega
                  have hbb : tb + 1 < qy.heap.size := by omega
                  clear HFt hX hw8 hBR hn hqv hP8
                  go_wp2_with (first
                    | (with_reducible refine at_store 24 (.tmp 13) (.tmp 61) ?_; refine wpList_store_mid rfl 24 (.tmp 13) (.tmp 61) rfl qx.heap.size 0 cd.toArray rfl rfl HThcd.out HSicd.out HOncd.out ?_; rw [← HWncd.out])
                    | (with_reducible refine at_load 32 (.tmp 6) ?_; refine wpList_load_mid rfl 32 (.tmp 6) rfl w5.heap.size 0 rfl [.int .i64 R1.x, .int .i64 R1.y, .int .i64 R1.w, .int .i64 R1.h] _ hRR Try.underlying32 rfl (sz28r _ _ _ _) ?_))
                  rw [HW8.out]
                  refine HTi.out.mono ?_
                  rintro e w9 ⟨rfl, hP9⟩
                  have hBS := hBS.ext hP9 id
                  have hBr := hBr.ext hP9 id
                  have hP := hP.pure hP9
                  obtain ⟨bS, hbS⟩ : ∃ z, z = qy.heap.size := ⟨_, rfl⟩
                  rw [← hbS] at hBS hbb ⊢
                  have e4 : w9.cell? ⟨bS, 4, none⟩ = some (.int .i64 0) := hBS.cell 4
                  have f4 : w9.frozen? ⟨bS, 4, none⟩ = false := hBS.free 4
                  have e5 : w9.cell? ⟨bS, 5, none⟩ = some (.int .i64 R1.w) := hBS.cell 5
                  have f5 : w9.frozen? ⟨bS, 5, none⟩ = false := hBS.free 5
                  have e6 : w9.cell? ⟨bS, 6, none⟩ = some (.int .i64 R1.h) := hBS.cell 6
                  have f6 : w9.frozen? ⟨bS, 6, none⟩ = false := hBS.free 6
                  clear y0 y1 y1' hRR r0 r1 hP9 HTi HW8 x1 x2 hn0 hbS
                  rcases hq4 with rfl | rfl | rfl | rfl
                  · have HFr : Hid (F = (⟨R1, 0, R1.w, R1.h⟩, 0)) := Lib.hid (by rw [HFq.out]; rfl)
                    have hBz : BlockIs (w9.setCell ⟨bS, 4, none⟩ (.int .i64 0)) bS [.int .i64 R1.x, .int .i64 R1.y, .int .i64 R1.w, .int .i64 R1.h, .int .i64 0, .int .i64 R1.w, .int .i64 R1.h] 54 := (hBS.set 4 (.int .i64 0))
                    have hXz : Ext (fun k => k = bS) w9 (w9.setCell ⟨bS, 4, none⟩ (.int .i64 0)) := ((Ext.refl (fun k => k = bS) w9).setCell (p := ⟨bS, 4, none⟩) (fun _ => rfl) _)
                    have hBr := hBr.ext hXz (fun e => by have e' : tb + 1 = bS := e; omega)
                    have hP : Pure w (w9.setCell ⟨bS, 4, none⟩ (.int .i64 0)) := hP.trans hXz (fun i hi e => by have e' : i = bS := e; have := HTb.out; omega)
                    have hRS := hBz.range
                    clear hXz hBz hBS HFq
                    have HTh : Hid ((w9.setCell ⟨bS, 4, none⟩ (.int .i64 0)).there (tb + 1) 0 (#[.int .i64 R1.x, .int .i64 R1.y, .int .i64 R1.w, .int .i64 R1.h, .int .i64 0, .int .i64 R1.w, .int .i64 R1.h] : Array Value).size) := Lib.hid (hBr.there 7 rfl)
                    have HSi : Hid ((Try.prog.info? 54).map (·.size) = some (#[.int .i64 R1.x, .int .i64 R1.y, .int .i64 R1.w, .int .i64 R1.h, .int .i64 0, .int .i64 R1.w, .int .i64 R1.h] : Array Value).size) := Lib.hid size54
                    have HP8 : Hid (Pure w ((w9.setCell ⟨bS, 4, none⟩ (.int .i64 0)).setCells (tb + 1) 0 [.int .i64 R1.x, .int .i64 R1.y, .int .i64 R1.w, .int .i64 R1.h, .int .i64 0, .int .i64 R1.w, .int .i64 R1.h])) := Lib.hid (Ext.setCells _ 0 (w9.setCell ⟨bS, 4, none⟩ (.int .i64 0)) hP (b := tb + 1) (fun h => by have := HTb.out; omega))
                    have HB9 := Lib.hid (set7 hBr rfl (.int .i64 R1.x) (.int .i64 R1.y) (.int .i64 R1.w) (.int .i64 R1.h) (.int .i64 0) (.int .i64 R1.w) (.int .i64 R1.h))
                    clear hBr hP
                    go_wp2_with (first
                      | (with_reducible refine at_load 54 (.tmp 15) ?_; refine wpList_load_mid rfl 54 (.tmp 15) rfl bS 0 rfl [.int .i64 R1.x, .int .i64 R1.y, .int .i64 R1.w, .int .i64 R1.h, .int .i64 0, .int .i64 R1.w, .int .i64 R1.h] _ hRS Try.underlying54 rfl (sz54 _ _ _ _ _ _ _) ?_)
                      | (with_reducible refine at_store 54 (.tmp 2) (.tmp 102) ?_; refine wpList_store_mid rfl 54 (.tmp 2) (.tmp 102) rfl (tb + 1) 0 #[.int .i64 R1.x, .int .i64 R1.y, .int .i64 R1.w, .int .i64 R1.h, .int .i64 0, .int .i64 R1.w, .int .i64 R1.h] rfl rfl HTh.out HSi.out (one7 _ _ _ _ _ _ _) ?_))
                    refine bodyPost_ret (results_row2 rfl _ _ (tb + 1) _ [.int .i64 R1.x, .int .i64 R1.y, .int .i64 R1.w, .int .i64 R1.h, .int .i64 0, .int .i64 R1.w, .int .i64 R1.h] _ rfl HB9.out Try.underlying54 rfl size54) rfl ?_
                    exact ⟨by rw [HFr.out]; rfl, HP8.out⟩
                  · have HFr : Hid (F = (⟨R1, 1, R1.h, R1.w⟩, 0)) := Lib.hid (by rw [HFq.out]; rfl)
                    have hBz : BlockIs (((w9.setCell ⟨bS, 4, none⟩ (.int .i64 1)).setCell ⟨bS, 5, none⟩ (.int .i64 R1.h)).setCell ⟨bS, 6, none⟩ (.int .i64 R1.w)) bS [.int .i64 R1.x, .int .i64 R1.y, .int .i64 R1.w, .int .i64 R1.h, .int .i64 1, .int .i64 R1.h, .int .i64 R1.w] 54 := (((hBS.set 4 (.int .i64 1)).set 5 (.int .i64 R1.h)).set 6 (.int .i64 R1.w))
                    have hXz : Ext (fun k => k = bS) w9 (((w9.setCell ⟨bS, 4, none⟩ (.int .i64 1)).setCell ⟨bS, 5, none⟩ (.int .i64 R1.h)).setCell ⟨bS, 6, none⟩ (.int .i64 R1.w)) := ((((Ext.refl (fun k => k = bS) w9).setCell (p := ⟨bS, 4, none⟩) (fun _ => rfl) _).setCell (p := ⟨bS, 5, none⟩) (fun _ => rfl) _).setCell (p := ⟨bS, 6, none⟩) (fun _ => rfl) _)
                    have hBr := hBr.ext hXz (fun e => by have e' : tb + 1 = bS := e; omega)
                    have hP : Pure w (((w9.setCell ⟨bS, 4, none⟩ (.int .i64 1)).setCell ⟨bS, 5, none⟩ (.int .i64 R1.h)).setCell ⟨bS, 6, none⟩ (.int .i64 R1.w)) := hP.trans hXz (fun i hi e => by have e' : i = bS := e; have := HTb.out; omega)
                    have hRS := hBz.range
                    clear hXz hBz hBS HFq
                    have HTh : Hid ((((w9.setCell ⟨bS, 4, none⟩ (.int .i64 1)).setCell ⟨bS, 5, none⟩ (.int .i64 R1.h)).setCell ⟨bS, 6, none⟩ (.int .i64 R1.w)).there (tb + 1) 0 (#[.int .i64 R1.x, .int .i64 R1.y, .int .i64 R1.w, .int .i64 R1.h, .int .i64 1, .int .i64 R1.h, .int .i64 R1.w] : Array Value).size) := Lib.hid (hBr.there 7 rfl)
                    have HSi : Hid ((Try.prog.info? 54).map (·.size) = some (#[.int .i64 R1.x, .int .i64 R1.y, .int .i64 R1.w, .int .i64 R1.h, .int .i64 1, .int .i64 R1.h, .int .i64 R1.w] : Array Value).size) := Lib.hid size54
                    have HP8 : Hid (Pure w ((((w9.setCell ⟨bS, 4, none⟩ (.int .i64 1)).setCell ⟨bS, 5, none⟩ (.int .i64 R1.h)).setCell ⟨bS, 6, none⟩ (.int .i64 R1.w)).setCells (tb + 1) 0 [.int .i64 R1.x, .int .i64 R1.y, .int .i64 R1.w, .int .i64 R1.h, .int .i64 1, .int .i64 R1.h, .int .i64 R1.w])) := Lib.hid (Ext.setCells _ 0 (((w9.setCell ⟨bS, 4, none⟩ (.int .i64 1)).setCell ⟨bS, 5, none⟩ (.int .i64 R1.h)).setCell ⟨bS, 6, none⟩ (.int .i64 R1.w)) hP (b := tb + 1) (fun h => by have := HTb.out; omega))
                    have HB9 := Lib.hid (set7 hBr rfl (.int .i64 R1.x) (.int .i64 R1.y) (.int .i64 R1.w) (.int .i64 R1.h) (.int .i64 1) (.int .i64 R1.h) (.int .i64 R1.w))
                    clear hBr hP
                    go_wp2_with (first
                      | (with_reducible refine at_load 54 (.tmp 15) ?_; refine wpList_load_mid rfl 54 (.tmp 15) rfl bS 0 rfl [.int .i64 R1.x, .int .i64 R1.y, .int .i64 R1.w, .int .i64 R1.h, .int .i64 1, .int .i64 R1.h, .int .i64 R1.w] _ hRS Try.underlying54 rfl (sz54 _ _ _ _ _ _ _) ?_)
                      | (with_reducible refine at_store 54 (.tmp 2) (.tmp 102) ?_; refine wpList_store_mid rfl 54 (.tmp 2) (.tmp 102) rfl (tb + 1) 0 #[.int .i64 R1.x, .int .i64 R1.y, .int .i64 R1.w, .int .i64 R1.h, .int .i64 1, .int .i64 R1.h, .int .i64 R1.w] rfl rfl HTh.out HSi.out (one7 _ _ _ _ _ _ _) ?_))
                    refine bodyPost_ret (results_row2 rfl _ _ (tb + 1) _ [.int .i64 R1.x, .int .i64 R1.y, .int .i64 R1.w, .int .i64 R1.h, .int .i64 1, .int .i64 R1.h, .int .i64 R1.w] _ rfl HB9.out Try.underlying54 rfl size54) rfl ?_
                    exact ⟨by rw [HFr.out]; rfl, HP8.out⟩
                  · have HFr : Hid (F = (⟨R1, 2, R1.w, R1.h⟩, 0)) := Lib.hid (by rw [HFq.out]; rfl)
                    have hBz : BlockIs (w9.setCell ⟨bS, 4, none⟩ (.int .i64 2)) bS [.int .i64 R1.x, .int .i64 R1.y, .int .i64 R1.w, .int .i64 R1.h, .int .i64 2, .int .i64 R1.w, .int .i64 R1.h] 54 := (hBS.set 4 (.int .i64 2))
                    have hXz : Ext (fun k => k = bS) w9 (w9.setCell ⟨bS, 4, none⟩ (.int .i64 2)) := ((Ext.refl (fun k => k = bS) w9).setCell (p := ⟨bS, 4, none⟩) (fun _ => rfl) _)
                    have hBr := hBr.ext hXz (fun e => by have e' : tb + 1 = bS := e; omega)
                    have hP : Pure w (w9.setCell ⟨bS, 4, none⟩ (.int .i64 2)) := hP.trans hXz (fun i hi e => by have e' : i = bS := e; have := HTb.out; omega)
                    have hRS := hBz.range
                    clear hXz hBz hBS HFq
                    have HTh : Hid ((w9.setCell ⟨bS, 4, none⟩ (.int .i64 2)).there (tb + 1) 0 (#[.int .i64 R1.x, .int .i64 R1.y, .int .i64 R1.w, .int .i64 R1.h, .int .i64 2, .int .i64 R1.w, .int .i64 R1.h] : Array Value).size) := Lib.hid (hBr.there 7 rfl)
                    have HSi : Hid ((Try.prog.info? 54).map (·.size) = some (#[.int .i64 R1.x, .int .i64 R1.y, .int .i64 R1.w, .int .i64 R1.h, .int .i64 2, .int .i64 R1.w, .int .i64 R1.h] : Array Value).size) := Lib.hid size54
                    have HP8 : Hid (Pure w ((w9.setCell ⟨bS, 4, none⟩ (.int .i64 2)).setCells (tb + 1) 0 [.int .i64 R1.x, .int .i64 R1.y, .int .i64 R1.w, .int .i64 R1.h, .int .i64 2, .int .i64 R1.w, .int .i64 R1.h])) := Lib.hid (Ext.setCells _ 0 (w9.setCell ⟨bS, 4, none⟩ (.int .i64 2)) hP (b := tb + 1) (fun h => by have := HTb.out; omega))
                    have HB9 := Lib.hid (set7 hBr rfl (.int .i64 R1.x) (.int .i64 R1.y) (.int .i64 R1.w) (.int .i64 R1.h) (.int .i64 2) (.int .i64 R1.w) (.int .i64 R1.h))
                    clear hBr hP
                    go_wp2_with (first
                      | (with_reducible refine at_load 54 (.tmp 15) ?_; refine wpList_load_mid rfl 54 (.tmp 15) rfl bS 0 rfl [.int .i64 R1.x, .int .i64 R1.y, .int .i64 R1.w, .int .i64 R1.h, .int .i64 2, .int .i64 R1.w, .int .i64 R1.h] _ hRS Try.underlying54 rfl (sz54 _ _ _ _ _ _ _) ?_)
                      | (with_reducible refine at_store 54 (.tmp 2) (.tmp 102) ?_; refine wpList_store_mid rfl 54 (.tmp 2) (.tmp 102) rfl (tb + 1) 0 #[.int .i64 R1.x, .int .i64 R1.y, .int .i64 R1.w, .int .i64 R1.h, .int .i64 2, .int .i64 R1.w, .int .i64 R1.h] rfl rfl HTh.out HSi.out (one7 _ _ _ _ _ _ _) ?_))
                    refine bodyPost_ret (results_row2 rfl _ _ (tb + 1) _ [.int .i64 R1.x, .int .i64 R1.y, .int .i64 R1.w, .int .i64 R1.h, .int .i64 2, .int .i64 R1.w, .int .i64 R1.h] _ rfl HB9.out Try.underlying54 rfl size54) rfl ?_
                    exact ⟨by rw [HFr.out]; rfl, HP8.out⟩
                  · have HFr : Hid (F = (⟨R1, 3, R1.h, R1.w⟩, 0)) := Lib.hid (by rw [HFq.out]; rfl)
                    have hBz : BlockIs (((w9.setCell ⟨bS, 4, none⟩ (.int .i64 3)).setCell ⟨bS, 5, none⟩ (.int .i64 R1.h)).setCell ⟨bS, 6, none⟩ (.int .i64 R1.w)) bS [.int .i64 R1.x, .int .i64 R1.y, .int .i64 R1.w, .int .i64 R1.h, .int .i64 3, .int .i64 R1.h, .int .i64 R1.w] 54 := (((hBS.set 4 (.int .i64 3)).set 5 (.int .i64 R1.h)).set 6 (.int .i64 R1.w))
                    have hXz : Ext (fun k => k = bS) w9 (((w9.setCell ⟨bS, 4, none⟩ (.int .i64 3)).setCell ⟨bS, 5, none⟩ (.int .i64 R1.h)).setCell ⟨bS, 6, none⟩ (.int .i64 R1.w)) := ((((Ext.refl (fun k => k = bS) w9).setCell (p := ⟨bS, 4, none⟩) (fun _ => rfl) _).setCell (p := ⟨bS, 5, none⟩) (fun _ => rfl) _).setCell (p := ⟨bS, 6, none⟩) (fun _ => rfl) _)
                    have hBr := hBr.ext hXz (fun e => by have e' : tb + 1 = bS := e; omega)
                    have hP : Pure w (((w9.setCell ⟨bS, 4, none⟩ (.int .i64 3)).setCell ⟨bS, 5, none⟩ (.int .i64 R1.h)).setCell ⟨bS, 6, none⟩ (.int .i64 R1.w)) := hP.trans hXz (fun i hi e => by have e' : i = bS := e; have := HTb.out; omega)
                    have hRS := hBz.range
                    clear hXz hBz hBS HFq
                    have HTh : Hid ((((w9.setCell ⟨bS, 4, none⟩ (.int .i64 3)).setCell ⟨bS, 5, none⟩ (.int .i64 R1.h)).setCell ⟨bS, 6, none⟩ (.int .i64 R1.w)).there (tb + 1) 0 (#[.int .i64 R1.x, .int .i64 R1.y, .int .i64 R1.w, .int .i64 R1.h, .int .i64 3, .int .i64 R1.h, .int .i64 R1.w] : Array Value).size) := Lib.hid (hBr.there 7 rfl)
                    have HSi : Hid ((Try.prog.info? 54).map (·.size) = some (#[.int .i64 R1.x, .int .i64 R1.y, .int .i64 R1.w, .int .i64 R1.h, .int .i64 3, .int .i64 R1.h, .int .i64 R1.w] : Array Value).size) := Lib.hid size54
                    have HP8 : Hid (Pure w ((((w9.setCell ⟨bS, 4, none⟩ (.int .i64 3)).setCell ⟨bS, 5, none⟩ (.int .i64 R1.h)).setCell ⟨bS, 6, none⟩ (.int .i64 R1.w)).setCells (tb + 1) 0 [.int .i64 R1.x, .int .i64 R1.y, .int .i64 R1.w, .int .i64 R1.h, .int .i64 3, .int .i64 R1.h, .int .i64 R1.w])) := Lib.hid (Ext.setCells _ 0 (((w9.setCell ⟨bS, 4, none⟩ (.int .i64 3)).setCell ⟨bS, 5, none⟩ (.int .i64 R1.h)).setCell ⟨bS, 6, none⟩ (.int .i64 R1.w)) hP (b := tb + 1) (fun h => by have := HTb.out; omega))
                    have HB9 := Lib.hid (set7 hBr rfl (.int .i64 R1.x) (.int .i64 R1.y) (.int .i64 R1.w) (.int .i64 R1.h) (.int .i64 3) (.int .i64 R1.h) (.int .i64 R1.w))
                    clear hBr hP
                    go_wp2_with (first
                      | (with_reducible refine at_load 54 (.tmp 15) ?_; refine wpList_load_mid rfl 54 (.tmp 15) rfl bS 0 rfl [.int .i64 R1.x, .int .i64 R1.y, .int .i64 R1.w, .int .i64 R1.h, .int .i64 3, .int .i64 R1.h, .int .i64 R1.w] _ hRS Try.underlying54 rfl (sz54 _ _ _ _ _ _ _) ?_)
                      | (with_reducible refine at_store 54 (.tmp 2) (.tmp 102) ?_; refine wpList_store_mid rfl 54 (.tmp 2) (.tmp 102) rfl (tb + 1) 0 #[.int .i64 R1.x, .int .i64 R1.y, .int .i64 R1.w, .int .i64 R1.h, .int .i64 3, .int .i64 R1.h, .int .i64 R1.w] rfl rfl HTh.out HSi.out (one7 _ _ _ _ _ _ _) ?_))
                    refine bodyPost_ret (results_row2 rfl _ _ (tb + 1) _ [.int .i64 R1.x, .int .i64 R1.y, .int .i64 R1.w, .int .i64 R1.h, .int .i64 3, .int .i64 R1.h, .int .i64 R1.w] _ rfl HB9.out Try.underlying54 rfl size54) rfl ?_
                    exact ⟨by rw [HFr.out]; rfl, HP8.out⟩
                · have hn' : (n3.tmod 90 != 0) = true := by simpa using hn
                  have HFr : Hid (F = (.zero, 2)) := Lib.hid (by rw [HFt.out]; simp [hn])
                  clear HFt hBS hP8 hw8 HW8 hBR hn
                  have HTh : Hid (qy.there (tb + 1) 0 (#[.int .i64 0, .int .i64 0, .int .i64 0, .int .i64 0, .int .i64 0, .int .i64 0, .int .i64 0] : Array Value).size) := Lib.hid (hBr.there 7 rfl)
                  have HSi : Hid ((Try.prog.info? 54).map (·.size) = some (#[.int .i64 0, .int .i64 0, .int .i64 0, .int .i64 0, .int .i64 0, .int .i64 0, .int .i64 0] : Array Value).size) := Lib.hid size54
                  have HP8 : Hid (Pure w (qy.setCells (tb + 1) 0 [.int .i64 0, .int .i64 0, .int .i64 0, .int .i64 0, .int .i64 0, .int .i64 0, .int .i64 0])) := Lib.hid (Ext.setCells _ 0 qy hP (b := tb + 1) (fun h => by have := HTb.out; omega))
                  have HB9 := Lib.hid (set7 hBr rfl (.int .i64 0) (.int .i64 0) (.int .i64 0) (.int .i64 0) (.int .i64 0) (.int .i64 0) (.int .i64 0))
                  clear hBr hP
                  go_wp2_with (first
                    | (with_reducible refine at_store 24 (.tmp 13) (.tmp 61) ?_; refine wpList_store_mid rfl 24 (.tmp 13) (.tmp 61) rfl qx.heap.size 0 cd.toArray rfl rfl HThcd.out HSicd.out HOncd.out ?_; rw [← HWncd.out])
                    | (with_reducible refine at_store 54 (.tmp 2) (.tmp 75) ?_; refine wpList_store_mid rfl 54 (.tmp 2) (.tmp 75) rfl (tb + 1) 0 #[.int .i64 0, .int .i64 0, .int .i64 0, .int .i64 0, .int .i64 0, .int .i64 0, .int .i64 0] rfl rfl HTh.out HSi.out (one7 _ _ _ _ _ _ _) ?_))
                  refine bodyPost_ret (results_row2 rfl _ _ (tb + 1) _ [.int .i64 0, .int .i64 0, .int .i64 0, .int .i64 0, .int .i64 0, .int .i64 0, .int .i64 0] _ rfl HB9.out Try.underlying54 rfl size54) rfl ?_
                  exact ⟨by rw [HFr.out]; rfl, HP8.out⟩
              · have hk' : (k3 != 2) = true := by simpa using hk
                have HFr : Hid (F = (.zero, 2)) := Lib.hid (by rw [HFt.out]; simp [hk])
                clear HFt hBS hP8 hw8 HW8 hBR hk
                have HTh : Hid (qy.there (tb + 1) 0 (#[.int .i64 0, .int .i64 0, .int .i64 0, .int .i64 0, .int .i64 0, .int .i64 0, .int .i64 0] : Array Value).size) := Lib.hid (hBr.there 7 rfl)
                have HSi : Hid ((Try.prog.info? 54).map (·.size) = some (#[.int .i64 0, .int .i64 0, .int .i64 0, .int .i64 0, .int .i64 0, .int .i64 0, .int .i64 0] : Array Value).size) := Lib.hid size54
                have HP8 : Hid (Pure w (qy.setCells (tb + 1) 0 [.int .i64 0, .int .i64 0, .int .i64 0, .int .i64 0, .int .i64 0, .int .i64 0, .int .i64 0])) := Lib.hid (Ext.setCells _ 0 qy hP (b := tb + 1) (fun h => by have := HTb.out; omega))
                have HB9 := Lib.hid (set7 hBr rfl (.int .i64 0) (.int .i64 0) (.int .i64 0) (.int .i64 0) (.int .i64 0) (.int .i64 0) (.int .i64 0))
                clear hBr hP
                go_wp2_with (first
                  | (with_reducible refine at_store 24 (.tmp 13) (.tmp 61) ?_; refine wpList_store_mid rfl 24 (.tmp 13) (.tmp 61) rfl qx.heap.size 0 cd.toArray rfl rfl HThcd.out HSicd.out HOncd.out ?_; rw [← HWncd.out])
                  | (with_reducible refine at_store 54 (.tmp 2) (.tmp 75) ?_; refine wpList_store_mid rfl 54 (.tmp 2) (.tmp 75) rfl (tb + 1) 0 #[.int .i64 0, .int .i64 0, .int .i64 0, .int .i64 0, .int .i64 0, .int .i64 0, .int .i64 0] rfl rfl HTh.out HSi.out (one7 _ _ _ _ _ _ _) ?_))
                refine bodyPost_ret (results_row2 rfl _ _ (tb + 1) _ [.int .i64 0, .int .i64 0, .int .i64 0, .int .i64 0, .int .i64 0, .int .i64 0, .int .i64 0] _ rfl HB9.out Try.underlying54 rfl size54) rfl ?_
                exact ⟨by rw [HFr.out]; rfl, HP8.out⟩
        · have hne2 : (e2 != 0) = true := by simpa using he2
          have HFr : Hid (F = (.zero, 2)) := Lib.hid (by rw [HFe.out]; simp [he2])
          rw [← HWwa.out] at hBr hP
          clear HFe he2 hBC hBR
          have HTh : Hid ((w9.alloc (.cells #[.int .i64 R2.x, .int .i64 R2.y, .int .i64 R2.w, .int .i64 R2.h] 32)).there (tb + 1) 0 (#[.int .i64 0, .int .i64 0, .int .i64 0, .int .i64 0, .int .i64 0, .int .i64 0, .int .i64 0] : Array Value).size) := Lib.hid (hBr.there 7 rfl)
          have HSi : Hid ((Try.prog.info? 54).map (·.size) = some (#[.int .i64 0, .int .i64 0, .int .i64 0, .int .i64 0, .int .i64 0, .int .i64 0, .int .i64 0] : Array Value).size) := Lib.hid size54
          have HP8 : Hid (Pure w ((w9.alloc (.cells #[.int .i64 R2.x, .int .i64 R2.y, .int .i64 R2.w, .int .i64 R2.h] 32)).setCells (tb + 1) 0 [.int .i64 0, .int .i64 0, .int .i64 0, .int .i64 0, .int .i64 0, .int .i64 0, .int .i64 0])) := Lib.hid (Ext.setCells _ 0 (w9.alloc (.cells #[.int .i64 R2.x, .int .i64 R2.y, .int .i64 R2.w, .int .i64 R2.h] 32)) hP (b := tb + 1) (fun h => by have := HTb.out; omega))
          have HB9 := Lib.hid (set7 hBr rfl (.int .i64 0) (.int .i64 0) (.int .i64 0) (.int .i64 0) (.int .i64 0) (.int .i64 0) (.int .i64 0))
          clear hBr hP
          go_wp2_with (first
            | (with_reducible refine at_store 54 (.tmp 2) (.tmp 50) ?_; refine wpList_store_mid rfl 54 (.tmp 2) (.tmp 50) rfl (tb + 1) 0 #[.int .i64 0, .int .i64 0, .int .i64 0, .int .i64 0, .int .i64 0, .int .i64 0, .int .i64 0] rfl rfl HTh.out HSi.out (one7 _ _ _ _ _ _ _) ?_))
          refine bodyPost_ret (results_row2 rfl _ _ (tb + 1) _ [.int .i64 0, .int .i64 0, .int .i64 0, .int .i64 0, .int .i64 0, .int .i64 0, .int .i64 0] _ rfl HB9.out Try.underlying54 rfl size54) rfl ?_
          exact ⟨by rw [HFr.out]; rfl, HP8.out⟩
      · have hi2' : G2.2 = false := by simpa using hi2
        rw [hi2']
        have HFt : Hid (F = tailR G3 R1) := Lib.hid (by rw [HFe.out, if_neg hi2])
        clear HFe hi2 hi2' hL6 hl6 hB6
        unfold tailR at HFt
        have hRp : w8.rangeAt tb 0 (Value.slice oa on oc :: gcs) := hBt.range
        go_wp2_with (first
          | (with_reducible refine at_store 24 (.tmp 8) (.tmp 40) ?_; refine wpList_store_mid rfl 24 (.tmp 8) (.tmp 40) rfl w7.heap.size 0 cc.toArray rfl rfl HThcc.out HSicc.out HOncc.out ?_; rw [← HWncc.out])
          | (with_reducible refine at_load 47 (.tmp 1) ?_; refine wpList_load_mid rfl 47 (.tmp 1) rfl tb 0 rfl (Value.slice oa on oc :: gcs) _ hRp Try.underlying47 rfl (sz47 HL5.out) ?_))
        clear hRp
        refine (HN3.out w8 hP).mono ?_
        rintro e rx ⟨cd, rfl, hLc, hPz⟩
        have hBt := hBt.ext hPz id
        have hBr := hBr.ext hPz id
        have hBR := hBR.ext hPz id
        have hP := hP.pure hPz
        have hbx : tb + 2 ≤ rx.heap.size ∧ w5.heap.size < rx.heap.size := by have := hBR.lt; have := hBr.lt; omega
        clear hPz HN3
        obtain ⟨hth, hB6, hPx⟩ := put_new (W := rx) _ rfl (d := d + 1) (hLc.pure (hP0.pure hP))
        obtain ⟨ry, hwn⟩ : ∃ z, z = (rx.alloc (.cells zeroCs.toArray 24)).setCells rx.heap.size 0 cd := ⟨_, rfl⟩
        rw [← hwn] at hB6 hPx
        have hl6 := hLc.len
        have HThcd := Lib.hid (show (rx.alloc (.cells #[.int .i64 0, .int .i64 0, .string ⟨#[]⟩, .slice none 0 0] 24)).there rx.heap.size 0 cd.toArray.size by rw [show cd.toArray.size = 4 by simpa using hl6]; exact hth)
        have HSicd : Hid ((Try.prog.info? 24).map (·.size) = some cd.toArray.size) := Lib.hid (by rw [List.size_toArray, hl6]; exact size24)
        have HOncd := Lib.hid hLc.one
        have HWncd : Hid (ry = (rx.alloc (.cells #[.int .i64 0, .int .i64 0, .string ⟨#[]⟩, .slice none 0 0] 24)).setCells rx.heap.size 0 cd.toArray.toList) := Lib.hid (by rw [hwn]; rfl)
        have hBt := hBt.ext hPx id
        have hBr := hBr.ext hPx id
        have hBR := hBR.ext hPx id
        have hP := hP.pure hPx
        have hL6 := hLc
        clear hwn hth hPx hLc
        obtain ⟨ya, ym, yc, hy⟩ : ∃ ya ym yc, cd = [.int .i64 G3.1.kind, .int .i64 G3.1.n, .string G3.1.s, .slice ya ym yc] := by
          obtain ⟨a', c', _, he, _⟩ := hL6.kids
          exact ⟨_, _, _, he⟩
        have y0 : ry.cell? ⟨rx.heap.size, 0, none⟩ = some (.int .i64 G3.1.kind) := (hB6.cell 0).trans (by rw [hy]; rfl)
        have y1 : ry.cell? ⟨rx.heap.size, 1, none⟩ = some (.int .i64 G3.1.n) := (hB6.cell 1).trans (by rw [hy]; rfl)
        obtain ⟨is3, his3⟩ : ∃ z, z = G3.2 := ⟨_, rfl⟩
        rw [← his3] at HFt ⊢
        have hRR := hBR.range
        have r0 : ry.cell? ⟨w5.heap.size, 2, none⟩ = some (.int .i64 R1.w) := hBR.cell 2
        have r1 : ry.cell? ⟨w5.heap.size, 3, none⟩ = some (.int .i64 R1.h) := hBR.cell 3
        obtain ⟨k3, hk3⟩ : ∃ z, z = G3.1.kind := ⟨_, rfl⟩
        obtain ⟨n3, hn3⟩ : ∃ z, z = G3.1.n := ⟨_, rfl⟩
        rw [← hk3] at y0 HFt
        rw [← hn3] at y1 HFt
        have hby := hB6.lt
        clear his3 hL6 hl6 hy hB6 hk3 hn3 hBt
        obtain ⟨w8, hw8⟩ : ∃ z, z = ry.alloc (.cells #[.int .i64 R1.x, .int .i64 R1.y, .int .i64 R1.w, .int .i64 R1.h, .int .i64 0, .int .i64 R1.w, .int .i64 R1.h] 54) := ⟨_, rfl⟩
        have hBS : BlockIs w8 ry.heap.size [.int .i64 R1.x, .int .i64 R1.y, .int .i64 R1.w, .int .i64 R1.h, .int .i64 0, .int .i64 R1.w, .int .i64 R1.h] 54 := hw8 ▸ BlockIs.new ry _ _
        have hP8 : Pure ry w8 := hw8 ▸ ext_alloc ry _
        have HW8 : Hid (ry.alloc (.cells #[.int .i64 R1.x, .int .i64 R1.y, .int .i64 R1.w, .int .i64 R1.h, .int .i64 0, .int .i64 R1.w, .int .i64 R1.h] 54) = w8) := Lib.hid hw8.symm
        cases is3 with
        | false =>
          have HFr : Hid (F = (⟨R1, 0, R1.w, R1.h⟩, 0)) := Lib.hid (by rw [HFt.out]; rfl)
          have hBr := hBr.ext hP8 id
          have hP := hP.pure hP8
          have hRS : w8.rangeAt ry.heap.size 0 [.int .i64 R1.x, .int .i64 R1.y, .int .i64 R1.w, .int .i64 R1.h, .int .i64 0, .int .i64 R1.w, .int .i64 R1.h] := hBS.range
          rw [← HW8.out] at hBr hP hRS
          clear HFt hBS hP8 hw8 hBR
          have HTh : Hid ((ry.alloc (.cells #[.int .i64 R1.x, .int .i64 R1.y, .int .i64 R1.w, .int .i64 R1.h, .int .i64 0, .int .i64 R1.w, .int .i64 R1.h] 54)).there (tb + 1) 0 (#[.int .i64 R1.x, .int .i64 R1.y, .int .i64 R1.w, .int .i64 R1.h, .int .i64 0, .int .i64 R1.w, .int .i64 R1.h] : Array Value).size) := Lib.hid (hBr.there 7 rfl)
          have HSi : Hid ((Try.prog.info? 54).map (·.size) = some (#[.int .i64 R1.x, .int .i64 R1.y, .int .i64 R1.w, .int .i64 R1.h, .int .i64 0, .int .i64 R1.w, .int .i64 R1.h] : Array Value).size) := Lib.hid size54
          have HP8 : Hid (Pure w ((ry.alloc (.cells #[.int .i64 R1.x, .int .i64 R1.y, .int .i64 R1.w, .int .i64 R1.h, .int .i64 0, .int .i64 R1.w, .int .i64 R1.h] 54)).setCells (tb + 1) 0 [.int .i64 R1.x, .int .i64 R1.y, .int .i64 R1.w, .int .i64 R1.h, .int .i64 0, .int .i64 R1.w, .int .i64 R1.h])) := Lib.hid (Ext.setCells _ 0 (ry.alloc (.cells #[.int .i64 R1.x, .int .i64 R1.y, .int .i64 R1.w, .int .i64 R1.h, .int .i64 0, .int .i64 R1.w, .int .i64 R1.h] 54)) hP (b := tb + 1) (fun h => by have := HTb.out; omega))
          have HB9 := Lib.hid (set7 hBr rfl (.int .i64 R1.x) (.int .i64 R1.y) (.int .i64 R1.w) (.int .i64 R1.h) (.int .i64 0) (.int .i64 R1.w) (.int .i64 R1.h))
          clear hBr hP
          go_wp2_with (first
            | (with_reducible refine at_store 24 (.tmp 13) (.tmp 61) ?_; refine wpList_store_mid rfl 24 (.tmp 13) (.tmp 61) rfl rx.heap.size 0 cd.toArray rfl rfl HThcd.out HSicd.out HOncd.out ?_; rw [← HWncd.out])
            | (with_reducible refine at_load 32 (.tmp 6) ?_; refine wpList_load_mid rfl 32 (.tmp 6) rfl w5.heap.size 0 rfl [.int .i64 R1.x, .int .i64 R1.y, .int .i64 R1.w, .int .i64 R1.h] _ hRR Try.underlying32 rfl (sz28r _ _ _ _) ?_)
            | (with_reducible refine at_load 54 (.tmp 15) ?_; refine wpList_load_mid rfl 54 (.tmp 15) rfl ry.heap.size 0 rfl [.int .i64 R1.x, .int .i64 R1.y, .int .i64 R1.w, .int .i64 R1.h, .int .i64 0, .int .i64 R1.w, .int .i64 R1.h] _ hRS Try.underlying54 rfl (sz54 _ _ _ _ _ _ _) ?_)
            | (with_reducible refine at_store 54 (.tmp 2) (.tmp 102) ?_; refine wpList_store_mid rfl 54 (.tmp 2) (.tmp 102) rfl (tb + 1) 0 #[.int .i64 R1.x, .int .i64 R1.y, .int .i64 R1.w, .int .i64 R1.h, .int .i64 0, .int .i64 R1.w, .int .i64 R1.h] rfl rfl HTh.out HSi.out (one7 _ _ _ _ _ _ _) ?_))
          refine bodyPost_ret (results_row2 rfl _ _ (tb + 1) _ [.int .i64 R1.x, .int .i64 R1.y, .int .i64 R1.w, .int .i64 R1.h, .int .i64 0, .int .i64 R1.w, .int .i64 R1.h] _ rfl HB9.out Try.underlying54 rfl size54) rfl ?_
          exact ⟨by rw [HFr.out]; rfl, HP8.out⟩
        | true =>
          by_cases hk : k3 = 2
          · subst hk
            by_cases hn : n3.tmod 90 = 0
            · have hn0 : (n3.tmod 90 != 0) = false := by rw [hn]; rfl
              obtain ⟨X, hX⟩ : ∃ z, z = wrap64 (n3.tdiv 90) := ⟨_, rfl⟩
              have x1 : wrap64 (n3.tdiv 90) = X := hX.symm
              have x2 : IntKind.i64.wrap (n3.tdiv 90) = X := by rw [hX, IntKind.wrap_i64]; unfold wrap64; omega
              have HFq : Hid (F = (mkSn R1 (q4 X), 0)) := Lib.hid (by rw [HFt.out]; simp [hn, ← hX])
              have y1' : (ry.alloc (.cells #[.int .i64 R1.x, .int .i64 R1.y, .int .i64 R1.w, .int .i64 R1.h, .int .i64 0, .int .i64 R1.w, .int .i64 R1.h] 54)).cell? ⟨rx.heap.size, 1, none⟩ = some (.int .i64 n3) := by rw [HW8.out]; exact hP8.cell_some y1 id
              have hBr := hBr.ext hP8 id
              have hP := hP.pure hP8
              have HTi := Lib.hid (times_any X w8)
              obtain ⟨qv, hqv⟩ : ∃ z : Int, z = (q4 X : Int) := ⟨_, rfl⟩
              rw [← hqv] at HTi HFq
              have hq4 : qv = 0 ∨ qv = 1 ∨ qv = 2 ∨ qv = 3 := by have := q4_lt X; omega
              have hbb : tb + 1 < ry.heap.size := by omega
              clear HFt hX hw8 hBR hn hqv hP8
              go_wp2_with (first
                | (with_reducible refine at_store 24 (.tmp 13) (.tmp 61) ?_; refine wpList_store_mid rfl 24 (.tmp 13) (.tmp 61) rfl rx.heap.size 0 cd.toArray rfl rfl HThcd.out HSicd.out HOncd.out ?_; rw [← HWncd.out])
                | (with_reducible refine at_load 32 (.tmp 6) ?_; refine wpList_load_mid rfl 32 (.tmp 6) rfl w5.heap.size 0 rfl [.int .i64 R1.x, .int .i64 R1.y, .int .i64 R1.w, .int .i64 R1.h] _ hRR Try.underlying32 rfl (sz28r _ _ _ _) ?_))
              rw [HW8.out]
              refine HTi.out.mono ?_
              rintro e w9 ⟨rfl, hP9⟩
              have hBS := hBS.ext hP9 id
              have hBr := hBr.ext hP9 id
              have hP := hP.pure hP9
              obtain ⟨bS, hbS⟩ : ∃ z, z = ry.heap.size := ⟨_, rfl⟩
              rw [← hbS] at hBS hbb ⊢
              have e4 : w9.cell? ⟨bS, 4, none⟩ = some (.int .i64 0) := hBS.cell 4
              have f4 : w9.frozen? ⟨bS, 4, none⟩ = false := hBS.free 4
              have e5 : w9.cell? ⟨bS, 5, none⟩ = some (.int .i64 R1.w) := hBS.cell 5
              have f5 : w9.frozen? ⟨bS, 5, none⟩ = false := hBS.free 5
              have e6 : w9.cell? ⟨bS, 6, none⟩ = some (.int .i64 R1.h) := hBS.cell 6
              have f6 : w9.frozen? ⟨bS, 6, none⟩ = false := hBS.free 6
              clear y0 y1 y1' hRR r0 r1 hP9 HTi HW8 x1 x2 hn0 hbS
              rcases hq4 with rfl | rfl | rfl | rfl
              · have HFr : Hid (F = (⟨R1, 0, R1.w, R1.h⟩, 0)) := Lib.hid (by rw [HFq.out]; rfl)
                have hBz : BlockIs (w9.setCell ⟨bS, 4, none⟩ (.int .i64 0)) bS [.int .i64 R1.x, .int .i64 R1.y, .int .i64 R1.w, .int .i64 R1.h, .int .i64 0, .int .i64 R1.w, .int .i64 R1.h] 54 := (hBS.set 4 (.int .i64 0))
                have hXz : Ext (fun k => k = bS) w9 (w9.setCell ⟨bS, 4, none⟩ (.int .i64 0)) := ((Ext.refl (fun k => k = bS) w9).setCell (p := ⟨bS, 4, none⟩) (fun _ => rfl) _)
                have hBr := hBr.ext hXz (fun e => by have e' : tb + 1 = bS := e; omega)
                have hP : Pure w (w9.setCell ⟨bS, 4, none⟩ (.int .i64 0)) := hP.trans hXz (fun i hi e => by have e' : i = bS := e; have := HTb.out; omega)
                have hRS := hBz.range
                clear hXz hBz hBS HFq
                have HTh : Hid ((w9.setCell ⟨bS, 4, none⟩ (.int .i64 0)).there (tb + 1) 0 (#[.int .i64 R1.x, .int .i64 R1.y, .int .i64 R1.w, .int .i64 R1.h, .int .i64 0, .int .i64 R1.w, .int .i64 R1.h] : Array Value).size) := Lib.hid (hBr.there 7 rfl)
                have HSi : Hid ((Try.prog.info? 54).map (·.size) = some (#[.int .i64 R1.x, .int .i64 R1.y, .int .i64 R1.w, .int .i64 R1.h, .int .i64 0, .int .i64 R1.w, .int .i64 R1.h] : Array Value).size) := Lib.hid size54
                have HP8 : Hid (Pure w ((w9.setCell ⟨bS, 4, none⟩ (.int .i64 0)).setCells (tb + 1) 0 [.int .i64 R1.x, .int .i64 R1.y, .int .i64 R1.w, .int .i64 R1.h, .int .i64 0, .int .i64 R1.w, .int .i64 R1.h])) := Lib.hid (Ext.setCells _ 0 (w9.setCell ⟨bS, 4, none⟩ (.int .i64 0)) hP (b := tb + 1) (fun h => by have := HTb.out; omega))
                have HB9 := Lib.hid (set7 hBr rfl (.int .i64 R1.x) (.int .i64 R1.y) (.int .i64 R1.w) (.int .i64 R1.h) (.int .i64 0) (.int .i64 R1.w) (.int .i64 R1.h))
                clear hBr hP
                go_wp2_with (first
                  | (with_reducible refine at_load 54 (.tmp 15) ?_; refine wpList_load_mid rfl 54 (.tmp 15) rfl bS 0 rfl [.int .i64 R1.x, .int .i64 R1.y, .int .i64 R1.w, .int .i64 R1.h, .int .i64 0, .int .i64 R1.w, .int .i64 R1.h] _ hRS Try.underlying54 rfl (sz54 _ _ _ _ _ _ _) ?_)
                  | (with_reducible refine at_store 54 (.tmp 2) (.tmp 102) ?_; refine wpList_store_mid rfl 54 (.tmp 2) (.tmp 102) rfl (tb + 1) 0 #[.int .i64 R1.x, .int .i64 R1.y, .int .i64 R1.w, .int .i64 R1.h, .int .i64 0, .int .i64 R1.w, .int .i64 R1.h] rfl rfl HTh.out HSi.out (one7 _ _ _ _ _ _ _) ?_))
                refine bodyPost_ret (results_row2 rfl _ _ (tb + 1) _ [.int .i64 R1.x, .int .i64 R1.y, .int .i64 R1.w, .int .i64 R1.h, .int .i64 0, .int .i64 R1.w, .int .i64 R1.h] _ rfl HB9.out Try.underlying54 rfl size54) rfl ?_
                exact ⟨by rw [HFr.out]; rfl, HP8.out⟩
              · have HFr : Hid (F = (⟨R1, 1, R1.h, R1.w⟩, 0)) := Lib.hid (by rw [HFq.out]; rfl)
                have hBz : BlockIs (((w9.setCell ⟨bS, 4, none⟩ (.int .i64 1)).setCell ⟨bS, 5, none⟩ (.int .i64 R1.h)).setCell ⟨bS, 6, none⟩ (.int .i64 R1.w)) bS [.int .i64 R1.x, .int .i64 R1.y, .int .i64 R1.w, .int .i64 R1.h, .int .i64 1, .int .i64 R1.h, .int .i64 R1.w] 54 := (((hBS.set 4 (.int .i64 1)).set 5 (.int .i64 R1.h)).set 6 (.int .i64 R1.w))
                have hXz : Ext (fun k => k = bS) w9 (((w9.setCell ⟨bS, 4, none⟩ (.int .i64 1)).setCell ⟨bS, 5, none⟩ (.int .i64 R1.h)).setCell ⟨bS, 6, none⟩ (.int .i64 R1.w)) := ((((Ext.refl (fun k => k = bS) w9).setCell (p := ⟨bS, 4, none⟩) (fun _ => rfl) _).setCell (p := ⟨bS, 5, none⟩) (fun _ => rfl) _).setCell (p := ⟨bS, 6, none⟩) (fun _ => rfl) _)
                have hBr := hBr.ext hXz (fun e => by have e' : tb + 1 = bS := e; omega)
                have hP : Pure w (((w9.setCell ⟨bS, 4, none⟩ (.int .i64 1)).setCell ⟨bS, 5, none⟩ (.int .i64 R1.h)).setCell ⟨bS, 6, none⟩ (.int .i64 R1.w)) := hP.trans hXz (fun i hi e => by have e' : i = bS := e; have := HTb.out; omega)
                have hRS := hBz.range
                clear hXz hBz hBS HFq
                have HTh : Hid ((((w9.setCell ⟨bS, 4, none⟩ (.int .i64 1)).setCell ⟨bS, 5, none⟩ (.int .i64 R1.h)).setCell ⟨bS, 6, none⟩ (.int .i64 R1.w)).there (tb + 1) 0 (#[.int .i64 R1.x, .int .i64 R1.y, .int .i64 R1.w, .int .i64 R1.h, .int .i64 1, .int .i64 R1.h, .int .i64 R1.w] : Array Value).size) := Lib.hid (hBr.there 7 rfl)
                have HSi : Hid ((Try.prog.info? 54).map (·.size) = some (#[.int .i64 R1.x, .int .i64 R1.y, .int .i64 R1.w, .int .i64 R1.h, .int .i64 1, .int .i64 R1.h, .int .i64 R1.w] : Array Value).size) := Lib.hid size54
                have HP8 : Hid (Pure w ((((w9.setCell ⟨bS, 4, none⟩ (.int .i64 1)).setCell ⟨bS, 5, none⟩ (.int .i64 R1.h)).setCell ⟨bS, 6, none⟩ (.int .i64 R1.w)).setCells (tb + 1) 0 [.int .i64 R1.x, .int .i64 R1.y, .int .i64 R1.w, .int .i64 R1.h, .int .i64 1, .int .i64 R1.h, .int .i64 R1.w])) := Lib.hid (Ext.setCells _ 0 (((w9.setCell ⟨bS, 4, none⟩ (.int .i64 1)).setCell ⟨bS, 5, none⟩ (.int .i64 R1.h)).setCell ⟨bS, 6, none⟩ (.int .i64 R1.w)) hP (b := tb + 1) (fun h => by have := HTb.out; omega))
                have HB9 := Lib.hid (set7 hBr rfl (.int .i64 R1.x) (.int .i64 R1.y) (.int .i64 R1.w) (.int .i64 R1.h) (.int .i64 1) (.int .i64 R1.h) (.int .i64 R1.w))
                clear hBr hP
                go_wp2_with (first
                  | (with_reducible refine at_load 54 (.tmp 15) ?_; refine wpList_load_mid rfl 54 (.tmp 15) rfl bS 0 rfl [.int .i64 R1.x, .int .i64 R1.y, .int .i64 R1.w, .int .i64 R1.h, .int .i64 1, .int .i64 R1.h, .int .i64 R1.w] _ hRS Try.underlying54 rfl (sz54 _ _ _ _ _ _ _) ?_)
                  | (with_reducible refine at_store 54 (.tmp 2) (.tmp 102) ?_; refine wpList_store_mid rfl 54 (.tmp 2) (.tmp 102) rfl (tb + 1) 0 #[.int .i64 R1.x, .int .i64 R1.y, .int .i64 R1.w, .int .i64 R1.h, .int .i64 1, .int .i64 R1.h, .int .i64 R1.w] rfl rfl HTh.out HSi.out (one7 _ _ _ _ _ _ _) ?_))
                refine bodyPost_ret (results_row2 rfl _ _ (tb + 1) _ [.int .i64 R1.x, .int .i64 R1.y, .int .i64 R1.w, .int .i64 R1.h, .int .i64 1, .int .i64 R1.h, .int .i64 R1.w] _ rfl HB9.out Try.underlying54 rfl size54) rfl ?_
                exact ⟨by rw [HFr.out]; rfl, HP8.out⟩
              · have HFr : Hid (F = (⟨R1, 2, R1.w, R1.h⟩, 0)) := Lib.hid (by rw [HFq.out]; rfl)
                have hBz : BlockIs (w9.setCell ⟨bS, 4, none⟩ (.int .i64 2)) bS [.int .i64 R1.x, .int .i64 R1.y, .int .i64 R1.w, .int .i64 R1.h, .int .i64 2, .int .i64 R1.w, .int .i64 R1.h] 54 := (hBS.set 4 (.int .i64 2))
                have hXz : Ext (fun k => k = bS) w9 (w9.setCell ⟨bS, 4, none⟩ (.int .i64 2)) := ((Ext.refl (fun k => k = bS) w9).setCell (p := ⟨bS, 4, none⟩) (fun _ => rfl) _)
                have hBr := hBr.ext hXz (fun e => by have e' : tb + 1 = bS := e; omega)
                have hP : Pure w (w9.setCell ⟨bS, 4, none⟩ (.int .i64 2)) := hP.trans hXz (fun i hi e => by have e' : i = bS := e; have := HTb.out; omega)
                have hRS := hBz.range
                clear hXz hBz hBS HFq
                have HTh : Hid ((w9.setCell ⟨bS, 4, none⟩ (.int .i64 2)).there (tb + 1) 0 (#[.int .i64 R1.x, .int .i64 R1.y, .int .i64 R1.w, .int .i64 R1.h, .int .i64 2, .int .i64 R1.w, .int .i64 R1.h] : Array Value).size) := Lib.hid (hBr.there 7 rfl)
                have HSi : Hid ((Try.prog.info? 54).map (·.size) = some (#[.int .i64 R1.x, .int .i64 R1.y, .int .i64 R1.w, .int .i64 R1.h, .int .i64 2, .int .i64 R1.w, .int .i64 R1.h] : Array Value).size) := Lib.hid size54
                have HP8 : Hid (Pure w ((w9.setCell ⟨bS, 4, none⟩ (.int .i64 2)).setCells (tb + 1) 0 [.int .i64 R1.x, .int .i64 R1.y, .int .i64 R1.w, .int .i64 R1.h, .int .i64 2, .int .i64 R1.w, .int .i64 R1.h])) := Lib.hid (Ext.setCells _ 0 (w9.setCell ⟨bS, 4, none⟩ (.int .i64 2)) hP (b := tb + 1) (fun h => by have := HTb.out; omega))
                have HB9 := Lib.hid (set7 hBr rfl (.int .i64 R1.x) (.int .i64 R1.y) (.int .i64 R1.w) (.int .i64 R1.h) (.int .i64 2) (.int .i64 R1.w) (.int .i64 R1.h))
                clear hBr hP
                go_wp2_with (first
                  | (with_reducible refine at_load 54 (.tmp 15) ?_; refine wpList_load_mid rfl 54 (.tmp 15) rfl bS 0 rfl [.int .i64 R1.x, .int .i64 R1.y, .int .i64 R1.w, .int .i64 R1.h, .int .i64 2, .int .i64 R1.w, .int .i64 R1.h] _ hRS Try.underlying54 rfl (sz54 _ _ _ _ _ _ _) ?_)
                  | (with_reducible refine at_store 54 (.tmp 2) (.tmp 102) ?_; refine wpList_store_mid rfl 54 (.tmp 2) (.tmp 102) rfl (tb + 1) 0 #[.int .i64 R1.x, .int .i64 R1.y, .int .i64 R1.w, .int .i64 R1.h, .int .i64 2, .int .i64 R1.w, .int .i64 R1.h] rfl rfl HTh.out HSi.out (one7 _ _ _ _ _ _ _) ?_))
                refine bodyPost_ret (results_row2 rfl _ _ (tb + 1) _ [.int .i64 R1.x, .int .i64 R1.y, .int .i64 R1.w, .int .i64 R1.h, .int .i64 2, .int .i64 R1.w, .int .i64 R1.h] _ rfl HB9.out Try.underlying54 rfl size54) rfl ?_
                exact ⟨by rw [HFr.out]; rfl, HP8.out⟩
              · have HFr : Hid (F = (⟨R1, 3, R1.h, R1.w⟩, 0)) := Lib.hid (by rw [HFq.out]; rfl)
                have hBz : BlockIs (((w9.setCell ⟨bS, 4, none⟩ (.int .i64 3)).setCell ⟨bS, 5, none⟩ (.int .i64 R1.h)).setCell ⟨bS, 6, none⟩ (.int .i64 R1.w)) bS [.int .i64 R1.x, .int .i64 R1.y, .int .i64 R1.w, .int .i64 R1.h, .int .i64 3, .int .i64 R1.h, .int .i64 R1.w] 54 := (((hBS.set 4 (.int .i64 3)).set 5 (.int .i64 R1.h)).set 6 (.int .i64 R1.w))
                have hXz : Ext (fun k => k = bS) w9 (((w9.setCell ⟨bS, 4, none⟩ (.int .i64 3)).setCell ⟨bS, 5, none⟩ (.int .i64 R1.h)).setCell ⟨bS, 6, none⟩ (.int .i64 R1.w)) := ((((Ext.refl (fun k => k = bS) w9).setCell (p := ⟨bS, 4, none⟩) (fun _ => rfl) _).setCell (p := ⟨bS, 5, none⟩) (fun _ => rfl) _).setCell (p := ⟨bS, 6, none⟩) (fun _ => rfl) _)
                have hBr := hBr.ext hXz (fun e => by have e' : tb + 1 = bS := e; omega)
                have hP : Pure w (((w9.setCell ⟨bS, 4, none⟩ (.int .i64 3)).setCell ⟨bS, 5, none⟩ (.int .i64 R1.h)).setCell ⟨bS, 6, none⟩ (.int .i64 R1.w)) := hP.trans hXz (fun i hi e => by have e' : i = bS := e; have := HTb.out; omega)
                have hRS := hBz.range
                clear hXz hBz hBS HFq
                have HTh : Hid ((((w9.setCell ⟨bS, 4, none⟩ (.int .i64 3)).setCell ⟨bS, 5, none⟩ (.int .i64 R1.h)).setCell ⟨bS, 6, none⟩ (.int .i64 R1.w)).there (tb + 1) 0 (#[.int .i64 R1.x, .int .i64 R1.y, .int .i64 R1.w, .int .i64 R1.h, .int .i64 3, .int .i64 R1.h, .int .i64 R1.w] : Array Value).size) := Lib.hid (hBr.there 7 rfl)
                have HSi : Hid ((Try.prog.info? 54).map (·.size) = some (#[.int .i64 R1.x, .int .i64 R1.y, .int .i64 R1.w, .int .i64 R1.h, .int .i64 3, .int .i64 R1.h, .int .i64 R1.w] : Array Value).size) := Lib.hid size54
                have HP8 : Hid (Pure w ((((w9.setCell ⟨bS, 4, none⟩ (.int .i64 3)).setCell ⟨bS, 5, none⟩ (.int .i64 R1.h)).setCell ⟨bS, 6, none⟩ (.int .i64 R1.w)).setCells (tb + 1) 0 [.int .i64 R1.x, .int .i64 R1.y, .int .i64 R1.w, .int .i64 R1.h, .int .i64 3, .int .i64 R1.h, .int .i64 R1.w])) := Lib.hid (Ext.setCells _ 0 (((w9.setCell ⟨bS, 4, none⟩ (.int .i64 3)).setCell ⟨bS, 5, none⟩ (.int .i64 R1.h)).setCell ⟨bS, 6, none⟩ (.int .i64 R1.w)) hP (b := tb + 1) (fun h => by have := HTb.out; omega))
                have HB9 := Lib.hid (set7 hBr rfl (.int .i64 R1.x) (.int .i64 R1.y) (.int .i64 R1.w) (.int .i64 R1.h) (.int .i64 3) (.int .i64 R1.h) (.int .i64 R1.w))
                clear hBr hP
                go_wp2_with (first
                  | (with_reducible refine at_load 54 (.tmp 15) ?_; refine wpList_load_mid rfl 54 (.tmp 15) rfl bS 0 rfl [.int .i64 R1.x, .int .i64 R1.y, .int .i64 R1.w, .int .i64 R1.h, .int .i64 3, .int .i64 R1.h, .int .i64 R1.w] _ hRS Try.underlying54 rfl (sz54 _ _ _ _ _ _ _) ?_)
                  | (with_reducible refine at_store 54 (.tmp 2) (.tmp 102) ?_; refine wpList_store_mid rfl 54 (.tmp 2) (.tmp 102) rfl (tb + 1) 0 #[.int .i64 R1.x, .int .i64 R1.y, .int .i64 R1.w, .int .i64 R1.h, .int .i64 3, .int .i64 R1.h, .int .i64 R1.w] rfl rfl HTh.out HSi.out (one7 _ _ _ _ _ _ _) ?_))
                refine bodyPost_ret (results_row2 rfl _ _ (tb + 1) _ [.int .i64 R1.x, .int .i64 R1.y, .int .i64 R1.w, .int .i64 R1.h, .int .i64 3, .int .i64 R1.h, .int .i64 R1.w] _ rfl HB9.out Try.underlying54 rfl size54) rfl ?_
                exact ⟨by rw [HFr.out]; rfl, HP8.out⟩
            · have hn' : (n3.tmod 90 != 0) = true := by simpa using hn
              have HFr : Hid (F = (.zero, 2)) := Lib.hid (by rw [HFt.out]; simp [hn])
              clear HFt hBS hP8 hw8 HW8 hBR hn
              have HTh : Hid (ry.there (tb + 1) 0 (#[.int .i64 0, .int .i64 0, .int .i64 0, .int .i64 0, .int .i64 0, .int .i64 0, .int .i64 0] : Array Value).size) := Lib.hid (hBr.there 7 rfl)
              have HSi : Hid ((Try.prog.info? 54).map (·.size) = some (#[.int .i64 0, .int .i64 0, .int .i64 0, .int .i64 0, .int .i64 0, .int .i64 0, .int .i64 0] : Array Value).size) := Lib.hid size54
              have HP8 : Hid (Pure w (ry.setCells (tb + 1) 0 [.int .i64 0, .int .i64 0, .int .i64 0, .int .i64 0, .int .i64 0, .int .i64 0, .int .i64 0])) := Lib.hid (Ext.setCells _ 0 ry hP (b := tb + 1) (fun h => by have := HTb.out; omega))
              have HB9 := Lib.hid (set7 hBr rfl (.int .i64 0) (.int .i64 0) (.int .i64 0) (.int .i64 0) (.int .i64 0) (.int .i64 0) (.int .i64 0))
              clear hBr hP
              go_wp2_with (first
                | (with_reducible refine at_store 24 (.tmp 13) (.tmp 61) ?_; refine wpList_store_mid rfl 24 (.tmp 13) (.tmp 61) rfl rx.heap.size 0 cd.toArray rfl rfl HThcd.out HSicd.out HOncd.out ?_; rw [← HWncd.out])
                | (with_reducible refine at_store 54 (.tmp 2) (.tmp 75) ?_; refine wpList_store_mid rfl 54 (.tmp 2) (.tmp 75) rfl (tb + 1) 0 #[.int .i64 0, .int .i64 0, .int .i64 0, .int .i64 0, .int .i64 0, .int .i64 0, .int .i64 0] rfl rfl HTh.out HSi.out (one7 _ _ _ _ _ _ _) ?_))
              refine bodyPost_ret (results_row2 rfl _ _ (tb + 1) _ [.int .i64 0, .int .i64 0, .int .i64 0, .int .i64 0, .int .i64 0, .int .i64 0, .int .i64 0] _ rfl HB9.out Try.underlying54 rfl size54) rfl ?_
              exact ⟨by rw [HFr.out]; rfl, HP8.out⟩
          · have hk' : (k3 != 2) = true := by simpa using hk
            have HFr : Hid (F = (.zero, 2)) := Lib.hid (by rw [HFt.out]; simp [hk])
            clear HFt hBS hP8 hw8 HW8 hBR hk
            have HTh : Hid (ry.there (tb + 1) 0 (#[.int .i64 0, .int .i64 0, .int .i64 0, .int .i64 0, .int .i64 0, .int .i64 0, .int .i64 0] : Array Value).size) := Lib.hid (hBr.there 7 rfl)
            have HSi : Hid ((Try.prog.info? 54).map (·.size) = some (#[.int .i64 0, .int .i64 0, .int .i64 0, .int .i64 0, .int .i64 0, .int .i64 0, .int .i64 0] : Array Value).size) := Lib.hid size54
            have HP8 : Hid (Pure w (ry.setCells (tb + 1) 0 [.int .i64 0, .int .i64 0, .int .i64 0, .int .i64 0, .int .i64 0, .int .i64 0, .int .i64 0])) := Lib.hid (Ext.setCells _ 0 ry hP (b := tb + 1) (fun h => by have := HTb.out; omega))
            have HB9 := Lib.hid (set7 hBr rfl (.int .i64 0) (.int .i64 0) (.int .i64 0) (.int .i64 0) (.int .i64 0) (.int .i64 0) (.int .i64 0))
            clear hBr hP
            go_wp2_with (first
              | (with_reducible refine at_store 24 (.tmp 13) (.tmp 61) ?_; refine wpList_store_mid rfl 24 (.tmp 13) (.tmp 61) rfl rx.heap.size 0 cd.toArray rfl rfl HThcd.out HSicd.out HOncd.out ?_; rw [← HWncd.out])
              | (with_reducible refine at_store 54 (.tmp 2) (.tmp 75) ?_; refine wpList_store_mid rfl 54 (.tmp 2) (.tmp 75) rfl (tb + 1) 0 #[.int .i64 0, .int .i64 0, .int .i64 0, .int .i64 0, .int .i64 0, .int .i64 0, .int .i64 0] rfl rfl HTh.out HSi.out (one7 _ _ _ _ _ _ _) ?_))
            refine bodyPost_ret (results_row2 rfl _ _ (tb + 1) _ [.int .i64 0, .int .i64 0, .int .i64 0, .int .i64 0, .int .i64 0, .int .i64 0, .int .i64 0] _ rfl HB9.out Try.underlying54 rfl size54) rfl ?_
            exact ⟨by rw [HFr.out]; rfl, HP8.out⟩
    · have hne1 : (e1 != 0) = true := by simpa using he1
      have HFr : Hid (F = (.zero, 2)) := Lib.hid (by rw [HFe.out]; simp [he1])
      rw [← HWw6.out] at hBr hP
      clear HFe he1 hBR
      have HTh : Hid ((w5.alloc (.cells #[.int .i64 R1.x, .int .i64 R1.y, .int .i64 R1.w, .int .i64 R1.h] 32)).there (tb + 1) 0 (#[.int .i64 0, .int .i64 0, .int .i64 0, .int .i64 0, .int .i64 0, .int .i64 0, .int .i64 0] : Array Value).size) := Lib.hid (hBr.there 7 rfl)
      have HSi : Hid ((Try.prog.info? 54).map (·.size) = some (#[.int .i64 0, .int .i64 0, .int .i64 0, .int .i64 0, .int .i64 0, .int .i64 0, .int .i64 0] : Array Value).size) := Lib.hid size54
      have HP8 : Hid (Pure w ((w5.alloc (.cells #[.int .i64 R1.x, .int .i64 R1.y, .int .i64 R1.w, .int .i64 R1.h] 32)).setCells (tb + 1) 0 [.int .i64 0, .int .i64 0, .int .i64 0, .int .i64 0, .int .i64 0, .int .i64 0, .int .i64 0])) := Lib.hid (Ext.setCells _ 0 (w5.alloc (.cells #[.int .i64 R1.x, .int .i64 R1.y, .int .i64 R1.w, .int .i64 R1.h] 32)) hP (b := tb + 1) (fun h => by have := HTb.out; omega))
      have HB9 := Lib.hid (set7 hBr rfl (.int .i64 0) (.int .i64 0) (.int .i64 0) (.int .i64 0) (.int .i64 0) (.int .i64 0) (.int .i64 0))
      clear hBr hP
      go_wp2_with (first
        | (with_reducible refine at_store 54 (.tmp 2) (.tmp 36) ?_; refine wpList_store_mid rfl 54 (.tmp 2) (.tmp 36) rfl (tb + 1) 0 #[.int .i64 0, .int .i64 0, .int .i64 0, .int .i64 0, .int .i64 0, .int .i64 0, .int .i64 0] rfl rfl HTh.out HSi.out (one7 _ _ _ _ _ _ _) ?_))
      refine bodyPost_ret (results_row2 rfl _ _ (tb + 1) _ [.int .i64 0, .int .i64 0, .int .i64 0, .int .i64 0, .int .i64 0, .int .i64 0, .int .i64 0] _ rfl HB9.out Try.underlying54 rfl size54) rfl ?_
      exact ⟨by rw [HFr.out]; rfl, HP8.out⟩
  · have hi1' : G1.2 = false := by simpa using hi1
    rw [hi1']
    have HFr : Hid (F = (.zero, 4)) := Lib.hid (by rw [HFe.out]; unfold pageQ; rw [if_neg hi1])
    clear HFe HN2 HN3 hB6 hL6 hl6 hi1 hi1'
    have HTh : Hid (w4.there (tb + 1) 0 (#[.int .i64 0, .int .i64 0, .int .i64 0, .int .i64 0, .int .i64 0, .int .i64 0, .int .i64 0] : Array Value).size) := Lib.hid (hBr.there 7 rfl)
    have HSi : Hid ((Try.prog.info? 54).map (·.size) = some (#[.int .i64 0, .int .i64 0, .int .i64 0, .int .i64 0, .int .i64 0, .int .i64 0, .int .i64 0] : Array Value).size) := Lib.hid size54
    have HP8 : Hid (Pure w (w4.setCells (tb + 1) 0 [.int .i64 0, .int .i64 0, .int .i64 0, .int .i64 0, .int .i64 0, .int .i64 0, .int .i64 0])) := Lib.hid (Ext.setCells _ 0 w4 hP (b := tb + 1) (fun h => by have := HTb.out; omega))
    have HB9 := Lib.hid (set7 hBr rfl (.int .i64 0) (.int .i64 0) (.int .i64 0) (.int .i64 0) (.int .i64 0) (.int .i64 0) (.int .i64 0))
    clear hBr hP
    go_wp2_with (first
      | (with_reducible refine at_store 24 (.tmp 4) (.tmp 24) ?_; refine wpList_store_mid rfl 24 (.tmp 4) (.tmp 24) rfl w3.heap.size 0 cb.toArray rfl rfl HThcb.out HSicb.out HOncb.out ?_; rw [← HWncb.out])
      | (with_reducible refine at_store 54 (.tmp 2) (.tmp 28) ?_; refine wpList_store_mid rfl 54 (.tmp 2) (.tmp 28) rfl (tb + 1) 0 #[.int .i64 0, .int .i64 0, .int .i64 0, .int .i64 0, .int .i64 0, .int .i64 0, .int .i64 0] rfl rfl HTh.out HSi.out (one7 _ _ _ _ _ _ _) ?_))
    refine bodyPost_ret (results_row2 rfl _ _ (tb + 1) _ [.int .i64 0, .int .i64 0, .int .i64 0, .int .i64 0, .int .i64 0, .int .i64 0, .int .i64 0] _ rfl HB9.out Try.underlying54 rfl size54) rfl ?_
    exact ⟨by rw [HFr.out]; rfl, HP8.out⟩
end Go.Proofs.Ytnibjjpohhknkaa
