/-
  Walked: the program's Page (printed by mkpage.py).
-/
import Derived.Test.YtnibjjpohhknkaaWhole
namespace Go.Proofs.Ytnibjjpohhknkaa
open Go.RowKit
set_option linter.unusedVariables false
set_option linter.unusedSimpArgs false

/-- how a page is seen -/
structure Sn where
  box : Bx
  q : Int
  w : Int
  h : Int
def Sn.zero : Sn := ⟨.zero, 0, 0, 0⟩
def mkSn (r : Bx) (q : Int) : Sn := if q % 2 = 1 then ⟨r, q, r.h, r.w⟩ else ⟨r, q, r.w, r.h⟩
def pageP (l : List Ob) (g : V) : Sn × Int :=
  if l.length = 0 then (.zero, 4)
  else if (wholeP l g).2 = 0 then
    if (namedP l g kRot).2 = true then
      if (namedP l g kRot).1.kind = 2 ∧ (namedP l g kRot).1.n.tmod 90 = 0 then (mkSn (wholeP l g).1 (q4 (wrap64 ((namedP l g kRot).1.n.tdiv 90))), 0) else (.zero, 2)
    else (mkSn (wholeP l g).1 0, 0)
  else (.zero, (wholeP l g).2)
def SnTo (F : Sn × Int) (w : World) (e : Ending) (w' : World) : Prop := e = .returned (.tuple #[.agg #[.int .i64 F.1.box.x, .int .i64 F.1.box.y, .int .i64 F.1.box.w, .int .i64 F.1.box.h, .int .i64 F.1.q, .int .i64 F.1.w, .int .i64 F.1.h], .int .i64 F.2]) ∧ Pure w w'
theorem size50 : (Try.prog.info? 50).map (·.size) = some 7 := by kernel_rfl
theorem one7 (a b c d e f g : Int) : ((#[Value.int .i64 a, .int .i64 b, .int .i64 c, .int .i64 d, .int .i64 e, .int .i64 f, .int .i64 g] : Array Value).all fun u => u.oneCell') = true := all_oneCell_toArray (by intro u hu; simp only [List.mem_cons, List.not_mem_nil, or_false] at hu; rcases hu with rfl | rfl | rfl | rfl | rfl | rfl | rfl <;> rfl)
theorem sz50 (a b c d e f g : Int) : (Try.prog.info? 50).map (·.size) = some ([Value.int .i64 a, .int .i64 b, .int .i64 c, .int .i64 d, .int .i64 e, .int .i64 f, .int .i64 g] : List Value).length := size50
theorem set7 {w : World} {b : Nat} {T : TypeId} {cs : List Value} (h : BlockIs w b cs T) (hl : cs.length = 7) (p q r s t u v : Value) : BlockIs (w.setCells b 0 [p, q, r, s, t, u, v]) b [p, q, r, s, t, u, v] T := h.setAll [p, q, r, s, t, u, v] hl
set_option maxHeartbeats 2000000 in
set_option maxRecDepth 100000 in
theorem page_any (d : Nat) (objs : List Ob) (oa : Option Addr) (oc : Nat) (rows : List (List Value)) (gv : V) (gcs : List Value) (w0 w : World) (hP0 : Pure w0 w) (hOK : OKids w0 (d + 1) objs oa rows) (hG : Lies w0 (d + 1) gv gcs) (hol : objs.length ≤ 1000000) (hvl : ∀ u ∈ objs, u.v.l.length ≤ 1000000) (hgl : gv.l.length ≤ 1000000) (hnl : ∀ k, (namedP objs gv k).1.l.length ≤ 1000000) :
    Calls Try.prog 21 #[.agg (Value.slice oa objs.length oc :: gcs).toArray] w (SnTo (pageP objs gv) w) := by
  obtain ⟨F, hF⟩ : ∃ F, F = pageP objs gv := ⟨_, rfl⟩
  have hFe := hF
  rw [← hF]
  unfold pageP at hFe
  have hgl4 := hG.len
  have HL5 : Hid ((Value.slice oa objs.length oc :: gcs).length = 5) := Lib.hid (by rw [List.length_cons, hgl4])
  have HN1 := Lib.hid (fun W (hP : Pure w W) (hne : 0 < objs.length) => whole_any d objs oa oc rows gv gcs w0 W (hP0.pure hP) hOK hG hne hol hvl hgl hnl)
  have HN2 := Lib.hid (fun W (hP : Pure w W) (hne : 0 < objs.length) => named_any d objs oa oc rows gv gcs kRot w0 W (hP0.pure hP) hOK hG hne hol hvl hgl)
  obtain ⟨G1, hG1⟩ : ∃ G, G = wholeP objs gv := ⟨_, rfl⟩
  obtain ⟨G2, hG2⟩ : ∃ G, G = namedP objs gv kRot := ⟨_, rfl⟩
  rw [← hG1] at hFe HN1
  rw [← hG2] at hFe HN2
  obtain ⟨on, hon⟩ : ∃ on, on = objs.length := ⟨_, rfl⟩
  rw [← hon] at HN1 HN2 HL5 hFe ⊢
  have HFe := Lib.hid hFe
  obtain ⟨w1, hw1⟩ : ∃ z, z = w.alloc (.cells (Value.slice oa on oc :: gcs).toArray 47) := ⟨_, rfl⟩
  obtain ⟨tb, htb⟩ : ∃ z, z = w.heap.size := ⟨_, rfl⟩
  have hB1 : BlockIs w1 tb (Value.slice oa on oc :: gcs) 47 := by rw [htb, hw1]; exact BlockIs.new w _ _
  have hs1 : w1.heap.size = tb + 1 := by rw [hw1, World.size_alloc, htb]
  obtain ⟨w2, hw2⟩ : ∃ z, z = w1.alloc (.cells #[.int .i64 0, .int .i64 0, .int .i64 0, .int .i64 0, .int .i64 0, .int .i64 0, .int .i64 0] 50) := ⟨_, rfl⟩
  have hs2 : w2.heap.size = tb + 2 := by rw [hw2, World.size_alloc, hs1]
  have hBt : BlockIs w2 tb (Value.slice oa on oc :: gcs) 47 := hw2 ▸ hB1.alloc _
  have hBr : BlockIs w2 (tb + 1) [.int .i64 0, .int .i64 0, .int .i64 0, .int .i64 0, .int .i64 0, .int .i64 0, .int .i64 0] 50 := by rw [← hs1, hw2]; exact BlockIs.new w1 _ _
  have hP : Pure w w2 := (show Pure w w1 from hw1 ▸ ext_alloc w _).pure (hw2 ▸ ext_alloc w1 _)
  have HW : Hid ((w.alloc (.cells (Value.slice oa on oc :: gcs).toArray 47)).alloc (.cells #[.int .i64 0, .int .i64 0, .int .i64 0, .int .i64 0, .int .i64 0, .int .i64 0, .int .i64 0] 50) = w2) := Lib.hid (by rw [hw2, hw1])
  have HTb := Lib.hid htb
  have HS2 := Lib.hid hs2
  have hRp : ((w.alloc (.cells (Value.slice oa on oc :: gcs).toArray 47)).alloc (.cells #[.int .i64 0, .int .i64 0, .int .i64 0, .int .i64 0, .int .i64 0, .int .i64 0, .int .i64 0] 50)).rangeAt w.heap.size 0 (Value.slice oa on oc :: gcs) := by rw [HW.out, ← htb]; exact hBt.range
  have t0 : ((w.alloc (.cells (Value.slice oa on oc :: gcs).toArray 47)).alloc (.cells #[.int .i64 0, .int .i64 0, .int .i64 0, .int .i64 0, .int .i64 0, .int .i64 0, .int .i64 0] 50)).cell? ⟨w.heap.size, 0, none⟩ = some (.slice oa on oc) := by rw [HW.out, ← htb]; exact hBt.cell 0
  clear hF hFe hw1 hw2 hs1 hs2 hB1 htb hOK hG hon hvl hgl hG1 hG2 hgl4 hnl hol
  by_cases hz : on = 0
  · subst hz
    have HFr : Hid (F = (.zero, 4)) := Lib.hid (by rw [HFe.out]; rfl)
    clear HN1 HN2 HFe
    go_enter Try.func21, Try.ntmps21
    go_wp2_with fail
    rw [HW.out, ← HTb.out]
    refine bodyPost_ret (results_row2 rfl _ _ (tb + 1) _ [.int .i64 0, .int .i64 0, .int .i64 0, .int .i64 0, .int .i64 0, .int .i64 0, .int .i64 0] _ rfl hBr Try.underlying50 rfl size50) rfl ?_
    exact ⟨by rw [HFr.out]; rfl, hP⟩
  have hzi : ((on : Int) == 0) = false := by simpa using (by omega : ¬ (on : Int) = 0)
  have HNe : Hid (0 < on) := Lib.hid (by omega)
  have HN1 := Lib.hid (fun W hP => HN1.out W hP HNe.out)
  have HN2 := Lib.hid (fun W hP => HN2.out W hP HNe.out)
  have HFe : Hid (F = if G1.2 = 0 then (if G2.2 = true then (if G2.1.kind = 2 ∧ G2.1.n.tmod 90 = 0 then (mkSn G1.1 (q4 (wrap64 (G2.1.n.tdiv 90))), 0) else (.zero, 2)) else (mkSn G1.1 0, 0)) else (.zero, G1.2)) := Lib.hid (by have h := HFe.out; rw [if_neg hz] at h; exact h)
  clear hz
  go_enter Try.func21, Try.ntmps21
  go_wp2_with (first
    | (with_reducible refine at_load 47 (.tmp 1) ?_; refine wpList_load_mid rfl 47 (.tmp 1) rfl w.heap.size 0 rfl (Value.slice oa on oc :: gcs) _ hRp Try.underlying47 rfl (sz47 HL5.out) ?_))
  rw [HW.out, ← HTb.out]
  clear hRp t0
  refine (HN1.out w2 hP).mono ?_
  rintro e w3 ⟨rfl, hP3⟩
  have hBt := hBt.ext hP3 id
  have hBr := hBr.ext hP3 id
  have hP := hP.pure hP3
  have hb3 : tb + 2 ≤ w3.heap.size := by have := HS2.out; have := hP3.size; omega
  obtain ⟨R1, e1⟩ := G1
  clear hP3 HN1
  obtain ⟨w4, hwn⟩ : ∃ z, z = w3.alloc (.cells #[.int .i64 R1.x, .int .i64 R1.y, .int .i64 R1.w, .int .i64 R1.h] 28) := ⟨_, rfl⟩
  have hBR : BlockIs w4 w3.heap.size [.int .i64 R1.x, .int .i64 R1.y, .int .i64 R1.w, .int .i64 R1.h] 28 := hwn ▸ BlockIs.new w3 _ _
  have hPx : Pure w3 w4 := hwn ▸ ext_alloc w3 _
  have HWw4 : Hid (w3.alloc (.cells #[.int .i64 R1.x, .int .i64 R1.y, .int .i64 R1.w, .int .i64 R1.h] 28) = w4) := Lib.hid hwn.symm
  have hBt := hBt.ext hPx id
  have hBr := hBr.ext hPx id
  have hP := hP.pure hPx
  have hRp : (w3.alloc (.cells #[.int .i64 R1.x, .int .i64 R1.y, .int .i64 R1.w, .int .i64 R1.h] 28)).rangeAt tb 0 (Value.slice oa on oc :: gcs) := by rw [HWw4.out]; exact hBt.range
  clear hwn hPx
  by_cases he1 : e1 = 0
  · subst he1
    go_wp2_with (first
      | (with_reducible refine at_load 47 (.tmp 1) ?_; refine wpList_load_mid rfl 47 (.tmp 1) rfl tb 0 rfl (Value.slice oa on oc :: gcs) _ hRp Try.underlying47 rfl (sz47 HL5.out) ?_))
    rw [HWw4.out]
    clear hRp
    refine (HN2.out w4 hP).mono ?_
    rintro e w5 ⟨cb, rfl, hLc, hP5⟩
    have hBt := hBt.ext hP5 id
    have hBr := hBr.ext hP5 id
    have hBR := hBR.ext hP5 id
    have hP := hP.pure hP5
    have hb5 : tb + 2 ≤ w5.heap.size ∧ w3.heap.size < w5.heap.size := by have := hBR.lt; omega
    clear hP5 HN2
    obtain ⟨hth, hB6, hPx⟩ := put_new (W := w5) _ rfl (d := d + 1) (hLc.pure (hP0.pure hP))
    obtain ⟨w6, hwn⟩ : ∃ z, z = (w5.alloc (.cells zeroCs.toArray 24)).setCells w5.heap.size 0 cb := ⟨_, rfl⟩
    rw [← hwn] at hB6 hPx
    have hl6 := hLc.len
    have HThcb := Lib.hid (show (w5.alloc (.cells #[.int .i64 0, .int .i64 0, .string ⟨#[]⟩, .slice none 0 0] 24)).there w5.heap.size 0 cb.toArray.size by rw [show cb.toArray.size = 4 by simpa using hl6]; exact hth)
    have HSicb : Hid ((Try.prog.info? 24).map (·.size) = some cb.toArray.size) := Lib.hid (by rw [List.size_toArray, hl6]; exact size24)
    have HOncb := Lib.hid hLc.one
    have HWncb : Hid (w6 = (w5.alloc (.cells #[.int .i64 0, .int .i64 0, .string ⟨#[]⟩, .slice none 0 0] 24)).setCells w5.heap.size 0 cb.toArray.toList) := Lib.hid (by rw [hwn]; rfl)
    have hBt := hBt.ext hPx id
    have hBr := hBr.ext hPx id
    have hBR := hBR.ext hPx id
    have hP := hP.pure hPx
    have hL6 := hLc
    clear hwn hth hPx hLc
    obtain ⟨ya, ym, yc, hy⟩ : ∃ ya ym yc, cb = [.int .i64 G2.1.kind, .int .i64 G2.1.n, .string G2.1.s, .slice ya ym yc] := by
      obtain ⟨a', c', _, he, _⟩ := hL6.kids
      exact ⟨_, _, _, he⟩
    have y0 : w6.cell? ⟨w5.heap.size, 0, none⟩ = some (.int .i64 G2.1.kind) := (hB6.cell 0).trans (by rw [hy]; rfl)
    have y1 : w6.cell? ⟨w5.heap.size, 1, none⟩ = some (.int .i64 G2.1.n) := (hB6.cell 1).trans (by rw [hy]; rfl)
    obtain ⟨is2, his2⟩ : ∃ z, z = G2.2 := ⟨_, rfl⟩
    rw [← his2] at HFe ⊢
    have hRR := hBR.range
    have r0 : w6.cell? ⟨w3.heap.size, 2, none⟩ = some (.int .i64 R1.w) := hBR.cell 2
    have r1 : w6.cell? ⟨w3.heap.size, 3, none⟩ = some (.int .i64 R1.h) := hBR.cell 3
    have hbR := hBR.lt
    obtain ⟨k2, hk2⟩ : ∃ z, z = G2.1.kind := ⟨_, rfl⟩
    obtain ⟨n2, hn2⟩ : ∃ z, z = G2.1.n := ⟨_, rfl⟩
    rw [← hk2] at y0 HFe
    rw [← hn2] at y1 HFe
    clear his2 hL6 hl6 hy hB6 hk2 hn2 hBt
    obtain ⟨w7, hw7⟩ : ∃ z, z = w6.alloc (.cells #[.int .i64 R1.x, .int .i64 R1.y, .int .i64 R1.w, .int .i64 R1.h, .int .i64 (0 : Int), .int .i64 R1.w, .int .i64 R1.h] 50) := ⟨_, rfl⟩
    have hBS : BlockIs w7 w6.heap.size [.int .i64 R1.x, .int .i64 R1.y, .int .i64 R1.w, .int .i64 R1.h, .int .i64 (0 : Int), .int .i64 R1.w, .int .i64 R1.h] 50 := hw7 ▸ BlockIs.new w6 _ _
    have hP7 : Pure w6 w7 := hw7 ▸ ext_alloc w6 _
    have HW7 : Hid (w6.alloc (.cells #[.int .i64 R1.x, .int .i64 R1.y, .int .i64 R1.w, .int .i64 R1.h, .int .i64 (0 : Int), .int .i64 R1.w, .int .i64 R1.h] 50) = w7) := Lib.hid hw7.symm
    cases is2 with
    | false =>
      have HFr : Hid (F = (⟨R1, 0, R1.w, R1.h⟩, 0)) := Lib.hid (by rw [HFe.out]; rfl)
      have hBr := hBr.ext hP7 id
      have hP := hP.pure hP7
      have hRS : w7.rangeAt w6.heap.size 0 [.int .i64 R1.x, .int .i64 R1.y, .int .i64 R1.w, .int .i64 R1.h, .int .i64 (0 : Int), .int .i64 R1.w, .int .i64 R1.h] := hBS.range
      rw [← HW7.out] at hBr hP hRS
      clear HFe hBS hP7 hw7 hBR
      have HTh : Hid ((w6.alloc (.cells #[.int .i64 R1.x, .int .i64 R1.y, .int .i64 R1.w, .int .i64 R1.h, .int .i64 (0 : Int), .int .i64 R1.w, .int .i64 R1.h] 50)).there (tb + 1) 0 (#[.int .i64 R1.x, .int .i64 R1.y, .int .i64 R1.w, .int .i64 R1.h, .int .i64 (0 : Int), .int .i64 R1.w, .int .i64 R1.h] : Array Value).size) := Lib.hid (hBr.there 7 rfl)
      have HSi : Hid ((Try.prog.info? 50).map (·.size) = some (#[.int .i64 R1.x, .int .i64 R1.y, .int .i64 R1.w, .int .i64 R1.h, .int .i64 (0 : Int), .int .i64 R1.w, .int .i64 R1.h] : Array Value).size) := Lib.hid size50
      have HP8 : Hid (Pure w ((w6.alloc (.cells #[.int .i64 R1.x, .int .i64 R1.y, .int .i64 R1.w, .int .i64 R1.h, .int .i64 (0 : Int), .int .i64 R1.w, .int .i64 R1.h] 50)).setCells (tb + 1) 0 [.int .i64 R1.x, .int .i64 R1.y, .int .i64 R1.w, .int .i64 R1.h, .int .i64 (0 : Int), .int .i64 R1.w, .int .i64 R1.h])) := Lib.hid (Ext.setCells _ 0 (w6.alloc (.cells #[.int .i64 R1.x, .int .i64 R1.y, .int .i64 R1.w, .int .i64 R1.h, .int .i64 (0 : Int), .int .i64 R1.w, .int .i64 R1.h] 50)) hP (b := tb + 1) (fun h => by have := HTb.out; omega))
      have HB9 := Lib.hid (set7 hBr rfl (.int .i64 R1.x) (.int .i64 R1.y) (.int .i64 R1.w) (.int .i64 R1.h) (.int .i64 (0 : Int)) (.int .i64 R1.w) (.int .i64 R1.h))
      clear hBr hP
      go_wp2_with (first
        | (with_reducible refine at_store 24 (.tmp 6) (.tmp 26) ?_; refine wpList_store_mid rfl 24 (.tmp 6) (.tmp 26) rfl w5.heap.size 0 cb.toArray rfl rfl HThcb.out HSicb.out HOncb.out ?_; rw [← HWncb.out])
        | (with_reducible refine at_load 28 (.tmp 4) ?_; refine wpList_load_mid rfl 28 (.tmp 4) rfl w3.heap.size 0 rfl [.int .i64 R1.x, .int .i64 R1.y, .int .i64 R1.w, .int .i64 R1.h] _ hRR Try.underlying28 rfl (sz28 _ _ _ _) ?_)
        | (with_reducible refine at_load 50 (.tmp 8) ?_; refine wpList_load_mid rfl 50 (.tmp 8) rfl w6.heap.size 0 rfl [.int .i64 R1.x, .int .i64 R1.y, .int .i64 R1.w, .int .i64 R1.h, .int .i64 (0 : Int), .int .i64 R1.w, .int .i64 R1.h] _ hRS Try.underlying50 rfl (sz50 _ _ _ _ _ _ _) ?_)
        | (with_reducible refine at_store 50 (.tmp 2) (.tmp 65) ?_; refine wpList_store_mid rfl 50 (.tmp 2) (.tmp 65) rfl (tb + 1) 0 #[.int .i64 R1.x, .int .i64 R1.y, .int .i64 R1.w, .int .i64 R1.h, .int .i64 (0 : Int), .int .i64 R1.w, .int .i64 R1.h] rfl rfl HTh.out HSi.out (one7 _ _ _ _ _ _ _) ?_))
      refine bodyPost_ret (results_row2 rfl _ _ (tb + 1) _ [.int .i64 R1.x, .int .i64 R1.y, .int .i64 R1.w, .int .i64 R1.h, .int .i64 (0 : Int), .int .i64 R1.w, .int .i64 R1.h] _ rfl HB9.out Try.underlying50 rfl size50) rfl ?_
      exact ⟨by rw [HFr.out]; rfl, HP8.out⟩
    | true =>
      by_cases hk : k2 = 2
      · subst hk
        by_cases hn : n2.tmod 90 = 0
        · obtain ⟨X, hX⟩ : ∃ z, z = wrap64 (n2.tdiv 90) := ⟨_, rfl⟩
          have x1 : wrap64 (n2.tdiv 90) = X := hX.symm
          have x2 : IntKind.i64.wrap (n2.tdiv 90) = X := by rw [hX, IntKind.wrap_i64]; unfold wrap64; omega
          have x3 := q4_run X
          have HFq : Hid (F = (mkSn R1 (q4 X), 0)) := Lib.hid (by rw [HFe.out]; simp [hn, ← hX])
          have y1' : (w6.alloc (.cells #[.int .i64 R1.x, .int .i64 R1.y, .int .i64 R1.w, .int .i64 R1.h, .int .i64 (0 : Int), .int .i64 R1.w, .int .i64 R1.h] 50)).cell? ⟨w5.heap.size, 1, none⟩ = some (.int .i64 n2) := by rw [HW7.out]; exact hP7.cell_some y1 id
          clear HFe hX hBS
          rcases q4_cases X with hq | hq | hq | hq
          all_goals rw [hq] at x3 HFq
          all_goals clear hq
          · have HFr : Hid (F = (⟨R1, 0, R1.w, R1.h⟩, 0)) := Lib.hid (by rw [HFq.out]; rfl)
            have hBS := BlockIs.new w6 [.int .i64 R1.x, .int .i64 R1.y, .int .i64 R1.w, .int .i64 R1.h, .int .i64 (0 : Int), .int .i64 R1.w, .int .i64 R1.h] 50
            have hPn : Pure w6 (w6.alloc (.cells #[.int .i64 R1.x, .int .i64 R1.y, .int .i64 R1.w, .int .i64 R1.h, .int .i64 (0 : Int), .int .i64 R1.w, .int .i64 R1.h] 50)) := ext_alloc w6 _
            have hBr := hBr.ext hPn id
            have hP := hP.pure hPn
            have hRS : (w6.alloc (.cells #[.int .i64 R1.x, .int .i64 R1.y, .int .i64 R1.w, .int .i64 R1.h, .int .i64 (0 : Int), .int .i64 R1.w, .int .i64 R1.h] 50)).rangeAt w6.heap.size 0 [.int .i64 R1.x, .int .i64 R1.y, .int .i64 R1.w, .int .i64 R1.h, .int .i64 (0 : Int), .int .i64 R1.w, .int .i64 R1.h] := hBS.range
            clear hBS hP7 hw7 hBR hPn HFq
            have HTh : Hid ((w6.alloc (.cells #[.int .i64 R1.x, .int .i64 R1.y, .int .i64 R1.w, .int .i64 R1.h, .int .i64 (0 : Int), .int .i64 R1.w, .int .i64 R1.h] 50)).there (tb + 1) 0 (#[.int .i64 R1.x, .int .i64 R1.y, .int .i64 R1.w, .int .i64 R1.h, .int .i64 (0 : Int), .int .i64 R1.w, .int .i64 R1.h] : Array Value).size) := Lib.hid (hBr.there 7 rfl)
            have HSi : Hid ((Try.prog.info? 50).map (·.size) = some (#[.int .i64 R1.x, .int .i64 R1.y, .int .i64 R1.w, .int .i64 R1.h, .int .i64 (0 : Int), .int .i64 R1.w, .int .i64 R1.h] : Array Value).size) := Lib.hid size50
            have HP8 : Hid (Pure w ((w6.alloc (.cells #[.int .i64 R1.x, .int .i64 R1.y, .int .i64 R1.w, .int .i64 R1.h, .int .i64 (0 : Int), .int .i64 R1.w, .int .i64 R1.h] 50)).setCells (tb + 1) 0 [.int .i64 R1.x, .int .i64 R1.y, .int .i64 R1.w, .int .i64 R1.h, .int .i64 (0 : Int), .int .i64 R1.w, .int .i64 R1.h])) := Lib.hid (Ext.setCells _ 0 (w6.alloc (.cells #[.int .i64 R1.x, .int .i64 R1.y, .int .i64 R1.w, .int .i64 R1.h, .int .i64 (0 : Int), .int .i64 R1.w, .int .i64 R1.h] 50)) hP (b := tb + 1) (fun h => by have := HTb.out; omega))
            have HB9 := Lib.hid (set7 hBr rfl (.int .i64 R1.x) (.int .i64 R1.y) (.int .i64 R1.w) (.int .i64 R1.h) (.int .i64 (0 : Int)) (.int .i64 R1.w) (.int .i64 R1.h))
            clear hBr hP
            go_wp2_with (first
              | (with_reducible refine at_store 24 (.tmp 6) (.tmp 26) ?_; refine wpList_store_mid rfl 24 (.tmp 6) (.tmp 26) rfl w5.heap.size 0 cb.toArray rfl rfl HThcb.out HSicb.out HOncb.out ?_; rw [← HWncb.out])
              | (with_reducible refine at_load 28 (.tmp 4) ?_; refine wpList_load_mid rfl 28 (.tmp 4) rfl w3.heap.size 0 rfl [.int .i64 R1.x, .int .i64 R1.y, .int .i64 R1.w, .int .i64 R1.h] _ hRR Try.underlying28 rfl (sz28 _ _ _ _) ?_)
              | (with_reducible refine at_load 50 (.tmp 8) ?_; refine wpList_load_mid rfl 50 (.tmp 8) rfl w6.heap.size 0 rfl [.int .i64 R1.x, .int .i64 R1.y, .int .i64 R1.w, .int .i64 R1.h, .int .i64 (0 : Int), .int .i64 R1.w, .int .i64 R1.h] _ hRS Try.underlying50 rfl (sz50 _ _ _ _ _ _ _) ?_)
              | (with_reducible refine at_store 50 (.tmp 2) (.tmp 65) ?_; refine wpList_store_mid rfl 50 (.tmp 2) (.tmp 65) rfl (tb + 1) 0 #[.int .i64 R1.x, .int .i64 R1.y, .int .i64 R1.w, .int .i64 R1.h, .int .i64 (0 : Int), .int .i64 R1.w, .int .i64 R1.h] rfl rfl HTh.out HSi.out (one7 _ _ _ _ _ _ _) ?_))
            refine bodyPost_ret (results_row2 rfl _ _ (tb + 1) _ [.int .i64 R1.x, .int .i64 R1.y, .int .i64 R1.w, .int .i64 R1.h, .int .i64 (0 : Int), .int .i64 R1.w, .int .i64 R1.h] _ rfl HB9.out Try.underlying50 rfl size50) rfl ?_
            exact ⟨by rw [HFr.out]; rfl, HP8.out⟩
          · have HFr : Hid (F = (⟨R1, 1, R1.h, R1.w⟩, 0)) := Lib.hid (by rw [HFq.out]; rfl)
            obtain ⟨w8, hw8⟩ : ∃ z, z = (w6.alloc (.cells #[.int .i64 R1.x, .int .i64 R1.y, .int .i64 R1.w, .int .i64 R1.h, .int .i64 (1 : Int), .int .i64 R1.w, .int .i64 R1.h] 50)) := ⟨_, rfl⟩
            have hBS : BlockIs w8 w6.heap.size [.int .i64 R1.x, .int .i64 R1.y, .int .i64 R1.w, .int .i64 R1.h, .int .i64 (1 : Int), .int .i64 R1.w, .int .i64 R1.h] 50 := hw8 ▸ BlockIs.new w6 _ _
            have hPn : Pure w6 w8 := hw8 ▸ ext_alloc w6 _
            have hBr := hBr.ext hPn id
            have hP := hP.pure hPn
            have hBR := hBR.ext hPn id
            have HW8 : Hid ((w6.alloc (.cells #[.int .i64 R1.x, .int .i64 R1.y, .int .i64 R1.w, .int .i64 R1.h, .int .i64 (1 : Int), .int .i64 R1.w, .int .i64 R1.h] 50)) = w8) := Lib.hid hw8.symm
            have hzr := hBr.lt
            have hb6 : tb + 2 ≤ w6.heap.size ∧ w3.heap.size < w6.heap.size := by omega
            have s0 : w8.drew.cell? ⟨w3.heap.size, 2, none⟩ = some (.int .i64 R1.w) := hBR.cell 2
            have s1 : w8.drew.cell? ⟨w3.heap.size, 3, none⟩ = some (.int .i64 R1.h) := hBR.cell 3
            clear hP7 hw7 hPn HFq hw8 hBR
            go_wp2_with (first
              | (with_reducible refine at_store 24 (.tmp 6) (.tmp 26) ?_; refine wpList_store_mid rfl 24 (.tmp 6) (.tmp 26) rfl w5.heap.size 0 cb.toArray rfl rfl HThcb.out HSicb.out HOncb.out ?_; rw [← HWncb.out])
              | (with_reducible refine at_load 28 (.tmp 4) ?_; refine wpList_load_mid rfl 28 (.tmp 4) rfl w3.heap.size 0 rfl [.int .i64 R1.x, .int .i64 R1.y, .int .i64 R1.w, .int .i64 R1.h] _ hRR Try.underlying28 rfl (sz28 _ _ _ _) ?_))
            rw [HW8.out]
            have e5 : w8.cell? ⟨w6.heap.size, 5, none⟩ = some (.int .i64 R1.w) := hBS.cell 5
            have f5 : w8.frozen? ⟨w6.heap.size, 5, none⟩ = false := hBS.free 5
            have e6 : w8.cell? ⟨w6.heap.size, 6, none⟩ = some (.int .i64 R1.h) := hBS.cell 6
            have f6 : w8.frozen? ⟨w6.heap.size, 6, none⟩ = false := hBS.free 6
            clear r0 r1 hRR y0 y1 y1'
            refine region_start (fun k => k = w6.heap.size) (by kernel_rfl) ?_
            try simp only [Act.put, List.setIfInBounds_toArray, List.set_cons_zero, List.set_cons_succ]
            refine region_take 0 59 (v := ?vp10) rfl rfl (by kernel_rfl) (by kernel_rfl) (by kernel_rfl) (fun _ _ _ h => h) (by rfl) (fun w' hS => ?hp10) ?rp10
            case hp10 => go_simp; with_reducible rfl
            try simp only [Act.put, List.setIfInBounds_toArray, List.set_cons_zero, List.set_cons_succ]
            refine region_take 1 60 (v := ?vp11) rfl rfl (by kernel_rfl) (by kernel_rfl) (by kernel_rfl) (fun _ _ _ h => h) (by rfl) (fun w' hS => ?hp11) ?rp11
            case hp11 => (have e := hS.cell_some s1 (by intro e; simp only at e; omega); go_simp; with_reducible rfl)
            try simp only [Act.put, List.setIfInBounds_toArray, List.set_cons_zero, List.set_cons_succ]
            refine region_take 2 61 (v := ?vp12) rfl rfl (by kernel_rfl) (by kernel_rfl) (by kernel_rfl) (fun _ _ _ h => h) (by rfl) (fun w' hS => ?hp12) ?rp12
            case hp12 => go_simp; with_reducible rfl
            try simp only [Act.put, List.setIfInBounds_toArray, List.set_cons_zero, List.set_cons_succ]
            refine region_take 3 62 (v := ?vp13) rfl rfl (by kernel_rfl) (by kernel_rfl) (by kernel_rfl) (fun _ _ _ h => h) (by rfl) (fun w' hS => ?hp13) ?rp13
            case hp13 => (have e := hS.cell_some s0 (by intro e; simp only at e; omega); go_simp; with_reducible rfl)
            try simp only [Act.put, List.setIfInBounds_toArray, List.set_cons_zero, List.set_cons_succ]
            refine region_take 4 63 (v := ?vp14) rfl rfl (by kernel_rfl) (by kernel_rfl) (by kernel_rfl) (fun _ _ _ h => h) (by rfl) (fun w' hS => ?hp14) ?rp14
            case hp14 => go_simp; with_reducible rfl
            try simp only [Act.put, List.setIfInBounds_toArray, List.set_cons_zero, List.set_cons_succ]
            refine wpAnyH_ready (rs := [5]) (by kernel_rfl) (by simp) (AllReadyH.cons rfl (fun K hK => ?_) AllReadyH.nil)
            go_simp
            refine hK.out _ _ ((Ext.refl (fun k => k = w6.heap.size) _).setCell (p := ⟨w6.heap.size, 5, none⟩) (fun _ => rfl) _) (fun hHeld => ?_)
            clear hK K hHeld
            refine region_now ((Ext.refl (fun k => k = w6.heap.size) _).setCell (p := ⟨w6.heap.size, 5, none⟩) (fun _ => rfl) _) ?_
            try simp only [Act.put, List.setIfInBounds_toArray, List.set_cons_zero, List.set_cons_succ]
            refine region_take 6 64 (v := ?vp16) rfl rfl (by kernel_rfl) (by kernel_rfl) (by kernel_rfl) (fun _ _ _ h => h) (by rfl) (fun w' hS => ?hp16) ?rp16
            case hp16 => go_simp; with_reducible rfl
            try simp only [Act.put, List.setIfInBounds_toArray, List.set_cons_zero, List.set_cons_succ]
            refine wpAnyH_ready (rs := [7]) (by kernel_rfl) (by simp) (AllReadyH.cons rfl (fun K hK => ?_) AllReadyH.nil)
            go_simp
            refine hK.out _ _ ((Ext.refl (fun k => k = w6.heap.size) _).setCell (p := ⟨w6.heap.size, 6, none⟩) (fun _ => rfl) _) (fun hHeld => ?_)
            clear hK K hHeld
            refine region_now ((Ext.refl (fun k => k = w6.heap.size) _).setCell (p := ⟨w6.heap.size, 6, none⟩) (fun _ => rfl) _) ?_
            try simp only [Act.put, List.setIfInBounds_toArray, List.set_cons_zero, List.set_cons_succ]
            refine wpAnyH_done (by kernel_rfl) ?_ _
            have hXz : Ext (fun k => k = w6.heap.size) w8 ((w8.setCell ⟨w6.heap.size, 5, none⟩ (.int .i64 R1.h)).setCell ⟨w6.heap.size, 6, none⟩ (.int .i64 R1.w)).drew := (((Ext.refl (fun k => k = w6.heap.size) w8).setCell (p := ⟨w6.heap.size, 5, none⟩) (fun _ => rfl) _).setCell (p := ⟨w6.heap.size, 6, none⟩) (fun _ => rfl) _).drew
            have hBz : BlockIs ((w8.setCell ⟨w6.heap.size, 5, none⟩ (.int .i64 R1.h)).setCell ⟨w6.heap.size, 6, none⟩ (.int .i64 R1.w)).drew w6.heap.size [.int .i64 R1.x, .int .i64 R1.y, .int .i64 R1.w, .int .i64 R1.h, .int .i64 (1 : Int), .int .i64 R1.h, .int .i64 R1.w] 50 := ((hBS.set 5 (.int .i64 R1.h)).set 6 (.int .i64 R1.w)).drew
            have hBr := hBr.ext hXz (fun e => by have e' : tb + 1 = w6.heap.size := e; omega)
            have hP : Pure w ((w8.setCell ⟨w6.heap.size, 5, none⟩ (.int .i64 R1.h)).setCell ⟨w6.heap.size, 6, none⟩ (.int .i64 R1.w)).drew := hP.trans hXz (fun i hi e => by have e' : i = w6.heap.size := e; have := HTb.out; omega)
            have hRS := hBz.range
            clear hXz hBz hBS e5 f5 e6 f6 s0 s1
            have HTh : Hid (((w8.setCell ⟨w6.heap.size, 5, none⟩ (.int .i64 R1.h)).setCell ⟨w6.heap.size, 6, none⟩ (.int .i64 R1.w)).drew.there (tb + 1) 0 (#[.int .i64 R1.x, .int .i64 R1.y, .int .i64 R1.w, .int .i64 R1.h, .int .i64 (1 : Int), .int .i64 R1.h, .int .i64 R1.w] : Array Value).size) := Lib.hid (hBr.there 7 rfl)
            have HSi : Hid ((Try.prog.info? 50).map (·.size) = some (#[.int .i64 R1.x, .int .i64 R1.y, .int .i64 R1.w, .int .i64 R1.h, .int .i64 (1 : Int), .int .i64 R1.h, .int .i64 R1.w] : Array Value).size) := Lib.hid size50
            have HP8 : Hid (Pure w (((w8.setCell ⟨w6.heap.size, 5, none⟩ (.int .i64 R1.h)).setCell ⟨w6.heap.size, 6, none⟩ (.int .i64 R1.w)).drew.setCells (tb + 1) 0 [.int .i64 R1.x, .int .i64 R1.y, .int .i64 R1.w, .int .i64 R1.h, .int .i64 (1 : Int), .int .i64 R1.h, .int .i64 R1.w])) := Lib.hid (Ext.setCells _ 0 ((w8.setCell ⟨w6.heap.size, 5, none⟩ (.int .i64 R1.h)).setCell ⟨w6.heap.size, 6, none⟩ (.int .i64 R1.w)).drew hP (b := tb + 1) (fun h => by have := HTb.out; omega))
            have HB9 := Lib.hid (set7 hBr rfl (.int .i64 R1.x) (.int .i64 R1.y) (.int .i64 R1.w) (.int .i64 R1.h) (.int .i64 (1 : Int)) (.int .i64 R1.h) (.int .i64 R1.w))
            clear hBr hP
            go_wp2_with (first
              | (with_reducible refine at_load 50 (.tmp 8) ?_; refine wpList_load_mid rfl 50 (.tmp 8) rfl w6.heap.size 0 rfl [.int .i64 R1.x, .int .i64 R1.y, .int .i64 R1.w, .int .i64 R1.h, .int .i64 (1 : Int), .int .i64 R1.h, .int .i64 R1.w] _ hRS Try.underlying50 rfl (sz50 _ _ _ _ _ _ _) ?_)
              | (with_reducible refine at_store 50 (.tmp 2) (.tmp 65) ?_; refine wpList_store_mid rfl 50 (.tmp 2) (.tmp 65) rfl (tb + 1) 0 #[.int .i64 R1.x, .int .i64 R1.y, .int .i64 R1.w, .int .i64 R1.h, .int .i64 (1 : Int), .int .i64 R1.h, .int .i64 R1.w] rfl rfl HTh.out HSi.out (one7 _ _ _ _ _ _ _) ?_))
            refine bodyPost_ret (results_row2 rfl _ _ (tb + 1) _ [.int .i64 R1.x, .int .i64 R1.y, .int .i64 R1.w, .int .i64 R1.h, .int .i64 (1 : Int), .int .i64 R1.h, .int .i64 R1.w] _ rfl HB9.out Try.underlying50 rfl size50) rfl ?_
            exact ⟨by rw [HFr.out]; rfl, HP8.out⟩
          · have HFr : Hid (F = (⟨R1, 2, R1.w, R1.h⟩, 0)) := Lib.hid (by rw [HFq.out]; rfl)
            have hBS := BlockIs.new w6 [.int .i64 R1.x, .int .i64 R1.y, .int .i64 R1.w, .int .i64 R1.h, .int .i64 (2 : Int), .int .i64 R1.w, .int .i64 R1.h] 50
            have hPn : Pure w6 (w6.alloc (.cells #[.int .i64 R1.x, .int .i64 R1.y, .int .i64 R1.w, .int .i64 R1.h, .int .i64 (2 : Int), .int .i64 R1.w, .int .i64 R1.h] 50)) := ext_alloc w6 _
            have hBr := hBr.ext hPn id
            have hP := hP.pure hPn
            have hRS : (w6.alloc (.cells #[.int .i64 R1.x, .int .i64 R1.y, .int .i64 R1.w, .int .i64 R1.h, .int .i64 (2 : Int), .int .i64 R1.w, .int .i64 R1.h] 50)).rangeAt w6.heap.size 0 [.int .i64 R1.x, .int .i64 R1.y, .int .i64 R1.w, .int .i64 R1.h, .int .i64 (2 : Int), .int .i64 R1.w, .int .i64 R1.h] := hBS.range
            clear hBS hP7 hw7 hBR hPn HFq
            have HTh : Hid ((w6.alloc (.cells #[.int .i64 R1.x, .int .i64 R1.y, .int .i64 R1.w, .int .i64 R1.h, .int .i64 (2 : Int), .int .i64 R1.w, .int .i64 R1.h] 50)).there (tb + 1) 0 (#[.int .i64 R1.x, .int .i64 R1.y, .int .i64 R1.w, .int .i64 R1.h, .int .i64 (2 : Int), .int .i64 R1.w, .int .i64 R1.h] : Array Value).size) := Lib.hid (hBr.there 7 rfl)
            have HSi : Hid ((Try.prog.info? 50).map (·.size) = some (#[.int .i64 R1.x, .int .i64 R1.y, .int .i64 R1.w, .int .i64 R1.h, .int .i64 (2 : Int), .int .i64 R1.w, .int .i64 R1.h] : Array Value).size) := Lib.hid size50
            have HP8 : Hid (Pure w ((w6.alloc (.cells #[.int .i64 R1.x, .int .i64 R1.y, .int .i64 R1.w, .int .i64 R1.h, .int .i64 (2 : Int), .int .i64 R1.w, .int .i64 R1.h] 50)).setCells (tb + 1) 0 [.int .i64 R1.x, .int .i64 R1.y, .int .i64 R1.w, .int .i64 R1.h, .int .i64 (2 : Int), .int .i64 R1.w, .int .i64 R1.h])) := Lib.hid (Ext.setCells _ 0 (w6.alloc (.cells #[.int .i64 R1.x, .int .i64 R1.y, .int .i64 R1.w, .int .i64 R1.h, .int .i64 (2 : Int), .int .i64 R1.w, .int .i64 R1.h] 50)) hP (b := tb + 1) (fun h => by have := HTb.out; omega))
            have HB9 := Lib.hid (set7 hBr rfl (.int .i64 R1.x) (.int .i64 R1.y) (.int .i64 R1.w) (.int .i64 R1.h) (.int .i64 (2 : Int)) (.int .i64 R1.w) (.int .i64 R1.h))
            clear hBr hP
            go_wp2_with (first
              | (with_reducible refine at_store 24 (.tmp 6) (.tmp 26) ?_; refine wpList_store_mid rfl 24 (.tmp 6) (.tmp 26) rfl w5.heap.size 0 cb.toArray rfl rfl HThcb.out HSicb.out HOncb.out ?_; rw [← HWncb.out])
              | (with_reducible refine at_load 28 (.tmp 4) ?_; refine wpList_load_mid rfl 28 (.tmp 4) rfl w3.heap.size 0 rfl [.int .i64 R1.x, .int .i64 R1.y, .int .i64 R1.w, .int .i64 R1.h] _ hRR Try.underlying28 rfl (sz28 _ _ _ _) ?_)
              | (with_reducible refine at_load 50 (.tmp 8) ?_; refine wpList_load_mid rfl 50 (.tmp 8) rfl w6.heap.size 0 rfl [.int .i64 R1.x, .int .i64 R1.y, .int .i64 R1.w, .int .i64 R1.h, .int .i64 (2 : Int), .int .i64 R1.w, .int .i64 R1.h] _ hRS Try.underlying50 rfl (sz50 _ _ _ _ _ _ _) ?_)
              | (with_reducible refine at_store 50 (.tmp 2) (.tmp 65) ?_; refine wpList_store_mid rfl 50 (.tmp 2) (.tmp 65) rfl (tb + 1) 0 #[.int .i64 R1.x, .int .i64 R1.y, .int .i64 R1.w, .int .i64 R1.h, .int .i64 (2 : Int), .int .i64 R1.w, .int .i64 R1.h] rfl rfl HTh.out HSi.out (one7 _ _ _ _ _ _ _) ?_))
            refine bodyPost_ret (results_row2 rfl _ _ (tb + 1) _ [.int .i64 R1.x, .int .i64 R1.y, .int .i64 R1.w, .int .i64 R1.h, .int .i64 (2 : Int), .int .i64 R1.w, .int .i64 R1.h] _ rfl HB9.out Try.underlying50 rfl size50) rfl ?_
            exact ⟨by rw [HFr.out]; rfl, HP8.out⟩
          · have HFr : Hid (F = (⟨R1, 3, R1.h, R1.w⟩, 0)) := Lib.hid (by rw [HFq.out]; rfl)
            obtain ⟨w8, hw8⟩ : ∃ z, z = (w6.alloc (.cells #[.int .i64 R1.x, .int .i64 R1.y, .int .i64 R1.w, .int .i64 R1.h, .int .i64 (3 : Int), .int .i64 R1.w, .int .i64 R1.h] 50)) := ⟨_, rfl⟩
            have hBS : BlockIs w8 w6.heap.size [.int .i64 R1.x, .int .i64 R1.y, .int .i64 R1.w, .int .i64 R1.h, .int .i64 (3 : Int), .int .i64 R1.w, .int .i64 R1.h] 50 := hw8 ▸ BlockIs.new w6 _ _
            have hPn : Pure w6 w8 := hw8 ▸ ext_alloc w6 _
            have hBr := hBr.ext hPn id
            have hP := hP.pure hPn
            have hBR := hBR.ext hPn id
            have HW8 : Hid ((w6.alloc (.cells #[.int .i64 R1.x, .int .i64 R1.y, .int .i64 R1.w, .int .i64 R1.h, .int .i64 (3 : Int), .int .i64 R1.w, .int .i64 R1.h] 50)) = w8) := Lib.hid hw8.symm
            have hzr := hBr.lt
            have hb6 : tb + 2 ≤ w6.heap.size ∧ w3.heap.size < w6.heap.size := by omega
            have s0 : w8.drew.cell? ⟨w3.heap.size, 2, none⟩ = some (.int .i64 R1.w) := hBR.cell 2
            have s1 : w8.drew.cell? ⟨w3.heap.size, 3, none⟩ = some (.int .i64 R1.h) := hBR.cell 3
            clear hP7 hw7 hPn HFq hw8 hBR
            go_wp2_with (first
              | (with_reducible refine at_store 24 (.tmp 6) (.tmp 26) ?_; refine wpList_store_mid rfl 24 (.tmp 6) (.tmp 26) rfl w5.heap.size 0 cb.toArray rfl rfl HThcb.out HSicb.out HOncb.out ?_; rw [← HWncb.out])
              | (with_reducible refine at_load 28 (.tmp 4) ?_; refine wpList_load_mid rfl 28 (.tmp 4) rfl w3.heap.size 0 rfl [.int .i64 R1.x, .int .i64 R1.y, .int .i64 R1.w, .int .i64 R1.h] _ hRR Try.underlying28 rfl (sz28 _ _ _ _) ?_))
            rw [HW8.out]
            have e5 : w8.cell? ⟨w6.heap.size, 5, none⟩ = some (.int .i64 R1.w) := hBS.cell 5
            have f5 : w8.frozen? ⟨w6.heap.size, 5, none⟩ = false := hBS.free 5
            have e6 : w8.cell? ⟨w6.heap.size, 6, none⟩ = some (.int .i64 R1.h) := hBS.cell 6
            have f6 : w8.frozen? ⟨w6.heap.size, 6, none⟩ = false := hBS.free 6
            clear r0 r1 hRR y0 y1 y1'
            refine region_start (fun k => k = w6.heap.size) (by kernel_rfl) ?_
            try simp only [Act.put, List.setIfInBounds_toArray, List.set_cons_zero, List.set_cons_succ]
            refine region_take 0 59 (v := ?vp30) rfl rfl (by kernel_rfl) (by kernel_rfl) (by kernel_rfl) (fun _ _ _ h => h) (by rfl) (fun w' hS => ?hp30) ?rp30
            case hp30 => go_simp; with_reducible rfl
            try simp only [Act.put, List.setIfInBounds_toArray, List.set_cons_zero, List.set_cons_succ]
            refine region_take 1 60 (v := ?vp31) rfl rfl (by kernel_rfl) (by kernel_rfl) (by kernel_rfl) (fun _ _ _ h => h) (by rfl) (fun w' hS => ?hp31) ?rp31
            case hp31 => (have e := hS.cell_some s1 (by intro e; simp only at e; omega); go_simp; with_reducible rfl)
            try simp only [Act.put, List.setIfInBounds_toArray, List.set_cons_zero, List.set_cons_succ]
            refine region_take 2 61 (v := ?vp32) rfl rfl (by kernel_rfl) (by kernel_rfl) (by kernel_rfl) (fun _ _ _ h => h) (by rfl) (fun w' hS => ?hp32) ?rp32
            case hp32 => go_simp; with_reducible rfl
            try simp only [Act.put, List.setIfInBounds_toArray, List.set_cons_zero, List.set_cons_succ]
            refine region_take 3 62 (v := ?vp33) rfl rfl (by kernel_rfl) (by kernel_rfl) (by kernel_rfl) (fun _ _ _ h => h) (by rfl) (fun w' hS => ?hp33) ?rp33
            case hp33 => (have e := hS.cell_some s0 (by intro e; simp only at e; omega); go_simp; with_reducible rfl)
            try simp only [Act.put, List.setIfInBounds_toArray, List.set_cons_zero, List.set_cons_succ]
            refine region_take 4 63 (v := ?vp34) rfl rfl (by kernel_rfl) (by kernel_rfl) (by kernel_rfl) (fun _ _ _ h => h) (by rfl) (fun w' hS => ?hp34) ?rp34
            case hp34 => go_simp; with_reducible rfl
            try simp only [Act.put, List.setIfInBounds_toArray, List.set_cons_zero, List.set_cons_succ]
            refine wpAnyH_ready (rs := [5]) (by kernel_rfl) (by simp) (AllReadyH.cons rfl (fun K hK => ?_) AllReadyH.nil)
            go_simp
            refine hK.out _ _ ((Ext.refl (fun k => k = w6.heap.size) _).setCell (p := ⟨w6.heap.size, 5, none⟩) (fun _ => rfl) _) (fun hHeld => ?_)
            clear hK K hHeld
            refine region_now ((Ext.refl (fun k => k = w6.heap.size) _).setCell (p := ⟨w6.heap.size, 5, none⟩) (fun _ => rfl) _) ?_
            try simp only [Act.put, List.setIfInBounds_toArray, List.set_cons_zero, List.set_cons_succ]
            refine region_take 6 64 (v := ?vp36) rfl rfl (by kernel_rfl) (by kernel_rfl) (by kernel_rfl) (fun _ _ _ h => h) (by rfl) (fun w' hS => ?hp36) ?rp36
            case hp36 => go_simp; with_reducible rfl
            try simp only [Act.put, List.setIfInBounds_toArray, List.set_cons_zero, List.set_cons_succ]
            refine wpAnyH_ready (rs := [7]) (by kernel_rfl) (by simp) (AllReadyH.cons rfl (fun K hK => ?_) AllReadyH.nil)
            go_simp
            refine hK.out _ _ ((Ext.refl (fun k => k = w6.heap.size) _).setCell (p := ⟨w6.heap.size, 6, none⟩) (fun _ => rfl) _) (fun hHeld => ?_)
            clear hK K hHeld
            refine region_now ((Ext.refl (fun k => k = w6.heap.size) _).setCell (p := ⟨w6.heap.size, 6, none⟩) (fun _ => rfl) _) ?_
            try simp only [Act.put, List.setIfInBounds_toArray, List.set_cons_zero, List.set_cons_succ]
            refine wpAnyH_done (by kernel_rfl) ?_ _
            have hXz : Ext (fun k => k = w6.heap.size) w8 ((w8.setCell ⟨w6.heap.size, 5, none⟩ (.int .i64 R1.h)).setCell ⟨w6.heap.size, 6, none⟩ (.int .i64 R1.w)).drew := (((Ext.refl (fun k => k = w6.heap.size) w8).setCell (p := ⟨w6.heap.size, 5, none⟩) (fun _ => rfl) _).setCell (p := ⟨w6.heap.size, 6, none⟩) (fun _ => rfl) _).drew
            have hBz : BlockIs ((w8.setCell ⟨w6.heap.size, 5, none⟩ (.int .i64 R1.h)).setCell ⟨w6.heap.size, 6, none⟩ (.int .i64 R1.w)).drew w6.heap.size [.int .i64 R1.x, .int .i64 R1.y, .int .i64 R1.w, .int .i64 R1.h, .int .i64 (3 : Int), .int .i64 R1.h, .int .i64 R1.w] 50 := ((hBS.set 5 (.int .i64 R1.h)).set 6 (.int .i64 R1.w)).drew
            have hBr := hBr.ext hXz (fun e => by have e' : tb + 1 = w6.heap.size := e; omega)
            have hP : Pure w ((w8.setCell ⟨w6.heap.size, 5, none⟩ (.int .i64 R1.h)).setCell ⟨w6.heap.size, 6, none⟩ (.int .i64 R1.w)).drew := hP.trans hXz (fun i hi e => by have e' : i = w6.heap.size := e; have := HTb.out; omega)
            have hRS := hBz.range
            clear hXz hBz hBS e5 f5 e6 f6 s0 s1
            have HTh : Hid (((w8.setCell ⟨w6.heap.size, 5, none⟩ (.int .i64 R1.h)).setCell ⟨w6.heap.size, 6, none⟩ (.int .i64 R1.w)).drew.there (tb + 1) 0 (#[.int .i64 R1.x, .int .i64 R1.y, .int .i64 R1.w, .int .i64 R1.h, .int .i64 (3 : Int), .int .i64 R1.h, .int .i64 R1.w] : Array Value).size) := Lib.hid (hBr.there 7 rfl)
            have HSi : Hid ((Try.prog.info? 50).map (·.size) = some (#[.int .i64 R1.x, .int .i64 R1.y, .int .i64 R1.w, .int .i64 R1.h, .int .i64 (3 : Int), .int .i64 R1.h, .int .i64 R1.w] : Array Value).size) := Lib.hid size50
            have HP8 : Hid (Pure w (((w8.setCell ⟨w6.heap.size, 5, none⟩ (.int .i64 R1.h)).setCell ⟨w6.heap.size, 6, none⟩ (.int .i64 R1.w)).drew.setCells (tb + 1) 0 [.int .i64 R1.x, .int .i64 R1.y, .int .i64 R1.w, .int .i64 R1.h, .int .i64 (3 : Int), .int .i64 R1.h, .int .i64 R1.w])) := Lib.hid (Ext.setCells _ 0 ((w8.setCell ⟨w6.heap.size, 5, none⟩ (.int .i64 R1.h)).setCell ⟨w6.heap.size, 6, none⟩ (.int .i64 R1.w)).drew hP (b := tb + 1) (fun h => by have := HTb.out; omega))
            have HB9 := Lib.hid (set7 hBr rfl (.int .i64 R1.x) (.int .i64 R1.y) (.int .i64 R1.w) (.int .i64 R1.h) (.int .i64 (3 : Int)) (.int .i64 R1.h) (.int .i64 R1.w))
            clear hBr hP
            go_wp2_with (first
              | (with_reducible refine at_load 50 (.tmp 8) ?_; refine wpList_load_mid rfl 50 (.tmp 8) rfl w6.heap.size 0 rfl [.int .i64 R1.x, .int .i64 R1.y, .int .i64 R1.w, .int .i64 R1.h, .int .i64 (3 : Int), .int .i64 R1.h, .int .i64 R1.w] _ hRS Try.underlying50 rfl (sz50 _ _ _ _ _ _ _) ?_)
              | (with_reducible refine at_store 50 (.tmp 2) (.tmp 65) ?_; refine wpList_store_mid rfl 50 (.tmp 2) (.tmp 65) rfl (tb + 1) 0 #[.int .i64 R1.x, .int .i64 R1.y, .int .i64 R1.w, .int .i64 R1.h, .int .i64 (3 : Int), .int .i64 R1.h, .int .i64 R1.w] rfl rfl HTh.out HSi.out (one7 _ _ _ _ _ _ _) ?_))
            refine bodyPost_ret (results_row2 rfl _ _ (tb + 1) _ [.int .i64 R1.x, .int .i64 R1.y, .int .i64 R1.w, .int .i64 R1.h, .int .i64 (3 : Int), .int .i64 R1.h, .int .i64 R1.w] _ rfl HB9.out Try.underlying50 rfl size50) rfl ?_
            exact ⟨by rw [HFr.out]; rfl, HP8.out⟩
        · have hn' : (n2.tmod 90 != 0) = true := by simpa using hn
          have HFr : Hid (F = (.zero, 2)) := Lib.hid (by rw [HFe.out]; simp [hn])
          clear HFe hBS hP7 hw7 HW7 hBR hn
          have HTh : Hid (w6.there (tb + 1) 0 (#[.int .i64 0, .int .i64 0, .int .i64 0, .int .i64 0, .int .i64 0, .int .i64 0, .int .i64 0] : Array Value).size) := Lib.hid (hBr.there 7 rfl)
          have HSi : Hid ((Try.prog.info? 50).map (·.size) = some (#[.int .i64 0, .int .i64 0, .int .i64 0, .int .i64 0, .int .i64 0, .int .i64 0, .int .i64 0] : Array Value).size) := Lib.hid size50
          have HP8 : Hid (Pure w (w6.setCells (tb + 1) 0 [.int .i64 0, .int .i64 0, .int .i64 0, .int .i64 0, .int .i64 0, .int .i64 0, .int .i64 0])) := Lib.hid (Ext.setCells _ 0 w6 hP (b := tb + 1) (fun h => by have := HTb.out; omega))
          have HB9 := Lib.hid (set7 hBr rfl (.int .i64 0) (.int .i64 0) (.int .i64 0) (.int .i64 0) (.int .i64 0) (.int .i64 0) (.int .i64 0))
          clear hBr hP
          go_wp2_with (first
            | (with_reducible refine at_store 24 (.tmp 6) (.tmp 26) ?_; refine wpList_store_mid rfl 24 (.tmp 6) (.tmp 26) rfl w5.heap.size 0 cb.toArray rfl rfl HThcb.out HSicb.out HOncb.out ?_; rw [← HWncb.out])
            | (with_reducible refine at_store 50 (.tmp 2) (.tmp 40) ?_; refine wpList_store_mid rfl 50 (.tmp 2) (.tmp 40) rfl (tb + 1) 0 #[.int .i64 0, .int .i64 0, .int .i64 0, .int .i64 0, .int .i64 0, .int .i64 0, .int .i64 0] rfl rfl HTh.out HSi.out (one7 _ _ _ _ _ _ _) ?_))
          refine bodyPost_ret (results_row2 rfl _ _ (tb + 1) _ [.int .i64 0, .int .i64 0, .int .i64 0, .int .i64 0, .int .i64 0, .int .i64 0, .int .i64 0] _ rfl HB9.out Try.underlying50 rfl size50) rfl ?_
          exact ⟨by rw [HFr.out]; rfl, HP8.out⟩
      · have hk' : (k2 != 2) = true := by simpa using hk
        have HFr : Hid (F = (.zero, 2)) := Lib.hid (by rw [HFe.out]; simp [hk])
        clear HFe hBS hP7 hw7 HW7 hBR hk
        have HTh : Hid (w6.there (tb + 1) 0 (#[.int .i64 0, .int .i64 0, .int .i64 0, .int .i64 0, .int .i64 0, .int .i64 0, .int .i64 0] : Array Value).size) := Lib.hid (hBr.there 7 rfl)
        have HSi : Hid ((Try.prog.info? 50).map (·.size) = some (#[.int .i64 0, .int .i64 0, .int .i64 0, .int .i64 0, .int .i64 0, .int .i64 0, .int .i64 0] : Array Value).size) := Lib.hid size50
        have HP8 : Hid (Pure w (w6.setCells (tb + 1) 0 [.int .i64 0, .int .i64 0, .int .i64 0, .int .i64 0, .int .i64 0, .int .i64 0, .int .i64 0])) := Lib.hid (Ext.setCells _ 0 w6 hP (b := tb + 1) (fun h => by have := HTb.out; omega))
        have HB9 := Lib.hid (set7 hBr rfl (.int .i64 0) (.int .i64 0) (.int .i64 0) (.int .i64 0) (.int .i64 0) (.int .i64 0) (.int .i64 0))
        clear hBr hP
        go_wp2_with (first
          | (with_reducible refine at_store 24 (.tmp 6) (.tmp 26) ?_; refine wpList_store_mid rfl 24 (.tmp 6) (.tmp 26) rfl w5.heap.size 0 cb.toArray rfl rfl HThcb.out HSicb.out HOncb.out ?_; rw [← HWncb.out])
          | (with_reducible refine at_store 50 (.tmp 2) (.tmp 40) ?_; refine wpList_store_mid rfl 50 (.tmp 2) (.tmp 40) rfl (tb + 1) 0 #[.int .i64 0, .int .i64 0, .int .i64 0, .int .i64 0, .int .i64 0, .int .i64 0, .int .i64 0] rfl rfl HTh.out HSi.out (one7 _ _ _ _ _ _ _) ?_))
        refine bodyPost_ret (results_row2 rfl _ _ (tb + 1) _ [.int .i64 0, .int .i64 0, .int .i64 0, .int .i64 0, .int .i64 0, .int .i64 0, .int .i64 0] _ rfl HB9.out Try.underlying50 rfl size50) rfl ?_
        exact ⟨by rw [HFr.out]; rfl, HP8.out⟩
  · have hne1 : (e1 != 0) = true := by simpa using he1
    have HFr : Hid (F = (.zero, e1)) := Lib.hid (by rw [HFe.out]; simp [he1])
    rw [← HWw4.out] at hBr hP
    clear HFe hBR he1 hRp hBt
    have HTh : Hid ((w3.alloc (.cells #[.int .i64 R1.x, .int .i64 R1.y, .int .i64 R1.w, .int .i64 R1.h] 28)).there (tb + 1) 0 (#[.int .i64 0, .int .i64 0, .int .i64 0, .int .i64 0, .int .i64 0, .int .i64 0, .int .i64 0] : Array Value).size) := Lib.hid (hBr.there 7 rfl)
    have HSi : Hid ((Try.prog.info? 50).map (·.size) = some (#[.int .i64 0, .int .i64 0, .int .i64 0, .int .i64 0, .int .i64 0, .int .i64 0, .int .i64 0] : Array Value).size) := Lib.hid size50
    have HP8 : Hid (Pure w ((w3.alloc (.cells #[.int .i64 R1.x, .int .i64 R1.y, .int .i64 R1.w, .int .i64 R1.h] 28)).setCells (tb + 1) 0 [.int .i64 0, .int .i64 0, .int .i64 0, .int .i64 0, .int .i64 0, .int .i64 0, .int .i64 0])) := Lib.hid (Ext.setCells _ 0 (w3.alloc (.cells #[.int .i64 R1.x, .int .i64 R1.y, .int .i64 R1.w, .int .i64 R1.h] 28)) hP (b := tb + 1) (fun h => by have := HTb.out; omega))
    have HB9 := Lib.hid (set7 hBr rfl (.int .i64 0) (.int .i64 0) (.int .i64 0) (.int .i64 0) (.int .i64 0) (.int .i64 0) (.int .i64 0))
    clear hBr hP
    go_wp2_with (first
      | (with_reducible refine at_store 50 (.tmp 2) (.tmp 21) ?_; refine wpList_store_mid rfl 50 (.tmp 2) (.tmp 21) rfl (tb + 1) 0 #[.int .i64 0, .int .i64 0, .int .i64 0, .int .i64 0, .int .i64 0, .int .i64 0, .int .i64 0] rfl rfl HTh.out HSi.out (one7 _ _ _ _ _ _ _) ?_))
    refine bodyPost_ret (results_row2 rfl _ _ (tb + 1) _ [.int .i64 0, .int .i64 0, .int .i64 0, .int .i64 0, .int .i64 0, .int .i64 0, .int .i64 0] _ rfl HB9.out Try.underlying50 rfl size50) rfl ?_
    exact ⟨by rw [HFr.out]; rfl, HP8.out⟩
end Go.Proofs.Ytnibjjpohhknkaa
