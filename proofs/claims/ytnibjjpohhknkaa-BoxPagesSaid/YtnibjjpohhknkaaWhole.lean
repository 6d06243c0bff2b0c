/-
  Walked: the program's whole (printed by mkwhole.py).
-/
import Derived.Test.YtnibjjpohhknkaaNamed
namespace Go.Proofs.Ytnibjjpohhknkaa
open Go.RowKit
set_option linter.unusedVariables false
set_option linter.unusedSimpArgs false

instance : DecidableEq Bx := fun a b => if h : a.x = b.x ∧ a.y = b.y ∧ a.w = b.w ∧ a.h = b.h then isTrue (Bx.ext' h.1 h.2.1 h.2.2.1 h.2.2.2) else isFalse (fun e => h (by rw [e]; exact ⟨rfl, rfl, rfl, rfl⟩))
theorem sz28 (a b c d : Int) : (Try.prog.info? 28).map (·.size) = some ([Value.int .i64 a, .int .i64 b, .int .i64 c, .int .i64 d] : List Value).length := size28
def kMedia : ByteArray := ⟨#[77, 101, 100, 105, 97, 66, 111, 120]⟩
def kCrop : ByteArray := ⟨#[67, 114, 111, 112, 66, 111, 120]⟩
def kRot : ByteArray := ⟨#[82, 111, 116, 97, 116, 101]⟩
/-- a page's box, or the error -/
def wholeP (l : List Ob) (g : V) : Bx × Int :=
  if (namedP l g kMedia).2 = true then
    if (namedP l g kMedia).1.box.2 = 0 ∧ (namedP l g kCrop).2 = true then
      if (namedP l g kCrop).1.box.2 = 0 then
        if (namedP l g kMedia).1.box.1.both (namedP l g kCrop).1.box.1 = .zero then ((namedP l g kMedia).1.box.1, 0)
        else ((namedP l g kMedia).1.box.1.both (namedP l g kCrop).1.box.1, 0)
      else (.zero, (namedP l g kCrop).1.box.2)
    else (namedP l g kMedia).1.box
  else (.zero, 4)
theorem size47 : (Try.prog.info? 47).map (·.size) = some 5 := by kernel_rfl
theorem sz47 {cs : List Value} (h : cs.length = 5) : (Try.prog.info? 47).map (·.size) = some cs.length := by rw [h]; exact size47
theorem neq_rect (a : Bx) (ha : a ≠ .zero) (w : World) : (binOp .neq 28 (.agg #[.int .i64 a.x, .int .i64 a.y, .int .i64 a.w, .int .i64 a.h]) (.agg #[.int .i64 0, .int .i64 0, .int .i64 0, .int .i64 0])).run Try.prog w = .ok (.bool true) w := by
  have hne : ¬ (a.x = 0 ∧ a.y = 0 ∧ a.w = 0 ∧ a.h = 0) := fun h => ha (Bx.ext' h.1 h.2.1 h.2.2.1 h.2.2.2)
  rw [run_neq_struct]
  go_simp
  exact fun h1 h2 h3 h4 => hne ⟨h1, h2, h3, h4⟩
theorem neq_zero (a : Bx) (ha : a = .zero) (w : World) : (binOp .neq 28 (.agg #[.int .i64 a.x, .int .i64 a.y, .int .i64 a.w, .int .i64 a.h]) (.agg #[.int .i64 0, .int .i64 0, .int .i64 0, .int .i64 0])).run Try.prog w = .ok (.bool false) w := by
  subst ha
  rw [run_neq_struct]
  go_simp
  rfl
set_option maxHeartbeats 2000000 in
set_option maxRecDepth 100000 in
theorem whole_any (d : Nat) (objs : List Ob) (oa : Option Addr) (oc : Nat) (rows : List (List Value)) (gv : V) (gcs : List Value) (w0 w : World) (hP0 : Pure w0 w) (hOK : OKids w0 (d + 1) objs oa rows) (hG : Lies w0 (d + 1) gv gcs) (hne : 0 < objs.length) (hol : objs.length ≤ 1000000) (hvl : ∀ u ∈ objs, u.v.l.length ≤ 1000000) (hgl : gv.l.length ≤ 1000000) (hnl : ∀ k, (namedP objs gv k).1.l.length ≤ 1000000) :
    Calls Try.prog 42 #[.agg (Value.slice oa objs.length oc :: gcs).toArray] w (BoxTo (wholeP objs gv) w) := by
  have HN1 := Lib.hid (fun W (hP : Pure w W) => named_any d objs oa oc rows gv gcs kMedia w0 W (hP0.pure hP) hOK hG hne hol hvl hgl)
  have HN2 := Lib.hid (fun W (hP : Pure w W) => named_any d objs oa oc rows gv gcs kCrop w0 W (hP0.pure hP) hOK hG hne hol hvl hgl)
  obtain ⟨F, hF⟩ : ∃ F, F = wholeP objs gv := ⟨_, rfl⟩
  have hFe := hF
  rw [← hF]
  unfold wholeP at hFe
  have l1 := hnl kMedia
  have l2 := hnl kCrop
  obtain ⟨G1, hG1⟩ : ∃ G, G = namedP objs gv kMedia := ⟨_, rfl⟩
  obtain ⟨G2, hG2⟩ : ∃ G, G = namedP objs gv kCrop := ⟨_, rfl⟩
  rw [← hG1] at hFe HN1 l1
  rw [← hG2] at hFe HN2 l2
  have HFe := Lib.hid hFe
  have hgl4 := hG.len
  obtain ⟨on, hon⟩ : ∃ on, on = objs.length := ⟨_, rfl⟩
  rw [← hon] at HN1 HN2 ⊢
  have HL5 : Hid ((Value.slice oa on oc :: gcs).length = 5) := Lib.hid (by rw [List.length_cons, hgl4])
  obtain ⟨w1, hw1⟩ : ∃ z, z = w.alloc (.cells (Value.slice oa on oc :: gcs).toArray 47) := ⟨_, rfl⟩
  obtain ⟨tb, htb⟩ : ∃ z, z = w.heap.size := ⟨_, rfl⟩
  have hB1 : BlockIs w1 tb (Value.slice oa on oc :: gcs) 47 := by rw [htb, hw1]; exact BlockIs.new w _ _
  have hs1 : w1.heap.size = tb + 1 := by rw [hw1, World.size_alloc, htb]
  obtain ⟨w2, hw2⟩ : ∃ z, z = w1.alloc (.cells #[.int .i64 0, .int .i64 0, .int .i64 0, .int .i64 0] 28) := ⟨_, rfl⟩
  have hs2 : w2.heap.size = tb + 2 := by rw [hw2, World.size_alloc, hs1]
  have hBt : BlockIs w2 tb (Value.slice oa on oc :: gcs) 47 := hw2 ▸ hB1.alloc _
  have hBr : BlockIs w2 (tb + 1) [.int .i64 0, .int .i64 0, .int .i64 0, .int .i64 0] 28 := by rw [← hs1, hw2]; exact BlockIs.new w1 _ _
  have hP : Pure w w2 := (show Pure w w1 from hw1 ▸ ext_alloc w _).pure (hw2 ▸ ext_alloc w1 _)
  have HW : Hid ((w.alloc (.cells (Value.slice oa on oc :: gcs).toArray 47)).alloc (.cells #[.int .i64 0, .int .i64 0, .int .i64 0, .int .i64 0] 28) = w2) := Lib.hid (by rw [hw2, hw1])
  have HTb := Lib.hid htb
  have HS2 := Lib.hid hs2
  have hRp : ((w.alloc (.cells (Value.slice oa on oc :: gcs).toArray 47)).alloc (.cells #[.int .i64 0, .int .i64 0, .int .i64 0, .int .i64 0] 28)).rangeAt w.heap.size 0 (Value.slice oa on oc :: gcs) := by rw [HW.out, ← htb]; exact hBt.range
  clear hF hFe hw1 hw2 hs1 hs2 hB1 htb hOK hG hne hon hvl hgl hG1 hG2 hgl4 hnl hol
  go_enter Try.func42, Try.ntmps42
  go_wp2_with (first
    | (with_reducible refine at_load 47 (.tmp 1) ?_; refine wpList_load_mid rfl 47 (.tmp 1) rfl w.heap.size 0 rfl (Value.slice oa on oc :: gcs) _ hRp Try.underlying47 rfl (sz47 HL5.out) ?_))
  rw [HW.out, ← HTb.out]
  clear hRp
  refine (HN1.out w2 hP).mono ?_
  rintro e w3 ⟨cb, rfl, hLc, hP3⟩
  have hBt := hBt.ext hP3 id
  have hBr := hBr.ext hP3 id
  have hP := hP.pure hP3
  have hb3 : tb + 2 ≤ w3.heap.size := by have := HS2.out; have := hP3.size; omega
  clear hP3 HN1
  obtain ⟨hth, hB6, hPx⟩ := put_new (W := w3) _ rfl (d := d + 1) (hLc.pure (hP0.pure hP))
  obtain ⟨w4, hwn⟩ : ∃ z, z = (w3.alloc (.cells zeroCs.toArray 24)).setCells w3.heap.size 0 cb := ⟨_, rfl⟩
  rw [← hwn] at hB6 hPx
  have hl6 := hLc.len
  have HThcb := Lib.hid (show (w3.alloc (.cells #[.int .i64 0, .int .i64 0, .string ⟨#[]⟩, .slice none 0 0] 24)).there w3.heap.size 0 cb.toArray.size by rw [show cb.toArray.size = 4 by simpa using hl6]; exact hth)
  have HSicb : Hid ((Try.prog.info? 24).map (·.size) = some cb.toArray.size) := Lib.hid (by rw [List.size_toArray, hl6]; exact size24)
  have HOncb := Lib.hid hLc.one
  have HWncb : Hid (w4 = (w3.alloc (.cells #[.int .i64 0, .int .i64 0, .string ⟨#[]⟩, .slice none 0 0] 24)).setCells w3.heap.size 0 cb.toArray.toList) := Lib.hid (by rw [hwn]; rfl)
  have hBt := hBt.ext hPx id
  have hBr := hBr.ext hPx id
  have hP := hP.pure hPx
  have hL6 := hLc
  clear hwn hth hPx hLc
  obtain ⟨is1, his1⟩ : ∃ z, z = G1.2 := ⟨_, rfl⟩
  rw [← his1] at HFe ⊢
  have hb4 : tb + 2 ≤ w4.heap.size := by have := hB6.lt; omega
  have hL4 : Lies w4 (d + 1) G1.1 cb := hL6.pure (hP0.pure hP)
  have HCb := Lib.hid hl6
  clear his1 hL6 hl6
  cases is1 with
  | false =>
    have HFr : Hid (F = (.zero, 4)) := Lib.hid (by rw [HFe.out]; rfl)
    clear HFe HN2 hB6 hL4
    have HTh : Hid (w4.there (tb + 1) 0 (#[.int .i64 0, .int .i64 0, .int .i64 0, .int .i64 0] : Array Value).size) := Lib.hid (hBr.there 4 rfl)
    have HSi : Hid ((Try.prog.info? 28).map (·.size) = some (#[.int .i64 0, .int .i64 0, .int .i64 0, .int .i64 0] : Array Value).size) := Lib.hid size28
    have HP8 : Hid (Pure w (w4.setCells (tb + 1) 0 [.int .i64 0, .int .i64 0, .int .i64 0, .int .i64 0])) := Lib.hid (Ext.setCells _ 0 w4 hP (b := tb + 1) (fun h => by have := HTb.out; omega))
    have HB9 := Lib.hid (setRect hBr rfl (.int .i64 0) (.int .i64 0) (.int .i64 0) (.int .i64 0))
    clear hBr hP hBt
    go_wp2_with (first
      | (with_reducible refine at_store 24 (.tmp 4) (.tmp 15) ?_; refine wpList_store_mid rfl 24 (.tmp 4) (.tmp 15) rfl w3.heap.size 0 cb.toArray rfl rfl HThcb.out HSicb.out HOncb.out ?_; rw [← HWncb.out])
      | (with_reducible refine at_store 28 (.tmp 2) (.tmp 19) ?_; refine wpList_store_mid rfl 28 (.tmp 2) (.tmp 19) rfl (tb + 1) 0 #[.int .i64 0, .int .i64 0, .int .i64 0, .int .i64 0] rfl rfl HTh.out HSi.out (one4 _ _ _ _) ?_))
    refine bodyPost_ret (results_row2 rfl _ _ (tb + 1) _ [.int .i64 0, .int .i64 0, .int .i64 0, .int .i64 0] _ rfl HB9.out Try.underlying28 rfl size28) rfl ?_
    exact ⟨by rw [HFr.out]; rfl, HP8.out⟩
  | true =>
    have HOf := Lib.hid (ofp_any d G1.1 cb w4 hL4 l1)
    obtain ⟨Q1, hQ1⟩ : ∃ Q, Q = G1.1.box := ⟨_, rfl⟩
    rw [← hQ1] at HFe HOf
    have hR6 := hB6.range
    clear hQ1 hL4 hB6
    go_wp2_with (first
      | (with_reducible refine at_store 24 (.tmp 4) (.tmp 15) ?_; refine wpList_store_mid rfl 24 (.tmp 4) (.tmp 15) rfl w3.heap.size 0 cb.toArray rfl rfl HThcb.out HSicb.out HOncb.out ?_; rw [← HWncb.out])
      | (with_reducible refine at_load 24 (.tmp 4) ?_; refine wpList_load_mid rfl 24 (.tmp 4) rfl w3.heap.size 0 rfl cb _ hR6 Try.underlying24 rfl (sz24 HCb.out) ?_))
    refine HOf.out.mono ?_
    rintro e w5 ⟨rfl, hP5⟩
    have hBt := hBt.ext hP5 id
    have hBr := hBr.ext hP5 id
    have hP := hP.pure hP5
    obtain ⟨R1, e1⟩ := Q1
    have hb5 : tb + 2 ≤ w5.heap.size := by have := hP5.size; omega
    clear hP5 HOf hR6
    obtain ⟨w6, hwn⟩ : ∃ z, z = w5.alloc (.cells #[.int .i64 R1.x, .int .i64 R1.y, .int .i64 R1.w, .int .i64 R1.h] 28) := ⟨_, rfl⟩
    have hBR : BlockIs w6 w5.heap.size [.int .i64 R1.x, .int .i64 R1.y, .int .i64 R1.w, .int .i64 R1.h] 28 := hwn ▸ BlockIs.new w5 _ _
    have hPx : Pure w5 w6 := hwn ▸ ext_alloc w5 _
    have HWw6 : Hid (w5.alloc (.cells #[.int .i64 R1.x, .int .i64 R1.y, .int .i64 R1.w, .int .i64 R1.h] 28) = w6) := Lib.hid hwn.symm
    have hBt := hBt.ext hPx id
    have hBr := hBr.ext hPx id
    have hP := hP.pure hPx
    have hRp : (w5.alloc (.cells #[.int .i64 R1.x, .int .i64 R1.y, .int .i64 R1.w, .int .i64 R1.h] 28)).rangeAt tb 0 (Value.slice oa on oc :: gcs) := by rw [HWw6.out]; exact hBt.range
    clear hwn hPx
    go_wp2_with (first
      | (with_reducible refine at_load 47 (.tmp 1) ?_; refine wpList_load_mid rfl 47 (.tmp 1) rfl tb 0 rfl (Value.slice oa on oc :: gcs) _ hRp Try.underlying47 rfl (sz47 HL5.out) ?_))
    rw [HWw6.out]
    clear hRp
    refine (HN2.out w6 hP).mono ?_
    rintro e w7 ⟨cc, rfl, hLc, hP7⟩
    have hBt := hBt.ext hP7 id
    have hBr := hBr.ext hP7 id
    have hBR := hBR.ext hP7 id
    have hP := hP.pure hP7
    clear hP7 HN2
    obtain ⟨hth, hB6, hPx⟩ := put_new (W := w7) _ rfl (d := d + 1) (hLc.pure (hP0.pure hP))
    obtain ⟨w8, hwn⟩ : ∃ z, z = (w7.alloc (.cells zeroCs.toArray 24)).setCells w7.heap.size 0 cc := ⟨_, rfl⟩
    rw [← hwn] at hB6 hPx
    have hl6 := hLc.len
    have HThcc := Lib.hid (show (w7.alloc (.cells #[.int .i64 0, .int .i64 0, .string ⟨#[]⟩, .slice none 0 0] 24)).there w7.heap.size 0 cc.toArray.size by rw [show cc.toArray.size = 4 by simpa using hl6]; exact hth)
    have HSicc : Hid ((Try.prog.info? 24).map (·.size) = some cc.toArray.size) := Lib.hid (by rw [List.size_toArray, hl6]; exact size24)
    have HOncc := Lib.hid hLc.one
    have HWncc : Hid (w8 = (w7.alloc (.cells #[.int .i64 0, .int .i64 0, .string ⟨#[]⟩, .slice none 0 0] 24)).setCells w7.heap.size 0 cc.toArray.toList) := Lib.hid (by rw [hwn]; rfl)
    have hBt := hBt.ext hPx id
    have hBr := hBr.ext hPx id
    have hBR := hBR.ext hPx id
    have hP := hP.pure hPx
    have hL6 := hLc
    clear hwn hth hPx hLc
    have hL8 : Lies w8 (d + 1) G2.1 cc := hL6.pure (hP0.pure hP)
    have HCc := Lib.hid hl6
    obtain ⟨is2, his2⟩ : ∃ z, z = G2.2 := ⟨_, rfl⟩
    rw [← his2] at HFe ⊢
    have hRR := hBR.range
    clear his2 hL6 hl6
    by_cases he1 : e1 = 0
    · subst he1
      cases is2 with
      | false =>
        have HFr : Hid (F = (R1, 0)) := Lib.hid (by rw [HFe.out]; rfl)
        clear HFe hB6 hL8
        have HTh : Hid (w8.there (tb + 1) 0 (#[.int .i64 R1.x, .int .i64 R1.y, .int .i64 R1.w, .int .i64 R1.h] : Array Value).size) := Lib.hid (hBr.there 4 rfl)
        have HSi : Hid ((Try.prog.info? 28).map (·.size) = some (#[.int .i64 R1.x, .int .i64 R1.y, .int .i64 R1.w, .int .i64 R1.h] : Array Value).size) := Lib.hid size28
        have HP8 : Hid (Pure w (w8.setCells (tb + 1) 0 [.int .i64 R1.x, .int .i64 R1.y, .int .i64 R1.w, .int .i64 R1.h])) := Lib.hid (Ext.setCells _ 0 w8 hP (b := tb + 1) (fun h => by have := HTb.out; omega))
        have HB9 := Lib.hid (setRect hBr rfl (.int .i64 R1.x) (.int .i64 R1.y) (.int .i64 R1.w) (.int .i64 R1.h))
        clear hBr hP hBt
        go_wp2_with (first
          | (with_reducible refine at_store 24 (.tmp 8) (.tmp 28) ?_; refine wpList_store_mid rfl 24 (.tmp 8) (.tmp 28) rfl w7.heap.size 0 cc.toArray rfl rfl HThcc.out HSicc.out HOncc.out ?_; rw [← HWncc.out])
          | (with_reducible refine at_load 28 (.tmp 6) ?_; refine wpList_load_mid rfl 28 (.tmp 6) rfl w5.heap.size 0 rfl [.int .i64 R1.x, .int .i64 R1.y, .int .i64 R1.w, .int .i64 R1.h] _ hRR Try.underlying28 rfl (sz28 _ _ _ _) ?_)
          | (with_reducible refine at_store 28 (.tmp 2) (.tmp 36) ?_; refine wpList_store_mid rfl 28 (.tmp 2) (.tmp 36) rfl (tb + 1) 0 #[.int .i64 R1.x, .int .i64 R1.y, .int .i64 R1.w, .int .i64 R1.h] rfl rfl HTh.out HSi.out (one4 _ _ _ _) ?_))
        refine bodyPost_ret (results_row2 rfl _ _ (tb + 1) _ [.int .i64 R1.x, .int .i64 R1.y, .int .i64 R1.w, .int .i64 R1.h] _ rfl HB9.out Try.underlying28 rfl size28) rfl ?_
        exact ⟨by rw [HFr.out]; rfl, HP8.out⟩
      | true =>
        have HOf := Lib.hid (ofp_any d G2.1 cc w8 hL8 l2)
        obtain ⟨Q2, hQ2⟩ : ∃ Q, Q = G2.1.box := ⟨_, rfl⟩
        rw [← hQ2] at HFe HOf
        have hR6 := hB6.range
        clear hQ2 hL8 hB6 hRR
        go_wp2_with (first
          | (with_reducible refine at_store 24 (.tmp 8) (.tmp 28) ?_; refine wpList_store_mid rfl 24 (.tmp 8) (.tmp 28) rfl w7.heap.size 0 cc.toArray rfl rfl HThcc.out HSicc.out HOncc.out ?_; rw [← HWncc.out])
          | (with_reducible refine at_load 24 (.tmp 8) ?_; refine wpList_load_mid rfl 24 (.tmp 8) rfl w7.heap.size 0 rfl cc _ hR6 Try.underlying24 rfl (sz24 HCc.out) ?_))
        refine HOf.out.mono ?_
        rintro e w9 ⟨rfl, hP9⟩
        have hBt := hBt.ext hP9 id
        have hBr := hBr.ext hP9 id
        have hBR := hBR.ext hP9 id
        have hP := hP.pure hP9
        obtain ⟨R2, e2⟩ := Q2
        clear hP9 HOf hR6
        obtain ⟨wa, hwn⟩ : ∃ z, z = w9.alloc (.cells #[.int .i64 R2.x, .int .i64 R2.y, .int .i64 R2.w, .int .i64 R2.h] 28) := ⟨_, rfl⟩
        have hBC : BlockIs wa w9.heap.size [.int .i64 R2.x, .int .i64 R2.y, .int .i64 R2.w, .int .i64 R2.h] 28 := hwn ▸ BlockIs.new w9 _ _
        have hPx : Pure w9 wa := hwn ▸ ext_alloc w9 _
        have HWwa : Hid (w9.alloc (.cells #[.int .i64 R2.x, .int .i64 R2.y, .int .i64 R2.w, .int .i64 R2.h] 28) = wa) := Lib.hid hwn.symm
        have hBt := hBt.ext hPx id
        have hBr := hBr.ext hPx id
        have hBR := hBR.ext hPx id
        have hP := hP.pure hPx
        clear hwn hPx
        by_cases he2 : e2 = 0
        · subst he2
          have hRR : (w9.alloc (.cells #[.int .i64 R2.x, .int .i64 R2.y, .int .i64 R2.w, .int .i64 R2.h] 28)).rangeAt w5.heap.size 0 [.int .i64 R1.x, .int .i64 R1.y, .int .i64 R1.w, .int .i64 R1.h] := by rw [HWwa.out]; exact hBR.range
          have hRC : (w9.alloc (.cells #[.int .i64 R2.x, .int .i64 R2.y, .int .i64 R2.w, .int .i64 R2.h] 28)).rangeAt w9.heap.size 0 [.int .i64 R2.x, .int .i64 R2.y, .int .i64 R2.w, .int .i64 R2.h] := by rw [HWwa.out]; exact hBC.range
          clear hBC
          go_wp2_with (first
            | (with_reducible refine at_load 28 (.tmp 6) ?_; refine wpList_load_mid rfl 28 (.tmp 6) rfl w5.heap.size 0 rfl [.int .i64 R1.x, .int .i64 R1.y, .int .i64 R1.w, .int .i64 R1.h] _ hRR Try.underlying28 rfl (sz28 _ _ _ _) ?_)
            | (with_reducible refine at_load 28 (.tmp 10) ?_; refine wpList_load_mid rfl 28 (.tmp 10) rfl w9.heap.size 0 rfl [.int .i64 R2.x, .int .i64 R2.y, .int .i64 R2.w, .int .i64 R2.h] _ hRC Try.underlying28 rfl (sz28 _ _ _ _) ?_))
          rw [HWwa.out]
          clear hRR hRC
          refine (both_any R1 R2 wa).mono ?_
          rintro e wb ⟨rfl, hPb⟩
          obtain ⟨B, hB⟩ : ∃ B, B = R1.both R2 := ⟨_, rfl⟩
          rw [← hB]
          have HFb : Hid (F = if B = .zero then (R1, 0) else (B, 0)) := Lib.hid (by rw [HFe.out, hB]; rfl)
          have hBr := hBr.ext hPb id
          have hBR := hBR.ext hPb id
          have hP := hP.pure hPb
          clear hPb hB HFe hBt
          obtain ⟨wc, hwn⟩ : ∃ z, z = wb.alloc (.cells #[.int .i64 B.x, .int .i64 B.y, .int .i64 B.w, .int .i64 B.h] 28) := ⟨_, rfl⟩
          have hBD : BlockIs wc wb.heap.size [.int .i64 B.x, .int .i64 B.y, .int .i64 B.w, .int .i64 B.h] 28 := hwn ▸ BlockIs.new wb _ _
          have hPx : Pure wb wc := hwn ▸ ext_alloc wb _
          have HWwc : Hid (wb.alloc (.cells #[.int .i64 B.x, .int .i64 B.y, .int .i64 B.w, .int .i64 B.h] 28) = wc) := Lib.hid hwn.symm
          have hBr := hBr.ext hPx id
          have hBR := hBR.ext hPx id
          have hP := hP.pure hPx
          have hRR : (wb.alloc (.cells #[.int .i64 B.x, .int .i64 B.y, .int .i64 B.w, .int .i64 B.h] 28)).rangeAt w5.heap.size 0 [.int .i64 R1.x, .int .i64 R1.y, .int .i64 R1.w, .int .i64 R1.h] := by rw [HWwc.out]; exact hBR.range
          have hRD : (wb.alloc (.cells #[.int .i64 B.x, .int .i64 B.y, .int .i64 B.w, .int .i64 B.h] 28)).rangeAt wb.heap.size 0 [.int .i64 B.x, .int .i64 B.y, .int .i64 B.w, .int .i64 B.h] := by rw [HWwc.out]; exact hBD.range
          clear hwn hPx
          by_cases hBz : B = .zero
          · have HFr : Hid (F = (R1, 0)) := Lib.hid (by rw [HFb.out, if_pos hBz])
            have hneq := fun W => neq_zero B hBz W
            rw [← HWwc.out] at hBr hP
            clear hBz HFb hBR hBD
            have HTh : Hid ((wb.alloc (.cells #[.int .i64 B.x, .int .i64 B.y, .int .i64 B.w, .int .i64 B.h] 28)).there (tb + 1) 0 (#[.int .i64 R1.x, .int .i64 R1.y, .int .i64 R1.w, .int .i64 R1.h] : Array Value).size) := Lib.hid (hBr.there 4 rfl)
            have HSi : Hid ((Try.prog.info? 28).map (·.size) = some (#[.int .i64 R1.x, .int .i64 R1.y, .int .i64 R1.w, .int .i64 R1.h] : Array Value).size) := Lib.hid size28
            have HP8 : Hid (Pure w ((wb.alloc (.cells #[.int .i64 B.x, .int .i64 B.y, .int .i64 B.w, .int .i64 B.h] 28)).setCells (tb + 1) 0 [.int .i64 R1.x, .int .i64 R1.y, .int .i64 R1.w, .int .i64 R1.h])) := Lib.hid (Ext.setCells _ 0 (wb.alloc (.cells #[.int .i64 B.x, .int .i64 B.y, .int .i64 B.w, .int .i64 B.h] 28)) hP (b := tb + 1) (fun h => by have := HTb.out; omega))
            have HB9 := Lib.hid (setRect hBr rfl (.int .i64 R1.x) (.int .i64 R1.y) (.int .i64 R1.w) (.int .i64 R1.h))
            clear hBr hP
            go_wp2_with (first
              | (with_reducible refine at_load 28 (.tmp 11) ?_; refine wpList_load_mid rfl 28 (.tmp 11) rfl wb.heap.size 0 rfl [.int .i64 B.x, .int .i64 B.y, .int .i64 B.w, .int .i64 B.h] _ hRD Try.underlying28 rfl (sz28 _ _ _ _) ?_)
              | (with_reducible refine at_load 28 (.tmp 6) ?_; refine wpList_load_mid rfl 28 (.tmp 6) rfl w5.heap.size 0 rfl [.int .i64 R1.x, .int .i64 R1.y, .int .i64 R1.w, .int .i64 R1.h] _ hRR Try.underlying28 rfl (sz28 _ _ _ _) ?_)
              | (with_reducible refine at_store 28 (.tmp 2) (.tmp 54) ?_; refine wpList_store_mid rfl 28 (.tmp 2) (.tmp 54) rfl (tb + 1) 0 #[.int .i64 R1.x, .int .i64 R1.y, .int .i64 R1.w, .int .i64 R1.h] rfl rfl HTh.out HSi.out (one4 _ _ _ _) ?_))
            refine bodyPost_ret (results_row2 rfl _ _ (tb + 1) _ [.int .i64 R1.x, .int .i64 R1.y, .int .i64 R1.w, .int .i64 R1.h] _ rfl HB9.out Try.underlying28 rfl size28) rfl ?_
            exact ⟨by rw [HFr.out]; rfl, HP8.out⟩
          · have HFr : Hid (F = (B, 0)) := Lib.hid (by rw [HFb.out, if_neg hBz])
            have hneq := fun W => neq_rect B hBz W
            have HTh6 : Hid ((wb.alloc (.cells #[.int .i64 B.x, .int .i64 B.y, .int .i64 B.w, .int .i64 B.h] 28)).there w5.heap.size 0 (#[.int .i64 B.x, .int .i64 B.y, .int .i64 B.w, .int .i64 B.h] : Array Value).size) := Lib.hid (by rw [HWwc.out]; exact hBR.there 4 rfl)
            have HSi6 : Hid ((Try.prog.info? 28).map (·.size) = some (#[.int .i64 B.x, .int .i64 B.y, .int .i64 B.w, .int .i64 B.h] : Array Value).size) := Lib.hid size28
            obtain ⟨wd, hwd⟩ : ∃ z, z = wc.setCells w5.heap.size 0 [.int .i64 B.x, .int .i64 B.y, .int .i64 B.w, .int .i64 B.h] := ⟨_, rfl⟩
            have hXd : Ext (fun k => k = w5.heap.size) wc wd := hwd ▸ Ext.setCells _ 0 wc (Ext.refl _ _) (fun _ => rfl)
            have hB6 : BlockIs wd w5.heap.size [.int .i64 B.x, .int .i64 B.y, .int .i64 B.w, .int .i64 B.h] 28 := hwd ▸ setRect hBR rfl _ _ _ _
            have hBr := hBr.ext hXd (fun e => by have e' : tb + 1 = w5.heap.size := e; omega)
            have hP : Pure w wd := hP.trans hXd (fun i hi e => by have e' : i = w5.heap.size := e; have := HTb.out; omega)
            have HWd : Hid ((wb.alloc (.cells #[.int .i64 B.x, .int .i64 B.y, .int .i64 B.w, .int .i64 B.h] 28)).setCells w5.heap.size 0 (#[.int .i64 B.x, .int .i64 B.y, .int .i64 B.w, .int .i64 B.h] : Array Value).toList = wd) := Lib.hid (by rw [HWwc.out, hwd])
            have hR6 := hB6.range
            clear hBz HFb hBR hBD hwd hXd hB6 hRR
            have HTh : Hid (wd.there (tb + 1) 0 (#[.int .i64 B.x, .int .i64 B.y, .int .i64 B.w, .int .i64 B.h] : Array Value).size) := Lib.hid (hBr.there 4 rfl)
            have HSi : Hid ((Try.prog.info? 28).map (·.size) = some (#[.int .i64 B.x, .int .i64 B.y, .int .i64 B.w, .int .i64 B.h] : Array Value).size) := Lib.hid size28
            have HP8 : Hid (Pure w (wd.setCells (tb + 1) 0 [.int .i64 B.x, .int .i64 B.y, .int .i64 B.w, .int .i64 B.h])) := Lib.hid (Ext.setCells _ 0 wd hP (b := tb + 1) (fun h => by have := HTb.out; omega))
            have HB9 := Lib.hid (setRect hBr rfl (.int .i64 B.x) (.int .i64 B.y) (.int .i64 B.w) (.int .i64 B.h))
            clear hBr hP
            go_wp2_with (first
              | (with_reducible refine at_load 28 (.tmp 11) ?_; refine wpList_load_mid rfl 28 (.tmp 11) rfl wb.heap.size 0 rfl [.int .i64 B.x, .int .i64 B.y, .int .i64 B.w, .int .i64 B.h] _ hRD Try.underlying28 rfl (sz28 _ _ _ _) ?_)
              | (with_reducible refine at_store 28 (.tmp 6) (.tmp 53) ?_; refine wpList_store_mid rfl 28 (.tmp 6) (.tmp 53) rfl w5.heap.size 0 #[.int .i64 B.x, .int .i64 B.y, .int .i64 B.w, .int .i64 B.h] rfl rfl HTh6.out HSi6.out (one4 _ _ _ _) ?_; rw [HWd.out])
              | (with_reducible refine at_load 28 (.tmp 6) ?_; refine wpList_load_mid rfl 28 (.tmp 6) rfl w5.heap.size 0 rfl [.int .i64 B.x, .int .i64 B.y, .int .i64 B.w, .int .i64 B.h] _ hR6 Try.underlying28 rfl (sz28 _ _ _ _) ?_)
              | (with_reducible refine at_store 28 (.tmp 2) (.tmp 54) ?_; refine wpList_store_mid rfl 28 (.tmp 2) (.tmp 54) rfl (tb + 1) 0 #[.int .i64 B.x, .int .i64 B.y, .int .i64 B.w, .int .i64 B.h] rfl rfl HTh.out HSi.out (one4 _ _ _ _) ?_))
            refine bodyPost_ret (results_row2 rfl _ _ (tb + 1) _ [.int .i64 B.x, .int .i64 B.y, .int .i64 B.w, .int .i64 B.h] _ rfl HB9.out Try.underlying28 rfl size28) rfl ?_
            exact ⟨by rw [HFr.out]; rfl, HP8.out⟩
        · have hne2 : (e2 != 0) = true := by simpa using he2
          have HFr : Hid (F = (.zero, e2)) := Lib.hid (by rw [HFe.out]; simp [he2])
          rw [← HWwa.out] at hBr hP
          clear HFe he2 hBC hBR
          have HTh : Hid ((w9.alloc (.cells #[.int .i64 R2.x, .int .i64 R2.y, .int .i64 R2.w, .int .i64 R2.h] 28)).there (tb + 1) 0 (#[.int .i64 0, .int .i64 0, .int .i64 0, .int .i64 0] : Array Value).size) := Lib.hid (hBr.there 4 rfl)
          have HSi : Hid ((Try.prog.info? 28).map (·.size) = some (#[.int .i64 0, .int .i64 0, .int .i64 0, .int .i64 0] : Array Value).size) := Lib.hid size28
          have HP8 : Hid (Pure w ((w9.alloc (.cells #[.int .i64 R2.x, .int .i64 R2.y, .int .i64 R2.w, .int .i64 R2.h] 28)).setCells (tb + 1) 0 [.int .i64 0, .int .i64 0, .int .i64 0, .int .i64 0])) := Lib.hid (Ext.setCells _ 0 (w9.alloc (.cells #[.int .i64 R2.x, .int .i64 R2.y, .int .i64 R2.w, .int .i64 R2.h] 28)) hP (b := tb + 1) (fun h => by have := HTb.out; omega))
          have HB9 := Lib.hid (setRect hBr rfl (.int .i64 0) (.int .i64 0) (.int .i64 0) (.int .i64 0))
          clear hBr hP hBt
          go_wp2_with (first
            | (with_reducible refine at_store 28 (.tmp 2) (.tmp 45) ?_; refine wpList_store_mid rfl 28 (.tmp 2) (.tmp 45) rfl (tb + 1) 0 #[.int .i64 0, .int .i64 0, .int .i64 0, .int .i64 0] rfl rfl HTh.out HSi.out (one4 _ _ _ _) ?_))
          refine bodyPost_ret (results_row2 rfl _ _ (tb + 1) _ [.int .i64 0, .int .i64 0, .int .i64 0, .int .i64 0] _ rfl HB9.out Try.underlying28 rfl size28) rfl ?_
          exact ⟨by rw [HFr.out]; rfl, HP8.out⟩
    · have hne1 : (e1 != 0) = true := by simpa using he1
      have HFr : Hid (F = (R1, e1)) := Lib.hid (by rw [HFe.out]; simp [he1])
      clear HFe hB6 hL8 he1
      have HTh : Hid (w8.there (tb + 1) 0 (#[.int .i64 R1.x, .int .i64 R1.y, .int .i64 R1.w, .int .i64 R1.h] : Array Value).size) := Lib.hid (hBr.there 4 rfl)
      have HSi : Hid ((Try.prog.info? 28).map (·.size) = some (#[.int .i64 R1.x, .int .i64 R1.y, .int .i64 R1.w, .int .i64 R1.h] : Array Value).size) := Lib.hid size28
      have HP8 : Hid (Pure w (w8.setCells (tb + 1) 0 [.int .i64 R1.x, .int .i64 R1.y, .int .i64 R1.w, .int .i64 R1.h])) := Lib.hid (Ext.setCells _ 0 w8 hP (b := tb + 1) (fun h => by have := HTb.out; omega))
      have HB9 := Lib.hid (setRect hBr rfl (.int .i64 R1.x) (.int .i64 R1.y) (.int .i64 R1.w) (.int .i64 R1.h))
      clear hBr hP hBt
      go_wp2_with (first
        | (with_reducible refine at_store 24 (.tmp 8) (.tmp 28) ?_; refine wpList_store_mid rfl 24 (.tmp 8) (.tmp 28) rfl w7.heap.size 0 cc.toArray rfl rfl HThcc.out HSicc.out HOncc.out ?_; rw [← HWncc.out])
        | (with_reducible refine at_load 28 (.tmp 6) ?_; refine wpList_load_mid rfl 28 (.tmp 6) rfl w5.heap.size 0 rfl [.int .i64 R1.x, .int .i64 R1.y, .int .i64 R1.w, .int .i64 R1.h] _ hRR Try.underlying28 rfl (sz28 _ _ _ _) ?_)
        | (with_reducible refine at_store 28 (.tmp 2) (.tmp 36) ?_; refine wpList_store_mid rfl 28 (.tmp 2) (.tmp 36) rfl (tb + 1) 0 #[.int .i64 R1.x, .int .i64 R1.y, .int .i64 R1.w, .int .i64 R1.h] rfl rfl HTh.out HSi.out (one4 _ _ _ _) ?_))
      refine bodyPost_ret (results_row2 rfl _ _ (tb + 1) _ [.int .i64 R1.x, .int .i64 R1.y, .int .i64 R1.w, .int .i64 R1.h] _ rfl HB9.out Try.underlying28 rfl size28) rfl ?_
      exact ⟨by rw [HFr.out]; rfl, HP8.out⟩
end Go.Proofs.Ytnibjjpohhknkaa
