import Derived.Test.YtipmbcalnnomjaaGreatFindPlVw
import Derived.Test.YtipmbcalnnomjaaGreatAskVw
import Derived.Test.YtipmbcalnnomjaaGreatLeafVw
import Derived.Test.YtipmbcalnnomjaaGreatMakesVw
import Derived.Test.YtipmbcalnnomjaaGreatLiesInVw
import Derived.WalkMore
import Derived.Test.YtipmbcalnnomjaaGreatSqVw
set_option linter.unusedVariables false
set_option linter.unusedSimpArgs false
set_option maxRecDepth 100000
namespace Go.Proofs.YtipmbcalnnomjaaGreat
open Go.RowKit
set_option maxHeartbeats 1000000 in
theorem dictof0_any (w : World) : Calls Tryz.prog 73 #[.slice none 0 0] w (fun e w' => e = .returned (.agg #[.int .i64 7, .int .i64 0, .string ⟨#[]⟩, .slice none 0 0]) ∧ Pure w w') := by
 obtain ⟨wz, hwz⟩ : ∃ z, z = w.alloc (.cells zeroCs.toArray 48) := ⟨_, rfl⟩
 obtain ⟨tb, htb⟩ : ∃ z, z = w.heap.size := ⟨_, rfl⟩
 have HBz : Hid (BlockIs wz tb zeroCs 48) := qh (by rw [hwz, htb]; exact BlockIs.new w _ _)
 have HPz : Hid (Pure w wz) := qh (by rw [hwz]; exact ext_alloc w _)
 have HW : Hid (w.alloc (.cells #[.int .i64 0, .int .i64 0, .string ⟨#[]⟩, .slice none 0 0] 48) = wz) := qh hwz.symm
 have HTb := qh htb
 clear hwz htb
 go_enter Tryz.func73, Tryz.ntmps73
 go_upto_region 1 with (fail)
 rw [HW.out, ← HTb.out]
 go_upto_region 2 with (fail)
 obtain ⟨W1, hW1⟩ : ∃ z, z = wz.alloc (.cells #[.int .i64 7, .int .i64 0, .string ⟨#[]⟩, .slice none 0 0] 48) := ⟨_, rfl⟩
 obtain ⟨vb, hvb⟩ : ∃ z, z = wz.heap.size := ⟨_, rfl⟩
 have hBv : BlockIs W1 vb [.int .i64 7, .int .i64 0, .string ⟨#[]⟩, .slice none 0 0] 48 := by rw [hW1, hvb]; exact BlockIs.new wz [.int .i64 7, .int .i64 0, .string ⟨#[]⟩, .slice none 0 0] 48
 have hBt : BlockIs W1 tb zeroCs 48 := by rw [hW1]; exact HBz.out.alloc _
 have HP1 : Hid (Pure w W1) := qh (by rw [hW1]; exact HPz.out.pure (ext_alloc _ _))
 rw [← hW1, ← hvb]
 have v0 : W1.cell? ⟨vb, 0, none⟩ = some (.int .i64 7) := hBv.cell 0
 have v1 : W1.cell? ⟨vb, 1, none⟩ = some (.int .i64 0) := hBv.cell 1
 have v2 : W1.cell? ⟨vb, 2, none⟩ = some (.string ⟨#[]⟩) := hBv.cell 2
 have v3 : W1.cell? ⟨vb, 3, none⟩ = some (.slice none 0 0) := hBv.cell 3
 have HTh : Hid (W1.there tb 0 (#[.int .i64 7, .int .i64 0, .string ⟨#[]⟩, .slice none 0 0] : Array Value).size) := qh (hBt.there 4 rfl)
 have HSi : Hid ((Tryz.prog.info? 48).map (·.size) = some (#[.int .i64 7, .int .i64 0, .string ⟨#[]⟩, .slice none 0 0] : Array Value).size) := qh size24
 have HOn : Hid (((#[.int .i64 7, .int .i64 0, .string ⟨#[]⟩, .slice none 0 0] : Array Value).all fun u => u.oneCell') = true) := qh (LiesIn.leaf (fun _ => True) w 0 7 0 ⟨#[]⟩ (by decide)).lies.one
 have HBr := qh (hBt.setAll [.int .i64 7, .int .i64 0, .string ⟨#[]⟩, .slice none 0 0] rfl)
 have HPr : Hid (Pure w (W1.setCells tb 0 [.int .i64 7, .int .i64 0, .string ⟨#[]⟩, .slice none 0 0])) := qh (Ext.setCells _ 0 _ HP1.out (b := tb) (fun h => by have := HTb.out; omega))
 clear hW1 hvb hBv hBt
 go_wp2_with fail
 go_loopw [4] (fun x wr => x = .int .i64 0 ∧ wr = W1) (fun _ _ => 0)
 case atStart => exact ⟨rfl, rfl⟩
 case round =>
  obtain ⟨rfl, hwr⟩ := hrel
  obtain rfl := hwr
  go_wp2_with (with_reducible refine at_store 48 (.tmp 2) (.tmp 25) ?_; refine wpList_store_mid rfl 48 (.tmp 2) (.tmp 25) rfl tb 0 #[.int .i64 7, .int .i64 0, .string ⟨#[]⟩, .slice none 0 0] rfl rfl HTh.out HSi.out HOn.out ?_)
  refine bodyPost_ret (results_row1 rfl _ _ tb _ [.int .i64 7, .int .i64 0, .string ⟨#[]⟩, .slice none 0 0] _ rfl HBr.out Tryz.underlying48 rfl size24) rfl ?_
  exact ⟨rfl, HPr.out⟩
theorem one7b {n q : Int} {vcs : List Value} {a : Option Addr} {m c : Nat} (h : ∀ u ∈ vcs, u.oneCell' = true) : ((Value.int .i64 n :: (vcs ++ [Value.slice a m c, Value.int .i64 q])).toArray.all fun u => u.oneCell') = true := all_oneCell_toArray (by
 intro u hu
 rcases List.mem_cons.1 hu with rfl | hu
 ·rfl
 ·rcases List.mem_append.1 hu with hu | hu
  ·exact h u hu
  ·simp only [List.mem_cons, List.not_mem_nil, or_false] at hu
   rcases hu with rfl | rfl <;> rfl)
structure FindI (w0 w : World) (d : Nat) (l : List Ob) (xb gb R0 : Nat) (n : Int) (kids : List Int) (q : Int) (ka : Option Addr) (kc : Nat) (vcs : List Value) (path : List Int) (pa : Option Addr) (pc : Nat) (g : V) (gcs : List Value) (W : World) : Prop where
 base : Pure w W
 xblk : BlockIs W xb (.int .i64 n :: (vcs ++ [.slice ka kids.length kc, .int .i64 q])) 101
 val : Lies w0 (d + 1) (obAt l n).v vcs
 krow : RowOf W ka (intsV kids)
 klt : ∀ x, ka = some x → x.block < W.heap.size ∧ x.block ≠ xb ∧ x.block ≠ gb
 gblk : BlockIs W gb gcs 48
 top : Top w0 W (d + 1) g gcs
 goff : ∀ b, b < R0 → Off b gcs
 free : g.l = [] → ∀ b, Off b gcs
 prow : W.ownsRow R0 3 1 (.slice pa path.length pc) path.length (intsV path)
 poff : ∀ b, (Value.slice pa path.length pc).ownBlock = some b → Off b gcs ∧ ∀ x, ka = some x → x.block ≠ b
 rs : R0 ≤ W.heap.size
theorem FindI.pure {w0 w : World} {d : Nat} {l : List Ob} {xb gb R0 : Nat} {n : Int} {kids : List Int} {q : Int} {ka : Option Addr} {kc : Nat} {vcs : List Value} {path : List Int} {pa : Option Addr} {pc : Nat} {g : V} {gcs : List Value} {W W' : World}
 (h : FindI w0 w d l xb gb R0 n kids q ka kc vcs path pa pc g gcs W) (hP : Pure W W') : FindI w0 w d l xb gb R0 n kids q ka kc vcs path pa pc g gcs W' :=
 ⟨h.base.pure hP, h.xblk.ext hP id, h.val, h.krow.ext hP (fun _ _ => id), fun x hx => ⟨Nat.lt_of_lt_of_le (h.klt x hx).1 hP.size, (h.klt x hx).2⟩, h.gblk.ext hP id, h.top.pure hP, h.goff, h.free, own_ext h.prow hP (fun _ _ => id), h.poff, Nat.le_trans h.rs hP.size⟩
theorem FindI.step {w0 w : World} {d : Nat} {l : List Ob} {xb gb R0 : Nat} {n : Int} {kids : List Int} {q : Int} {ka : Option Addr} {kc : Nat} {vcs : List Value} {path : List Int} {pa : Option Addr} {pc : Nat} {g g2 : V} {gcs cs2 : List Value} {W W3 W4 W8 : World} {a4 : Option Addr} {c4 : Nat}
 (h : FindI w0 w d l xb gb R0 n kids q ka kc vcs path pa pc g gcs W) (hlo : xb < R0 ∧ gb < R0 ∧ w.heap.size ≤ xb ∧ w.heap.size ≤ gb ∧ xb ≠ gb) (hP3 : Pure W W3)
 (hO4 : W4.ownsRow R0 3 1 (.slice a4 (path.length + 1) c4) (path.length + 1) (intsV path ++ [.int .i64 n])) (hg4 : W3.grownBy W4 (Value.slice pa path.length pc).ownBlock) (hf4 : ∀ x, a4 = some x → (Value.slice pa path.length pc).ownBlock = some x.block ∨ W3.heap.size ≤ x.block)
 (hT8 : Top w0 W8 (d + 1) g2 cs2) (hP8 : Pure W4 W8) (hO8 : ∀ b, b < W4.heap.size → Off b gcs → Off b cs2) (hF8 : g2.l = [] → ∀ b, Off b cs2) :
 FindI w0 w d l xb gb R0 n kids q ka kc vcs (path ++ [n]) a4 c4 g2 cs2 (W8.setCells gb 0 cs2) := by
 have hE4 := ext_of_grown hg4
 have hlt : ∀ b, b < R0 → ¬ ((Value.slice pa path.length pc).ownBlock = some b) := fun b hb e => by have := (h.prow.lt b e).1; omega
 have hs3 := hP3.size
 have hs4 := hE4.size
 have hs8 := hP8.size
 have hrs := h.rs
 have hX : Ext (fun b => b = gb) W8 (W8.setCells gb 0 cs2) := Ext.setCells (S := fun b => b = gb) _ 0 _ (Ext.refl _ _) (fun _ => rfl)
 have hk : ∀ x, ka = some x → ¬ ((Value.slice pa path.length pc).ownBlock = some x.block) := fun x hx e => (h.poff x.block e).2 x hx rfl
 have hog : Off gb cs2 := hO8 gb (by omega) (h.goff gb hlo.2.1)
 have ho4 : (Value.slice a4 (path ++ [n]).length c4).ownBlock = (Value.slice a4 (path.length + 1) c4).ownBlock := by cases a4 <;> rfl
 refine ⟨?_, ?_, h.val, ?_, fun x hx => ?_, ?_, ?_, fun b hb => hO8 b (by omega) (h.goff b hb), hF8, ?_, fun b hb => ?_, ?_⟩
 ·exact (((h.base.pure hP3).trans hE4 (fun b hb e => hlt b (by omega) e)).pure hP8).trans hX (fun b hb e => by omega)
 ·exact (((h.xblk.ext hP3 id).ext hE4 (hlt xb hlo.1)).ext hP8 id).ext hX hlo.2.2.2.2
 ·exact (((h.krow.ext hP3 (fun _ _ => id)).ext hE4 hk).ext hP8 (fun _ _ => id)).ext hX (fun x hx => (h.klt x hx).2.2)
 ·have h1 := h.klt x hx
  exact ⟨by have := hX.size; omega, h1.2⟩
 ·exact (((h.gblk.ext hP3 id).ext hE4 (hlt gb hlo.2.1)).ext hP8 id).setAll cs2 (by rw [hT8.len, h.top.len])
 ·exact hT8.ext hX (fun b hb => by subst hb; exact hog)
 ·rw [List.length_append, intsV_snoc]
  exact own_ext (own_ext hO4 hP8 (fun _ _ => id)) hX (fun b hb e => by have := (hO4.lt b hb).1; omega)
 ·rw [ho4] at hb
  obtain ⟨x, hx, hxb⟩ : ∃ x, a4 = some x ∧ x.block = b := by
   cases a4 with
   | none => cases hb
   | some x => exact ⟨x, rfl, Option.some.inj hb⟩
  have hb4 := (hO4.lt b hb).2
  rcases hf4 x hx with hf | hf
  ·rw [hxb] at hf
   exact ⟨hO8 b hb4 (h.poff b hf).1, (h.poff b hf).2⟩
  ·refine ⟨hO8 b hb4 (h.top.off_new h.free (by omega)), fun y hy e => ?_⟩
   have := (h.klt y hy).1
   omega
 ·have := hX.size
  omega
theorem FindI.move {w0 w : World} {d : Nat} {l : List Ob} {xb gb R0 : Nat} {n k : Int} {kids ks : List Int} {q c : Int} {ka xa : Option Addr} {kc xc : Nat} {vcs us : List Value} {path : List Int} {pa : Option Addr} {pc : Nat} {g : V} {gcs : List Value} {W W1 : World}
 (h : FindI w0 w d l xb gb R0 n kids q ka kc vcs path pa pc g gcs W) (hlo : xb < R0 ∧ gb < R0 ∧ w.heap.size ≤ xb ∧ w.heap.size ≤ gb ∧ xb ≠ gb) (hP : Pure W W1) (hL : Lies w0 (d + 1) (obAt l k).v us)
 (hO : W1.ownsRow W.heap.size 3 1 (.slice xa ks.length xc) ks.length (intsV ks)) :
 FindI w0 w d l xb gb R0 k ks c xa xc us path pa pc g gcs (W1.setCells xb 0 (.int .i64 k :: (us ++ [.slice xa ks.length xc, .int .i64 c]))) := by
 have h1 := h.pure hP
 have hX : Ext (fun b => b = xb) W1 (W1.setCells xb 0 (.int .i64 k :: (us ++ [.slice xa ks.length xc, .int .i64 c]))) := Ext.setCells (S := fun b => b = xb) _ 0 _ (Ext.refl _ _) (fun _ => rfl)
 have hl1 := h.xblk.lt
 have hl2 := h.gblk.lt
 have hk : ∀ x, xa = some x → x.block < W1.heap.size ∧ W.heap.size ≤ x.block := fun x hx => by
  have := hO.lt x.block (by rw [hx]; rfl)
  exact ⟨this.2, this.1⟩
 refine ⟨h1.base.trans hX (fun b hb e => by omega), ?_, hL, ?_, fun x hx => ?_, h1.gblk.ext hX (fun e => hlo.2.2.2.2 e.symm), h1.top.ext hX (fun b hb => by subst hb; exact h.goff _ hlo.1), h.goff, h.free, own_ext h1.prow hX (fun b hb e => by have := (h1.prow.lt b hb).1; omega), fun b hb => ⟨(h.poff b hb).1, fun x hx e => ?_⟩, Nat.le_trans h1.rs hX.size⟩
 ·refine h1.xblk.setAll _ ?_
  have e1 := h.val.len
  have e2 := hL.len
  simp only [List.length_cons, List.length_append, e1, e2, List.length_nil]
 ·exact (own_row hO).ext hX (fun x hx e => by have := hk x hx; omega)
 ·have := hk x hx
  exact ⟨by have := hX.size; omega, by omega, by omega⟩
 ·have h2 := hk x hx
  have h3 := (h.prow.lt b hb).2
  omega
theorem pickP_node {l : List Ob} : ∀ {kids : List Int} {p : Int} {k : Int} {ks : List Int} {c p' : Int}, 0 ≤ p → pickP l kids p = some (k, ks, c, p') → nodeO (obAt l k) = some (ks, c) ∧ 0 ≤ p' ∧ p' < c
 | [], _, _, _, _, _, _, h => by cases h
 | x :: r, p, k, ks, c, p', hp, h => by
   unfold pickP at h
   cases hn : nodeO (obAt l x) with
   | none => rw [hn] at h; cases h
   | some y =>
     obtain ⟨ks', c'⟩ := y
     rw [hn] at h
     simp only at h
     split at h
     ·rename_i hlt
      simp only [Option.some.injEq, Prod.mk.injEq] at h
      obtain ⟨rfl, rfl, rfl, rfl⟩ := h
      exact ⟨hn, hp, hlt⟩
     ·rename_i hlt
      exact pickP_node (by omega) h
def FindTo (w0 : World) (R : Int × List Int × V) (d : Nat) (w : World) (e : Ending) (w' : World) : Prop :=
 ∃ pa pc cs, e = .returned (.tuple #[.agg (Value.int .i64 R.1 :: Value.slice pa R.2.1.length pc :: cs).toArray, .int .i64 0, .int .i64 0]) ∧ Top w0 w' (d + 1) R.2.2 cs ∧ Pure w w' ∧ w'.ownsRow w.heap.size 3 1 (.slice pa R.2.1.length pc) R.2.1.length (intsV R.2.1) ∧ (R.2.2.l ≠ [] → ∀ b, b < w.heap.size → Off b cs)
set_option maxHeartbeats 8000000 in
theorem tfind_any (d : Nat) (l : List Ob) (oa : Option Addr) (oc : Nat) (root : Int) (rows : List (List Value)) (fb db : Nat) (n0 : Int) (w0 w : World) (hP0 : Pure w0 w) (hD : DocOk w0 d l oa rows root) (hF : FileAt w fb db oa l.length oc root)
 (kids0 : List Int) (q0 : Int) (hT : TopOk l root n0 kids0 q0) (p0 : Int) (hp : 0 ≤ p0 ∧ p0 < q0) (R : Int × List Int × V) (hR : findP l 64 n0 kids0 q0 p0 [] emptyV = some R) :
 Calls Tryz.prog 39 #[.pointer (some ⟨fb, 0, none⟩), .int .i64 p0] w (FindTo w0 R d w) := by
 have HTop := qh (fun W (hP : Pure w W) => top_any d l oa oc root rows fb db n0 w0 W (hP0.pure hP) hD (hF.ext hP id id) kids0 q0 hT)
 have HGet := qh (fun k W (hP : Pure w W) => fget_any d l oa oc root rows fb db k w0 W (hP0.pure hP) hD.ok (by have := hD.len; omega) (hF.ext hP id id))
 have HAsk := qh (fun k ks c (hn : nodeO (obAt l k) = some (ks, c)) W (hP : Pure w W) => ask_any d l oa oc root rows fb db k w0 W (hP0.pure hP) hD (hF.ext hP id id) ks c hn)
 have HSz : Hid (∀ k, (obAt l k).v.size ≤ 100000) := qh (fun k => hD.at_size k)
 have HP0 := qh hP0
 have HN0 := qh hT.node
 have HR0 := qh hR
 obtain ⟨hp1, hp2⟩ := hp
 obtain ⟨wz, hwz⟩ : ∃ z, z = w.alloc (.cells #[.int .i64 0, .slice none 0 0, .int .i64 0, .int .i64 0, .string ⟨#[]⟩, .slice none 0 0] 92) := ⟨_, rfl⟩
 obtain ⟨tb, htb⟩ : ∃ z, z = w.heap.size := ⟨_, rfl⟩
 have HBz : Hid (BlockIs wz tb [.int .i64 0, .slice none 0 0, .int .i64 0, .int .i64 0, .string ⟨#[]⟩, .slice none 0 0] 92) := qh (by rw [hwz, htb]; exact BlockIs.new w [.int .i64 0, .slice none 0 0, .int .i64 0, .int .i64 0, .string ⟨#[]⟩, .slice none 0 0] _)
 have HPz : Hid (Pure w wz) := qh (by rw [hwz]; exact ext_alloc w _)
 have HWz : Hid (w.alloc (.cells #[.int .i64 0, .slice none 0 0, .int .i64 0, .int .i64 0, .string ⟨#[]⟩, .slice none 0 0] 92) = wz) := qh hwz.symm
 have HTb := qh htb
 have hq := node_typed hT.node
 have hqi : q0 ≤ 2048 := hq.2.2.2
 unfold AskTo at HTop HAsk
 clear hwz htb hP0 hD hF hT hR hq
 go_enter Tryz.func39, Tryz.ntmps39
 go_upto_region 1 with (fail)
 go_step3
 go_upto_region 1 with (fail)
 rw [HWz.out, ← HTb.out]
 have HPq := qh (And.intro hp1 hp2)
 have HQi := qh hqi
 clear hp1 hp2 hqi
 go_wp2_with fail
 refine (HTop.out wz HPz.out).mono ?_
 rintro e W1 ⟨vcs, ka, kc, rfl, hL, hP, hO⟩
 have HL := qh hL
 have HO := qh (own_base hO (B' := w.heap.size) HPz.out.size)
 have HP1 := qh (HPz.out.pure hP)
 have HB1 := qh (HBz.out.ext hP id)
 obtain ⟨va, vc, vrows, hvc, _⟩ := hL.kids
 have HVc := qh hvc
 rw [hvc]
 clear hL hP hO hvc HTop HBz HPz HWz
 generalize (obAt l n0).v.l.length = vm at *
 generalize (obAt l n0).v.kind = vk at *
 generalize (obAt l n0).v.n = vn at *
 generalize (obAt l n0).v.s = vs at *
 simp only [List.cons_append, List.nil_append]
 obtain ⟨km, hkm⟩ : ∃ z, z = kids0.length := ⟨_, rfl⟩
 have HKm := qh hkm
 rw [← hkm]
 clear hkm
 obtain ⟨W2, hW2⟩ : ∃ z, z = W1.alloc (.cells #[.int .i64 n0, .int .i64 vk, .int .i64 vn, .string vs, .slice va vm vc, .slice ka km kc, .int .i64 q0] 101) := ⟨_, rfl⟩
 obtain ⟨xb, hxb⟩ : ∃ z, z = W1.heap.size := ⟨_, rfl⟩
 have HX2 : Hid (BlockIs W2 xb [.int .i64 n0, .int .i64 vk, .int .i64 vn, .string vs, .slice va vm vc, .slice ka km kc, .int .i64 q0] 101) := qh (by rw [hW2, hxb]; exact BlockIs.new W1 [.int .i64 n0, .int .i64 vk, .int .i64 vn, .string vs, .slice va vm vc, .slice ka km kc, .int .i64 q0] _)
 have HW2 := qh hW2
 have HXb := qh hxb
 have HP2 : Hid (Pure W1 W2) := qh (by rw [hW2]; exact ext_alloc W1 _)
 obtain ⟨hp1, hp2⟩ := HPq.out
 have hpn : ¬ p0 < 0 := by omega
 have hpm : ¬ q0 ≤ p0 := by omega
 clear hW2 hxb
 go_wp2_with fail
 rw [← HW2.out, ← HXb.out]
 refine (dictof0_any W2).mono ?_
 rintro e W3 ⟨rfl, hP3⟩
 obtain ⟨W4, hW4⟩ : ∃ z, z = W3.alloc (.cells #[.int .i64 7, .int .i64 0, .string ⟨#[]⟩, .slice none 0 0] 48) := ⟨_, rfl⟩
 obtain ⟨gb, hgb⟩ : ∃ z, z = W3.heap.size := ⟨_, rfl⟩
 obtain ⟨R0, hR0⟩ : ∃ z, z = W4.heap.size := ⟨_, rfl⟩
 have hP4 : Pure W3 W4 := by rw [hW4]; exact ext_alloc W3 _
 have hP24 := hP3.pure hP4
 have hs4 : W4.heap.size = gb + 1 := by rw [hW4, World.size_alloc, hgb]
 have hG4 : BlockIs W4 gb [.int .i64 7, .int .i64 0, .string ⟨#[]⟩, .slice none 0 0] 48 := by rw [hW4, hgb]; exact BlockIs.new W3 [.int .i64 7, .int .i64 0, .string ⟨#[]⟩, .slice none 0 0] _
 have hx2 := HX2.out.lt
 have hs23 := hP3.size
 have HLo : Hid (xb < R0 ∧ gb < R0 ∧ w.heap.size ≤ xb ∧ w.heap.size ≤ gb ∧ xb ≠ gb) := qh (by have h1 := HP1.out.size; have h2 := HXb.out; have h3 := HP2.out.size; omega)
 have HTlt : Hid (tb < xb ∧ tb < gb ∧ w.heap.size ≤ tb) := qh (by have h1 := HB1.out.lt; have h2 := HXb.out; have h3 := HTb.out; omega)
 have HB4 := qh ((HB1.out.ext HP2.out id).ext hP24 id)
 have HI0 : Hid (FindI w0 w d l xb gb R0 n0 kids0 q0 ka kc [.int .i64 vk, .int .i64 vn, .string vs, .slice va vm vc] [] none 0 emptyV [.int .i64 7, .int .i64 0, .string ⟨#[]⟩, .slice none 0 0] W4) := qh (by
  have hoff : ∀ b, Off b [Value.int .i64 7, .int .i64 0, .string ⟨#[]⟩, .slice none 0 0] := fun b x n c hx => by cases hx
  refine ⟨(HP1.out.pure HP2.out).pure hP24, ?_, by rw [← HVc.out]; exact HL.out, ((own_row HO.out).ext HP2.out (fun _ _ => id)).ext hP24 (fun _ _ => id), fun x hx => ?_, hG4, ?_, fun b _ => hoff b, fun _ => hoff, World.ownsRow_nil _ _ _ _, fun b hb => (by cases hb), by rw [hR0]; exact Nat.le_refl _⟩
  ·rw [← HKm.out]; exact HX2.out.ext hP24 id
  ·have h1 := HO.out.lt x.block (by rw [hx]; rfl)
   have h2 := HXb.out
   exact ⟨by omega, by omega, by omega⟩
  ·exact ⟨none, 0, [], rfl, Nat.le_refl _, Nat.zero_le _, fun _ => ⟨rfl, rfl⟩, Fit.nil, row_nil _ _, by decide⟩)
 have HW4 := qh hW4
 have HGb := qh hgb
 clear hP3 hP4 hP24 hs4 hG4 hx2 hs23 hW4 hgb hR0 HX2 HW2 HXb HP2 HO HB1 HP1 HL HVc HKm hpn hpm hp1 hp2
 go_wp2_with fail
 rw [← HW4.out, ← HGb.out]
 clear HW4 HGb
 go_step3
 go_wp2_with fail
 go_loopw [1, 10, 46] (fun pv pth iv wr => ∃ (i f : Nat) (n : Int) (kids : List Int) (q p : Int) (ka : Option Addr) (kc : Nat) (vcs : List Value) (path : List Int) (pa : Option Addr) (pc : Nat) (g : V) (gcs : List Value), i + f = 64 ∧ pv = .int .i64 p ∧ pth = .slice pa path.length pc ∧ iv = .int .i64 i ∧ 0 ≤ p ∧ p < q ∧ path.length ≤ i ∧ Hid (nodeO (obAt l n) = some (kids, q)) ∧ Hid (findP l f n kids q p path g = some R) ∧ Hid (g.kind = 7 ∧ g.l.length ≤ 8 * i) ∧ Hid (FindI w0 w d l xb gb R0 n kids q ka kc vcs path pa pc g gcs wr) ∧ Hid (Ext (fun b => b = xb ∨ b = gb ∨ R0 ≤ b) W4 wr)) (fun _ _ iv _ => 64 - (intOf iv).toNat)
 case atStart => exact ⟨0, 64, n0, kids0, q0, p0, ka, kc, _, [], none, 0, emptyV, _, rfl, rfl, rfl, rfl, HPq.out.1, HPq.out.2, Nat.le_refl _, HN0, HR0, qh ⟨rfl, Nat.zero_le _⟩, HI0, qh (Ext.refl _ _)⟩
 case round =>
  obtain ⟨i, f, n, kids, q, p, ka, kc, vcs, path, pa, pc, g, gcs, hif, rfl, rfl, rfl, hp1, hp2, hpl, HN, HR, HG, HI, HE⟩ := hrel
  cases f with
  | zero => exact absurd HR.out (by unfold findP; exact fun h => nomatch h)
  | succ f =>
    have hii : (i : Int) < 64 := by omega
    have hq := node_typed HN.out
    have hq2 : q ≤ 2048 := hq.2.2.2
    have hkq : (kids.length : Int) ≤ q := hq.2.2.1
    have HStep : Hid ((if q = kids.length then
     if typedO (obAt l (kids.getD p.toNat 0)) "Page".toUTF8 = true then some (kids.getD p.toNat 0, path ++ [n], leafP (giveP g (obAt l n).v) (obAt l (kids.getD p.toNat 0)).v)
     else match nodeO (obAt l (kids.getD p.toNat 0)) with
      | some (ks, c) => if c = 1 then findP l f (kids.getD p.toNat 0) ks 1 0 (path ++ [n]) (giveP g (obAt l n).v) else none
      | none => none
     else match pickP l kids p with
      | some (k, ks, c, p') => findP l f k ks c p' (path ++ [n]) (giveP g (obAt l n).v)
      | none => none) = some R) := qh (by have h := HR.out; rw [findP] at h; exact h)
    clear hq HR
    obtain ⟨va, vc, vrows, hvc, _⟩ := HI.out.val.kids
    obtain ⟨ga, gc, gxs, hgc, _⟩ := HI.out.top.parts
    subst hvc
    go_upto_region 10 with (fail)
    go_cut [10] (fun x W => ∃ (a4 : Option Addr) (c4 : Nat) (cs2 : List Value), x = .slice a4 (path.length + 1) c4 ∧ Hid (FindI w0 w d l xb gb R0 n kids q ka kc [.int .i64 (obAt l n).v.kind, .int .i64 (obAt l n).v.n, .string (obAt l n).v.s, .slice va (obAt l n).v.l.length vc] (path ++ [n]) a4 c4 (giveP g (obAt l n).v) cs2 W) ∧ Hid (Ext (fun b => b = xb ∨ b = gb ∨ R0 ≤ b) W4 W))
    case first =>
     obtain ⟨Wd, hWd⟩ : ∃ z, z = wr.drew := ⟨_, rfl⟩
     obtain ⟨sb, hsb⟩ : ∃ z, z = Wd.heap.size := ⟨_, rfl⟩
     obtain ⟨W5, hW5⟩ : ∃ z, z = Wd.alloc (.cells #[.int .i64 n] 3) := ⟨_, rfl⟩
     have hPd : Pure wr Wd := by rw [hWd]; exact (Ext.refl _ _).drew
     have hP5 : Pure wr W5 := by rw [hW5]; exact hPd.pure (ext_alloc Wd _)
     have HP5 := qh hP5
     have hXd5 : Ext (fun b => b = gb ∨ (Value.slice pa path.length pc).ownBlock = some b) Wd W5 := by
      have h1 : Pure Wd W5 := by rw [hW5]; exact ext_alloc Wd _
      exact h1.mono (fun _ _ e => e.elim)
     have HWd : Hid (wr.drew = Wd) := qh hWd.symm
     have HW5 : Hid (Wd.alloc (.cells #[.int .i64 n] 3) = W5) := qh hW5.symm
     have HSb : Hid (sb = Wd.heap.size) := qh hsb
     have HRw5 : Hid (RowOf W5 (some ⟨sb, 0, none⟩) [.int .i64 n]) := qh (fun i u hu => ⟨sb, 0, rfl, by rw [hW5, hsb, (BlockIs.new Wd [.int .i64 n] 3).cell, Nat.zero_add]; exact hu⟩)
     have HO5 := qh (own_ext HI.out.prow hP5 (fun _ _ => id))
     have HB1 : Hid ((path.length + 1) * 8 ≤ 140737488355328) := qh (by omega)
     have HB2 : Hid (path.length + 1 ≤ maxLen) := qh (by unfold maxLen; omega)
     have HRs : Hid (R0 ≤ W5.heap.size) := qh (Nat.le_trans HI.out.rs hP5.size)
     have HLtb : Hid (∀ b, b < R0 → ¬ ((Value.slice pa path.length pc).ownBlock = some b)) := qh (fun b hb e => by have := (HI.out.prow.lt b e).1; omega)
     have hgn : ¬ gb = xb := by have := HLo.out; omega
     have hXbd := HI.out.xblk.ext hPd id
     have hGbd := HI.out.gblk.ext hPd id
     have HGl : Hid (g.l.length ≤ 80000) := qh (by have := HG.out.2; omega)
     have HVl : Hid ((obAt l n).v.l.length ≤ 1000000) := qh (by have h1 := HSz.out n; have h2 := V.len_size (obAt l n).v; omega)
     have HGv := qh (fun W (hP : Pure w0 W) (hT : Top w0 W (d + 1) g gcs) => give_any w0 d g gcs (obAt l n).v _ W hP hT HI.out.val HG.out.1 HI.out.free HGl.out HVl.out)
     have HI' := HI
     have HGc := qh hgc
     rw [hgc] at hGbd HGv
     unfold GiveTo at HGv
     clear hWd hsb hW5 hPd hP5 hgc
     generalize (obAt l n).v.l.length = vm at *
     generalize (obAt l n).v.kind = vk at *
     generalize (obAt l n).v.n = vn at *
     generalize (obAt l n).v.s = vs at *
     generalize g.l.length = gm at *
     generalize g.kind = gk at *
     generalize g.n = gn at *
     generalize g.s = gs at *
     simp only [List.cons_append, List.nil_append] at hXbd
     have hl0 : ∀ (b : Nat), (b = gb ∨ (Value.slice pa path.length pc).ownBlock = some b) → ¬ b = xb := fun b hb e => by
      subst e
      rcases hb with hb | hb
      ·exact hgn hb.symm
      ·exact HLtb.out b HLo.out.1 hb
     have HXn : Hid (¬ (xb = gb ∨ (Value.slice pa path.length pc).ownBlock = some xb)) := qh (fun h => hl0 xb h rfl)
     clear hl0 hgn
     refine region_start (fun b => b = gb ∨ (Value.slice pa path.length pc).ownBlock = some b) (by kernel_rfl) ?_
     try simp only [Act.put, sA, sZ, sS]
     rw [HWd.out]
     refine region_take 0 48 (v := ?vfr0) rfl rfl (by kernel_rfl) (by kernel_rfl) (by kernel_rfl) (fun _ _ _ h => h) (by rfl) (fun w' hS => ?hfr0) ?rfr0
     case hfr0 => go_simp; with_reducible rfl
     try simp only [Act.put, sA, sZ, sS]
     refine region_take 1 49 (v := ?vfr1) rfl rfl (by kernel_rfl) (by kernel_rfl) (by kernel_rfl) (fun _ _ _ h => h) (by rfl) (fun w' hS => ?hfr1) ?rfr1
     case hfr1 => go_simp; with_reducible rfl
     try simp only [Act.put, sA, sZ, sS]
     refine region_take 2 50 (v := ?vfr2) rfl rfl (by kernel_rfl) (by kernel_rfl) (by kernel_rfl) (fun _ _ _ h => h) (by rfl) (fun w' hS => ?hfr2) ?rfr2
     case hfr2 => (have e : w'.cell? ⟨xb, 0, none⟩ = some (.int .i64 n) := (hXbd.ext hS HXn.out).cell 0; go_simp; with_reducible rfl)
     try simp only [Act.put, sA, sZ, sS]
     refine region_take 6 54 (v := ?vfr6) rfl rfl (by kernel_rfl) (by kernel_rfl) (by kernel_rfl) (fun _ _ _ h => h) (by rfl) (fun w' hS => ?hfr6) ?rfr6
     case hfr6 => go_simp; with_reducible rfl
     try simp only [Act.put, sA, sZ, sS]
     refine region_take 7 55 (v := ?vfr7) rfl rfl (by kernel_rfl) (by kernel_rfl) (by kernel_rfl) (fun _ _ _ h => h) (by rfl) (fun w' hS => ?hfr7) ?rfr7
     case hfr7 => (have hx := hXbd.ext hS HXn.out; have e0 : w'.cell? ⟨xb, 1, none⟩ = some (.int .i64 vk) := hx.cell 1; have e1 : w'.cell? ⟨xb, 2, none⟩ = some (.int .i64 vn) := hx.cell 2; have e2 : w'.cell? ⟨xb, 3, none⟩ = some (.string vs) := hx.cell 3; have e3 : w'.cell? ⟨xb, 4, none⟩ = some (.slice va vm vc) := hx.cell 4; clear hx; go_simp; with_reducible rfl)
     try simp only [Act.put, sA, sZ, sS]
     refine wpAnyH_ready (rs := [3, 5]) (by kernel_rfl) (by simp) (AllReadyH.cons rfl (fun K hK => ?_) (AllReadyH.cons rfl (fun K hK => ?_) (AllReadyH.nil)))
     go_simp
     rw [HW5.out, ← HSb.out]
     have hGb5 := (show BlockIs W5 gb _ _ from by have h := HI.out.gblk.ext HP5.out id; rw [HGc.out] at h; exact h)
     refine hK.out _ _ (hXd5) (fun hHeld => ?_)
     clear hK K hHeld
     refine region_now (hXd5) ?_
     try simp only [Act.put, sA, sZ, sS]
     refine wpAnyH_ready (rs := [4, 5]) (by kernel_rfl) (by simp) (AllReadyH.cons rfl (fun K hK => ?_) (AllReadyH.cons rfl (fun K hK => ?_) (AllReadyH.nil)))
     refine step_of_list ?_
     refine wpList_append_fresh rfl (.tmp 48) (.tmp 51) 25 rfl R0 3 (.int .i64 0) 1 8 Tryz.underlying25 infoI rfl (by decide) (.slice pa path.length pc) path.length (intsV path) rfl HO5.out (some ⟨sb, 0, none⟩) 1 1 [.int .i64 n] rfl (fun e => by cases e) rfl HRw5.out (fun u hu => by simp at hu; subst hu; rfl) (path.length + 1) rfl (intsV path ++ [.int .i64 n]) rfl HB1.out HB2.out HRs.out ?_
     intro a6 c6 W6 hO6 hg6 hf6
     have hE6 := ext_of_grown hg6
     have hGb6 := hGb5.ext hE6 (HLtb.out gb HLo.out.2.1)
     have HT6 : Hid (Top w0 W6 (d + 1) g gcs) := qh ((HI.out.top.pure HP5.out).ext hE6 (fun b hb => (HI.out.poff b hb).1))
     have HP6 : Hid (Pure w W6) := qh ((HI.out.base.pure HP5.out).trans hE6 (fun b hb e => HLtb.out b (by have := HLo.out; omega) e))
     have hX6 : Ext (fun b => b = gb ∨ (Value.slice pa path.length pc).ownBlock = some b) W5 W6 := hE6.mono (fun b _ e => Or.inr e)
     have HO6 := qh hO6
     have HG6 := qh hg6
     have HF6 := qh hf6
     clear hO6 hg6 hf6 hE6
     refine hK.out _ _ (hX6) (fun hHeld => ?_)
     clear hK K hHeld
     refine region_now (hX6) ?_
     try simp only [Act.put, sA, sZ, sS]
     refine wpAnyH_ready (rs := [5]) (by kernel_rfl) (by simp) (AllReadyH.cons rfl (fun K hK => ?_) AllReadyH.nil)
     have g0 : W6.cell? ⟨gb, 0, none⟩ = some (.int .i64 gk) := hGb6.cell 0
     have g1 : W6.cell? ⟨gb, 1, none⟩ = some (.int .i64 gn) := hGb6.cell 1
     have g2 : W6.cell? ⟨gb, 2, none⟩ = some (.string gs) := hGb6.cell 2
     have g3 : W6.cell? ⟨gb, 3, none⟩ = some (.slice ga gm gc) := hGb6.cell 3
     go_simp
     clear g0 g1 g2 g3
     refine hK.out _ _ (Ext.refl _ _) (fun hHeld => ?_)
     clear hK K hHeld
     refine region_now (Ext.refl _ _) ?_
     try simp only [Act.put, sA, sZ, sS]
     refine wpAnyH_ready (rs := [8]) (by kernel_rfl) (by simp) (AllReadyH.cons rfl (fun K hK => ?_) AllReadyH.nil)
     go_simp
     refine (HGv.out W6 (HP0.out.pure HP6.out) (by rw [← HGc.out]; exact HT6.out)).mono ?_
     rintro e W8 ⟨cs2, rfl, hT8, hP8, hO8, hF8⟩
     have hX8 : Ext (fun b => b = gb ∨ (Value.slice pa path.length pc).ownBlock = some b) W6 W8 := hP8.mono (fun _ _ e => e.elim)
     have hGb8 := hGb6.ext hP8 id
     have h4 := hT8.len
     have HTh : Hid (W8.there gb 0 cs2.toArray.size) := qh (by rw [List.size_toArray, h4]; exact hGb8.there 4 rfl)
     have HSi : Hid ((Tryz.prog.info? 48).map (·.size) = some cs2.toArray.size) := qh (by rw [List.size_toArray, h4]; exact size24)
     have HOn := qh hT8.one
     obtain ⟨W9, hW9⟩ : ∃ z, z = W8.setCells gb 0 cs2 := ⟨_, rfl⟩
     have hX9 : Ext (fun b => b = gb ∨ (Value.slice pa path.length pc).ownBlock = some b) W8 W9 := by rw [hW9]; exact Ext.setCells (S := fun b => b = gb ∨ (Value.slice pa path.length pc).ownBlock = some b) _ 0 _ (Ext.refl _ _) (fun _ => Or.inl rfl)
     have HW9 : Hid (W8.setCells gb 0 cs2.toArray.toList = W9) := qh (by rw [hW9])
     have HI9 : Hid (FindI w0 w d l xb gb R0 n kids q ka kc [.int .i64 vk, .int .i64 vn, .string vs, .slice va vm vc] (path ++ [n]) a6 c6 (giveP g (obAt l n).v) cs2 W9) := qh (by rw [hW9]; exact HI.out.step HLo.out HP5.out HO6.out HG6.out HF6.out hT8 hP8 (by rw [HGc.out]; exact hO8) hF8)
     have HE9 : Hid (Ext (fun b => b = xb ∨ b = gb ∨ R0 ≤ b) W4 W9) := qh (((HE.out.pure HP5.out).trans (ext_of_grown HG6.out) (fun b _ e => Or.inr (Or.inr (HO5.out.lt b e).1))).trans ((hP8.mono (fun _ _ e => e.elim)).trans (show Ext (fun b => b = gb) W8 W9 by rw [hW9]; exact Ext.setCells (S := fun b => b = gb) _ 0 _ (Ext.refl _ _) (fun _ => rfl)) (fun _ _ e => e)) (fun b _ e => Or.inr (Or.inl e)))
     clear hT8 hP8 hO8 hF8 hGb8 h4 hW9
     refine hK.out _ _ (hX8) (fun hHeld => ?_)
     clear hK K hHeld
     refine region_now (hX8) ?_
     try simp only [Act.put, sA, sZ, sS]
     refine region_take 9 10 (v := ?vfrq0q09) rfl rfl (by kernel_rfl) (by kernel_rfl) (by kernel_rfl) (fun _ _ _ h => h) (by rfl) (fun w' hS => ?hfrq0q09) ?rfrq0q09
     case hfrq0q09 => go_simp; with_reducible rfl
     try simp only [Act.put, sA, sZ, sS]
     refine wpAnyH_ready (rs := [10]) (by kernel_rfl) (by simp) (AllReadyH.cons rfl (fun K hK => ?_) AllReadyH.nil)
     refine step_of_list ?_
     refine wpList_store_mid rfl 48 (.tmp 11) (.tmp 56) rfl gb 0 cs2.toArray rfl rfl HTh.out HSi.out HOn.out ?_
     rw [HW9.out]
     refine hK.out _ _ (hX9) (fun hHeld => ?_)
     clear hK K hHeld
     refine region_now (hX9) ?_
     try simp only [Act.put, sA, sZ, sS]
     refine wpAnyH_done (by kernel_rfl) ?_ _
     rotate_left
     have g0 : W5.cell? ⟨gb, 0, none⟩ = some (.int .i64 gk) := hGb5.cell 0
     have g1 : W5.cell? ⟨gb, 1, none⟩ = some (.int .i64 gn) := hGb5.cell 1
     have g2 : W5.cell? ⟨gb, 2, none⟩ = some (.string gs) := hGb5.cell 2
     have g3 : W5.cell? ⟨gb, 3, none⟩ = some (.slice ga gm gc) := hGb5.cell 3
     go_simp
     clear g0 g1 g2 g3
     refine hK.out _ _ (Ext.refl _ _) (fun hHeld => ?_)
     clear hK K hHeld
     refine region_now (Ext.refl _ _) ?_
     try simp only [Act.put, sA, sZ, sS]
     refine wpAnyH_ready (rs := [4]) (by kernel_rfl) (by simp) (AllReadyH.cons rfl (fun K hK => ?_) AllReadyH.nil)
     refine step_of_list ?_
     refine wpList_append_fresh rfl (.tmp 48) (.tmp 51) 25 rfl R0 3 (.int .i64 0) 1 8 Tryz.underlying25 infoI rfl (by decide) (.slice pa path.length pc) path.length (intsV path) rfl HO5.out (some ⟨sb, 0, none⟩) 1 1 [.int .i64 n] rfl (fun e => by cases e) rfl HRw5.out (fun u hu => by simp at hu; subst hu; rfl) (path.length + 1) rfl (intsV path ++ [.int .i64 n]) rfl HB1.out HB2.out HRs.out ?_
     intro a6 c6 W6 hO6 hg6 hf6
     have hE6 := ext_of_grown hg6
     have hGb6 := hGb5.ext hE6 (HLtb.out gb HLo.out.2.1)
     have HT6 : Hid (Top w0 W6 (d + 1) g gcs) := qh ((HI.out.top.pure HP5.out).ext hE6 (fun b hb => (HI.out.poff b hb).1))
     have HP6 : Hid (Pure w W6) := qh ((HI.out.base.pure HP5.out).trans hE6 (fun b hb e => HLtb.out b (by have := HLo.out; omega) e))
     have hX6 : Ext (fun b => b = gb ∨ (Value.slice pa path.length pc).ownBlock = some b) W5 W6 := hE6.mono (fun b _ e => Or.inr e)
     have HO6 := qh hO6
     have HG6 := qh hg6
     have HF6 := qh hf6
     clear hO6 hg6 hf6 hE6
     refine hK.out _ _ (hX6) (fun hHeld => ?_)
     clear hK K hHeld
     refine region_now (hX6) ?_
     try simp only [Act.put, sA, sZ, sS]
     refine wpAnyH_ready (rs := [8]) (by kernel_rfl) (by simp) (AllReadyH.cons rfl (fun K hK => ?_) AllReadyH.nil)
     go_simp
     refine (HGv.out W6 (HP0.out.pure HP6.out) (by rw [← HGc.out]; exact HT6.out)).mono ?_
     rintro e W8 ⟨cs2, rfl, hT8, hP8, hO8, hF8⟩
     have hX8 : Ext (fun b => b = gb ∨ (Value.slice pa path.length pc).ownBlock = some b) W6 W8 := hP8.mono (fun _ _ e => e.elim)
     have hGb8 := hGb6.ext hP8 id
     have h4 := hT8.len
     have HTh : Hid (W8.there gb 0 cs2.toArray.size) := qh (by rw [List.size_toArray, h4]; exact hGb8.there 4 rfl)
     have HSi : Hid ((Tryz.prog.info? 48).map (·.size) = some cs2.toArray.size) := qh (by rw [List.size_toArray, h4]; exact size24)
     have HOn := qh hT8.one
     obtain ⟨W9, hW9⟩ : ∃ z, z = W8.setCells gb 0 cs2 := ⟨_, rfl⟩
     have hX9 : Ext (fun b => b = gb ∨ (Value.slice pa path.length pc).ownBlock = some b) W8 W9 := by rw [hW9]; exact Ext.setCells (S := fun b => b = gb ∨ (Value.slice pa path.length pc).ownBlock = some b) _ 0 _ (Ext.refl _ _) (fun _ => Or.inl rfl)
     have HW9 : Hid (W8.setCells gb 0 cs2.toArray.toList = W9) := qh (by rw [hW9])
     have HI9 : Hid (FindI w0 w d l xb gb R0 n kids q ka kc [.int .i64 vk, .int .i64 vn, .string vs, .slice va vm vc] (path ++ [n]) a6 c6 (giveP g (obAt l n).v) cs2 W9) := qh (by rw [hW9]; exact HI.out.step HLo.out HP5.out HO6.out HG6.out HF6.out hT8 hP8 (by rw [HGc.out]; exact hO8) hF8)
     have HE9 : Hid (Ext (fun b => b = xb ∨ b = gb ∨ R0 ≤ b) W4 W9) := qh (((HE.out.pure HP5.out).trans (ext_of_grown HG6.out) (fun b _ e => Or.inr (Or.inr (HO5.out.lt b e).1))).trans ((hP8.mono (fun _ _ e => e.elim)).trans (show Ext (fun b => b = gb) W8 W9 by rw [hW9]; exact Ext.setCells (S := fun b => b = gb) _ 0 _ (Ext.refl _ _) (fun _ => rfl)) (fun _ _ e => e)) (fun b _ e => Or.inr (Or.inl e)))
     clear hT8 hP8 hO8 hF8 hGb8 h4 hW9
     refine hK.out _ _ (hX8) (fun hHeld => ?_)
     clear hK K hHeld
     refine region_now (hX8) ?_
     try simp only [Act.put, sA, sZ, sS]
     refine region_take 9 10 (v := ?vfrq0q19) rfl rfl (by kernel_rfl) (by kernel_rfl) (by kernel_rfl) (fun _ _ _ h => h) (by rfl) (fun w' hS => ?hfrq0q19) ?rfrq0q19
     case hfrq0q19 => go_simp; with_reducible rfl
     try simp only [Act.put, sA, sZ, sS]
     refine wpAnyH_ready (rs := [10]) (by kernel_rfl) (by simp) (AllReadyH.cons rfl (fun K hK => ?_) AllReadyH.nil)
     refine step_of_list ?_
     refine wpList_store_mid rfl 48 (.tmp 11) (.tmp 56) rfl gb 0 cs2.toArray rfl rfl HTh.out HSi.out HOn.out ?_
     rw [HW9.out]
     refine hK.out _ _ (hX9) (fun hHeld => ?_)
     clear hK K hHeld
     refine region_now (hX9) ?_
     try simp only [Act.put, sA, sZ, sS]
     refine wpAnyH_done (by kernel_rfl) ?_ _
     rotate_left
     have g0 : Wd.cell? ⟨gb, 0, none⟩ = some (.int .i64 gk) := hGbd.cell 0
     have g1 : Wd.cell? ⟨gb, 1, none⟩ = some (.int .i64 gn) := hGbd.cell 1
     have g2 : Wd.cell? ⟨gb, 2, none⟩ = some (.string gs) := hGbd.cell 2
     have g3 : Wd.cell? ⟨gb, 3, none⟩ = some (.slice ga gm gc) := hGbd.cell 3
     go_simp
     clear g0 g1 g2 g3
     refine hK.out _ _ (Ext.refl _ _) (fun hHeld => ?_)
     clear hK K hHeld
     refine region_now (Ext.refl _ _) ?_
     try simp only [Act.put, sA, sZ, sS]
     refine wpAnyH_ready (rs := [3]) (by kernel_rfl) (by simp) (AllReadyH.cons rfl (fun K hK => ?_) AllReadyH.nil)
     go_simp
     rw [HW5.out, ← HSb.out]
     have hGb5 := (show BlockIs W5 gb _ _ from by have h := HI.out.gblk.ext HP5.out id; rw [HGc.out] at h; exact h)
     refine hK.out _ _ (hXd5) (fun hHeld => ?_)
     clear hK K hHeld
     refine region_now (hXd5) ?_
     try simp only [Act.put, sA, sZ, sS]
     refine wpAnyH_ready (rs := [4]) (by kernel_rfl) (by simp) (AllReadyH.cons rfl (fun K hK => ?_) AllReadyH.nil)
     refine step_of_list ?_
     refine wpList_append_fresh rfl (.tmp 48) (.tmp 51) 25 rfl R0 3 (.int .i64 0) 1 8 Tryz.underlying25 infoI rfl (by decide) (.slice pa path.length pc) path.length (intsV path) rfl HO5.out (some ⟨sb, 0, none⟩) 1 1 [.int .i64 n] rfl (fun e => by cases e) rfl HRw5.out (fun u hu => by simp at hu; subst hu; rfl) (path.length + 1) rfl (intsV path ++ [.int .i64 n]) rfl HB1.out HB2.out HRs.out ?_
     intro a6 c6 W6 hO6 hg6 hf6
     have hE6 := ext_of_grown hg6
     have hGb6 := hGb5.ext hE6 (HLtb.out gb HLo.out.2.1)
     have HT6 : Hid (Top w0 W6 (d + 1) g gcs) := qh ((HI.out.top.pure HP5.out).ext hE6 (fun b hb => (HI.out.poff b hb).1))
     have HP6 : Hid (Pure w W6) := qh ((HI.out.base.pure HP5.out).trans hE6 (fun b hb e => HLtb.out b (by have := HLo.out; omega) e))
     have hX6 : Ext (fun b => b = gb ∨ (Value.slice pa path.length pc).ownBlock = some b) W5 W6 := hE6.mono (fun b _ e => Or.inr e)
     have HO6 := qh hO6
     have HG6 := qh hg6
     have HF6 := qh hf6
     clear hO6 hg6 hf6 hE6
     refine hK.out _ _ (hX6) (fun hHeld => ?_)
     clear hK K hHeld
     refine region_now (hX6) ?_
     try simp only [Act.put, sA, sZ, sS]
     refine wpAnyH_ready (rs := [8]) (by kernel_rfl) (by simp) (AllReadyH.cons rfl (fun K hK => ?_) AllReadyH.nil)
     go_simp
     refine (HGv.out W6 (HP0.out.pure HP6.out) (by rw [← HGc.out]; exact HT6.out)).mono ?_
     rintro e W8 ⟨cs2, rfl, hT8, hP8, hO8, hF8⟩
     have hX8 : Ext (fun b => b = gb ∨ (Value.slice pa path.length pc).ownBlock = some b) W6 W8 := hP8.mono (fun _ _ e => e.elim)
     have hGb8 := hGb6.ext hP8 id
     have h4 := hT8.len
     have HTh : Hid (W8.there gb 0 cs2.toArray.size) := qh (by rw [List.size_toArray, h4]; exact hGb8.there 4 rfl)
     have HSi : Hid ((Tryz.prog.info? 48).map (·.size) = some cs2.toArray.size) := qh (by rw [List.size_toArray, h4]; exact size24)
     have HOn := qh hT8.one
     obtain ⟨W9, hW9⟩ : ∃ z, z = W8.setCells gb 0 cs2 := ⟨_, rfl⟩
     have hX9 : Ext (fun b => b = gb ∨ (Value.slice pa path.length pc).ownBlock = some b) W8 W9 := by rw [hW9]; exact Ext.setCells (S := fun b => b = gb ∨ (Value.slice pa path.length pc).ownBlock = some b) _ 0 _ (Ext.refl _ _) (fun _ => Or.inl rfl)
     have HW9 : Hid (W8.setCells gb 0 cs2.toArray.toList = W9) := qh (by rw [hW9])
     have HI9 : Hid (FindI w0 w d l xb gb R0 n kids q ka kc [.int .i64 vk, .int .i64 vn, .string vs, .slice va vm vc] (path ++ [n]) a6 c6 (giveP g (obAt l n).v) cs2 W9) := qh (by rw [hW9]; exact HI.out.step HLo.out HP5.out HO6.out HG6.out HF6.out hT8 hP8 (by rw [HGc.out]; exact hO8) hF8)
     have HE9 : Hid (Ext (fun b => b = xb ∨ b = gb ∨ R0 ≤ b) W4 W9) := qh (((HE.out.pure HP5.out).trans (ext_of_grown HG6.out) (fun b _ e => Or.inr (Or.inr (HO5.out.lt b e).1))).trans ((hP8.mono (fun _ _ e => e.elim)).trans (show Ext (fun b => b = gb) W8 W9 by rw [hW9]; exact Ext.setCells (S := fun b => b = gb) _ 0 _ (Ext.refl _ _) (fun _ => rfl)) (fun _ _ e => e)) (fun b _ e => Or.inr (Or.inl e)))
     clear hT8 hP8 hO8 hF8 hGb8 h4 hW9
     refine hK.out _ _ (hX8) (fun hHeld => ?_)
     clear hK K hHeld
     refine region_now (hX8) ?_
     try simp only [Act.put, sA, sZ, sS]
     refine region_take 9 10 (v := ?vfrq19) rfl rfl (by kernel_rfl) (by kernel_rfl) (by kernel_rfl) (fun _ _ _ h => h) (by rfl) (fun w' hS => ?hfrq19) ?rfrq19
     case hfrq19 => go_simp; with_reducible rfl
     try simp only [Act.put, sA, sZ, sS]
     refine wpAnyH_ready (rs := [10]) (by kernel_rfl) (by simp) (AllReadyH.cons rfl (fun K hK => ?_) AllReadyH.nil)
     refine step_of_list ?_
     refine wpList_store_mid rfl 48 (.tmp 11) (.tmp 56) rfl gb 0 cs2.toArray rfl rfl HTh.out HSi.out HOn.out ?_
     rw [HW9.out]
     refine hK.out _ _ (hX9) (fun hHeld => ?_)
     clear hK K hHeld
     refine region_now (hX9) ?_
     try simp only [Act.put, sA, sZ, sS]
     refine wpAnyH_done (by kernel_rfl) ?_ _
     rotate_left
     all_goals
      go_simp
      try simp only [Act.put, sA, sZ, sS]
      go_wp2_with fail
      go_meet
      exact ⟨_, _, _, rfl, HI9, HE9⟩
    case rest =>
     obtain ⟨a4, c4, cs2, rfl, HI2, HE2⟩ := hcut
     obtain ⟨W5, rfl⟩ : ∃ z : World, z = wc := ⟨_, rfl⟩
     clear HI HE hgc
     have hxb := HI2.out.xblk
     simp only [List.cons_append, List.nil_append] at hxb
     have x5 : W5.cell? ⟨xb, 5, none⟩ = some (.slice ka kids.length kc) := hxb.cell 5
     have x6 : W5.cell? ⟨xb, 6, none⟩ = some (.int .i64 q) := hxb.cell 6
     have hxl : xb < W5.heap.size := hxb.lt
     have HGn : Hid ((giveP g (obAt l n).v).kind = 7 ∧ (giveP g (obAt l n).v).l.length ≤ 8 * (i + 1)) := qh ⟨giveN_kind _ HG.out.1 4, by have h1 := giveN_len (obAt l n).v HG.out.1 4; have h2 := HG.out.2; unfold giveP; omega⟩
     have HPl : Hid ((Value.slice a4 (path.length + 1) c4) = .slice a4 (path ++ [n]).length c4) := qh (by rw [List.length_append]; rfl)
     clear hxb
     obtain ⟨g', hg'⟩ : ∃ z, z = giveP g (obAt l n).v := ⟨_, rfl⟩
     rw [← hg'] at HI2 HGn HStep
     have HGx : Hid (∀ x, x = g' → x.kind = 7 ∧ x.l.length ≤ 8 * (i + 1)) := qh (fun x hx => by rw [hx]; exact HGn.out)
     clear hg' HG HN
     by_cases hqk : q = kids.length
     ·have hqb : (q == (kids.length : Int)) = true := by simpa using hqk
      obtain ⟨j, hj⟩ : ∃ j : Nat, p = (j : Int) := ⟨p.toNat, by omega⟩
      subst hj
      have hjk : j < kids.length := by omega
      have hji : (j : Int) < (kids.length : Int) := by omega
      have hj0 : (0 : Int) ≤ (j : Int) := by omega
      obtain ⟨kb, ko, hka, hkc⟩ := HI2.out.krow j _ (intsV_get hjk)
      obtain ⟨y, hy⟩ : ∃ y, y = kids[j] := ⟨_, rfl⟩
      rw [← hy] at hkc
      have HSt : Hid ((if typedO (obAt l y) "Page".toUTF8 = true then some (y, path ++ [n], leafP g' (obAt l y).v)
       else match nodeO (obAt l y) with
        | some (ks, c) => if c = 1 then findP l f y ks 1 0 (path ++ [n]) g' else none
        | none => none) = some R) := qh (by
       have h := HStep.out
       have e : kids.getD ((j : Int)).toNat 0 = y := by rw [Int.toNat_natCast, List.getD_eq_getElem?_getD, List.getElem?_eq_getElem hjk, hy]; rfl
       rw [if_pos hqk, e] at h
       exact h)
      subst hka
      clear HStep hy hjk
      go_wp2_with fail
      refine (HGet.out y W5 HI2.out.base).mono ?_
      rintro e W6 ⟨cs6, rfl, hL6, hP6⟩
      have hsz := HSz.out y
      have HNo : Hid (∀ k, k = y → (obAt l k).v = (obAt l y).v) := qh (fun k hk => by rw [hk])
      obtain ⟨o, ho⟩ : ∃ z, z = obAt l y := ⟨_, rfl⟩
      rw [← ho] at hL6 hsz HSt
      have HO := qh ho
      rw [← HO.out]
      have hol : o.v.l.length ≤ 1000000 := by have := V.len_size o.v; omega
      have HPg := qh (fun W (hP : Pure w0 W) => page_any d o cs6 W (hL6.pure hP) hol)
      have HNd := qh (fun W (hP : Pure w0 W) => nodeof_any d y o cs6 w0 W hP hL6 hsz)
      have HLf := qh (fun W (hP : Pure w0 W) (hT : Top w0 W (d + 1) g' cs2) => leaf_any w0 d y a4 (path.length + 1) c4 g' cs2 o.v cs6 W hP hT hL6 (by have := HGn.out.2; omega) hol)
      have HL6 := qh hL6
      obtain ⟨oa6, oc6, orows, hcs6, _⟩ := hL6.kids
      obtain ⟨ga, gc, gxs, hgc, _⟩ := HI2.out.top.parts
      have HGc := qh hgc
      have HCs6 := qh hcs6
      unfold LeafTo NodeTo at *
      rw [hcs6] at HPg HNd HLf ⊢
      rw [hgc] at HLf
      have HI6 := qh (HI2.out.pure hP6)
      have HE6 := qh (HE2.out.pure hP6)
      obtain ⟨NO, hNO⟩ : ∃ z, z = nodeO o := ⟨_, rfl⟩
      have HNO := qh hNO
      rw [← hNO] at HSt HNd
      obtain ⟨T, hT⟩ : ∃ z, z = typedO o "Page".toUTF8 := ⟨_, rfl⟩
      rw [← hT] at HSt HPg
      have HSv := HSt
      obtain ⟨lf, hlf⟩ : ∃ z, z = leafP g' o.v := ⟨_, rfl⟩
      rw [← hlf] at HSv HLf
      clear hcs6 hgc hL6 hP6 ho hNO hT HSt x5 x6 hxl hkc hsz hol hlf
      generalize o.v.l.length = om at *
      generalize o.v.kind = ok at *
      generalize o.v.n = on at *
      generalize o.v.s = os at *
      generalize o.st = st at *
      generalize o.data = dt at *
      simp only [List.cons_append, List.nil_append] at HPg HNd HLf ⊢
      obtain ⟨W7, hW7⟩ : ∃ z, z = W6.alloc (.cells #[.int .i64 ok, .int .i64 on, .string os, .slice oa6 om oc6, .bool st, .string dt] 61) := ⟨_, rfl⟩
      obtain ⟨ob, hob⟩ : ∃ z, z = W6.heap.size := ⟨_, rfl⟩
      have hB7 : BlockIs W7 ob [.int .i64 ok, .int .i64 on, .string os, .slice oa6 om oc6, .bool st, .string dt] 61 := by rw [hW7, hob]; exact BlockIs.new W6 [.int .i64 ok, .int .i64 on, .string os, .slice oa6 om oc6, .bool st, .string dt] _
      have hP7 : Pure W6 W7 := by rw [hW7]; exact ext_alloc W6 _
      have HW7 := qh hW7
      have HOb := qh hob
      clear hW7 hob
      go_wp2_with fail
      rw [← HW7.out, ← HOb.out]
      have HI7 := qh (HI6.out.pure hP7)
      have HE7 := qh (HE6.out.pure hP7)
      refine (HPg.out W7 (HP0.out.pure HI7.out.base)).mono ?_
      rintro e W8 ⟨rfl, hP8⟩
      have HI8 := qh (HI7.out.pure hP8)
      have HE8 := qh (HE7.out.pure hP8)
      have hB8 := hB7.ext hP8 id
      have hG8 := HI8.out.gblk
      rw [HGc.out] at hG8
      have HT8 := qh HI8.out.top
      rw [HGc.out] at HT8
      generalize g'.l.length = gm at *
      generalize g'.kind = gk at *
      generalize g'.n = gn at *
      generalize g'.s = gs at *
      have y0 : W8.cell? ⟨ob, 0, none⟩ = some (.int .i64 ok) := hB8.cell 0
      have y1 : W8.cell? ⟨ob, 1, none⟩ = some (.int .i64 on) := hB8.cell 1
      have y2 : W8.cell? ⟨ob, 2, none⟩ = some (.string os) := hB8.cell 2
      have y3 : W8.cell? ⟨ob, 3, none⟩ = some (.slice oa6 om oc6) := hB8.cell 3
      have y4 : W8.cell? ⟨ob, 4, none⟩ = some (.bool st) := hB8.cell 4
      have y5 : W8.cell? ⟨ob, 5, none⟩ = some (.string dt) := hB8.cell 5
      have g0 : W8.cell? ⟨gb, 0, none⟩ = some (.int .i64 gk) := hG8.cell 0
      have g1 : W8.cell? ⟨gb, 1, none⟩ = some (.int .i64 gn) := hG8.cell 1
      have g2 : W8.cell? ⟨gb, 2, none⟩ = some (.string gs) := hG8.cell 2
      have g3 : W8.cell? ⟨gb, 3, none⟩ = some (.slice ga gm gc) := hG8.cell 3
      have hol8 : ob < W8.heap.size := hB8.lt
      have hgl8 : gb < W8.heap.size := hG8.lt
      clear hP7 hP8 hB7 hB8 hG8 HI7 HE7 HI6 HE6 HPg HW7 HOb
      cases T with
      | true =>
        have HRe : Hid (R = (y, path ++ [n], lf)) := qh (by have h := HSv.out; rw [if_pos rfl] at h; exact (Option.some.inj h).symm)
        clear HSv HNd
        go_wp2_with fail
        refine (HLf.out W8 (HP0.out.pure HI8.out.base) HT8.out).mono ?_
        rintro e W9 ⟨cs9, rfl, hT9, hP9, hO9⟩
        have h4 := hT9.len
        have hB9 : BlockIs W9 tb [.int .i64 0, .slice none 0 0, .int .i64 0, .int .i64 0, .string ⟨#[]⟩, .slice none 0 0] 92 := (HB4.out.ext HE8.out (fun h => by have h1 := HTlt.out; have h2 := HLo.out; omega)).ext hP9 id
        obtain ⟨fs, hfs⟩ : ∃ z, z = Value.int .i64 y :: Value.slice a4 (path.length + 1) c4 :: cs9 := ⟨_, rfl⟩
        have hf6 : fs.length = 6 := by rw [hfs]; simp [h4]
        have HTh : Hid (W9.there tb 0 fs.toArray.size) := qh (by rw [List.size_toArray, hf6]; exact hB9.there 6 rfl)
        have HSi : Hid ((Tryz.prog.info? 92).map (·.size) = some fs.toArray.size) := qh (by rw [List.size_toArray, hf6]; exact size55)
        have HOn : Hid ((fs.toArray.all fun u => u.oneCell') = true) := qh (by
         obtain ⟨ca, cc, cxs, hcc, _⟩ := hT9.parts
         rw [hfs, hcc]
         exact one6l y a4 _ c4 _ _ _ _ _ _)
        obtain ⟨Wf, hWf⟩ : ∃ z, z = W9.setCells tb 0 fs := ⟨_, rfl⟩
        have hXf : Ext (fun b => b = tb) W9 Wf := by rw [hWf]; exact Ext.setCells (S := fun b => b = tb) _ 0 _ (Ext.refl _ _) (fun _ => rfl)
        have HBf : Hid (BlockIs Wf tb fs 92) := qh (by rw [hWf]; exact hB9.setAll fs hf6.symm)
        have HPf : Hid (Pure w Wf) := qh ((HI8.out.base.pure hP9).trans hXf (fun b hb e => by have := HTlt.out; omega))
        have HTf : Hid (Top w0 Wf (d + 1) lf cs9) := qh (hT9.ext' hXf (fun b hb hne => by
         subst hb
         have h1 := HTlt.out
         have h2 := HLo.out
         have h3 := HI8.out.rs
         exact hO9 hne b (by omega) (by rw [← HGc.out]; exact HI8.out.goff b (by omega))))
        have HOf : Hid (Wf.ownsRow w.heap.size 3 1 (.slice a4 (path ++ [n]).length c4) (path ++ [n]).length (intsV (path ++ [n]))) := qh (own_base (own_ext (own_ext HI8.out.prow hP9 (fun _ _ => id)) hXf (fun b hb e => by
         have h1 := (HI8.out.prow.lt b hb).1
         have h2 := HTlt.out
         have h3 := HLo.out
         omega)) (by have := HLo.out; omega))
        have HOff : Hid (lf.l ≠ [] → ∀ b, b < w.heap.size → Off b cs9) := qh (fun hne b hb => by
         have h1 := HTlt.out
         have h2 := HLo.out
         have h3 := HI8.out.rs
         exact hO9 hne b (by omega) (by rw [← HGc.out]; exact HI8.out.goff b (by omega)))
        have HWf : Hid (W9.setCells tb 0 fs.toArray.toList = Wf) := qh (by rw [hWf])
        have HF6 := qh hf6
        have HFs := qh hfs
        rw [← hfs]
        clear hT9 hP9 hO9 hB9 hf6 hWf hXf hfs h4 y0 y1 y2 y3 y4 y5 g0 g1 g2 g3 HLf
        go_wp2_with (with_reducible refine at_store 92 (.tmp 4) (.tmp 89) ?_; refine wpList_store_mid rfl 92 (.tmp 4) (.tmp 89) rfl tb 0 fs.toArray rfl rfl HTh.out HSi.out HOn.out ?_; rw [HWf.out])
        refine bodyPost_ret (results_row3 rfl _ _ tb _ fs _ rfl HBf.out Tryz.underlying92 rfl (by rw [HF6.out]; exact size55)) rfl ?_
        rw [HRe.out]
        exact ⟨a4, c4, cs9, by rw [HFs.out, HPl.out]; rfl, HTf.out, HPf.out, HOf.out, HOff.out⟩
      | false =>
        obtain ⟨ks, hNs, HRn⟩ : ∃ ks, NO = some (ks, 1) ∧ Hid (findP l f y ks 1 0 (path ++ [n]) g' = some R) := by
         have h := HSv.out
         rw [if_neg (by decide)] at h
         cases NO with
         | none => cases h
         | some z =>
           obtain ⟨ks, c⟩ := z
           simp only at h
           split at h
           ·rename_i hc
            subst hc
            exact ⟨ks, rfl, qh h⟩
           ·cases h
        have HNn : Hid (nodeO (obAt l y) = some (ks, 1)) := qh (by rw [← HO.out, ← HNO.out]; exact hNs)
        subst hNs
        clear HSv HLf
        go_wp2_with fail
        refine (HNd.out W8 (HP0.out.pure HI8.out.base)).mono ?_
        rintro e W9 ⟨xa, xm, xc, cn, rfl, hP9, hK⟩
        obtain ⟨rfl, rfl, hO9⟩ := hK ks 1 rfl
        have hkn := node_typed HNn.out
        obtain ⟨W10, hW10⟩ : ∃ z, z = W9.alloc (.cells #[.int .i64 y, .int .i64 ok, .int .i64 on, .string os, .slice oa6 om oc6, .slice xa ks.length xc, .int .i64 1] 101) := ⟨_, rfl⟩
        have hP10 : Pure W9 W10 := by rw [hW10]; exact ext_alloc W9 _
        have hX10 : BlockIs W10 xb (.int .i64 n :: ([.int .i64 (obAt l n).v.kind, .int .i64 (obAt l n).v.n, .string (obAt l n).v.s, .slice va (obAt l n).v.l.length vc] ++ [.slice (some ⟨kb, ko, none⟩) kids.length kc, .int .i64 q])) 101 := (HI8.out.xblk.ext hP9 id).ext hP10 id
        have HTh : Hid (W10.there xb 0 (#[.int .i64 y, .int .i64 ok, .int .i64 on, .string os, .slice oa6 om oc6, .slice xa ks.length xc, .int .i64 1] : Array Value).size) := qh (hX10.there 7 rfl)
        have HSi : Hid ((Tryz.prog.info? 101).map (·.size) = some (#[.int .i64 y, .int .i64 ok, .int .i64 on, .string os, .slice oa6 om oc6, .slice xa ks.length xc, .int .i64 1] : Array Value).size) := qh size105
        have HOn := qh (one7 y ok on os oa6 om oc6 xa ks.length xc 1)
        have hmv := HI8.out.move (k := y) (c := 1) HLo.out (hP9.pure hP10) (by rw [← HO.out]; exact HL6.out) (own_ext hO9 hP10 (fun _ _ => id))
        obtain ⟨W11, hW11⟩ : ∃ z, z = W10.setCells xb 0 [.int .i64 y, .int .i64 ok, .int .i64 on, .string os, .slice oa6 om oc6, .slice xa ks.length xc, .int .i64 1] := ⟨_, rfl⟩
        have HI11 : Hid (FindI w0 w d l xb gb R0 y ks 1 xa xc cs6 (path ++ [n]) a4 c4 g' cs2 W11) := qh (by rw [HCs6.out] at hmv ⊢; rw [hW11]; exact hmv)
        have HE11 : Hid (Ext (fun b => b = xb ∨ b = gb ∨ R0 ≤ b) W4 W11) := qh (((HE8.out.pure hP9).pure hP10).trans (show Ext (fun b => b = xb) W10 W11 by rw [hW11]; exact Ext.setCells (S := fun b => b = xb) _ 0 _ (Ext.refl _ _) (fun _ => rfl)) (fun b _ e => Or.inl e))
        have HWs : Hid (W10.setCells xb 0 (#[.int .i64 y, .int .i64 ok, .int .i64 on, .string os, .slice oa6 om oc6, .slice xa ks.length xc, .int .i64 1] : Array Value).toList = W11) := qh (by rw [hW11])
        have HW10 := qh hW10
        simp only [Option.isSome_some]
        clear hP9 hK hO9 hkn hW10 hP10 hX10 hmv hW11 y0 y1 y2 y3 y4 y5 g0 g1 g2 g3 HNd
        go_wp2_with (with_reducible refine at_store 101 (.tmp 7) (.tmp 104) ?_; rw [← HW10.out]; refine wpList_store_mid rfl 101 (.tmp 7) (.tmp 104) rfl xb 0 #[.int .i64 y, .int .i64 ok, .int .i64 on, .string os, .slice oa6 om oc6, .slice xa ks.length xc, .int .i64 1] rfl rfl HTh.out HSi.out HOn.out ?_; rw [HWs.out])
        go_roundw
        case rel => exact ⟨i + 1, f, y, ks, 1, 0, xa, xc, cs6, path ++ [n], a4, c4, g', cs2, by omega, rfl, HPl.out, by go_num, by omega, by omega, by rw [List.length_append]; simp; omega, HNn, HRn, qh (HGx.out g' rfl), HI11, HE11⟩
        case measure => simp [intOf]; omega
     ·have hqb : (q == (kids.length : Int)) = false := by simpa using hqk
      obtain ⟨k, ks, c, p', hpk, HRn⟩ : ∃ k ks c p', Hid (pickP l kids p = some (k, ks, c, p')) ∧ Hid (findP l f k ks c p' (path ++ [n]) g' = some R) := by
       have h := HStep.out
       rw [if_neg hqk] at h
       cases hpk : pickP l kids p with
       | none => rw [hpk] at h; cases h
       | some z =>
         obtain ⟨k, ks, c, p'⟩ := z
         rw [hpk] at h
         exact ⟨k, ks, c, p', qh rfl, qh h⟩
      obtain ⟨hnk, hp'0, hp'c⟩ := pickP_node hp1 hpk.out
      have HNk := qh hnk
      have HPc := qh (And.intro hp'0 hp'c)
      obtain ⟨kl, hkl⟩ : ∃ z, z = kids.length := ⟨_, rfl⟩
      have HKl := qh hkl
      rw [← hkl] at x5 hqb hkq
      clear HStep hnk hp'0 hp'c hqk hkl HPl HGn
      have HPl : Hid ((Value.slice a4 (path.length + 1) c4) = .slice a4 (path ++ [n]).length c4) := qh (by rw [List.length_append]; rfl)
      go_wp2_with fail
      go_loopw [1, 108] (fun pv jv wj => ∃ (j : Nat) (pj : Int), j ≤ kl ∧ pv = .int .i64 pj ∧ jv = .int .i64 j ∧ 0 ≤ pj ∧ pj ≤ 2048 ∧ Hid (pickP l (kids.drop j) pj = some (k, ks, c, p')) ∧ Hid (Pure W5 wj)) (fun _ jv _ => kl - (intOf jv).toNat)
      case atStart => exact ⟨0, p, Nat.zero_le _, rfl, rfl, hp1, by omega, hpk, qh (Ext.refl _ _)⟩
      case round =>
       obtain ⟨j, pj, hj, rfl, rfl, hpj0, hpj1, HPk, HEj⟩ := hrel
       obtain ⟨wj, rfl⟩ : ∃ z : World, z = wr := ⟨_, rfl⟩
       by_cases hjk : j < kl
       ·have hji : (j : Int) < (kl : Int) := by omega
        have hj0 : (0 : Int) ≤ (j : Int) := by omega
        have hjl : j < kids.length := by rw [← HKl.out]; exact hjk
        obtain ⟨kb, ko, hka, hkc⟩ := (HI2.out.krow.ext HEj.out (fun _ _ => id)) j _ (intsV_get hjl)
        obtain ⟨y, hy⟩ : ∃ y, y = kids[j] := ⟨_, rfl⟩
        rw [← hy] at hkc
        obtain ⟨us, uc, HNy, HPy⟩ : ∃ us uc, Hid (nodeO (obAt l y) = some (us, uc)) ∧ Hid ((if pj < uc then some (y, us, uc, pj) else pickP l (kids.drop (j + 1)) (pj - uc)) = some (k, ks, c, p')) := by
         have h := HPk.out
         rw [List.drop_eq_getElem_cons hjl, ← hy] at h
         unfold pickP at h
         cases hn : nodeO (obAt l y) with
         | none => rw [hn] at h; cases h
         | some z =>
           obtain ⟨us, uc⟩ := z
           rw [hn] at h
           exact ⟨us, uc, qh rfl, qh h⟩
        have hny := node_typed HNy.out
        have huc : uc ≤ 2048 := hny.2.2.2
        have huc1 : 1 ≤ uc := by have h1 := hny.2.1; have h2 := hny.2.2.1; omega
        subst hka
        clear hy hjl HPk hny
        have HIj := qh (HI2.out.pure HEj.out)
        have HEw := qh (HE2.out.pure HEj.out)
        go_wp2_with fail
        refine (HAsk.out y us uc HNy.out wj HIj.out.base).mono ?_
        rintro e W6 ⟨cs6, xa, xc, rfl, hL6, hP6, hO6⟩
        have HL6 := qh hL6
        obtain ⟨oa6, oc6, orows, hcs6, _⟩ := hL6.kids
        have HCs6 := qh hcs6
        rw [hcs6]
        clear hL6 hcs6 hkc
        generalize (obAt l y).v.l.length = om at *
        generalize (obAt l y).v.kind = ok at *
        generalize (obAt l y).v.n = on at *
        generalize (obAt l y).v.s = os at *
        simp only [List.cons_append, List.nil_append]
        obtain ⟨ul, hul⟩ : ∃ z, z = us.length := ⟨_, rfl⟩
        rw [← hul] at hO6 ⊢
        by_cases hpu : pj < uc
        ·have HPe : Hid (y = k ∧ us = ks ∧ uc = c ∧ pj = p') := qh (by
          have h := HPy.out
          rw [if_pos hpu] at h
          simp only [Option.some.injEq, Prod.mk.injEq] at h
          exact h)
         obtain ⟨W10, hW10⟩ : ∃ z, z = W6.alloc (.cells #[.int .i64 y, .int .i64 ok, .int .i64 on, .string os, .slice oa6 om oc6, .slice xa ul xc, .int .i64 uc] 101) := ⟨_, rfl⟩
         have hP10 : Pure W6 W10 := by rw [hW10]; exact ext_alloc W6 _
         have hX10 := (HIj.out.xblk.ext hP6 id).ext hP10 id
         have HTh : Hid (W10.there xb 0 (#[.int .i64 y, .int .i64 ok, .int .i64 on, .string os, .slice oa6 om oc6, .slice xa ul xc, .int .i64 uc] : Array Value).size) := qh (hX10.there 7 rfl)
         have HSi : Hid ((Tryz.prog.info? 101).map (·.size) = some (#[.int .i64 y, .int .i64 ok, .int .i64 on, .string os, .slice oa6 om oc6, .slice xa ul xc, .int .i64 uc] : Array Value).size) := qh size105
         have HOn := qh (one7 y ok on os oa6 om oc6 xa ul xc uc)
         rw [hul] at hO6
         have hmv := HIj.out.move (k := y) (c := uc) HLo.out (hP6.pure hP10) HL6.out (own_ext hO6 hP10 (fun _ _ => id))
         obtain ⟨W11, hW11⟩ : ∃ z, z = W10.setCells xb 0 [.int .i64 y, .int .i64 ok, .int .i64 on, .string os, .slice oa6 om oc6, .slice xa ul xc, .int .i64 uc] := ⟨_, rfl⟩
         have HI11 : Hid (FindI w0 w d l xb gb R0 k ks c xa xc cs6 (path ++ [n]) a4 c4 g' cs2 W11) := qh (by
          obtain ⟨e1, e2, e3, e4⟩ := HPe.out
          rw [HCs6.out] at hmv
          rw [← e1, ← e2, ← e3, hW11, HCs6.out, hul]
          exact hmv)
         have HE11 : Hid (Ext (fun b => b = xb ∨ b = gb ∨ R0 ≤ b) W4 W11) := qh (((HEw.out.pure hP6).pure hP10).trans (show Ext (fun b => b = xb) W10 W11 by rw [hW11]; exact Ext.setCells (S := fun b => b = xb) _ 0 _ (Ext.refl _ _) (fun _ => rfl)) (fun b _ e => Or.inl e))
         have HWs : Hid (W10.setCells xb 0 (#[.int .i64 y, .int .i64 ok, .int .i64 on, .string os, .slice oa6 om oc6, .slice xa ul xc, .int .i64 uc] : Array Value).toList = W11) := qh (by rw [hW11])
         have HW10 := qh hW10
         have hpl2 : path.length + 1 ≤ i + 1 := by omega
         clear hP6 hO6 hW10 hP10 hX10 hmv hW11 hul
         go_wp2_with (with_reducible refine at_store 101 (.tmp 7) (.tmp 128) ?_; rw [← HW10.out]; refine wpList_store_mid rfl 101 (.tmp 7) (.tmp 128) rfl xb 0 #[.int .i64 y, .int .i64 ok, .int .i64 on, .string os, .slice oa6 om oc6, .slice xa ul xc, .int .i64 uc] rfl rfl HTh.out HSi.out HOn.out ?_; rw [HWs.out])
         go_roundw
         case rel => exact ⟨i + 1, f, k, ks, c, p', xa, xc, cs6, path ++ [n], a4, c4, g', cs2, by omega, by rw [HPe.out.2.2.2], HPl.out, by go_num, HPc.out.1, HPc.out.2, by rw [List.length_append]; exact hpl2, HNk, HRn, qh (HGx.out g' rfl), HI11, HE11⟩
         case measure => simp [intOf]; omega
        ·have HPn : Hid (pickP l (kids.drop (j + 1)) (pj - uc) = some (k, ks, c, p')) := qh (by have h := HPy.out; rwa [if_neg hpu] at h)
         have HEn := qh ((HEj.out.pure hP6).pure (ext_alloc W6 (.cells #[.int .i64 y, .int .i64 ok, .int .i64 on, .string os, .slice oa6 om oc6, .slice xa ul xc, .int .i64 uc] 101)))
         have hpw : wrap64 (pj - uc) = pj - uc := by unfold wrap64; omega
         have hd0 : 0 ≤ pj - uc := by omega
         have hd1 : pj - uc ≤ 2048 := by omega
         clear hP6 hO6 hul
         go_wp2_with fail
         go_roundw
         case rel => exact ⟨j + 1, pj - uc, by omega, by first | rfl | go_num, by go_num, hd0, hd1, HPn, HEn⟩
         case measure => simp [intOf]; omega
       ·exact absurd HPk.out (by
        rw [List.drop_eq_nil_of_le (by rw [← HKl.out]; omega)]
        unfold pickP
        exact fun h => nomatch h)
theorem infoLf : (Tryz.prog.info? 92).map (fun i => (i.zero, i.size, i.bytes)) = some (some (.agg #[.int .i64 0, .slice none 0 0, .int .i64 0, .int .i64 0, .string ⟨#[]⟩, .slice none 0 0]), 6, 88) := by kernel_rfl
def LeafOk (w0 W : World) (d : Nat) (R : Int × List Int × V) (cs : List Value) : Prop :=
 ∃ pa pc gcs, cs = Value.int .i64 R.1 :: Value.slice pa R.2.1.length pc :: gcs ∧ RowOf W pa (intsV R.2.1) ∧ Top w0 W (d + 1) R.2.2 gcs
def LeafOff (b : Nat) (R : Int × List Int × V) (cs : List Value) : Prop :=
 (R.2.1 ≠ [] → ∀ x n c, cs[1]? = some (.slice (some x) n c) → x.block ≠ b) ∧ (R.2.2.l ≠ [] → Off b (cs.drop 2))
theorem LeafOk.len {w0 W : World} {d : Nat} {R : Int × List Int × V} {cs : List Value} (h : LeafOk w0 W d R cs) : cs.length = 6 := by
 obtain ⟨pa, pc, gcs, rfl, _, hT⟩ := h
 simp [hT.len]
theorem LeafOk.one {w0 W : World} {d : Nat} {R : Int × List Int × V} {cs : List Value} (h : LeafOk w0 W d R cs) : ∀ u ∈ cs, u.oneCell' = true := by
 obtain ⟨pa, pc, gcs, rfl, _, hT⟩ := h
 obtain ⟨ca, cc, cxs, rfl, _⟩ := hT.parts
 intro u hu
 simp only [List.mem_cons, List.not_mem_nil, or_false] at hu
 rcases hu with rfl | rfl | rfl | rfl | rfl | rfl <;> rfl
theorem LeafOk.pure {w0 W W' : World} {d : Nat} {R : Int × List Int × V} {cs : List Value} (h : LeafOk w0 W d R cs) (hP : Pure W W') : LeafOk w0 W' d R cs := by
 obtain ⟨pa, pc, gcs, h1, h2, h3⟩ := h
 exact ⟨pa, pc, gcs, h1, h2.ext hP (fun _ _ => id), h3.pure hP⟩
theorem LeafOk.ext {S : Nat → Prop} {w0 W W' : World} {d : Nat} {R : Int × List Int × V} {cs : List Value} (h : LeafOk w0 W d R cs) (hE : Ext S W W') (hS : ∀ b, S b → LeafOff b R cs) : LeafOk w0 W' d R cs := by
 obtain ⟨pa, pc, gcs, rfl, h2, h3⟩ := h
 refine ⟨pa, pc, gcs, rfl, ?_, h3.ext' hE (fun b hb hne => (hS b hb).2 hne)⟩
 by_cases he : R.2.1 = []
 ·rw [he]; exact fun i u hu => by cases hu
 ·exact h2.ext hE (fun x hx hs => (hS _ hs).1 he x _ _ (by rw [hx]; rfl) rfl)
theorem LeafOk.off_new {w0 W : World} {d : Nat} {R : Int × List Int × V} {cs : List Value} (h : LeafOk w0 W d R cs) {b : Nat} (hb : W.heap.size ≤ b) : LeafOff b R cs := by
 obtain ⟨pa, pc, gcs, rfl, h2, h3⟩ := h
 refine ⟨fun hne x n c hx e => ?_, fun hne => h3.off_new (fun he => absurd he hne) hb⟩
 cases hx
 have hpos : 0 < R.2.1.length := List.length_pos_iff.2 hne
 obtain ⟨b', o, hb', hc⟩ := h2 0 _ (intsV_get hpos)
 cases hb'
 have := World.block_lt_of_cell? W _ hc
 simp only at this e
 omega
structure LeavesI (w0 w : World) (d R0 : Nat) (Rs : List (Int × List Int × V)) (a : Option Addr) (c : Nat) (rows : List (List Value)) (W : World) : Prop where
 base : Pure w W
 len : rows.length = Rs.length
 row : W.ownsRow R0 92 6 (.slice a Rs.length c) Rs.length (rows.flatMap id)
 ok : ∀ (i : Nat) (R : Int × List Int × V) (r : List Value), Rs[i]? = some R → rows[i]? = some r → LeafOk w0 W d R r ∧ ∀ b, (Value.slice a Rs.length c).ownBlock = some b → LeafOff b R r
 rs : R0 ≤ W.heap.size
 lo : w.heap.size ≤ R0
theorem LeavesI.pure {w0 w : World} {d R0 : Nat} {Rs : List (Int × List Int × V)} {a : Option Addr} {c : Nat} {rows : List (List Value)} {W W' : World} (h : LeavesI w0 w d R0 Rs a c rows W) (hP : Pure W W') : LeavesI w0 w d R0 Rs a c rows W' :=
 ⟨h.base.pure hP, h.len, own_ext h.row hP (fun _ _ => id), fun i R r hR hr => ⟨(h.ok i R r hR hr).1.pure hP, (h.ok i R r hR hr).2⟩, Nat.le_trans h.rs hP.size, h.lo⟩
theorem LeavesI.step {w0 w : World} {d R0 : Nat} {Rs : List (Int × List Int × V)} {a a2 : Option Addr} {c c2 : Nat} {rows : List (List Value)} {W W2 : World} {R : Int × List Int × V} {cs : List Value}
 (h : LeavesI w0 w d R0 Rs a c rows W) (hL : LeafOk w0 W d R cs) (hO : ∀ b, (Value.slice a Rs.length c).ownBlock = some b → LeafOff b R cs)
 (hO2 : W2.ownsRow R0 92 6 (.slice a2 (Rs.length + 1) c2) (Rs.length + 1) (rows.flatMap id ++ cs)) (hg : W.grownBy W2 (Value.slice a Rs.length c).ownBlock) (hf : ∀ x, a2 = some x → (Value.slice a Rs.length c).ownBlock = some x.block ∨ W.heap.size ≤ x.block) :
 LeavesI w0 w d R0 (Rs ++ [R]) a2 c2 (rows ++ [cs]) W2 := by
 have hE := ext_of_grown hg
 have hall : ∀ (i : Nat) (R' : Int × List Int × V) (r : List Value), (Rs ++ [R])[i]? = some R' → (rows ++ [cs])[i]? = some r → LeafOk w0 W d R' r ∧ ∀ b, (Value.slice a Rs.length c).ownBlock = some b → LeafOff b R' r := by
  intro i R' r hR hr
  by_cases hi : i < Rs.length
  ·rw [List.getElem?_append_left hi] at hR
   rw [List.getElem?_append_left (by rw [h.len]; exact hi)] at hr
   exact h.ok i R' r hR hr
  ·have hi2 : i = Rs.length := by
    have := (List.getElem?_eq_some_iff.1 hR).1
    rw [List.length_append, List.length_singleton] at this
    omega
   subst hi2
   rw [List.getElem?_append_right (Nat.le_refl _), Nat.sub_self] at hR
   rw [List.getElem?_append_right (by rw [h.len]; exact Nat.le_refl _), h.len, Nat.sub_self] at hr
   cases hR
   cases hr
   exact ⟨hL, hO⟩
 refine ⟨h.base.trans hE (fun b hb e => by have := (h.row.lt b e).1; have := h.lo; omega), by rw [List.length_append, List.length_append, h.len]; rfl, ?_, fun i R' r hR hr => ?_, Nat.le_trans h.rs hE.size, h.lo⟩
 ·have e : (rows ++ [cs]).flatMap id = rows.flatMap id ++ cs := by rw [List.flatMap_append]; simp
  rw [e, List.length_append]
  exact hO2
 ·obtain ⟨h1, h2⟩ := hall i R' r hR hr
  refine ⟨h1.ext hE (fun b hb => h2 b hb), fun b hb => ?_⟩
  obtain ⟨x, hx, hxb⟩ : ∃ x, a2 = some x ∧ x.block = b := by
   cases a2 with
   | none => cases hb
   | some x => exact ⟨x, rfl, Option.some.inj hb⟩
  rcases hf x hx with hf | hf
  ·exact h2 b (by rw [← hxb]; exact hf)
  ·exact h1.off_new (by omega)
def LeavesTo (w0 : World) (d : Nat) (Rs : List (Int × List Int × V)) (w : World) (e : Ending) (w' : World) : Prop :=
 ∃ (a : Option Addr) (c : Nat) (rows : List (List Value)), e = .returned (.tuple #[.slice a Rs.length c, .int .i64 0, .int .i64 0]) ∧ RowOf w' a (rows.flatMap id) ∧ rows.length = Rs.length ∧ (∀ (i : Nat) (R : Int × List Int × V) (r : List Value), Rs[i]? = some R → rows[i]? = some r → LeafOk w0 w' d R r) ∧ Pure w w'
set_option maxHeartbeats 4000000 in
theorem leaves_any (d : Nat) (l : List Ob) (oa : Option Addr) (oc : Nat) (root : Int) (rows : List (List Value)) (fb db : Nat) (n0 : Int) (w0 w : World) (hP0 : Pure w0 w) (hD : DocOk w0 d l oa rows root) (hF : FileAt w fb db oa l.length oc root)
 (kids0 : List Int) (q0 : Int) (hT : TopOk l root n0 kids0 q0) (Rs : List (Int × List Int × V)) (hq : (Rs.length : Int) = q0) (hR : ∀ (p : Nat) (h : p < Rs.length), findP l 64 n0 kids0 q0 (p : Int) [] emptyV = some Rs[p]) :
 Calls Tryz.prog 129 #[.pointer (some ⟨fb, 0, none⟩)] w (LeavesTo w0 d Rs w) := by
 have HPg := qh (fun W (hP : Pure w W) => pages_any d l oa oc root rows fb db n0 w0 W (hP0.pure hP) hD (hF.ext hP id id) kids0 q0 hT)
 have HFi := qh (fun (p : Nat) (h : p < Rs.length) W (hP : Pure w W) => tfind_any d l oa oc root rows fb db n0 w0 W (hP0.pure hP) hD (hF.ext hP id id) kids0 q0 hT (p : Int) ⟨by omega, by omega⟩ Rs[p] (hR p h))
 have hq2 : Rs.length ≤ 2048 := by have := (node_typed hT.node).2.2.2; omega
 obtain ⟨n, hn⟩ : ∃ z, z = Rs.length := ⟨_, rfl⟩
 rw [← hn] at hq hq2
 have HN := qh hn
 rw [← hq] at HPg
 have HP0 := qh hP0
 unfold FindTo at HFi
 clear hP0 hD hF hT hq hR hn
 go_enter Tryz.func129, Tryz.ntmps129
 go_wp2_with fail
 refine (HPg.out w (Ext.refl _ _)).mono ?_
 rintro e W1 ⟨rfl, hP⟩
 obtain ⟨R0, hR0⟩ : ∃ z, z = W1.heap.size := ⟨_, rfl⟩
 have HI0 : Hid (LeavesI w0 w d R0 (Rs.take 0) none 0 [] W1) := qh ⟨hP, rfl, World.ownsRow_nil _ _ _ _, fun i R r h => by simp at h, Nat.le_of_eq hR0, by rw [hR0]; exact hP.size⟩
 clear hP hR0 HPg
 go_wp2_with fail
 go_loopw [8, 24] (fun o x wr => ∃ (k : Nat) (a : Option Addr) (c : Nat) (rws : List (List Value)), k ≤ n ∧ x = .int .i64 k ∧ o = .slice a k c ∧ Hid (LeavesI w0 w d R0 (Rs.take k) a c rws wr)) (fun _ x _ => n - (intOf x).toNat)
 case atStart => exact ⟨0, none, 0, [], Nat.zero_le _, rfl, rfl, HI0⟩
 case round =>
  obtain ⟨k, a, c, rws, hk, rfl, rfl, HI⟩ := hrel
  by_cases hlt : k < n
  ·have hki : (k : Int) < (n : Int) := by omega
   have hkR : k < Rs.length := by rw [← HN.out]; exact hlt
   have HF1 := qh (HFi.out k hkR)
   have HTk : Hid (Rs.take (k + 1) = Rs.take k ++ [Rs[k]]) := qh (List.take_succ_eq_append_getElem hkR)
   have HLk : Hid ((Rs.take k).length = k) := qh (by rw [List.length_take]; omega)
   obtain ⟨R, hRe⟩ : ∃ z, z = Rs[k] := ⟨_, rfl⟩
   rw [← hRe] at HF1 HTk
   obtain ⟨Rn, Rp, Rg⟩ := R
   simp only at HF1
   clear hRe hkR
   go_wp2_with fail
   refine (HF1.out wr HI.out.base).mono ?_
   rintro e W2 ⟨pa, pc, gcs, rfl, hT, hP, hO, hOff⟩
   have hLf : LeafOk w0 W2 d (Rn, Rp, Rg) (Value.int .i64 Rn :: Value.slice pa Rp.length pc :: gcs) := ⟨pa, pc, gcs, rfl, own_row hO, hT⟩
   have hLo : ∀ b, (Value.slice a (Rs.take k).length c).ownBlock = some b → LeafOff b (Rn, Rp, Rg) (Value.int .i64 Rn :: Value.slice pa Rp.length pc :: gcs) := fun b hb => by
    have hbl := (HI.out.row.lt b hb)
    refine ⟨fun hne x m q hx e => ?_, fun hne => hOff hne b hbl.2⟩
    cases hx
    have := (hO.lt x.block rfl).1
    omega
   have HI2 := qh (HI.out.pure hP)
   obtain ⟨ca, cc, cxs, hcc, _⟩ := hT.parts
   have HCc := qh hcc
   have HLf := qh hLf
   have HLo := qh hLo
   rw [hcc] at HLf HLo ⊢
   clear hT hP hO hOff hLf hLo hcc HF1
   obtain ⟨pl, hpl⟩ : ∃ z, z = Rp.length := ⟨_, rfl⟩
   rw [← hpl] at HLf HLo ⊢
   clear hpl
   generalize Rg.l.length = gl at *
   generalize Rg.kind = gk at *
   generalize Rg.n = gn at *
   generalize Rg.s = gs at *
   obtain ⟨cs, hcs⟩ : ∃ z, z = [Value.int .i64 Rn, .slice pa pl pc, .int .i64 gk, .int .i64 gn, .string gs, .slice ca gl cc] := ⟨_, rfl⟩
   obtain ⟨W3, hW3⟩ : ∃ z, z = W2.alloc (.cells #[.int .i64 Rn, .slice pa pl pc, .int .i64 gk, .int .i64 gn, .string gs, .slice ca gl cc] 92) := ⟨_, rfl⟩
   obtain ⟨W4, hW4⟩ : ∃ z, z = W3.alloc (.cells #[.int .i64 Rn, .slice pa pl pc, .int .i64 gk, .int .i64 gn, .string gs, .slice ca gl cc] 92) := ⟨_, rfl⟩
   have hP24 : Pure W2 W4 := by rw [hW4, hW3]; exact (ext_alloc W2 _).pure (ext_alloc _ _)
   have HI4 := qh (HI2.out.pure hP24)
   have HLf4 := qh (HLf.out.pure hP24)
   have HRw : Hid (RowOf W4 (some ⟨W2.heap.size + 1, 0, none⟩) [.int .i64 Rn, .slice pa pl pc, .int .i64 gk, .int .i64 gn, .string gs, .slice ca gl cc]) := qh (fun i u hu => ⟨W2.heap.size + 1, 0, rfl, by rw [show W2.heap.size + 1 = W3.heap.size by rw [hW3, World.size_alloc], hW4, (BlockIs.new W3 [.int .i64 Rn, .slice pa pl pc, .int .i64 gk, .int .i64 gn, .string gs, .slice ca gl cc] 92).cell, Nat.zero_add]; exact hu⟩)
   have HO4 : Hid (W4.ownsRow R0 92 6 (.slice a k c) k (rws.flatMap id)) := qh (by have h := HI4.out.row; rw [HLk.out] at h; exact h)
   have HOne := qh HLf4.out.one
   have HB1 : Hid ((k + 1) * 88 ≤ 140737488355328) := qh (by omega)
   have HB2 : Hid (k + 1 ≤ maxLen) := qh (by unfold maxLen; omega)
   have HRs := qh HI4.out.rs
   have HW3 := qh hW3
   have HW4 := qh hW4
   clear hW3 hW4 hP24 hcs HI2 HI
   go_wp2_with (at_builtin; rw [← HW3.out, ← HW4.out]; refine wpList_append_fresh rfl (.tmp 38) (.tmp 40) 197 rfl R0 92 (.agg #[.int .i64 0, .slice none 0 0, .int .i64 0, .int .i64 0, .string ⟨#[]⟩, .slice none 0 0]) 6 88 Tryz.underlying197 infoLf rfl (by decide) (.slice a k c) k (rws.flatMap id) rfl HO4.out (some ⟨W2.heap.size + 1, 0, none⟩) 1 1 [.int .i64 Rn, .slice pa pl pc, .int .i64 gk, .int .i64 gn, .string gs, .slice ca gl cc] rfl (fun e => by cases e) rfl HRw.out HOne.out (k + 1) rfl (rws.flatMap id ++ [.int .i64 Rn, .slice pa pl pc, .int .i64 gk, .int .i64 gn, .string gs, .slice ca gl cc]) rfl HB1.out HB2.out HRs.out ?_; intro a6 c6 W6 hO6 hg6 hf6)
   have HNew : Hid (LeavesI w0 w d R0 (Rs.take (k + 1)) a6 c6 (rws ++ [[.int .i64 Rn, .slice pa pl pc, .int .i64 gk, .int .i64 gn, .string gs, .slice ca gl cc]]) W6) := qh (by
    rw [HTk.out]
    refine HI4.out.step HLf4.out HLo.out ?_ ?_ ?_
    ·rw [HLk.out]; exact hO6
    ·rw [HLk.out]; exact hg6
    ·rw [HLk.out]; exact hf6)
   clear hO6 hg6 hf6
   go_wp2_with fail
   go_roundw
   case rel => exact ⟨k + 1, a6, c6, _, by omega, by go_num, rfl, HNew⟩
   case measure => simp [intOf]; omega
  ·have hki : ¬ (k : Int) < (n : Int) := by omega
   obtain rfl : k = n := by omega
   have HIf : Hid (LeavesI w0 w d R0 Rs a c rws wr) := qh (by have h := HI.out; rwa [List.take_of_length_le (by rw [← HN.out]; exact Nat.le_refl _)] at h)
   go_wp2_with fail
   go_ret3
   exact ⟨a, c, rws, by rw [← HN.out]; rfl, own_row HIf.out.row, HIf.out.len, fun i R r hR hr => (HIf.out.ok i R r hR hr).1, HIf.out.base⟩
