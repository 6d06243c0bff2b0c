import Derived.Test.YtipmbcalnnomjaaGreatTurnPlTu
import Derived.Test.YtipmbcalnnomjaaGreatLawOTu
import Derived.Test.YtipmbcalnnomjaaGreatDocOkTu
import Derived.OwnWalk
import Derived.Deep.OwnRows
import Derived.Test.YtipmbcalnnomjaaGreatSqTu
set_option linter.unusedVariables false
set_option linter.unusedSimpArgs false
set_option maxRecDepth 100000
namespace Go.Proofs.YtipmbcalnnomjaaGreat
open Go.RowKit Go.Maps
theorem infoO : (Tryz.prog.info? 61).map (fun i => (i.zero, i.size, i.bytes)) = some (some (.agg #[.int .i64 0, .int .i64 0, .string ⟨#[]⟩, .slice none 0 0, .bool false, .string ⟨#[]⟩]), 6, 80) := by kernel_rfl
theorem sizeDo : (Tryz.prog.info? 24).map (·.size) = some 2 := by kernel_rfl
theorem one_do (a : Option Addr) (m c : Nat) (r : Int) : ((#[Value.slice a m c, .int .i64 r] : Array Value).all fun u => u.oneCell') = true := all_oneCell_toArray (by intro u hu; simp only [List.mem_cons, List.not_mem_nil, or_false] at hu; rcases hu with rfl | rfl <;> rfl)
theorem one_obj {a b c d : Value} {st : Bool} {dt : ByteArray} (h : ((#[a, b, c, d] : Array Value).all fun u => u.oneCell') = true) : ((#[a, b, c, d, .bool st, .string dt] : Array Value).all fun u => u.oneCell') = true := by
 refine all_oneCell_toArray (cs := [a, b, c, d, .bool st, .string dt]) fun u hu => ?_
 have h2 := Array.all_eq_true_iff_forall_mem.1 h
 simp only [List.mem_cons, List.not_mem_nil, or_false] at hu
 rcases hu with rfl | rfl | rfl | rfl | rfl | rfl
 ·exact h2 _ (by simp)
 ·exact h2 _ (by simp)
 ·exact h2 _ (by simp)
 ·exact h2 _ (by simp)
 ·rfl
 ·rfl
def FillTo (A : Nat → Prop) (g d : Nat) (L : List Ob) (W : World) (e : Ending) (W' : World) : Prop :=
 e = .returned (.tuple #[]) ∧ (∃ rws, BlockIs W' g (rws.flatMap id) 61 ∧ ObsIn A W' (d + 1) L rws) ∧ Ext (fun b => b = g) W W'
set_option maxHeartbeats 4000000 in
theorem turn1_any (d : Nat) (l : List Ob) (oa : Option Addr) (oc : Nat) (root : Int) (rows : List (List Value)) (w0 W : World) (hP0 : Pure w0 W) (hOK : OKids w0 (d + 1) l oa rows) (hol : l.length ≤ 1000000) (hsz : ∀ o ∈ l, o.v.size ≤ 100000)
 {tu : List Int} {ta : Option Addr} {tc : Nat} (hto : RowOf w0 ta (intsV tu)) (htl : tu.length ≤ 1000000)
 {fc fb db rb ob g N p : Nat} {rt : Int} {acc : List Ob} {rws : List (List Value)}
 (hFc : W.cell? ⟨fc, 0, none⟩ = some (.pointer (some ⟨fb, 0, none⟩))) (hF : FileAt W fb db oa l.length oc root) (hR : W.cell? ⟨rb, 0, none⟩ = some (.slice ta tu.length tc))
 (hO : W.cell? ⟨ob, 0, none⟩ = some (.slice (some ⟨g, 0, none⟩) N N)) (hG : BlockIs W g (rws.flatMap id) 61) {A : Nat → Prop} (hA0 : ∀ b, b < w0.heap.size → A b) (hA1 : ∀ b, W.heap.size ≤ b → A b) (hAg : ¬ A g) (hX : ObsIn A W (d + 1) acc rws)
 (hp : p < N) (hN : N = acc.length) (hN2 : N ≤ 10000000) (hg0 : w0.heap.size ≤ g) (hd1 : rb ≠ g) (hd2 : ob ≠ g) (n : Int) :
 Calls Tryz.prog 23 #[.int .i64 n, .int .i64 ((p : Int) + 1), .pointer (some ⟨fc, 0, none⟩), .pointer (some ⟨rb, 0, none⟩), .pointer (some ⟨ob, 0, none⟩)] W (FillTo A g d (acc.set p (turnOb tu (obAt l n))) W) := by
 have HGet := qh (fget_any d l oa oc root rows fb db n w0 W hP0 hOK hol hF)
 obtain ⟨u, hu⟩ : ∃ u, u = obAt l n := ⟨_, rfl⟩
 rw [← hu] at HGet ⊢
 have hus : u.v.size ≤ 100000 := by
  rw [hu]
  rcases obAt_cases l n with h | h
  ·exact hsz _ h
  ·rw [h, show noOb.v.size = 1 by unfold noOb nullV; rw [V.size, sizeL]]; decide
 have HMap := qh (fun cs w (hL : Lies w0 (d + 1) u.v cs) (hP : Pure w0 w) => map_any w0 tu ta tc hto htl (d + 1) u.v cs w hL hP hus)
 obtain ⟨st, hst⟩ : ∃ z, z = u.st := ⟨_, rfl⟩
 obtain ⟨dt, hdt⟩ : ∃ z, z = u.data := ⟨_, rfl⟩
 obtain ⟨tl, htl2⟩ : ∃ z, z = tu.length := ⟨_, rfl⟩
 rw [← htl2] at hR HMap
 have HA := qh (And.intro hA0 (And.intro hA1 hAg))
 have HGl : Hid (g < W.heap.size ∧ rb < W.heap.size ∧ ob < W.heap.size) := qh ⟨hG.lt, World.block_lt_of_cell? W _ hR, World.block_lt_of_cell? W _ hO⟩
 have HP0 := qh hP0
 have HG := qh hG
 have HX := qh hX
 have HG0 := qh hg0
 have HU := qh (show turnOb tu u = ⟨u.v.turn tu, st, dt⟩ by rw [hst, hdt]; rfl)
 have HSD := qh (show u.st = st ∧ u.data = dt from ⟨hst.symm, hdt.symm⟩)
 have HPN : Hid (p < rws.length) := qh (by rw [hX.len, ← hN]; exact hp)
 have HR := qh hR
 have HO := qh hO
 have HD := qh (And.intro hd1 hd2)
 have hpp : (p : Int) < (N : Int) := by omega
 have hp0 : (0 : Int) ≤ (p : Int) := by omega
 have hp1 : (p : Int) + 1 - 1 = (p : Int) := by omega
 clear hA0 hA1 hAg hP0 hOK hol hsz hto htl hF hG hX hN hg0 hd1 hd2 hu hus hst hdt htl2 hR hO hp
 go_enter Tryz.func23, Tryz.ntmps23
 go_wp2_with fail
 refine HGet.out.mono ?_
 rintro e W1 ⟨cs, rfl, hL, hP1⟩
 rw [HSD.out.1, HSD.out.2]
 obtain ⟨k, q, s, a, m, c, hcs⟩ := hL.form
 subst hcs
 obtain ⟨W2, hW2⟩ : ∃ z, z = W1.alloc (.cells #[.int .i64 0, .int .i64 0, .string ⟨#[]⟩, .slice none 0 0, .bool false, .string ⟨#[]⟩] 61) := ⟨_, rfl⟩
 obtain ⟨bk, hbk⟩ : ∃ z, z = W1.heap.size := ⟨_, rfl⟩
 have hB2 : BlockIs W2 bk [.int .i64 0, .int .i64 0, .string ⟨#[]⟩, .slice none 0 0, .bool false, .string ⟨#[]⟩] 61 := by rw [hW2, hbk]; exact BlockIs.new W1 _ _
 have hP2 : Pure W W2 := hP1.pure (hW2 ▸ ext_alloc W1 _)
 obtain ⟨W3, hW3⟩ : ∃ z, z = W2.setCells bk 0 [.int .i64 k, .int .i64 q, .string s, .slice a m c, .bool st, .string dt] := ⟨_, rfl⟩
 have hbW : W.heap.size ≤ bk := by rw [hbk]; exact hP1.size
 have hP3 : Pure W W3 := by rw [hW3]; exact Ext.setCells _ 0 W2 hP2 (b := bk) (fun h => by omega)
 have hB3 : BlockIs W3 bk [.int .i64 k, .int .i64 q, .string s, .slice a m c, .bool st, .string dt] 61 := by rw [hW3]; exact hB2.setAll _ rfl
 have HOv : Hid (((#[.int .i64 k, .int .i64 q, .string s, .slice a m c] : Array Value).all fun u => u.oneCell') = true) := qh hL.one
 have HTh : Hid ((W1.alloc (.cells #[.int .i64 0, .int .i64 0, .string ⟨#[]⟩, .slice none 0 0, .bool false, .string ⟨#[]⟩] 61)).there W1.heap.size 0 (#[.int .i64 k, .int .i64 q, .string s, .slice a m c, .bool st, .string dt] : Array Value).size) := qh (by rw [← hW2, ← hbk]; exact hB2.there 6 rfl)
 have HSi : Hid ((Tryz.prog.info? 61).map (·.size) = some (#[.int .i64 k, .int .i64 q, .string s, .slice a m c, .bool st, .string dt] : Array Value).size) := qh size43
 have HOn : Hid (((#[.int .i64 k, .int .i64 q, .string s, .slice a m c, .bool st, .string dt] : Array Value).all fun u => u.oneCell') = true) := qh (one_obj HOv.out)
 have HW3 : Hid ((W1.alloc (.cells #[.int .i64 0, .int .i64 0, .string ⟨#[]⟩, .slice none 0 0, .bool false, .string ⟨#[]⟩] 61)).setCells W1.heap.size 0 (#[.int .i64 k, .int .i64 q, .string s, .slice a m c, .bool st, .string dt] : Array Value).toList = W3) := qh (by rw [hW3, hW2, hbk])
 have HBk := qh hbk
 have HbW := qh hbW
 have HP3 := qh hP3
 have HB3 := qh hB3
 have HM := qh (HMap.out _ W3 hL (HP0.out.pure hP3))
 have x0 : W3.cell? ⟨bk, 0, none⟩ = some (.int .i64 k) := hB3.cell 0
 have x1 : W3.cell? ⟨bk, 1, none⟩ = some (.int .i64 q) := hB3.cell 1
 have x2 : W3.cell? ⟨bk, 2, none⟩ = some (.string s) := hB3.cell 2
 have x3 : W3.cell? ⟨bk, 3, none⟩ = some (.slice a m c) := hB3.cell 3
 have xr : W3.cell? ⟨rb, 0, none⟩ = some (.slice ta tl tc) := hP3.cell_some HR.out id
 clear hL hW2 hbk hB2 hP2 hW3 hbW hP3 hB3 hP1 hFc HGet HMap
 go_wp2_with (with_reducible refine at_store 61 (.tmp 7) (.tmp 14) ?_; refine wpList_store_mid rfl 61 (.tmp 7) (.tmp 14) rfl W1.heap.size 0 #[.int .i64 k, .int .i64 q, .string s, .slice a m c, .bool st, .string dt] rfl rfl HTh.out HSi.out HOn.out ?_; rw [HW3.out, ← HBk.out])
 refine HM.out.mono ?_
 rintro e W4 ⟨cs4, rfl, hL4, hP4⟩
 obtain ⟨k4, n4, s4, a4, m4, c4, hcs4⟩ := hL4.lies.form
 subst hcs4
 have hB4 := HB3.out.ext hP4 id
 have HTh4 : Hid (W4.there bk 0 (#[.int .i64 k4, .int .i64 n4, .string s4, .slice a4 m4 c4] : Array Value).size) := qh (fun j hj => hB4.there 6 rfl j (by have : j < 4 := hj; omega))
 have HSi4 : Hid ((Tryz.prog.info? 48).map (·.size) = some (#[.int .i64 k4, .int .i64 n4, .string s4, .slice a4 m4 c4] : Array Value).size) := qh size24
 have HOn4 : Hid (((#[.int .i64 k4, .int .i64 n4, .string s4, .slice a4 m4 c4] : Array Value).all fun u => u.oneCell') = true) := qh hL4.lies.one
 obtain ⟨W5, hW5⟩ : ∃ z, z = W4.setCells bk 0 [.int .i64 k4, .int .i64 n4, .string s4, .slice a4 m4 c4] := ⟨_, rfl⟩
 have HW5 : Hid (W4.setCells bk 0 (#[.int .i64 k4, .int .i64 n4, .string s4, .slice a4 m4 c4] : Array Value).toList = W5) := qh (by rw [hW5])
 have hB5 : BlockIs W5 bk [.int .i64 k4, .int .i64 n4, .string s4, .slice a4 m4 c4, .bool st, .string dt] 61 := by rw [hW5]; exact BlockIs.setMid (post := [.bool st, .string dt]) [.int .i64 k4, .int .i64 n4, .string s4, .slice a4 m4 c4] [] [.int .i64 k, .int .i64 q, .string s, .slice a m c] W4 hB4 rfl
 have hX5 : Ext (fun b => b = bk) W4 W5 := by rw [hW5]; exact Ext.setCells (S := fun b => b = bk) _ 0 _ (Ext.refl _ _) (fun _ => rfl)
 have hP5 : Pure W W5 := (HP3.out.pure hP4).trans hX5 (fun b hb e => by have := HbW.out; omega)
 have hgl := HGl.out
 have hbw := HbW.out
 have hg0 := HG0.out
 have hs3 := HP3.out.size
 have hL5 : LiesIn A W5 (d + 1) (u.v.turn tu) [.int .i64 k4, .int .i64 n4, .string s4, .slice a4 m4 c4] := (hL4.ext hX5 (fun b hb e => by have := HB3.out.lt; have := HP0.out.size; omega)).mono (fun b _ hb => hb.elim (HA.out.1 b) (fun h => HA.out.2.1 b (by omega)))
 have hG5 := HG.out.ext hP5 id
 have y0 : W5.cell? ⟨bk, 0, none⟩ = some (.int .i64 k4) := hB5.cell 0
 have y1 : W5.cell? ⟨bk, 1, none⟩ = some (.int .i64 n4) := hB5.cell 1
 have y2 : W5.cell? ⟨bk, 2, none⟩ = some (.string s4) := hB5.cell 2
 have y3 : W5.cell? ⟨bk, 3, none⟩ = some (.slice a4 m4 c4) := hB5.cell 3
 have y4 : W5.cell? ⟨bk, 4, none⟩ = some (.bool st) := hB5.cell 4
 have y5 : W5.cell? ⟨bk, 5, none⟩ = some (.string dt) := hB5.cell 5
 have xo : W5.cell? ⟨ob, 0, none⟩ = some (.slice (some ⟨g, 0, none⟩) N N) := hP5.cell_some HO.out id
 have HTh6 : Hid (W5.there g (p * 6) (#[.int .i64 k4, .int .i64 n4, .string s4, .slice a4 m4 c4, .bool st, .string dt] : Array Value).size) := qh (objs_there hG5 HX.out.six HPN.out)
 have HSi6 : Hid ((Tryz.prog.info? 61).map (·.size) = some (#[.int .i64 k4, .int .i64 n4, .string s4, .slice a4 m4 c4, .bool st, .string dt] : Array Value).size) := qh size43
 have HOn6 : Hid (((#[.int .i64 k4, .int .i64 n4, .string s4, .slice a4 m4 c4, .bool st, .string dt] : Array Value).all fun u => u.oneCell') = true) := qh (one_obj HOn4.out)
 obtain ⟨W6, hW6⟩ : ∃ z, z = W5.setCells g (p * 6) [.int .i64 k4, .int .i64 n4, .string s4, .slice a4 m4 c4, .bool st, .string dt] := ⟨_, rfl⟩
 have HW6 : Hid (W5.setCells g (p * 6) (#[.int .i64 k4, .int .i64 n4, .string s4, .slice a4 m4 c4, .bool st, .string dt] : Array Value).toList = W6) := qh (by rw [hW6])
 have hX6 : Ext (fun b => b = g) W5 W6 := by rw [hW6]; exact Ext.setCells (S := fun b => b = g) _ _ _ (Ext.refl _ _) (fun _ => rfl)
 have HG6 : Hid (BlockIs W6 g ((rws.set p [.int .i64 k4, .int .i64 n4, .string s4, .slice a4 m4 c4, .bool st, .string dt]).flatMap id) 61) := qh (by rw [hW6]; exact objs_store hG5 HX.out.six HPN.out rfl)
 have HX6 : Hid (ObsIn A W6 (d + 1) (acc.set p (turnOb tu u)) (rws.set p [.int .i64 k4, .int .i64 n4, .string s4, .slice a4 m4 c4, .bool st, .string dt])) := qh (by
  rw [HU.out]
  exact ((HX.out.ext hP5 (fun _ _ => id)).set p (o := ⟨u.v.turn tu, st, dt⟩) hL5).ext hX6 (fun b hb e => HA.out.2.2 (e ▸ hb)))
 have HE6 : Hid (Ext (fun b => b = g) W W6) := qh ((hP5.mono (fun _ _ e => e.elim)).trans hX6 (fun _ _ e => e))
 clear hL4 hP4 hB4 hW5 hB5 hX5 hP5 hgl hbw hg0 hs3 hL5 hG5 hW6 hX6 x0 x1 x2 x3 xr HM
 go_wp2_with (first
  | (with_reducible refine at_store 48 (.tmp 22) (.tmp 21) ?_; refine wpList_store_mid rfl 48 (.tmp 22) (.tmp 21) rfl bk 0 #[.int .i64 k4, .int .i64 n4, .string s4, .slice a4 m4 c4] rfl rfl HTh4.out HSi4.out HOn4.out ?_; rw [HW5.out])
  | (with_reducible refine at_store 61 (.tmp 28) (.tmp 27) ?_; refine wpList_store_mid rfl 61 (.tmp 28) (.tmp 27) rfl g (p * 6) #[.int .i64 k4, .int .i64 n4, .string s4, .slice a4 m4 c4, .bool st, .string dt] rfl rfl HTh6.out HSi6.out HOn6.out ?_; rw [HW6.out]))
 go_end0
 exact ⟨rfl, ⟨_, HG6.out, HX6.out⟩, HE6.out⟩
def TurnTo (L : List Ob) (d : Nat) (rt : Int) (w : World) (e : Ending) (w' : World) : Prop :=
 ∃ (g N : Nat) (rws : List (List Value)), e = .returned (.agg #[.slice (some ⟨g, 0, none⟩) N N, .int .i64 rt]) ∧ N = L.length ∧ w.heap.size ≤ g ∧ BlockIs w' g (rws.flatMap id) 61 ∧ ObsIn (fun b => b ≠ g) w' (d + 1) L rws ∧ Pure w w'
theorem turn1_goes : ∀ args w, (callFunc 23 args).run Tryz.prog w = .ok (.enter 23 args) w := by intro args w; rfl
theorem seqP_take {main head first : List Int} {k : Nat} {q : Int × Nat} (hq : (seqP main head first)[k]? = some q) : (seqP main head first).take (k + 1) = (seqP main head first).take k ++ [q] := by
 rw [List.take_add_one, hq, Option.toList_some]
theorem seqP_top {main head first : List Int} {q : Int × Nat} (hq : q ∈ seqP main head first) : 0 < q.2 ∧ q.2 ≤ main.length + head.length + first.length + 2 := by
 refine ⟨seqP_pos main head first q hq, ?_⟩
 unfold seqP at hq
 rcases List.mem_append.1 hq with hq | hq
 ·rcases List.mem_append.1 hq with hq | hq
  ·have := List.snd_lt_add_of_mem_zipIdx hq
   omega
  ·have := List.snd_lt_add_of_mem_zipIdx hq
   omega
 ·have := List.snd_lt_add_of_mem_zipIdx hq
  omega
theorem each3_any (d : Nat) (l : List Ob) (oa : Option Addr) (oc : Nat) (root : Int) (rows : List (List Value)) (w0 W : World) (hP0 : Pure w0 W) (hOK : OKids w0 (d + 1) l oa rows) (hol : l.length ≤ 1000000) (hsz : ∀ o ∈ l, o.v.size ≤ 100000)
 {o : OrderP} {a0 a1 a2 a3 : Option Addr} {n0 n1 n2 n3 c0 c1 c2 c3 : Nat} {x y : Int} (H : OAt o (.slice a0 n0 c0) (.slice a1 n1 c1) (.slice a2 n2 c2) (.slice a3 n3 c3) w0)
 (hz : o.nums.length ≤ 1000000 ∧ o.main.length ≤ 1000000 ∧ o.head.length ≤ 1000000 ∧ o.first.length ≤ 1000000)
 {fc fb db rb ob g N : Nat} {rt : Int} {T1 T2 : TypeId} {cs : List Value}
 (hFc : BlockIs W fc [.pointer (some ⟨fb, 0, none⟩)] T1) (hF : FileAt W fb db oa l.length oc root) (hR : BlockIs W rb (.slice a0 n0 c0 :: cs) T2)
 (hO : BlockIs W ob [.slice (some ⟨g, 0, none⟩) N N, .int .i64 rt] 24) (hG : BlockIs W g ((List.replicate N zeroRow).flatMap id) 61)
 {A : Nat → Prop} (hA0 : ∀ b, b < w0.heap.size → A b) (hA1 : ∀ b, W.heap.size ≤ b → A b) (hAg : ¬ A g)
 (hN : N = o.main.length + o.head.length + o.first.length + 2) (hg0 : w0.heap.size ≤ g) (hd : fc ≠ g ∧ fb ≠ g ∧ db ≠ g ∧ rb ≠ g ∧ ob ≠ g) :
 Calls Tryz.prog 22 #[.agg #[.slice a0 n0 c0, .slice a1 n1 c1, .slice a2 n2 c2, .slice a3 n3 c3, .int .i64 x, .int .i64 y], .func (.func 23) #[] #[.pointer (some ⟨fc, 0, none⟩), .pointer (some ⟨rb, 0, none⟩), .pointer (some ⟨ob, 0, none⟩)]] W
  (FillTo A g d (turnedP (fun n => turnOb o.nums (obAt l n)) o.main o.head o.first) W) := by
 obtain ⟨⟨rfl, q0⟩, ⟨rfl, q1⟩, ⟨rfl, q2⟩, ⟨rfl, q3⟩⟩ := H.opened
 obtain ⟨hd1, hd2, hd3, hd4, hd5⟩ := hd
 have hgW := hG.lt
 have hPx : ∀ W', Ext (fun b => b = g) W W' → Pure w0 W' := fun W' hE => hP0.trans hE (fun i hi e => by omega)
 let T : Int → Ob := fun n => turnOb o.nums (obAt l n)
 let I : Nat → World → Prop := fun k W' => BlockIs W' fc [.pointer (some ⟨fb, 0, none⟩)] T1 ∧ FileAt W' fb db oa l.length oc root ∧ BlockIs W' rb (.slice a0 o.nums.length c0 :: cs) T2 ∧ BlockIs W' ob [.slice (some ⟨g, 0, none⟩) N N, .int .i64 rt] 24 ∧
  ∃ rws, BlockIs W' g (rws.flatMap id) 61 ∧ ObsIn A W' (d + 1) (putsP T (List.replicate N noOb) ((seqP o.main o.head o.first).take k)) rws
 refine (each_any 23 #[.pointer (some ⟨fc, 0, none⟩), .pointer (some ⟨rb, 0, none⟩), .pointer (some ⟨ob, 0, none⟩)] (fun b => b = g) I o.main o.head o.first a0 a1 a2 a3 o.nums.length c0 c1 c2 c3 x y W turn1_goes (fun W' hE => ⟨(q1.pure (hPx W' hE)).1, (q2.pure (hPx W' hE)).1, (q3.pure (hPx W' hE)).1⟩) (fun b hb => by subst hb; exact hgW)
  ⟨hFc, hF, hR, hO, _, hG, by rw [List.take_zero]; exact ObsIn.zero _ _ d N⟩
  (fun k W1 W2 h hP => ⟨h.1.ext hP id, h.2.1.ext hP id id, h.2.2.1.ext hP id, h.2.2.2.1.ext hP id, by obtain ⟨rws, h1, h2⟩ := h.2.2.2.2; exact ⟨rws, h1.ext hP id, h2.ext hP (fun _ _ => id)⟩⟩) (fun k q W1 hq hE hI => ?_) hz.2).mono (fun e W' h => ⟨h.1, ?_, h.2.2⟩)
 ·obtain ⟨h1, h2, h3, h4, rws, h5, h6⟩ := hI
  have ht := seqP_top (List.mem_of_getElem? hq)
  have hl : (putsP T (List.replicate N noOb) ((seqP o.main o.head o.first).take k)).length = N := by rw [putsP_len, List.length_replicate]
  have := turn1_any d l oa oc root rows w0 W1 (hPx W1 hE) hOK hol hsz (tu := o.nums) (ta := a0) (tc := c0) q0.1 hz.1 (fc := fc) (rb := rb) (ob := ob) (g := g) (N := N) (p := q.2 - 1) (rt := rt) (acc := putsP T (List.replicate N noOb) ((seqP o.main o.head o.first).take k)) (rws := rws) (h1.cell 0) h2 (h3.cell 0) (h4.cell 0) h5 hA0 (fun b hb => hA1 b (by have := hE.size; omega)) hAg h6 (by omega) hl.symm (by omega) hg0 hd4 hd5 q.1
  rw [show ((q.2 - 1 : Nat) : Int) + 1 = (q.2 : Int) by omega] at this
  refine this.mono (fun e W' h => ⟨h.1, ⟨h1.ext h.2.2 hd1, h2.ext h.2.2 hd2 hd3, h3.ext h.2.2 hd4, h4.ext h.2.2 hd5, ?_⟩, h.2.2⟩)
  obtain ⟨rws', h7, h8⟩ := h.2.1
  refine ⟨rws', h7, ?_⟩
  rw [seqP_take hq, putsP_snoc]
  exact h8
 ·obtain ⟨rws, h7, h8⟩ := h.2.1.2.2.2.2
  refine ⟨rws, h7, ?_⟩
  rw [List.take_of_length_le (by rw [seqP_len]; omega), hN, puts_seq] at h8
  exact h8
set_option maxHeartbeats 4000000 in
theorem turn_any (d : Nat) (l : List Ob) (oa : Option Addr) (oc : Nat) (root : Int) (rows : List (List Value)) (w : World) (hOK : OKids w (d + 1) l oa rows) (hol : l.length ≤ 1000000) (hsz : ∀ o ∈ l, o.v.size ≤ 100000)
 {o : OrderP} {a0 a1 a2 a3 : Option Addr} {n0 n1 n2 n3 c0 c1 c2 c3 : Nat} {x y : Int} (H : OAt o (.slice a0 n0 c0) (.slice a1 n1 c1) (.slice a2 n2 c2) (.slice a3 n3 c3) w)
 (hz : o.nums.length ≤ 1000000 ∧ o.main.length ≤ 1000000 ∧ o.head.length ≤ 1000000 ∧ o.first.length ≤ 1000000) :
 Calls Tryz.prog 8 #[.agg #[.slice oa l.length oc, .int .i64 root], .agg #[.slice a0 n0 c0, .slice a1 n1 c1, .slice a2 n2 c2, .slice a3 n3 c3, .int .i64 x, .int .i64 y]] w
  (TurnTo (turnedP (fun n => turnOb o.nums (obAt l n)) o.main o.head o.first) d ((o.main.length + 2 : Nat) : Int) w) := by
 obtain ⟨⟨e0, q0⟩, ⟨e1, q1⟩, ⟨e2, q2⟩, ⟨e3, q3⟩⟩ := H.opened
 obtain ⟨n, hn⟩ : ∃ z, z = o.main.length + o.head.length + o.first.length + 2 := ⟨_, rfl⟩
 obtain ⟨r2, hr2⟩ : ∃ z, z = o.main.length + 2 := ⟨_, rfl⟩
 obtain ⟨m12, hm12⟩ : ∃ z, z = n1 + n2 := ⟨_, rfl⟩
 obtain ⟨m123, hm123⟩ : ∃ z, z = n1 + n2 + n3 := ⟨_, rfl⟩
 have hN : n ≤ 3000002 := by omega
 have s12 : IntKind.i64.wrap ((n1 : Int) + (n2 : Int)) = (m12 : Int) := by rw [IntKind.wrap_i64]; omega
 have s123 : IntKind.i64.wrap ((m12 : Int) + (n3 : Int)) = (m123 : Int) := by rw [IntKind.wrap_i64]; omega
 have sN : IntKind.i64.wrap ((m123 : Int) + 2) = (n : Int) := by rw [IntKind.wrap_i64]; omega
 have sr : IntKind.i64.wrap ((n1 : Int) + 2) = (r2 : Int) := by rw [IntKind.wrap_i64]; omega
 have HNn := qh hn
 have HZ := qh hz
 have HAt := qh H
 have HOK := qh hOK
 have HOl := qh hol
 have HSz := qh hsz
 obtain ⟨ln, hln⟩ : ∃ z, z = l.length := ⟨_, rfl⟩
 have HLn := qh hln
 rw [← hr2, ← hln]
 obtain ⟨w1, hw1⟩ : ∃ z, z = ((w.alloc (.cells #[.slice oa ln oc, .int .i64 root] 24)).alloc (.cells #[.slice a0 n0 c0, .slice a1 n1 c1, .slice a2 n2 c2, .slice a3 n3 c3, .int .i64 x, .int .i64 y] 34)).alloc (.cells #[.slice none 0 0, .int .i64 0] 24) := ⟨_, rfl⟩
 have HP1 : Hid (Pure w w1) := qh (by rw [hw1]; exact ((ext_alloc w _).pure (ext_alloc _ _)).pure (ext_alloc _ _))
 have HB0 : Hid (BlockIs w1 w.heap.size [.slice oa ln oc, .int .i64 root] 24) := qh (by rw [hw1]; exact ((BlockIs.new w _ _).alloc _).alloc _)
 have HB1 : Hid (BlockIs w1 (w.heap.size + 1) [.slice a0 n0 c0, .slice a1 n1 c1, .slice a2 n2 c2, .slice a3 n3 c3, .int .i64 x, .int .i64 y] 34) := qh (by
  have := BlockIs.new (w.alloc (.cells #[.slice oa ln oc, .int .i64 root] 24)) [.slice a0 n0 c0, .slice a1 n1 c1, .slice a2 n2 c2, .slice a3 n3 c3, .int .i64 x, .int .i64 y] 34
  rw [World.size_alloc] at this
  rw [hw1]; exact this.alloc _)
 have HB2 : Hid (BlockIs w1 (w.heap.size + 2) [.slice none 0 0, .int .i64 0] 24) := qh (by
  have := BlockIs.new ((w.alloc (.cells #[.slice oa ln oc, .int .i64 root] 24)).alloc (.cells #[.slice a0 n0 c0, .slice a1 n1 c1, .slice a2 n2 c2, .slice a3 n3 c3, .int .i64 x, .int .i64 y] 34)) [.slice none 0 0, .int .i64 0] 24
  rw [World.size_alloc, World.size_alloc] at this
  rw [hw1]; exact this)
 have HW1 := qh hw1.symm
 obtain ⟨tb, htb⟩ : ∃ z, z = w.heap.size := ⟨_, rfl⟩
 rw [← htb] at HB0 HB1 HB2
 have HTb := qh htb.symm
 have x0 : w1.cell? ⟨tb, 0, none⟩ = some (.slice oa ln oc) := HB0.out.cell 0
 have x1 : w1.cell? ⟨tb, 0 + 1, none⟩ = some (.int .i64 root) := HB0.out.cell 1
 clear hOK hol hsz H hz e0 q0 e1 q1 e2 q2 e3 q3 hn hr2 hm12 hm123 hln hw1 htb HB0
 go_enter Tryz.func8, Tryz.ntmps8
 go_upto_region 1 with (fail)
 rw [HW1.out, HTb.out]
 go_wp2_with fail
 refine (of_any oa ln oc root w1).mono ?_
 rintro e w2 ⟨fb, db, rfl, hl1, hl2, hF, hP2⟩
 obtain ⟨fc, hfc⟩ : ∃ z, z = w2.heap.size := ⟨_, rfl⟩
 obtain ⟨W6, hW6⟩ : ∃ z, z = w2.alloc (.cells #[.pointer (some ⟨fb, 0, none⟩)] 53) := ⟨_, rfl⟩
 have hF6 : BlockIs W6 fc [.pointer (some ⟨fb, 0, none⟩)] 53 := by rw [hW6, hfc]; exact BlockIs.new _ _ _
 have hPa : Pure w2 W6 := hW6 ▸ ext_alloc w2 _
 have HP6 := qh ((HP1.out.pure hP2).pure hPa)
 have HFA := qh (hF.ext hPa id id)
 have HF6 := qh hF6
 have hP16 := hP2.pure hPa
 have HR6 := qh (HB1.out.ext hP16 id)
 have HZ6 := qh (HB2.out.ext hP16 id)
 have HW6 : Hid (w2.alloc (.cells #[.pointer (some ⟨fb, 0, none⟩)] 53) = W6) := qh hW6.symm
 have HFc := qh hfc
 have HL6 : Hid (db < W6.heap.size ∧ fb < W6.heap.size ∧ fc < W6.heap.size ∧ tb + 2 < W6.heap.size ∧ w.heap.size ≤ W6.heap.size) := qh ⟨HFA.out.d.lt, HFA.out.f.lt, hF6.lt, HZ6.out.lt, HP6.out.size⟩
 clear hl1 hl2 hF hP2 hfc hW6 hF6 hPa hP16 x0 x1
 go_upto_region 2 with (fail)
 rw [HW6.out, ← HFc.out]
 obtain ⟨oi, hoi, hoz, hosize, hoby⟩ := info_parts infoO
 have HOI := qh hoi
 have HOZ := qh hoz
 have HOS := qh hosize
 have HOB : Hid (oi.bytes * n ≤ 281474976710656) := qh (by rw [hoby]; omega)
 have HOM : Hid (n ≤ maxLen) := qh (by unfold maxLen; omega)
 clear hoi hoz hosize hoby
 go_cut [6] (fun x W => ∃ sb ob : Nat, x = .pointer (some ⟨ob, 0, none⟩) ∧ Hid (BlockIs W sb ((List.replicate n zeroRow).flatMap id) 61) ∧ Hid (BlockIs W ob [.slice (some ⟨sb, 0, none⟩) n n, .int .i64 (r2 : Int)] 24) ∧ Hid (sb ≠ ob ∧ W6.heap.size ≤ sb ∧ W6.heap.size ≤ ob) ∧ Hid (Pure W6 W))
 case first =>
  have hBd := HR6.out.drew
  have h6d : W6.drew.heap.size = W6.heap.size := rfl
  have hX0 : Ext (fun b => W6.heap.size ≤ b) W6 W6.drew := (Ext.refl _ W6).drew
  refine region_start (fun b => W6.heap.size ≤ b) (by kernel_rfl) ?_
  try simp only [Act.put, sA, sZ, sS]
  refine region_take 0 9 (v := ?vtu0) rfl rfl (by kernel_rfl) (by kernel_rfl) (by kernel_rfl) (fun _ _ _ h => h) (by rfl) (fun w' hS => ?htu0) ?rtu0
  case htu0 => go_simp; with_reducible rfl
  try simp only [Act.put, sA, sZ, sS]
  refine region_take 1 10 (v := ?vtu1) rfl rfl (by kernel_rfl) (by kernel_rfl) (by kernel_rfl) (fun _ _ _ h => h) (by rfl) (fun w' hS => ?htu1) ?rtu1
  case htu1 => (have e : w'.cell? ⟨tb + 1, 1, none⟩ = some (.slice a1 n1 c1) := (hBd.ext hS (by have := hBd.lt; omega)).cell 1; go_simp; with_reducible rfl)
  try simp only [Act.put, sA, sZ, sS]
  refine region_take 2 11 (v := ?vtu2) rfl rfl (by kernel_rfl) (by kernel_rfl) (by kernel_rfl) (fun _ _ _ h => h) (by rfl) (fun w' hS => ?htu2) ?rtu2
  case htu2 => go_simp; with_reducible rfl
  try simp only [Act.put, sA, sZ, sS]
  refine region_take 3 12 (v := ?vtu3) rfl rfl (by kernel_rfl) (by kernel_rfl) (by kernel_rfl) (fun _ _ _ h => h) (by rfl) (fun w' hS => ?htu3) ?rtu3
  case htu3 => go_simp; with_reducible rfl
  try simp only [Act.put, sA, sZ, sS]
  refine region_take 4 13 (v := ?vtu4) rfl rfl (by kernel_rfl) (by kernel_rfl) (by kernel_rfl) (fun _ _ _ h => h) (by rfl) (fun w' hS => ?htu4) ?rtu4
  case htu4 => (have e : w'.cell? ⟨tb + 1, 2, none⟩ = some (.slice a2 n2 c2) := (hBd.ext hS (by have := hBd.lt; omega)).cell 2; go_simp; with_reducible rfl)
  try simp only [Act.put, sA, sZ, sS]
  refine region_take 5 14 (v := ?vtu5) rfl rfl (by kernel_rfl) (by kernel_rfl) (by kernel_rfl) (fun _ _ _ h => h) (by rfl) (fun w' hS => ?htu5) ?rtu5
  case htu5 => go_simp; with_reducible rfl
  try simp only [Act.put, sA, sZ, sS]
  refine region_take 6 15 (v := ?vtu6) rfl rfl (by kernel_rfl) (by kernel_rfl) (by kernel_rfl) (fun _ _ _ h => h) (by rfl) (fun w' hS => ?htu6) ?rtu6
  case htu6 => go_simp; with_reducible rfl
  try simp only [Act.put, sA, sZ, sS]
  refine region_take 7 16 (v := ?vtu7) rfl rfl (by kernel_rfl) (by kernel_rfl) (by kernel_rfl) (fun _ _ _ h => h) (by rfl) (fun w' hS => ?htu7) ?rtu7
  case htu7 => go_simp; with_reducible rfl
  try simp only [Act.put, sA, sZ, sS]
  refine region_take 8 17 (v := ?vtu8) rfl rfl (by kernel_rfl) (by kernel_rfl) (by kernel_rfl) (fun _ _ _ h => h) (by rfl) (fun w' hS => ?htu8) ?rtu8
  case htu8 => (have e : w'.cell? ⟨tb + 1, 3, none⟩ = some (.slice a3 n3 c3) := (hBd.ext hS (by have := hBd.lt; omega)).cell 3; go_simp; with_reducible rfl)
  try simp only [Act.put, sA, sZ, sS]
  refine region_take 9 18 (v := ?vtu9) rfl rfl (by kernel_rfl) (by kernel_rfl) (by kernel_rfl) (fun _ _ _ h => h) (by rfl) (fun w' hS => ?htu9) ?rtu9
  case htu9 => go_simp; with_reducible rfl
  try simp only [Act.put, sA, sZ, sS]
  refine region_take 10 19 (v := ?vtu10) rfl rfl (by kernel_rfl) (by kernel_rfl) (by kernel_rfl) (fun _ _ _ h => h) (by rfl) (fun w' hS => ?htu10) ?rtu10
  case htu10 => go_simp; with_reducible rfl
  try simp only [Act.put, sA, sZ, sS]
  refine region_take 11 20 (v := ?vtu11) rfl rfl (by kernel_rfl) (by kernel_rfl) (by kernel_rfl) (fun _ _ _ h => h) (by rfl) (fun w' hS => ?htu11) ?rtu11
  case htu11 => go_simp; with_reducible rfl
  try simp only [Act.put, sA, sZ, sS]
  refine region_take 13 22 (v := ?vtu13) rfl rfl (by kernel_rfl) (by kernel_rfl) (by kernel_rfl) (fun _ _ _ h => h) (by rfl) (fun w' hS => ?htu13) ?rtu13
  case htu13 => go_simp; with_reducible rfl
  try simp only [Act.put, sA, sZ, sS]
  refine region_take 14 23 (v := ?vtu14) rfl rfl (by kernel_rfl) (by kernel_rfl) (by kernel_rfl) (fun _ _ _ h => h) (by rfl) (fun w' hS => ?htu14) ?rtu14
  case htu14 => (have e : w'.cell? ⟨tb + 1, 1, none⟩ = some (.slice a1 n1 c1) := (hBd.ext hS (by have := hBd.lt; omega)).cell 1; go_simp; with_reducible rfl)
  try simp only [Act.put, sA, sZ, sS]
  refine region_take 15 24 (v := ?vtu15) rfl rfl (by kernel_rfl) (by kernel_rfl) (by kernel_rfl) (fun _ _ _ h => h) (by rfl) (fun w' hS => ?htu15) ?rtu15
  case htu15 => go_simp; with_reducible rfl
  try simp only [Act.put, sA, sZ, sS]
  refine region_take 16 25 (v := ?vtu16) rfl rfl (by kernel_rfl) (by kernel_rfl) (by kernel_rfl) (fun _ _ _ h => h) (by rfl) (fun w' hS => ?htu16) ?rtu16
  case htu16 => go_simp; with_reducible rfl
  try simp only [Act.put, sA, sZ, sS]
  refine wpAnyH_ready (rs := [12, 18]) (by kernel_rfl) (by simp) (AllReadyH.cons rfl (fun K hK => ?_) (AllReadyH.cons rfl (fun K hK => ?_) (AllReadyH.nil)))
  refine step_of_list ?_
  refine wpList_make_full _ rfl (.tmp 20) (.tmp 20) 22 rfl 0 61 oi (.agg #[.int .i64 0, .int .i64 0, .string ⟨#[]⟩, .slice none 0 0, .bool false, .string ⟨#[]⟩]) 6 Tryz.underlying22 HOI.out HOZ.out HOS.out .i64 .i64 (n : Int) (n : Int) n rfl rfl rfl rfl HOB.out HOM.out (Nat.zero_le _) ?_
  intro W7 hO7 hg7
  have hX7 : Ext (fun b => W6.heap.size ≤ b) W6.drew W7 := (ext_of_grown hg7).mono (fun _ _ e => nomatch e)
  have hP7 : Pure W6 W7 := ((Ext.refl _ W6).drew).pure ((ext_of_grown hg7).mono (fun _ _ e => nomatch e))
  have hBs7 := own_block hO7
  rw [made_zero] at hBs7
  obtain ⟨sb, hsb⟩ : ∃ z, z = W6.heap.size := ⟨_, rfl⟩
  have hBs7 := (show BlockIs W7 sb _ _ by rw [hsb]; exact hBs7)
  rw [show W6.drew.heap.size = sb from hsb.symm]
  have hsl : W6.heap.size ≤ sb := by omega
  clear hsb
  refine hK.out _ _ (hX7) (fun hHeld => ?_)
  clear hK K hHeld
  refine region_now (hX7) ?_
  try simp only [Act.put, sA, sZ, sS]
  refine region_take 17 26 (v := ?vtuq017) rfl rfl (by kernel_rfl) (by kernel_rfl) (by kernel_rfl) (fun _ _ _ h => h) (by rfl) (fun w' hS => ?htuq017) ?rtuq017
  case htuq017 => go_simp; with_reducible rfl
  try simp only [Act.put, sA, sZ, sS]
  refine wpAnyH_ready (rs := [18]) (by kernel_rfl) (by simp) (AllReadyH.cons rfl (fun K hK => ?_) AllReadyH.nil)
  go_simp
  obtain ⟨W8, hW8⟩ : ∃ z, z = W7.alloc (.cells #[.slice none 0 0, .int .i64 0] 24) := ⟨_, rfl⟩
  have HW8 : Hid (W7.alloc (.cells #[.slice none 0 0, .int .i64 0] 24) = W8) := qh hW8.symm
  obtain ⟨ob, hob⟩ : ∃ z, z = W7.heap.size := ⟨_, rfl⟩
  have hBo8 : BlockIs W8 ob [.slice none 0 0, .int .i64 0] 24 := by rw [hW8, hob]; exact BlockIs.new W7 [.slice none 0 0, .int .i64 0] 24
  have hP8 : Pure W6 W8 := by rw [hW8]; exact hP7.pure (ext_alloc W7 _)
  have hX8 : Ext (fun b => W6.heap.size ≤ b) W7 W8 := by rw [hW8]; exact (ext_alloc W7 _).mono (fun _ _ e => e.elim)
  have hBs8 : BlockIs W8 sb ((List.replicate n zeroRow).flatMap id) 61 := by rw [hW8]; exact hBs7.alloc _
  have hne : sb ≠ ob := by have := hBs7.lt; omega
  have hol : W6.heap.size ≤ ob := by have := hP7.size; omega
  rw [HW8.out, ← hob]
  clear hW8 hob
  refine hK.out _ _ (hX8) (fun hHeld => ?_)
  clear hK K hHeld
  refine region_now (hX8) ?_
  try simp only [Act.put, sA, sZ, sS]
  refine wpAnyH_ready (rs := [19]) (by kernel_rfl) (by simp) (AllReadyH.cons rfl (fun K hK => ?_) AllReadyH.nil)
  have hTh : W8.there ob 0 (#[Value.slice (some ⟨sb, 0, none⟩) n n, .int .i64 (r2 : Int)] : Array Value).size := hBo8.there 2 rfl
  have hSi : (Tryz.prog.info? 24).map (·.size) = some (#[Value.slice (some ⟨sb, 0, none⟩) n n, .int .i64 (r2 : Int)] : Array Value).size := sizeDo
  have hOn := one_do (some ⟨sb, 0, none⟩) n n (r2 : Int)
  obtain ⟨W9, hW9⟩ : ∃ z, z = W8.setCells ob 0 [.slice (some ⟨sb, 0, none⟩) n n, .int .i64 (r2 : Int)] := ⟨_, rfl⟩
  have HW9 : Hid (W8.setCells ob 0 (#[.slice (some ⟨sb, 0, none⟩) n n, .int .i64 (r2 : Int)] : Array Value).toList = W9) := qh (by rw [hW9])
  have hX9 : Ext (fun b => W6.heap.size ≤ b) W8 W9 := by rw [hW9]; exact Ext.setCells (S := fun b => W6.heap.size ≤ b) _ 0 _ (Ext.refl _ _) (b := ob) (fun _ => hol)
  have HBo9 : Hid (BlockIs W9 ob [.slice (some ⟨sb, 0, none⟩) n n, .int .i64 (r2 : Int)] 24) := qh (by rw [hW9]; exact hBo8.setAll _ rfl)
  have HBs9 : Hid (BlockIs W9 sb ((List.replicate n zeroRow).flatMap id) 61) := qh (by rw [hW9]; exact hBs8.ext (Ext.setCells (S := fun b => b = ob) _ 0 _ (Ext.refl _ _) (b := ob) (fun _ => rfl)) hne)
  have HP9 : Hid (Pure W6 W9) := qh (by rw [hW9]; exact Ext.setCells _ 0 _ hP8 (b := ob) (fun h => by omega))
  have HNe : Hid (sb ≠ ob ∧ W6.heap.size ≤ sb ∧ W6.heap.size ≤ ob) := qh ⟨hne, hsl, hol⟩
  clear hW9
  refine step_of_list ?_
  refine wpList_store_mid rfl 24 (.tmp 6) (.tmp 26) rfl ob 0 #[.slice (some ⟨sb, 0, none⟩) n n, .int .i64 (r2 : Int)] rfl rfl hTh hSi hOn ?_
  rw [HW9.out]
  refine hK.out _ _ (hX9) (fun hHeld => ?_)
  clear hK K hHeld
  refine region_now (hX9) ?_
  try simp only [Act.put, sA, sZ, sS]
  refine wpAnyH_done (by kernel_rfl) ?_ _
  rotate_left
  go_simp
  obtain ⟨W7, hW7⟩ : ∃ z, z = (W6.alloc (.cells #[.slice none 0 0, .int .i64 0] 24)).drew := ⟨_, rfl⟩
  have HW7 : Hid ((W6.alloc (.cells #[.slice none 0 0, .int .i64 0] 24)).drew = W7) := qh hW7.symm
  obtain ⟨ob, hob⟩ : ∃ z, z = W6.heap.size := ⟨_, rfl⟩
  have hBo7 : BlockIs W7 ob [.slice none 0 0, .int .i64 0] 24 := by rw [hW7, hob]; exact (BlockIs.new W6 [.slice none 0 0, .int .i64 0] 24).drew
  have hP7 : Pure W6 W7 := by rw [hW7]; exact (ext_alloc W6 _).drew
  have hX7 : Ext (fun b => W6.heap.size ≤ b) W6.drew W7 := ⟨hP7.os, hP7.tape, hP7.output, hP7.size, fun i hi _ => hP7.block i hi id⟩
  have hol : W6.heap.size ≤ ob := by omega
  rw [HW7.out, ← hob]
  clear hW7 hob
  refine hK.out _ _ (hX7) (fun hHeld => ?_)
  clear hK K hHeld
  refine region_now (hX7) ?_
  try simp only [Act.put, sA, sZ, sS]
  refine wpAnyH_ready (rs := [12]) (by kernel_rfl) (by simp) (AllReadyH.cons rfl (fun K hK => ?_) AllReadyH.nil)
  refine step_of_list ?_
  refine wpList_make_full _ rfl (.tmp 20) (.tmp 20) 22 rfl 0 61 oi (.agg #[.int .i64 0, .int .i64 0, .string ⟨#[]⟩, .slice none 0 0, .bool false, .string ⟨#[]⟩]) 6 Tryz.underlying22 HOI.out HOZ.out HOS.out .i64 .i64 (n : Int) (n : Int) n rfl rfl rfl rfl HOB.out HOM.out (Nat.zero_le _) ?_
  intro W8 hO8 hg8
  have hX8 : Ext (fun b => W6.heap.size ≤ b) W7 W8 := (ext_of_grown hg8).mono (fun _ _ e => nomatch e)
  have hP8 : Pure W6 W8 := hP7.pure ((ext_of_grown hg8).mono (fun _ _ e => nomatch e))
  have hBs8 := own_block hO8
  rw [made_zero] at hBs8
  obtain ⟨sb, hsb⟩ : ∃ z, z = W7.heap.size := ⟨_, rfl⟩
  rw [← hsb] at hBs8 ⊢
  have hBo8 := hBo7.ext (ext_of_grown hg8) (fun e => nomatch e)
  have hne : sb ≠ ob := by have := hBo7.lt; omega
  have hsl : W6.heap.size ≤ sb := by have := hP7.size; omega
  clear hsb
  refine hK.out _ _ (hX8) (fun hHeld => ?_)
  clear hK K hHeld
  refine region_now (hX8) ?_
  try simp only [Act.put, sA, sZ, sS]
  refine region_take 17 26 (v := ?vtuq117) rfl rfl (by kernel_rfl) (by kernel_rfl) (by kernel_rfl) (fun _ _ _ h => h) (by rfl) (fun w' hS => ?htuq117) ?rtuq117
  case htuq117 => go_simp; with_reducible rfl
  try simp only [Act.put, sA, sZ, sS]
  refine wpAnyH_ready (rs := [19]) (by kernel_rfl) (by simp) (AllReadyH.cons rfl (fun K hK => ?_) AllReadyH.nil)
  have hTh : W8.there ob 0 (#[Value.slice (some ⟨sb, 0, none⟩) n n, .int .i64 (r2 : Int)] : Array Value).size := hBo8.there 2 rfl
  have hSi : (Tryz.prog.info? 24).map (·.size) = some (#[Value.slice (some ⟨sb, 0, none⟩) n n, .int .i64 (r2 : Int)] : Array Value).size := sizeDo
  have hOn := one_do (some ⟨sb, 0, none⟩) n n (r2 : Int)
  obtain ⟨W9, hW9⟩ : ∃ z, z = W8.setCells ob 0 [.slice (some ⟨sb, 0, none⟩) n n, .int .i64 (r2 : Int)] := ⟨_, rfl⟩
  have HW9 : Hid (W8.setCells ob 0 (#[.slice (some ⟨sb, 0, none⟩) n n, .int .i64 (r2 : Int)] : Array Value).toList = W9) := qh (by rw [hW9])
  have hX9 : Ext (fun b => W6.heap.size ≤ b) W8 W9 := by rw [hW9]; exact Ext.setCells (S := fun b => W6.heap.size ≤ b) _ 0 _ (Ext.refl _ _) (b := ob) (fun _ => hol)
  have HBo9 : Hid (BlockIs W9 ob [.slice (some ⟨sb, 0, none⟩) n n, .int .i64 (r2 : Int)] 24) := qh (by rw [hW9]; exact hBo8.setAll _ rfl)
  have HBs9 : Hid (BlockIs W9 sb ((List.replicate n zeroRow).flatMap id) 61) := qh (by rw [hW9]; exact hBs8.ext (Ext.setCells (S := fun b => b = ob) _ 0 _ (Ext.refl _ _) (b := ob) (fun _ => rfl)) hne)
  have HP9 : Hid (Pure W6 W9) := qh (by rw [hW9]; exact Ext.setCells _ 0 _ hP8 (b := ob) (fun h => by omega))
  have HNe : Hid (sb ≠ ob ∧ W6.heap.size ≤ sb ∧ W6.heap.size ≤ ob) := qh ⟨hne, hsl, hol⟩
  clear hW9
  refine step_of_list ?_
  refine wpList_store_mid rfl 24 (.tmp 6) (.tmp 26) rfl ob 0 #[.slice (some ⟨sb, 0, none⟩) n n, .int .i64 (r2 : Int)] rfl rfl hTh hSi hOn ?_
  rw [HW9.out]
  refine hK.out _ _ (hX9) (fun hHeld => ?_)
  clear hK K hHeld
  refine region_now (hX9) ?_
  try simp only [Act.put, sA, sZ, sS]
  refine wpAnyH_done (by kernel_rfl) ?_ _
  rotate_left
  all_goals
   go_simp
   try simp only [Act.put, sA, sZ, sS]
   go_wp2_with fail
   go_meet
   exact ⟨_, _, rfl, HBs9, HBo9, HNe, HP9⟩
 case rest =>
  obtain ⟨g, ob, rfl, HBs, HBo, HNe, HP⟩ := hcut
  obtain ⟨W9, rfl⟩ : ∃ z : World, z = wc := ⟨_, rfl⟩
  clear HOI HOZ HOS HOB HOM s12 s123 sN sr
  have HR9 := qh (HR6.out.ext HP.out id)
  have HZ9 := qh (HZ6.out.ext HP.out id)
  have hd : fc ≠ g ∧ fb ≠ g ∧ db ≠ g ∧ tb + 1 ≠ g ∧ ob ≠ g := by
   have h1 := HNe.out
   have h2 := HL6.out
   refine ⟨?_, ?_, ?_, ?_, ?_⟩ <;> omega
  have HE := qh (by
   have := each3_any d l oa oc root rows w W9 (HP6.out.pure HP.out) HOK.out HOl.out HSz.out HAt.out HZ.out (HF6.out.ext HP.out id) (by rw [← HLn.out]; exact HFA.out.ext HP.out id id) HR9.out HBo.out HBs.out (A := fun b => b ≠ g ∧ b ≠ tb + 2) (fun b hb => by have h1 := HNe.out; have h2 := HL6.out; have := HTb.out; omega) (fun b hb => by have h1 := HBs.out.lt; have h2 := HZ9.out.lt; omega) (fun e => e.1 rfl) HNn.out (by have h1 := HNe.out; have h2 := HL6.out; omega) hd (x := x) (y := y)
   exact this)
  go_wp2_with (with_reducible refine at_load 34 (.tmp 3) ?_; refine wpList_load_o rfl (.tmp 3) rfl (tb + 1) 0 rfl _ HR9.out.range rfl ?_)
  refine HE.out.mono ?_
  rintro e W ⟨rfl, ⟨rws, hG, hX⟩, hE⟩
  have HBz := qh (HBo.out.ext hE hd.2.2.2.2)
  have HZz := qh (HZ9.out.ext hE (fun e => by have h1 := HNe.out; have h2 := HL6.out; omega))
  have hPw : Pure w W := (HP6.out.pure HP.out).trans hE (fun i hi e => by have h1 := HNe.out; have h2 := HL6.out; omega)
  have z0 : W.cell? ⟨ob, 0, none⟩ = some (.slice (some ⟨g, 0, none⟩) n n) := HBz.out.cell 0
  have z1 : W.cell? ⟨ob, 0 + 1, none⟩ = some (.int .i64 (r2 : Int)) := HBz.out.cell 1
  have HTh : Hid (W.there (tb + 2) 0 (#[Value.slice (some ⟨g, 0, none⟩) n n, .int .i64 (r2 : Int)] : Array Value).size) := qh (HZz.out.there 2 rfl)
  have HSi : Hid ((Tryz.prog.info? 24).map (·.size) = some (#[Value.slice (some ⟨g, 0, none⟩) n n, .int .i64 (r2 : Int)] : Array Value).size) := qh sizeDo
  have HOn := qh (one_do (some ⟨g, 0, none⟩) n n (r2 : Int))
  have HPw := qh hPw
  have HGg := qh hG
  have HXx := qh hX
  have HDd := qh hd
  clear hPw hG hX hE hd HE
  go_wp2_with (with_reducible refine at_store 24 (.tmp 4) (.tmp 30) ?_; refine wpList_store_mid rfl 24 (.tmp 4) (.tmp 30) rfl (tb + 2) 0 #[.slice (some ⟨g, 0, none⟩) n n, .int .i64 (r2 : Int)] rfl rfl HTh.out HSi.out HOn.out ?_)
  have hB := HZz.out.setAll [.slice (some ⟨g, 0, none⟩) n n, .int .i64 (r2 : Int)] rfl
  have hXs : Ext (fun b => b = tb + 2) W (W.setCells (tb + 2) 0 [.slice (some ⟨g, 0, none⟩) n n, .int .i64 (r2 : Int)]) := Ext.setCells (S := fun b => b = tb + 2) _ 0 _ (Ext.refl _ _) (fun _ => rfl)
  have hgt : g ≠ tb + 2 := by have h1 := HNe.out; have h2 := HL6.out; omega
  refine bodyPost_ret (results_row1 rfl _ _ (tb + 2) _ [.slice (some ⟨g, 0, none⟩) n n, .int .i64 (r2 : Int)] _ rfl hB Tryz.underlying24 rfl sizeDo) rfl ?_
  refine ⟨g, n, rws, rfl, by rw [turnedP_len, HNn.out], by have h1 := HNe.out; have h2 := HL6.out; omega, HGg.out.ext hXs hgt, ?_, HPw.out.trans hXs (fun i hi e => by have := HTb.out; omega)⟩
  exact (HXx.out.ext hXs (fun b hb e => hb.2 e)).mono (fun b hb => hb.1)
