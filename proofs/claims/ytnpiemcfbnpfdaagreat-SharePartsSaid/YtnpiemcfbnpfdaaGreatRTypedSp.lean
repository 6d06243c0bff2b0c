import Derived.Test.YtnpiemcfbnpfdaaGreatObjsESp
import Derived.Test.YtnpiemcfbnpfdaaGreatNodeSp
import Derived.Test.YtnpiemcfbnpfdaaGreatSqSp
set_option linter.unusedVariables false
set_option linter.unusedSimpArgs false
set_option maxRecDepth 100000
namespace Go.Proofs.YtnpiemcfbnpfdaaGreat
open Go.RowKit
theorem get_none (v : V) (key : ByteArray) (h : (v.get key).2 = false) : (v.get key).1 = nullV := by
 unfold V.get at h ⊢;cases e : v.find key with
 | none => rfl
 | some i => rw [e] at h; cases h
set_option maxHeartbeats 1000000 in
theorem refchild_any (d : Nat) (v : V) (cs : List Value) (n : Int) (w : World) (h : Lies w (d + 1) v cs) (hl : v.l.length ≤ 1000000) :
 Calls Tryz.prog 89 #[.agg cs.toArray, .int .i64 n] w (BoolTo (parentB v n) w) := by
 have HG := qh (fun W (hP : Pure w W) => refget_any d v cs "Parent".toUTF8 W (h.pure hP) hl);rw [← k_parent] at HG;obtain ⟨a, c, rows, hcs, _⟩ := h.kids;have HK : Hid (parentB v n = if n = 0 then !(v.get ⟨#[80, 97, 114, 101, 110, 116]⟩).2 else decide ((v.get ⟨#[80, 97, 114, 101, 110, 116]⟩).1.kind = 8) && decide ((v.get ⟨#[80, 97, 114, 101, 110, 116]⟩).1.n = n)) := qh (by rw [k_parent]; rfl)
 obtain ⟨F, hF⟩ : ∃ z, z = parentB v n := ⟨_, rfl⟩;rw [← hF] at HK ⊢;obtain ⟨G, hG⟩ : ∃ z, z = v.get ⟨#[80, 97, 114, 101, 110, 116]⟩ := ⟨_, rfl⟩;rw [← hG] at HK HG;rw [hcs] at HG ⊢;clear hcs h hl hF hG;generalize v.l.length = m at *;generalize v.kind = vk at *;generalize v.n = vn at *;generalize v.s = vs at *
 go_enter Tryz.func89, Tryz.ntmps89
 go_wp2_with fail
 refine (HG.out _ (ext_alloc w _)).mono ?_;rintro e w2 ⟨cs, rfl, hL, hP⟩;obtain ⟨a', c', rows', rfl, _⟩ := hL.kids;have HP := qh ((ext_alloc w _).pure hP);obtain ⟨⟨k, x, s, l⟩, is⟩ := G;simp only [V.kind, V.n, V.s, V.l] at *;generalize l.length = ln at *;clear hL hP HG
 by_cases hn : n = 0
 ·subst hn
  have HF : Hid (F = !is) := qh (by rw [HK.out, if_pos rfl])
  go_wp2_with fail
  go_ret;exact ⟨by rw [HF.out]; rfl, HP.out.pure (ext_alloc _ _)⟩
 ·have HF : Hid (F = (decide (k = 8) && decide (x = n))) := qh (by rw [HK.out, if_neg hn]; rfl)
  by_cases hk : k = 8
  ·subst hk
   by_cases hx : x = n
   ·subst hx
    go_wp2_with fail
    go_ret;exact ⟨by rw [HF.out]; simp, HP.out.pure (ext_alloc _ _)⟩
   ·go_wp2_with fail
    go_ret;exact ⟨by rw [HF.out]; simp [hx], HP.out.pure (ext_alloc _ _)⟩
  ·go_wp2_with fail
   go_ret;exact ⟨by rw [HF.out]; simp [hk], HP.out.pure (ext_alloc _ _)⟩
set_option maxHeartbeats 1000000 in
theorem reftyped_any (d : Nat) (o : Ob) (cs : List Value) (t : ByteArray) (w : World) (h : Lies w (d + 1) o.v cs) (hl : o.v.l.length ≤ 1000000) :
 Calls Tryz.prog 53 #[.agg (cs ++ [Value.bool o.st, Value.string o.data]).toArray, .string t] w (BoolTo (typedO o t) w) := by
 have HG := qh (fun W (hP : Pure w W) => refget_any d o.v cs "Type".toUTF8 W (h.pure hP) hl);rw [← k_type] at HG;obtain ⟨a, c, rows, hcs, _⟩ := h.kids;have HK : Hid (typedO o t = (!o.st && decide ((o.v.get ⟨#[84, 121, 112, 101]⟩).1.kind = 5) && decide ((o.v.get ⟨#[84, 121, 112, 101]⟩).1.s = t))) := qh (by rw [k_type]; rfl);have HIs : Hid ((o.v.get ⟨#[84, 121, 112, 101]⟩).2 = false → (o.v.get ⟨#[84, 121, 112, 101]⟩).1 = nullV) := qh (get_none o.v _);obtain ⟨F, hF⟩ : ∃ z, z = typedO o t := ⟨_, rfl⟩;rw [← hF] at HK ⊢;obtain ⟨G, hG⟩ : ∃ z, z = o.v.get ⟨#[84, 121, 112, 101]⟩ := ⟨_, rfl⟩;rw [← hG] at HK HG HIs;rw [hcs] at HG ⊢;clear hcs h hl hF hG;generalize o.v.l.length = m at *;generalize o.v.kind = vk at *;generalize o.v.n = vn at *;generalize o.v.s = vs at *;generalize o.st = st at *;generalize o.data = dt at *;simp only [List.cons_append, List.nil_append] at HG ⊢
 go_enter Tryz.func53, Tryz.ntmps53
 go_wp2_with fail
 refine (HG.out _ (ext_alloc w _)).mono ?_;rintro e w2 ⟨cs, rfl, hL, hP⟩;obtain ⟨a', c', rows', rfl, _⟩ := hL.kids;have HP := qh ((ext_alloc w _).pure hP);have hB := BlockIs.new w [.int .i64 vk, .int .i64 vn, .string vs, .slice a m c, .bool st, .string dt] 50;have hB := hB.ext hP id;have hlt : w.heap.size < w2.heap.size := hB.lt;have c4 : w2.cell? ⟨w.heap.size, 4, none⟩ = some (.bool st) := hB.cell 4;have HIs2 := qh (fun h : G.2 = false => show F = false by rw [HK.out, HIs.out h]; simp [nullV, V.kind]);clear HIs;obtain ⟨⟨k, x, s, l⟩, is⟩ := G;simp only [V.kind, V.n, V.s, V.l] at *;generalize l.length = ln at *;clear hL hP HG hB;cases is with
 | false =>
   have HF : Hid (F = false) := qh (HIs2.out rfl)
   go_wp2_with fail
   go_ret;exact ⟨by rw [HF.out]; rfl, HP.out.pure (ext_alloc _ _)⟩
 | true =>
 cases st with
 | true =>
   have HF : Hid (F = false) := qh (by rw [HK.out]; rfl)
   go_wp2_with fail
   go_ret;exact ⟨by rw [HF.out]; rfl, HP.out.pure (ext_alloc _ _)⟩
 | false =>
   by_cases hk : k = 5
   ·subst hk
    by_cases hx : s = t
    ·subst hx
     have HF : Hid (F = true) := qh (by rw [HK.out]; simp)
     go_wp2_with fail
     go_ret;exact ⟨by rw [HF.out]; simp, HP.out.pure (ext_alloc _ _)⟩
    ·have hx2 : ¬ s.toList = t.toList := fun e => hx (bytes_inj e)
     have HF : Hid (F = false) := qh (by rw [HK.out]; simp [hx])
     go_wp2_with fail
     go_ret;exact ⟨by rw [HF.out]; simp [hx2], HP.out.pure (ext_alloc _ _)⟩
   ·have HF : Hid (F = false) := qh (by rw [HK.out]; simp [hk])
    go_wp2_with fail
    go_ret;exact ⟨by rw [HF.out]; simp [hk], HP.out.pure (ext_alloc _ _)⟩
def RNodTo (o : Ob) (w : World) (e : Ending) (w' : World) : Prop :=
 ∃ a m cap c, e = .returned (.tuple #[.int .i64 c, .slice a m cap, .bool (nodeO o).isSome]) ∧ Pure w w' ∧
   ∀ kids q, nodeO o = some (kids, q) → m = kids.length ∧ c = q ∧ w'.ownsRow w.heap.size 3 1 (.slice a m cap) m (intsV kids)
set_option maxHeartbeats 4000000 in
theorem refnode_any (d : Nat) (o : Ob) (cs : List Value) (w0 w : World) (hP0 : Pure w0 w) (h : Lies w0 (d + 1) o.v cs) (hsz : o.v.size ≤ 100000) :
 Calls Tryz.prog 78 #[.agg (cs ++ [Value.bool o.st, Value.string o.data]).toArray] w (RNodTo o w) := by
 have hl : o.v.l.length ≤ 1000000 := by have := V.len_size o.v; omega
 have HT := qh (fun W (hP : Pure w W) => reftyped_any d o cs "Pages".toUTF8 W (h.pure (hP0.pure hP)) hl);have HG := qh (fun W (hP : Pure w W) => refgetw_any d o.v cs "Kids".toUTF8 w0 W (hP0.pure hP) h hl);have HC := qh (fun W (hP : Pure w W) => refgetw_any d o.v cs "Count".toUTF8 w0 W (hP0.pure hP) h hl);obtain ⟨F, hF⟩ : ∃ z, z = nodeO o := ⟨_, rfl⟩;unfold RNodTo;rw [← hF];unfold nodeO at hF;obtain ⟨G, hG⟩ : ∃ z, z = o.v.get "Kids".toUTF8 := ⟨_, rfl⟩;obtain ⟨C, hC⟩ : ∃ z, z = o.v.get "Count".toUTF8 := ⟨_, rfl⟩;obtain ⟨T, hT⟩ : ∃ z, z = typedO o "Pages".toUTF8 := ⟨_, rfl⟩;have HSz := qh (show G.1.size ≤ 100000 by rw [hG]; exact get_size hsz (by decide) _);rw [← hG, ← hC, ← hT] at hF;rw [← hT] at HT;rw [← hG] at HG;rw [← hC] at HC;rw [← k_kids] at HG;rw [← k_count] at HC;rw [← k_pages] at HT;have HK := qh hF;obtain ⟨a, c, rows, hcs, _⟩ := h.kids;rw [hcs] at HG HT HC ⊢;have HP0 := qh hP0;clear hcs h hl hF hG hT hC hsz hP0;generalize o.v.l.length = m at *;generalize o.v.kind = vk at *;generalize o.v.n = vn at *;generalize o.v.s = vs at *;generalize o.st = st at *;generalize o.data = dt at *;simp only [List.cons_append, List.nil_append] at HG HT HC ⊢
 go_enter Tryz.func78, Tryz.ntmps78
 go_wp2_with fail
 obtain ⟨w1, hw1⟩ : ∃ z, z = w.alloc (.cells #[.int .i64 vk, .int .i64 vn, .string vs, .slice a m c, .bool st, .string dt] 50) := ⟨_, rfl⟩;obtain ⟨tb, htb⟩ : ∃ z, z = w.heap.size := ⟨_, rfl⟩;have hP1 : Pure w w1 := by rw [hw1]; exact ext_alloc w _
 have hB3 : BlockIs w1 tb [.int .i64 vk, .int .i64 vn, .string vs, .slice a m c, .bool st, .string dt] 50 := by rw [hw1, htb]; exact BlockIs.new w [.int .i64 vk, .int .i64 vn, .string vs, .slice a m c, .bool st, .string dt] 50
 rw [← hw1, ← htb];have HTb := qh htb;clear hw1 htb;refine (HG.out w1 hP1).mono ?_;rintro e w2 ⟨cs, rfl, hL, hP⟩;obtain ⟨ga, gc, grows, rfl, _, _, _, hKd, _⟩ := hL.kids;have HKd := qh hKd;have hB3 := hB3.ext hP id;have hP := hP1.pure hP;have hlt : tb < w2.heap.size := hB3.lt;have c0 : w2.cell? ⟨tb, 0, none⟩ = some (.int .i64 vk) := hB3.cell 0;have c1 : w2.cell? ⟨tb, 1, none⟩ = some (.int .i64 vn) := hB3.cell 1;have c2 : w2.cell? ⟨tb, 2, none⟩ = some (.string vs) := hB3.cell 2;have c3 : w2.cell? ⟨tb, 3, none⟩ = some (.slice a m c) := hB3.cell 3;have c4 : w2.cell? ⟨tb, 4, none⟩ = some (.bool st) := hB3.cell 4;have c5 : w2.cell? ⟨tb, 5, none⟩ = some (.string dt) := hB3.cell 5;have HB3 := qh hB3;have HP := qh hP;obtain ⟨⟨gk, gn, gs, gl⟩, gi⟩ := G;simp only [V.kind, V.n, V.s, V.l] at HKd ⊢;obtain ⟨gm, hgm⟩ : ∃ z, z = gl.length := ⟨_, rfl⟩;rw [← hgm];have HGm := qh hgm;clear hL hP HG hB3 hgm hP1 hKd
 go_wp2_with fail
 have HB7 := qh (BlockIs.new w2 [.int .i64 gk, .int .i64 gn, .string gs, .slice ga gm gc] 48);refine (HC.out _ (HP.out.pure (ext_alloc w2 _))).mono ?_;rintro e w3 ⟨cs, rfl, hL, hP⟩;obtain ⟨ca, cc, crows, rfl, _⟩ := hL.kids;have hPx := (ext_alloc w2 (.cells #[.int .i64 gk, .int .i64 gn, .string gs, .slice ga gm gc] 48)).pure hP;have hB3 := HB3.out.ext hPx id;have HB7 := qh (HB7.out.ext hP id);have HLt7 : Hid (w2.heap.size < w3.heap.size) := qh HB7.out.lt;have HP := qh (HP.out.pure hPx);have hlt : tb < w3.heap.size := hB3.lt;have c0 : w3.cell? ⟨tb, 0, none⟩ = some (.int .i64 vk) := hB3.cell 0;have c1 : w3.cell? ⟨tb, 1, none⟩ = some (.int .i64 vn) := hB3.cell 1;have c2 : w3.cell? ⟨tb, 2, none⟩ = some (.string vs) := hB3.cell 2;have c3 : w3.cell? ⟨tb, 3, none⟩ = some (.slice a m c) := hB3.cell 3;have c4 : w3.cell? ⟨tb, 4, none⟩ = some (.bool st) := hB3.cell 4;have c5 : w3.cell? ⟨tb, 5, none⟩ = some (.string dt) := hB3.cell 5;obtain ⟨⟨ck, cn, cs, cl⟩, ci⟩ := C;simp only [V.kind, V.n, V.s, V.l];generalize cl.length = cm at *;clear hL hP hPx HC hB3 HB3;obtain ⟨b7, hb7⟩ : ∃ z, z = w2.heap.size := ⟨_, rfl⟩;have HB7e := qh hb7;rw [← hb7] at HB7 ⊢;clear hb7
 go_wp2_with fail
 have HB9 := qh (BlockIs.new w3 [.int .i64 ck, .int .i64 cn, .string cs, .slice ca cm cc] 48);refine (HT.out _ (HP.out.pure (ext_alloc w3 _))).mono ?_;rintro e w4 ⟨rfl, hP⟩;have hPx := (ext_alloc w3 (.cells #[.int .i64 ck, .int .i64 cn, .string cs, .slice ca cm cc] 48)).pure hP;have hB7 := HB7.out.ext hPx id;have hB9 := HB9.out.ext hP id
 replace hP := HP.out.pure hPx
 obtain ⟨b9, hb9⟩ : ∃ z, z = w3.heap.size := ⟨_, rfl⟩;have HB9e := qh hb9;rw [← hb9] at hB9 ⊢;clear hPx HB7 HB9 HP HT hb9 c0 c1 c2 c3 c4 c5 hlt;have g0 : w4.cell? ⟨b7, 0, none⟩ = some (.int .i64 gk) := hB7.cell 0;have g3 : w4.cell? ⟨b7, 3, none⟩ = some (.slice ga gm gc) := hB7.cell 3;have q0 : w4.cell? ⟨b9, 0, none⟩ = some (.int .i64 ck) := hB9.cell 0;have q1 : w4.cell? ⟨b9, 1, none⟩ = some (.int .i64 cn) := hB9.cell 1;have HP4 := qh hP;clear hP
 by_cases hbad : T = false ∨ ¬ gk = 6 ∨ gm = 0 ∨ ¬ ck = 2 ∨ cn < (gm : Int) ∨ 2048 < cn
 ·have HF : Hid (F = none) := qh (by
   have hz := HGm.out;rw [HK.out];refine if_neg (fun h => ?_);rw [Bool.and_eq_true, Bool.and_eq_true, Bool.and_eq_true, Bool.and_eq_true, Bool.and_eq_true, Bool.and_eq_true] at h;obtain ⟨⟨⟨⟨⟨⟨h1, h2⟩, h3⟩, h4⟩, h5⟩, h6⟩, h7⟩ := h;have h2 := of_decide_eq_true h2;have h3 := of_decide_eq_true h3;have h4 := of_decide_eq_true h4;have h6 : (gl.length : Int) ≤ cn := of_decide_eq_true h6;have h7 : cn ≤ 2048 := of_decide_eq_true h7
   rcases hbad with hb | hb | hb | hb | hb | hb
   ·rw [hb] at h1; cases h1
   ·exact hb h2
   ·exact h3 (List.eq_nil_of_length_eq_zero (hz.symm.trans hb))
   ·exact hb h4
   ·omega
   ·omega)
  have hbad2 : T = false ∨ (T = true ∧ ((gk != 6) = true ∨ ((gk != 6) = false ∧ (((gm : Int) == 0) = true ∨ (((gm : Int) == 0) = false ∧ ((ck != 2) = true ∨ ((ck != 2) = false ∧ (cn < (gm : Int) ∨ (¬ cn < (gm : Int) ∧ 2048 < cn))))))))) := by
   cases T with
   | false => exact Or.inl rfl
   | true =>
     refine Or.inr ⟨rfl, ?_⟩
     by_cases h6 : gk = 6
     ·refine Or.inr ⟨by simp [h6], ?_⟩
      by_cases h0 : gm = 0
      ·exact Or.inl (by simp [h0])
      ·refine Or.inr ⟨by simp; omega, ?_⟩
       by_cases h2 : ck = 2
       ·refine Or.inr ⟨by simp [h2], ?_⟩
        by_cases h3 : cn < (gm : Int)
        ·exact Or.inl h3
        ·refine Or.inr ⟨h3, ?_⟩
         rcases hbad with hb | hb | hb | hb | hb | hb
         ·cases hb
         ·exact absurd h6 hb
         ·exact absurd hb h0
         ·exact absurd h2 hb
         ·exact absurd hb h3
         ·exact hb
       ·exact Or.inl (by simpa using h2)
     ·exact Or.inl (by simpa using h6)
  clear hbad hB7 hB9 HK HKd
  rcases hbad2 with rfl | ⟨rfl, hb6 | ⟨hb6, hb0 | ⟨hb0, hb2 | ⟨hb2, hb3 | ⟨hb3, hb4⟩⟩⟩⟩⟩
  all_goals
   go_wp2_with fail
   go_ret3;exact ⟨none, 0, 0, 0, by rw [HF.out]; rfl, HP4.out, fun kids q hq => by rw [HF.out] at hq; cases hq⟩
 ·have hT : T = true := by
   cases T with
   | true => rfl
   | false => exact absurd (Or.inl rfl) hbad
  subst hT;have hgk : gk = 6 := Decidable.byContradiction fun h => hbad (Or.inr (Or.inl h));subst hgk;have hgm : ¬ gm = 0 := fun h => hbad (Or.inr (Or.inr (Or.inl h)));have hck : ck = 2 := Decidable.byContradiction fun h => hbad (Or.inr (Or.inr (Or.inr (Or.inl h))));subst hck;have hcl : ¬ cn < (gm : Int) := fun h => hbad (Or.inr (Or.inr (Or.inr (Or.inr (Or.inl h)))));have hch : ¬ 2048 < cn := fun h => hbad (Or.inr (Or.inr (Or.inr (Or.inr (Or.inr h)))));have hg2 : ((gm : Int) == 0) = false := by simp; omega
  have HGz := qh hgm;have HHa : Hid ((gm : Int) ≤ cn ∧ cn ≤ 2048) := qh ⟨by omega, by omega⟩;have hgl : gm ≤ 100000 := by omega
  clear hbad hgm
  go_wp2_with fail
  clear g0 q0 q1 hg2 hcl hch;have HB7 := qh hB7;have HB9 := qh hB9;have HR7 : Hid (b7 < w4.heap.size) := qh hB7.lt;clear hB7 hB9 g3
  go_loopw [9, 10] (fun s i wr => ∃ (k : Nat) (xa : Option Addr) (cap : Nat), k ≤ gm ∧ i = .int .i64 k ∧ s = .slice xa k cap ∧ Hid ((gl.take k).all (fun u => decide (u.kind = 8)) = true) ∧ Hid (wr.ownsRow w4.heap.size 3 1 (.slice xa k cap) k (intsV ((gl.take k).map V.n))) ∧ Hid (Pure w4 wr)) (fun _ i _ => gm - (intOf i).toNat)
  case atStart => exact ⟨0, none, 0, Nat.zero_le _, rfl, rfl, qh (by rw [List.take_zero]; rfl), qh (World.ownsRow_nil _ _ _ _), qh (Ext.refl _ _)⟩
  case round =>
   obtain ⟨k, xa, cap, hk, rfl, rfl, HA, HO, HE⟩ := hrel;have g3 : wr.cell? ⟨b7, 3, none⟩ = some (.slice ga gm gc) := (HB7.out.ext HE.out id).cell 3;have hlw : b7 < wr.heap.size := (HB7.out.ext HE.out id).lt
   by_cases hlt : k < gm
   ·have hki : (k : Int) < (gm : Int) := by omega
    have hk0 : (0 : Int) ≤ (k : Int) := by omega
    obtain ⟨u, hu⟩ : ∃ u, gl[k]? = some u := ⟨_, List.getElem?_eq_getElem (by rw [← HGm.out]; exact hlt)⟩;obtain ⟨b, o, r, rfl, hr0, hr4, hLu⟩ := HKd.out.at k u hu;obtain ⟨ua, uc, urows, rfl, _⟩ := (hLu.mono (Nat.le_succ d)).kids;have HAk : Hid ((gl.take (k + 1)).all (fun u => decide (u.kind = 8)) = decide (u.kind = 8)) := qh (by
     obtain ⟨hkl, rfl⟩ := List.getElem?_eq_some_iff.1 hu;rw [List.take_succ_eq_append_getElem hkl, List.all_append, HA.out]; simp)
    have HNk : Hid (intsV ((gl.take (k + 1)).map V.n) = intsV ((gl.take k).map V.n) ++ [.int .i64 u.n]) := qh (by
     obtain ⟨hkl, rfl⟩ := List.getElem?_eq_some_iff.1 hu;rw [List.take_succ_eq_append_getElem hkl, List.map_append];exact intsV_snoc _ _)
    have HAl : Hid (gl.all (fun u => decide (u.kind = 8)) = true → (gl.take (k + 1)).all (fun u => decide (u.kind = 8)) = true) := qh (fun h => by
     rw [← List.take_append_drop (k + 1) gl, List.all_append, Bool.and_eq_true] at h;exact h.1)
    have hPr : Pure w0 wr := (HP0.out.pure HP4.out).pure HE.out;have y0 : wr.cell? ⟨b, o + k * 4, none⟩ = some (.int .i64 u.kind) := hPr.cell_some (hr0 0 _ rfl) id;have y1 : wr.cell? ⟨b, o + k * 4 + 1, none⟩ = some (.int .i64 u.n) := hPr.cell_some (hr0 1 _ rfl) id;clear hu hr0 hr4 hLu hk hPr;obtain ⟨uk, huk⟩ : ∃ z, z = u.kind := ⟨_, rfl⟩;obtain ⟨un, hun⟩ : ∃ z, z = u.n := ⟨_, rfl⟩;rw [← huk] at y0 HAk;rw [← hun] at y1 HNk;clear huk hun
    by_cases hu8 : uk = 8
    ·subst hu8
     have HO5 : Hid ((wr.alloc (.cells #[.int .i64 un] 3)).ownsRow w4.heap.size 3 1 (.slice xa k cap) k (intsV ((gl.take k).map V.n))) := qh (own_ext HO.out (ext_alloc wr _) (fun _ _ => id));have HRw : Hid (RowOf (wr.alloc (.cells #[.int .i64 un] 3)) (some ⟨wr.heap.size, 0, none⟩) [.int .i64 un]) := qh (row_at _ rfl rfl);have HRs : Hid (w4.heap.size ≤ (wr.alloc (.cells #[.int .i64 un] 3)).heap.size) := qh (by rw [World.size_alloc]; have := HE.out.size; omega)
     go_wp2_with (at_builtin; refine wpList_append_any rfl (.tmp 69) (.tmp 76) 35 rfl w4.heap.size 3 (.int .i64 0) 1 8 Tryz.underlying35 infoI rfl (by decide) (.slice xa k cap) k (intsV ((gl.take k).map V.n)) rfl HO5.out (some ⟨wr.heap.size, 0, none⟩) 1 1 [.int .i64 un] rfl (fun e => by cases e) rfl HRw.out (fun u hu => by simp at hu; subst hu; rfl) (k + 1) rfl (intsV ((gl.take k).map V.n) ++ [.int .i64 un]) rfl (by omega) (by unfold maxLen; omega) HRs.out ?_; intro a3 c3 w7 hO7 hg7)
     go_roundw
     case rel =>
      refine ⟨k + 1, a3, c3, by omega, by go_num, rfl, qh (by rw [HAk.out]; rfl), qh (by rw [HNk.out]; exact hO7), qh ((HE.out.pure (ext_alloc wr _)).grown hg7 (fun i hi hlt => ?_))⟩;have := (HO5.out.lt i hi).1
      omega
     case measure => simp [intOf]; omega
    ·have HF : Hid (F = none) := qh (by
      rw [HK.out];refine if_neg (fun h => ?_);rw [Bool.and_eq_true, Bool.and_eq_true, Bool.and_eq_true] at h;have h1 := HAl.out h.1.1.2;rw [HAk.out] at h1;exact hu8 (of_decide_eq_true h1))
     have hun : (uk != 8) = true := by simpa using hu8
     clear HA HAk HNk HAl HO
     go_wp2_with fail
     go_ret3;exact ⟨none, 0, 0, 0, by rw [HF.out]; rfl, HP4.out.pure HE.out, fun kids q hq => by rw [HF.out] at hq; cases hq⟩
   ·have hki : ¬ (k : Int) < (gm : Int) := by omega
    obtain rfl : k = gm := by omega
    have h1 : gl.all (fun u => decide (u.kind = 8)) = true := by have h := HA.out; rwa [List.take_of_length_le (by rw [← HGm.out]; exact Nat.le_refl _)] at h
    have HRow : Hid (wr.ownsRow w.heap.size 3 1 (.slice xa k cap) k (intsV (gl.map V.n))) := qh (by have h := HO.out; rw [List.take_of_length_le (by rw [← HGm.out]; exact Nat.le_refl _)] at h; exact own_base h (by have := HP4.out.size; omega));have q1 : wr.cell? ⟨b9, 1, none⟩ = some (.int .i64 cn) := (HB9.out.ext HE.out id).cell 1;have hl9 : b9 < wr.heap.size := (HB9.out.ext HE.out id).lt;have HGl : Hid (k = (gl.map V.n).length) := qh (by rw [List.length_map]; exact HGm.out);have HF : Hid (F = some (gl.map V.n, cn)) := qh (by
     rw [HK.out];have h2 := HGm.out;have h3 : (gl.length : Int) ≤ cn := by have := HHa.out.1; omega
     have hgk : gl ≠ [] := fun e => HGz.out (by rw [HGm.out, e]; rfl);refine if_pos ?_;rw [Bool.and_eq_true, Bool.and_eq_true, Bool.and_eq_true, Bool.and_eq_true, Bool.and_eq_true, Bool.and_eq_true];exact ⟨⟨⟨⟨⟨⟨rfl, decide_eq_true rfl⟩, decide_eq_true hgk⟩, decide_eq_true rfl⟩, h1⟩, decide_eq_true h3⟩, decide_eq_true HHa.out.2⟩)
    clear h1 HK HKd
    go_wp2_with fail
    go_ret3;refine ⟨xa, k, cap, cn, by rw [HF.out]; rfl, HP4.out.pure HE.out, fun kids q hq => ?_⟩
    rw [HF.out] at hq;cases hq
    exact ⟨HGl.out, rfl, HRow.out⟩
