import Derived.Test.YtomcdhljjmnahaaGreatParPlPa
import Derived.Test.YtomcdhljjmnahaaGreatChkHPa
import Derived.Test.YtomcdhljjmnahaaGreatSqPa
set_option linter.unusedVariables false
set_option linter.unusedSimpArgs false
namespace Go.Proofs.YtomcdhljjmnahaaGreat
open Go.RowKit
structure Alike (a b : HT) : Prop where
 fo : a.fo = b.fo
 fa : a.fa = b.fa
 ps : a.ps.map pv3 = b.ps.map pv3
 so : a.so = b.so
 sa : a.sa = b.sa
 sf : a.sf = b.sf
 sh : a.sh = b.sh
theorem Alike.refl (a : HT) : Alike a a := ⟨rfl, rfl, rfl, rfl, rfl, rfl, rfl⟩
def okP3 (t : Int × Int × List Int) : Bool := !t.2.2.any P26.odd && P26.inB t.1 1 4096 && P26.inB t.2.1 1 2147483647
theorem okP_eq (ps : List PH) : ps.all P26.okP = (ps.map pv3).all okP3 := by rw [List.all_map]; rfl
theorem totS_eq (ps : List PH) : P26.totS ps = ((ps.map pv3).map (fun t => t.2.2.length)).sum := by unfold P26.totS; rw [List.map_map]; rfl
theorem lens_eq (ps : List PH) : lensP ps = (ps.map pv3).map (fun t => t.2.1) := by unfold lensP; rw [List.map_map]; rfl
theorem ids_eq (ps : List PH) (n : Int) : ps.all (fun p => p.sh.all (fun x => decide (x < n))) = (ps.map pv3).all (fun t => t.2.2.all (fun x => decide (x < n))) := by rw [List.all_map]; rfl
theorem chk_alike {a b : HT} (h : Alike a b) (l : LT) : chkE a l = chkE b l := by
 obtain ⟨fo, fa, ps, so, sa, sf, sh⟩ := a
 obtain ⟨fo', fa', qs, so', sa', sf', sh'⟩ := b
 obtain ⟨h1, h2, h3, h4, h5, h6, h7⟩ := h
 simp only at h1 h2 h3 h4 h5 h6 h7
 subst h1 h2 h4 h5 h6 h7
 have hl : ps.length = qs.length := by have := congrArg List.length h3; simpa using this
 have hle : lensP ps = lensP qs := by rw [lens_eq, lens_eq, h3]
 have hck : P26.chk fa ps = P26.chk fa qs := by
  unfold P26.chk
  rw [okP_eq, okP_eq, totS_eq, totS_eq, h3, hl]
 have hid : idsP ⟨fo, fa, ps, so, sa, sf, sh⟩ = idsP ⟨fo, fa, qs, so, sa, sf, sh⟩ := by
  unfold idsP
  simp only
  rw [ids_eq, ids_eq, h3]
 have how : ∀ p, ownP ⟨fo, fa, ps, so, sa, sf, sh⟩ l p = ownP ⟨fo, fa, qs, so, sa, sf, sh⟩ l p := fun p => by
  unfold ownP
  simp only
  rw [hle, hl]
 unfold chkE
 rw [chk_eq, chk_eq]
 have e1 : tablesP ⟨fo, fa, ps, so, sa, sf, sh⟩ l = tablesP ⟨fo, fa, qs, so, sa, sf, sh⟩ l := by
  unfold tablesP
  simp only
  rw [hl, hck]
 have e2 : firstP ⟨fo, fa, ps, so, sa, sf, sh⟩ l = firstP ⟨fo, fa, qs, so, sa, sf, sh⟩ l := by
  unfold firstP
  rw [how]
  simp only
  rw [hle]
 have e3 : ∀ o, finP ⟨fo, fa, ps, so, sa, sf, sh⟩ l o = finP ⟨fo, fa, qs, so, sa, sf, sh⟩ l o := fun o => by
  cases o with
  | none => rfl
  | some e =>
    unfold finP
    simp only
    rw [hid]
    rfl
 rw [e1, e2, e3]
 simp only
 rw [hle]
theorem get_obj (n : Int) : (objV n).get keyS = (.mk 2 n ⟨#[]⟩ [], true) := by kernel_rfl
theorem ext_left (A B : List UInt8) : (strOf A ++ strOf B).extract 0 A.length = strOf A := by
 apply ByteArray.ext
 rw [ByteArray.data_extract, ByteArray.data_append]
 simp [strOf]
theorem ext_right (A B : List UInt8) : (strOf A ++ strOf B).extract A.length (strOf A ++ strOf B).size = strOf B := by
 apply ByteArray.ext
 rw [ByteArray.data_extract, ByteArray.data_append, ByteArray.size_append, strOf_size, strOf_size]
 simp [strOf]
theorem chk_parts {h : HT} {l : LT} (hc : chkE h l = 0) : h.fo = l.fo ∧ (h.ps.length : Int) = l.pg ∧ P26.chk h.fa h.ps = 0 ∧ S27.okT h.so h.sa h.sf h.sh = true := by
 unfold chkE at hc
 have hp : chkP h l = true := by
  by_cases hp : chkP h l = true
  ·exact hp
  ·rw [if_neg hp] at hc; cases hc
 rw [chk_eq, Bool.and_eq_true, Bool.and_eq_true] at hp
 have ht := hp.1.1
 unfold tablesP at ht
 simp only [Bool.and_eq_true, decide_eq_true_eq, beq_iff_eq] at ht
 exact ⟨ht.1.1.1, ht.1.1.2, ht.1.2, ht.2⟩
theorem map_toNat {α : Type} (f : α → Int) (ps : List α) (h : ∀ p ∈ ps, 0 ≤ f p) : ps.map f = (ps.map (fun p => (f p).toNat)).map (fun x : Nat => (x : Int)) := by
 rw [List.map_map]
 refine List.map_congr_left fun p hp => ?_
 have := h p hp
 simp only [Function.comp]; omega
theorem obj_err {h : HT} {l : LT} (hc : chkE h l = 0) : objE h = 0 := by
 obtain ⟨h1, h2, h3, h4⟩ := chk_parts hc
 unfold objE S27.encE
 rw [if_pos h3, if_pos h4]
theorem par_back {h : HT} {l : LT} (hm : P26.Mod h.ps) (hc : chkE h l = 0) {H : HT} {er : Int} (hp : ParP (objO h) l H er) : er = 0 ∧ Alike H h := by
 have hE := obj_err hc
 obtain ⟨h1, h2, h3, h4⟩ := chk_parts hc
 have hk := P26.chk_ok h3 hm
 obtain ⟨A, hA⟩ : ∃ A, A = P26.encB h.fa h.ps := ⟨_, rfl⟩
 obtain ⟨B, hB⟩ : ∃ B, B = S27.encB h.so h.sa h.sf h.sh := ⟨_, rfl⟩
 have hO : objO h = ⟨objV A.length, true, strOf A ++ strOf B⟩ := by unfold objO; rw [if_pos hE, ← hA, ← hB]
 rw [hO] at hp
 have hN : parN ⟨objV A.length, true, strOf A ++ strOf B⟩ = (A.length : Int) := by unfold parN; rw [get_obj]; rfl
 have hok : parOk ⟨objV A.length, true, strOf A ++ strOf B⟩ := by
  refine ⟨rfl, by rw [get_obj]; rfl, by rw [hN]; omega, ?_⟩
  rw [hN]
  simp only
  rw [ByteArray.size_append, strOf_size, strOf_size]; omega
 have hb1 : b1 ⟨objV A.length, true, strOf A ++ strOf B⟩ = A := by
  unfold b1; rw [hN]; simp only [Int.toNat_natCast]; rw [ext_left, strOf_list]
 have hb2 : b2 ⟨objV A.length, true, strOf A ++ strOf B⟩ = B := by
  unfold b2; rw [hN]; simp only [Int.toNat_natCast]; rw [ext_right, strOf_list]
 have hA2 : A = pack true (P26.tabB h.fa.toNat (P26.toN h.ps) P26.rest0) := by rw [hA]; unfold P26.encB; rw [if_pos h3]
 have hB2 : B = pack true (S27.tabB h.so.toNat h.sa.toNat h.sf.toNat (S27.nats h.sh) 0 []) := by rw [hB]; unfold S27.encB; rw [if_pos h4]
 have hi := S27.okT_ints h4
 have hd26 : ∀ d, P26.DecTo (bitsOf true A) l.pg d → d = ⟨0, h.fa.toNat, (P26.toN h.ps).os, (P26.toN h.ps).ls, (P26.toN h.ps).shs, (pack true (P26.tabB h.fa.toNat (P26.toN h.ps) P26.rest0)).length⟩ := fun d hd => by
  rw [hA2, ← List.append_nil (pack true _), ← h2, ← P26.toN_os_len h.ps] at hd
  exact P26.dec_tab hk.ok (by have := hk.a; omega) (by decide) (by decide) (by decide) (by decide) hd
 have hd27 : ∀ r, S27.DecTo (bitsOf true B) r → r = ⟨0, h.so.toNat, h.sa.toNat, h.sf.toNat, S27.nats h.sh, (pack true (S27.tabB h.so.toNat h.sa.toNat h.sf.toNat (S27.nats h.sh) 0 [])).length⟩ := fun r hr => by
  rw [hB2, ← List.append_nil (pack true _)] at hr
  exact S27.dec_tab (by rw [← hi.2.2.2, ← hi.1, ← hi.2.1, ← hi.2.2.1]; exact h4) (by decide) hr
 rcases hp with ⟨hn, _⟩ | ⟨_, ⟨_, _, d, hd, he⟩ | ⟨_, _, r, hr, he⟩ | ⟨d, r, qs, hd, he, hr, hf, hq, hl⟩⟩
 ·exact absurd hok hn
 ·rw [hb1] at hd
  rw [hd26 d hd] at he
  exact absurd rfl he
 ·rw [hb2] at hr
  rw [hd27 r hr] at he
  exact absurd rfl he
 ·rw [hb1] at hd
  rw [hb2] at hr
  have e1 := hd26 d hd
  have e2 := hd27 r hr
  have hpv : h.ps.map pv3 = P26.resV d := by
   rw [e1]
   refine P26.resV_of h.ps _ ?_ ?_ ?_
   ·exact map_toNat (fun p : PH => p.o) h.ps (fun p hp => by have := (hk.nat p hp).o; omega)
   ·exact map_toNat (fun p : PH => p.l) h.ps (fun p hp => by have := (hk.nat p hp).l; omega)
   ·simp only [P26.toN, List.map_map]
    refine List.map_congr_left fun p hp => ?_
    simp only [Function.comp]
    exact (map_toNat (fun x : Int => x) p.sh (fun x hx => by have := (hk.nat p hp).sh x hx; omega) ▸ (List.map_id' p.sh).symm : p.sh = _)
  have hal : Alike (hOf l d qs r) h := by
   refine ⟨h1.symm, ?_, hq.trans hpv.symm, ?_, ?_, ?_, ?_⟩
   ·show (d.a : Int) = h.fa; rw [e1]; have := hk.a; show (h.fa.toNat : Int) = h.fa; omega
   ·show (r.o : Int) = h.so; rw [e2]; exact hi.1.symm
   ·show (r.a : Int) = h.sa; rw [e2]; exact hi.2.1.symm
   ·show (r.f : Int) = h.sf; rw [e2]; exact hi.2.2.1.symm
   ·show intsN r.ls = h.sh; rw [e2]; exact hi.2.2.2.symm
  rcases hl with ⟨_, rfl, rfl⟩ | ⟨hne, _⟩
  ·exact ⟨rfl, hal⟩
  ·exact absurd ((chk_alike hal l).trans hc) hne
