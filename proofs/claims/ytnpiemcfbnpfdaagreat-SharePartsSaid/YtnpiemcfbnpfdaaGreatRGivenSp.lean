import Derived.Test.YtnpiemcfbnpfdaaGreatFindPlSp
import Derived.Test.YtnpiemcfbnpfdaaGreatNodeSp
import Derived.Test.YtnpiemcfbnpfdaaGreatLiesInSp
import Derived.Test.YtnpiemcfbnpfdaaGreatRRowSp
import Derived.Deep.DeepCutAuto
import Derived.Test.YtnpiemcfbnpfdaaGreatSqSp
set_option linter.unusedVariables false
set_option linter.unusedSimpArgs false
set_option maxRecDepth 100000
namespace Go.Proofs.YtnpiemcfbnpfdaaGreat
open Go.RowKit
def kCrop : ByteArray := ⟨#[67, 114, 111, 112, 66, 111, 120]⟩
def kMedia : ByteArray := ⟨#[77, 101, 100, 105, 97, 66, 111, 120]⟩
def kRes : ByteArray := ⟨#[82, 101, 115, 111, 117, 114, 99, 101, 115]⟩
def kRot : ByteArray := ⟨#[82, 111, 116, 97, 116, 101]⟩
def optG (key : ByteArray) : Option V → List V
 | none => []
 | some x => [nameV key, x]
def canG (c m r t : Option V) : V := .mk 7 0 ⟨#[]⟩ (optG kCrop c ++ (optG kMedia m ++ (optG kRes r ++ optG kRot t)))
def updG (o : Option V) (v : V) (key : ByteArray) : Option V := if (v.get key).2 = true then some (v.get key).1 else o
def delG (o : Option V) (v : V) (key : ByteArray) : Option V := if (v.get key).2 = true then none else o
theorem put_can0 (c m r t : Option V) (x : V) : (canG c m r t).put kRes x = canG c m (some x) t := by
 rcases c with _ | c <;> rcases m with _ | m <;> rcases r with _ | r <;> rcases t with _ | t <;> kernel_rfl
theorem put_can1 (c m r t : Option V) (x : V) : (canG c m r t).put kMedia x = canG c (some x) r t := by
 rcases c with _ | c <;> rcases m with _ | m <;> rcases r with _ | r <;> rcases t with _ | t <;> kernel_rfl
theorem put_can2 (c m r t : Option V) (x : V) : (canG c m r t).put kCrop x = canG (some x) m r t := by
 rcases c with _ | c <;> rcases m with _ | m <;> rcases r with _ | r <;> rcases t with _ | t <;> kernel_rfl
theorem put_can3 (c m r t : Option V) (x : V) : (canG c m r t).put kRot x = canG c m r (some x) := by
 rcases c with _ | c <;> rcases m with _ | m <;> rcases r with _ | r <;> rcases t with _ | t <;> kernel_rfl
theorem drop_can0 (c m r t : Option V) : (canG c m r t).dropped kRes = canG c m none t := by
 rcases c with _ | c <;> rcases m with _ | m <;> rcases r with _ | r <;> rcases t with _ | t <;> kernel_rfl
theorem drop_can1 (c m r t : Option V) : (canG c m r t).dropped kMedia = canG c none r t := by
 rcases c with _ | c <;> rcases m with _ | m <;> rcases r with _ | r <;> rcases t with _ | t <;> kernel_rfl
theorem drop_can2 (c m r t : Option V) : (canG c m r t).dropped kCrop = canG none m r t := by
 rcases c with _ | c <;> rcases m with _ | m <;> rcases r with _ | r <;> rcases t with _ | t <;> kernel_rfl
theorem drop_can3 (c m r t : Option V) : (canG c m r t).dropped kRot = canG c m r none := by
 rcases c with _ | c <;> rcases m with _ | m <;> rcases r with _ | r <;> rcases t with _ | t <;> kernel_rfl
theorem give_can (c m r t : Option V) (v : V) : giveP (canG c m r t) v = canG (updG c v kCrop) (updG m v kMedia) (updG r v kRes) (updG t v kRot) := by
 have e0 : inhK 0 = kRes := rfl;have e1 : inhK 1 = kMedia := rfl;have e2 : inhK 2 = kCrop := rfl;have e3 : inhK 3 = kRot := rfl;unfold giveP;simp only [giveN, e0, e1, e2, e3];unfold updG;cases (v.get kRes).2 <;> cases (v.get kMedia).2 <;> cases (v.get kCrop).2 <;> cases (v.get kRot).2 <;> simp only [if_true, if_false, put_can0, put_can1, put_can2, put_can3, Bool.false_eq_true, reduceCtorEq]
theorem leaf_can (c m r t : Option V) (v : V) : leafP (canG c m r t) v = canG (delG c v kCrop) (delG m v kMedia) (delG r v kRes) (delG t v kRot) := by
 have e0 : inhK 0 = kRes := rfl;have e1 : inhK 1 = kMedia := rfl;have e2 : inhK 2 = kCrop := rfl;have e3 : inhK 3 = kRot := rfl;unfold leafP;simp only [leafN, e0, e1, e2, e3];unfold delG;cases (v.get kRes).2 <;> cases (v.get kMedia).2 <;> cases (v.get kCrop).2 <;> cases (v.get kRot).2 <;> simp only [if_true, if_false, drop_can0, drop_can1, drop_can2, drop_can3, Bool.false_eq_true, reduceCtorEq]
theorem snocIndV {P : List V → Prop} (nil : P []) (app : ∀ ys y, P ys → P (ys ++ [y])) (ys : List V) : P ys := by
 have h : ∀ zs : List V, P zs.reverse := by
  intro zs
  induction zs with
  | nil => exact nil
  | cons z zs ih => rw [List.reverse_cons]; exact app _ _ ih
 have h2 := h ys.reverse
 rwa [List.reverse_reverse] at h2
def lastG (way : List V) (key : ByteArray) : Option V := way.foldl (fun o v => updG o v key) none
theorem empty_can : emptyV = canG none none none none := rfl
theorem fold_can (way : List V) : ∀ c m r t, way.foldl giveP (canG c m r t) = canG (way.foldl (fun o v => updG o v kCrop) c) (way.foldl (fun o v => updG o v kMedia) m) (way.foldl (fun o v => updG o v kRes) r) (way.foldl (fun o v => updG o v kRot) t) := by
 induction way with
 | nil => intro c m r t; rfl
 | cons v way ih =>
   intro c m r t
   rw [List.foldl_cons, give_can, ih]
   rfl
def docK (k : Nat) : ByteArray := [kCrop, kMedia, kRes, kRot].getD k ⟨#[]⟩
def givenL (page : V) (way : List V) : Nat → List V
 | 0 => []
 | k + 1 => givenL page way k ++ optG (docK k) (if (page.find (docK k)).isSome then none else lastG way (docK k))
def givenR (page : V) (way : List V) : V := .mk 7 0 ⟨#[]⟩ (givenL page way 4)
theorem get_findB (v : V) (key : ByteArray) : (v.get key).2 = (v.find key).isSome := by
 unfold V.get;cases v.find key <;> rfl
theorem given_eq (page : V) (way : List V) : leafP (way.foldl giveP emptyV) page = givenR page way := by
 rw [empty_can, fold_can, leaf_can];unfold givenR canG;have e0 : docK 0 = kCrop := rfl;have e1 : docK 1 = kMedia := rfl;have e2 : docK 2 = kRes := rfl;have e3 : docK 3 = kRot := rfl;simp only [givenL, e0, e1, e2, e3, List.nil_append, List.append_assoc];unfold delG lastG;simp only [get_findB]
theorem lastG_snoc (way : List V) (v : V) (key : ByteArray) : lastG (way ++ [v]) key = updG (lastG way key) v key := by
 unfold lastG;rw [List.foldl_append]
 rfl
theorem lastG_from (way : List V) (key : ByteArray) (j : Nat) (hj : j < way.length) (hno : ∀ i (hi : i < way.length), j < i → (way[i].get key).2 = false) : (way[j].get key).2 = true → lastG way key = some (way[j].get key).1 := by
 intro hy
 induction way using snocIndV with
 | nil => simp at hj
 | app way v ih =>
   rw [lastG_snoc]
   by_cases hl : j = way.length
   ·subst hl
    have e : (way ++ [v])[way.length] = v := by simp
    rw [e] at hy;unfold updG;rw [if_pos hy];simp only [e]
   ·have hj2 : j < way.length := by rw [List.length_append, List.length_singleton] at hj; omega
    have hv : (v.get key).2 = false := by
     have := hno way.length (by simp) hj2
     simpa using this
    unfold updG;rw [if_neg (by rw [hv]; decide)];have e : (way ++ [v])[j] = way[j] := List.getElem_append_left hj2;rw [e] at hy;simp only [e];refine ih hj2 (fun i hi hij => ?_) hy;have := hno i (by rw [List.length_append]; omega) hij
    rwa [List.getElem_append_left hi] at this
theorem lastG_no (way : List V) (key : ByteArray) (hno : ∀ v ∈ way, (v.get key).2 = false) : lastG way key = none := by
 induction way using snocIndV with
 | nil => rfl
 | app way v ih =>
   rw [lastG_snoc];unfold updG;rw [if_neg (by rw [hno v (by simp)]; decide)];exact ih (fun u hu => hno u (List.mem_append.2 (Or.inl hu)))
end Go.Proofs.YtnpiemcfbnpfdaaGreat
namespace Go.Proofs.YtnpiemcfbnpfdaaGreat
open Go.RowKit Go.Maps
def docL : List ByteArray := [kCrop, kMedia, kRes, kRot]
def NamTo (w : World) (e : Ending) (w' : World) : Prop := ∃ nb, e = .returned (.slice (some ⟨nb, 0, none⟩) 4 4) ∧ BlockIs w' nb (docL.map Value.string) 9 ∧ w.heap.size ≤ nb ∧ Pure w w'
set_option maxHeartbeats 1000000 in
theorem names20_any (w : World) : Calls Tryz.prog 123 #[] w (NamTo w) := by
 go_enter Tryz.func123, Tryz.ntmps123
 go_wp2_with fail
 go_ret;exact ⟨w.heap.size, rfl, BlockIs.new w (docL.map Value.string) _, Nat.le_refl _, ext_alloc w _⟩
theorem doc_cell {W : World} {nb : Nat} {T : TypeId} (h : BlockIs W nb (docL.map Value.string) T) {k : Nat} (hk : k < 4) : W.cell? ⟨nb, k, none⟩ = some (.string (docK k)) := by
 rw [h.cell];unfold docK
 match k, hk with
 | 0, _ => rfl
 | 1, _ => rfl
 | 2, _ => rfl
 | 3, _ => rfl
theorem docK_size {k : Nat} (hk : k < 4) : (docK k).size ≤ maxLen := by
 unfold docK
 match k, hk with
 | 0, _ => decide
 | 1, _ => decide
 | 2, _ => decide
 | 3, _ => decide
structure GivI (w0 W1 : World) (d ob R0 : Nat) (L : List V) (a : Option Addr) (m c : Nat) (xs : List Value) (W : World) : Prop where
 len : m = L.length
 blk : BlockIs W ob [.int .i64 7, .int .i64 0, .string ⟨#[]⟩, .slice a m c] 48
 own : W.ownsRow R0 48 4 (.slice a m c) m xs
 fit : Fit w0 (d + 1) L xs
 ext : Ext (fun b => b = ob) W1 W
theorem GivI.pure {w0 W1 : World} {d ob R0 : Nat} {L : List V} {a : Option Addr} {m c : Nat} {xs : List Value} {W W' : World} (h : GivI w0 W1 d ob R0 L a m c xs W) (hP : Pure W W') : GivI w0 W1 d ob R0 L a m c xs W' :=
 ⟨h.len, h.blk.ext hP id, own_ext h.own hP (fun _ _ => id), h.fit, h.ext.pure hP⟩
def GivTo (w0 : World) (u : V) (d : Nat) (w : World) (e : Ending) (w' : World) : Prop := ∃ cs, e = .returned (.agg cs.toArray) ∧ Top w0 w' d u cs ∧ Pure w w' ∧ ∀ b, b < w.heap.size → Off b cs
theorem givenL_len (page : V) (way : List V) : ∀ k, (givenL page way k).length ≤ 2 * k
 | 0 => Nat.le_refl _
 | k + 1 => by
   have h := givenL_len page way k;unfold givenL;rw [List.length_append];have : (optG (docK k) (if (page.find (docK k)).isSome then none else lastG way (docK k))).length ≤ 2 := by
    cases (if (page.find (docK k)).isSome then none else lastG way (docK k)) with
    | none => exact Nat.zero_le _
    | some x => exact Nat.le_refl _
   omega
theorem one8 (nm : ByteArray) (uk un : Int) (ust : ByteArray) (ua : Option Addr) (um uc : Nat) : ∀ u ∈ [Value.int .i64 5, .int .i64 0, .string nm, .slice none 0 0, .int .i64 uk, .int .i64 un, .string ust, .slice ua um uc], u.oneCell' = true := fun u hu => by
 simp only [List.mem_cons, List.not_mem_nil, or_false] at hu
 rcases hu with rfl | rfl | rfl | rfl | rfl | rfl | rfl | rfl <;> rfl
theorem fit8 {w0 : World} {d : Nat} {L : List V} {xs : List Value} {nm : ByteArray} {u : V} {uk un : Int} {ust : ByteArray} {ua : Option Addr} {um uc : Nat} (h : Fit w0 (d + 1) L xs) (hu : Lies w0 (d + 1) u [.int .i64 uk, .int .i64 un, .string ust, .slice ua um uc]) (hk : nm.size ≤ maxLen) :
 Fit w0 (d + 1) (L ++ [nameV nm, u]) (xs ++ [.int .i64 5, .int .i64 0, .string nm, .slice none 0 0, .int .i64 uk, .int .i64 un, .string ust, .slice ua um uc]) :=
 h.append ((Fit.single (LiesIn.leaf (fun _ => True) w0 d 5 0 nm hk).lies).append (Fit.single hu))
set_option maxHeartbeats 8000000 in
theorem refgiven_any (w0 w : World) (hP0 : Pure w0 w) (d : Nat) (page : V) (pcs : List Value) (hp : Lies w0 (d + 1) page pcs) (hpl : page.l.length ≤ 1000000) (way : List V) (wa : Option Addr) (wc : Nat) (ws : List Value)
 (hF : Fit w0 (d + 1) way ws) (hR : RowOf w wa ws) (hwl : way.length ≤ 1000000) (hvl : ∀ v ∈ way, v.l.length ≤ 1000000) :
 Calls Tryz.prog 110 #[.agg pcs.toArray, .slice wa way.length wc] w (GivTo w0 (givenR page way) (d + 1) w) := by
 have HFi := qh (fun nm W (hP : Pure w0 W) => reffind_any d page pcs nm W (hp.pure hP) hpl);have HWay := qh (fun (W : World) (hP : Pure w W) (j : Nat) (v : V) (hj : way[j]? = some v) => hF.full (hR.ext hP (fun _ _ => id)) j v hj);have HVl := qh hvl;obtain ⟨n, hn⟩ : ∃ z, z = way.length := ⟨_, rfl⟩;rw [← hn] at hwl ⊢;have HN := qh hn;obtain ⟨pk, pn, ps, pa, pm, pc, hpc⟩ := hp.form;rw [hpc] at HFi ⊢;obtain ⟨w1, hw1⟩ : ∃ z, z = ((w.alloc (.cells #[.int .i64 pk, .int .i64 pn, .string ps, .slice pa pm pc] 48)).alloc (.cells #[.int .i64 0, .int .i64 0, .string ⟨#[]⟩, .slice none 0 0] 48)).alloc (.cells #[.int .i64 7, .int .i64 0, .string ⟨#[]⟩, .slice none 0 0] 48) := ⟨_, rfl⟩;have HPz : Hid (Pure w w1) := qh (by rw [hw1]; exact ((ext_alloc w _).pure (ext_alloc _ _)).pure (ext_alloc _ _));have HBp : Hid (BlockIs w1 w.heap.size [.int .i64 pk, .int .i64 pn, .string ps, .slice pa pm pc] 48) := qh (by rw [hw1]; exact ((BlockIs.new w _ _).alloc _).alloc _);have HBr : Hid (BlockIs w1 (w.heap.size + 1) [.int .i64 0, .int .i64 0, .string ⟨#[]⟩, .slice none 0 0] 48) := qh (by
  have := BlockIs.new (w.alloc (.cells #[.int .i64 pk, .int .i64 pn, .string ps, .slice pa pm pc] 48)) [.int .i64 0, .int .i64 0, .string ⟨#[]⟩, .slice none 0 0] 48;rw [World.size_alloc] at this;rw [hw1]; exact this.alloc _)
 have HBo : Hid (BlockIs w1 (w.heap.size + 1 + 1) [.int .i64 7, .int .i64 0, .string ⟨#[]⟩, .slice none 0 0] 48) := qh (by
  have := BlockIs.new ((w.alloc (.cells #[.int .i64 pk, .int .i64 pn, .string ps, .slice pa pm pc] 48)).alloc (.cells #[.int .i64 0, .int .i64 0, .string ⟨#[]⟩, .slice none 0 0] 48)) [.int .i64 7, .int .i64 0, .string ⟨#[]⟩, .slice none 0 0] 48;rw [World.size_alloc, World.size_alloc] at this;rw [hw1]; exact this)
 have HW1 := qh hw1.symm;obtain ⟨tb, htb⟩ : ∃ z, z = w.heap.size := ⟨_, rfl⟩;rw [← htb] at HBp HBr HBo;have HTb := qh htb.symm;have HP0 := qh hP0;clear hp hpl hF hR hvl hn hpc hw1 htb hP0
 go_enter Tryz.func110, Tryz.ntmps110
 go_upto_region 2 with (fail)
 rw [HW1.out, HTb.out]
 go_wp2_with fail
 refine (names20_any w1).mono ?_;rintro e W1 ⟨nb, rfl, hN, hlo, hP⟩;have HNb := qh hN;have HP1 := qh (HPz.out.pure hP);have HBp1 := qh (HBp.out.ext hP id);have HBr1 := qh (HBr.out.ext hP id);have HBo1 := qh (HBo.out.ext hP id);obtain ⟨R0, hR0⟩ : ∃ z, z = W1.heap.size := ⟨_, rfl⟩;have HLo : Hid (tb + 1 + 1 < nb ∧ nb < R0 ∧ w.heap.size = tb ∧ R0 = W1.heap.size) := qh ⟨by have := HBo.out.lt; omega, by rw [hR0]; exact hN.lt, HTb.out, hR0⟩;have HI0 : Hid (GivI w0 W1 d (tb + 1 + 1) R0 (givenL page way 0) none 0 0 [] W1) := qh ⟨rfl, HBo1.out, World.ownsRow_nil _ _ _ _, Fit.nil, Ext.refl _ _⟩;clear hN hlo hP hR0 HBp HBr HBo
 go_wp2_with fail
 go_loopw [7] (fun x wr => ∃ (k : Nat) (a : Option Addr) (m c : Nat) (xs : List Value), k ≤ 4 ∧ x = .int .i64 k ∧ Hid (GivI w0 W1 d (tb + 1 + 1) R0 (givenL page way k) a m c xs wr)) (fun x _ => 4 - (intOf x).toNat)
 case atStart => exact ⟨0, none, 0, 0, [], by omega, rfl, HI0⟩
 case round =>
  obtain ⟨k, a, m, c, xs, hk, rfl, HI⟩ := hrel
  by_cases hlt : k < 4
  ·have hki : (k : Int) < 4 := by omega
   have hk0 : (0 : Int) ≤ (k : Int) := by omega
   have hk4 : k < 4 := hlt;have hm8 : m ≤ 2 * k := by rw [HI.out.len]; exact givenL_len page way k
   have HPr : Hid (Pure w wr) := qh (HP1.out.trans HI.out.ext (fun b hb e => by have := HLo.out; omega));have HKs := qh (docK_size hlt);have HStep : Hid (givenL page way (k + 1) = givenL page way k ++ optG (docK k) (if (page.find (docK k)).isSome then none else lastG way (docK k))) := qh rfl
   have HCn := qh (fun (W : World) (h : BlockIs W nb (docL.map Value.string) 9) => doc_cell h hk4);have HF := qh (HFi.out (docK k));obtain ⟨nm, hnm⟩ : ∃ z, z = docK k := ⟨_, rfl⟩;rw [← hnm] at HKs HStep HF;have HCn2 : Hid (∀ (W : World), BlockIs W nb (docL.map Value.string) 9 → W.cell? ⟨nb, k, none⟩ = some (.string nm)) := qh (by rw [hnm]; exact HCn.out);clear hnm HCn
   go_upto_region 6 with (fail)
   have hBp := (HBp1.out.ext HI.out.ext (by have := HLo.out; omega)).drew;have hBn := (HNb.out.ext HI.out.ext (by have := HLo.out; omega)).drew;have hPw := HPr.out.drew;have hPd : Pure wr wr.drew := (Ext.refl _ wr).drew;refine region_start (fun _ => False) (by kernel_rfl) ?_
   try simp only [Act.put, sA, sZ, sS]
   refine rU 0 19 (v := ?vga0) (fun w' hS => ?hga0) ?rga0
   case hga0 => (refine exec_loadV (x := .tmp 2) ?_ ?_ (hBp.ext hS id) rfl <;> rfl)
   try simp only [Act.put, sA, sZ, sS]
   refine rT 1 20 ?_;refine rT 2 21 ?_;refine rT 3 22 ?_;refine rU 4 23 (v := ?vga4) (fun w' hS => ?hga4) ?rga4
   case hga4 => (have e : w'.cell? ⟨nb, k, none⟩ = some (.string nm) := HCn2.out w' (hBn.ext hS id); go_simp; with_reducible rfl)
   try simp only [Act.put, sA, sZ, sS]
   refine rR 5 (fun K hK => ?_)
   go_simp
   refine (HF.out _ (HP0.out.pure hPw)).mono ?_;rintro e Wf ⟨rfl, hP⟩;have hPw := hPw.pure hP;have hPd := hPd.pure hP;refine hK.out _ _ (hP) (fun hHeld => ?_);clear hK K hHeld;refine region_now (hP) ?_
   try simp only [Act.put, sA, sZ, sS]
   refine rT 6 25 ?_;refine wpAnyH_done (by kernel_rfl) ?_ _;have HI := qh (HI.out.pure hPd);have HPr := qh hPw;clear hPw hPd hBp hBn HF
   go_simp
   try simp only [Act.put, sA, sZ, sS]
   obtain ⟨Z, hZ⟩ : ∃ z, z = page.find nm := ⟨_, rfl⟩;rw [← hZ] at HStep ⊢;clear hZ;cases Z with
   | some i =>
     have hi0 : (0 : Int) ≤ (i : Int) := by omega
     have HI2 : Hid (GivI w0 W1 d (tb + 1 + 1) R0 (givenL page way (k + 1)) a m c xs Wf) := qh (by
      rw [HStep.out]
      show GivI w0 W1 d (tb + 1 + 1) R0 (givenL page way k ++ []) a m c xs Wf
      rw [List.append_nil]; exact HI.out)
     unfold optI;simp only;clear HI
     go_wp2_with fail
     go_roundw
     case rel => exact ⟨k + 1, a, m, c, xs, by omega, by go_num, HI2⟩
     case measure => simp [intOf]; omega
   | none =>
     have HSt : Hid (givenL page way (k + 1) = givenL page way k ++ optG nm (lastG way nm)) := qh HStep.out;have hnn : (n : Int) - 1 + 1 = (n : Int) := by omega
     unfold optI;simp only;clear HStep;obtain ⟨wo, rfl⟩ : ∃ wo : World, wo = Wf := ⟨_, rfl⟩
     go_wp2_with fail
     go_loopw [8] (fun x W => ∃ (J : Nat) (xi : Int), J ≤ n ∧ x = .int .i64 xi ∧ xi + 1 = (J : Int) ∧ Hid (∀ i (hi : i < way.length), J ≤ i → (way[i].get nm).2 = false) ∧ Hid (GivI w0 W1 d (tb + 1 + 1) R0 (givenL page way k) a m c xs W)) (fun x _ => (intOf x + 1).toNat)
     case atStart => exact ⟨n, (n : Int) - 1, Nat.le_refl _, rfl, hnn, qh (fun i hi hj => by have := HN.out; omega), HI⟩
     case round =>
      clear HI HPr;obtain ⟨J, xi, hJ, rfl, hxi, HNo, HI⟩ := hrel
      by_cases hJ0 : J = 0
      ·subst hJ0
       obtain rfl : xi = -1 := by omega
       have HI2 : Hid (GivI w0 W1 d (tb + 1 + 1) R0 (givenL page way (k + 1)) a m c xs wr) := qh (by
        rw [HSt.out, lastG_no way nm (fun v hv => by
         obtain ⟨i, hi, rfl⟩ := List.getElem_of_mem hv;exact HNo.out i hi (Nat.zero_le _))]
        show GivI w0 W1 d (tb + 1 + 1) R0 (givenL page way k ++ []) a m c xs wr
        rw [List.append_nil]; exact HI.out)
       clear HI
       go_wp2_with fail
       go_roundw
       case rel => exact ⟨k + 1, a, m, c, xs, by omega, by go_num, HI2⟩
       case measure => simp [intOf]; omega
      ·obtain ⟨j, rfl⟩ : ∃ j, J = j + 1 := ⟨J - 1, by omega⟩
       obtain rfl : xi = (j : Int) := by omega
       have hjn : (j : Int) < (n : Int) := by omega
       have hj0 : (0 : Int) ≤ (j : Int) := by omega
       have hjw : j < way.length := by rw [← HN.out]; omega
       obtain ⟨vj, hvj⟩ : ∃ z, z = way[j] := ⟨_, rfl⟩;have hvs : way[j]? = some vj := by rw [hvj]; exact List.getElem?_eq_getElem hjw
       have HPr : Hid (Pure w wr) := qh (HP1.out.trans HI.out.ext (fun b hb e => by have := HLo.out; omega));have HWr : Hid (W1.heap.size ≤ wr.heap.size) := qh HI.out.ext.size;obtain ⟨b, o, q, rfl, hrg, hLv⟩ := HWay.out wr HPr.out j vj hvs;obtain ⟨qk, qn, qs, qa, qm, qc, hq⟩ := hLv.form;cases hq
       have HGt := qh (fun W (hP : Pure w0 W) => refgetw_any d vj _ nm w0 W hP hLv (HVl.out vj (by rw [hvj]; exact List.getElem_mem hjw)));have HLast : Hid ((vj.get nm).2 = true → lastG way nm = some (vj.get nm).1) := qh (by
        rw [hvj];exact lastG_from way nm j hjw (fun i hi hji => HNo.out i hi (by omega)))
       have HNo2 : Hid ((vj.get nm).2 = false → ∀ i (hi : i < way.length), j ≤ i → (way[i].get nm).2 = false) := qh (fun h i hi hji => by
        by_cases e : i = j
        ·subst e; rw [← hvj]; exact h
        ·exact HNo.out i hi (by omega))
       obtain ⟨X, hX⟩ : ∃ z, z = vj.get nm := ⟨_, rfl⟩;rw [← hX] at HGt HLast HNo2;obtain ⟨u, B⟩ := X;simp only at HLast HNo2;have HB : Hid (b < wr.heap.size) := qh (World.block_lt_of_cell? wr _ (hrg 0 _ rfl));have HRg := qh hrg;clear hvs hX hLv hrg HNo hvj hjw hxi hJ0;generalize vj.kind = qk at *;generalize vj.n = qn at *;generalize vj.s = qs at *
       go_upto_region 10 with (fail)
       go_cut [9, 10] (fun v t W => ∃ (vb : Nat) (us : List Value), v = .pointer (some ⟨vb, 0, none⟩) ∧ t = .bool B ∧ Hid (BlockIs W vb us 48) ∧ Hid (Lies w0 (d + 1) u us) ∧ Hid (GivI w0 W1 d (tb + 1 + 1) R0 (givenL page way k) a m c xs W) ∧ Hid (wr.heap.size ≤ vb))
       case first =>
        obtain ⟨wd, hwd⟩ : ∃ z, z = wr.drew := ⟨_, rfl⟩;have hPd : Pure wr wd := by rw [hwd]; exact (Ext.refl _ wr).drew
        have HSd : Hid (wd.heap.size = wr.heap.size) := qh (by rw [hwd]; rfl);have HBn : Hid (BlockIs wd nb (docL.map Value.string) 9) := qh ((HNb.out.ext HI.out.ext (by have := HLo.out; omega)).ext hPd id);have HLt : Hid (¬ wd.heap.size ≤ nb ∧ ¬ wd.heap.size ≤ b) := qh ⟨by have := HBn.out.lt; omega, by have := HB.out; have := HSd.out; omega⟩;have HRd : Hid (∀ W, Ext (fun b => wd.heap.size ≤ b) wd W → W.rangeAt b (o + j * 4) [.int .i64 qk, .int .i64 qn, .string qs, .slice qa qm qc]) := qh (fun W hE i v hv => hE.cell_some (hPd.cell_some (HRg.out i v hv) id) HLt.out.2);have hPw : Pure wd wd := Ext.refl _ _;refine region_start (fun b => wd.heap.size ≤ b) (by kernel_rfl) ?_
        try simp only [Act.put, sA, sZ, sS]
        rw [← hwd];clear hwd;refine rT 0 34 ?_;refine rT 1 35 ?_;refine rT 2 36 ?_;refine rU 3 37 (v := ?vgb3) (fun w' hS => ?hgb3) ?rgb3
        case hgb3 => (have hx := HRd.out w' hS; have e0 : w'.cell? ⟨b, o + j * 4, none⟩ = some (.int .i64 qk) := hx 0 _ rfl; have e1 : w'.cell? ⟨b, o + j * 4 + 1, none⟩ = some (.int .i64 qn) := hx 1 _ rfl; have e2 : w'.cell? ⟨b, o + j * 4 + 2, none⟩ = some (.string qs) := hx 2 _ rfl; have e3 : w'.cell? ⟨b, o + j * 4 + 3, none⟩ = some (.slice qa qm qc) := hx 3 _ rfl; clear hx; go_simp; with_reducible rfl)
        try simp only [Act.put, sA, sZ, sS]
        refine rT 4 38 ?_;refine rT 5 39 ?_;refine rT 6 40 ?_;refine rU 7 41 (v := ?vgb7) (fun w' hS => ?hgb7) ?rgb7
        case hgb7 => (have e : w'.cell? ⟨nb, k, none⟩ = some (.string nm) := HCn2.out w' (HBn.out.ext hS HLt.out.1); go_simp; with_reducible rfl)
        try simp only [Act.put, sA, sZ, sS]
        refine wpAnyH_ready (rs := [8, 12]) (by kernel_rfl) (by simp) (AllReadyH.cons rfl (fun K hK => ?_) (AllReadyH.cons rfl (fun K hK => ?_) (AllReadyH.nil)))
        go_simp
        refine (HGt.out wd (HP0.out.pure (HPr.out.pure (hPd.pure hPw)))).mono ?_;rintro e V1 ⟨us, rfl, hL, hP⟩;obtain ⟨uk, un, ust, ua, um, uc, hus⟩ := hL.form;subst hus;have HLf := qh hL;have hPw := hPw.pure hP;clear hL;refine hK.out _ _ (hP.mono (fun _ _ e => e.elim)) (fun hHeld => ?_);clear hK K hHeld;refine region_now (hP.mono (fun _ _ e => e.elim)) ?_
        try simp only [Act.put, sA, sZ, sS]
        refine rT 9 33 ?_;refine rT 10 43 ?_;refine rT 11 44 ?_;refine rR 12 (fun K hK => ?_)
        go_simp
        obtain ⟨V2, hwn⟩ : ∃ z, z = V1.alloc (.cells #[.int .i64 0, .int .i64 0, .string ⟨#[]⟩, .slice none 0 0] 48) := ⟨_, rfl⟩;have hP : Pure V1 V2 := by rw [hwn]; exact ext_alloc _ _
        have hBv : BlockIs V2 V1.heap.size [.int .i64 0, .int .i64 0, .string ⟨#[]⟩, .slice none 0 0] 48 := by rw [hwn]; exact BlockIs.new _ _ _
        rw [← hwn];obtain ⟨vb, hvb⟩ : ∃ z, z = V1.heap.size := ⟨_, rfl⟩;rw [← hvb] at hBv ⊢;have hvd : wd.heap.size ≤ vb := by rw [hvb]; exact hPw.size
        have hPw := hPw.pure hP;clear hwn hvb;refine hK.out _ _ (hP.mono (fun _ _ e => e.elim)) (fun hHeld => ?_);clear hK K hHeld;refine region_now (hP.mono (fun _ _ e => e.elim)) ?_
        try simp only [Act.put, sA, sZ, sS]
        refine rR 13 (fun K hK => ?_);have hTh : V2.there vb 0 (#[.int .i64 uk, .int .i64 un, .string ust, .slice ua um uc] : Array Value).size := hBv.there 4 rfl;have hSi : (Tryz.prog.info? 48).map (·.size) = some (#[.int .i64 uk, .int .i64 un, .string ust, .slice ua um uc] : Array Value).size := size24;have hOn : (#[.int .i64 uk, .int .i64 un, .string ust, .slice ua um uc] : Array Value).all (fun u => u.oneCell') = true := HLf.out.one;obtain ⟨V3, hV3⟩ : ∃ z, z = V2.setCells vb 0 [.int .i64 uk, .int .i64 un, .string ust, .slice ua um uc] := ⟨_, rfl⟩;have hX : Ext (fun b => wd.heap.size ≤ b) V2 V3 := by rw [hV3]; exact Ext.setCells (S := fun b => wd.heap.size ≤ b) _ 0 _ (Ext.refl _ _) (b := vb) (fun _ => hvd)
        have HBf : Hid (BlockIs V3 vb [.int .i64 uk, .int .i64 un, .string ust, .slice ua um uc] 48) := qh (by rw [hV3]; exact hBv.setAll _ rfl);have HIf : Hid (GivI w0 W1 d (tb + 1 + 1) R0 (givenL page way k) a m c xs V3) := qh (HI.out.pure (hPd.pure (hPw.trans hX (fun i hi e => by omega))));have HVf : Hid (wr.heap.size ≤ vb) := qh (by have := HSd.out; omega);have HV3 : Hid (V2.setCells vb 0 (#[.int .i64 uk, .int .i64 un, .string ust, .slice ua um uc] : Array Value).toList = V3) := qh (by rw [hV3]);clear hV3;refine step_of_list ?_;refine wpList_store_mid rfl 48 (.tmp 9) (.tmp 43) rfl vb 0 #[.int .i64 uk, .int .i64 un, .string ust, .slice ua um uc] rfl rfl hTh hSi hOn ?_;rw [HV3.out];refine hK.out _ _ (hX) (fun hHeld => ?_);clear hK K hHeld;refine region_now (hX) ?_
        try simp only [Act.put, sA, sZ, sS]
        refine rT 14 10 ?_;refine wpAnyH_done (by kernel_rfl) ?_ _
        rotate_left
        go_simp
        obtain ⟨V1, hwn⟩ : ∃ z, z = wd.alloc (.cells #[.int .i64 0, .int .i64 0, .string ⟨#[]⟩, .slice none 0 0] 48) := ⟨_, rfl⟩;have hP : Pure wd V1 := by rw [hwn]; exact ext_alloc _ _
        have hBv : BlockIs V1 wd.heap.size [.int .i64 0, .int .i64 0, .string ⟨#[]⟩, .slice none 0 0] 48 := by rw [hwn]; exact BlockIs.new _ _ _
        rw [← hwn];obtain ⟨vb, hvb⟩ : ∃ z, z = wd.heap.size := ⟨_, rfl⟩;rw [← hvb] at hBv ⊢;have hvd : wd.heap.size ≤ vb := by rw [hvb]; exact hPw.size
        have hPw := hPw.pure hP;clear hwn hvb;refine hK.out _ _ (hP.mono (fun _ _ e => e.elim)) (fun hHeld => ?_);clear hK K hHeld;refine region_now (hP.mono (fun _ _ e => e.elim)) ?_
        try simp only [Act.put, sA, sZ, sS]
        refine rR 8 (fun K hK => ?_)
        go_simp
        refine (HGt.out V1 (HP0.out.pure (HPr.out.pure (hPd.pure hPw)))).mono ?_;rintro e V2 ⟨us, rfl, hL, hP⟩;obtain ⟨uk, un, ust, ua, um, uc, hus⟩ := hL.form;subst hus;have HLf := qh hL;have hPw := hPw.pure hP;have hBv := hBv.ext hP id;clear hL;refine hK.out _ _ (hP.mono (fun _ _ e => e.elim)) (fun hHeld => ?_);clear hK K hHeld;refine region_now (hP.mono (fun _ _ e => e.elim)) ?_
        try simp only [Act.put, sA, sZ, sS]
        refine rT 9 33 ?_;refine rT 10 43 ?_;refine rT 11 44 ?_;refine rR 13 (fun K hK => ?_);have hTh : V2.there vb 0 (#[.int .i64 uk, .int .i64 un, .string ust, .slice ua um uc] : Array Value).size := hBv.there 4 rfl;have hSi : (Tryz.prog.info? 48).map (·.size) = some (#[.int .i64 uk, .int .i64 un, .string ust, .slice ua um uc] : Array Value).size := size24;have hOn : (#[.int .i64 uk, .int .i64 un, .string ust, .slice ua um uc] : Array Value).all (fun u => u.oneCell') = true := HLf.out.one;obtain ⟨V3, hV3⟩ : ∃ z, z = V2.setCells vb 0 [.int .i64 uk, .int .i64 un, .string ust, .slice ua um uc] := ⟨_, rfl⟩;have hX : Ext (fun b => wd.heap.size ≤ b) V2 V3 := by rw [hV3]; exact Ext.setCells (S := fun b => wd.heap.size ≤ b) _ 0 _ (Ext.refl _ _) (b := vb) (fun _ => hvd)
        have HBf : Hid (BlockIs V3 vb [.int .i64 uk, .int .i64 un, .string ust, .slice ua um uc] 48) := qh (by rw [hV3]; exact hBv.setAll _ rfl);have HIf : Hid (GivI w0 W1 d (tb + 1 + 1) R0 (givenL page way k) a m c xs V3) := qh (HI.out.pure (hPd.pure (hPw.trans hX (fun i hi e => by omega))));have HVf : Hid (wr.heap.size ≤ vb) := qh (by have := HSd.out; omega);have HV3 : Hid (V2.setCells vb 0 (#[.int .i64 uk, .int .i64 un, .string ust, .slice ua um uc] : Array Value).toList = V3) := qh (by rw [hV3]);clear hV3;refine step_of_list ?_;refine wpList_store_mid rfl 48 (.tmp 9) (.tmp 43) rfl vb 0 #[.int .i64 uk, .int .i64 un, .string ust, .slice ua um uc] rfl rfl hTh hSi hOn ?_;rw [HV3.out];refine hK.out _ _ (hX) (fun hHeld => ?_);clear hK K hHeld;refine region_now (hX) ?_
        try simp only [Act.put, sA, sZ, sS]
        refine rT 14 10 ?_;refine wpAnyH_done (by kernel_rfl) ?_ _
        rotate_left
        all_goals
         go_simp
         try simp only [Act.put, sA, sZ, sS]
         go_wp2_with fail
         go_meet
         exact ⟨_, _, rfl, rfl, HBf, HLf, HIf, HVf⟩
       case rest =>
        obtain ⟨vb, us, rfl, rfl, HBv, HLu, HI2, HVb⟩ := hcut;obtain ⟨W9, rfl⟩ : ∃ z : World, z = wc := ⟨_, rfl⟩;cases B with
        | false =>
          have HNo3 := qh (HNo2.out rfl);have hjj : (j : Int) - 1 + 1 = (j : Int) := by omega
          clear HI HLast HNo2 HGt HRg
          go_wp2_with fail
          go_roundw
          case rel => exact ⟨j, (j : Int) - 1, by omega, rfl, hjj, HNo3, HI2⟩
          case measure => simp [intOf]
        | true =>
          have HSt2 : Hid (givenL page way (k + 1) = givenL page way k ++ [nameV nm, u]) := qh (by rw [HSt.out, HLast.out rfl]; rfl);have HOv : Hid (¬ (Value.slice a m c).ownBlock = some vb ∧ vb < W9.heap.size) := qh ⟨fun e => by have h1 := (HI.out.own.lt vb e).2; have h2 := HVb.out; omega, HBv.out.lt⟩;clear HI HLast HNo2 HGt HRg HSt
          go_upto_region 12 with (fail)
          obtain ⟨uk, un, ust, ua, um, uc, hus⟩ := HLu.out.form;subst hus;obtain ⟨wd, hwd⟩ : ∃ z, z = W9.drew := ⟨_, rfl⟩;have hPd : Pure W9 wd := by rw [hwd]; exact (Ext.refl _ W9).drew
          have HId := qh (HI2.out.pure hPd);have HSd : Hid (wd.heap.size = W9.heap.size) := qh (by rw [hwd]; rfl);have HBn : Hid (BlockIs wd nb (docL.map Value.string) 9) := qh ((HNb.out.ext HI2.out.ext (by have := HLo.out; omega)).ext hPd id);have HBw := qh (HBv.out.ext hPd id);have HLt : Hid (¬ (nb = tb + 1 + 1 ∨ (Value.slice a m c).ownBlock = some nb ∨ wd.heap.size ≤ nb) ∧ ¬ (vb = tb + 1 + 1 ∨ (Value.slice a m c).ownBlock = some vb ∨ wd.heap.size ≤ vb)) := qh ⟨fun e => by
           have h1 := HLo.out;have h2 := HBn.out.lt
           rcases e with e | e | e
           ·omega
           ·have := (HId.out.own.lt nb e).1; omega
           ·omega, fun e => by
           have h1 := HLo.out;have h2 := HOv.out;have h8 := HSd.out;have h3 := HVb.out;have h4 := HPr.out.size;have h5 := HBr1.out.lt
           rcases e with e | e | e
           ·have h6 := HId.out.ext.size
            have := HBo1.out.lt;have h7 : W1.heap.size ≤ wr.heap.size := HWr.out
            omega
           ·exact h2.1 e
           ·omega⟩
          have hPw : Pure wd wd := Ext.refl _ _;refine region_start (fun b => b = tb + 1 + 1 ∨ (Value.slice a m c).ownBlock = some b ∨ wd.heap.size ≤ b) (by kernel_rfl) ?_
          try simp only [Act.put, sA, sZ, sS]
          rw [← hwd];clear hwd;refine rT 0 46 ?_;refine rT 2 48 ?_;refine rT 3 49 ?_;refine rT 4 50 ?_;refine rU 5 51 (v := ?vgc5) (fun w' hS => ?hgc5) ?rgc5
          case hgc5 => (have e : w'.cell? ⟨nb, k, none⟩ = some (.string nm) := HCn2.out w' (HBn.out.ext hS HLt.out.1); go_simp; with_reducible rfl)
          try simp only [Act.put, sA, sZ, sS]
          refine rT 6 52 ?_;refine rU 7 53 (v := ?vgc7) (fun w' hS => ?hgc7) ?rgc7
          case hgc7 => (refine exec_loadV (x := .tmp 9) ?_ ?_ (HBw.out.ext hS HLt.out.2) rfl <;> rfl)
          try simp only [Act.put, sA, sZ, sS]
          refine wpAnyH_ready (rs := [1, 8]) (by kernel_rfl) (by simp) (AllReadyH.cons rfl (fun K hK => ?_) (AllReadyH.cons rfl (fun K hK => ?_) (AllReadyH.nil)));have g3 : wd.cell? ⟨tb + 1 + 1, 3, none⟩ = some (.slice a m c) := HId.out.blk.cell 3
          go_simp
          clear g3;refine hK.out _ _ (Ext.refl _ _) (fun hHeld => ?_);clear hK K hHeld;refine region_now (Ext.refl _ _) ?_
          try simp only [Act.put, sA, sZ, sS]
          refine rR 8 (fun K hK => ?_)
          go_simp
          obtain ⟨V1, hwn⟩ : ∃ z, z = wd.alloc (.cells #[.int .i64 5, .int .i64 0, .string nm, .slice none 0 0, .int .i64 uk, .int .i64 un, .string ust, .slice ua um uc] 48) := ⟨_, rfl⟩;have hP : Pure wd V1 := by rw [hwn]; exact ext_alloc _ _
          have hRw : RowOf V1 (some ⟨wd.heap.size, 0, none⟩) [.int .i64 5, .int .i64 0, .string nm, .slice none 0 0, .int .i64 uk, .int .i64 un, .string ust, .slice ua um uc] := by rw [hwn]; exact row_at _ rfl rfl
          rw [← hwn];obtain ⟨sl, hsl⟩ : ∃ z, z = wd.heap.size := ⟨_, rfl⟩;rw [← hsl] at hRw ⊢;have HI1 := qh (HId.out.pure hP);clear hwn hsl;refine hK.out _ _ (hP.mono (fun _ _ e => e.elim)) (fun hHeld => ?_);clear hK K hHeld;refine region_now (hP.mono (fun _ _ e => e.elim)) ?_
          try simp only [Act.put, sA, sZ, sS]
          refine rR 9 (fun K hK => ?_);refine step_of_list ?_;refine wpList_append_fresh rfl (.tmp 47) (.tmp 54) 46 rfl R0 48 (.agg #[.int .i64 0, .int .i64 0, .string ⟨#[]⟩, .slice none 0 0]) 4 56 Tryz.underlying46 info24 rfl (by decide) (.slice a m c) m xs rfl HI1.out.own (some ⟨sl, 0, none⟩) 2 2 [.int .i64 5, .int .i64 0, .string nm, .slice none 0 0, .int .i64 uk, .int .i64 un, .string ust, .slice ua um uc] rfl (fun e => by cases e) rfl hRw (one8 nm uk un ust ua um uc) (m + 2) rfl (xs ++ [.int .i64 5, .int .i64 0, .string nm, .slice none 0 0, .int .i64 uk, .int .i64 un, .string ust, .slice ua um uc]) rfl (by omega) (by unfold maxLen; omega) (by have h1 := HLo.out; have h2 := HI1.out.ext.size; omega) ?_
          intro a9 c9 V2 hO9 hg9 hf9
          have hX9 : Ext (fun b => b = tb + 1 + 1 ∨ (Value.slice a m c).ownBlock = some b ∨ wd.heap.size ≤ b) V1 V2 := (ext_of_grown hg9).mono (fun _ _ e => Or.inr (Or.inl e));have hE9 := ext_of_grown hg9;have hBo9 := HI1.out.blk.ext hE9 (fun e => by have := (HI1.out.own.lt _ e).1; have := HLo.out; omega);have hW9 : Ext (fun b => b = tb + 1 + 1) W1 V2 := HI1.out.ext.trans hE9 (fun i hi e => by have := (HI1.out.own.lt _ e).1; have := HLo.out; omega);clear hg9;refine hK.out _ _ (hX9) (fun hHeld => ?_);clear hK K hHeld;refine region_now (hX9) ?_
          try simp only [Act.put, sA, sZ, sS]
          refine rT 10 56 ?_;refine rR 11 (fun K hK => ?_);have z3 : V2.frozen? ⟨tb + 1 + 1, 3, none⟩ = false := hBo9.free 3;have c3 : V2.cell? ⟨tb + 1 + 1, 3, none⟩ = some (.slice a m c) := hBo9.cell 3;obtain ⟨V3, hV3⟩ : ∃ z, z = V2.setCell ⟨tb + 1 + 1, 3, none⟩ (.slice a9 (m + 2) c9) := ⟨_, rfl⟩;have hXs : Ext (fun b => b = tb + 1 + 1) V2 V3 := by rw [hV3]; exact Ext.setCell (S := fun b => b = tb + 1 + 1) (Ext.refl _ _) (p := ⟨tb + 1 + 1, 3, none⟩) (fun _ => rfl) _
          have hX : Ext (fun b => b = tb + 1 + 1 ∨ (Value.slice a m c).ownBlock = some b ∨ wd.heap.size ≤ b) V2 V3 := hXs.mono (fun _ _ e => Or.inl e);have HI9 : Hid (GivI w0 W1 d (tb + 1 + 1) R0 (givenL page way (k + 1)) a9 (m + 2) c9 (xs ++ [.int .i64 5, .int .i64 0, .string nm, .slice none 0 0, .int .i64 uk, .int .i64 un, .string ust, .slice ua um uc]) V3) := qh ⟨by rw [HSt2.out, List.length_append, ← HId.out.len]; rfl, by rw [hV3]; exact hBo9.set 3 _, own_ext hO9 hXs (fun g hg e => by have := (hO9.lt g hg).1; have := HLo.out; omega), by rw [HSt2.out]; exact fit8 HId.out.fit HLu.out HKs.out, hW9.trans hXs (fun _ _ e => e)⟩;have HV3 := qh hV3;clear hV3
          go_simp
          rw [← HV3.out];clear z3 c3;refine hK.out _ _ (hX) (fun hHeld => ?_);clear hK K hHeld;refine region_now (hX) ?_
          try simp only [Act.put, sA, sZ, sS]
          refine wpAnyH_done (by kernel_rfl) ?_ _
          rotate_left
          go_simp
          obtain ⟨V1, hwn⟩ : ∃ z, z = wd.alloc (.cells #[.int .i64 5, .int .i64 0, .string nm, .slice none 0 0, .int .i64 uk, .int .i64 un, .string ust, .slice ua um uc] 48) := ⟨_, rfl⟩;have hP : Pure wd V1 := by rw [hwn]; exact ext_alloc _ _
          have hRw : RowOf V1 (some ⟨wd.heap.size, 0, none⟩) [.int .i64 5, .int .i64 0, .string nm, .slice none 0 0, .int .i64 uk, .int .i64 un, .string ust, .slice ua um uc] := by rw [hwn]; exact row_at _ rfl rfl
          rw [← hwn];obtain ⟨sl, hsl⟩ : ∃ z, z = wd.heap.size := ⟨_, rfl⟩;rw [← hsl] at hRw ⊢;have HI1 := qh (HId.out.pure hP);clear hwn hsl;refine hK.out _ _ (hP.mono (fun _ _ e => e.elim)) (fun hHeld => ?_);clear hK K hHeld;refine region_now (hP.mono (fun _ _ e => e.elim)) ?_
          try simp only [Act.put, sA, sZ, sS]
          refine rR 1 (fun K hK => ?_);have g3 : V1.cell? ⟨tb + 1 + 1, 3, none⟩ = some (.slice a m c) := HI1.out.blk.cell 3
          go_simp
          clear g3;refine hK.out _ _ (Ext.refl _ _) (fun hHeld => ?_);clear hK K hHeld;refine region_now (Ext.refl _ _) ?_
          try simp only [Act.put, sA, sZ, sS]
          refine rR 9 (fun K hK => ?_);refine step_of_list ?_;refine wpList_append_fresh rfl (.tmp 47) (.tmp 54) 46 rfl R0 48 (.agg #[.int .i64 0, .int .i64 0, .string ⟨#[]⟩, .slice none 0 0]) 4 56 Tryz.underlying46 info24 rfl (by decide) (.slice a m c) m xs rfl HI1.out.own (some ⟨sl, 0, none⟩) 2 2 [.int .i64 5, .int .i64 0, .string nm, .slice none 0 0, .int .i64 uk, .int .i64 un, .string ust, .slice ua um uc] rfl (fun e => by cases e) rfl hRw (one8 nm uk un ust ua um uc) (m + 2) rfl (xs ++ [.int .i64 5, .int .i64 0, .string nm, .slice none 0 0, .int .i64 uk, .int .i64 un, .string ust, .slice ua um uc]) rfl (by omega) (by unfold maxLen; omega) (by have h1 := HLo.out; have h2 := HI1.out.ext.size; omega) ?_
          intro a9 c9 V2 hO9 hg9 hf9
          have hX9 : Ext (fun b => b = tb + 1 + 1 ∨ (Value.slice a m c).ownBlock = some b ∨ wd.heap.size ≤ b) V1 V2 := (ext_of_grown hg9).mono (fun _ _ e => Or.inr (Or.inl e));have hE9 := ext_of_grown hg9;have hBo9 := HI1.out.blk.ext hE9 (fun e => by have := (HI1.out.own.lt _ e).1; have := HLo.out; omega);have hW9 : Ext (fun b => b = tb + 1 + 1) W1 V2 := HI1.out.ext.trans hE9 (fun i hi e => by have := (HI1.out.own.lt _ e).1; have := HLo.out; omega);clear hg9;refine hK.out _ _ (hX9) (fun hHeld => ?_);clear hK K hHeld;refine region_now (hX9) ?_
          try simp only [Act.put, sA, sZ, sS]
          refine rT 10 56 ?_;refine rR 11 (fun K hK => ?_);have z3 : V2.frozen? ⟨tb + 1 + 1, 3, none⟩ = false := hBo9.free 3;have c3 : V2.cell? ⟨tb + 1 + 1, 3, none⟩ = some (.slice a m c) := hBo9.cell 3;obtain ⟨V3, hV3⟩ : ∃ z, z = V2.setCell ⟨tb + 1 + 1, 3, none⟩ (.slice a9 (m + 2) c9) := ⟨_, rfl⟩;have hXs : Ext (fun b => b = tb + 1 + 1) V2 V3 := by rw [hV3]; exact Ext.setCell (S := fun b => b = tb + 1 + 1) (Ext.refl _ _) (p := ⟨tb + 1 + 1, 3, none⟩) (fun _ => rfl) _
          have hX : Ext (fun b => b = tb + 1 + 1 ∨ (Value.slice a m c).ownBlock = some b ∨ wd.heap.size ≤ b) V2 V3 := hXs.mono (fun _ _ e => Or.inl e);have HI9 : Hid (GivI w0 W1 d (tb + 1 + 1) R0 (givenL page way (k + 1)) a9 (m + 2) c9 (xs ++ [.int .i64 5, .int .i64 0, .string nm, .slice none 0 0, .int .i64 uk, .int .i64 un, .string ust, .slice ua um uc]) V3) := qh ⟨by rw [HSt2.out, List.length_append, ← HId.out.len]; rfl, by rw [hV3]; exact hBo9.set 3 _, own_ext hO9 hXs (fun g hg e => by have := (hO9.lt g hg).1; have := HLo.out; omega), by rw [HSt2.out]; exact fit8 HId.out.fit HLu.out HKs.out, hW9.trans hXs (fun _ _ e => e)⟩;have HV3 := qh hV3;clear hV3
          go_simp
          rw [← HV3.out];clear z3 c3;refine hK.out _ _ (hX) (fun hHeld => ?_);clear hK K hHeld;refine region_now (hX) ?_
          try simp only [Act.put, sA, sZ, sS]
          refine wpAnyH_done (by kernel_rfl) ?_ _
          rotate_left
          all_goals
           go_simp
           try simp only [Act.put, sA, sZ, sS]
           go_wp2_with fail
           go_roundw
           case rel => exact ⟨k + 1, _, _, _, _, by omega, by go_num, HI9⟩
           case measure => simp [intOf]; omega
  ·have hki : ¬ (k : Int) < 4 := by omega
   obtain rfl : k = 4 := by omega
   have hbo := HI.out.blk;have hbr := HBr1.out.ext HI.out.ext (by omega);have g0 : wr.cell? ⟨tb + 1 + 1, 0, none⟩ = some (.int .i64 7) := hbo.cell 0;have g1 : wr.cell? ⟨tb + 1 + 1, 0 + 1, none⟩ = some (.int .i64 0) := hbo.cell 1;have g2 : wr.cell? ⟨tb + 1 + 1, 0 + 2, none⟩ = some (.string ⟨#[]⟩) := hbo.cell 2;have g3 : wr.cell? ⟨tb + 1 + 1, 0 + 3, none⟩ = some (.slice a m c) := hbo.cell 3;have HTh : Hid (wr.there (tb + 1) 0 (#[Value.int .i64 7, .int .i64 0, .string ⟨#[]⟩, .slice a m c] : Array Value).size) := qh (hbr.there 4 rfl);have HSi : Hid ((Tryz.prog.info? 48).map (·.size) = some (#[Value.int .i64 7, .int .i64 0, .string ⟨#[]⟩, .slice a m c] : Array Value).size) := qh size24;have HOn : Hid ((#[Value.int .i64 7, .int .i64 0, .string ⟨#[]⟩, .slice a m c] : Array Value).all (fun u => u.oneCell') = true) := qh (all_oneCell_toArray (by intro u hu; simp only [List.mem_cons, List.not_mem_nil, or_false] at hu; rcases hu with rfl | rfl | rfl | rfl <;> rfl));have HBs : Hid (BlockIs (wr.setCells (tb + 1) 0 [.int .i64 7, .int .i64 0, .string ⟨#[]⟩, .slice a m c]) (tb + 1) [.int .i64 7, .int .i64 0, .string ⟨#[]⟩, .slice a m c] 48) := qh (hbr.setAll _ rfl);have hX : Ext (fun b => b = tb + 1) wr (wr.setCells (tb + 1) 0 [.int .i64 7, .int .i64 0, .string ⟨#[]⟩, .slice a m c]) := Ext.setCells (S := fun b => b = tb + 1) _ 0 _ (Ext.refl _ _) (fun _ => rfl);have HX := qh hX;clear hbo hbr hX
   go_wp2_with (with_reducible refine at_store 48 (.tmp 4) (.tmp 57) ?_; refine wpList_store_mid rfl 48 (.tmp 4) (.tmp 57) rfl (tb + 1) 0 #[.int .i64 7, .int .i64 0, .string ⟨#[]⟩, .slice a m c] rfl rfl HTh.out HSi.out HOn.out ?_)
   refine bodyPost_ret (results_row1 rfl _ _ (tb + 1) _ [.int .i64 7, .int .i64 0, .string ⟨#[]⟩, .slice a m c] _ rfl HBs.out Tryz.underlying48 rfl size24) rfl ?_;have hO := own_ext HI.out.own HX.out (fun g hg e => by have h1 := (HI.out.own.lt g hg).1; have h2 := HLo.out; omega);obtain ⟨a', c', he, h1, h2, h3, h9⟩ := own_form hO;cases he
   refine ⟨[.int .i64 7, .int .i64 0, .string ⟨#[]⟩, .slice a m c], rfl, ⟨a, c, xs, by rw [HI.out.len]; rfl, ?_, h2, fun e => ⟨?_, h3 e⟩, HI.out.fit, own_row hO, Nat.zero_le _⟩, ?_, fun b hb x n' c' hx e => ?_⟩
   ·rw [← show m = (givenR page way).l.length from HI.out.len]; exact h1
   ·have h4 := h3 e
    rw [← show m = (givenR page way).l.length from HI.out.len]; omega
   ·exact HP1.out.trans (HI.out.ext.trans' HX.out (U := fun b => b = tb + 1 + 1 ∨ b = tb + 1) (fun _ _ e => Or.inl e) (fun _ _ e => Or.inr e)) (fun i hi e => by have := HLo.out; omega)
   ·cases hx
    have h5 := (h9 x rfl).1;have h6 := HLo.out;have h7 := HP1.out.size
    omega
