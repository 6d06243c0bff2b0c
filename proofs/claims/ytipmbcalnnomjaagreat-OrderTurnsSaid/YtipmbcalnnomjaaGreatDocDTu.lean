import Derived.Test.YtipmbcalnnomjaaGreatRefsRTu
import Derived.Test.YtipmbcalnnomjaaGreatSlxTu
import Derived.Test.YtipmbcalnnomjaaGreatObjsETu
import Derived.Test.YtipmbcalnnomjaaGreatDropPTu
import Derived.Test.YtipmbcalnnomjaaGreatDownITu
import Derived.Test.YtipmbcalnnomjaaGreatRegListTu
import Derived.Test.YtipmbcalnnomjaaGreatFewDTu
import Derived.Test.YtipmbcalnnomjaaGreatWalkDTu
import Derived.Deep.DeepCutAuto
import Derived.Test.YtipmbcalnnomjaaGreatSqTu
set_option linter.unusedVariables false
set_option linter.unusedSimpArgs false
set_option maxRecDepth 100000
namespace Go.Proofs.YtipmbcalnnomjaaGreat
open Go.RowKit
def NoneTo (w : World) (e : Ending) (w' : World) : Prop := ∃ a c, e = .returned (.slice a 0 c) ∧ w'.ownsRow w.heap.size 3 1 (.slice a 0 c) 0 [] ∧ Pure w w'
set_option maxHeartbeats 1000000 in
theorem grow_any (m : Nat) (w : World) (hm : m ≤ 1000000) : Calls Tryz.prog 52 #[.slice none 0 0, .int .i64 m] w (NoneTo w) := by
 have hm0 : ¬ (m : Int) < 0 := by omega
 by_cases h0 : m = 0
 ·subst h0
  go_enter Tryz.func52, Tryz.ntmps52
  go_wp2_with fail
  go_ret
  exact ⟨none, 0, rfl, World.ownsRow_nil _ _ _ _, Ext.refl _ _⟩
 ·have hm1 : (0 : Int) < (m : Int) := by omega
  have hm2 : 0 < m := by omega
  have HH : Hid (m ≤ 1000000) := qh hm
  clear h0
  go_enter Tryz.func52, Tryz.ntmps52
  go_wp2_with (at_builtin; refine wpList_append_make rfl (.tmp 20) (.tmp 21) 25 3 rfl 3 Tryz.underlying25 Tryz.underlying3 (.int .i64 0) 1 8 infoI rfl (by decide) none 0 0 m [] rfl rfl rfl (fun h => by simp at h) (fun _ => rfl) hm2 (by omega) (by omega) (by unfold maxLen; omega) ?_; intro w2 G r2 hB2 hl2 hG hG2 hP2)
  go_ret
  refine ⟨some ⟨w.heap.size, 0, none⟩, G, by simp, ⟨rfl, Or.inr ⟨w.heap.size, G, r2.toArray, rfl, Nat.le_refl _, ?_, Nat.zero_le _, hG2, ?_, rfl⟩⟩, hP2⟩
  ·have h := hB2
   unfold BlockIs at h
   simpa using h
  ·simp only [List.length_nil, Nat.add_zero] at hl2
   simpa using hl2
structure CRow where
 a : Option Addr
 c : Nat
 l : List Int
def CRow.v (q : CRow) : Value := .slice q.a q.l.length q.c
def catR (rs : List CRow) : List Int := rs.flatMap (·.l)
theorem catR_take {rs : List CRow} {k : Nat} {q : CRow} (h : rs[k]? = some q) : catR (rs.take (k + 1)) = catR (rs.take k) ++ q.l := by
 obtain ⟨hk, rfl⟩ := List.getElem?_eq_some_iff.1 h
 rw [List.take_succ_eq_append_getElem hk, catR, List.flatMap_append]
 simp [catR]
theorem catR_le (rs : List CRow) (k : Nat) : (catR (rs.take k)).length ≤ (catR rs).length := by
 have h := congrArg catR (List.take_append_drop k rs)
 rw [catR, List.flatMap_append] at h
 rw [← h, List.length_append]
 exact Nat.le_add_right _ _
set_option maxHeartbeats 2000000 in
theorem concat_any (rs : List CRow) (ad : Option Addr) (cp : Nat) (w : World) (hr : RowOf w ad (rs.map CRow.v)) (hq : ∀ q ∈ rs, RowOf w q.a (intsV q.l) ∧ (q.a = none → q.c = 0) ∧ q.l.length ≤ q.c) (hl : (catR rs).length ≤ 1000000) (hn : rs.length ≤ 1000000) :
 Calls Tryz.prog 26 #[.slice ad rs.length cp] w (NumsTo (catR rs) w) := by
 have HR := qh hr
 have HQ := qh hq
 have HL := qh hl
 obtain ⟨n, hN⟩ : ∃ z, z = rs.length := ⟨_, rfl⟩
 rw [← hN] at hn ⊢
 have HN := qh hN
 clear hr hq hl hN
 go_enter Tryz.func26, Tryz.ntmps26
 go_wp2_with fail
 go_loopw [3, 11] (fun s i W => ∃ k : Nat, k ≤ n ∧ i = .int .i64 k ∧ s = .int .i64 ((catR (rs.take k)).length : Nat) ∧ W = w) (fun _ i _ => n - (intOf i).toNat)
 case atStart => exact ⟨0, Nat.zero_le _, rfl, rfl, rfl⟩
 case round =>
  obtain ⟨k, hk, rfl, rfl, rfl⟩ := hrel
  obtain ⟨m, hm⟩ : ∃ z, z = (catR (rs.take k)).length := ⟨_, rfl⟩
  have hm2 : m ≤ 1000000 := by rw [hm]; exact Nat.le_trans (catR_le rs k) HL.out
  rw [← hm]
  have HM := qh hm
  clear hm
  by_cases hlt : k < n
  ·have hki : (k : Int) < (n : Int) := by omega
   obtain ⟨q, hqk⟩ : ∃ u, rs[k]? = some u := ⟨_, List.getElem?_eq_getElem (by rw [← HN.out]; exact hlt)⟩
   obtain ⟨b, o, rfl, hc⟩ := HR.out k q.v (by rw [List.getElem?_map, hqk]; rfl)
   have hs := congrArg List.length (catR_take hqk)
   rw [List.length_append, ← HM.out] at hs
   have hs2 : m + q.l.length ≤ 1000000 := by rw [← hs]; exact Nat.le_trans (catR_le rs (k + 1)) HL.out
   have HS := qh hs
   unfold CRow.v at hc
   obtain ⟨ql, hql⟩ : ∃ z, z = q.l.length := ⟨_, rfl⟩
   rw [← hql] at hc HS hs2
   generalize q.a = qa at *
   generalize q.c = qc at *
   have hnn : ¬ (m : Int) + (ql : Int) < 0 := by omega
   clear hqk hs hql
   go_wp2_with fail
   go_roundw
   case rel => exact ⟨k + 1, by omega, by go_num, by rw [HS.out]; go_num, trivial⟩
   case measure => simp [intOf]; omega
  ·have hki : ¬ (k : Int) < (n : Int) := by omega
   obtain ⟨wo, rfl⟩ : ∃ wo : World, wo = wr := ⟨_, rfl⟩
   go_wp2_with fail
   refine (grow_any m _ hm2).mono ?_
   rintro e w2 ⟨ga, gc, rfl, hO, hP⟩
   obtain ⟨B, hB⟩ : ∃ z, z = wo.heap.size := ⟨_, rfl⟩
   rw [← hB] at hO
   have HO := qh hO
   have HP := qh hP
   have HBe := qh hB
   clear hO hP hB
   go_wp2_with fail
   go_loopw [6, 27] (fun s i W => ∃ (k : Nat) (a : Option Addr) (c : Nat), k ≤ n ∧ i = .int .i64 k ∧ s = .slice a (catR (rs.take k)).length c ∧ Hid (W.ownsRow B 3 1 (.slice a (catR (rs.take k)).length c) (catR (rs.take k)).length (intsV (catR (rs.take k)))) ∧ Hid (Pure wo W)) (fun _ i _ => n - (intOf i).toNat)
   case atStart => exact ⟨0, ga, gc, Nat.zero_le _, rfl, rfl, HO, HP⟩
   case round =>
    obtain ⟨k, a, c, hk, rfl, rfl, HOk, HPk⟩ := hrel
    obtain ⟨m, hm⟩ : ∃ z, z = (catR (rs.take k)).length := ⟨_, rfl⟩
    have hm2 : m ≤ 1000000 := by rw [hm]; exact Nat.le_trans (catR_le rs k) HL.out
    rw [← hm] at HOk ⊢
    have HM := qh hm
    clear hm
    by_cases hlt : k < n
    ·have hki : (k : Int) < (n : Int) := by omega
     obtain ⟨q, hqk⟩ : ∃ u, rs[k]? = some u := ⟨_, List.getElem?_eq_getElem (by rw [← HN.out]; exact hlt)⟩
     obtain ⟨hq1, hq2, hq3⟩ := HQ.out q (List.mem_of_getElem? hqk)
     obtain ⟨b, o, rfl, hc⟩ := (HR.out.ext HPk.out (fun _ _ => id)) k q.v (by rw [List.getElem?_map, hqk]; rfl)
     have hs0 := catR_take hqk
     have hs := congrArg List.length hs0
     rw [List.length_append, ← HM.out] at hs
     have hs2 : m + q.l.length ≤ 1000000 := by rw [← hs]; exact Nat.le_trans (catR_le rs (k + 1)) HL.out
     have hRw := hq1.ext HPk.out (fun _ _ => id)
     have HRw := qh hRw
     have HS := qh hs
     have HS0 := qh (by rw [hs0]; exact List.map_append : intsV (catR (rs.take (k + 1))) = intsV (catR (rs.take k)) ++ intsV q.l)
     unfold CRow.v at hc
     have HIl := qh (intsV_len q.l)
     have HOne : Hid (∀ u ∈ intsV q.l, u.oneCell' = true) := qh (fun u hu => by
      unfold intsV at hu
      obtain ⟨x, _, rfl⟩ := List.mem_map.1 hu
      rfl)
     have HNil : Hid (q.a = none → q.l.length = 0 ∧ q.c = 0) := qh (fun h => by have := hq2 h; omega)
     obtain ⟨ql, hql⟩ : ∃ z, z = q.l.length := ⟨_, rfl⟩
     rw [← hql] at hc HS hs2 HIl HNil
     generalize q.a = qa at *
     generalize q.c = qc at *
     generalize intsV q.l = xs at *
     have HIl2 : Hid (xs.length = ql * 1) := qh (by rw [HIl.out, Nat.mul_one])
     have HBs : Hid (B ≤ wr.heap.size) := qh (by rw [HBe.out]; exact HPk.out.size)
     clear hqk hs hql hs0 hq1 hq2 hq3 hRw
     go_wp2_with (at_builtin; refine wpList_append_any rfl (.tmp 31) (.tmp 32) 25 rfl B 3 (.int .i64 0) 1 8 Tryz.underlying25 infoI rfl (by decide) (.slice a m c) m (intsV (catR (rs.take k))) rfl HOk.out qa ql qc xs rfl HNil.out HIl2.out HRw.out HOne.out (m + ql) rfl (intsV (catR (rs.take k)) ++ xs) rfl (by omega) (by unfold maxLen; omega) HBs.out ?_; intro a3 c3 w3 hO3 hg3)
     go_roundw
     case rel =>
      refine ⟨k + 1, a3, c3, by omega, by go_num, by rw [HS.out], qh (by rw [HS.out, HS0.out]; exact hO3), qh (HPk.out.grown hg3 (fun i hi hlt => ?_))⟩
      have := (HOk.out.lt i hi).1
      rw [HBe.out] at this
      omega
     case measure => simp [intOf]; omega
    ·have hki : ¬ (k : Int) < (n : Int) := by omega
     go_wp2_with fail
     go_ret
     have e : rs.take k = rs := List.take_of_length_le (by rw [← HN.out]; omega)
     have h1 := HOk.out
     have h2 := HM.out
     rw [e] at h1 h2
     exact nums_own h1 rfl h2.symm HPk.out
end Go.Proofs.YtipmbcalnnomjaaGreat
namespace Go.Proofs.YtipmbcalnnomjaaGreat
open Go.RowKit Go.Maps
mutual
theorem V.more_mem : ∀ (v : V) (S : List Int) (x : Int), x ∈ v.more S → x ∈ S ∨ x ∈ v.nums
 | .mk k n s l, S, x, h => by
   rw [V.more] at h
   rw [V.nums]
   split at h
   ·rcases List.mem_append.1 h with h | h
    ·exact Or.inl h
    ·exact Or.inr (by rw [List.mem_singleton.1 h]; exact List.mem_cons_self)
   ·split at h
    ·rcases moreL_mem l S x h with h | h
     ·exact Or.inl h
     ·exact Or.inr (List.mem_cons_of_mem _ h)
    ·exact Or.inl h
theorem moreL_mem : ∀ (l : List V) (S : List Int) (x : Int), x ∈ moreL l S → x ∈ S ∨ x ∈ numsL l
 | [], S, x, h => by rw [moreL] at h; exact Or.inl h
 | v :: l, S, x, h => by
   rw [moreL] at h
   rw [numsL, List.mem_append]
   rcases moreL_mem l _ x h with h | h
   ·rcases V.more_mem v S x h with h | h
    ·exact Or.inl h
    ·exact Or.inr (Or.inl h)
   ·exact Or.inr (Or.inr h)
end
theorem numsL_append (l m : List V) : numsL (l ++ m) = numsL l ++ numsL m := by
 induction l with
 | nil => simp [numsL]
 | cons u l ih => rw [List.cons_append, numsL, numsL, ih, List.append_assoc]
theorem dropped_cases (v : V) (key : ByteArray) : v.dropped key = v ∨ ∃ i j, i ≤ j ∧ v.dropped key = .mk v.kind v.n v.s (v.l.take i ++ v.l.drop j) := by
 unfold V.dropped
 split
 ·rename_i i hi
  have := find_lt hi
  exact Or.inr ⟨i, _, by omega, rfl⟩
 ·exact Or.inl rfl
theorem dropped_size (v : V) (key : ByteArray) : (v.dropped key).size ≤ v.size := by
 rcases dropped_cases v key with e | ⟨i, j, hij, e⟩
 ·rw [e]; exact Nat.le_refl _
 ·rw [e]
  cases v with
  | mk k n s l =>
    have h1 := congrArg sizeL (List.take_append_drop i l)
    rw [sizeL_append] at h1
    have h2 := congrArg sizeL (List.take_append_drop (j - i) (l.drop i))
    rw [sizeL_append, List.drop_drop, show i + (j - i) = j by omega] at h2
    simp only [V.kind, V.n, V.s, V.l, V.size, sizeL_append]
    omega
theorem dropped_wf {v : V} (h : v.wf) (key : ByteArray) : (v.dropped key).wf := by
 rcases dropped_cases v key with e | ⟨i, j, _, e⟩
 ·rw [e]; exact h
 ·rw [e]
  intro x hx
  rw [V.nums] at hx
  rcases List.mem_cons.1 hx with rfl | hx
  ·exact h.n
  ·refine h x ?_
   rw [nums_eq]
   refine List.mem_cons_of_mem _ ?_
   rw [numsL_append] at hx
   rcases List.mem_append.1 hx with hx | hx
   ·rw [← List.take_append_drop i v.l, numsL_append]; exact List.mem_append.2 (Or.inl hx)
   ·rw [← List.take_append_drop j v.l, numsL_append]; exact List.mem_append.2 (Or.inr hx)
theorem dropped_nil {v : V} (key : ByteArray) (h : (v.dropped key).l ≠ []) : v.l ≠ [] := by
 intro e
 refine h ?_
 rcases dropped_cases v key with e2 | ⟨i, j, _, e2⟩
 ·rw [e2, e]
 ·rw [e2]
  show v.l.take i ++ v.l.drop j = []
  rw [e]
  simp
theorem Top.ext' {w0 W W' : World} {d : Nat} {v : V} {cs : List Value} {S : Nat → Prop} (h : Top w0 W d v cs) (hP : Ext S W W') (hS : ∀ b, S b → v.l ≠ [] → Off b cs) : Top w0 W' d v cs := by
 obtain ⟨a, c, xs, h1, h2, h3, h4, h5, h6, h7⟩ := h
 refine ⟨a, c, xs, h1, h2, h3, h4, h5, ?_, h7⟩
 by_cases e : v.l = []
 ·have hx : xs = [] := by
   have := h5.len
   rw [e] at this
   exact List.eq_nil_of_length_eq_zero (by simpa using this)
  rw [hx]; exact row_nil _ _
 ·refine h6.ext hP (fun x hx hs => ?_)
  subst hx h1
  exact hS _ hs e x _ _ rfl rfl
structure VAt (w0 W : World) (d bv : Nat) (v : V) (cs : List Value) : Prop where
 top : Top w0 W d v cs
 blk : BlockIs W bv cs 48
 off : v.l ≠ [] → Off bv cs
 lo : w0.heap.size ≤ bv
 base : Pure w0 W
theorem VAt.pure {w0 W W' : World} {d bv : Nat} {v : V} {cs : List Value} (h : VAt w0 W d bv v cs) (hP : Pure W W') : VAt w0 W' d bv v cs :=
 ⟨h.top.pure hP, h.blk.ext hP id, h.off, h.lo, h.base.pure hP⟩
theorem VAt.init {w0 W : World} {d bv : Nat} {v : V} {cs : List Value} (hL : Lies w0 (d + 1) v cs) (hP : Pure w0 W) (hB : BlockIs W bv cs 48) (hlo : w0.heap.size ≤ bv) : VAt w0 W d bv v cs := by
 refine ⟨hL.top.pure hP, hB, fun hne x n c hx e => ?_, hlo, hP⟩
 obtain ⟨a, c', xs, hcs, _, _, _, hfit, hrow, _⟩ := hL.fit
 rw [hcs] at hx
 cases hx
 have hpos : 0 < xs.length := by
  rw [hfit.len]
  have := List.length_pos_iff.2 hne
  omega
 obtain ⟨b, o, hb, hc⟩ := hrow 0 _ (List.getElem?_eq_getElem hpos)
 cases hb
 have := World.block_lt_of_cell? w0 _ hc
 simp only at this e
 omega
theorem VAt.store {w0 W W1 : World} {d bv : Nat} {v u : V} {cs cs' : List Value} (h : VAt w0 W d bv v cs) (hT : Top w0 W1 d u cs') (hP : Pure W W1) (ho : u.l ≠ [] → Off bv cs') : VAt w0 (W1.setCells bv 0 cs') d bv u cs' := by
 have hX : Ext (fun k => k = bv) W1 (W1.setCells bv 0 cs') := Ext.setCells cs' 0 W1 (Ext.refl _ _) (b := bv) (fun _ => rfl)
 refine ⟨hT.ext' hX (fun b hb hne => ?_), (h.blk.ext hP id).setAll cs' (by rw [h.top.len, hT.len]), ho, h.lo, (h.base.pure hP).trans hX (fun i hi e => ?_)⟩
 ·subst hb; exact ho hne
 ·have := h.lo
  omega
theorem off_dropped {w0 W W1 : World} {d bv : Nat} {v : V} {key : ByteArray} {cs cs' : List Value} (hlt : bv < W.heap.size) (h : v.l ≠ [] → Off bv cs) (hO : ∀ b, b < W.heap.size → Off b cs → Off b cs') : (v.dropped key).l ≠ [] → Off bv cs' :=
 fun hne => hO bv hlt (h (dropped_nil key hne))
structure InMap (W : World) (tm B k : Nat) (D : DataW Unit) (M : Int → Int) : Prop where
 mp : BlockIs W tm [.map (some B)] 122
 own : W.ownsMap Tryz.prog 3 (plainElem Tryz.prog 3) B k D
 look : ∀ x, D.atKey (.int .i64 x) (.lit (.int .i64 0)) = .lit (.int .i64 (M x))
theorem InMap.pure {W W' : World} {tm B k : Nat} {D : DataW Unit} {M : Int → Int} (h : InMap W tm B k D M) (hP : Pure W W') : InMap W' tm B k D M := ⟨h.mp.ext hP id, own_map_ext h.own hP id, h.look⟩
theorem InMap.lookup {W : World} {tm B k : Nat} {D : DataW Unit} {M : Int → Int} (h : InMap W tm B k D M) {x : Int} (hw : (Lit.int .i64 x).wf = true) :
 (Instr.lookup 122 (.map (some B)) (.int .i64 x) false).run Tryz.prog W = .ok (.int .i64 (M x)) W := by
 obtain ⟨c, hrun, hat, _⟩ := h.own.lookup_int lawInt Tryz.underlying122 Tryz.underlying3 (zeroI W) (keyOf_int_mk Tryz.underlying3 hw)
 rw [h.look x] at hat
 cases hat
 exact hrun
theorem stray1_any (x : Int) (hw : (Lit.int .i64 x).wf = true) (tm B k : Nat) (D : DataW Unit) (p : Int → Bool) (w : World) (h : InMap w tm B k D (fun x => if p x = true then 1 else 0)) :
 Calls Tryz.prog 70 #[.int .i64 x, .pointer (some ⟨tm, 0, none⟩)] w (BoolTo (p x) w) := by
 have cm : w.cell? ⟨tm, 0, none⟩ = some (.map (some B)) := h.mp.cell 0
 have hrun := h.lookup hw
 obtain ⟨q, hq⟩ : ∃ z, z = p x := ⟨_, rfl⟩
 rw [← hq] at hrun ⊢
 clear h hq hw
 cases q with
 | true =>
   rw [if_pos rfl] at hrun
   go_enter Tryz.func70, Tryz.ntmps70
   go_wp2_with fail
   go_ret
   exact ⟨rfl, Ext.refl _ _⟩
 | false =>
   rw [if_neg (by decide)] at hrun
   go_enter Tryz.func70, Tryz.ntmps70
   go_wp2_with fail
   go_ret
   exact ⟨rfl, Ext.refl _ _⟩
theorem stray1_goes : ∀ args w, (callFunc 70 args).run Tryz.prog w = .ok (.enter 70 args) w := enters Tryz.func70 (by decide +kernel) rfl
theorem at_insert {P : Program} {ops : Array Oper} {rest : List Oper} {d : Option Tmp} {ty : TypeId} {ps : String} {af : Array Edge} {g : Option (Nat × Bool)} {a : Act} {w : World} {Q : Exit → Act → World → Prop} (t : TypeId) (m x v : Operand)
 (h : wpList P ops Q (⟨d, .insert t m x v, ty, ps, af, g⟩ :: rest) a w) : wpList P ops Q (⟨d, .insert t m x v, ty, ps, af, g⟩ :: rest) a w := h
theorem wpList_insert_own {H : Type} {P : Program} (w : World) {ops : Array Oper} {rest : List Oper} {o : Oper} {a : Act} {Q : Exit → Act → World → Prop}
 (hg : o.guard = none) (m x v : Operand) (t : TypeId) (hop : o.op = Op.insert t m x v)
 (k e : TypeId) (K : Keyed P k) (ht : P.underlying t = some (.map k e)) (R : Value → Option (DataW H × List MemPlace)) (b n : Nat) (D : DataW H)
 (hm : a.eval m = .map (some b)) (hown : w.ownsMap P k R b n D) (hn : n < maxLen) (key val : Value) (kl : Lit) (hx : a.eval x = key) (hv : a.eval v = val) (hkey : keyOf P k key = some kl)
 (d : DataW H) (ps : List MemPlace) (hval : R val = some (d, ps))
 (hK : ∀ w', w'.ownsMap P k R b (n + 1) (D.put kl d) → w.grownBy w' (some b) → wpList P ops Q rest (a.put o.dst undef) w') :
 wpList P ops Q (o :: rest) a w := by
 refine wpList_plain hg fun K' hK' => ?_
 obtain ⟨w', hrun, r1, r2⟩ := hown.update K ht hn hkey hval
 unfold Oper.wp
 simp [execOp, hop, hm, hx, hv, hrun, Result.andThen]
 exact hK' _ _ (hK w' r1 r2)
theorem exec_load_r {oi : Oper} {ev : Operand → Value} {w : World} {x : Operand} {b o : Nat} {cs : List Value} (ho : oi.op = .load 48 x) (hx : ev x = .pointer (some ⟨b, o, none⟩)) (hc : w.rangeAt b o cs) (hl : cs.length = 4) :
 (execOp ev oi).run Tryz.prog w = .ok (.value (.agg cs.toArray)) w := by
 unfold execOp
 simp only [ho, hx, Instr.loadAt, Instr.sureAddr, Sem.run_bind, Sem.run_pure, Result.andThen_ok, run_loadVar_mid w b o 48 cs _ hc Tryz.underlying48 rfl (by rw [hl]; exact size24)]
def StrayV (w w1 : World) (d bv : Nat) (v : V) (W : World) : Prop := ∃ cs, VAt w W d bv v cs ∧ v.size ≤ 100000 ∧ v.wf ∧ Pure w1 W
theorem StrayV.pure {w w1 W W' : World} {d bv : Nat} {v : V} (h : StrayV w w1 d bv v W) (hP : Pure W W') : StrayV w w1 d bv v W' := by
 obtain ⟨cs, h1, h2, h3, h4⟩ := h
 exact ⟨cs, h1.pure hP, h2, h3, h4.pure hP⟩
theorem StrayV.base {w w1 W : World} {d bv : Nat} {v : V} (h : StrayV w w1 d bv v W) : Pure w1 W := by
 obtain ⟨cs, h1, h2, h3, h4⟩ := h
 exact h4
theorem StrayV.drop {w w1 W W1 : World} {d bv : Nat} {v : V} {key : ByteArray} {cs cs1 : List Value} (hV : VAt w W d bv v cs) (hz : v.size ≤ 100000) (hf : v.wf) (hP1 : Pure w1 W) (hlo : w1.heap.size ≤ bv) (hT : Top w W1 d (v.dropped key) cs1) (hP : Pure W W1) (hO : ∀ b, b < W.heap.size → Off b cs → Off b cs1) : StrayV w w1 d bv (v.dropped key) (W1.setCells bv 0 cs1) := by
 refine ⟨cs1, hV.store hT hP (off_dropped (w0 := w) (W := W) (W1 := W1) (d := d) hV.blk.lt hV.off hO), Nat.le_trans (dropped_size v key) hz, dropped_wf hf key, ?_⟩
 exact (hP1.pure hP).trans (Ext.setCells (S := fun k => k = bv) cs1 0 W1 (Ext.refl _ _) (b := bv) (fun _ => rfl)) (fun i hi e => by omega)
theorem StrayV.drop2 {w w1 W W1 W2 : World} {d bv : Nat} {v : V} {k1 k2 : ByteArray} {cs cs1 cs2 : List Value} (hV : VAt w W d bv v cs) (hz : v.size ≤ 100000) (hf : v.wf) (hP1 : Pure w1 W) (hlo : w1.heap.size ≤ bv) (hQ1 : Pure W W1) (hO1 : ∀ b, b < W.heap.size → Off b cs → Off b cs1) (hT : Top w W2 d ((v.dropped k1).dropped k2) cs2) (hP : Pure W1 W2) (hO : ∀ b, b < W1.heap.size → Off b cs1 → Off b cs2) : StrayV w w1 d bv ((v.dropped k1).dropped k2) (W2.setCells bv 0 cs2) := by
 have h1 := off_dropped (w0 := w) (W := W) (W1 := W1) (d := d) (key := k1) hV.blk.lt hV.off hO1
 have h2 := off_dropped (w0 := w) (W := W1) (W1 := W2) (d := d) (key := k2) (hV.blk.ext hQ1 id).lt h1 hO
 refine ⟨cs2, hV.store hT (hQ1.pure hP) h2, Nat.le_trans (dropped_size _ k2) (Nat.le_trans (dropped_size v k1) hz), dropped_wf (dropped_wf hf k1) k2, ?_⟩
 exact ((hP1.pure hQ1).pure hP).trans (Ext.setCells (S := fun k => k = bv) cs2 0 W2 (Ext.refl _ _) (b := bv) (fun _ => rfl)) (fun i hi e => by omega)
theorem row_map {w w' : World} {ad : Option Addr} {cs : List Value} {P : Program} {k : TypeId} {R : Value → Option (DataW Unit × List MemPlace)} {B n : Nat} {D : DataW Unit} (h : RowOf w ad cs) (hm : w.ownsMap P k R B n D) (hE : Ext (fun i => i = B) w w') : RowOf w' ad cs := by
 intro i u hu
 obtain ⟨b, o, h1, h2⟩ := h i u hu
 refine ⟨b, o, h1, hE.cell_some h2 (fun e => ?_)⟩
 obtain ⟨es, clock, hb, _⟩ := hm
 simp only at e
 subst e
 unfold World.cell? at h2
 rw [hb] at h2
 simp at h2
def inP (root : Int) (S : List Int) (x : Int) : Bool := decide (x = root ∨ x ∈ S)
theorem inP_snoc (root : Int) (S : List Int) (y : Int) (x : Int) : (if x = y then (1 : Int) else if inP root S x = true then 1 else 0) = if inP root (S ++ [y]) x = true then 1 else 0 := by
 unfold inP
 by_cases e : x = y
 ·rw [if_pos e, if_pos (by simp [e])]
 ·rw [if_neg e]
  by_cases h : x = root ∨ x ∈ S
  ·rw [if_pos (decide_eq_true h), if_pos (by simp only [decide_eq_true_eq, List.mem_append]; rcases h with h | h; exact Or.inl h; exact Or.inr (Or.inl h))]
  ·rw [if_neg (by simpa using h), if_neg (by simp only [decide_eq_true_eq, List.mem_append, List.mem_singleton]; rintro (h2 | h2 | h2); exact h (Or.inl h2); exact h (Or.inr h2); exact e h2)]
theorem cutP_eq (root : Int) (t : Tr) (n : Int) (v : V) : cutP root t n v =
 (if n ∈ t.pages then (if n ∈ t.nodes then ((if n = root then v.dropped ⟨#[80, 97, 103, 101, 115]⟩ else v).dropped ⟨#[75, 105, 100, 115]⟩).dropped ⟨#[80, 97, 114, 101, 110, 116]⟩ else (if n = root then v.dropped ⟨#[80, 97, 103, 101, 115]⟩ else v)).dropped ⟨#[80, 97, 114, 101, 110, 116]⟩
  else (if n ∈ t.nodes then ((if n = root then v.dropped ⟨#[80, 97, 103, 101, 115]⟩ else v).dropped ⟨#[75, 105, 100, 115]⟩).dropped ⟨#[80, 97, 114, 101, 110, 116]⟩ else (if n = root then v.dropped ⟨#[80, 97, 103, 101, 115]⟩ else v))) := by
 rw [k_pages, k_kids, k_parent]
 rfl
theorem stray_step {l : List Ob} {k : Nat} {u : Ob} (hu : l[k]? = some u) (root : Int) (t : Tr) : (List.range (k + 1)).any (fun k => leadsB root t (cutP root t ((k : Int) + 1) (l.getD k noOb).v)) = ((List.range k).any (fun k => leadsB root t (cutP root t ((k : Int) + 1) (l.getD k noOb).v)) || leadsB root t (cutP root t ((k : Int) + 1) u.v)) := by
 rw [List.range_succ, List.any_append]
 simp [List.getD, hu]
set_option maxHeartbeats 8000000 in
theorem stray_docs (d : Nat) (l : List Ob) (oa : Option Addr) (oc : Nat) (rows : List (List Value)) (root : Int) (t : Tr) (a1 a2 : Option Addr) (x1 x2 : Nat) (w : World) (hD : DocOk w d l oa rows root)
 (h1 : RowOf w a1 (intsV t.nodes)) (h2 : RowOf w a2 (intsV t.pages)) (hn1 : a1 = none → x1 = 0) (hn2 : a2 = none → x2 = 0) (hc1 : t.nodes.length ≤ x1) (hc2 : t.pages.length ≤ x2) (hl1 : t.nodes.length ≤ 5000) (hl2 : t.pages.length ≤ 5000)
 (hw1 : ∀ x ∈ t.nodes, (Lit.int .i64 x).wf = true) (hw2 : ∀ x ∈ t.pages, (Lit.int .i64 x).wf = true) :
 Calls Tryz.prog 37 #[.agg #[.slice oa l.length oc, .int .i64 root], .agg #[.slice a1 t.nodes.length x1, .slice a2 t.pages.length x2]] w (BoolTo (strayP l root t) w) := by
 have hmm := @run_makeMap Tryz.prog
 obtain ⟨F, hF⟩ : ∃ z, z = strayP l root t := ⟨_, rfl⟩
 rw [← hF]
 unfold strayP at hF
 obtain ⟨n, hn⟩ : ∃ z, z = l.length := ⟨_, rfl⟩
 rw [← hn] at hF ⊢
 have hn5 : n ≤ 5000 := by rw [hn]; exact hD.len
 obtain ⟨S, hS⟩ : ∃ z, z = t.nodes ++ t.pages := ⟨_, rfl⟩
 have HSw : Hid (∀ x ∈ S, (Lit.int .i64 x).wf = true) := qh (fun x hx => by rw [hS] at hx; rcases List.mem_append.1 hx with h | h; exact hw1 x h; exact hw2 x h)
 have HSl : Hid (S.length ≤ 10000) := qh (by rw [hS, List.length_append]; omega)
 have HCc := qh (fun W ad (hP : Pure w W) (hr : RowOf W ad [.slice a1 t.nodes.length x1, .slice a2 t.pages.length x2]) => concat_any [⟨a1, x1, t.nodes⟩, ⟨a2, x2, t.pages⟩] ad 2 W hr (fun q hq => by
  simp only [List.mem_cons, List.not_mem_nil, or_false] at hq
  rcases hq with rfl | rfl
  ·exact ⟨h1.ext hP (fun _ _ => id), hn1, hc1⟩
  ·exact ⟨h2.ext hP (fun _ _ => id), hn2, hc2⟩) (by simp only [catR, List.flatMap_cons, List.flatMap_nil, List.append_nil, List.length_append]; omega) (by simp))
 have HcR : Hid (catR [⟨a1, x1, t.nodes⟩, ⟨a2, x2, t.pages⟩] = S) := qh (by rw [hS]; simp [catR])
 rw [HcR.out] at HCc
 have HC0 := qh (fun x W (hP : Pure w W) => contains_any x a1 x1 t.nodes W (h1.ext hP (fun _ _ => id)) (by omega))
 have HC1 := qh (fun x W (hP : Pure w W) => contains_any x a2 x2 t.pages W (h2.ext hP (fun _ _ => id)) (by omega))
 obtain ⟨an, han⟩ : ∃ z, z = t.nodes.length := ⟨_, rfl⟩
 obtain ⟨bn, hbn⟩ : ∃ z, z = t.pages.length := ⟨_, rfl⟩
 rw [← han] at HC0 HCc ⊢
 rw [← hbn] at HC1 HCc ⊢
 have HN := qh hn
 have HF := qh hF
 have HD := qh hD
 have HLd : Hid (∀ v, leadsB root t v = (v.more []).any (inP root S)) := qh (fun v => by
  unfold leadsB inP Tr.has
  congr 1
  funext x
  exact decide_eq_decide.2 (by rw [hS, List.mem_append]))
 obtain ⟨w2, hw2e⟩ : ∃ z, z = ((w.alloc (.cells #[.slice oa n oc, .int .i64 root] 24)).alloc (.cells #[.slice a1 an x1, .slice a2 bn x2] 85)).alloc (.map #[] 0) := ⟨_, rfl⟩
 obtain ⟨tb, htb⟩ : ∃ z, z = w.heap.size := ⟨_, rfl⟩
 have HP2 : Hid (Pure w w2) := qh (by rw [hw2e]; exact ((ext_alloc w _).pure (ext_alloc _ _)).pure (ext_alloc _ _))
 have HB1 : Hid (BlockIs w2 tb [.slice oa n oc, .int .i64 root] 24) := qh (by rw [hw2e, htb]; exact ((BlockIs.new w [.slice oa n oc, .int .i64 root] 24).alloc _).alloc _)
 have HB2 : Hid (BlockIs w2 (tb + 1) [.slice a1 an x1, .slice a2 bn x2] 85) := qh (by
  have h := (BlockIs.new (w.alloc (.cells #[.slice oa n oc, .int .i64 root] 24)) [.slice a1 an x1, .slice a2 bn x2] 85).alloc (.map #[] 0)
  rw [World.size_alloc, ← htb] at h
  rw [hw2e]; exact h)
 have HO2 : Hid (w2.ownsMap Tryz.prog 3 (plainElem (H := Unit) Tryz.prog 3) (tb + 1 + 1) 0 (.map [])) := qh (by
  have h : (((w.alloc (.cells #[.slice oa n oc, .int .i64 root] 24)).alloc (.cells #[.slice a1 an x1, .slice a2 bn x2] 85)).alloc (.map #[] 0)).ownsMap Tryz.prog 3 (plainElem (H := Unit) Tryz.prog 3) _ 0 (.map []) := World.ownsMap_made _ _ _ _
  rw [World.size_alloc, World.size_alloc, ← htb] at h
  rw [hw2e]; exact h)
 have HW2 : Hid (((w.alloc (.cells #[.slice oa n oc, .int .i64 root] 24)).alloc (.cells #[.slice a1 an x1, .slice a2 bn x2] 85)).alloc (.map #[] 0) = w2) := qh hw2e.symm
 have HTb := qh htb
 have HKy : Hid (keyOf Tryz.prog 3 (.int .i64 root) = some (.int .i64 root)) := qh (keyOf_int_mk Tryz.underlying3 hD.root)
 have HVy : Hid (plainElem (H := Unit) Tryz.prog 3 (.int .i64 1) = some (.lit (.int .i64 1), [])) := qh (plainElem_int Tryz.underlying3 (show (Lit.int .i64 1).wf = true by decide))
 have HM0 : Hid (0 < maxLen) := qh (by decide)
 clear h1 h2 hn1 hn2 hc1 hc2 hl1 hl2 hw1 hw2 hS hn hF han hbn hw2e htb hD
 have HQ3 : Hid (∀ w3, w2.grownBy w3 (some (tb + 1 + 1)) → BlockIs w3 tb [.slice oa n oc, .int .i64 root] 24 ∧ BlockIs w3 (tb + 1) [.slice a1 an x1, .slice a2 bn x2] 85 ∧ tb + 1 < w3.heap.size ∧ tb < w3.heap.size ∧ w3.cell? ⟨tb + 1, 0, none⟩ = some (.slice a1 an x1) ∧ w3.cell? ⟨tb + 1, 1, none⟩ = some (.slice a2 bn x2) ∧ Ext (fun i => i = tb + 1 + 1) w2 w3) := qh (fun w3 hg => by
  have hE := (ext_of_grown hg).mono (T := fun i => i = tb + 1 + 1) (fun i _ e => (Option.some.inj e).symm)
  have h1 := HB1.out.ext hE (by omega)
  have h2 := HB2.out.ext hE (by omega)
  exact ⟨h1, h2, h2.lt, h1.lt, h2.cell 0, h2.cell 1, hE⟩)
 go_enter Tryz.func37, Tryz.ntmps37
 go_wp2_with (with_reducible refine at_insert 122 (.tmp 12) (.tmp 14) (.const (.int .i64 1)) ?_; rw [HW2.out, ← HTb.out]; refine wpList_insert_own (H := Unit) w2 rfl (.tmp 12) (.tmp 14) (.const (.int .i64 1)) 122 rfl 3 3 lawInt Tryz.underlying122 (plainElem (H := Unit) Tryz.prog 3) (tb + 1 + 1) 0 (.map []) rfl HO2.out HM0.out (.int .i64 root) (.int .i64 1) (.int .i64 root) rfl rfl HKy.out (.lit (.int .i64 1)) [] HVy.out ?_; intro w3 hO3 hg3; obtain ⟨hB13, hB23, hlt3, hlt4, q0, q1, hE3⟩ := HQ3.out w3 hg3; have HB13 := qh hB13; have HB23 := qh hB23; have HE3 := qh hE3; have HO3 := qh hO3; clear hE3 hO3 hg3 hB13 hB23)
 obtain ⟨w5, hw5⟩ : ∃ z, z = (w3.alloc (.cells #[.map (some (tb + 1 + 1))] 122)).alloc (.cells #[.slice a1 an x1, .slice a2 bn x2] 25) := ⟨_, rfl⟩
 obtain ⟨tm, htm⟩ : ∃ z, z = w3.heap.size := ⟨_, rfl⟩
 have hP35 : Pure w3 w5 := by rw [hw5]; exact (ext_alloc w3 _).pure (ext_alloc _ _)
 have hPw3 : Pure w w3 := HP2.out.trans HE3.out (fun i hi e => by have := HTb.out; omega)
 have hBm5 : BlockIs w5 tm [.map (some (tb + 1 + 1))] 122 := by rw [hw5, htm]; exact (BlockIs.new w3 [.map (some (tb + 1 + 1))] 122).alloc _
 have hrow5 : RowOf w5 (some ⟨tm + 1, 0, none⟩) [.slice a1 an x1, .slice a2 bn x2] := by rw [hw5]; exact row_at _ (by rw [World.size_alloc, htm]) rfl
 have hI5 : InMap w5 tm (tb + 1 + 1) 1 ((DataW.map []).put (.int .i64 root) (.lit (.int .i64 1))) (fun x => if inP root [] x = true then 1 else 0) := ⟨hBm5, own_map_ext HO3.out hP35 id, fun x => by
  have h := atM_put (D := .map []) (M := fun _ => 0) isMap_empty (fun x => by kernel_rfl) root 1 x
  rw [h]
  unfold inP
  by_cases e : x = root
  ·rw [if_pos e, if_pos (by simp [e])]
  ·rw [if_neg e, if_neg (by simp [e])]⟩
 rw [← hw5, ← htm]
 have HB15 := qh (HB13.out.ext hP35 id)
 have HB25 := qh (HB23.out.ext hP35 id)
 refine (HCc.out w5 _ (hPw3.pure hP35) hrow5).mono ?_
 rintro e w6 ⟨ca, cc, rfl, _, _, _, hRc, hP6⟩
 have HB16 := qh (HB15.out.ext hP6 id)
 have HB26 := qh (HB25.out.ext hP6 id)
 have HI6 := qh (hI5.pure hP6)
 have HPw6 := qh ((hPw3.pure hP35).pure hP6)
 have HRc := qh hRc
 have HZm : Hid (tb + 1 < tm) := qh (by omega)
 obtain ⟨sn, hsn⟩ : ∃ z, z = S.length := ⟨_, rfl⟩
 rw [← hsn]
 have hsn1 : sn ≤ 10000 := by rw [hsn]; exact HSl.out
 have HSn := qh hsn
 have HTm3 : Hid (tb + 1 + 1 < tm) := qh (by rw [htm]; have h := HO3.out.lt; exact h)
 clear hw5 htm hP35 hPw3 hBm5 hrow5 hI5 HB15 HB25 hRc hP6 hsn HCc HB13 HB23 HE3 HO3 q0 q1 hlt3 hlt4 HO2 HB1 HB2
 go_wp2_with fail
 go_loopw [23] (fun i wr => ∃ (k : Nat) (D : DataW Unit), k ≤ sn ∧ i = .int .i64 k ∧ Hid (InMap wr tm (tb + 1 + 1) (k + 1) D (fun x => if inP root (S.take k) x = true then 1 else 0)) ∧ Hid (IsMap D) ∧ Hid (Ext (fun i => i = tb + 1 + 1) w6 wr)) (fun i _ => sn - (intOf i).toNat)
 case atStart => exact ⟨0, _, Nat.zero_le _, rfl, qh (by rw [List.take_zero]; exact HI6.out), qh (isMap_empty.put _ _), qh (Ext.refl _ _)⟩
 case round =>
  obtain ⟨k, D, hk, rfl, HI, HIs, HE⟩ := hrel
  by_cases hlt : k < sn
  ·have hki : (k : Int) < (sn : Int) := by omega
   obtain ⟨x, hx⟩ : ∃ x, S[k]? = some x := ⟨_, List.getElem?_eq_getElem (by rw [← HSn.out]; exact hlt)⟩
   obtain ⟨b, o, rfl, hc⟩ := (row_map HRc.out HI6.out.own HE.out) k (.int .i64 x) (by rw [intsV, List.getElem?_map, hx]; rfl)
   have cm : wr.cell? ⟨tm, 0, none⟩ = some (.map (some (tb + 1 + 1))) := HI.out.mp.cell 0
   have HKx : Hid (keyOf Tryz.prog 3 (.int .i64 x) = some (.int .i64 x)) := qh (keyOf_int_mk Tryz.underlying3 (HSw.out x (List.mem_of_getElem? hx)))
   have HMk : Hid (k + 1 < maxLen) := qh (by unfold maxLen; omega)
   have HUp : Hid (∀ w7, w7.ownsMap Tryz.prog 3 (plainElem Tryz.prog 3) (tb + 1 + 1) (k + 1 + 1) (D.put (.int .i64 x) (.lit (.int .i64 1))) → wr.grownBy w7 (some (tb + 1 + 1)) → InMap w7 tm (tb + 1 + 1) (k + 1 + 1) (D.put (.int .i64 x) (.lit (.int .i64 1))) (fun z => if inP root (S.take (k + 1)) z = true then 1 else 0) ∧ Ext (fun i => i = tb + 1 + 1) w6 w7) := qh (fun w7 hO hg => by
    have hE := (ext_of_grown hg).mono (T := fun i => i = tb + 1 + 1) (fun i _ e => (Option.some.inj e).symm)
    have htm3 := HTm3.out
    refine ⟨⟨HI.out.mp.ext hE (by omega), hO, fun z => ?_⟩, HE.out.trans hE (fun _ _ e => e)⟩
    rw [atM_put HIs.out HI.out.look x 1 z]
    obtain ⟨hkl, rfl⟩ := List.getElem?_eq_some_iff.1 hx
    rw [List.take_succ_eq_append_getElem hkl]
    exact congrArg (fun y => DataW.lit (Lit.int .i64 y)) (inP_snoc root (S.take k) _ z))
   clear hx
   go_wp2_with (at_mapUpdate; refine wpList_mapUpdate_own (H := Unit) wr rfl (.tmp 27) (.tmp 28) (.const (.int .i64 1)) 122 rfl 3 3 lawInt Tryz.underlying122 (plainElem (H := Unit) Tryz.prog 3) (tb + 1 + 1) (k + 1) D rfl HI.out.own HMk.out (.int .i64 x) (.int .i64 1) (.int .i64 x) rfl rfl HKx.out (.lit (.int .i64 1)) [] HVy.out ?_; intro w7 hO7 hg7)
   obtain ⟨hI7, hE7⟩ := HUp.out w7 hO7 hg7
   clear hO7 hg7
   go_roundw
   case rel => exact ⟨k + 1, _, by omega, by go_num, qh hI7, qh (HIs.out.put _ _), qh hE7⟩
   case measure => simp [intOf]; omega
  ·have hki : ¬ (k : Int) < (sn : Int) := by omega
   obtain ⟨wo, rfl⟩ : ∃ wo : World, wo = wr := ⟨_, rfl⟩
   obtain ⟨kk, hkk⟩ : ∃ z, z = k + 1 := ⟨_, rfl⟩
   have HIm : Hid (InMap wo tm (tb + 1 + 1) kk D (fun x => if inP root S x = true then 1 else 0)) := qh (by rw [hkk]; have h := HI.out; rwa [List.take_of_length_le (by rw [← HSn.out]; omega)] at h)
   have HBd := qh (HB16.out.ext HE.out (by omega))
   have HBt := qh (HB26.out.ext HE.out (by omega))
   have HPwo : Hid (Pure w wo) := qh (HPw6.out.trans HE.out (fun i hi e => by have := HTb.out; omega))
   have d0 : wo.cell? ⟨tb, 0, none⟩ = some (.slice oa n oc) := HBd.out.cell 0
   have HK := qh hk
   clear HE HI HIs hk hkk
   go_wp2_with fail
   go_loopw [33] (fun i wr => ∃ k : Nat, k ≤ n ∧ i = .int .i64 k ∧ Hid ((List.range k).any (fun k => leadsB root t (cutP root t ((k : Int) + 1) (l.getD k noOb).v)) = false) ∧ Hid (Pure wo wr)) (fun i _ => n - (intOf i).toNat)
   case atStart => exact ⟨0, Nat.zero_le _, rfl, qh rfl, qh (Ext.refl _ _)⟩
   case round =>
    obtain ⟨k, hk, rfl, HNo, HE⟩ := hrel
    by_cases hlt : k < n
    ·have hki : (k : Int) < (n : Int) := by omega
     obtain ⟨u, hu⟩ : ∃ u, l[k]? = some u := ⟨_, List.getElem?_eq_getElem (by rw [← HN.out]; exact hlt)⟩
     have hum := List.mem_of_getElem? hu
     have HStep := qh (stray_step hu root t)
     obtain ⟨b, o, cs, rfl, _, hl4, hL, hr0⟩ := HD.out.ok.at k u hu
     have hPwr := HPwo.out.pure HE.out
     have hr : wr.rangeAt b (o + k * 6) (cs ++ [Value.bool u.st, Value.string u.data]) := fun j v hv => hPwr.cell_some (hr0 j v hv) id
     have hsz6 : (Tryz.prog.info? 61).map (·.size) = some (cs ++ [Value.bool u.st, Value.string u.data]).length := by rw [List.length_append, hl4]; exact info6
     obtain ⟨va, vc, urows, hcs, _⟩ := hL.kids
     rw [hcs] at hr hsz6 hL
     have HSz6 := qh hsz6
     have HL := qh hL
     have HUz := qh (HD.out.size u hum)
     have HUf := qh (HD.out.wf u hum)
     have HPwr := qh hPwr
     clear hcs hl4 hr0 hu hum hPwr hsz6 hL
     obtain ⟨uv, huv⟩ : ∃ z, z = u.v := ⟨_, rfl⟩
     rw [← huv] at HL HUz HUf hr HSz6 HStep
     generalize uv.l.length = vm at *
     generalize uv.kind = vk at *
     generalize uv.n = vn at *
     generalize uv.s = vs at *
     generalize u.st = st at *
     generalize u.data = dt at *
     clear huv
     simp only [List.cons_append, List.nil_append] at hr HSz6
     have hki1 : (k : Int) + 1 ≤ 5001 := by omega
     have hwk : IntKind.i64.wrap ((k : Int) + 1) = (k : Int) + 1 := by rw [IntKind.wrap_i64]; omega
     go_wp2_with (with_reducible refine at_load 61 (.tmp 36) ?_; refine wpList_load_mid rfl 61 (.tmp 36) rfl b (o + k * 6) rfl [.int .i64 vk, .int .i64 vn, .string vs, .slice va vm vc, .bool st, .string dt] _ hr Tryz.underlying61 rfl HSz6.out ?_)
     obtain ⟨w8, hw8⟩ : ∃ z, z = wr.alloc (.cells #[.int .i64 vk, .int .i64 vn, .string vs, .slice va vm vc, .bool st, .string dt] 61) := ⟨_, rfl⟩
     have hB9 : BlockIs w8.drew wr.heap.size [.int .i64 vk, .int .i64 vn, .string vs, .slice va vm vc, .bool st, .string dt] 61 := by rw [hw8]; exact (BlockIs.new wr [.int .i64 vk, .int .i64 vn, .string vs, .slice va vm vc, .bool st, .string dt] 61).drew
     have hP8 : Pure wr w8 := by rw [hw8]; exact ext_alloc wr _
     obtain ⟨bv, hbv⟩ : ∃ z, z = w8.heap.size := ⟨_, rfl⟩
     have hlt9 : wr.heap.size < bv := by rw [hbv]; exact hB9.lt
     have HRg : Hid (∀ W : World, (∀ i, i < w8.drew.heap.size → ¬ (i = bv) → W.heap[i]? = w8.drew.heap[i]?) → W.rangeAt wr.heap.size 0 [.int .i64 vk, .int .i64 vn, .string vs, .slice va vm vc]) := qh (fun W hW j v hv => by
      have hb : BlockIs W wr.heap.size [.int .i64 vk, .int .i64 vn, .string vs, .slice va vm vc, .bool st, .string dt] 61 := by
       unfold BlockIs
       rw [hW _ hB9.lt (by omega)]
       exact hB9
      rw [Nat.zero_add, hb.cell j]
      have hj : j < 4 := by have := (List.getElem?_eq_some_iff.1 hv).1; exact this
      rw [show [.int .i64 vk, .int .i64 vn, .string vs, .slice va vm vc, .bool st, .string dt] = [.int .i64 vk, .int .i64 vn, .string vs, .slice va vm vc] ++ [Value.bool st, Value.string dt] from rfl, List.getElem?_append_left (by exact hj)]
      exact hv)
     obtain ⟨wB, hwB⟩ : ∃ z, z = (w8.alloc (.cells #[.int .i64 0, .int .i64 0, .string ⟨#[]⟩, .slice none 0 0] 48)).drew := ⟨_, rfl⟩
     obtain ⟨wE, hwE⟩ : ∃ z, z = wB.setCells bv 0 [.int .i64 vk, .int .i64 vn, .string vs, .slice va vm vc] := ⟨_, rfl⟩
     have hBv : BlockIs wB bv zeroCs 48 := by rw [hwB, hbv]; exact (BlockIs.new w8 zeroCs 48).drew
     have hXb : Ext (fun k => k = bv) w8.drew wB := by rw [hwB]; have hE := ((Ext.refl (fun k => k = bv) w8).alloc (.cells #[.int .i64 0, .int .i64 0, .string ⟨#[]⟩, .slice none 0 0] 48)).drew; exact ⟨hE.os, hE.tape, hE.output, hE.size, hE.block⟩
     have hXe : Ext (fun k => k = bv) wB wE := by rw [hwE]; exact Ext.setCells _ 0 _ (Ext.refl _ _) (fun _ => rfl)
     have hBe : BlockIs wE bv [.int .i64 vk, .int .i64 vn, .string vs, .slice va vm vc] 48 := by rw [hwE]; exact hBv.setAll [.int .i64 vk, .int .i64 vn, .string vs, .slice va vm vc] rfl
     have hPE : Pure wr wE := ((hP8.drew).trans (hXb.trans hXe (fun _ _ e => e)) (fun i hi e => by omega))
     have HwB : Hid ((w8.alloc (.cells #[.int .i64 0, .int .i64 0, .string ⟨#[]⟩, .slice none 0 0] 48)).drew = wB) := qh hwB.symm
     have HwE : Hid (wB.setCells bv 0 (#[.int .i64 vk, .int .i64 vn, .string vs, .slice va vm vc] : Array Value).toList = wE) := qh (by rw [hwE])
     have HTh : Hid (wB.there bv 0 (#[.int .i64 vk, .int .i64 vn, .string vs, .slice va vm vc] : Array Value).size) := qh (hBv.there 4 rfl)
     have HSi : Hid ((Tryz.prog.info? 48).map (·.size) = some (#[.int .i64 vk, .int .i64 vn, .string vs, .slice va vm vc] : Array Value).size) := qh size24
     have HOn : Hid (((#[.int .i64 vk, .int .i64 vn, .string vs, .slice va vm vc] : Array Value).all fun u => u.oneCell') = true) := qh HL.out.one
     have HBve : Hid (bv = w8.heap.size) := qh hbv
     have HLo : Hid (wo.heap.size ≤ bv) := qh (by have := HE.out.size; omega)
     obtain ⟨v0, hv⟩ : ∃ z, z = uv := ⟨_, rfl⟩
     have HV0e : Hid (uv = v0) := qh hv.symm
     have HS0 : Hid (StrayV w wo d bv v0 wE) := qh ⟨_, VAt.init (by rw [hv]; exact HL.out) (HPwr.out.pure hPE) hBe (Nat.le_trans HPwo.out.size HLo.out), by rw [hv]; exact HUz.out, by rw [hv]; exact HUf.out, HE.out.pure hPE⟩
     rw [← hw8]
     clear hbv hv hBe hPE hwB hwE hBv hP8 hB9 hw8 hr HSz6
     refine region_start (fun k => k = bv) (by kernel_rfl) ?_
     try simp only [Act.put, sA, sZ, sS]
     refine region_take 0 38 (v := ?vsr0) rfl rfl (by kernel_rfl) (by kernel_rfl) (by kernel_rfl) (fun _ _ _ h => h) (by rfl) (fun w' hS => ?hsr0) ?rsr0
     case hsr0 => go_simp; with_reducible rfl
     try simp only [Act.put, sA, sZ, sS]
     refine region_take 1 39 (v := ?vsr1) rfl rfl (by kernel_rfl) (by kernel_rfl) (by kernel_rfl) (fun _ _ _ h => h) (by rfl) (fun w' hS => ?hsr1) ?rsr1
     case hsr1 => go_simp; with_reducible rfl
     try simp only [Act.put, sA, sZ, sS]
     refine region_take 2 40 (v := ?vsr2) rfl rfl (by kernel_rfl) (by kernel_rfl) (by kernel_rfl) (fun _ _ _ h => h) (by rfl) (fun w' hS => ?hsr2) ?rsr2
     case hsr2 => go_simp; with_reducible rfl
     try simp only [Act.put, sA, sZ, sS]
     refine region_take 3 41 (v := ?vsr3) rfl rfl (by kernel_rfl) (by kernel_rfl) (by kernel_rfl) (fun _ _ _ h => h) (by rfl) (fun w' hS => ?hsr3) ?rsr3
     case hsr3 => (refine exec_load_r (x := .tmp 40) (o := 0) ?_ ?_ (HRg.out w' (fun i hi hn => hS.block i hi hn)) rfl <;> rfl)
     try simp only [Act.put, sA, sZ, sS]
     refine wpAnyH_ready (rs := [4]) (by kernel_rfl) (by simp) (AllReadyH.cons rfl (fun K hK => ?_) AllReadyH.nil)
     go_simp
     rw [HwB.out, ← HBve.out]
     refine hK.out _ _ (hXb) (fun hHeld => ?_)
     clear hK K hHeld
     refine region_now (hXb) ?_
     try simp only [Act.put, sA, sZ, sS]
     refine region_take 5 10 (v := ?vsr5) rfl rfl (by kernel_rfl) (by kernel_rfl) (by kernel_rfl) (fun _ _ _ h => h) (by rfl) (fun w' hS => ?hsr5) ?rsr5
     case hsr5 => go_simp; with_reducible rfl
     try simp only [Act.put, sA, sZ, sS]
     refine wpAnyH_ready (rs := [6]) (by kernel_rfl) (by simp) (AllReadyH.cons rfl (fun K hK => ?_) AllReadyH.nil)
     refine step_of_list ?_
     refine wpList_store_mid rfl 48 (.tmp 11) (.tmp 41) rfl bv 0 #[.int .i64 vk, .int .i64 vn, .string vs, .slice va vm vc] rfl rfl HTh.out HSi.out HOn.out ?_
     rw [HwE.out]
     refine hK.out _ _ (hXe) (fun hHeld => ?_)
     clear hK K hHeld
     refine region_now (hXe) ?_
     try simp only [Act.put, sA, sZ, sS]
     refine wpAnyH_done (by kernel_rfl) ?_ _
     go_simp
     try simp only [Act.put, sA, sZ, sS]
     have d1 : wE.cell? ⟨tb, 1, none⟩ = some (.int .i64 root) := (HBd.out.ext HS0.out.base id).cell 1
     go_upto_if 45 with (fail)
     go_cut [10] (fun x W => x = .int .i64 ((k : Int) + 1) ∧ Hid (StrayV w wo d bv (if ((k : Int) + 1) = root then v0.dropped ⟨#[80, 97, 103, 101, 115]⟩ else v0) W))
     case first =>
      by_cases hc : ((k : Int) + 1) = root
      ·have HC := qh hc
       skip
       obtain ⟨cs, hV, hz, hf, hQ0⟩ := HS0.out
       obtain ⟨va, vc, _, hcs, _⟩ := hV.top.parts
       rw [hcs] at hV
       have HCl := qh (fun key W' (hP : Pure wE W') => drop_top w d v0 _ key W' (hV.base.pure hP) (hV.top.pure hP) (Nat.le_trans (V.len_size v0) hz))
       have HV := qh hV
       have HZ := qh hz
       have HFf := qh hf
       have HQ1 := qh hQ0
       have HLv := qh (hV.top.lies hV.base)
       clear hcs hV hz hf hQ0
       generalize v0.l.length = vm at *
       generalize v0.kind = vk at *
       generalize v0.n = vn at *
       generalize v0.s = vs at *
       have g0 : wE.cell? ⟨bv, 0, none⟩ = some (.int .i64 vk) := HV.out.blk.cell 0
       have g1 : wE.cell? ⟨bv, 1, none⟩ = some (.int .i64 vn) := HV.out.blk.cell 1
       have g2 : wE.cell? ⟨bv, 2, none⟩ = some (.string vs) := HV.out.blk.cell 2
       have g3 : wE.cell? ⟨bv, 3, none⟩ = some (.slice va vm vc) := HV.out.blk.cell 3
       go_wp2_with fail
       refine (HCl.out ⟨#[80, 97, 103, 101, 115]⟩ wE (Ext.refl _ _)).mono ?_
       rintro e W1 ⟨cs1, rfl, hT1, hQ1, hO1⟩
       have HTh := qh (show W1.there bv 0 cs1.toArray.size by rw [show cs1.toArray.size = 4 by simpa using hT1.len]; exact (HV.out.blk.ext hQ1 id).there 4 rfl)
       have HSi : Hid ((Tryz.prog.info? 48).map (·.size) = some cs1.toArray.size) := qh (by rw [List.size_toArray, hT1.len]; exact size24)
       have HOn := qh hT1.one
       obtain ⟨Ws, hws⟩ : ∃ z, z = W1.setCells bv 0 cs1 := ⟨_, rfl⟩
       have HWs : Hid (W1.setCells bv 0 cs1.toArray.toList = Ws) := qh (by rw [hws])
       have HNew : Hid (StrayV w wo d bv (if ((k : Int) + 1) = root then v0.dropped ⟨#[80, 97, 103, 101, 115]⟩ else v0) Ws) := qh (by rw [if_pos HC.out, hws]; exact StrayV.drop HV.out HZ.out HFf.out HQ1.out HLo.out hT1 hQ1 hO1)
       clear hT1 hQ1 hO1 hws g0 g1 g2 g3 HCl HLv
       go_wp2_with (with_reducible refine at_store 48 (.tmp 11) (.tmp 47) ?_; refine wpList_store_mid rfl 48 (.tmp 11) (.tmp 47) rfl bv 0 cs1.toArray rfl rfl HTh.out HSi.out HOn.out ?_; rw [HWs.out])
       go_meet
       exact ⟨by first | rfl | rw [HC.out], HNew⟩
      ·have HNew : Hid (StrayV w wo d bv (if ((k : Int) + 1) = root then v0.dropped ⟨#[80, 97, 103, 101, 115]⟩ else v0) wE) := qh (by rw [if_neg hc]; exact HS0.out)
       skip
       go_wp2_with fail
       go_meet
       exact ⟨rfl, HNew⟩
     case rest =>
      obtain ⟨rfl, HS1⟩ := hcut
      obtain ⟨wc1, rfl⟩ : ∃ z : World, z = wc := ⟨_, rfl⟩
      obtain ⟨v1, hvn⟩ : ∃ z, z = (if ((k : Int) + 1) = root then v0.dropped ⟨#[80, 97, 103, 101, 115]⟩ else v0) := ⟨_, rfl⟩
      rw [← hvn] at HS1
      have HVn1 := qh hvn
      clear hvn HS0
      have q0 : wc1.cell? ⟨tb + 1, 0, none⟩ = some (.slice a1 an x1) := (HBt.out.ext HS1.out.base id).cell 0
      go_wp2_with fail
      refine (HC0.out ((k : Int) + 1) wc1 (HPwo.out.pure HS1.out.base)).mono ?_
      rintro e wd1 ⟨rfl, hQ⟩
      have HS1b := qh (HS1.out.pure hQ)
      clear hQ q0 HS1
      go_upto_if 51 with (fail)
      go_cut [10] (fun x W => x = .int .i64 ((k : Int) + 1) ∧ Hid (StrayV w wo d bv (if ((k : Int) + 1) ∈ t.nodes then (v1.dropped ⟨#[75, 105, 100, 115]⟩).dropped ⟨#[80, 97, 114, 101, 110, 116]⟩ else v1) W))
      case first =>
       by_cases hc : ((k : Int) + 1) ∈ t.nodes
       ·have HC := qh hc
        have hcb : decide (((k : Int) + 1) ∈ t.nodes) = true := decide_eq_true hc
        obtain ⟨cs, hV, hz, hf, hQ0⟩ := HS1b.out
        obtain ⟨va, vc, _, hcs, _⟩ := hV.top.parts
        rw [hcs] at hV
        have HCl := qh (fun key W' (hP : Pure wd1 W') => drop_top w d v1 _ key W' (hV.base.pure hP) (hV.top.pure hP) (Nat.le_trans (V.len_size v1) hz))
        have HV := qh hV
        have HZ := qh hz
        have HFf := qh hf
        have HQ1 := qh hQ0
        have HLv := qh (hV.top.lies hV.base)
        clear hcs hV hz hf hQ0
        generalize v1.l.length = vm at *
        generalize v1.kind = vk at *
        generalize v1.n = vn at *
        generalize v1.s = vs at *
        have g0 : wd1.cell? ⟨bv, 0, none⟩ = some (.int .i64 vk) := HV.out.blk.cell 0
        have g1 : wd1.cell? ⟨bv, 1, none⟩ = some (.int .i64 vn) := HV.out.blk.cell 1
        have g2 : wd1.cell? ⟨bv, 2, none⟩ = some (.string vs) := HV.out.blk.cell 2
        have g3 : wd1.cell? ⟨bv, 3, none⟩ = some (.slice va vm vc) := HV.out.blk.cell 3
        go_wp2_with fail
        refine (HCl.out ⟨#[75, 105, 100, 115]⟩ wd1 (Ext.refl _ _)).mono ?_
        rintro e W1 ⟨cs1, rfl, hT1, hQ1, hO1⟩
        have HD2 := qh (drop_top w d (v1.dropped ⟨#[75, 105, 100, 115]⟩) cs1 ⟨#[80, 97, 114, 101, 110, 116]⟩ W1 (HV.out.base.pure hQ1) hT1 (Nat.le_trans (V.len_size _) (Nat.le_trans (dropped_size v1 _) HZ.out)))
        have HQ1b := qh hQ1
        have HO1 := qh hO1
        have hltb : bv < W1.heap.size := (HV.out.blk.ext hQ1 id).lt
        clear hT1 hQ1 hO1 g0 g1 g2 g3 HCl HLv
        go_wp2_with fail
        refine HD2.out.mono ?_
        rintro e W2 ⟨cs2, rfl, hT2, hQ2, hO2⟩
        have HTh := qh (show W2.there bv 0 cs2.toArray.size by rw [show cs2.toArray.size = 4 by simpa using hT2.len]; exact (HV.out.blk.ext (HQ1b.out.pure hQ2) id).there 4 rfl)
        have HSi : Hid ((Tryz.prog.info? 48).map (·.size) = some cs2.toArray.size) := qh (by rw [List.size_toArray, hT2.len]; exact size24)
        have HOn := qh hT2.one
        obtain ⟨Ws, hws⟩ : ∃ z, z = W2.setCells bv 0 cs2 := ⟨_, rfl⟩
        have HWs : Hid (W2.setCells bv 0 cs2.toArray.toList = Ws) := qh (by rw [hws])
        have HNew : Hid (StrayV w wo d bv (if ((k : Int) + 1) ∈ t.nodes then (v1.dropped ⟨#[75, 105, 100, 115]⟩).dropped ⟨#[80, 97, 114, 101, 110, 116]⟩ else v1) Ws) := qh (by rw [if_pos HC.out, hws]; exact StrayV.drop2 HV.out HZ.out HFf.out HQ1.out HLo.out HQ1b.out HO1.out hT2 hQ2 hO2)
        clear hT2 hQ2 hO2 hws HD2
        go_wp2_with (with_reducible refine at_store 48 (.tmp 11) (.tmp 54) ?_; refine wpList_store_mid rfl 48 (.tmp 11) (.tmp 54) rfl bv 0 cs2.toArray rfl rfl HTh.out HSi.out HOn.out ?_; rw [HWs.out])
        go_meet
        exact ⟨by first | rfl | rw [HC.out], HNew⟩
       ·have HNew : Hid (StrayV w wo d bv (if ((k : Int) + 1) ∈ t.nodes then (v1.dropped ⟨#[75, 105, 100, 115]⟩).dropped ⟨#[80, 97, 114, 101, 110, 116]⟩ else v1) wd1) := qh (by rw [if_neg hc]; exact HS1b.out)
        have hcb : decide (((k : Int) + 1) ∈ t.nodes) = false := decide_eq_false hc
        go_wp2_with fail
        go_meet
        exact ⟨rfl, HNew⟩
      case rest =>
       obtain ⟨rfl, HS2⟩ := hcut
       obtain ⟨wc2, rfl⟩ : ∃ z : World, z = wc := ⟨_, rfl⟩
       obtain ⟨v2, hvn⟩ : ∃ z, z = (if ((k : Int) + 1) ∈ t.nodes then (v1.dropped ⟨#[75, 105, 100, 115]⟩).dropped ⟨#[80, 97, 114, 101, 110, 116]⟩ else v1) := ⟨_, rfl⟩
       rw [← hvn] at HS2
       have HVn2 := qh hvn
       clear hvn HS1b
       have q1 : wc2.cell? ⟨tb + 1, 1, none⟩ = some (.slice a2 bn x2) := (HBt.out.ext HS2.out.base id).cell 1
       go_wp2_with fail
       refine (HC1.out ((k : Int) + 1) wc2 (HPwo.out.pure HS2.out.base)).mono ?_
       rintro e wd2 ⟨rfl, hQ⟩
       have HS2b := qh (HS2.out.pure hQ)
       clear hQ q1 HS2
       go_upto_if 58 with (fail)
       go_cut [10] (fun x W => x = .int .i64 ((k : Int) + 1) ∧ Hid (StrayV w wo d bv (if ((k : Int) + 1) ∈ t.pages then v2.dropped ⟨#[80, 97, 114, 101, 110, 116]⟩ else v2) W))
       case first =>
        by_cases hc : ((k : Int) + 1) ∈ t.pages
        ·have HC := qh hc
         have hcb : decide (((k : Int) + 1) ∈ t.pages) = true := decide_eq_true hc
         obtain ⟨cs, hV, hz, hf, hQ0⟩ := HS2b.out
         obtain ⟨va, vc, _, hcs, _⟩ := hV.top.parts
         rw [hcs] at hV
         have HCl := qh (fun key W' (hP : Pure wd2 W') => drop_top w d v2 _ key W' (hV.base.pure hP) (hV.top.pure hP) (Nat.le_trans (V.len_size v2) hz))
         have HV := qh hV
         have HZ := qh hz
         have HFf := qh hf
         have HQ1 := qh hQ0
         have HLv := qh (hV.top.lies hV.base)
         clear hcs hV hz hf hQ0
         generalize v2.l.length = vm at *
         generalize v2.kind = vk at *
         generalize v2.n = vn at *
         generalize v2.s = vs at *
         have g0 : wd2.cell? ⟨bv, 0, none⟩ = some (.int .i64 vk) := HV.out.blk.cell 0
         have g1 : wd2.cell? ⟨bv, 1, none⟩ = some (.int .i64 vn) := HV.out.blk.cell 1
         have g2 : wd2.cell? ⟨bv, 2, none⟩ = some (.string vs) := HV.out.blk.cell 2
         have g3 : wd2.cell? ⟨bv, 3, none⟩ = some (.slice va vm vc) := HV.out.blk.cell 3
         go_wp2_with fail
         refine (HCl.out ⟨#[80, 97, 114, 101, 110, 116]⟩ wd2 (Ext.refl _ _)).mono ?_
         rintro e W1 ⟨cs1, rfl, hT1, hQ1, hO1⟩
         have HTh := qh (show W1.there bv 0 cs1.toArray.size by rw [show cs1.toArray.size = 4 by simpa using hT1.len]; exact (HV.out.blk.ext hQ1 id).there 4 rfl)
         have HSi : Hid ((Tryz.prog.info? 48).map (·.size) = some cs1.toArray.size) := qh (by rw [List.size_toArray, hT1.len]; exact size24)
         have HOn := qh hT1.one
         obtain ⟨Ws, hws⟩ : ∃ z, z = W1.setCells bv 0 cs1 := ⟨_, rfl⟩
         have HWs : Hid (W1.setCells bv 0 cs1.toArray.toList = Ws) := qh (by rw [hws])
         have HNew : Hid (StrayV w wo d bv (if ((k : Int) + 1) ∈ t.pages then v2.dropped ⟨#[80, 97, 114, 101, 110, 116]⟩ else v2) Ws) := qh (by rw [if_pos HC.out, hws]; exact StrayV.drop HV.out HZ.out HFf.out HQ1.out HLo.out hT1 hQ1 hO1)
         clear hT1 hQ1 hO1 hws g0 g1 g2 g3 HCl HLv
         go_wp2_with (with_reducible refine at_store 48 (.tmp 11) (.tmp 60) ?_; refine wpList_store_mid rfl 48 (.tmp 11) (.tmp 60) rfl bv 0 cs1.toArray rfl rfl HTh.out HSi.out HOn.out ?_; rw [HWs.out])
         go_meet
         exact ⟨by first | rfl | rw [HC.out], HNew⟩
        ·have HNew : Hid (StrayV w wo d bv (if ((k : Int) + 1) ∈ t.pages then v2.dropped ⟨#[80, 97, 114, 101, 110, 116]⟩ else v2) wd2) := qh (by rw [if_neg hc]; exact HS2b.out)
         have hcb : decide (((k : Int) + 1) ∈ t.pages) = false := decide_eq_false hc
         go_wp2_with fail
         go_meet
         exact ⟨rfl, HNew⟩
       case rest =>
        obtain ⟨rfl, HS3⟩ := hcut
        obtain ⟨wc3, rfl⟩ : ∃ z : World, z = wc := ⟨_, rfl⟩
        obtain ⟨v3, hvn⟩ : ∃ z, z = (if ((k : Int) + 1) ∈ t.pages then v2.dropped ⟨#[80, 97, 114, 101, 110, 116]⟩ else v2) := ⟨_, rfl⟩
        rw [← hvn] at HS3
        have HVn3 := qh hvn
        clear hvn HS2b
        obtain ⟨cs, hV, hz, hf, hQ0⟩ := HS3.out
        obtain ⟨va, vc, _, hcs, _⟩ := hV.top.parts
        rw [hcs] at hV
        have HCl := qh (fun key W' (hP : Pure wc3 W') => drop_top w d v3 _ key W' (hV.base.pure hP) (hV.top.pure hP) (Nat.le_trans (V.len_size v3) hz))
        have HV := qh hV
        have HZ := qh hz
        have HFf := qh hf
        have HQ1 := qh hQ0
        have HLv := qh (hV.top.lies hV.base)
        clear hcs hV hz hf hQ0
        generalize v3.l.length = vm at *
        generalize v3.kind = vk at *
        generalize v3.n = vn at *
        generalize v3.s = vs at *
        have g0 : wc3.cell? ⟨bv, 0, none⟩ = some (.int .i64 vk) := HV.out.blk.cell 0
        have g1 : wc3.cell? ⟨bv, 1, none⟩ = some (.int .i64 vn) := HV.out.blk.cell 1
        have g2 : wc3.cell? ⟨bv, 2, none⟩ = some (.string vs) := HV.out.blk.cell 2
        have g3 : wc3.cell? ⟨bv, 3, none⟩ = some (.slice va vm vc) := HV.out.blk.cell 3
        have HVe : Hid (cutP root t ((k : Int) + 1) uv = v3) := qh (by rw [cutP_eq, HV0e.out, ← HVn1.out, ← HVn2.out, ← HVn3.out])
        have HMm := qh (fun x (hx : x ∈ v3.more []) => HFf.out x ((V.more_mem v3 [] x hx).elim (fun h => nomatch h) id))
        have HRf := qh (fun W (hP : Pure wc3 W) => refs_any (d + 1) v3 _ W (HLv.out.pure hP) HZ.out HFf.out)
        have HMl : Hid ((v3.more []).length ≤ 100000) := qh (Nat.le_trans (more_len v3) HZ.out)
        have HLv2 := qh (HLd.out v3)
        obtain ⟨M, hM⟩ : ∃ z, z = v3.more [] := ⟨_, rfl⟩
        rw [← hM] at HMm HRf HMl HLv2
        clear hM HCl
        have cm : wc3.cell? ⟨tm, 0, none⟩ = some (.map (some (tb + 1 + 1))) := (HIm.out.pure HQ1.out).mp.cell 0
        go_wp2_with fail
        refine (HRf.out wc3 (Ext.refl _ _)).mono ?_
        rintro e W4 ⟨ra, rc, rfl, _, _, _, hRow, hP4⟩
        have HQ4 := qh (HQ1.out.pure hP4)
        have HCf := qh (contains_gen 70 #[.pointer (some ⟨tm, 0, none⟩)] (inP root S) ra rc M W4 hRow (by have := HMl.out; omega) (qh (fun x W hP hx => stray1_any x (HMm.out x hx) tm (tb + 1 + 1) kk D (inP root S) W (HIm.out.pure (HQ4.out.pure hP)))) stray1_goes)
        rw [← HLv2.out] at HCf
        obtain ⟨T, hT⟩ : ∃ z, z = leadsB root t v3 := ⟨_, rfl⟩
        rw [← hT] at HCf
        have HT := qh hT
        obtain ⟨mn, hmn⟩ : ∃ z, z = M.length := ⟨_, rfl⟩
        rw [← hmn] at HCf ⊢
        clear hRow hP4 hT hmn g0 g1 g2 g3 cm HLv HRf
        go_wp2_with fail
        refine HCf.out.mono ?_
        rintro e W5 ⟨rfl, hP5⟩
        have HE5 := qh (HQ4.out.pure hP5)
        clear hP5
        have HAny : Hid ((List.range (k + 1)).any (fun k => leadsB root t (cutP root t ((k : Int) + 1) (l.getD k noOb).v)) = T) := qh (by
         rw [HStep.out, HNo.out, Bool.false_or, HVe.out]
         exact HT.out.symm)
        cases T with
        | true =>
          have HFr : Hid (F = true) := qh (by
           have h1 := HAny.out
           rw [List.any_eq_true] at h1
           obtain ⟨j, hj, hp⟩ := h1
           rw [HF.out, List.any_eq_true]
           exact ⟨j, List.mem_range.2 (by have := List.mem_range.1 hj; omega), hp⟩)
          go_wp2_with fail
          go_ret
          exact ⟨by rw [HFr.out]; rfl, HPwo.out.pure HE5.out⟩
        | false =>
          go_wp2_with fail
          go_roundw
          case rel => exact ⟨k + 1, by omega, by go_num, HAny, HE5⟩
          case measure => simp [intOf]; omega
    ·have hki : ¬ (k : Int) < (n : Int) := by omega
     obtain rfl : k = n := by omega
     have HFr : Hid (F = false) := qh (by rw [HF.out]; exact HNo.out)
     go_wp2_with fail
     go_ret
     exact ⟨by rw [HFr.out]; rfl, HPwo.out.pure HE.out⟩
theorem walkP_wf {w0 : World} {d : Nat} {l : List Ob} {oa : Option Addr} {rows : List (List Value)} {root : Int} (h : DocOk w0 d l oa rows root) : (walkP l root).1.Ok l := by
 unfold walkP
 split
 ·split
  ·rename_i u m hm
   exact (belP_ok l root 64 0 false ⟨[], []⟩ _ u m (Tr.ok_nil l) hm).1
  ·exact Tr.ok_nil l
 ·exact Tr.ok_nil l
theorem Tr.Ok.wfs {l : List Ob} {t : Tr} (h : t.Ok l) (hl : l.length ≤ 5000) (x : Int) (hx : t.has x) : (Lit.int .i64 x).wf = true := by
 have := h.lo x hx
 unfold Lit.wf
 simp [IntKind.min, IntKind.max, IntKind.bits, IntKind.signed]
 omega
set_option maxHeartbeats 2000000 in
theorem doc_any (d : Nat) (l : List Ob) (oa : Option Addr) (oc : Nat) (rows : List (List Value)) (root : Int) (w : World) (hD : DocOk w d l oa rows root) (hds : ∀ u ∈ l, u.data.size ≤ maxLen) :
 Calls Tryz.prog 13 #[.agg #[.slice oa l.length oc, .int .i64 root]] w (IntTo (docE l root) w) := by
 have HO := qh (fun W (hP : Pure w W) => objects_any d l oa oc rows root W (hD.pure hP) hds)
 have HWk := qh (fun W (hP : Pure w W) => walk_docs d l oa oc rows root W (hD.pure hP))
 have HSt := qh (fun W (hP : Pure w W) => stray_docs d l oa oc rows root (walkP l root).1 (w := W) (hD := hD.pure hP))
 have HWf := qh (fun x hx => (walkP_wf hD).wfs hD.len x hx)
 obtain ⟨F, hF⟩ : ∃ z, z = docE l root := ⟨_, rfl⟩
 rw [← hF]
 unfold docE at hF
 obtain ⟨n, hn⟩ : ∃ z, z = l.length := ⟨_, rfl⟩
 rw [← hn] at hF HO HWk HSt ⊢
 have hn5 : n ≤ 5000 := by rw [hn]; exact hD.len
 obtain ⟨O, hO⟩ : ∃ z, z = objsE n l := ⟨_, rfl⟩
 obtain ⟨Q, hQ⟩ : ∃ z, z = walkP l root := ⟨_, rfl⟩
 rw [← hO] at hF HO
 rw [← hQ] at hF HWk HSt HWf
 have HF := qh hF
 clear hF hO hQ hn hD hds
 obtain ⟨t, E⟩ := Q
 go_enter Tryz.func13, Tryz.ntmps13
 by_cases hlong : 4094 < n
 ·have hli : (4094 : Int) < (n : Int) := by omega
  have HFr : Hid (F = 3) := qh (by rw [HF.out, if_pos hlong])
  go_wp2_with fail
  go_ret
  exact ⟨by rw [HFr.out]; rfl, ext_alloc w _⟩
 ·have hli : ¬ (4094 : Int) < (n : Int) := by omega
  have HF2 := qh (HF.out.trans (if_neg hlong))
  clear hlong HF
  go_wp2_with fail
  refine (HO.out _ (ext_alloc w _)).mono ?_
  rintro e w2 ⟨rfl, hP⟩
  have hB := BlockIs.new w [.slice oa n oc, .int .i64 root] 24
  have hB := hB.ext hP id
  have hP2 := (ext_alloc w (.cells #[.slice oa n oc, .int .i64 root] 24)).pure hP
  have HB := qh hB
  have HP := qh hP2
  have hlt : w.heap.size < w2.heap.size := hB.lt
  have c0 : w2.cell? ⟨w.heap.size, 0, none⟩ = some (.slice oa n oc) := hB.cell 0
  have c1 : w2.cell? ⟨w.heap.size, 1, none⟩ = some (.int .i64 root) := hB.cell 1
  clear hP hP2 hB HO
  by_cases hO0 : O = 0
  ·subst hO0
   have HF3 : Hid (F = if E ≠ 0 then E else if strayP l root t then 26 else 0) := qh HF2.out
   clear HF2
   go_wp2_with fail
   refine (HWk.out w2 HP.out).mono ?_
   rintro e w3 ⟨a1, x1, a2, x2, rfl, hP3, hr1, hr2, hl1, hl2, hn1, hn2, hc1, hm1, hc2, hm2⟩
   have hP4 := hP3.pure (ext_alloc w3 (.cells #[.slice a1 t.nodes.length x1, .slice a2 t.pages.length x2] 85))
   have HSt2 := qh (HSt.out _ (HP.out.pure hP4) a1 a2 x1 x2 (hr1.ext (ext_alloc w3 _) (fun _ _ => id)) (hr2.ext (ext_alloc w3 _) (fun _ _ => id)) hn1 hn2 hc1 hc2 hl1 hl2 (fun x hx => HWf.out x (Or.inl hx)) (fun x hx => HWf.out x (Or.inr hx)))
   have hB := HB.out.ext hP3 id
   have hlt : w.heap.size < w3.heap.size := hB.lt
   have d0 : w3.cell? ⟨w.heap.size, 0, none⟩ = some (.slice oa n oc) := hB.cell 0
   have d1 : w3.cell? ⟨w.heap.size, 1, none⟩ = some (.int .i64 root) := hB.cell 1
   have HP4 := qh (HP.out.pure hP4)
   obtain ⟨an, han⟩ : ∃ z, z = t.nodes.length := ⟨_, rfl⟩
   obtain ⟨bn, hbn⟩ : ∃ z, z = t.pages.length := ⟨_, rfl⟩
   rw [← han, ← hbn] at HSt2 HP4
   rw [← han, ← hbn]
   obtain ⟨S, hS⟩ : ∃ z, z = strayP l root t := ⟨_, rfl⟩
   rw [← hS] at HF3 HSt2
   clear hP3 hP4 hr1 hr2 hB han hbn hS HSt HWk HWf hl1 hl2 hn1 hn2 hc1 hm1 hc2 hm2 HB HP c0 c1
   by_cases hE : E = 0
   ·subst hE
    have HF4 : Hid (F = if S then 26 else 0) := qh HF3.out
    clear HF3
    go_wp2_with fail
    refine HSt2.out.mono ?_
    rintro e w5 ⟨rfl, hP5⟩
    have HP5 := qh (HP4.out.pure hP5)
    clear hP5 d0 d1
    cases S with
    | true =>
      have HFr : Hid (F = 26) := qh HF4.out
      go_wp2_with fail
      go_ret
      exact ⟨by rw [HFr.out]; rfl, HP5.out⟩
    | false =>
      have HFr : Hid (F = 0) := qh HF4.out
      go_wp2_with fail
      go_ret
      exact ⟨by rw [HFr.out]; rfl, HP5.out⟩
   ·have hEb : (E == 0) = false := by simpa using hE
    have HFr : Hid (F = E) := qh (HF3.out.trans (if_pos hE))
    clear HF3 HSt2
    go_wp2_with fail
    go_ret
    exact ⟨by rw [HFr.out]; rfl, HP4.out⟩
  ·have hOb : (O != 0) = true := by simpa using hO0
   have HFr : Hid (F = O) := qh (HF2.out.trans (if_pos hO0))
   clear HF2
   go_wp2_with fail
   go_ret
   exact ⟨by rw [HFr.out]; rfl, HP.out⟩
