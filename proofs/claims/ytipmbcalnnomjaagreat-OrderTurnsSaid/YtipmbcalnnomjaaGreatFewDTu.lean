import Derived.Test.YtipmbcalnnomjaaGreatLiesInTu
import Derived.Test.YtipmbcalnnomjaaGreatMakesTu
import Derived.Test.YtipmbcalnnomjaaGreatSqTu
set_option linter.unusedVariables false
set_option linter.unusedSimpArgs false
set_option maxRecDepth 100000
namespace Go.Proofs.YtipmbcalnnomjaaGreat
open Go.RowKit
structure Ob where
 v : V
 st : Bool
 data : ByteArray
structure OKids (W : World) (d : Nat) (l : List Ob) (a : Option Addr) (rows : List (List Value)) : Prop where
 len : rows.length = l.length
 six : ∀ r ∈ rows, r.length = 6
 row : RowOf W a (rows.flatMap id)
 lies : ∀ (i : Nat) (o : Ob) (r : List Value), l[i]? = some o → rows[i]? = some r → ∃ cs, r = cs ++ [.bool o.st, .string o.data] ∧ Lies W d o.v cs
theorem OKids.pure {W W' : World} {d : Nat} {l : List Ob} {a : Option Addr} {rows : List (List Value)} (h : OKids W d l a rows) (hP : Pure W W') : OKids W' d l a rows :=
 ⟨h.len, h.six, h.row.ext hP (fun _ _ => id), fun i o r ho hr => by
  obtain ⟨cs, h1, h2⟩ := h.lies i o r ho hr
  exact ⟨cs, h1, h2.pure hP⟩⟩
theorem OKids.at {W : World} {d : Nat} {l : List Ob} {a : Option Addr} {rows : List (List Value)} (h : OKids W d l a rows) (k : Nat) (u : Ob) (hk : l[k]? = some u) :
 ∃ b o cs, a = some ⟨b, o, none⟩ ∧ W.rangeAt b (o + k * 6) cs ∧ cs.length = 4 ∧ Lies W d u.v cs ∧ W.rangeAt b (o + k * 6) (cs ++ [.bool u.st, .string u.data]) := by
 obtain ⟨hkl, rfl⟩ := List.getElem?_eq_some_iff.1 hk
 have hkr : k < rows.length := by rw [h.len]; exact hkl
 have h6 := h.six _ (List.getElem_mem hkr)
 obtain ⟨cs, hcs, hL⟩ := h.lies k _ _ hk (List.getElem?_eq_getElem hkr)
 have h4 : cs.length = 4 := by have := congrArg List.length hcs; rw [h6] at this; simp at this; omega
 have hg : ∀ j, j < 6 → (rows.flatMap id)[k * 6 + j]? = rows[k][j]? := fun j hj => flat_get id rows (fun r hr => h.six r hr) k hkr j hj
 obtain ⟨b, o, ha, _⟩ := h.row (k * 6 + 0) _ ((hg 0 (by omega)).trans (List.getElem?_eq_getElem (by omega)))
 have hr : W.rangeAt b (o + k * 6) (cs ++ [.bool l[k].st, .string l[k].data]) := fun j v hv => by
  rw [← hcs] at hv
  have hj : j < 6 := by have := (List.getElem?_eq_some_iff.1 hv).1; omega
  obtain ⟨b', o', ha', hc⟩ := h.row (k * 6 + j) v ((hg j hj).trans hv)
  rw [ha] at ha'
  cases ha'
  rw [Nat.add_assoc]; exact hc
 exact ⟨b, o, cs, ha, fun j v hv => hr j v (by rw [List.getElem?_append_left (by have := (List.getElem?_eq_some_iff.1 hv).1; omega)]; exact hv), h4, hL, hr⟩
theorem OKids.mono {W : World} {d d' : Nat} {l : List Ob} {a : Option Addr} {rows : List (List Value)} (h : OKids W d l a rows) (hd : d ≤ d') : OKids W d' l a rows :=
 ⟨h.len, h.six, h.row, fun i o r ho hr => by
  obtain ⟨cs, h1, h2⟩ := h.lies i o r ho hr
  exact ⟨cs, h1, h2.mono hd⟩⟩
theorem wpList_wanted {P : Program} {ops : Array Oper} {Q : Exit → Act → World → Prop} {a : Act} {w : World} {rest : List Oper} {o : Oper} (hw : Region.wanted o (yielded ops a.tmps) = true)
 (h : ∀ K : Act → World → Prop, (∀ a w, wpList P ops Q rest a w → K a w) → o.wp P a w K Q) : wpList P ops Q (o :: rest) a w :=
 wpList_step fun K hK => by rw [if_pos hw]; exact h K hK
theorem wpList_load_g {ops : Array Oper} {Q : Exit → Act → World → Prop} {a : Act} {w : World} {rest : List Oper} {op : Oper} (hw : Region.wanted op (yielded ops a.tmps) = true) (x : Operand) (ho : op.op = .load 48 x)
 (b o : Nat) (hx : a.eval x = .pointer (some ⟨b, o, none⟩)) (cs : List Value) (hc : w.rangeAt b o cs) (hl : cs.length = 4)
 (h : wpList Tryz.prog ops Q rest (a.put op.dst (.agg cs.toArray)) w) : wpList Tryz.prog ops Q (op :: rest) a w :=
 wpList_wanted hw fun _ hK => wp_load_mid 48 x ho b o hx cs _ hc Tryz.underlying48 rfl (by rw [hl]; exact size24) (hK _ _ h)
theorem sz24 {cs : List Value} (h : cs.length = 4) : (Tryz.prog.info? 48).map (·.size) = some cs.length := by rw [h]; exact size24
mutual
def V.txt : V → Bool
 | .mk _ _ s l => txtL l && decide (s.size ≤ 300)
def txtL : List V → Bool
 | [] => true
 | v :: l => v.txt && txtL l
end
theorem txt_eq (v : V) : v.txt = (txtL v.l && decide (v.s.size ≤ 300)) := by cases v; simp only [V.txt]; rfl
theorem txtL_append (l m : List V) : txtL (l ++ m) = (txtL l && txtL m) := by
 induction l with
 | nil => simp [txtL]
 | cons u l ih => rw [List.cons_append, txtL, txtL, ih, Bool.and_assoc]
theorem fewL_len : ∀ (l : List V) (x : Int), 0 ≤ fewL l x → (l.length : Int) + fewL l x ≤ x
 | [], x, h => by rw [fewL]; simp
 | v :: l, x, h => by
   rw [fewL] at h ⊢
   by_cases h0 : 0 ≤ x
   ·rw [if_pos h0] at h ⊢
    have h1 := fewL_len l (v.few x) h
    rw [few_eq] at h1 ⊢
    rw [few_eq] at h
    have h2 := fewL_low v.l (x - 1) (by omega)
    rw [List.length_cons]
    omega
   ·rw [if_neg h0] at h; omega
theorem few_len {v : V} {x : Int} (h : 0 ≤ v.few x) : (v.l.length : Int) < x := by
 rw [few_eq] at h
 have := fewL_len v.l (x - 1) h
 omega
set_option maxHeartbeats 1000000 in
theorem texts_any : ∀ (d : Nat) (v : V) (cs : List Value) (w : World), Lies w d v cs →
 Calls Tryz.prog 48 #[.agg cs.toArray] w (BoolTo v.txt w)
 | 0, _, _, _, h => h.elim
 | d + 1, v, cs, w, h => by
   have IH := texts_any d
   obtain ⟨a, c, rows, rfl, hlc, hcm, hnil, hK, hs⟩ := h.kids
   obtain ⟨B, hB⟩ : ∃ B, B = v.txt := ⟨_, rfl⟩
   rw [← hB]
   rw [txt_eq] at hB
   obtain ⟨n, hn⟩ : ∃ n, n = v.l.length := ⟨_, rfl⟩
   obtain ⟨l, hl⟩ : ∃ l, l = v.l := ⟨_, rfl⟩
   rw [← hl] at hB hn hK
   rw [← hl, ← hn]
   rw [← hl, ← hn] at hlc
   have HB := qh hB
   have HN := qh hn
   have HI := qh IH
   unfold maxLen at hcm
   clear h hB hn hl IH
   generalize v.kind = vk
   generalize v.n = vn
   generalize v.s = vs at *
   obtain ⟨w1, hw1⟩ : ∃ w1, w1 = w.alloc (.cells #[.int .i64 vk, .int .i64 vn, .string vs, .slice a n c] 48) := ⟨_, rfl⟩
   have hBx : BlockIs w1 w.heap.size [.int .i64 vk, .int .i64 vn, .string vs, .slice a n c] 48 := hw1 ▸ BlockIs.new w _ _
   have hP1 : Pure w w1 := hw1 ▸ ext_alloc w _
   obtain ⟨tb, htb⟩ : ∃ tb, tb = w.heap.size := ⟨_, rfl⟩
   rw [← htb] at hBx
   have HW1 := qh hw1
   have HTb := qh htb
   clear hw1 htb
   go_enter Tryz.func48, Tryz.ntmps48
   go_wp2_with fail
   rw [← HW1.out, ← HTb.out]
   go_loopw [3] (fun i W => ∃ k : Nat, k ≤ n ∧ i = .int .i64 k ∧ Hid (txtL (l.take k) = true) ∧ Pure w1 W) (fun i _ => n - (intOf i).toNat)
   case atStart => exact ⟨0, Nat.zero_le _, rfl, qh (by rw [List.take_zero, txtL]), Ext.refl _ _⟩
   case round =>
    obtain ⟨k, hk, rfl, HY, hE⟩ := hrel
    have hBk := hBx.ext hE id
    have c3 : wr.cell? ⟨tb, 3, none⟩ = some (.slice a n c) := hBk.cell 3
    by_cases hlt : k < n
    ·have hki : (k : Int) < (n : Int) := by omega
     obtain ⟨u, hu⟩ : ∃ u, l[k]? = some u := ⟨_, List.getElem?_eq_getElem (by rw [← HN.out]; exact hlt)⟩
     obtain ⟨b, o, r, rfl, hr, hr4, hL⟩ := (hK.pure (hP1.pure hE)).at k u hu
     have HSu : Hid (txtL (l.take (k + 1)) = u.txt) := qh (by
      obtain ⟨hkl, rfl⟩ := List.getElem?_eq_some_iff.1 hu
      rw [List.take_succ_eq_append_getElem hkl, txtL_append, HY.out, txtL, txtL]; simp)
     have HC := qh (HI.out u r wr hL)
     have HBf : Hid (u.txt = false → B = false) := qh (fun hf => by
      rw [HB.out, ← List.take_append_drop (k + 1) l, txtL_append, HSu.out, hf]; rfl)
     obtain ⟨T, hT⟩ : ∃ T, T = u.txt := ⟨_, rfl⟩
     rw [← hT] at HC HSu HBf
     clear hu hL hT
     go_wp2_with (refine wpList_load_mid rfl 48 (.tmp 14) rfl b (o + k * 4) rfl r _ hr Tryz.underlying48 rfl (by rw [hr4]; kernel_rfl) ?_)
     refine HC.out.mono ?_
     cases T with
     | true =>
       rintro e w2 ⟨rfl, hP2⟩
       go_wp2_with fail
       go_roundw
       case rel => exact ⟨k + 1, by omega, by go_num, qh HSu.out, hE.pure hP2⟩
       case measure => simp [intOf]; omega
     | false =>
       have HBz := qh (HBf.out rfl)
       clear HBf
       rintro e w2 ⟨rfl, hP2⟩
       go_wp2_with fail
       go_ret
       exact ⟨by rw [HBz.out]; rfl, (hP1.pure hE).pure hP2⟩
    ·have hki : ¬ (k : Int) < (n : Int) := by omega
     have c2 : wr.cell? ⟨tb, 2, none⟩ = some (.string vs) := hBk.cell 2
     have HBy : Hid (B = decide ((vs.size : Int) ≤ 300)) := qh (by
      have h := HY.out
      rw [List.take_of_length_le (by rw [← HN.out]; omega)] at h
      rw [HB.out, h]
      simp only [Bool.true_and]
      exact decide_eq_decide.2 (by omega))
     go_wp2_with fail
     go_ret
     exact ⟨by rw [HBy.out]; first | rfl | simp, hP1.pure hE⟩
def Ob.few (u : Ob) (m : Nat) : Bool := decide (0 ≤ u.v.few 300) && decide (u.data.size ≤ m) && u.v.txt
theorem info6 : (Tryz.prog.info? 61).map (·.size) = some 6 := by kernel_rfl
set_option maxHeartbeats 1000000 in
theorem obfew_any (d : Nat) (u : Ob) (cs : List Value) (w : World) (hL : Lies w d u.v cs) (m : Nat) :
 Calls Tryz.prog 19 #[.agg (cs ++ [Value.bool u.st, Value.string u.data]).toArray, .int .i64 m] w (BoolTo (u.few m) w) := by
 have h4 := hL.len
 obtain ⟨w1, hw1⟩ : ∃ z, z = w.alloc (.cells (cs ++ [Value.bool u.st, Value.string u.data]).toArray 61) := ⟨_, rfl⟩
 obtain ⟨tb, htb⟩ : ∃ z, z = w.heap.size := ⟨_, rfl⟩
 have hB1 : BlockIs w1 tb (cs ++ [Value.bool u.st, Value.string u.data]) 61 := by rw [htb, hw1]; exact BlockIs.new w _ _
 have hP : Pure w w1 := hw1 ▸ ext_alloc w _
 have HW : Hid (w.alloc (.cells (cs ++ [Value.bool u.st, Value.string u.data]).toArray 61) = w1) := qh hw1.symm
 have HTb := qh htb
 have HF : Hid (u.few m = (decide (0 ≤ u.v.few 300) && decide ((u.data.size : Int) ≤ m) && u.v.txt)) := qh (by unfold Ob.few; congr 2; exact decide_eq_decide.2 (by omega))
 obtain ⟨F, hF⟩ : ∃ F, F = u.few m := ⟨_, rfl⟩
 rw [← hF] at HF ⊢
 have HC1 := qh (fun W (hP : Pure w W) => few_any d u.v cs 300 W (hL.pure hP) (by decide) (by decide))
 have HC2 := qh (fun W (hP : Pure w W) => texts_any d u.v cs W (hL.pure hP))
 have hr : w1.rangeAt tb 0 cs := fun j v hv => by rw [Nat.zero_add, hB1.cell j, List.getElem?_append_left (List.getElem?_eq_some_iff.1 hv).1]; exact hv
 have c5 : ∀ W, Pure w1 W → W.cell? ⟨tb, 5, none⟩ = some (.string u.data) := fun W hX => ((hB1.ext hX id).cell 5).trans (by rw [List.getElem?_append_right (by omega), h4]; rfl)
 have HC5 := qh c5
 have HL4 := qh h4
 obtain ⟨f, hf⟩ : ∃ z, z = u.v.few 300 := ⟨_, rfl⟩
 obtain ⟨t, ht⟩ : ∃ z, z = u.v.txt := ⟨_, rfl⟩
 rw [← hf] at HF HC1
 rw [← ht] at HF HC2
 generalize u.data = dt at *
 generalize u.st = st at *
 have hr' : (w.alloc (.cells (cs ++ [Value.bool st, Value.string dt]).toArray 61)).rangeAt w.heap.size 0 cs := by rw [HW.out, ← htb]; exact hr
 clear hF hw1 htb c5 hL hf ht h4 hB1
 go_enter Tryz.func19, Tryz.ntmps19
 go_wp2_with (with_reducible refine at_load 48 (.tmp 5) ?_; refine wpList_load_mid rfl 48 (.tmp 5) rfl w.heap.size 0 rfl cs _ hr' Tryz.underlying48 rfl (sz24 HL4.out) ?_)
 rw [HW.out, ← HTb.out]
 refine (HC1.out w1 hP).mono ?_
 rintro e w2 ⟨rfl, hP2⟩
 have c5 := HC5.out w2 hP2
 have hr2 : w2.rangeAt tb 0 cs := fun j v hv => hP2.cell_some (hr j v hv) id
 have hPw := hP.pure hP2
 clear hr hr'
 by_cases hf : 0 ≤ f
 ·by_cases hd : (dt.size : Int) ≤ m
  ·have HFt : Hid (F = t) := qh (by rw [HF.out]; simp [hf, hd])
   go_wp2_with (with_reducible refine at_load 48 (.tmp 17) ?_; refine wpList_load_g rfl (.tmp 17) rfl tb 0 rfl cs hr2 HL4.out ?_)
   refine (HC2.out w2 hPw).mono ?_
   rintro e w3 ⟨rfl, hP3⟩
   go_wp2_with fail
   go_ret
   exact ⟨by rw [HFt.out]; first | rfl | simp, hPw.pure hP3⟩
  ·have HFt : Hid (F = false) := qh (by rw [HF.out]; simp [hd])
   go_wp2_with fail
   go_ret
   exact ⟨by rw [HFt.out]; first | rfl | simp, hPw⟩
 ·have HFt : Hid (F = false) := qh (by rw [HF.out]; simp [hf])
  go_wp2_with fail
  go_ret
  exact ⟨by rw [HFt.out]; first | rfl | simp, hPw⟩
def fewO (l : List Ob) (most : Nat) : Bool := decide (l.length ≤ most) && l.all (fun u => u.few 300)
set_option maxHeartbeats 1000000 in
theorem fewo_any (d : Nat) (objs : List Ob) (oa : Option Addr) (oc : Nat) (rows : List (List Value)) (m : Nat) (w : World) (hOK : OKids w d objs oa rows) (hoc : objs.length ≤ oc) (hcm : oc ≤ maxLen) :
 Calls Tryz.prog 5 #[.slice oa objs.length oc, .int .i64 m] w (BoolTo (fewO objs m) w) := by
 obtain ⟨F, hF⟩ : ∃ F, F = fewO objs m := ⟨_, rfl⟩
 rw [← hF]
 unfold fewO at hF
 obtain ⟨on, hon⟩ : ∃ on, on = objs.length := ⟨_, rfl⟩
 rw [← hon] at hF hoc ⊢
 have HF := qh hF
 have HN := qh hon
 have HOK := qh hOK
 unfold maxLen at hcm
 clear hF hon hOK
 by_cases hm : on ≤ m
 ·have hmi : ¬ (m : Int) < (on : Int) := by omega
  have hmn : ¬ m < on := by omega
  have hmd : decide (m < on) = false := by simp [hmn]
  have HF2 : Hid (F = objs.all (fun u => u.few 300)) := qh (by rw [HF.out]; simp [hm])
  clear HF hm
  go_enter Tryz.func5, Tryz.ntmps5
  go_wp2_with fail
  go_loopw [5] (fun i W => ∃ k : Nat, k ≤ on ∧ i = .int .i64 k ∧ Hid ((objs.take k).all (fun u => u.few 300) = true) ∧ Pure w W) (fun i _ => on - (intOf i).toNat)
  case atStart => exact ⟨0, Nat.zero_le _, rfl, qh (by rw [List.take_zero]; rfl), Ext.refl _ _⟩
  case round =>
   obtain ⟨k, hk, rfl, HY, hE⟩ := hrel
   by_cases hlt : k < on
   ·have hki : (k : Int) < (on : Int) := by omega
    obtain ⟨u, hu⟩ : ∃ u, objs[k]? = some u := ⟨_, List.getElem?_eq_getElem (by rw [← HN.out]; exact hlt)⟩
    obtain ⟨b, o, cs, rfl, _, hl4, hL, hr⟩ := (HOK.out.pure hE).at k u hu
    have HSu : Hid ((objs.take (k + 1)).all (fun u => u.few 300) = u.few 300) := qh (by
     obtain ⟨hkl, rfl⟩ := List.getElem?_eq_some_iff.1 hu
     rw [List.take_succ_eq_append_getElem hkl, List.all_append, HY.out]; simp)
    have HC := qh (obfew_any d u cs wr hL 300)
    have HBf : Hid (u.few 300 = false → F = false) := qh (fun hf => by
     rw [HF2.out, ← List.take_append_drop (k + 1) objs, List.all_append, HSu.out, hf]; rfl)
    have HL6 : Hid ((Tryz.prog.info? 61).map (·.size) = some (cs ++ [Value.bool u.st, Value.string u.data]).length) := qh (by rw [List.length_append, hl4]; exact info6)
    obtain ⟨T, hT⟩ : ∃ T, T = u.few 300 := ⟨_, rfl⟩
    rw [← hT] at HC HSu HBf
    obtain ⟨rs, hrs⟩ : ∃ z, z = cs ++ [Value.bool u.st, Value.string u.data] := ⟨_, rfl⟩
    rw [← hrs] at hr HC HL6
    clear hu hL hT hrs hl4
    go_wp2_with (with_reducible refine at_load 61 (.tmp 18) ?_; refine wpList_load_mid rfl 61 (.tmp 18) rfl b (o + k * 6) rfl rs _ hr Tryz.underlying61 rfl HL6.out ?_)
    refine HC.out.mono ?_
    cases T with
    | true =>
      rintro e w2 ⟨rfl, hP2⟩
      go_wp2_with fail
      go_roundw
      case rel => exact ⟨k + 1, by omega, by go_num, qh HSu.out, hE.pure hP2⟩
      case measure => simp [intOf]; omega
    | false =>
      have HBz := qh (HBf.out rfl)
      clear HBf
      rintro e w2 ⟨rfl, hP2⟩
      go_wp2_with fail
      go_ret
      exact ⟨by rw [HBz.out]; rfl, hE.pure hP2⟩
   ·have hki : ¬ (k : Int) < (on : Int) := by omega
    have HBy : Hid (F = true) := qh (by
     have h := HY.out
     rw [List.take_of_length_le (by rw [← HN.out]; omega)] at h
     rw [HF2.out, h])
    go_wp2_with fail
    go_ret
    exact ⟨by rw [HBy.out]; rfl, hE⟩
 ·have hmi : (m : Int) < (on : Int) := by omega
  have hmn : m < on := by omega
  have hmd : decide (m < on) = true := by simp [hmn]
  have HF2 : Hid (F = false) := qh (by rw [HF.out]; simp [hm])
  clear HF hm
  go_enter Tryz.func5, Tryz.ntmps5
  go_wp2_with fail
  go_ret
  exact ⟨by rw [HF2.out]; rfl, Ext.refl _ _⟩
theorem fewO_in {objs : List Ob} {m : Nat} (h : fewO objs m = true) : objs.length ≤ m ∧ ∀ u ∈ objs, u.v.l.length ≤ 299 := by
 unfold fewO at h
 rw [Bool.and_eq_true, List.all_eq_true] at h
 refine ⟨of_decide_eq_true h.1, fun u hu => ?_⟩
 have h1 := h.2 u hu
 unfold Ob.few at h1
 rw [Bool.and_eq_true, Bool.and_eq_true] at h1
 have := few_len (of_decide_eq_true h1.1.1)
 omega
section
open Go.ChangeShapes Go.WideShapes Go.ChangeAt
end
