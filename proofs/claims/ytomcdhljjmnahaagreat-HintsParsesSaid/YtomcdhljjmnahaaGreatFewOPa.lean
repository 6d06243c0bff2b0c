import Derived.Test.YtomcdhljjmnahaaGreatOpenHPa
import Derived.Test.YtomcdhljjmnahaaGreatSqPa
set_option linter.unusedVariables false
set_option linter.unusedSimpArgs false
set_option maxRecDepth 100000
namespace Go.Proofs.YtomcdhljjmnahaaGreat.V11
open Go.ChangeShapes Go.WideShapes Go.ChangeAt Go.RowKit
theorem wpList_load_g {ops : Array Oper} {Q : Exit → Act → World → Prop} {a : Act} {w : World} {rest : List Oper} {op : Oper} (hw : Region.wanted op (yielded ops a.tmps) = true) (x : Operand) (ho : op.op = .load 30 x)
 (b o : Nat) (hx : a.eval x = .pointer (some ⟨b, o, none⟩)) (cs : List Value) (hc : w.rangeAt b o cs) (hl : cs.length = 4)
 (h : wpList Tryz.prog ops Q rest (a.put op.dst (.agg cs.toArray)) w) : wpList Tryz.prog ops Q (op :: rest) a w :=
 wpList_wanted hw fun _ hK => wp_load_mid 30 x ho b o hx cs _ hc Tryz.underlying30 rfl (by rw [hl]; exact size24) (hK _ _ h)
mutual
def V.txt : V → Bool
 | .mk _ _ s l => txtL l && decide (s.size ≤ 300)
def txtL : List V → Bool
 | [] => true
 | v :: l => v.txt && txtL l
end
theorem txt_eq (v : V) : v.txt = (txtL v.l && decide (v.s.size ≤ 300)) := by cases v; simp only [V.txt]; rfl
theorem txtL_append (l m : List V) : txtL (l ++ m) = (txtL l && txtL m) := by
 induction l with
 | nil => simp [txtL]
 | cons u l ih => rw [List.cons_append, txtL, txtL, ih, Bool.and_assoc]
theorem fewL_len : ∀ (l : List V) (x : Int), 0 ≤ fewL l x → (l.length : Int) + fewL l x ≤ x
 | [], x, h => by rw [fewL]; simp
 | v :: l, x, h => by
   rw [fewL] at h ⊢
   by_cases h0 : 0 ≤ x
   ·rw [if_pos h0] at h ⊢
    have h1 := fewL_len l (v.few x) h
    rw [few_eq] at h1 ⊢
    rw [few_eq] at h
    have h2 := fewL_low v.l (x - 1) (by omega)
    rw [List.length_cons]
    omega
   ·rw [if_neg h0] at h; omega
theorem few_len {v : V} {x : Int} (h : 0 ≤ v.few x) : (v.l.length : Int) < x := by
 rw [few_eq] at h
 have := fewL_len v.l (x - 1) h
 omega
set_option maxHeartbeats 1000000 in
theorem texts_any : ∀ (d : Nat) (v : V) (cs : List Value) (w : World), Lies w d v cs →
 Calls Tryz.prog 43 #[.agg cs.toArray] w (BoolTo v.txt w)
 | 0, _, _, _, h => h.elim
 | d + 1, v, cs, w, h => by
   have IH := texts_any d
   obtain ⟨a, c, rows, rfl, hlc, hcm, hnil, hK, hs⟩ := h.kids
   obtain ⟨B, hB⟩ : ∃ B, B = v.txt := ⟨_, rfl⟩
   rw [← hB]
   rw [txt_eq] at hB
   obtain ⟨n, hn⟩ : ∃ n, n = v.l.length := ⟨_, rfl⟩
   obtain ⟨l, hl⟩ : ∃ l, l = v.l := ⟨_, rfl⟩
   rw [← hl] at hB hn hK
   rw [← hl, ← hn]
   rw [← hl, ← hn] at hlc
   have HB := qh hB
   have HN := qh hn
   have HI := qh IH
   unfold maxLen at hcm
   clear h hB hn hl IH
   generalize v.kind = vk
   generalize v.n = vn
   generalize v.s = vs at *
   obtain ⟨w1, hw1⟩ : ∃ w1, w1 = w.alloc (.cells #[.int .i64 vk, .int .i64 vn, .string vs, .slice a n c] 30) := ⟨_, rfl⟩
   have hBx : BlockIs w1 w.heap.size [.int .i64 vk, .int .i64 vn, .string vs, .slice a n c] 30 := hw1 ▸ BlockIs.new w _ _
   have hP1 : Pure w w1 := hw1 ▸ ext_alloc w _
   obtain ⟨tb, htb⟩ : ∃ tb, tb = w.heap.size := ⟨_, rfl⟩
   rw [← htb] at hBx
   have HW1 := qh hw1
   have HTb := qh htb
   clear hw1 htb
   go_enter Tryz.func43, Tryz.ntmps43
   go_wp2_with fail
   rw [← HW1.out, ← HTb.out]
   go_loopw [3] (fun i W => ∃ k : Nat, k ≤ n ∧ i = .int .i64 k ∧ Hid (txtL (l.take k) = true) ∧ Pure w1 W) (fun i _ => n - (intOf i).toNat)
   case atStart => exact ⟨0, Nat.zero_le _, rfl, qh (by rw [List.take_zero, txtL]), Ext.refl _ _⟩
   case round =>
    obtain ⟨k, hk, rfl, HY, hE⟩ := hrel
    have hBk := hBx.ext hE id
    have c3 : wr.cell? ⟨tb, 3, none⟩ = some (.slice a n c) := hBk.cell 3
    by_cases hlt : k < n
    ·have hki : (k : Int) < (n : Int) := by omega
     obtain ⟨u, hu⟩ : ∃ u, l[k]? = some u := ⟨_, List.getElem?_eq_getElem (by rw [← HN.out]; exact hlt)⟩
     obtain ⟨b, o, r, rfl, hr, hr4, hL⟩ := (hK.pure (hP1.pure hE)).at k u hu
     have HSu : Hid (txtL (l.take (k + 1)) = u.txt) := qh (by
      obtain ⟨hkl, rfl⟩ := List.getElem?_eq_some_iff.1 hu
      rw [List.take_succ_eq_append_getElem hkl, txtL_append, HY.out, txtL, txtL]; simp)
     have HC := qh (HI.out u r wr hL)
     have HBf : Hid (u.txt = false → B = false) := qh (fun hf => by
      rw [HB.out, ← List.take_append_drop (k + 1) l, txtL_append, HSu.out, hf]; rfl)
     obtain ⟨T, hT⟩ : ∃ T, T = u.txt := ⟨_, rfl⟩
     rw [← hT] at HC HSu HBf
     clear hu hL hT
     go_wp2_with (refine wpList_load_mid rfl 30 (.tmp 14) rfl b (o + k * 4) rfl r _ hr Tryz.underlying30 rfl (by rw [hr4]; kernel_rfl) ?_)
     refine HC.out.mono ?_
     cases T with
     | true =>
       rintro e w2 ⟨rfl, hP2⟩
       go_wp2_with fail
       go_roundw
       case rel => exact ⟨k + 1, by omega, by go_num, qh HSu.out, hE.pure hP2⟩
       case measure => simp [intOf]; omega
     | false =>
       have HBz := qh (HBf.out rfl)
       clear HBf
       rintro e w2 ⟨rfl, hP2⟩
       go_wp2_with fail
       go_ret
       exact ⟨by rw [HBz.out]; rfl, (hP1.pure hE).pure hP2⟩
    ·have hki : ¬ (k : Int) < (n : Int) := by omega
     have c2 : wr.cell? ⟨tb, 2, none⟩ = some (.string vs) := hBk.cell 2
     have HBy : Hid (B = decide ((vs.size : Int) ≤ 300)) := qh (by
      have h := HY.out
      rw [List.take_of_length_le (by rw [← HN.out]; omega)] at h
      rw [HB.out, h]
      simp only [Bool.true_and]
      exact decide_eq_decide.2 (by omega))
     go_wp2_with fail
     go_ret
     exact ⟨by rw [HBy.out]; first | rfl | simp, hP1.pure hE⟩
def obFew (u : Ob) (m : Nat) : Bool := decide (0 ≤ u.v.few 300) && decide (u.data.size ≤ m) && u.v.txt
set_option maxHeartbeats 1000000 in
theorem obfew_any (d : Nat) (u : Ob) (cs : List Value) (w : World) (hL : Lies w d u.v cs) (m : Nat) :
 Calls Tryz.prog 13 #[.agg (cs ++ [Value.bool u.st, Value.string u.data]).toArray, .int .i64 m] w (BoolTo (obFew u m) w) := by
 have h4 := hL.len
 obtain ⟨w1, hw1⟩ : ∃ z, z = w.alloc (.cells (cs ++ [Value.bool u.st, Value.string u.data]).toArray 32) := ⟨_, rfl⟩
 obtain ⟨tb, htb⟩ : ∃ z, z = w.heap.size := ⟨_, rfl⟩
 have hB1 : BlockIs w1 tb (cs ++ [Value.bool u.st, Value.string u.data]) 32 := by rw [htb, hw1]; exact BlockIs.new w _ _
 have hP : Pure w w1 := hw1 ▸ ext_alloc w _
 have HW : Hid (w.alloc (.cells (cs ++ [Value.bool u.st, Value.string u.data]).toArray 32) = w1) := qh hw1.symm
 have HTb := qh htb
 have HF : Hid (obFew u m = (decide (0 ≤ u.v.few 300) && decide ((u.data.size : Int) ≤ m) && u.v.txt)) := qh (by unfold obFew; congr 2; exact decide_eq_decide.2 (by omega))
 obtain ⟨F, hF⟩ : ∃ F, F = obFew u m := ⟨_, rfl⟩
 rw [← hF] at HF ⊢
 have HC1 := qh (fun W (hP : Pure w W) => few_any d u.v cs 300 W (hL.pure hP) (by decide) (by decide))
 have HC2 := qh (fun W (hP : Pure w W) => texts_any d u.v cs W (hL.pure hP))
 have hr : w1.rangeAt tb 0 cs := fun j v hv => by rw [Nat.zero_add, hB1.cell j, List.getElem?_append_left (List.getElem?_eq_some_iff.1 hv).1]; exact hv
 have c5 : ∀ W, Pure w1 W → W.cell? ⟨tb, 5, none⟩ = some (.string u.data) := fun W hX => ((hB1.ext hX id).cell 5).trans (by rw [List.getElem?_append_right (by omega), h4]; rfl)
 have HC5 := qh c5
 have HL4 := qh h4
 obtain ⟨f, hf⟩ : ∃ z, z = u.v.few 300 := ⟨_, rfl⟩
 obtain ⟨t, ht⟩ : ∃ z, z = u.v.txt := ⟨_, rfl⟩
 rw [← hf] at HF HC1
 rw [← ht] at HF HC2
 generalize u.data = dt at *
 generalize u.st = st at *
 have hr' : (w.alloc (.cells (cs ++ [Value.bool st, Value.string dt]).toArray 32)).rangeAt w.heap.size 0 cs := by rw [HW.out, ← htb]; exact hr
 clear hF hw1 htb c5 hL hf ht h4 hB1
 go_enter Tryz.func13, Tryz.ntmps13
 go_wp2_with (with_reducible refine at_load 30 (.tmp 5) ?_; refine wpList_load_mid rfl 30 (.tmp 5) rfl w.heap.size 0 rfl cs _ hr' Tryz.underlying30 rfl (by rw [HL4.out]; exact size24) ?_)
 rw [HW.out, ← HTb.out]
 refine (HC1.out w1 hP).mono ?_
 rintro e w2 ⟨rfl, hP2⟩
 have c5 := HC5.out w2 hP2
 have hr2 : w2.rangeAt tb 0 cs := fun j v hv => hP2.cell_some (hr j v hv) id
 have hPw := hP.pure hP2
 clear hr hr'
 by_cases hf : 0 ≤ f
 ·by_cases hd : (dt.size : Int) ≤ m
  ·have HFt : Hid (F = t) := qh (by rw [HF.out]; simp [hf, hd])
   go_wp2_with (with_reducible refine at_load 30 (.tmp 17) ?_; refine wpList_load_g rfl (.tmp 17) rfl tb 0 rfl cs hr2 HL4.out ?_)
   refine (HC2.out w2 hPw).mono ?_
   rintro e w3 ⟨rfl, hP3⟩
   go_wp2_with fail
   go_ret
   exact ⟨by rw [HFt.out]; first | rfl | simp, hPw.pure hP3⟩
  ·have HFt : Hid (F = false) := qh (by rw [HF.out]; simp [hd])
   go_wp2_with fail
   go_ret
   exact ⟨by rw [HFt.out]; first | rfl | simp, hPw⟩
 ·have HFt : Hid (F = false) := qh (by rw [HF.out]; simp [hf])
  go_wp2_with fail
  go_ret
  exact ⟨by rw [HFt.out]; first | rfl | simp, hPw⟩
theorem obfew_in {u : Ob} {m : Nat} (h : obFew u m = true) : u.v.l.length < 300 ∧ u.data.size ≤ m := by
 unfold obFew at h
 simp only [Bool.and_eq_true, decide_eq_true_eq] at h
 exact ⟨by have := few_len h.1.1; omega, h.1.2⟩
theorem open_obj {H : Type} {enc : TypeId × Value → H} {W : World} {held : Bool} {F : Nat} {cs : List Value} {y : DataW H × List MemPlace} (hy : DataW.trod enc Tryz.prog W 0 (fun _ => true) held F 32 cs = some y) (hlen : cs.length = 6) :
 ∃ (o : Ob) (vs : List Value), cs = vs ++ [Value.bool o.st, Value.string o.data] ∧ Lies W F o.v vs ∧ o.data.size ≤ maxLen := by
 have s4 : Tryz.prog.cellsOf 30 = 4 := by kernel_rfl
 have s0 : Tryz.prog.cellsOf 4 = 1 := by kernel_rfl
 have s1 : Tryz.prog.cellsOf 9 = 1 := by kernel_rfl
 match cs, hlen with
 | [c0, c1, c2, c3, c4, c5], _ =>
   obtain ⟨xs, n, hF, hx, _, hl4, hfs⟩ := DataW.trod_struct Tryz.underlying32 hy
   have h0 : DataW.trod enc Tryz.prog W 0 (fun _ => true) held n 30 (([c0, c1, c2, c3, c4, c5].drop 0).take (Tryz.prog.cellsOf 30)) = xs[0]? := hfs 0 _ rfl
   have h1 : DataW.trod enc Tryz.prog W 0 (fun _ => true) held n 4 (([c0, c1, c2, c3, c4, c5].drop 4).take (Tryz.prog.cellsOf 4)) = xs[1]? := hfs 1 _ rfl
   have h2 : DataW.trod enc Tryz.prog W 0 (fun _ => true) held n 9 (([c0, c1, c2, c3, c4, c5].drop 5).take (Tryz.prog.cellsOf 9)) = xs[2]? := hfs 2 _ rfl
   rw [s4] at h0
   rw [s0] at h1
   rw [s1] at h2
   simp only [List.drop, List.take] at h0 h1 h2
   match xs, hl4 with
   | [y0, y1, y2], _ =>
     simp only [List.getElem?_cons_zero, List.getElem?_cons_succ] at h0 h1 h2
     obtain ⟨u, hu⟩ := open_lies n _ _ h0 rfl
     obtain ⟨b, e1, _⟩ := DataW.trod_bool Tryz.underlying4 h1
     obtain ⟨s, e2, _, hs⟩ := DataW.trod_string Tryz.underlying9 h2
     cases e1
     cases e2
     exact ⟨⟨u, b, s⟩, [c0, c1, c2, c3], rfl, hu.mono (by omega), hs⟩
theorem open_o {H : Type} {enc : TypeId × Value → H} {W : World} {v : Value} {d : DataW H} {p : List MemPlace} {base : Nat}
 (hv : Value.okWide Tryz.prog W .any base 32 v) (h : DataW.Trod enc Tryz.prog W 0 (fun _ => true) true 32 v d p) :
 ∃ (F : Nat) (o : Ob) (os : List Value), v = .agg os.toArray ∧ ObjIs W F o os := by
 obtain ⟨cs, rfl, hcs⟩ := okWide_struct Tryz.underlying32 hv
 have s6 : Tryz.prog.cellsOf 32 = 6 := by kernel_rfl
 rw [s6] at hcs
 obtain ⟨l, rfl⟩ : ∃ l : List Value, cs = l.toArray := ⟨cs.toList, by simp⟩
 obtain ⟨fuel, hf⟩ := h
 obtain ⟨o, vs, h1, h2, h3⟩ := open_obj hf (by simpa [Value.cells] using hcs)
 exact ⟨fuel, o, l, rfl, vs, by simpa [Value.cells] using h1, h2⟩
