import Derived.Test.YtipmbcalnnomjaaGreatValTu
import Derived.Deep.QuietTactic
import Derived.BigQuiet
import Derived.Test.YtipmbcalnnomjaaGreatSqTu
set_option linter.unusedVariables false
set_option linter.unusedSimpArgs false
set_option maxRecDepth 100000
namespace Go.Proofs.YtipmbcalnnomjaaGreat
open Go.RowKit
mutual
def V.size : V → Nat
 | .mk _ _ _ l => 1 + sizeL l
def sizeL : List V → Nat
 | [] => 0
 | v :: l => v.size + sizeL l
end
mutual
def V.depth : V → Nat
 | .mk k _ _ l => if (k == 6 || k == 7) = true then 1 + depthL l else 1
def depthL : List V → Nat
 | [] => 0
 | v :: l => max v.depth (depthL l)
end
theorem size_eq (v : V) : v.size = 1 + sizeL v.l := by cases v; simp [V.size, V.l]
mutual
theorem V.few_size : ∀ (v : V) (x : Int), 0 ≤ x → v.few x = if (v.size : Int) ≤ x then x - v.size else -1
 | .mk _ _ _ l, x, h => by
   rw [V.few, V.size, fewL_size l (x - 1) (by omega)]
   by_cases e : (sizeL l : Int) ≤ x - 1
   ·rw [if_pos e, if_pos (by omega)]; omega
   ·rw [if_neg e, if_neg (by omega)]
theorem fewL_size : ∀ (l : List V) (x : Int), -1 ≤ x → fewL l x = if (sizeL l : Int) ≤ x then x - sizeL l else -1
 | [], x, h => by
   rw [fewL, sizeL]
   by_cases e : ((0 : Nat) : Int) ≤ x
   ·rw [if_pos e]; omega
   ·rw [if_neg e]; omega
 | v :: l, x, h => by
   rw [fewL, sizeL]
   by_cases h0 : 0 ≤ x
   ·rw [if_pos h0, V.few_size v x h0]
    by_cases e : (v.size : Int) ≤ x
    ·rw [if_pos e, fewL_size l _ (by omega)]
     by_cases e2 : (sizeL l : Int) ≤ x - v.size
     ·rw [if_pos e2, if_pos (by omega)]; omega
     ·rw [if_neg e2, if_neg (by omega)]
    ·rw [if_neg e, if_neg (by omega)]
     exact fewL_neg (by decide)
   ·rw [if_neg h0, if_neg (by omega)]; omega
end
mutual
theorem V.depth_size : ∀ (v : V), v.depth ≤ v.size
 | .mk k _ _ l => by
   have := depthL_size l
   rw [V.depth, V.size]
   split <;> omega
theorem depthL_size : ∀ (l : List V), depthL l ≤ sizeL l
 | [] => by simp [depthL]
 | v :: l => by
   have h1 := V.depth_size v
   have h2 := depthL_size l
   rw [depthL, sizeL]; omega
end
theorem depthL_snoc (l : List V) (v : V) : depthL (l ++ [v]) = max (depthL l) v.depth := by
 induction l with
 | nil => simp [depthL]
 | cons u l ih => rw [List.cons_append, depthL, depthL, ih, Nat.max_assoc]
theorem sizeL_append (l m : List V) : sizeL (l ++ m) = sizeL l + sizeL m := by
 induction l with
 | nil => simp [sizeL]
 | cons u l ih => rw [List.cons_append, sizeL, sizeL, ih]; omega
theorem size_mem {l : List V} {v : V} (h : v ∈ l) : v.size ≤ sizeL l := by
 induction l with
 | nil => cases h
 | cons u l ih =>
   rw [sizeL]
   rcases List.mem_cons.1 h with rfl | h
   ·omega
   ·have := ih h; omega
def BoolTo (x : Bool) (w : World) (e : Ending) (w' : World) : Prop := e = .returned (.bool x) ∧ Pure w w'
def V.holds (v : V) : Bool := v.kind == 6 || v.kind == 7
theorem holds_iff {v : V} : v.holds = true ↔ v.kind = 6 ∨ v.kind = 7 := by simp [V.holds]
theorem depth_eq (v : V) : v.depth = if v.holds = true then 1 + depthL v.l else 1 := by cases v; rw [V.depth]; rfl
theorem holds_any {d : Nat} {v : V} {cs : List Value} {w : World} (h : Lies w d v cs) : Calls Tryz.prog 57 #[.agg cs.toArray] w (BoolTo v.holds w) := by
 cases d with
 | zero => exact h.elim
 | succ d =>
   obtain ⟨a, c, rows, rfl, _, _, _, hK, hs⟩ := h.kids
   obtain ⟨B, hB⟩ : ∃ B, B = v.holds := ⟨_, rfl⟩
   rw [← hB]
   unfold V.holds at hB
   generalize v.kind = k at *
   by_cases h6 : k = 6
   ·have h6' : (k == 6) = true := by simp [h6]
    have HB : Hid (B = true) := qh (by rw [hB, h6']; rfl)
    clear hB h6 hK h
    go_enter Tryz.func57, Tryz.ntmps57
    go_wp2_with fail
    go_ret
    exact ⟨by rw [HB.out]; rfl, ext_alloc _ _⟩
   ·have h6' : (k == 6) = false := by simp [h6]
    obtain ⟨C, hC⟩ : ∃ C, C = (k == 7) := ⟨_, rfl⟩
    have HB : Hid (B = C) := qh (by rw [hB, h6', hC]; rfl)
    have hC' : (k == 7) = C := hC.symm
    clear hB h6 hK hC h
    go_enter Tryz.func57, Tryz.ntmps57
    go_wp2_with fail
    all_goals
     go_ret
     exact ⟨by rw [HB.out]; rfl, ext_alloc _ _⟩
theorem Lies.one {W : World} {d : Nat} {v : V} {cs : List Value} (h : Lies W d v cs) : cs.toArray.all (fun u => u.oneCell') = true := by
 cases d with
 | zero => exact h.elim
 | succ d =>
   obtain ⟨a, c, rows, rfl, _⟩ := h
   exact all_oneCell_toArray (by intro u hu; simp only [List.mem_cons, List.not_mem_nil, or_false] at hu; rcases hu with rfl | rfl | rfl | rfl <;> rfl)
def zeroCs : List Value := [.int .i64 0, .int .i64 0, .string ⟨#[]⟩, .slice none 0 0]
theorem put_new {W : World} {d : Nat} {v : V} {cs : List Value} (C : Array Value) (hC : C = zeroCs.toArray) (h : Lies W d v cs) : (W.alloc (.cells C 48)).there W.heap.size 0 4 ∧ BlockIs ((W.alloc (.cells C 48)).setCells W.heap.size 0 cs) W.heap.size cs 48 ∧ Pure W ((W.alloc (.cells C 48)).setCells W.heap.size 0 cs) := by
 subst hC
 have hB := BlockIs.new W zeroCs 48
 exact ⟨hB.there 4 rfl, hB.setAll cs (by rw [h.len]; rfl), Ext.setCells cs 0 _ (ext_alloc W _) (fun h => absurd h (Nat.lt_irrefl _))⟩
set_option maxHeartbeats 1000000 in
theorem depth_any : ∀ (d : Nat) (v : V) (cs : List Value) (w : World), Lies w d v cs → v.size ≤ 100000 →
 Calls Tryz.prog 126 #[.agg cs.toArray] w (IntTo v.depth w)
 | 0, _, _, _, h, _ => h.elim
 | d + 1, v, cs, w, h, hsz => by
   have IH := depth_any d
   obtain ⟨a, c, rows, rfl, hlc, hcm, hnil, hK, hs⟩ := h.kids
   obtain ⟨w1, hw1⟩ : ∃ w1, w1 = w.alloc (.cells #[.int .i64 v.kind, .int .i64 v.n, .string v.s, .slice a v.l.length c] 48) := ⟨_, rfl⟩
   have hBx : BlockIs w1 w.heap.size [.int .i64 v.kind, .int .i64 v.n, .string v.s, .slice a v.l.length c] 48 := hw1 ▸ BlockIs.new w _ _
   have hP1 : Pure w w1 := hw1 ▸ ext_alloc w _
   obtain ⟨tb, htb⟩ : ∃ tb, tb = w.heap.size := ⟨_, rfl⟩
   rw [← htb] at hBx
   have hd := depth_eq v
   have hho := holds_iff (v := v)
   obtain ⟨D, hD⟩ : ∃ D, D = v.depth := ⟨_, rfl⟩
   rw [← hD]
   rw [← hD] at hd
   obtain ⟨n, hn⟩ : ∃ n, n = v.l.length := ⟨_, rfl⟩
   obtain ⟨l, hl⟩ : ∃ l, l = v.l := ⟨_, rfl⟩
   have hszl : sizeL l ≤ 100000 := by have := size_eq v; rw [hl]; omega
   have hlen : n ≤ sizeL l := by
    rw [hn, ← hl]
    clear hd hK hn hl hszl
    induction l with
    | nil => simp [sizeL]
    | cons u l ih => rw [sizeL, List.length_cons]; have := size_eq u; omega
   rw [← hl] at hd hn hK
   rw [← hl, ← hn]
   rw [← hl, ← hn] at hlc hw1 hBx
   obtain ⟨H, hH⟩ : ∃ H, H = v.holds := ⟨_, rfl⟩
   rw [← hH] at hd hho
   generalize v.kind = k at *
   have HI := qh IH
   have HD := qh hd
   have HN := qh hn
   have HSz := qh hszl
   have HW1 := qh hw1
   have HTb := qh htb
   have hn1 : n ≤ 100000 := by omega
   clear IH hd hn hl h hD hH hw1 htb hsz hlen hszl
   cases H with
   | false =>
     have HB : Hid (D = 1) := qh (by rw [HD.out]; rfl)
     have h67 : ¬ (k = 6 ∨ k = 7) := fun e => by have := hho.2 e; cases this
     have h6 : (k == 6) = false := by simp; omega
     have h7 : (k == 7) = false := by simp; omega
     clear HD hK HI hho h67
     go_enter Tryz.func126, Tryz.ntmps126
     go_wp2_with fail
     go_ret
     exact ⟨by rw [HB.out]; rfl, by rw [← HW1.out]; exact hP1⟩
   | true =>
     have HB : Hid (D = 1 + depthL l) := qh (by rw [HD.out]; rfl)
     have h67 := hho.1 rfl
     clear HD hho
     rcases h67 with rfl | rfl
     all_goals
      go_enter Tryz.func126, Tryz.ntmps126
      go_wp2_with fail
      rw [← HW1.out, ← HTb.out]
      go_loopw [3, 5, 17] (fun y _ i W => ∃ k : Nat, k ≤ n ∧ i = .int .i64 k ∧ y = .int .i64 (depthL (l.take k) : Nat) ∧ Pure w1 W) (fun _ _ i _ => n - (intOf i).toNat)
      case atStart => exact ⟨0, Nat.zero_le _, rfl, by rw [List.take_zero, depthL]; rfl, Ext.refl _ _⟩
      case round =>
       obtain ⟨k, hk, rfl, rfl, hE⟩ := hrel
       by_cases hlt : k < n
       ·have hki : (k : Int) < (n : Int) := by omega
        obtain ⟨u, hu⟩ : ∃ u, l[k]? = some u := ⟨_, List.getElem?_eq_getElem (by rw [← HN.out]; exact hlt)⟩
        obtain ⟨b, o, r, rfl, hr, hr4, hL⟩ := (hK.pure (hP1.pure hE)).at k u hu
        have hus : u.size ≤ 100000 := Nat.le_trans (size_mem (List.mem_of_getElem? hu)) HSz.out
        have hmx : depthL (l.take (k + 1)) = max (depthL (l.take k)) u.depth := by
         obtain ⟨hkl, rfl⟩ := List.getElem?_eq_some_iff.1 hu
         rw [List.take_succ_eq_append_getElem hkl, depthL_snoc]
        obtain ⟨hth, hB2, hP2⟩ := put_new _ rfl hL
        have hone := hL.one
        obtain ⟨w2, hw2⟩ : ∃ z, z = (wr.alloc (.cells zeroCs.toArray 48)).setCells wr.heap.size 0 r := ⟨_, rfl⟩
        rw [← hw2] at hB2 hP2
        have hR2 := hB2.range
        have hdu := V.depth_size u
        obtain ⟨y, hy⟩ : ∃ y, y = depthL (l.take k) := ⟨_, rfl⟩
        have hdk : y ≤ 100000 := by rw [hy]; exact Nat.le_trans (depthL_size _) (Nat.le_trans (by have := sizeL_append (l.take k) (l.drop k); rw [List.take_append_drop] at this; omega) HSz.out)
        obtain ⟨z, hz⟩ : ∃ z, z = u.depth := ⟨_, rfl⟩
        have HC0 := HI.out u r w2 (hL.pure hP2) hus
        rw [← hz] at HC0 hmx hdu
        rw [← hy] at hmx ⊢
        have HC := qh HC0
        have HMx := qh hmx
        have HW2 := qh hw2
        have HOne := qh hone
        have hsr : r.toArray.size = 4 := by rw [List.size_toArray]; exact hr4
        have HTh := qh (show (wr.alloc (.cells #[.int .i64 0, .int .i64 0, .string ⟨#[]⟩, .slice none 0 0] 48)).there wr.heap.size 0 r.toArray.size by rw [hsr]; exact hth)
        have HSi : Hid ((Tryz.prog.info? 48).map (·.size) = some r.toArray.size) := qh (by rw [hsr]; kernel_rfl)
        have HR4 := qh hr4
        have hz5 : z ≤ 100000 := by omega
        clear hu hL HC0 hmx hy hz hdu hus hw2 hone hth hr4 hB2 hsr
        go_wp2_with (first
         | (refine wpList_load_mid rfl 48 (.tmp 19) rfl b (o + k * 4) rfl r _ hr Tryz.underlying48 rfl (by rw [HR4.out]; kernel_rfl) ?_)
         | (refine wpList_store_mid rfl 48 (.tmp 5) (.tmp 20) rfl wr.heap.size 0 r.toArray rfl rfl HTh.out HSi.out HOne.out ?_; rw [show (wr.alloc (.cells #[.int .i64 0, .int .i64 0, .string ⟨#[]⟩, .slice none 0 0] 48)).setCells wr.heap.size 0 r.toArray.toList = w2 from HW2.out.symm])
         | (refine wpList_load_mid rfl 48 (.tmp 5) rfl wr.heap.size 0 rfl r _ hR2 Tryz.underlying48 rfl (by rw [HR4.out]; kernel_rfl) ?_))
        refine HC.out.mono ?_
        rintro e w3 ⟨rfl, hP3⟩
        clear HC
        go_wp2_with fail
        all_goals
         go_roundw
         case rel => exact ⟨k + 1, by omega, by go_num, (by rw [HMx.out]; first | (rw [Nat.max_eq_left (by omega)]) | (rw [Nat.max_eq_right (by omega)]) | (congr 1; omega)), (hE.pure hP2).pure hP3⟩
         case measure => simp [intOf]; omega
       ·have hki : ¬ (k : Int) < (n : Int) := by omega
        obtain ⟨y, hy⟩ : ∃ y, y = depthL (l.take k) := ⟨_, rfl⟩
        have hyb : y ≤ 100000 := by
         rw [hy, List.take_of_length_le (by rw [← HN.out]; omega)]
         exact Nat.le_trans (depthL_size _) HSz.out
        have HB2 : Hid (D = 1 + y) := qh (by rw [HB.out, hy, List.take_of_length_le (by rw [← HN.out]; omega)])
        rw [← hy]
        clear hy
        go_wp2_with fail
        go_ret
        exact ⟨by rw [HB2.out, Int.natCast_add]; rfl, hP1.pure hE⟩
def numE (k n : Int) (s : ByteArray) (len : Nat) : Int :=
 if s.toList = [] ∧ len = 0 ∧ ((k = 2 ∧ -2147483647 ≤ n ∧ n ≤ 2147483647) ∨ (k = 3 ∧ -2147483647000000 ≤ n ∧ n ≤ 2147483647000000)) then 0 else 2
set_option maxHeartbeats 1000000 in
theorem numcheck_any (k n : Int) (s : ByteArray) (a : Option Addr) (len c : Nat) (w : World) :
 Calls Tryz.prog 147 #[.agg #[.int .i64 k, .int .i64 n, .string s, .slice a len c]] w (IntTo (numE k n s len) w) := by
 obtain ⟨E, hE⟩ : ∃ E, E = numE k n s len := ⟨_, rfl⟩
 rw [← hE]
 unfold numE at hE
 have HE := qh hE
 clear hE
 have hcase : k = 2 ∨ k = 3 ∨ (¬ k = 2 ∧ ¬ k = 3) := by omega
 rcases hcase with rfl | rfl | ⟨n2, n3⟩
 all_goals
  by_cases lo2 : n < -2147483647 <;> by_cases hi2 : 2147483647 < n <;> by_cases lo3 : n < -2147483647000000 <;> by_cases hi3 : 2147483647000000 < n
 all_goals
  first
   | (exfalso; omega)
   | (go_enter Tryz.func147, Tryz.ntmps147
      go_wp2_with fail
      all_goals
       go_ret
       refine ⟨?_, ext_alloc _ _⟩
       rw [HE.out]
       split
       ·next h => first | rfl | (exfalso; obtain ⟨h1, h2, h3⟩ := h; first | contradiction | omega | (rcases h3 with ⟨h6, h4, h5⟩ | ⟨h6, h4, h5⟩ <;> first | omega | contradiction | (clear h6; omega)))
       ·next h => first | rfl | (exfalso; apply h; refine ⟨?_, ?_, ?_⟩ <;> first | assumption | omega | (left; refine ⟨trivial, ?_, ?_⟩ <;> omega) | (right; refine ⟨trivial, ?_, ?_⟩ <;> omega)))
theorem Kids.cells {W : World} {d : Nat} {l : List V} {a : Option Addr} {rows : List (List Value)} (h : Kids W d l a rows) (k : Nat) (u : V) (hk : l[k]? = some u) :
 ∃ b o a' c', a = some ⟨b, o, none⟩ ∧ W.cell? ⟨b, o + k * 4, none⟩ = some (.int .i64 u.kind) ∧ W.cell? ⟨b, o + k * 4 + 1, none⟩ = some (.int .i64 u.n) ∧ W.cell? ⟨b, o + k * 4 + 2, none⟩ = some (.string u.s) ∧ W.cell? ⟨b, o + k * 4 + 3, none⟩ = some (.slice a' u.l.length c') := by
 obtain ⟨b, o, r, ha, hr, _, hL⟩ := h.at k u hk
 cases d with
 | zero => exact hL.elim
 | succ d =>
   obtain ⟨a', c', _, rfl, _⟩ := hL.kids
   exact ⟨b, o, a', c', ha, hr 0 _ rfl, hr 1 _ rfl, hr 2 _ rfl, hr 3 _ rfl⟩
def kindAt (l : List V) (i : Nat) : Int := (l[i]?.map V.kind).getD 0
def keyAt (l : List V) (i : Nat) : ByteArray := (l[i]?.map V.s).getD ⟨#[]⟩
def lessB (a b : ByteArray) : Bool := Op.bytesLess a.toList b.toList
def namesB (l : List V) : Bool := (List.range (l.length / 2)).all fun j => kindAt l (2 * j) == 5
def orderB (l : List V) : Bool := (List.range (l.length / 2 - 1)).all fun j => lessB (keyAt l (2 * j)) (keyAt l (2 * j + 2))
def dictE (l : List V) : Int := if l.length % 2 = 1 then 2 else if namesB l = true then (if orderB l = true then 0 else 16) else 2
theorem namesB_true {l : List V} : namesB l = true ↔ ∀ j, j < l.length / 2 → kindAt l (2 * j) = 5 := by simp [namesB]
theorem orderB_true {l : List V} : orderB l = true ↔ ∀ j, j < l.length / 2 - 1 → lessB (keyAt l (2 * j)) (keyAt l (2 * j + 2)) = true := by simp [orderB]
theorem kindAt_some {l : List V} {i : Nat} {u : V} (h : l[i]? = some u) : kindAt l i = u.kind := by simp [kindAt, h]
theorem keyAt_some {l : List V} {i : Nat} {u : V} (h : l[i]? = some u) : keyAt l i = u.s := by simp [keyAt, h]
set_option maxHeartbeats 1000000 in
theorem dict_any {d : Nat} {l : List V} {a : Option Addr} {rows : List (List Value)} (k0 n0 : Int) (s0 : ByteArray) (c : Nat) (w : World) (hK : Kids w d l a rows) (hl : l.length ≤ 1000000) :
 Calls Tryz.prog 149 #[.agg #[.int .i64 k0, .int .i64 n0, .string s0, .slice a l.length c]] w (IntTo (dictE l) w) := by
 obtain ⟨E, hE⟩ : ∃ E, E = dictE l := ⟨_, rfl⟩
 rw [← hE]
 unfold dictE at hE
 obtain ⟨n, hn⟩ : ∃ n, n = l.length := ⟨_, rfl⟩
 rw [← hn] at hE hl ⊢
 obtain ⟨w1, hw1⟩ : ∃ w1, w1 = w.alloc (.cells #[.int .i64 k0, .int .i64 n0, .string s0, .slice a n c] 48) := ⟨_, rfl⟩
 have hBx : BlockIs w1 w.heap.size [.int .i64 k0, .int .i64 n0, .string s0, .slice a n c] 48 := hw1 ▸ BlockIs.new w _ _
 have hP1 : Pure w w1 := hw1 ▸ ext_alloc w _
 have hK1 := hK.pure hP1
 obtain ⟨tb, htb⟩ : ∃ tb, tb = w.heap.size := ⟨_, rfl⟩
 rw [← htb] at hBx
 have HE := qh hE
 have HN := qh hn
 have HW1 := qh hw1
 have HTb := qh htb
 clear hE hn hw1 htb hK
 have c3 : w1.cell? ⟨tb, 3, none⟩ = some (.slice a n c) := hBx.cell 3
 by_cases hodd : n % 2 = 1
 ·have HEE : Hid (E = 2) := qh (by rw [HE.out, if_pos hodd])
  have ho : (n : Int) % 2 = 1 := by omega
  clear hodd
  go_enter Tryz.func149, Tryz.ntmps149
  go_wp2_with fail
  go_ret
  exact ⟨by rw [HEE.out]; rfl, by rw [← HW1.out]; exact hP1⟩
 ·have ho : (n : Int) % 2 = 0 := by omega
  have HEE : Hid (E = if namesB l = true then (if orderB l = true then 0 else 16) else 2) := qh (by rw [HE.out, if_neg hodd])
  clear HE
  go_enter Tryz.func149, Tryz.ntmps149
  go_wp2_with fail
  rw [← HW1.out, ← HTb.out]
  go_loop [3] (fun i => ∃ j : Nat, 2 * j ≤ n ∧ i = .int .i64 ((2 * j : Nat) : Int) ∧ Hid (∀ i, i < j → kindAt l (2 * i) = 5)) (fun i => n - (intOf i).toNat)
  case atStart => exact ⟨0, by omega, rfl, qh (fun i hi => by omega)⟩
  case round =>
   obtain ⟨j, hj, rfl, HA⟩ := hrel
   obtain ⟨q, hq⟩ : ∃ q, q = 2 * j := ⟨_, rfl⟩
   rw [← hq] at hj ⊢
   have HQ := qh hq
   clear hq
   by_cases hlt : q < n
   ·have hki : (q : Int) < (n : Int) := by omega
    obtain ⟨u, hu⟩ : ∃ u, l[q]? = some u := ⟨_, List.getElem?_eq_getElem (by rw [← HN.out]; exact hlt)⟩
    obtain ⟨b, o, a', c', rfl, e0, e1, e2, e3⟩ := hK1.cells q u hu
    have hk0 := kindAt_some hu
    generalize u.kind = kk at *
    by_cases h5 : kk = 5
    ·subst h5
     have HA2 : Hid (∀ i, i < j + 1 → kindAt l (2 * i) = 5) := qh (fun i hi => by
      by_cases e : i = j
      ·rw [e, ← HQ.out]; exact hk0
      ·exact HA.out i (by omega))
     have hq2 : q + 2 ≤ n := by have := HQ.out; omega
     clear hk0 hu
     go_wp2_with fail
     go_round
     case rel => exact ⟨j + 1, by have := HQ.out; omega, by rw [show 2 * (j + 1) = q + 2 from by have := HQ.out; omega]; go_num, HA2⟩
     case measure => simp [intOf]; omega
    ·have HEE2 : Hid (E = 2) := qh (by
      rw [HEE.out, if_neg]
      intro h
      have := namesB_true.1 h j (by have := HQ.out; rw [← HN.out]; omega)
      rw [← HQ.out, hk0] at this
      exact h5 this)
     have h5' : (kk != 5) = true := by simpa using h5
     clear hk0 hu h5
     go_wp2_with fail
     go_ret
     exact ⟨by rw [HEE2.out]; rfl, hP1⟩
   ·have hki : ¬ (q : Int) < (n : Int) := by omega
    have HEE2 : Hid (E = if orderB l = true then 0 else 16) := qh (by
     rw [HEE.out, if_pos]
     exact namesB_true.2 (fun i hi => HA.out i (by have := HQ.out; rw [← HN.out] at hi; omega)))
    clear HEE HA
    go_wp2_with fail
    go_loopw [4] (fun i W => ∃ j : Nat, 1 ≤ j ∧ (2 * j ≤ n ∨ j = 1) ∧ i = .int .i64 ((2 * j : Nat) : Int) ∧ Hid (∀ i, i + 1 < j → lessB (keyAt l (2 * i)) (keyAt l (2 * i + 2)) = true) ∧ Pure w1 W) (fun i _ => n - (intOf i).toNat)
    case atStart => exact ⟨1, by omega, Or.inr rfl, rfl, qh (fun i hi => by omega), Ext.refl _ _⟩
    case round =>
     obtain ⟨j, hj1, hj, rfl, HA, hE⟩ := hrel
     obtain ⟨q, hq⟩ : ∃ q, q = 2 * j := ⟨_, rfl⟩
     rw [← hq] at hj ⊢
     have hq2 : 2 ≤ q := by omega
     have hq3 : q ≤ 1000000 := by omega
     have HQ := qh hq
     clear hq
     have c3' : wr.cell? ⟨tb, 3, none⟩ = some (.slice a n c) := (hBx.ext hE id).cell 3
     by_cases hlt : q < n
     ·have hki : (q : Int) < (n : Int) := by omega
      obtain ⟨p, hp⟩ : ∃ p, p + 2 = q := ⟨q - 2, by omega⟩
      have hpn : (p : Int) < (n : Int) := by omega
      have hqp : (q : Int) - 2 = (p : Int) := by omega
      have hqw : IntKind.i64.wrap (p : Int) = (p : Int) := IntWalk.i64_in _ (by omega)
      have hq0 : (0 : Int) ≤ (p : Int) := by omega
      obtain ⟨u, hu⟩ : ∃ u, l[q]? = some u := ⟨_, List.getElem?_eq_getElem (by rw [← HN.out]; exact hlt)⟩
      obtain ⟨t, ht⟩ : ∃ t, l[p]? = some t := ⟨_, List.getElem?_eq_getElem (by rw [← HN.out]; omega)⟩
      obtain ⟨b, o, a', c', rfl, e0, e1, e2, e3⟩ := (hK1.pure hE).cells q u hu
      obtain ⟨b', o', a'', c'', hbb, f0, f1, f2, f3⟩ := (hK1.pure hE).cells p t ht
      cases hbb
      have hk0 := keyAt_some hu
      have hk1 := keyAt_some ht
      obtain ⟨B, hB⟩ : ∃ B, B = Op.bytesLess t.s.toList u.s.toList := ⟨_, rfl⟩
      have hB' : Op.bytesLess t.s.toList u.s.toList = B := hB.symm
      have hlB : lessB (keyAt l p) (keyAt l q) = B := by rw [hk0, hk1, lessB, hB']
      have hpj : p = 2 * (j - 1) := by have := HQ.out; omega
      have HPJ := qh (And.intro hpj hp)
      have HLB := qh hlB
      have HHK := qh hK1
      generalize t.s = ts at *
      generalize u.s = us at *
      have hrun : ∀ W, (binOp .geq 9 (.string ts) (.string us)).run Tryz.prog W = .ok (.bool (!B)) W := fun W => by
       simp only [binOp]
       show Sem.run _ (Op.stringOp .geq ts us) W = _
       simp [Op.stringOp, hB']
      clear hk0 hk1 hu ht hlB hpj hB hp e0 e1 e3 f0 f1 f3 hK1
      cases B with
      | true =>
        have HA2 : Hid (∀ i, i + 1 < j + 1 → lessB (keyAt l (2 * i)) (keyAt l (2 * i + 2)) = true) := qh (fun i hi => by
         by_cases e : i + 1 = j
         ·have h1 := HPJ.out.1
          have h2 := HPJ.out.2
          rw [show 2 * i = p from by omega, show p + 2 = q from h2]
          exact HLB.out
         ·exact HA.out i (by omega))
        go_wp2_with fail
        go_quiet (fail)
        go_wp2_with fail
        go_roundw
        case rel => exact ⟨j + 1, by omega, by have := HQ.out; omega, by rw [show 2 * (j + 1) = q + 2 from by have := HQ.out; omega]; go_num, HA2, hE.drewN _⟩
        case measure => simp [intOf]; omega
      | false =>
        have HEE3 : Hid (E = 16) := qh (by
         rw [HEE2.out, if_neg]
         intro h
         have h1 := HPJ.out.1
         have h2 := HPJ.out.2
         have := orderB_true.1 h (j - 1) (by have := HQ.out; rw [← HN.out]; omega)
         rw [show 2 * (j - 1) = p from by omega, show p + 2 = q from h2, HLB.out] at this
         cases this)
        go_wp2_with fail
        go_quiet (fail)
        go_wp2_with fail
        go_ret
        exact ⟨by rw [HEE3.out]; rfl, hP1.pure (hE.drewN _)⟩
     ·have hki : ¬ (q : Int) < (n : Int) := by omega
      have HEE3 : Hid (E = 0) := qh (by
       rw [HEE2.out, if_pos]
       exact orderB_true.2 (fun i hi => HA.out i (by have := HQ.out; rw [← HN.out] at hi; omega)))
      go_wp2_with fail
      go_ret
      exact ⟨by rw [HEE3.out]; rfl, hP1.pure hE⟩
