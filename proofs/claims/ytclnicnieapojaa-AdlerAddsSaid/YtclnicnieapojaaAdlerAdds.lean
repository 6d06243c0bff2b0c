/-
  Proved: AdlerAdds: for all slices of bytes the law returns true, and writes nothing that was there. Conditions: none.
-/
import Derived.Test.YtclnicnieapojaaRow
import Derived.Test.YtclnicnieapojaaReg
import Derived.Test.YtclnicnieapojaaOwn
import Derived.Deep.Slices
namespace Go.Proofs.Ytclnicnieapojaa.adlerAdds
open Go.ChangeShapes Go.WideShapes Go.ChangeAt Go.RowKit
set_option linter.unusedVariables false

theorem info5 : (Try.prog.info? 5).map (fun i => (i.zero, i.size, i.bytes)) = some (some (.int .u8 0), 1, 1) := by kernel_rfl
theorem rowOf_bytes {w : World} {ad : Option Addr} {l : List UInt8} (h : Bytes w ad l) : RowOf w ad (l.map byV) := by
  intro i u hu
  rw [List.getElem?_map] at hu
  cases hi : l[i]? with
  | none => rw [hi] at hu; cases hu
  | some y =>
    rw [hi] at hu; cases hu
    have hlt := (List.getElem?_eq_some_iff.1 hi).1
    obtain ⟨b, o, h1, h2⟩ := h i hlt
    exact ⟨b, o, h1, by rw [h2]; simp [List.getD_eq_getElem?_getD, hi]⟩
theorem bytes_rowOf {w : World} {ad : Option Addr} {l : List UInt8} (h : RowOf w ad (l.map byV)) : Bytes w ad l := by
  intro i hi
  obtain ⟨b, o, h1, h2⟩ := h i (byV l[i]) (by simp [hi])
  exact ⟨b, o, h1, by rw [h2]; simp [List.getD_eq_getElem?_getD, hi]⟩
theorem PartIs.ext {S : Nat → Prop} {w w' : World} {p : Part} {v : Value} (h : PartIs w p v) (e : Ext S w w') (hn : ∀ a, p.1 = some a → ¬ S a.block) : PartIs w' p v :=
  ⟨h.1, h.2.1, h.2.2.1, h.2.2.2.ext e hn⟩
theorem PartsAt.pure {w w' : World} {ad : Option Addr} {ps : List Part} (h : PartsAt w ad ps) (e : Pure w w') : PartsAt w' ad ps := by
  intro i hi
  obtain ⟨b, o, v, h1, h2, h3⟩ := h i hi
  exact ⟨b, o, v, h1, e.cell_some h2 id, PartIs.ext h3 e (fun _ _ => id)⟩
theorem block_old {w : World} {a : Option Addr} {l : List UInt8} (h : Bytes w a l) (hl : l ≠ []) : ∀ x, a = some x → x.block < w.heap.size := by
  intro x hx
  have hpos : 0 < l.length := List.length_pos_iff.2 hl
  obtain ⟨b, o, h1, h2⟩ := h 0 hpos
  rw [hx] at h1; cases h1
  exact World.block_lt_of_cell? _ _ h2
theorem bytes_keep {w0 w w' : World} {sb : Nat} {a : Option Addr} {l : List UInt8} (h0 : Bytes w0 a l) (hp : Pure w0 w) (hsb : w0.heap.size ≤ sb) (e : Ext (fun i => i = sb) w w') : Bytes w' a l := by
  intro i hi
  obtain ⟨b, o, h1, h2⟩ := h0 i hi
  have hb := World.block_lt_of_cell? _ _ h2
  exact ⟨b, o, h1, e.cell_some (hp.cell_some h2 id) (by intro e'; simp at e'; simp at hb; omega)⟩
theorem bytes_take {w : World} {a : Option Addr} {l : List UInt8} (h : Bytes w a l) (n : Nat) : Bytes w a (l.take n) := by
  intro i hi
  simp at hi
  obtain ⟨b, o, h1, h2⟩ := h i (by omega)
  exact ⟨b, o, h1, by rw [h2]; simp [List.getD_eq_getElem?_getD, List.getElem?_take, show i < n by omega]⟩
theorem bytes_drop {w : World} {a : Option Addr} {l : List UInt8} (h : Bytes w a l) (n : Nat) : Bytes w (a.map fun x => x.add n) (l.drop n) := by
  intro i hi
  simp at hi
  obtain ⟨b, o, rfl, h2⟩ := h (n + i) (by omega)
  refine ⟨b, o + n, by simp [addr_add], ?_⟩
  rw [show o + n + i = o + (n + i) from by omega, h2]
  simp [List.getD_eq_getElem?_getD]

theorem bytesOf_len (ps : List Part) (k m : Nat) (hk : k ≤ ps.length) (h : ∀ i (hi : i < ps.length), i < k → ps[i].2.2.length ≤ m) : (bytesOf (ps.take k)).length ≤ m * k := by
  induction k with
  | zero => simp [bytesOf]
  | succ k ih =>
    have hlt : k < ps.length := by omega
    have h1 := ih (by omega) (fun i hi hk' => h i hi (by omega))
    have h2 := h k hlt (by omega)
    rw [bytesOf_succ ps k hlt, List.length_append, Nat.mul_add]
    omega

set_option maxHeartbeats 4000000 in
set_option maxRecDepth 100000 in
theorem walk (ad : Option Addr) (cap : Nat) (ps : List Part) (w : World) (hl : (ps.length : Int) ≤ 9223372036854775807) (hp : PartsAt w ad ps) (hnil : ∀ i (hi : i < ps.length), ps[i].1 = none → ps[i].2.1 = 0) :
    Calls Try.prog 4 #[.slice ad ps.length cap] w fun e w' => e = .returned (.bool true) ∧ Below w.heap.size w w' := by
  go_enter Try.func4, Try.ntmps4
  go_wp2_with fail
  go_loopw [5, 6] (fun v i wr => ∃ (k : Nat) (a : Option Addr) (c : Nat), k ≤ ps.length ∧ k ≤ 40 ∧ i = .int .i64 k ∧ v = .slice a (bytesOf (ps.take k)).length c ∧ wr.ownsRow (w.heap.size + 1) 5 1 v (bytesOf (ps.take k)).length ((bytesOf (ps.take k)).map byV) ∧ Sum32Is wr w.heap.size (bytesOf (ps.take k)) ∧ Pure w wr ∧ (∀ i (hi : i < ps.length), i < k → ps[i].2.2.length ≤ 1000)) (fun _ i _ => 40 - (intOf i).toNat)
  case atStart => exact ⟨0, none, 0, Nat.zero_le _, Nat.zero_le _, rfl, rfl, World.ownsRow_nil _ _ _ _, BlockIs.new w _ _, ext_alloc _ _, fun i hi h => absurd h (by omega)⟩
  case round =>
    obtain ⟨k, a, c, hk, hk40, rfl, rfl, hown, hsum, hE, hsmall⟩ := hrel
    have hbl := bytesOf_len ps k 1000 hk hsmall
    have hsz := hsum.lt
    by_cases hlt : k < ps.length
    · by_cases hlt40 : k < 40
      · obtain ⟨b, o, v, rfl, hcell, rfl, hle, hc, hbytes⟩ := hp k hlt
        have hcw := hE.cell_some hcell id
        have hk0 : (0 : Int) ≤ (k : Int) := by omega
        have hki : (k : Int) < (ps.length : Int) := by omega
        by_cases hbig : 1000 < ps[k].2.2.length
        · go_wp2_with fail
          refine (works_any wr).mono ?_
          rintro e w1 ⟨rfl, hP⟩
          go_wp2_with fail
          go_ret
          exact ⟨rfl, (hE.pure hP).below⟩
        · have hs := bytesOf_succ ps k hlt
          have hnilk := hnil k hlt
          have hsmall' : ∀ i (hi : i < ps.length), i < k + 1 → ps[i].2.2.length ≤ 1000 := fun i hi hik => by
            by_cases e : i = k
            · subst e; omega
            · exact hsmall i hi (by omega)
          clear hsmall hcw
          have hcw := hE.cell_some hcell id
          obtain ⟨l, hl'⟩ : ∃ l, l = ps[k].2.2 := ⟨_, rfl⟩
          obtain ⟨pa, hpa⟩ : ∃ pa, pa = ps[k].1 := ⟨_, rfl⟩
          obtain ⟨pc, hpc⟩ : ∃ pc, pc = ps[k].2.1 := ⟨_, rfl⟩
          rw [← hl'] at hs hbig hle hbytes hcw hcell
          rw [← hpa] at hnilk hbytes hcw hcell
          rw [← hpc] at hnilk hle hc hcw hcell
          clear hl' hpa hpc
          have HS := Lib.hid hs
          clear hs
          generalize bytesOf (ps.take k) = all at *
          rcases Nat.mod_two_eq_zero_or_one k with hm | hm
          · have hmod : ((k : Int) % 2 == 0) = true := by rw [beq_iff_eq]; omega
            clear hm
            go_wp2_with fail
            refine (add_any w.heap.size all _ _ [(pa, pc, l)] _ (BlockIs.alloc hsum _) (by simp) ?_ (by simp [bytesOf]; omega)).mono ?_
            · intro w' hE' i hi
              obtain rfl : i = 0 := by simp at hi; omega
              exact ⟨_, _, _, rfl, hE'.cell_some (p := ⟨wr.heap.size, 0 + 0, none⟩) (cell_at rfl rfl) (fun e => by have e' : wr.heap.size = w.heap.size := e; omega), rfl, hle, hc, bytes_keep hbytes (hE.alloc _) (Nat.le_refl _) hE'⟩
            rintro e w2 ⟨rfl, hsum2, hE'⟩
            have hE2 : Pure w w2 := (hE.alloc _).trans hE' (fun i hi e => by have e' : i = w.heap.size := e; omega)
            have hown2 := own_ext (hown.alloc (.cells #[.slice pa l.length pc] 22)) hE' (fun g hg e => by have := (hown.lt g hg).1; have e' : g = w.heap.size := e; omega)
            simp only [bytesOf, List.map_cons, List.map_nil, List.flatten_cons, List.flatten_nil, List.append_nil] at hsum2
            clear hsum hown hE' hE hcw
            have hcw2 := hE2.cell_some hcell id
            go_wp2_with fail
            refine (addNil_any _ _).mono ?_
            rintro e w3 ⟨rfl, hw3⟩
            have hE3 : Pure w w3 := by rw [← hw3]; exact hE2.alloc _
            have hs3 : Sum32Is w3 w.heap.size (all ++ l) := by rw [← hw3]; exact BlockIs.alloc hsum2 _
            have ho3 : w3.ownsRow (w.heap.size + 1) 5 1 (.slice a all.length c) all.length (all.map byV) := by rw [← hw3]; exact hown2.alloc _
            have hcw3 := hE3.cell_some hcell id
            have hb3 := hbytes.ext hE3 (fun _ _ => id)
            have hsz3 := hs3.lt
            clear hw3 hcw2 hsum2 hown2 hE2
            go_wp2_with (at_builtin; refine wpList_append_any rfl (.tmp 68) (.tmp 72) 22 rfl (w.heap.size + 1) 5 (.int .u8 0) 1 1 Try.underlying22 info5 rfl (by decide) _ all.length (all.map byV) rfl ho3 pa l.length pc (l.map byV) rfl (fun h => by have := hnilk h; omega) (by simp) (rowOf_bytes hb3) (by intro u hu; simp at hu; obtain ⟨y, _, rfl⟩ := hu; rfl) (all.length + l.length) rfl ((all ++ l).map byV) (by simp) (by omega) (by unfold maxLen; omega) (by omega) ?_)
            intro a4 c4 w4 ho4 hg4
            have hE4 := hE3.grown hg4 (fun k hk hlt => by have := (ho3.lt k hk).1; omega)
            have hs4 := BlockIs.ext hs3 (ext_of_grown hg4) (fun h => by have := (ho3.lt _ h).1; omega)
            clear hs3 ho3 hg4 hE3 hcw3 hb3
            rw [← List.map_append] at ho4
            obtain ⟨n4, hn4⟩ : ∃ n, n = (all ++ l).length := ⟨_, rfl⟩
            rw [show all.length + l.length = n4 from by rw [hn4]; simp] at ho4 ⊢
            have hn4' : n4 ≤ 1000 * (k + 1) := by rw [hn4]; simp; omega
            have HN := Lib.hid hn4
            clear hn4
            go_wp2_with fail
            refine (value32_any _ _ _ hs4).mono ?_
            rintro e w5 ⟨rfl, n5, rfl⟩
            obtain ⟨_, _, hf, hl4, hm4, _⟩ := own_form ho4
            cases hf
            have href := refSum_any a4 c4 (all ++ l) (w4.drewN n5) (by rw [← HN.out]; exact hl4) (by unfold maxLen at hm4; omega) (bytes_rowOf (own_row ho4))
            rw [← HN.out] at href
            have HR := Lib.hid href
            clear href
            generalize hS : sumOf (run (all ++ l)) = SS at *
            have HSS := Lib.hid hS
            clear hS
            go_wp2_with fail
            refine HR.out.mono ?_
            rintro e w6 ⟨rfl, hw6⟩
            have hE6 : Pure w w6 := by rw [← hw6]; exact hE4.drewN n5
            have hs6 : Sum32Is w6 w.heap.size (all ++ l) := by rw [← hw6]; exact BlockIs.drewN hs4 n5
            have ho6 : w6.ownsRow (w.heap.size + 1) 5 1 (.slice a4 n4 c4) n4 ((all ++ l).map byV) := by rw [← hw6]; exact ho4
            clear hw6 hE4 hs4 ho4 HR
            go_wp2_with fail
            refine (len32_any _ _ _ hs6).mono ?_
            rintro e w7 ⟨rfl, rfl⟩
            rw [← HN.out]
            go_wp2_with fail
            go_roundw
            case rel =>
              refine ⟨k + 1, a4, c4, by omega, by omega, by go_num, ?_, ?_, ?_, hE6, hsmall'⟩
              · rw [HS.out, ← HN.out]
              · rw [HS.out, ← HN.out]; exact ho6
              · rw [HS.out]; exact hs6
            case measure => simp [intOf]; omega
          · have hmod : ((k : Int) % 2 == 0) = false := by rw [beq_eq_false_iff_ne]; omega
            clear hm
            go_wp2_with fail
            obtain ⟨h, hh⟩ : ∃ h : Nat, (l.length : Int) / 2 = h := ⟨l.length / 2, by omega⟩
            have hh1 : h ≤ l.length := by omega
            have hh0 : (0 : Int) ≤ (h : Int) := by omega
            have hh2 : (h : Int) ≤ (l.length : Int) := by omega
            have hh3 : (h : Int) ≤ (pc : Int) := by omega
            have hwr : IntKind.i64.wrap (h : Int) = (h : Int) := IntWalk.i64_in _ (by omega)
            have hbo : b < w.heap.size := World.block_lt_of_cell? _ _ hcell
            have cl := fun w' (hS : Ext (fun i => i = w.heap.size) wr.drew w') => hS.cell_some (hE.drew.cell_some hcell id) (fun e => by have e' : b = w.heap.size := e; omega)
            have hpos : l.length ≤ 0 → pc = h → False ∨ True := fun _ _ => Or.inr trivial
            obtain ⟨a2, ha2, hb2⟩ : ∃ a2 : Option Addr, (if pc = h then pa else pa.map (fun x => x.add h)) = a2 ∧ Bytes w a2 (l.drop h) := by
              by_cases e : pc = h
              · refine ⟨pa, by rw [if_pos e], ?_⟩
                intro i hi; simp at hi; omega
              · exact ⟨_, by rw [if_neg e], bytes_drop hbytes h⟩
            clear hpos
            have hlt1 : (l.take h).length = h := by simp; omega
            have hld1 : (l.drop h).length = l.length - h := by simp
            have hbt := bytes_take hbytes h
            refine region_start (fun i => i = w.heap.size) (by kernel_rfl) ?_
            try simp only [Act.put, List.setIfInBounds_toArray, List.set_cons_zero, List.set_cons_succ]
            refine region_take 0 36 (v := ?v0) rfl rfl (by kernel_rfl) (by kernel_rfl) (by kernel_rfl) (fun _ _ _ h => h) (by rfl) (fun w' hS => ?h0) ?r0
            case h0 => go_simp; with_reducible rfl
            try simp only [Act.put, List.setIfInBounds_toArray, List.set_cons_zero, List.set_cons_succ]
            refine region_take 1 37 (v := ?v1) rfl rfl (by kernel_rfl) (by kernel_rfl) (by kernel_rfl) (fun _ _ _ h => h) (by rfl) (fun w' hS => ?h1) ?r1
            case h1 => go_simp; with_reducible rfl
            try simp only [Act.put, List.setIfInBounds_toArray, List.set_cons_zero, List.set_cons_succ]
            refine region_take 2 38 (v := ?v2) rfl rfl (by kernel_rfl) (by kernel_rfl) (by kernel_rfl) (fun _ _ _ h => h) (by rfl) (fun w' hS => ?h2) ?r2
            case h2 => go_simp; with_reducible rfl
            try simp only [Act.put, List.setIfInBounds_toArray, List.set_cons_zero, List.set_cons_succ]
            refine region_take 3 39 (v := ?v3) rfl rfl (by kernel_rfl) (by kernel_rfl) (by kernel_rfl) (fun _ _ _ h => h) (by rfl) (fun w' hS => ?h3) ?r3
            case h3 => go_simp; with_reducible rfl
            try simp only [Act.put, List.setIfInBounds_toArray, List.set_cons_zero, List.set_cons_succ]
            refine region_take 4 40 (v := ?v4) rfl rfl (by kernel_rfl) (by kernel_rfl) (by kernel_rfl) (fun _ _ _ h => h) (by rfl) (fun w' hS => ?h4) ?r4
            case h4 => go_simp; with_reducible rfl
            try simp only [Act.put, List.setIfInBounds_toArray, List.set_cons_zero, List.set_cons_succ]
            refine region_take 5 41 (v := ?v5) rfl rfl (by kernel_rfl) (by kernel_rfl) (by kernel_rfl) (fun _ _ _ h => h) (by rfl) (fun w' hS => ?h5) ?r5
            case h5 => go_simp; with_reducible rfl
            try simp only [Act.put, List.setIfInBounds_toArray, List.set_cons_zero, List.set_cons_succ]
            refine region_take 6 42 (v := ?v6) rfl rfl (by kernel_rfl) (by kernel_rfl) (by kernel_rfl) (fun _ _ _ h => h) (by rfl) (fun w' hS => ?h6) ?r6
            case h6 => go_simp; with_reducible rfl
            try simp only [Act.put, List.setIfInBounds_toArray, List.set_cons_zero, List.set_cons_succ]
            refine region_take 7 43 (v := ?v7) rfl rfl (by kernel_rfl) (by kernel_rfl) (by kernel_rfl) (fun _ _ _ h => h) (by rfl) (fun w' hS => ?h7) ?r7
            case h7 => go_simp; with_reducible rfl
            try simp only [Act.put, List.setIfInBounds_toArray, List.set_cons_zero, List.set_cons_succ]
            refine region_take 8 44 (v := ?v8) rfl rfl (by kernel_rfl) (by kernel_rfl) (by kernel_rfl) (fun _ _ _ h => h) (by rfl) (fun w' hS => ?h8) ?r8
            case h8 => go_simp; with_reducible rfl
            try simp only [Act.put, List.setIfInBounds_toArray, List.set_cons_zero, List.set_cons_succ]
            refine region_take 9 45 (v := ?v9) rfl rfl (by kernel_rfl) (by kernel_rfl) (by kernel_rfl) (fun _ _ _ h => h) (by rfl) (fun w' hS => ?h9) ?r9
            case h9 => go_simp; with_reducible rfl
            try simp only [Act.put, List.setIfInBounds_toArray, List.set_cons_zero, List.set_cons_succ]
            refine region_take 10 46 (v := ?v10) rfl rfl (by kernel_rfl) (by kernel_rfl) (by kernel_rfl) (fun _ _ _ h => h) (by rfl) (fun w' hS => ?h10) ?r10
            case h10 => go_simp; with_reducible rfl
            try simp only [Act.put, List.setIfInBounds_toArray, List.set_cons_zero, List.set_cons_succ]
            refine region_take 11 47 (v := ?v11) rfl rfl (by kernel_rfl) (by kernel_rfl) (by kernel_rfl) (fun _ _ _ h => h) (by rfl) (fun w' hS => ?h11) ?r11
            case h11 => go_simp; with_reducible rfl
            try simp only [Act.put, List.setIfInBounds_toArray, List.set_cons_zero, List.set_cons_succ]
            refine region_take 12 48 (v := ?v12) rfl rfl (by kernel_rfl) (by kernel_rfl) (by kernel_rfl) (fun _ _ _ h => h) (by rfl) (fun w' hS => ?h12) ?r12
            case h12 => go_simp; with_reducible rfl
            try simp only [Act.put, List.setIfInBounds_toArray, List.set_cons_zero, List.set_cons_succ]
            refine region_take 13 49 (v := ?v13) rfl rfl (by kernel_rfl) (by kernel_rfl) (by kernel_rfl) (fun _ _ _ h => h) (by rfl) (fun w' hS => ?h13) ?r13
            case h13 => go_simp; with_reducible rfl
            try simp only [Act.put, List.setIfInBounds_toArray, List.set_cons_zero, List.set_cons_succ]
            refine region_take 14 50 (v := ?v14) rfl rfl (by kernel_rfl) (by kernel_rfl) (by kernel_rfl) (fun _ _ _ h => h) (by rfl) (fun w' hS => ?h14) ?r14
            case h14 => go_simp; with_reducible rfl
            try simp only [Act.put, List.setIfInBounds_toArray, List.set_cons_zero, List.set_cons_succ]
            refine region_take 15 51 (v := ?v15) rfl rfl (by kernel_rfl) (by kernel_rfl) (by kernel_rfl) (fun _ _ _ h => h) (by rfl) (fun w' hS => ?h15) ?r15
            case h15 => go_simp; with_reducible rfl
            try simp only [Act.put, List.setIfInBounds_toArray, List.set_cons_zero, List.set_cons_succ]
            refine region_take 16 52 (v := ?v16) rfl rfl (by kernel_rfl) (by kernel_rfl) (by kernel_rfl) (fun _ _ _ h => h) (by rfl) (fun w' hS => ?h16) ?r16
            case h16 => go_simp; with_reducible rfl
            try simp only [Act.put, List.setIfInBounds_toArray, List.set_cons_zero, List.set_cons_succ]
            refine region_take 17 53 (v := ?v17) rfl rfl (by kernel_rfl) (by kernel_rfl) (by kernel_rfl) (fun _ _ _ h => h) (by rfl) (fun w' hS => ?h17) ?r17
            case h17 => go_simp; with_reducible rfl
            try simp only [Act.put, List.setIfInBounds_toArray, List.set_cons_zero, List.set_cons_succ]
            refine region_take 18 54 (v := ?v18) rfl rfl (by kernel_rfl) (by kernel_rfl) (by kernel_rfl) (fun _ _ _ h => h) (by rfl) (fun w' hS => ?h18) ?r18
            case h18 => go_simp; with_reducible rfl
            try simp only [Act.put, List.setIfInBounds_toArray, List.set_cons_zero, List.set_cons_succ]
            refine region_take 19 55 (v := ?v19) rfl rfl (by kernel_rfl) (by kernel_rfl) (by kernel_rfl) (fun _ _ _ h => h) (by rfl) (fun w' hS => ?h19) ?r19
            case h19 => go_simp; with_reducible rfl
            try simp only [Act.put, List.setIfInBounds_toArray, List.set_cons_zero, List.set_cons_succ]
            refine region_take 20 56 (v := ?v20) rfl rfl (by kernel_rfl) (by kernel_rfl) (by kernel_rfl) (fun _ _ _ h => h) (by rfl) (fun w' hS => ?h20) ?r20
            case h20 => go_simp; with_reducible rfl
            try simp only [Act.put, List.setIfInBounds_toArray, List.set_cons_zero, List.set_cons_succ]
            refine region_take 21 57 (v := ?v21) rfl rfl (by kernel_rfl) (by kernel_rfl) (by kernel_rfl) (fun _ _ _ h => h) (by rfl) (fun w' hS => ?h21) ?r21
            case h21 => go_simp; with_reducible rfl
            try simp only [Act.put, List.setIfInBounds_toArray, List.set_cons_zero, List.set_cons_succ]
            refine region_take 22 58 (v := ?v22) rfl rfl (by kernel_rfl) (by kernel_rfl) (by kernel_rfl) (fun _ _ _ h => h) (by rfl) (fun w' hS => ?h22) ?r22
            case h22 => go_simp; with_reducible rfl
            try simp only [Act.put, List.setIfInBounds_toArray, List.set_cons_zero, List.set_cons_succ]
            refine wpAnyH_ready (rs := [23]) (by kernel_rfl) (by simp) (AllReadyH.cons rfl (fun K hK => ?_) AllReadyH.nil)
            go_simp
            refine hK.out _ _ (ext_alloc _ _ |>.mono (fun _ _ e => e.elim)) (fun hHeld => ?_)
            clear hK K hHeld
            refine region_now (ext_alloc _ _ |>.mono (fun _ _ e => e.elim)) ?_
            try simp only [Act.put, List.setIfInBounds_toArray, List.set_cons_zero, List.set_cons_succ]
            refine wpAnyH_ready (rs := [24]) (by kernel_rfl) (by simp) (AllReadyH.cons rfl (fun K hK => ?_) AllReadyH.nil)
            go_simp
            refine (add_any w.heap.size all _ _ [(pa, pc, l.take h), (none, 0, []), (a2, pc - h, l.drop h)] _ (BlockIs.drew (BlockIs.alloc hsum _)) (by simp) ?_ (by simp [bytesOf]; omega)).mono ?_
            · intro w' hE' i hi
              have hcc : ∀ (i : Nat) (v : Value), #[Value.slice pa h pc, Value.slice none 0 0, Value.slice a2 (l.length - h) (pc - h)][i]? = some v → w'.cell? ⟨wr.heap.size, 0 + i, none⟩ = some v := fun i v hv => hE'.cell_some (p := ⟨wr.heap.size, 0 + i, none⟩) (((Ext.refl (fun _ => False) _).drew).cell_some (cell_at rfl (by simpa using hv)) id) (fun e => by have e' : wr.heap.size = w.heap.size := e; omega)
              match i, hi with
              | 0, _ => exact ⟨_, _, _, rfl, hcc 0 _ rfl, (by show Value.slice pa h pc = Value.slice pa (l.take h).length pc; rw [hlt1]), by simp; omega, hc, bytes_keep hbt (hE.alloc _).drew (Nat.le_refl _) hE'⟩
              | 1, _ => exact ⟨_, _, _, rfl, hcc 1 _ rfl, rfl, Nat.zero_le _, by simp, fun i hi => by simp at hi⟩
              | 2, _ => exact ⟨_, _, _, rfl, hcc 2 _ rfl, (by show Value.slice a2 (l.length - h) (pc - h) = Value.slice a2 (l.drop h).length (pc - h); rw [hld1]), by simp; omega, by simp; omega, bytes_keep hb2 (hE.alloc _).drew (Nat.le_refl _) hE'⟩
            rintro e w2 ⟨rfl, hsum2, hE'⟩
            refine hK.out _ _ (hE') (fun hHeld => ?_)
            clear hK K hHeld
            refine region_now (hE') ?_
            try simp only [Act.put, List.setIfInBounds_toArray, List.set_cons_zero, List.set_cons_succ]
            refine wpAnyH_done (by kernel_rfl) ?_ _
            have hE2 : Pure w w2 := (hE.alloc _).drew.trans hE' (fun i hi e => by have e' : i = w.heap.size := e; omega)
            have hown2 := own_ext ((hown.alloc (.cells #[.slice pa h pc, .slice none 0 0, .slice a2 (l.length - h) (pc - h)] 22)).drew) hE' (fun g hg e => by have := (hown.lt g hg).1; have e' : g = w.heap.size := e; omega)
            simp only [bytesOf, List.map_cons, List.map_nil, List.flatten_cons, List.flatten_nil, List.append_nil, List.nil_append, List.take_append_drop] at hsum2
            clear hsum hown hE' hE hcw cl hb2 hbt hlt1 hld1 ha2 hwr hh3 hh2 hh0 hh1 hh
            have hcw2 := hE2.cell_some hcell id
            go_wp2_with fail
            refine (addNil_any _ _).mono ?_
            rintro e w3 ⟨rfl, hw3⟩
            have hE3 : Pure w w3 := by rw [← hw3]; exact hE2.alloc _
            have hs3 : Sum32Is w3 w.heap.size (all ++ l) := by rw [← hw3]; exact BlockIs.alloc hsum2 _
            have ho3 : w3.ownsRow (w.heap.size + 1) 5 1 (.slice a all.length c) all.length (all.map byV) := by rw [← hw3]; exact hown2.alloc _
            have hcw3 := hE3.cell_some hcell id
            have hb3 := hbytes.ext hE3 (fun _ _ => id)
            have hsz3 := hs3.lt
            clear hw3 hcw2 hsum2 hown2 hE2
            go_wp2_with (at_builtin; refine wpList_append_any rfl (.tmp 68) (.tmp 72) 22 rfl (w.heap.size + 1) 5 (.int .u8 0) 1 1 Try.underlying22 info5 rfl (by decide) _ all.length (all.map byV) rfl ho3 pa l.length pc (l.map byV) rfl (fun h => by have := hnilk h; omega) (by simp) (rowOf_bytes hb3) (by intro u hu; simp at hu; obtain ⟨y, _, rfl⟩ := hu; rfl) (all.length + l.length) rfl ((all ++ l).map byV) (by simp) (by omega) (by unfold maxLen; omega) (by omega) ?_)
            intro a4 c4 w4 ho4 hg4
            have hE4 := hE3.grown hg4 (fun k hk hlt => by have := (ho3.lt k hk).1; omega)
            have hs4 := BlockIs.ext hs3 (ext_of_grown hg4) (fun h => by have := (ho3.lt _ h).1; omega)
            clear hs3 ho3 hg4 hE3 hcw3 hb3
            rw [← List.map_append] at ho4
            obtain ⟨n4, hn4⟩ : ∃ n, n = (all ++ l).length := ⟨_, rfl⟩
            rw [show all.length + l.length = n4 from by rw [hn4]; simp] at ho4 ⊢
            have hn4' : n4 ≤ 1000 * (k + 1) := by rw [hn4]; simp; omega
            have HN := Lib.hid hn4
            clear hn4
            go_wp2_with fail
            refine (value32_any _ _ _ hs4).mono ?_
            rintro e w5 ⟨rfl, n5, rfl⟩
            obtain ⟨_, _, hf, hl4, hm4, _⟩ := own_form ho4
            cases hf
            have href := refSum_any a4 c4 (all ++ l) (w4.drewN n5) (by rw [← HN.out]; exact hl4) (by unfold maxLen at hm4; omega) (bytes_rowOf (own_row ho4))
            rw [← HN.out] at href
            have HR := Lib.hid href
            clear href
            generalize hS : sumOf (run (all ++ l)) = SS at *
            have HSS := Lib.hid hS
            clear hS
            go_wp2_with fail
            refine HR.out.mono ?_
            rintro e w6 ⟨rfl, hw6⟩
            have hE6 : Pure w w6 := by rw [← hw6]; exact hE4.drewN n5
            have hs6 : Sum32Is w6 w.heap.size (all ++ l) := by rw [← hw6]; exact BlockIs.drewN hs4 n5
            have ho6 : w6.ownsRow (w.heap.size + 1) 5 1 (.slice a4 n4 c4) n4 ((all ++ l).map byV) := by rw [← hw6]; exact ho4
            clear hw6 hE4 hs4 ho4 HR
            go_wp2_with fail
            refine (len32_any _ _ _ hs6).mono ?_
            rintro e w7 ⟨rfl, rfl⟩
            rw [← HN.out]
            go_wp2_with fail
            go_roundw
            case rel =>
              refine ⟨k + 1, a4, c4, by omega, by omega, by go_num, ?_, ?_, ?_, hE6, hsmall'⟩
              · rw [HS.out, ← HN.out]
              · rw [HS.out, ← HN.out]; exact ho6
              · rw [HS.out]; exact hs6
            case measure => simp [intOf]; omega
      · obtain rfl : k = 40 := by omega
        go_wp2_with fail
        refine (valueNil_any _).mono ?_
        rintro e w2 ⟨rfl, rfl⟩
        go_wp2_with fail
        refine (lenNil_any _).mono ?_
        rintro e w2 ⟨rfl, rfl⟩
        go_wp2_with fail
        refine (works_any _).mono ?_
        rintro e w2 ⟨rfl, hP⟩
        go_wp2_with fail
        go_ret
        exact ⟨rfl, (hE.pure hP).below⟩
    · go_wp2_with fail
      refine (valueNil_any _).mono ?_
      rintro e w2 ⟨rfl, rfl⟩
      go_wp2_with fail
      refine (lenNil_any _).mono ?_
      rintro e w2 ⟨rfl, rfl⟩
      go_wp2_with fail
      refine (works_any _).mono ?_
      rintro e w2 ⟨rfl, hP⟩
      go_wp2_with fail
      go_ret
      exact ⟨rfl, (hE.pure hP).below⟩

theorem choose_part {n : Nat} {p : Nat → Part → Prop} (h : ∀ i, i < n → ∃ q, p i q) : ∃ ps : List Part, ps.length = n ∧ ∀ i (hi : i < ps.length), p i ps[i] := by
  induction n with
  | zero => exact ⟨[], rfl, fun i hi => by simp at hi⟩
  | succ n ih =>
    obtain ⟨ps, hl, hp⟩ := ih (fun i hi => h i (by omega))
    obtain ⟨q, hq⟩ := h n (by omega)
    refine ⟨ps ++ [q], by simp [hl], fun i hi => ?_⟩
    by_cases e : i < ps.length
    · rw [List.getElem_append_left e]; exact hp i e
    · have e' : i = n := by simp at hi; omega
      subst e'
      rw [List.getElem_append_right (by omega)]; simp [hl, hq]
theorem open_parts {H : Type} {enc : TypeId × Value → H} {W : World} {v : Value} {d : DataW H} {p : List MemPlace} {base : Nat}
    (hv : Value.okWide Try.prog W .any base 27 v) (h : DataW.Trod enc Try.prog W 0 (fun _ => true) true 27 v d p) :
    ∃ (a : Option Addr) (cap : Nat) (ps : List Part), v = .slice a ps.length cap ∧ (ps.length : Int) ≤ 9223372036854775807 ∧ PartsAt W a ps ∧ ∀ i (hi : i < ps.length), ps[i].1 = none → ps[i].2.1 = 0 := by
  obtain ⟨a, len, cap, rfl⟩ := okWide_slice Try.underlying27 hv
  obtain ⟨fuel, hf⟩ := h
  rcases Deep.open_slice1 Try.underlying27 (by kernel_rfl) hf with ⟨hcs, _⟩ | ⟨x, l, c, m, n, V, D, Pl, hcs, _, hl, hm, hmm, _, hx⟩
  · simp [Value.cells] at hcs
    obtain ⟨rfl, rfl, rfl⟩ := hcs
    exact ⟨none, 0, [], rfl, by simp, fun i hi => by simp at hi, fun i hi => by simp at hi⟩
  · simp [Value.cells] at hcs
    obtain ⟨rfl, rfl, rfl⟩ := hcs
    simp at hmm
    subst hmm
    obtain ⟨ps, hps, hpp⟩ := choose_part (n := len) (p := fun i q => ∃ b o, x = ⟨b, o, none⟩ ∧ W.cell? ⟨b, o + i, none⟩ = some (V i) ∧ PartIs W q (V i) ∧ (q.1 = none → q.2.1 = 0)) (fun i hi => by
      obtain ⟨h1, h2⟩ := hx i (by omega)
      obtain ⟨h0, _⟩ := hx 0 (by omega)
      obtain ⟨b, o, rfl, hc⟩ := addr_of_cell h1 (by simpa [Addr.add] using spot_none h0)
      obtain ⟨a', cap', l', hcs', hl', hm', hn', hb'⟩ := open_bytes_core Try.underlying22 h2
      simp at hcs'
      exact ⟨(a', cap', l'), b, o, rfl, hc, ⟨hcs', hl', by unfold maxLen at hm'; show (cap' : Int) ≤ _; omega, hb'⟩, hn'⟩)
    refine ⟨some x, _, ps, by rw [hps], by rw [hps]; unfold maxLen at hm; omega, fun i hi => ?_, fun i hi => ?_⟩
    · obtain ⟨b, o, rfl, hc, hq, _⟩ := hpp i hi
      exact ⟨b, o, _, rfl, hc, hq⟩
    · obtain ⟨b, o, rfl, hc, _, hq⟩ := hpp i hi
      exact hq

set_option maxRecDepth 100000 in
theorem lifted (os : Os) (started : os.Started) (H : Type) (enc : TypeId × Value → H) :
    ReturnsInHanded {} Try.checked os 4 .any (Rows.adlerAddsSpec.pre6 enc Try.prog Try.f4 Rows.adlerAddsRow.domain false) (Rows.adlerAddsSpec.post enc Try.prog Try.f4 false true false false) := by
  refine returnsInHanded_of_change (C := Try.checked) own started (by kernel_rfl) Try.func4
    (ChangeSpec.witness6 (enc := enc) (C := Try.checked) false ⟨#[], #[.slice none 0 0], []⟩ 8 (by kernel_rfl) (by kernel_rfl) (by kernel_rfl) (by kernel_rfl)) ?_
  intro W base args ds gs before hval0 hW hcnd _
  have hval : ∀ (j : Nat) t v, Try.f4.params[j]? = some t → args[j]? = some v → Value.okWide Try.prog W .any base t v := hval0
  have hW' := hW
  obtain ⟨p, q, hA0, hV, rfl, hfz, hnd⟩ := hW
  have hA : DataW.TrodAll enc Try.prog W 0 (fun _ => true) true Try.f4.params.toList args.toList ds p := hA0
  rw [Try.params4] at hA hval
  obtain ⟨v0, vs0, d0, ds0, p0, q0, hargs, rfl, rfl, h0, r0⟩ := trodAll_cons hA
  obtain ⟨rfl, rfl, rfl⟩ := trodAll_nil r0
  obtain rfl : args = #[v0] := by cases args; simp_all
  obtain ⟨rfl, rfl⟩ := trodVars_none hV
  have k0 := h0
  have lt0 : ∀ x ∈ p0, x.block < W.heap.size := by obtain ⟨m, hm⟩ := k0; exact DataW.trod_lt m _ _ _ hm
  obtain ⟨a, cap, ps, rfl, hl, hp, hnil⟩ := open_parts (hval 0 27 v0 rfl rfl) h0
  clear hA0 hval0
  refine (walk a cap ps W hl hp hnil).mono fun e W' ⟨he, bel⟩ => ?_
  subst he
  exact ⟨_, rfl, _, _, _, [], _, [], hW', trodAll_mk1 (shut_bool Try.underlying4 _), (trodAll_cons_mk (Below.trod laidOut (by kernel_rfl) (of_decide_eq_true (by kernel_rfl)) k0 bel lt0) trodAll_mk0), rfl, bel.frame _, fun h => by cases h⟩

theorem proved : Rows.AdlerAddsSaid :=
  OpenClaim.holds_of_wide 4 Try.f4 rfl rfl rfl rfl rfl rfl rfl ⟨rfl, rfl, rfl, rfl, rfl⟩ rfl rfl rfl rfl rfl (by kernel_rfl) Try.func4 (by kernel_rfl)
    (of_decide_eq_true (by kernel_rfl)) (by unfold Func.isWrapper; first | (rw [if_pos (by decide +kernel)]; kernel_rfl) | (rw [if_neg (by decide +kernel)]; exact ⟨rfl, rfl⟩))
    (fun os started H enc _ => lifted os started H enc)
#print axioms proved
end Go.Proofs.Ytclnicnieapojaa.adlerAdds
