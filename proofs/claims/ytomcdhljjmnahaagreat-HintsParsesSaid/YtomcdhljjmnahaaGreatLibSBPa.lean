import Derived.Test.YtomcdhljjmnahaaGreatLibSAPa
import Derived.Test.YtomcdhljjmnahaaGreatLibBBPa
import Derived.Test.YtomcdhljjmnahaaGreatSqPa
set_option linter.unusedVariables false
set_option linter.unusedSimpArgs false
set_option maxRecDepth 100000
namespace Go.Proofs.YtomcdhljjmnahaaGreat.S27
open Go.RowKit C27
theorem wrs_new {wb : Nat} {wa wa' : Option Addr} {W0 W W' : World} (hX : Ext (fun i => i = wb) W0 W) (hf : ∀ g, wa = some g → W0.heap.size ≤ g.block) (hE : Ext (WrS wb wa) W W') (hf' : ∀ g, wa' = some g → wa = some g ∨ W.heap.size ≤ g.block) :
 Ext (fun i => i = wb) W0 W' ∧ ∀ g, wa' = some g → W0.heap.size ≤ g.block := by
 refine ⟨hX.trans hE (fun i hi e => ?_), fun g hg => ?_⟩
 ·rcases e with e | ⟨g, hg, e⟩
  ·exact e
  ·have := hf g hg; omega
 ·rcases hf' g hg with e | e
  ·exact hf g e
  ·exact Nat.le_trans hX.size e
theorem okT_nat {o a f : Nat} {ls : List Nat} (h : okT o a f (ls.map (fun x : Nat => (x : Int))) = true) : o ≤ 4096 ∧ a ≤ 2147483647 ∧ ls.length ≤ 4096 ∧ f ≤ ls.length ∧ ∀ x ∈ ls, 1 ≤ x ∧ x ≤ 2147483647 := by
 obtain ⟨h1, h2, h3, h4, h5⟩ := okT_true.1 h
 rw [List.length_map] at h3 h4
 refine ⟨by omega, by omega, h3, by omega, fun x hx => ?_⟩
 have := List.any_eq_false.1 h5 (x : Int) (List.mem_map.2 ⟨x, hx, rfl⟩)
 have h6 : inB (x : Int) 1 2147483647 = true := by simpa [odd] using this
 have := inB_true.1 h6
 omega
theorem intV_map (ls : List Nat) : (ls.map (fun x : Nat => (x : Int))).map iV = ls.map intV := by rw [List.map_map]; rfl
theorem minN_any (ad : Option Addr) (cap : Nat) (ls : List Nat) (w : World) (hr : RowOf w ad (ls.map intV)) (hne : ls ≠ []) (hl : ls.length ≤ 1000000000) :
 Calls Tryz.prog 72 #[.slice ad ls.length cap] w fun e w' => e = .returned (.int .i64 (least ls : Nat)) ∧ w' = w := by
 cases ls with
 | nil => exact absurd rfl hne
 | cons x xs =>
   have h := min_any ad cap (x : Int) (xs.map (fun y : Nat => (y : Int))) w (by rw [← List.map_cons (f := fun y : Nat => (y : Int)), intV_map]; exact hr) (by rw [List.length_map]; simp at hl; omega)
   rw [foldl_min_cast] at h
   simpa [least] using h
theorem maxN_any (ad : Option Addr) (cap : Nat) (ls : List Nat) (w : World) (hr : RowOf w ad (ls.map intV)) (hne : ls ≠ []) (hl : ls.length ≤ 1000000000) :
 Calls Tryz.prog 61 #[.slice ad ls.length cap] w fun e w' => e = .returned (.int .i64 (most ls : Nat)) ∧ w' = w := by
 cases ls with
 | nil => exact absurd rfl hne
 | cons x xs =>
   have h := max_any ad cap (x : Int) (xs.map (fun y : Nat => (y : Int))) w (by rw [← List.map_cons (f := fun y : Nat => (y : Int)), intV_map]; exact hr) (by rw [List.length_map]; simp at hl; omega)
   rw [foldl_max_cast] at h
   simpa [most] using h
def EncRes (bs : List Bool) (w : World) (e : Ending) (w' : World) : Prop := ∃ ra rc, e = .returned (.tuple #[.slice ra (pack true bs).length rc, .int .i64 0]) ∧ NewRow w w' ra rc (pack true bs)
set_option maxHeartbeats 4000000 in
theorem encode_yes (o a f : Nat) (la : Option Addr) (c : Nat) (ls : List Nat) (w : World) (hr : RowOf w la (ls.map intV)) (hok : okT o a f (ls.map (fun x : Nat => (x : Int))) = true) :
 Calls Tryz.prog 21 #[tblV o a f la ls.length c] w (EncRes (tabB o a f ls 0 []) w) := by
 obtain ⟨b1, b2, b3, b4, b5⟩ := okT_nat hok
 have hleast : least ls < 4294967296 := by
  cases ls with
  | nil => decide
  | cons x xs => exact Nat.lt_of_le_of_lt (least_le (y := x) (by simp)) (by have := b5 x (by simp); omega)
 have hwidth : width ls ≤ 32 := width_le (fun y hy => by have := b5 y hy; omega)
 have B5 := qh b5
 clear b5
 have hrI : RowOf w la ((ls.map (fun x : Nat => (x : Int))).map iV) := by rw [intV_map]; exact hr
 have HC0 := fun W (hP : Pure w W) => check_any o a f la c (ls.map (fun x : Nat => (x : Int))) W (hrI.ext hP (fun _ _ => id)) (by rw [List.length_map]; omega)
 rw [List.length_map, hok] at HC0
 have HC := qh HC0
 clear HC0 hok hrI
 unfold tblV at HC ⊢
 obtain ⟨w1, hw1⟩ : ∃ w1, w1 = w.alloc (.cells #[.int .i64 o, .int .i64 a, .int .i64 f, .slice la ls.length c] 64) := ⟨_, rfl⟩
 have hB1 : BlockIs w1 w.heap.size [.int .i64 o, .int .i64 a, .int .i64 f, .slice la ls.length c] 64 := hw1 ▸ BlockIs.new w _ _
 have hP1 : Pure w w1 := hw1 ▸ ext_alloc w _
 have HC' := qh (HC.out w1 hP1)
 clear HC
 go_enter Tryz.func21, Tryz.ntmps21
 go_wp2_with fail
 rw [← hw1]
 clear hw1
 refine HC'.out.mono ?_
 rintro e w2 ⟨rfl, hE2⟩
 have hB2 := hB1.ext hE2 id
 have hP2 := hP1.pure hE2
 clear hB1 hP1 hE2 HC'
 have c3 : w2.cell? ⟨w.heap.size, 0 + 3, none⟩ = some (.slice la ls.length c) := hB2.cell 3
 by_cases hne : ls = []
 ·have hn0 : ¬ (0 : Int) < (ls.length : Int) := by rw [hne]; decide
  have HL : Hid (0 = least ls) := qh (by rw [hne]; rfl)
  have HWd : Hid (0 = width ls) := qh (by rw [hne]; rfl)
  have hleast' : 0 < 4294967296 := by decide
  have hwidth' : 0 ≤ 32 := by decide
  clear hne
  go_wp2_with fail
  refine (new_any true w2).mono ?_
  rintro e w3 ⟨rfl, hW3, hE3⟩
  obtain ⟨wb, hwb⟩ : ∃ wb, wb = w2.heap.size := ⟨_, rfl⟩
  rw [← hwb] at hW3 ⊢
  have hB3 := hB2.ext hE3 id
  have hbwb : w.heap.size ≠ wb := by have := hB2.lt; omega
  have hr3 := hr.ext (hP2.pure hE3) (fun _ _ => id)
  have hP3 := hP2.pure hE3
  have hsz3 := hB3.lt
  have hwb3 : w.heap.size < wb := by have := hB2.lt; omega
  have hwlt := hW3.blk.lt
  have c0 := hB3.cell 0
  have c1 := hB3.cell 1
  have c2 := hB3.cell 2
  have c3 := hB3.cell 3
  simp only [List.getElem?_cons_zero, List.getElem?_cons_succ] at c0 c1 c2 c3
  clear hB2 hE3 hP2 hwb
  go_wp2_with fail
  clear c0 c1 c2 c3
  obtain ⟨ab, hab⟩ : ∃ ab, ab = w3.heap.size := ⟨_, rfl⟩
  rw [← hab]
  have harr : RowOf (w3.alloc (.cells #[.int .i64 o, .int .i64 a, .int .i64 f, .int .i64 ls.length] 3)) (some ⟨ab, 0, none⟩) ([o, a, f, ls.length].map intV) := row_at _ hab.symm rfl
  have hW4 := hW3.pure (ext_alloc w3 (.cells #[.int .i64 o, .int .i64 a, .int .i64 f, .int .i64 ls.length] 3))
  have hB4 := hB3.ext (ext_alloc w3 (.cells #[.int .i64 o, .int .i64 a, .int .i64 f, .int .i64 ls.length] 3)) id
  have hP4 := hP3.pure (ext_alloc w3 (.cells #[.int .i64 o, .int .i64 a, .int .i64 f, .int .i64 ls.length] 3))
  have habn : wb ≠ ab := by omega
  generalize w3.alloc (.cells #[.int .i64 o, .int .i64 a, .int .i64 f, .int .i64 ls.length] 3) = w4 at *
  have hx4 : ∀ x ∈ [o, a, f, ls.length], x < 4294967296 := by
   intro x hx
   simp at hx
   omega
  have HX4 := qh hx4
  have hl4 : [o, a, f, ls.length].length = 4 := rfl
  have HL4 := qh hl4
  clear hx4 hl4 hB3 hW3 hP3 hr3 hab hsz3
  generalize hq4 : [o, a, f, ls.length] = q4 at *
  have HQ4 := qh hq4
  clear hq4
  go_loopw [9, 43] (fun _ i W => ∃ (k : Nat) (wa : Option Addr) (wc : Nat), k ≤ 4 ∧ i = .int .i64 k ∧ WrIs W wb true ((q4.take k).flatMap (fun x => bN x 32)) wa wc ∧ Ext (fun i => i = wb) w4 W ∧ (∀ g, wa = some g → w4.heap.size ≤ g.block)) (fun _ i _ => 4 - (intOf i).toNat)
  case atStart => exact ⟨0, none, 0, Nat.zero_le _, rfl, hW4, Ext.refl _ _, fun g hg => by cases hg⟩
  case round =>
   obtain ⟨k, wa, wc, hk, rfl, hW, hX, hf⟩ := hrel
   by_cases hlt : k < 4
   ·have hki : (k : Int) < 4 := by omega
    have hk0 : (0 : Int) ≤ (k : Int) := by omega
    have hkq : k < q4.length := by rw [HL4.out]; exact hlt
    obtain ⟨_, _, hh, h0⟩ := harr k (intV q4[k]) (by simp [hkq])
    cases hh
    have h0' := hX.cell_some h0 (fun e => habn e.symm)
    rw [Nat.zero_add] at h0'
    unfold intV at h0'
    have hxl := HX4.out q4[k] (List.getElem_mem _)
    have hsc : (q4.take (k + 1)).flatMap (fun x => bN x 32) = (q4.take k).flatMap (fun x => bN x 32) ++ bN q4[k] 32 := by
     rw [List.take_add_one, List.getElem?_eq_getElem hkq, List.flatMap_append]; simp
    have HS := qh hsc
    have hln : ((q4.take k).flatMap (fun x => bN x 32)).length ≤ 200 := by
     have : ∀ l : List Nat, (l.flatMap (fun x => bN x 32)).length = 32 * l.length := fun l => by
      induction l with
      | nil => rfl
      | cons y l ih => rw [List.flatMap_cons, List.length_append, ih, bN_len, List.length_cons]; omega
     rw [this, List.length_take]; omega
    have HPut := qh (put_yes wb true _ wa wc q4[k] 32 wr hW (by omega) (by omega) hxl hxl)
    clear h0 hsc hln
    generalize q4[k] = x at *
    have hu : IntKind.u32.wrap (x : Int) = (x : Int) := IntWalk.u32_in _ (by omega)
    go_wp2_with fail
    refine HPut.out.mono ?_
    rintro e w5 ⟨rfl, wa5, wc5, hW5, hE5, hf5⟩
    obtain ⟨hX5, hf5'⟩ := wrs_new hX hf hE5 hf5
    have hW5' : WrIs w5 wb true ((q4.take (k + 1)).flatMap (fun x => bN x 32)) wa5 wc5 := by rw [HS.out]; exact hW5
    clear hW hX hf hE5 hf5 hW5 h0' HPut
    go_wp2_with fail
    go_roundw
    case rel => exact ⟨k + 1, wa5, wc5, by omega, by go_num, hW5', hX5, hf5'⟩
    case measure => simp [intOf]; omega
   ·have hki : ¬ (k : Int) < 4 := by omega
    obtain rfl : k = 4 := by omega
    have hbits : (q4.take 4).flatMap (fun x => bN x 32) = bN o 32 ++ bN a 32 ++ bN f 32 ++ bN ls.length 32 := by
     rw [← HQ4.out]; simp
    rw [hbits] at hW
    have hlen4 : (bN o 32 ++ bN a 32 ++ bN f 32 ++ bN ls.length 32).length = 128 := by simp [bN_len]
    have HB0 : Hid (headB o a f ls.length 0 (least ls) (width ls) = bN o 32 ++ bN a 32 ++ bN f 32 ++ bN ls.length 32 ++ bN 0 16 ++ bN (least ls) 32 ++ bN (width ls) 16) := qh rfl
    clear hbits hW4 harr
    generalize hbs0 : bN o 32 ++ bN a 32 ++ bN f 32 ++ bN ls.length 32 = bs0 at *
    clear hbs0
    have hu0 : IntKind.u32.wrap (0 : Int) = 0 := by decide
    obtain ⟨z16, hz16⟩ : ∃ z, z = bN 0 16 := ⟨_, rfl⟩
    have hz16l : z16.length = 16 := by rw [hz16, bN_len]
    have HPut0 := put_yes wb true _ wa wc 0 16 wr hW (by omega) (by omega) (by omega) (by decide)
    rw [show bitsNum true 0 16 = z16 from hz16.symm] at HPut0
    rw [← hz16] at HB0
    have HPut := qh HPut0
    clear HPut0 hz16
    go_wp2_with fail
    refine HPut.out.mono ?_
    rintro e w5 ⟨rfl, wa5, wc5, hW5, hE5, hf5⟩
    obtain ⟨hX5, hf5'⟩ := wrs_new hX hf hE5 hf5
    clear HPut hE5 hf5 hX hf hW
    obtain ⟨z32, hz32⟩ : ∃ z, z = bN 0 32 := ⟨_, rfl⟩
    obtain ⟨y16, hy16⟩ : ∃ z, z = bN 0 16 := ⟨_, rfl⟩
    have hz32l : z32.length = 32 := by rw [hz32, bN_len]
    rw [← HL.out, ← HWd.out, ← hz32, ← hy16] at HB0
    have HPut0 := put_yes wb true _ wa5 wc5 0 32 w5 hW5 (by rw [List.length_append]; omega) (by omega) hleast' hleast'
    rw [show bitsNum true 0 32 = z32 from hz32.symm] at HPut0
    have HPut := qh HPut0
    clear HPut0 hz32
    go_wp2_with fail
    refine HPut.out.mono ?_
    rintro e w6 ⟨rfl, wa6, wc6, hW6, hE6, hf6⟩
    obtain ⟨hX6, hf6'⟩ := wrs_new hX5 hf5' hE6 hf6
    clear HPut hE6 hf6 hX5 hf5' hW5
    have HPut0 := put_yes wb true _ wa6 wc6 0 16 w6 hW6 (by rw [List.length_append, List.length_append]; omega) (by omega) (by omega) (by omega)
    rw [show bitsNum true 0 16 = y16 from hy16.symm] at HPut0
    have HPut := qh HPut0
    clear HPut0 hy16
    go_wp2_with fail
    refine HPut.out.mono ?_
    rintro e w7 ⟨rfl, wa7, wc7, hW7, hE7, hf7⟩
    obtain ⟨hX7, hf7'⟩ := wrs_new hX6 hf6' hE7 hf7
    clear HPut hE7 hf7 hX6 hf6' hW6
    rw [← HB0.out] at hW7
    clear HB0 hz16l hlen4 hz32l
    have hd3 : w7.cell? ⟨w.heap.size, 0 + 3, none⟩ = some (.slice la ls.length c) := hX7.cell_some (hB4.cell 3) hbwb
    have hhl := headB_len o a f ls.length 0 0 0
    generalize hdd : headB o a f ls.length 0 0 0 = hd at *
    have HD := qh hdd
    clear hdd
    have hX7' := hX7.trans (Ext.refl (fun _ => False) w7) (fun _ _ e => e.elim)
    go_wp2_with fail
    clear hd3
    go_loopw [11, 65] (fun _ i W => ∃ (k : Nat) (wa : Option Addr) (wc : Nat), k ≤ ls.length ∧ i = .int .i64 k ∧ WrIs W wb true (hd ++ lensB (ls.take k) 0 0) wa wc ∧ Ext (fun i => i = wb) w4 W ∧ (∀ g, wa = some g → w4.heap.size ≤ g.block)) (fun _ i _ => ls.length - (intOf i).toNat)
    case atStart => exact ⟨0, wa7, wc7, Nat.zero_le _, rfl, by simpa [lensB] using hW7, hX7, hf7'⟩
    case round =>
     obtain ⟨k, wa, wc, hk, rfl, hW, hX, hf⟩ := hrel
     clear hW7 hX7 hf7' hX7'
     have hlk := lensB_len (ls.take k) 0 0
     have hlk2 : (hd ++ lensB (ls.take k) 0 0).length ≤ 200000 := by
      rw [List.length_append, hlk, hhl, List.length_take]
      have : min k ls.length * 0 ≤ 4096 * 32 := Nat.mul_le_mul (by omega) hwidth'
      omega
     have HLK := qh hlk2
     clear hlk hlk2
     by_cases hlt : k < ls.length
     ·have hki : (k : Int) < (ls.length : Int) := by omega
      have hk0 : (0 : Int) ≤ (k : Int) := by omega
      obtain ⟨lb, lo, rfl, h0⟩ := hr k (intV ls[k]) (by simp [hlt])
      have hlb : lb < w.heap.size := World.block_lt_of_cell? _ _ h0
      have h0' := hX.cell_some (hP4.cell_some h0 id) (fun e => by have e' : lb = wb := e; omega)
      unfold intV at h0'
      obtain ⟨x1, x2⟩ := B5.out ls[k] (List.getElem_mem _)
      have hge := least_le (List.getElem_mem hlt)
      have hab := above_lt (List.getElem_mem hlt)
      rw [← HL.out] at hge hab
      rw [← HWd.out] at hab
      have hsc := lensB_snoc (ls.take k) ls[k] 0 0
      rw [show ls.take k ++ [ls[k]] = ls.take (k + 1) from by rw [List.take_add_one, List.getElem?_eq_getElem hlt]; rfl] at hsc
      obtain ⟨d, hd'⟩ : ∃ d, d = ls[k] - 0 := ⟨_, rfl⟩
      have hdi : ((ls[k] : Nat) : Int) - (0 : Int) = (d : Int) := by omega
      rw [← hd'] at hab hsc
      have hdl : d < 4294967296 := by omega
      have HPut := qh (put_yes wb true _ wa wc d 0 wr hW (by have := HLK.out; omega) hwidth' hdl hab)
      have HS := qh hsc
      clear hsc hd' h0 hge hab
      generalize ls[k] = x at *
      have hu : IntKind.u32.wrap (d : Int) = (d : Int) := IntWalk.u32_in _ (by omega)
      go_wp2_with fail
      refine HPut.out.mono ?_
      rintro e w8 ⟨rfl, wa8, wc8, hW8, hE8, hf8⟩
      obtain ⟨hX8, hf8'⟩ := wrs_new hX hf hE8 hf8
      have hW8' : WrIs w8 wb true (hd ++ lensB (ls.take (k + 1)) 0 0) wa8 wc8 := by rw [HS.out, ← List.append_assoc]; exact hW8
      clear hW hX hf hE8 hf8 hW8 h0' HPut
      go_wp2_with fail
      go_roundw
      case rel => exact ⟨k + 1, wa8, wc8, by omega, by go_num, hW8', hX8, hf8'⟩
      case measure => simp [intOf]; omega
     ·have hki : ¬ (k : Int) < (ls.length : Int) := by omega
      have hkl : k = ls.length := by omega
      rw [hkl, List.take_length] at hW HLK
      have hcc : wr.cell? ⟨w.heap.size, 0 + 3, none⟩ = some (.slice la ls.length c) := hX.cell_some (hB4.cell 3) hbwb
      clear hkl
      have HAl := qh (walign_any wb true _ wa wc wr hW (by have := HLK.out; omega))
      have HP1 : Hid (part1 o a f ls 0 = align (hd ++ lensB ls 0 0)) := qh (by unfold part1; rw [← HD.out, ← HL.out, ← HWd.out])
      rw [← HP1.out] at HAl
      have hp1l : (part1 o a f ls 0).length ≤ 200008 := by rw [HP1.out, align_length]; have := HLK.out; omega
      have HP2 : Hid (part2 o a f ls 0 [] = align (part1 o a f ls 0 ++ List.replicate ls.length false)) := qh (by unfold part2; rw [signB_nil])
      have HT : Hid (tabB o a f ls 0 [] = part2 o a f ls 0 []) := qh (tabB_plain o a f ls)
      clear HP1 HLK
      generalize part1 o a f ls 0 = p1 at *
      go_wp2_with fail
      refine HAl.out.mono ?_
      rintro e w8 ⟨rfl, hW8, hE8⟩
      have hX8 := hX.trans hE8 (fun _ _ e => e)
      have hcc8 : w8.cell? ⟨w.heap.size, 0 + 3, none⟩ = some (.slice la ls.length c) := hX8.cell_some (hB4.cell 3) hbwb
      clear HAl hE8 hX hW hcc
      go_wp2_with fail
      clear hcc8
      go_loopw [82] (fun i W => ∃ (k : Nat) (wa : Option Addr) (wc : Nat), k ≤ ls.length ∧ i = .int .i64 k ∧ WrIs W wb true (p1 ++ List.replicate k false) wa wc ∧ Ext (fun i => i = wb) w4 W ∧ (∀ g, wa = some g → w4.heap.size ≤ g.block)) (fun i _ => ls.length - (intOf i).toNat)
      case atStart => exact ⟨0, wa, wc, Nat.zero_le _, rfl, by simpa using hW8, hX8, hf⟩
      case round =>
       obtain ⟨j, wa, wc, hj, rfl, hW, hX, hf⟩ := hrel
       clear hW8 hX8
       by_cases hlt : j < ls.length
       ·have hki : (j : Int) < (ls.length : Int) := by omega
        have hrep : List.replicate (j + 1) false = List.replicate j false ++ bitsNum true 0 1 := by rw [List.replicate_succ']; rfl
        obtain ⟨z1, hz1⟩ : ∃ z, z = bitsNum true 0 1 := ⟨_, rfl⟩
        have HPut0 := put_yes wb true _ wa wc 0 1 wr hW (by rw [List.length_append, List.length_replicate]; omega) (by omega) (by omega) (by decide)
        rw [← hz1] at HPut0 hrep
        have HPut := qh HPut0
        have HS := qh hrep
        clear HPut0 hrep hz1
        go_wp2_with fail
        refine HPut.out.mono ?_
        rintro e w8 ⟨rfl, wa8, wc8, hW8, hE8, hf8⟩
        obtain ⟨hX8, hf8'⟩ := wrs_new hX hf hE8 hf8
        have hW8' : WrIs w8 wb true (p1 ++ List.replicate (j + 1) false) wa8 wc8 := by rw [HS.out, ← List.append_assoc]; exact hW8
        clear hW hX hf hE8 hf8 hW8 HPut
        go_wp2_with fail
        go_roundw
        case rel => exact ⟨j + 1, wa8, wc8, by omega, by go_num, hW8', hX8, hf8'⟩
        case measure => simp [intOf]; omega
       ·have hki : ¬ (j : Int) < (ls.length : Int) := by omega
        have hjl : j = ls.length := by omega
        rw [hjl] at hW
        clear hjl
        have hlp : (p1 ++ List.replicate ls.length false).length ≤ 300000 := by rw [List.length_append, List.length_replicate]; omega
        have HLP := qh hlp
        have HAl := qh (walign_any wb true _ wa wc wr hW (by omega))
        rw [← HP2.out, ← HT.out] at HAl
        have hTl : (tabB o a f ls 0 []).length ≤ 300008 := by rw [HT.out, HP2.out, align_length]; omega
        clear HP2 HT hlp hp1l
        generalize tabB o a f ls 0 [] = tb at *
        go_wp2_with fail
        refine HAl.out.mono ?_
        rintro e w8 ⟨rfl, hW8, hE8⟩
        have hX8 := hX.trans hE8 (fun _ _ e => e)
        clear HAl hE8 hX hW
        have HBy := qh (bytes_any wb true tb wa wc w8 hW8 (by omega))
        go_wp2_with fail
        refine HBy.out.mono ?_
        rintro e w9 ⟨ra, rc, rfl, hN⟩
        go_wp2_with fail
        go_ret2
        have hszw : w.heap.size ≤ w8.heap.size := Nat.le_trans hP4.size hX8.size
        refine ⟨ra, rc, rfl, ⟨hN.bytes, ((hP4.trans' hX8 (T := fun i => i = wb) (U := fun _ => False) (fun _ _ e => e) (fun i hi e => by have e' : i = wb := e; omega)).pure hN.ext), hN.nil, fun g hg => Nat.le_trans hszw (hN.fresh g hg), hN.lt, hN.le, hN.most⟩⟩
 ·have hn0 : (0 : Int) < (ls.length : Int) := by have := List.length_pos_iff.2 hne; omega
  have hr2 := hr.ext hP2 (fun _ _ => id)
  have HMin0 := minN_any la c ls w2 hr2 hne (by omega)
  have HMax0 := maxN_any la c ls w2 hr2 hne (by omega)
  have hmm : least ls ≤ most ls := by
   cases ls with
   | nil => exact absurd rfl hne
   | cons x xs => exact Nat.le_trans (least_le (y := x) (by simp)) (le_most (by simp))
  have hmost : most ls < 4294967296 := most_lt (by decide) (fun y hy => by have := B5.out y hy; omega)
  have HWd0 : width ls = wid (most ls - least ls) := rfl
  obtain ⟨lv, hl⟩ : ∃ l, l = least ls := ⟨_, rfl⟩
  obtain ⟨mv, hm⟩ : ∃ m, m = most ls := ⟨_, rfl⟩
  obtain ⟨dv, hdv⟩ : ∃ d, d = mv - lv := ⟨_, rfl⟩
  rw [← hl] at HMin0 hmm HWd0
  rw [← hm] at HMax0 hmm hmost HWd0
  rw [← hdv] at HWd0
  have hdi : (mv : Int) - (lv : Int) = (dv : Int) := by omega
  have hdl : dv < 4294967296 := by omega
  have hud : IntKind.u32.wrap (dv : Int) = (dv : Int) := IntWalk.u32_in _ (by omega)
  have HWi0 := fun w => width_any dv w hdl
  have hwidth' := hwidth
  have hleast' := hleast
  rw [← hl] at hleast'
  obtain ⟨wv, hwv⟩ : ∃ l, l = width ls := ⟨_, rfl⟩
  rw [← hwv] at hwidth' HWd0
  rw [← HWd0] at HWi0
  have HL := qh hl
  have HWd := qh hwv
  have HMin := qh HMin0
  have HMax := qh HMax0
  have HWi := qh HWi0
  have hul : IntKind.u32.wrap (lv : Int) = (lv : Int) := IntWalk.u32_in _ (by omega)
  have huw : IntKind.u32.wrap (wv : Int) = (wv : Int) := IntWalk.u32_in _ (by omega)
  clear HMin0 HMax0 HWi0 HWd0 hl hm hdv hwv hr2 hne
  go_wp2_with fail
  refine HMin.out.mono ?_
  rintro e w3 ⟨rfl, hw3⟩
  obtain rfl := hw3.symm
  go_wp2_with fail
  refine HMax.out.mono ?_
  rintro e w3 ⟨rfl, hw3⟩
  obtain rfl := hw3.symm
  go_wp2_with fail
  refine (HWi.out _).mono ?_
  rintro e w3 ⟨rfl, hw3⟩
  obtain rfl := hw3.symm
  clear HMin HMax HWi hdi hud
  go_wp2_with fail
  refine (new_any true w2).mono ?_
  rintro e w3 ⟨rfl, hW3, hE3⟩
  obtain ⟨wb, hwb⟩ : ∃ wb, wb = w2.heap.size := ⟨_, rfl⟩
  rw [← hwb] at hW3 ⊢
  have hB3 := hB2.ext hE3 id
  have hbwb : w.heap.size ≠ wb := by have := hB2.lt; omega
  have hr3 := hr.ext (hP2.pure hE3) (fun _ _ => id)
  have hP3 := hP2.pure hE3
  have hsz3 := hB3.lt
  have hwb3 : w.heap.size < wb := by have := hB2.lt; omega
  have hwlt := hW3.blk.lt
  have c0 := hB3.cell 0
  have c1 := hB3.cell 1
  have c2 := hB3.cell 2
  have c3 := hB3.cell 3
  simp only [List.getElem?_cons_zero, List.getElem?_cons_succ] at c0 c1 c2 c3
  clear hB2 hE3 hP2 hwb
  go_wp2_with fail
  clear c0 c1 c2 c3
  obtain ⟨ab, hab⟩ : ∃ ab, ab = w3.heap.size := ⟨_, rfl⟩
  rw [← hab]
  have harr : RowOf (w3.alloc (.cells #[.int .i64 o, .int .i64 a, .int .i64 f, .int .i64 ls.length] 3)) (some ⟨ab, 0, none⟩) ([o, a, f, ls.length].map intV) := row_at _ hab.symm rfl
  have hW4 := hW3.pure (ext_alloc w3 (.cells #[.int .i64 o, .int .i64 a, .int .i64 f, .int .i64 ls.length] 3))
  have hB4 := hB3.ext (ext_alloc w3 (.cells #[.int .i64 o, .int .i64 a, .int .i64 f, .int .i64 ls.length] 3)) id
  have hP4 := hP3.pure (ext_alloc w3 (.cells #[.int .i64 o, .int .i64 a, .int .i64 f, .int .i64 ls.length] 3))
  have habn : wb ≠ ab := by omega
  generalize w3.alloc (.cells #[.int .i64 o, .int .i64 a, .int .i64 f, .int .i64 ls.length] 3) = w4 at *
  have hx4 : ∀ x ∈ [o, a, f, ls.length], x < 4294967296 := by
   intro x hx
   simp at hx
   omega
  have HX4 := qh hx4
  have hl4 : [o, a, f, ls.length].length = 4 := rfl
  have HL4 := qh hl4
  clear hx4 hl4 hB3 hW3 hP3 hr3 hab hsz3
  generalize hq4 : [o, a, f, ls.length] = q4 at *
  have HQ4 := qh hq4
  clear hq4
  go_loopw [9, 43] (fun _ i W => ∃ (k : Nat) (wa : Option Addr) (wc : Nat), k ≤ 4 ∧ i = .int .i64 k ∧ WrIs W wb true ((q4.take k).flatMap (fun x => bN x 32)) wa wc ∧ Ext (fun i => i = wb) w4 W ∧ (∀ g, wa = some g → w4.heap.size ≤ g.block)) (fun _ i _ => 4 - (intOf i).toNat)
  case atStart => exact ⟨0, none, 0, Nat.zero_le _, rfl, hW4, Ext.refl _ _, fun g hg => by cases hg⟩
  case round =>
   obtain ⟨k, wa, wc, hk, rfl, hW, hX, hf⟩ := hrel
   by_cases hlt : k < 4
   ·have hki : (k : Int) < 4 := by omega
    have hk0 : (0 : Int) ≤ (k : Int) := by omega
    have hkq : k < q4.length := by rw [HL4.out]; exact hlt
    obtain ⟨_, _, hh, h0⟩ := harr k (intV q4[k]) (by simp [hkq])
    cases hh
    have h0' := hX.cell_some h0 (fun e => habn e.symm)
    rw [Nat.zero_add] at h0'
    unfold intV at h0'
    have hxl := HX4.out q4[k] (List.getElem_mem _)
    have hsc : (q4.take (k + 1)).flatMap (fun x => bN x 32) = (q4.take k).flatMap (fun x => bN x 32) ++ bN q4[k] 32 := by
     rw [List.take_add_one, List.getElem?_eq_getElem hkq, List.flatMap_append]; simp
    have HS := qh hsc
    have hln : ((q4.take k).flatMap (fun x => bN x 32)).length ≤ 200 := by
     have : ∀ l : List Nat, (l.flatMap (fun x => bN x 32)).length = 32 * l.length := fun l => by
      induction l with
      | nil => rfl
      | cons y l ih => rw [List.flatMap_cons, List.length_append, ih, bN_len, List.length_cons]; omega
     rw [this, List.length_take]; omega
    have HPut := qh (put_yes wb true _ wa wc q4[k] 32 wr hW (by omega) (by omega) hxl hxl)
    clear h0 hsc hln
    generalize q4[k] = x at *
    have hu : IntKind.u32.wrap (x : Int) = (x : Int) := IntWalk.u32_in _ (by omega)
    go_wp2_with fail
    refine HPut.out.mono ?_
    rintro e w5 ⟨rfl, wa5, wc5, hW5, hE5, hf5⟩
    obtain ⟨hX5, hf5'⟩ := wrs_new hX hf hE5 hf5
    have hW5' : WrIs w5 wb true ((q4.take (k + 1)).flatMap (fun x => bN x 32)) wa5 wc5 := by rw [HS.out]; exact hW5
    clear hW hX hf hE5 hf5 hW5 h0' HPut
    go_wp2_with fail
    go_roundw
    case rel => exact ⟨k + 1, wa5, wc5, by omega, by go_num, hW5', hX5, hf5'⟩
    case measure => simp [intOf]; omega
   ·have hki : ¬ (k : Int) < 4 := by omega
    obtain rfl : k = 4 := by omega
    have hbits : (q4.take 4).flatMap (fun x => bN x 32) = bN o 32 ++ bN a 32 ++ bN f 32 ++ bN ls.length 32 := by
     rw [← HQ4.out]; simp
    rw [hbits] at hW
    have hlen4 : (bN o 32 ++ bN a 32 ++ bN f 32 ++ bN ls.length 32).length = 128 := by simp [bN_len]
    have HB0 : Hid (headB o a f ls.length 0 (least ls) (width ls) = bN o 32 ++ bN a 32 ++ bN f 32 ++ bN ls.length 32 ++ bN 0 16 ++ bN (least ls) 32 ++ bN (width ls) 16) := qh rfl
    clear hbits hW4 harr
    generalize hbs0 : bN o 32 ++ bN a 32 ++ bN f 32 ++ bN ls.length 32 = bs0 at *
    clear hbs0
    have hu0 : IntKind.u32.wrap (0 : Int) = 0 := by decide
    obtain ⟨z16, hz16⟩ : ∃ z, z = bN 0 16 := ⟨_, rfl⟩
    have hz16l : z16.length = 16 := by rw [hz16, bN_len]
    have HPut0 := put_yes wb true _ wa wc 0 16 wr hW (by omega) (by omega) (by omega) (by decide)
    rw [show bitsNum true 0 16 = z16 from hz16.symm] at HPut0
    rw [← hz16] at HB0
    have HPut := qh HPut0
    clear HPut0 hz16
    go_wp2_with fail
    refine HPut.out.mono ?_
    rintro e w5 ⟨rfl, wa5, wc5, hW5, hE5, hf5⟩
    obtain ⟨hX5, hf5'⟩ := wrs_new hX hf hE5 hf5
    clear HPut hE5 hf5 hX hf hW
    obtain ⟨z32, hz32⟩ : ∃ z, z = bN lv 32 := ⟨_, rfl⟩
    obtain ⟨y16, hy16⟩ : ∃ z, z = bN wv 16 := ⟨_, rfl⟩
    have hz32l : z32.length = 32 := by rw [hz32, bN_len]
    rw [← HL.out, ← HWd.out, ← hz32, ← hy16] at HB0
    have HPut0 := put_yes wb true _ wa5 wc5 lv 32 w5 hW5 (by rw [List.length_append]; omega) (by omega) hleast' hleast'
    rw [show bitsNum true lv 32 = z32 from hz32.symm] at HPut0
    have HPut := qh HPut0
    clear HPut0 hz32
    go_wp2_with fail
    refine HPut.out.mono ?_
    rintro e w6 ⟨rfl, wa6, wc6, hW6, hE6, hf6⟩
    obtain ⟨hX6, hf6'⟩ := wrs_new hX5 hf5' hE6 hf6
    clear HPut hE6 hf6 hX5 hf5' hW5
    have HPut0 := put_yes wb true _ wa6 wc6 wv 16 w6 hW6 (by rw [List.length_append, List.length_append]; omega) (by omega) (by omega) (by omega)
    rw [show bitsNum true wv 16 = y16 from hy16.symm] at HPut0
    have HPut := qh HPut0
    clear HPut0 hy16
    go_wp2_with fail
    refine HPut.out.mono ?_
    rintro e w7 ⟨rfl, wa7, wc7, hW7, hE7, hf7⟩
    obtain ⟨hX7, hf7'⟩ := wrs_new hX6 hf6' hE7 hf7
    clear HPut hE7 hf7 hX6 hf6' hW6
    rw [← HB0.out] at hW7
    clear HB0 hz16l hlen4 hz32l
    have hd3 : w7.cell? ⟨w.heap.size, 0 + 3, none⟩ = some (.slice la ls.length c) := hX7.cell_some (hB4.cell 3) hbwb
    have hhl := headB_len o a f ls.length 0 lv wv
    generalize hdd : headB o a f ls.length 0 lv wv = hd at *
    have HD := qh hdd
    clear hdd
    have hX7' := hX7.trans (Ext.refl (fun _ => False) w7) (fun _ _ e => e.elim)
    go_wp2_with fail
    clear hd3
    go_loopw [11, 65] (fun _ i W => ∃ (k : Nat) (wa : Option Addr) (wc : Nat), k ≤ ls.length ∧ i = .int .i64 k ∧ WrIs W wb true (hd ++ lensB (ls.take k) lv wv) wa wc ∧ Ext (fun i => i = wb) w4 W ∧ (∀ g, wa = some g → w4.heap.size ≤ g.block)) (fun _ i _ => ls.length - (intOf i).toNat)
    case atStart => exact ⟨0, wa7, wc7, Nat.zero_le _, rfl, by simpa [lensB] using hW7, hX7, hf7'⟩
    case round =>
     obtain ⟨k, wa, wc, hk, rfl, hW, hX, hf⟩ := hrel
     clear hW7 hX7 hf7' hX7'
     have hlk := lensB_len (ls.take k) lv wv
     have hlk2 : (hd ++ lensB (ls.take k) lv wv).length ≤ 200000 := by
      rw [List.length_append, hlk, hhl, List.length_take]
      have : min k ls.length * wv ≤ 4096 * 32 := Nat.mul_le_mul (by omega) hwidth'
      omega
     have HLK := qh hlk2
     clear hlk hlk2
     by_cases hlt : k < ls.length
     ·have hki : (k : Int) < (ls.length : Int) := by omega
      have hk0 : (0 : Int) ≤ (k : Int) := by omega
      obtain ⟨lb, lo, rfl, h0⟩ := hr k (intV ls[k]) (by simp [hlt])
      have hlb : lb < w.heap.size := World.block_lt_of_cell? _ _ h0
      have h0' := hX.cell_some (hP4.cell_some h0 id) (fun e => by have e' : lb = wb := e; omega)
      unfold intV at h0'
      obtain ⟨x1, x2⟩ := B5.out ls[k] (List.getElem_mem _)
      have hge := least_le (List.getElem_mem hlt)
      have hab := above_lt (List.getElem_mem hlt)
      rw [← HL.out] at hge hab
      rw [← HWd.out] at hab
      have hsc := lensB_snoc (ls.take k) ls[k] lv wv
      rw [show ls.take k ++ [ls[k]] = ls.take (k + 1) from by rw [List.take_add_one, List.getElem?_eq_getElem hlt]; rfl] at hsc
      obtain ⟨d, hd'⟩ : ∃ d, d = ls[k] - lv := ⟨_, rfl⟩
      have hdi : ((ls[k] : Nat) : Int) - (lv : Int) = (d : Int) := by omega
      rw [← hd'] at hab hsc
      have hdl : d < 4294967296 := by omega
      have HPut := qh (put_yes wb true _ wa wc d wv wr hW (by have := HLK.out; omega) hwidth' hdl hab)
      have HS := qh hsc
      clear hsc hd' h0 hge hab
      generalize ls[k] = x at *
      have hu : IntKind.u32.wrap (d : Int) = (d : Int) := IntWalk.u32_in _ (by omega)
      go_wp2_with fail
      refine HPut.out.mono ?_
      rintro e w8 ⟨rfl, wa8, wc8, hW8, hE8, hf8⟩
      obtain ⟨hX8, hf8'⟩ := wrs_new hX hf hE8 hf8
      have hW8' : WrIs w8 wb true (hd ++ lensB (ls.take (k + 1)) lv wv) wa8 wc8 := by rw [HS.out, ← List.append_assoc]; exact hW8
      clear hW hX hf hE8 hf8 hW8 h0' HPut
      go_wp2_with fail
      go_roundw
      case rel => exact ⟨k + 1, wa8, wc8, by omega, by go_num, hW8', hX8, hf8'⟩
      case measure => simp [intOf]; omega
     ·have hki : ¬ (k : Int) < (ls.length : Int) := by omega
      have hkl : k = ls.length := by omega
      rw [hkl, List.take_length] at hW HLK
      have hcc : wr.cell? ⟨w.heap.size, 0 + 3, none⟩ = some (.slice la ls.length c) := hX.cell_some (hB4.cell 3) hbwb
      clear hkl
      have HAl := qh (walign_any wb true _ wa wc wr hW (by have := HLK.out; omega))
      have HP1 : Hid (part1 o a f ls 0 = align (hd ++ lensB ls lv wv)) := qh (by unfold part1; rw [← HD.out, ← HL.out, ← HWd.out])
      rw [← HP1.out] at HAl
      have hp1l : (part1 o a f ls 0).length ≤ 200008 := by rw [HP1.out, align_length]; have := HLK.out; omega
      have HP2 : Hid (part2 o a f ls 0 [] = align (part1 o a f ls 0 ++ List.replicate ls.length false)) := qh (by unfold part2; rw [signB_nil])
      have HT : Hid (tabB o a f ls 0 [] = part2 o a f ls 0 []) := qh (tabB_plain o a f ls)
      clear HP1 HLK
      generalize part1 o a f ls 0 = p1 at *
      go_wp2_with fail
      refine HAl.out.mono ?_
      rintro e w8 ⟨rfl, hW8, hE8⟩
      have hX8 := hX.trans hE8 (fun _ _ e => e)
      have hcc8 : w8.cell? ⟨w.heap.size, 0 + 3, none⟩ = some (.slice la ls.length c) := hX8.cell_some (hB4.cell 3) hbwb
      clear HAl hE8 hX hW hcc
      go_wp2_with fail
      clear hcc8
      go_loopw [82] (fun i W => ∃ (k : Nat) (wa : Option Addr) (wc : Nat), k ≤ ls.length ∧ i = .int .i64 k ∧ WrIs W wb true (p1 ++ List.replicate k false) wa wc ∧ Ext (fun i => i = wb) w4 W ∧ (∀ g, wa = some g → w4.heap.size ≤ g.block)) (fun i _ => ls.length - (intOf i).toNat)
      case atStart => exact ⟨0, wa, wc, Nat.zero_le _, rfl, by simpa using hW8, hX8, hf⟩
      case round =>
       obtain ⟨j, wa, wc, hj, rfl, hW, hX, hf⟩ := hrel
       clear hW8 hX8
       by_cases hlt : j < ls.length
       ·have hki : (j : Int) < (ls.length : Int) := by omega
        have hrep : List.replicate (j + 1) false = List.replicate j false ++ bitsNum true 0 1 := by rw [List.replicate_succ']; rfl
        obtain ⟨z1, hz1⟩ : ∃ z, z = bitsNum true 0 1 := ⟨_, rfl⟩
        have HPut0 := put_yes wb true _ wa wc 0 1 wr hW (by rw [List.length_append, List.length_replicate]; omega) (by omega) (by omega) (by decide)
        rw [← hz1] at HPut0 hrep
        have HPut := qh HPut0
        have HS := qh hrep
        clear HPut0 hrep hz1
        go_wp2_with fail
        refine HPut.out.mono ?_
        rintro e w8 ⟨rfl, wa8, wc8, hW8, hE8, hf8⟩
        obtain ⟨hX8, hf8'⟩ := wrs_new hX hf hE8 hf8
        have hW8' : WrIs w8 wb true (p1 ++ List.replicate (j + 1) false) wa8 wc8 := by rw [HS.out, ← List.append_assoc]; exact hW8
        clear hW hX hf hE8 hf8 hW8 HPut
        go_wp2_with fail
        go_roundw
        case rel => exact ⟨j + 1, wa8, wc8, by omega, by go_num, hW8', hX8, hf8'⟩
        case measure => simp [intOf]; omega
       ·have hki : ¬ (j : Int) < (ls.length : Int) := by omega
        have hjl : j = ls.length := by omega
        rw [hjl] at hW
        clear hjl
        have hlp : (p1 ++ List.replicate ls.length false).length ≤ 300000 := by rw [List.length_append, List.length_replicate]; omega
        have HLP := qh hlp
        have HAl := qh (walign_any wb true _ wa wc wr hW (by omega))
        rw [← HP2.out, ← HT.out] at HAl
        have hTl : (tabB o a f ls 0 []).length ≤ 300008 := by rw [HT.out, HP2.out, align_length]; omega
        clear HP2 HT hlp hp1l
        generalize tabB o a f ls 0 [] = tb at *
        go_wp2_with fail
        refine HAl.out.mono ?_
        rintro e w8 ⟨rfl, hW8, hE8⟩
        have hX8 := hX.trans hE8 (fun _ _ e => e)
        clear HAl hE8 hX hW
        have HBy := qh (bytes_any wb true tb wa wc w8 hW8 (by omega))
        go_wp2_with fail
        refine HBy.out.mono ?_
        rintro e w9 ⟨ra, rc, rfl, hN⟩
        go_wp2_with fail
        go_ret2
        have hszw : w.heap.size ≤ w8.heap.size := Nat.le_trans hP4.size hX8.size
        refine ⟨ra, rc, rfl, ⟨hN.bytes, ((hP4.trans' hX8 (T := fun i => i = wb) (U := fun _ => False) (fun _ _ e => e) (fun i hi e => by have e' : i = wb := e; omega)).pure hN.ext), hN.nil, fun g hg => Nat.le_trans hszw (hN.fresh g hg), hN.lt, hN.le, hN.most⟩⟩
theorem encode_no (o a f : Int) (la : Option Addr) (c : Nat) (ls : List Int) (w : World) (hr : RowOf w la (ls.map iV)) (hl : (ls.length : Int) ≤ 9223372036854775807) (hok : okT o a f ls = false) :
 Calls Tryz.prog 21 #[tblV o a f la ls.length c] w fun e w' => e = .returned (.tuple #[.slice none 0 0, .int .i64 2]) ∧ Pure w w' := by
 have HC0 := fun W (hP : Pure w W) => check_any o a f la c ls W (hr.ext hP (fun _ _ => id)) hl
 rw [hok] at HC0
 have HC := qh HC0
 clear HC0 hok
 unfold tblV at HC ⊢
 go_enter Tryz.func21, Tryz.ntmps21
 go_wp2_with fail
 refine (HC.out _ (ext_alloc w _)).mono ?_
 rintro e w2 ⟨rfl, hE2⟩
 go_wp2_with fail
 go_ret2
 exact ⟨rfl, (ext_alloc w _).pure hE2⟩
theorem align_split (bs : List Bool) : ∃ z, align bs = bs ++ z := ⟨_, rfl⟩
theorem manyB_sum (n : Nat) (signed : List Bool) : ((signB n signed).map bitN).sum = manyB n signed := sum_bits _
theorem dec_back {o a f : Nat} {ls : List Nat} {groups : Nat} {signed tail : List Bool} (hok : okT o a f (ls.map (fun x : Nat => (x : Int))) = true) (hg : groups ≤ 32) :
 DecTo (tabB o a f ls groups signed ++ tail) ⟨0, o, a, f, ls, (pack true (tabB o a f ls groups signed)).length⟩ := by
 obtain ⟨b1, b2, b3, b4, b5⟩ := okT_nat hok
 obtain ⟨z1, hz1⟩ := align_split (headB o a f ls.length groups (least ls) (width ls) ++ lensB ls (least ls) (width ls))
 obtain ⟨z2, hz2⟩ := align_split (part1 o a f ls groups ++ signB ls.length signed)
 obtain ⟨z3, hz3⟩ := align_split (part2 o a f ls groups signed ++ List.replicate (128 * manyB ls.length signed) true ++ List.replicate (ls.length * groups) true)
 have hw : width ls ≤ 32 := width_le (fun y hy => by have := b5 y hy; omega)
 have hleast : least ls < 4294967296 := by
  cases ls with
  | nil => decide
  | cons x xs => exact Nat.lt_of_le_of_lt (least_le (y := x) (by simp)) (by have := b5 x (by simp); omega)
 obtain ⟨bs, hbs⟩ : ∃ bs, bs = tabB o a f ls groups signed ++ tail := ⟨_, rfl⟩
 have p1l : (part1 o a f ls groups).length = P1 192 ls.length (width ls) := by
  unfold part1 P1; rw [al8_align, List.length_append, headB_len, lensB_len]
 have p2l : (part2 o a f ls groups signed).length = P2 192 ls.length (width ls) := by
  unfold part2 P2; rw [al8_align, List.length_append, p1l, signB_len, Nat.mul_one]
 have e3 : bs = part2 o a f ls groups signed ++ (List.replicate (128 * manyB ls.length signed) true ++ (List.replicate (ls.length * groups) true ++ (z3 ++ tail))) := by
  rw [hbs]; unfold tabB; rw [hz3]; simp only [List.append_assoc]
 have e2 : bs = part1 o a f ls groups ++ (signB ls.length signed ++ (z2 ++ (List.replicate (128 * manyB ls.length signed) true ++ (List.replicate (ls.length * groups) true ++ (z3 ++ tail))))) := by
  rw [e3]; unfold part2; rw [hz2]; simp only [List.append_assoc]
 obtain ⟨r1, hr1⟩ : ∃ r, r = z1 ++ (signB ls.length signed ++ (z2 ++ (List.replicate (128 * manyB ls.length signed) true ++ (List.replicate (ls.length * groups) true ++ (z3 ++ tail))))) := ⟨_, rfl⟩
 have e1 : bs = headB o a f ls.length groups (least ls) (width ls) ++ (lensB ls (least ls) (width ls) ++ r1) := by
  rw [e2, hr1]; unfold part1; rw [hz1]; simp only [List.append_assoc]
 obtain ⟨r0, hr0⟩ : ∃ r, r = lensB ls (least ls) (width ls) ++ r1 := ⟨_, rfl⟩
 rw [← hr0] at e1
 have hl192 : 192 ≤ bs.length := by rw [e1, List.length_append, headB_len]; omega
 have q1 : hO bs = o := numAt_mid (pre := []) (post := bN a 32 ++ bN f 32 ++ bN ls.length 32 ++ bN groups 16 ++ bN (least ls) 32 ++ bN (width ls) 16 ++ r0) (by rw [e1]; unfold headB bN; simp only [List.nil_append, List.append_assoc]) rfl (by omega)
 have q2 : hA bs = a := numAt_mid (pre := bN o 32) (post := bN f 32 ++ bN ls.length 32 ++ bN groups 16 ++ bN (least ls) 32 ++ bN (width ls) 16 ++ r0) (by rw [e1]; unfold headB bN; simp only [List.append_assoc]) (by rw [bN_len]) (by omega)
 have q3 : hF bs = f := numAt_mid (pre := bN o 32 ++ bN a 32) (post := bN ls.length 32 ++ bN groups 16 ++ bN (least ls) 32 ++ bN (width ls) 16 ++ r0) (by rw [e1]; unfold headB bN; simp only [List.append_assoc]) (by simp only [List.length_append, bN_len]) (by omega)
 have q4 : hN bs = ls.length := numAt_mid (pre := bN o 32 ++ bN a 32 ++ bN f 32) (post := bN groups 16 ++ bN (least ls) 32 ++ bN (width ls) 16 ++ r0) (by rw [e1]; unfold headB bN; simp only [List.append_assoc]) (by simp only [List.length_append, bN_len]) (by omega)
 have q5 : hG bs = groups := numAt_mid (pre := bN o 32 ++ bN a 32 ++ bN f 32 ++ bN ls.length 32) (post := bN (least ls) 32 ++ bN (width ls) 16 ++ r0) (by rw [e1]; unfold headB bN; simp only [List.append_assoc]) (by simp only [List.length_append, bN_len]) (by omega)
 have q6 : hL bs = least ls := numAt_mid (pre := bN o 32 ++ bN a 32 ++ bN f 32 ++ bN ls.length 32 ++ bN groups 16) (post := bN (width ls) 16 ++ r0) (by rw [e1]; unfold headB bN; simp only [List.append_assoc]) (by simp only [List.length_append, bN_len]) (by omega)
 have q7 : hW bs = width ls := numAt_mid (pre := bN o 32 ++ bN a 32 ++ bN f 32 ++ bN ls.length 32 ++ bN groups 16 ++ bN (least ls) 32) (post := r0) (by rw [e1]; unfold headB bN; simp only [List.append_assoc]) (by simp only [List.length_append, bN_len]) (by omega)
 have hOK : HeadOk bs := ⟨by omega, by omega, by omega, by omega, by omega, by omega⟩
 have hv : vals bs 192 (width ls) ls.length = ls.map (fun x => x - least ls) :=
  vals_flat (post := r1) (ls.map (fun x => x - least ls)) (headB o a f ls.length groups (least ls) (width ls)) (by rw [e1, hr0]; unfold lensB bN; rw [List.flatMap_map]) (by rw [headB_len]) (by rw [List.length_map]) (fun x hx => by
   obtain ⟨y, hy, rfl⟩ := List.mem_map.1 hx
   exact above_lt hy)
 have hs : sgn bs 192 ls.length (width ls) = manyB ls.length signed := by
  unfold sgn
  rw [vals_bits e2 p1l.symm (signB_len _ _).symm, manyB_sum]
 have hlen : bs.length = (tabB o a f ls groups signed).length + tail.length := by rw [hbs, List.length_append]
 have ht : (tabB o a f ls groups signed).length = P4 bs 192 ls.length (width ls) groups := by
  unfold tabB P4 P3
  rw [al8_align, List.length_append, List.length_append, List.length_replicate, List.length_replicate, p2l, hs]
  have h8 : P2 192 ls.length (width ls) % 8 = 0 := by unfold P2 al8; omega
  rw [al8_id (x := P2 192 ls.length (width ls) + 4 * manyB ls.length signed * 32) (by omega)]
  congr 1; omega
 have ha : AllFit bs 192 ls.length (width ls) groups := by
  have k1 : P1 192 ls.length (width ls) + ls.length * 1 ≤ P2 192 ls.length (width ls) := by unfold P2 al8; omega
  have k0 : 192 + ls.length * width ls ≤ P1 192 ls.length (width ls) := by unfold P1 al8; omega
  have k2 : P2 192 ls.length (width ls) + 4 * sgn bs 192 ls.length (width ls) * 32 ≤ P3 bs 192 ls.length (width ls) := by unfold P3 al8; omega
  have k3 : P3 bs 192 ls.length (width ls) + ls.length * groups ≤ P4 bs 192 ls.length (width ls) groups := by unfold P4 al8; omega
  exact ⟨by omega, by omega, by omega, by omega⟩
 have hfit : Fit bs.length 192 (width ls) ls.length ls.length := ⟨Nat.le_refl _, ha.1, fun h => absurd h (Nat.lt_irrefl _)⟩
 rw [← hbs]
 refine Or.inr ⟨hl192, Or.inr ⟨hOK, (P4 bs 192 ls.length (width ls) groups, 0), ls, ?_, Or.inr ⟨rfl, ?_⟩⟩⟩
 ·rw [q4, q5, q6, q7]
  refine ⟨ls.length, hfit, Or.inr ⟨fun x hx => ?_, Or.inr ⟨ha, rfl, ?_⟩⟩⟩
  ·rw [hv] at hx
   obtain ⟨y, hy, rfl⟩ := List.mem_map.1 hx
   have h1 := least_le hy
   have h2 := b5 y hy
   exact inB_true.2 ⟨by omega, by omega⟩
  ·rw [hv, List.map_map]
   refine (List.map_id ls).symm.trans (List.map_congr_left fun y hy => ?_)
   have h1 := least_le hy
   simp only [id, Function.comp]; omega
 ·rw [q1, q2, q3, pack_length, ht]
  congr 1
  have h8 : P4 bs 192 ls.length (width ls) groups % 8 = 0 := by unfold P4 al8; omega
  simp only; omega
theorem tab_len {o a f : Nat} {ls : List Nat} {groups : Nat} {signed : List Bool} (hok : okT o a f (ls.map (fun x : Nat => (x : Int))) = true) (hg : groups ≤ 32) : (pack true (tabB o a f ls groups signed)).length ≤ 100 + 50 * ls.length := by
 obtain ⟨b1, b2, b3, b4, b5⟩ := okT_nat hok
 have hw : width ls ≤ 32 := width_le (fun y hy => by have := b5 y hy; omega)
 have h1 : ls.length * width ls ≤ ls.length * 32 := Nat.mul_le_mul_left _ hw
 have h2 : ls.length * groups ≤ ls.length * 32 := Nat.mul_le_mul_left _ hg
 have h3 := manyB_le ls.length signed
 have p1l : (part1 o a f ls groups).length ≤ 200 + ls.length * 32 := by
  unfold part1; rw [align_length, List.length_append, headB_len, lensB_len]; omega
 have p2l : (part2 o a f ls groups signed).length ≤ 208 + ls.length * 33 := by
  unfold part2; rw [align_length, List.length_append, signB_len]; omega
 rw [pack_length]
 unfold tabB
 rw [align_length, List.length_append, List.length_append, List.length_replicate, List.length_replicate]
 omega
theorem bits_tab (o a f : Nat) (ls : List Nat) (groups : Nat) (signed : List Bool) (behind : List UInt8) : bitsOf true (pack true (tabB o a f ls groups signed) ++ behind) = tabB o a f ls groups signed ++ bitsOf true behind := by
 rw [bitsOf_append, bitsOf_pack, align_id]
 unfold tabB; exact align_mod _
theorem dec_tab {o a f : Nat} {ls : List Nat} {groups : Nat} {signed : List Bool} {behind : List UInt8} {r : DRes} (hok : okT o a f (ls.map (fun x : Nat => (x : Int))) = true) (hg : groups ≤ 32) (h : DecTo (bitsOf true (pack true (tabB o a f ls groups signed) ++ behind)) r) :
 r = ⟨0, o, a, f, ls, (pack true (tabB o a f ls groups signed)).length⟩ := by
 rw [bits_tab] at h
 exact dec_unique h (dec_back hok hg)
