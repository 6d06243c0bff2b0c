/-
  Plain: the bytes of a table come to that table, whatever is behind, whatever signatures there are, and whatever width groups have.
-/
import Derived.Test.YtjnpjkenmkgooaaDecPlain
import Derived.Test.YtjnpjkenmkgooaaEncode
import Derived.Test.YtjnpjkenmkgooaaTextPlain
import Derived.Test.YtjnpjkenmkgooaaNumAt27
namespace Go.Proofs.Ytjnpjkenmkgooaa
open Go.RowKit C27
set_option linter.unusedVariables false

theorem align_split (bs : List Bool) : ∃ z, align bs = bs ++ z := ⟨_, rfl⟩
theorem manyB_sum (n : Nat) (signed : List Bool) : ((signB n signed).map bitN).sum = manyB n signed := sum_bits _
theorem least_pos {ls : List Nat} {x : Nat} (h : x ∈ ls) (h' : ∀ y ∈ ls, y ≤ 2147483647) : x - least ls < 2 ^ width ls := above_lt h
theorem dec_back {o a f : Nat} {ls : List Nat} {groups : Nat} {signed tail : List Bool} (hok : okT o a f (ls.map (fun x : Nat => (x : Int))) = true) (hg : groups ≤ 32) :
    DecTo (tabB o a f ls groups signed ++ tail) ⟨0, o, a, f, ls, (pack true (tabB o a f ls groups signed)).length⟩ := by
  obtain ⟨b1, b2, b3, b4, b5⟩ := okT_nat hok
  obtain ⟨z1, hz1⟩ := align_split (headB o a f ls.length groups (least ls) (width ls) ++ lensB ls (least ls) (width ls))
  obtain ⟨z2, hz2⟩ := align_split (part1 o a f ls groups ++ signB ls.length signed)
  obtain ⟨z3, hz3⟩ := align_split (part2 o a f ls groups signed ++ List.replicate (128 * manyB ls.length signed) true ++ List.replicate (ls.length * groups) true)
  have hw : width ls ≤ 32 := width_le (fun y hy => by have := b5 y hy; omega)
  have hleast : least ls < 4294967296 := by
    cases ls with
    | nil => decide
    | cons x xs => exact Nat.lt_of_le_of_lt (least_le (y := x) (by simp)) (by have := b5 x (by simp); omega)
  obtain ⟨bs, hbs⟩ : ∃ bs, bs = tabB o a f ls groups signed ++ tail := ⟨_, rfl⟩
  have p1l : (part1 o a f ls groups).length = P1 192 ls.length (width ls) := by
    unfold part1 P1; rw [al8_align, List.length_append, headB_len, lensB_len]
  have p2l : (part2 o a f ls groups signed).length = P2 192 ls.length (width ls) := by
    unfold part2 P2; rw [al8_align, List.length_append, p1l, signB_len, Nat.mul_one]
  -- the bits, from part to part
  have e3 : bs = part2 o a f ls groups signed ++ (List.replicate (128 * manyB ls.length signed) true ++ (List.replicate (ls.length * groups) true ++ (z3 ++ tail))) := by
    rw [hbs]; unfold tabB; rw [hz3]; simp only [List.append_assoc]
  have e2 : bs = part1 o a f ls groups ++ (signB ls.length signed ++ (z2 ++ (List.replicate (128 * manyB ls.length signed) true ++ (List.replicate (ls.length * groups) true ++ (z3 ++ tail))))) := by
    rw [e3]; unfold part2; rw [hz2]; simp only [List.append_assoc]
  obtain ⟨r1, hr1⟩ : ∃ r, r = z1 ++ (signB ls.length signed ++ (z2 ++ (List.replicate (128 * manyB ls.length signed) true ++ (List.replicate (ls.length * groups) true ++ (z3 ++ tail))))) := ⟨_, rfl⟩
  have e1 : bs = headB o a f ls.length groups (least ls) (width ls) ++ (lensB ls (least ls) (width ls) ++ r1) := by
    rw [e2, hr1]; unfold part1; rw [hz1]; simp only [List.append_assoc]
  obtain ⟨r0, hr0⟩ : ∃ r, r = lensB ls (least ls) (width ls) ++ r1 := ⟨_, rfl⟩
  rw [← hr0] at e1
  have hl192 : 192 ≤ bs.length := by rw [e1, List.length_append, headB_len]; omega
  have q1 : hO bs = o := numAt_mid (pre := []) (post := bN a 32 ++ bN f 32 ++ bN ls.length 32 ++ bN groups 16 ++ bN (least ls) 32 ++ bN (width ls) 16 ++ r0) (by rw [e1]; unfold headB bN; simp only [List.nil_append, List.append_assoc]) rfl (by omega)
  have q2 : hA bs = a := numAt_mid (pre := bN o 32) (post := bN f 32 ++ bN ls.length 32 ++ bN groups 16 ++ bN (least ls) 32 ++ bN (width ls) 16 ++ r0) (by rw [e1]; unfold headB bN; simp only [List.append_assoc]) (by rw [bN_len]) (by omega)
  have q3 : hF bs = f := numAt_mid (pre := bN o 32 ++ bN a 32) (post := bN ls.length 32 ++ bN groups 16 ++ bN (least ls) 32 ++ bN (width ls) 16 ++ r0) (by rw [e1]; unfold headB bN; simp only [List.append_assoc]) (by simp only [List.length_append, bN_len]) (by omega)
  have q4 : hN bs = ls.length := numAt_mid (pre := bN o 32 ++ bN a 32 ++ bN f 32) (post := bN groups 16 ++ bN (least ls) 32 ++ bN (width ls) 16 ++ r0) (by rw [e1]; unfold headB bN; simp only [List.append_assoc]) (by simp only [List.length_append, bN_len]) (by omega)
  have q5 : hG bs = groups := numAt_mid (pre := bN o 32 ++ bN a 32 ++ bN f 32 ++ bN ls.length 32) (post := bN (least ls) 32 ++ bN (width ls) 16 ++ r0) (by rw [e1]; unfold headB bN; simp only [List.append_assoc]) (by simp only [List.length_append, bN_len]) (by omega)
  have q6 : hL bs = least ls := numAt_mid (pre := bN o 32 ++ bN a 32 ++ bN f 32 ++ bN ls.length 32 ++ bN groups 16) (post := bN (width ls) 16 ++ r0) (by rw [e1]; unfold headB bN; simp only [List.append_assoc]) (by simp only [List.length_append, bN_len]) (by omega)
  have q7 : hW bs = width ls := numAt_mid (pre := bN o 32 ++ bN a 32 ++ bN f 32 ++ bN ls.length 32 ++ bN groups 16 ++ bN (least ls) 32) (post := r0) (by rw [e1]; unfold headB bN; simp only [List.append_assoc]) (by simp only [List.length_append, bN_len]) (by omega)
  have hOK : HeadOk bs := ⟨by omega, by omega, by omega, by omega, by omega, by omega⟩
  have hv : vals bs 192 (width ls) ls.length = ls.map (fun x => x - least ls) :=
    vals_flat (post := r1) (ls.map (fun x => x - least ls)) (headB o a f ls.length groups (least ls) (width ls)) (by rw [e1, hr0]; unfold lensB bN; rw [List.flatMap_map]) (by rw [headB_len]) (by rw [List.length_map]) (fun x hx => by
      obtain ⟨y, hy, rfl⟩ := List.mem_map.1 hx
      exact above_lt hy)
  have hs : sgn bs 192 ls.length (width ls) = manyB ls.length signed := by
    unfold sgn
    rw [vals_bits e2 p1l.symm (signB_len _ _).symm, manyB_sum]
  have hlen : bs.length = (tabB o a f ls groups signed).length + tail.length := by rw [hbs, List.length_append]
  have ht : (tabB o a f ls groups signed).length = P4 bs 192 ls.length (width ls) groups := by
    unfold tabB P4 P3
    rw [al8_align, List.length_append, List.length_append, List.length_replicate, List.length_replicate, p2l, hs]
    have h8 : P2 192 ls.length (width ls) % 8 = 0 := by unfold P2 al8; omega
    rw [al8_id (x := P2 192 ls.length (width ls) + 4 * manyB ls.length signed * 32) (by omega)]
    congr 1; omega
  have ha : AllFit bs 192 ls.length (width ls) groups := by
    have k1 : P1 192 ls.length (width ls) + ls.length * 1 ≤ P2 192 ls.length (width ls) := by unfold P2 al8; omega
    have k0 : 192 + ls.length * width ls ≤ P1 192 ls.length (width ls) := by unfold P1 al8; omega
    have k2 : P2 192 ls.length (width ls) + 4 * sgn bs 192 ls.length (width ls) * 32 ≤ P3 bs 192 ls.length (width ls) := by unfold P3 al8; omega
    have k3 : P3 bs 192 ls.length (width ls) + ls.length * groups ≤ P4 bs 192 ls.length (width ls) groups := by unfold P4 al8; omega
    exact ⟨by omega, by omega, by omega, by omega⟩
  have hfit : Fit bs.length 192 (width ls) ls.length ls.length := ⟨Nat.le_refl _, ha.1, fun h => absurd h (Nat.lt_irrefl _)⟩
  rw [← hbs]
  refine Or.inr ⟨hl192, Or.inr ⟨hOK, (P4 bs 192 ls.length (width ls) groups, 0), ls, ?_, Or.inr ⟨rfl, ?_⟩⟩⟩
  · rw [q4, q5, q6, q7]
    refine ⟨ls.length, hfit, Or.inr ⟨fun x hx => ?_, Or.inr ⟨ha, rfl, ?_⟩⟩⟩
    · rw [hv] at hx
      obtain ⟨y, hy, rfl⟩ := List.mem_map.1 hx
      have h1 := least_le hy
      have h2 := b5 y hy
      exact inB_true.2 ⟨by omega, by omega⟩
    · rw [hv, List.map_map]
      refine (List.map_id ls).symm.trans (List.map_congr_left fun y hy => ?_)
      have h1 := least_le hy
      simp only [id, Function.comp]; omega
  · rw [q1, q2, q3, pack_length, ht]
    congr 1
    have h8 : P4 bs 192 ls.length (width ls) groups % 8 = 0 := by unfold P4 al8; omega
    simp only; omega
theorem tab_len {o a f : Nat} {ls : List Nat} {groups : Nat} {signed : List Bool} (hok : okT o a f (ls.map (fun x : Nat => (x : Int))) = true) (hg : groups ≤ 32) : (pack true (tabB o a f ls groups signed)).length ≤ 100 + 50 * ls.length := by
  obtain ⟨b1, b2, b3, b4, b5⟩ := okT_nat hok
  have hw : width ls ≤ 32 := width_le (fun y hy => by have := b5 y hy; omega)
  have h1 : ls.length * width ls ≤ ls.length * 32 := Nat.mul_le_mul_left _ hw
  have h2 : ls.length * groups ≤ ls.length * 32 := Nat.mul_le_mul_left _ hg
  have h3 := manyB_le ls.length signed
  have p1l : (part1 o a f ls groups).length ≤ 200 + ls.length * 32 := by
    unfold part1; rw [align_length, List.length_append, headB_len, lensB_len]; omega
  have p2l : (part2 o a f ls groups signed).length ≤ 208 + ls.length * 33 := by
    unfold part2; rw [align_length, List.length_append, signB_len]; omega
  rw [pack_length]
  unfold tabB
  rw [align_length, List.length_append, List.length_append, List.length_replicate, List.length_replicate]
  omega
/-- the bits of a table's bytes and of what is behind -/
theorem bits_tab (o a f : Nat) (ls : List Nat) (groups : Nat) (signed : List Bool) (behind : List UInt8) : bitsOf true (pack true (tabB o a f ls groups signed) ++ behind) = tabB o a f ls groups signed ++ bitsOf true behind := by
  rw [bitsOf_append, bitsOf_pack, align_id]
  unfold tabB; exact align_mod _
theorem dec_tab {o a f : Nat} {ls : List Nat} {groups : Nat} {signed : List Bool} {behind : List UInt8} {r : DRes} (hok : okT o a f (ls.map (fun x : Nat => (x : Int))) = true) (hg : groups ≤ 32) (h : DecTo (bitsOf true (pack true (tabB o a f ls groups signed) ++ behind)) r) :
    r = ⟨0, o, a, f, ls, (pack true (tabB o a f ls groups signed)).length⟩ := by
  rw [bits_tab] at h
  exact dec_unique h (dec_back hok hg)
end Go.Proofs.Ytjnpjkenmkgooaa
