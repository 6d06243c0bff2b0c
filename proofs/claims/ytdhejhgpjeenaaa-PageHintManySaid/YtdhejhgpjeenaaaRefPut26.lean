/-
  Walked: the reference's put, full, get, row (chapter 26).
-/
import Derived.Test.YtdhejhgpjeenaaaRefNum
import Derived.Test.YtdhejhgpjeenaaaRefOf
namespace Go.Proofs.Ytdhejhgpjeenaaa.C26
open Go.RowKit Go.Proofs.Ytdhejhgpjeenaaa
set_option linter.unusedVariables false

set_option maxRecDepth 100000 in
theorem refput_any (B : Nat) (bs : List Bool) (a : Option Addr) (c : Nat) (x n : Nat) (w : World) (hB : B ≤ w.heap.size) (hO : w.ownsRow B 4 1 (.slice a bs.length c) bs.length (bs.map Value.bool)) (hlen : bs.length ≤ 1000000000) (hn : n ≤ 32) (hx : x < 4294967296) (hxn : x < 2 ^ n) :
    Calls Try.prog 47 #[.slice a bs.length c, .int .i64 x, .int .i64 n] w fun e w' => ∃ a' c', e = .returned (.slice a' (bs ++ bitsNum true x n).length c') ∧ w'.ownsRow B 4 1 (.slice a' (bs ++ bitsNum true x n).length c') (bs ++ bitsNum true x n).length ((bs ++ bitsNum true x n).map Value.bool) ∧ Ext (fun i => (Value.slice a bs.length c).ownBlock = some i) w w' ∧ (∀ g, a' = some g → (Value.slice a bs.length c).ownBlock = some g.block ∨ w.heap.size ≤ g.block) := by
  have HN := Lib.hid (number_yes x n true w hn hx hxn)
  have HXN := Lib.hid hxn
  clear hxn
  have hlq := bitsNum_length true x n
  obtain ⟨q, hq⟩ : ∃ q, q = bitsNum true x n := ⟨_, rfl⟩
  rw [← hq] at hlq HN ⊢
  have hu : IntKind.u32.wrap (x : Int) = (x : Int) := IntWalk.u32_in _ (by omega)
  have HQ := Lib.hid hlq
  clear hq hlq
  go_enter Try.func47, Try.ntmps47
  go_wp2_with fail
  refine HN.out.mono ?_
  rintro e w1 ⟨na, nc, rfl, hOn, hE1⟩
  have hO1 := own_ext hO hE1 (fun _ _ => id)
  obtain ⟨_, _, hh, h1, _, h3, _⟩ := own_form hOn
  cases hh
  have hnle : na = none → n = 0 ∧ nc = 0 := fun h => by have := h3 h; omega
  have hrow := own_row hOn
  have hB1 : B ≤ w1.heap.size := Nat.le_trans hB hE1.size
  clear HN hu h1 h3 hOn hO
  go_wp2_with (at_builtin; refine wpList_append_fresh rfl (.tmp 16) (.tmp 17) 79 rfl B 4 (.bool false) 1 1 Try.underlying79 infoBool rfl (by decide) _ bs.length (bs.map Value.bool) rfl hO1 na n nc (q.map Value.bool) rfl hnle (by rw [List.length_map, HQ.out, Nat.mul_one]) hrow (bool_one q) (bs.length + n) rfl (bs.map Value.bool ++ q.map Value.bool) rfl (by omega) (by unfold maxLen; omega) hB1 ?_)
  intro a2 c2 w2 hO2 hg2 hfr2
  go_wp2_with fail
  go_ret
  have hl : (bs ++ q).length = bs.length + n := by rw [List.length_append, HQ.out]
  refine ⟨a2, c2, by rw [hl]; rfl, by rw [hl, List.map_append]; exact hO2, hE1.trans' (ext_of_grown hg2) (fun i _ e => e.elim) (fun i _ e => e), fun g hg => ?_⟩
  rcases hfr2 g hg with e | e
  · exact Or.inl e
  · exact Or.inr (Nat.le_trans hE1.size e)

set_option maxRecDepth 100000 in
theorem reffull_any (B : Nat) (bs : List Bool) (a : Option Addr) (c : Nat) (w : World) (hB : B ≤ w.heap.size) (hO : w.ownsRow B 4 1 (.slice a bs.length c) bs.length (bs.map Value.bool)) (hlen : bs.length ≤ 1000000000) :
    Calls Try.prog 48 #[.slice a bs.length c] w fun e w' => ∃ a' c', e = .returned (.slice a' (align bs).length c') ∧ w'.ownsRow B 4 1 (.slice a' (align bs).length c') (align bs).length ((align bs).map Value.bool) ∧ Ext (fun i => (Value.slice a bs.length c).ownBlock = some i) w w' ∧ (∀ g, a' = some g → (Value.slice a bs.length c).ownBlock = some g.block ∨ w.heap.size ≤ g.block) := by
  have hall := align_length bs
  have hal3 : bs.length ≤ (align bs).length := by omega
  have hal4 : (align bs).length ≤ 1000000007 := by omega
  have HAL := Lib.hid hall
  clear hall
  go_enter Try.func48, Try.ntmps48
  go_wp2_with fail
  go_loopw [0] (fun v wi => ∃ (bs' : List Bool) (fa : Option Addr) (fc : Nat), v = .slice fa bs'.length fc ∧ align bs' = align bs ∧ bs'.length ≤ (align bs).length ∧ wi.ownsRow B 4 1 v bs'.length (bs'.map Value.bool) ∧ Ext (fun i => (Value.slice a bs.length c).ownBlock = some i) w wi ∧ (∀ g, fa = some g → (Value.slice a bs.length c).ownBlock = some g.block ∨ w.heap.size ≤ g.block)) (fun v _ => (align bs).length - lenOf v)
  case atStart => exact ⟨bs, a, c, rfl, rfl, hal3, hO, Ext.refl _ _, fun g hg => Or.inl (by rw [hg]; rfl)⟩
  case round =>
    obtain ⟨bs', fa, fc, rfl, hae, hle, hO', hE', hfr'⟩ := hrel
    clear hO
    have hal' := align_length bs'
    rw [hae] at hal'
    by_cases h8 : bs'.length % 8 = 0
    · have h8' : ((bs'.length : Int) % 8 != 0) = false := by simp; omega
      have hnb := (align_done bs' h8).symm.trans hae
      have HNB := Lib.hid hnb
      clear h8 hae hal' hnb
      go_wp2_with fail
      go_ret
      exact ⟨fa, fc, by rw [← HNB.out]; rfl, by rw [← HNB.out]; exact hO', hE', hfr'⟩
    · have h8' : ((bs'.length : Int) % 8 != 0) = true := by simp; omega
      have HA := Lib.hid ((align_step bs' h8).trans hae)
      have hle' : bs'.length + 1 ≤ (align bs).length := by omega
      have hszB := hE'.size
      clear h8 hae hal'
      go_wp2_with (at_builtin; refine wpList_append_fresh rfl (.tmp 7) (.tmp 8) 79 rfl B 4 (.bool false) 1 1 Try.underlying79 infoBool rfl (by decide) _ bs'.length (bs'.map Value.bool) rfl (hO'.alloc _) (some ⟨wr.heap.size, 0, none⟩) 1 1 [.bool false] rfl (fun e => by cases e) rfl (row_at _ rfl rfl) (fun u hu => by simp at hu; subst hu; rfl) (bs'.length + 1) rfl ((bs' ++ [false]).map Value.bool) (by simp) (by omega) (by unfold maxLen; omega) (by simp; omega) ?_)
      intro a2 c2 w7 hO7 hg7 hfr7
      have hg7' := ext_of_grown hg7
      have hE7 := (hE'.pure (ext_alloc _ _)).trans hg7' (fun i hi e => by
        obtain ⟨y, hy, hyg⟩ := own_blk e
        rcases hfr' y hy with e2 | e2
        · rw [e2, hyg]
        · omega)
      go_wp2_with fail
      go_roundw
      case rel =>
        refine ⟨bs' ++ [false], a2, c2, by simp, HA.out, by simpa using hle', by simpa using hO7, hE7, fun g hg => ?_⟩
        rcases hfr7 g hg with e | e
        · obtain ⟨y, hy, hyg⟩ := own_blk e
          rw [← hyg]; exact hfr' y hy
        · exact Or.inr (by omega)
      case measure => simp [lenOf]; omega

set_option maxRecDepth 100000 in
theorem refget_no (bs : List Bool) (a : Option Addr) (c : Nat) (at' n : Nat) (w : World) (hlen : bs.length ≤ 1000000000) (hat : at' ≤ 1000000000000) (hn : n ≤ 32) (hcut : bs.length < at' + n) :
    Calls Try.prog 43 #[.slice a bs.length c, .int .i64 at', .int .i64 n] w fun e w' => e = .returned (.tuple #[.int .i64 0, .bool false]) ∧ w' = w := by
  have h0 : (bs.length : Int) - (at' : Int) < (n : Int) := by omega
  go_enter Try.func43, Try.ntmps43
  go_wp2_with fail
  go_ret2
  exact ⟨rfl, rfl⟩
/-- the number of n bits from a place on -/
def numAt (bs : List Bool) (at' n : Nat) : Nat := num true ((bs.drop at').take n)
theorem numAt_lt (bs : List Bool) (at' n : Nat) : numAt bs at' n < 2 ^ n := by
  have := num_lt true ((bs.drop at').take n)
  exact Nat.lt_of_lt_of_le this (Nat.pow_le_pow_right (by decide) (List.length_take_le _ _))
theorem numAt_lt32 (bs : List Bool) (at' n : Nat) (h : n ≤ 32) : numAt bs at' n < 4294967296 := Nat.lt_of_lt_of_le (numAt_lt bs at' n) (show 2 ^ n ≤ 2 ^ 32 from Nat.pow_le_pow_right (by decide) h)
set_option maxHeartbeats 1000000 in
set_option maxRecDepth 100000 in
theorem refget_yes (bs : List Bool) (a : Option Addr) (c : Nat) (at' n : Nat) (w : World) (hr : RowOf w a (bs.map Value.bool)) (hcap : bs.length ≤ c) (hnil : a = none → c = 0) (hlen : bs.length ≤ 1000000000) (hn : n ≤ 32) (hcut : at' + n ≤ bs.length) :
    Calls Try.prog 43 #[.slice a bs.length c, .int .i64 at', .int .i64 n] w fun e w' => e = .returned (.tuple #[.int .i64 (numAt bs at' n), .bool true]) ∧ w' = w := by
  have h0 : ¬ (bs.length : Int) - (at' : Int) < (n : Int) := by omega
  have hv := numAt_lt32 bs at' n hn
  obtain ⟨v, hvv⟩ : ∃ v, v = numAt bs at' n := ⟨_, rfl⟩
  have hlenS : ((bs.drop at').take n).length = n := by rw [List.length_take, List.length_drop]; omega
  have hrowS : RowOf w (a.map fun x => x.add at') (((bs.drop at').take n).map Value.bool) := by rw [List.map_take, List.map_drop]; exact row_take (row_drop hr at') n
  have HO := refof_any true (a.map fun x => x.add at') (c - at') _ w hrowS (by rw [hlenS]; exact hn)
  rw [hlenS, show num true ((bs.drop at').take n) = v from hvv.symm] at HO
  have HO' := Lib.hid HO
  have HV := Lib.hid hvv
  rw [← hvv] at hv ⊢
  have hsl : at' + n ≤ c := by omega
  clear HO hlenS hrowS hvv
  go_enter Try.func43, Try.ntmps43
  go_wp2_with fail
  · obtain rfl : n = 0 := by omega
    have HO2 := refof_any true a 0 [] w (row_nil _ _) (by simp)
    rw [List.length_nil, show num true [] = v from by rw [HV.out]; unfold numAt; rw [List.take_zero]] at HO2
    refine HO2.mono ?_
    rintro e w6 ⟨rfl, hw6⟩
    obtain rfl := hw6.symm
    clear HO' HO2
    go_wp2_with fail
    go_ret2
    exact ⟨rfl, rfl⟩
  · refine HO'.out.mono ?_
    rintro e w6 ⟨rfl, hw6⟩
    obtain rfl := hw6.symm
    clear HO'
    go_wp2_with fail
    go_ret2
    exact ⟨rfl, rfl⟩
end Go.Proofs.Ytdhejhgpjeenaaa.C26
