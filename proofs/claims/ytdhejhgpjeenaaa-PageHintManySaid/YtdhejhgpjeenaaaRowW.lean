/-
  Walked: row, of objects, of lengths, of counts, and of shared numbers.
-/
import Derived.Test.YtdhejhgpjeenaaaWst
namespace Go.Proofs.Ytdhejhgpjeenaaa
open Go.RowKit C26
set_option linter.unusedVariables false

set_option maxHeartbeats 2000000 in
set_option maxRecDepth 100000 in
theorem row_obj (ad : Option Addr) (c n : Nat) (h : HN) (w0 W : World) (wb : Nat) (bs : List Bool) (HPg : Hid (∀ W, Ext (fun i => i = wb) w0 W → ∀ k, k < n → PageAt W ad h k)) (hn40 : n ≤ 40) (hlst : (HN.above h.os).length = n) (hS : WSt w0 wb bs W) (hlen : bs.length ≤ 1000000) (lob : Nat) (hos : ∀ x ∈ h.os, x ≤ 4096) (hlob : w0.cell? ⟨lob, 0, none⟩ = some (.int .i64 (least h.os : Nat))) (hne : lob ≠ wb) :
    Calls Try.prog 29 #[.pointer (some ⟨wb, 0, none⟩), .slice ad n c, .int .i64 (h.wa : Nat), .func (.func 30) #[] #[.pointer (some ⟨lob, 0, none⟩)]] W (DoneTo w0 wb (align (bs ++ numsB (HN.above h.os) (h.wa)))) := by
  obtain ⟨wv, hwv⟩ : ∃ z, z = h.wa := ⟨_, rfl⟩
  obtain ⟨LS, hls⟩ : ∃ z : List Nat, z = HN.above h.os := ⟨_, rfl⟩
  rw [← hwv, ← hls]
  rw [← hls] at hlst
  have hwl : wv ≤ 32 := by rw [hwv]; exact width_le (fun y hy => by have := hos y hy; omega)
  have HWV := Lib.hid hwv
  have HLS := Lib.hid hls
  have HLL := Lib.hid hlst
  clear hwv hls hlst
  obtain ⟨lo, hlo⟩ : ∃ z, z = least h.os := ⟨_, rfl⟩
  rw [← hlo] at hlob
  have HLO := Lib.hid hlo
  have HLOB := Lib.hid hlob
  clear hlo hlob
  go_enter Try.func29, Try.ntmps29
  go_wp2_with fail
  go_loopw [9, 12] (fun _ i W' => ∃ k : Nat, k ≤ n ∧ i = .int .i64 k ∧ WSt w0 wb (bs ++ numsB (LS.take k) wv) W') (fun _ i _ => n - (intOf i).toNat)
  case atStart => exact ⟨0, Nat.zero_le _, rfl, by simpa [numsB] using hS⟩
  case round =>
    obtain ⟨k, hk, rfl, hT⟩ := hrel
    clear hS
    have hlk2 : (bs ++ numsB (LS.take k) wv).length ≤ 1001280 := by
      rw [List.length_append, numsB_len, List.length_take]
      have : min k LS.length * wv ≤ 40 * 32 := Nat.mul_le_mul (by rw [HLL.out]; omega) hwl
      omega
    by_cases hlt : k < n
    · have hki : (k : Int) < (n : Int) := by omega
      obtain ⟨b, o, on, ln, sa, sc, xs, had, p0, p1, p2, hsub, e0, e1, e2, bo, bl, bs', bx0, bx1, bx2⟩ := HPg.out wr hT.ext k hlt
      subst had
      obtain ⟨xn, hxn⟩ : ∃ z, z = xs.length := ⟨_, rfl⟩
      rw [← hxn] at p2 bx0 bx1
      have hge : lo ≤ on := by rw [HLO.out]; exact least_le (mem_of_at e0)
      have hab : on - lo < 2 ^ wv := by rw [HLO.out, HWV.out]; exact above_lt (mem_of_at e0)
      obtain ⟨d, hdd⟩ : ∃ d, d = on - lo := ⟨_, rfl⟩
      have hd : LS[k]? = some d := by rw [HLS.out, hdd, HLO.out]; exact above_at e0
      have hdi : (on : Int) - (lo : Int) = (d : Int) := by omega
      have hd1 : d < 2 ^ wv := hdd ▸ hab
      have HOf0 := fun W (hP : Pure wr W) => above_obj_any (on : Int) (ln : Int) sa xn sc (lo : Int) lob W ((hT.ext.trans hP (fun _ _ e => e.elim)).cell_some HLOB.out hne) (by omega) (by omega) (by omega)
      rw [hdi] at HOf0
      unfold pageV at HOf0
      have hd2 : d ≤ 2147483647 := by omega
      clear hab hdi hdd
      have HOf := Lib.hid HOf0
      have HS2 : Hid (bs ++ numsB (LS.take k) wv ++ bN d wv = bs ++ numsB (LS.take (k + 1)) wv) := Lib.hid (by rw [numsB_take_at hd, List.append_assoc])
      have HPut := Lib.hid (fun W'' (hP : Pure wr W'') => wsput (hT.later hP) d wv (by omega) hwl (by omega) hd1)
      have hu : IntKind.u32.wrap (d : Int) = (d : Int) := IntWalk.u32_in _ (by omega)
      clear hd hd1 hT hsub e0 e1 e2 bs' hxn hlk2 HOf0
      go_wp2_with fail
      refine (HOf.out _ (ext_alloc wr _)).mono ?_
      rintro e w3 ⟨rfl, hP3⟩
      go_wp2_with fail
      refine (HPut.out _ ((ext_alloc wr _).pure hP3)).mono ?_
      rintro e w4 ⟨rfl, hT4⟩
      rw [HS2.out] at hT4
      clear HPut HOf
      go_wp2_with fail
      go_roundw
      case rel => exact ⟨k + 1, by omega, by go_num, hT4⟩
      case measure => simp [intOf]; omega
    · have hki : ¬ (k : Int) < (n : Int) := by omega
      obtain rfl : n = k := by omega
      have hf : bs ++ numsB (LS.take n) wv = bs ++ numsB LS wv := by rw [List.take_of_length_le (by rw [HLL.out]; omega)]
      rw [hf] at hT hlk2
      have HA := Lib.hid (wsalign hT (by omega))
      clear hf hT
      go_wp2_with fail
      refine HA.out.mono ?_
      rintro e w4 ⟨rfl, hT4⟩
      go_wp2_with fail
      go_end0
      exact ⟨rfl, hT4⟩
set_option maxHeartbeats 2000000 in
set_option maxRecDepth 100000 in
theorem row_len (ad : Option Addr) (c n : Nat) (h : HN) (w0 W : World) (wb : Nat) (bs : List Bool) (HPg : Hid (∀ W, Ext (fun i => i = wb) w0 W → ∀ k, k < n → PageAt W ad h k)) (hn40 : n ≤ 40) (hlst : (HN.above h.ls).length = n) (hS : WSt w0 wb bs W) (hlen : bs.length ≤ 1000000) (lob : Nat) (hos : ∀ x ∈ h.ls, x ≤ 2147483647) (hlob : w0.cell? ⟨lob, 0, none⟩ = some (.int .i64 (least h.ls : Nat))) (hne : lob ≠ wb) :
    Calls Try.prog 29 #[.pointer (some ⟨wb, 0, none⟩), .slice ad n c, .int .i64 (h.wb : Nat), .func (.func 31) #[] #[.pointer (some ⟨lob, 0, none⟩)]] W (DoneTo w0 wb (align (bs ++ numsB (HN.above h.ls) (h.wb)))) := by
  obtain ⟨wv, hwv⟩ : ∃ z, z = h.wb := ⟨_, rfl⟩
  obtain ⟨LS, hls⟩ : ∃ z : List Nat, z = HN.above h.ls := ⟨_, rfl⟩
  rw [← hwv, ← hls]
  rw [← hls] at hlst
  have hwl : wv ≤ 32 := by rw [hwv]; exact width_le (fun y hy => by have := hos y hy; omega)
  have HWV := Lib.hid hwv
  have HLS := Lib.hid hls
  have HLL := Lib.hid hlst
  clear hwv hls hlst
  obtain ⟨lo, hlo⟩ : ∃ z, z = least h.ls := ⟨_, rfl⟩
  rw [← hlo] at hlob
  have HLO := Lib.hid hlo
  have HLOB := Lib.hid hlob
  clear hlo hlob
  go_enter Try.func29, Try.ntmps29
  go_wp2_with fail
  go_loopw [9, 12] (fun _ i W' => ∃ k : Nat, k ≤ n ∧ i = .int .i64 k ∧ WSt w0 wb (bs ++ numsB (LS.take k) wv) W') (fun _ i _ => n - (intOf i).toNat)
  case atStart => exact ⟨0, Nat.zero_le _, rfl, by simpa [numsB] using hS⟩
  case round =>
    obtain ⟨k, hk, rfl, hT⟩ := hrel
    clear hS
    have hlk2 : (bs ++ numsB (LS.take k) wv).length ≤ 1001280 := by
      rw [List.length_append, numsB_len, List.length_take]
      have : min k LS.length * wv ≤ 40 * 32 := Nat.mul_le_mul (by rw [HLL.out]; omega) hwl
      omega
    by_cases hlt : k < n
    · have hki : (k : Int) < (n : Int) := by omega
      obtain ⟨b, o, on, ln, sa, sc, xs, had, p0, p1, p2, hsub, e0, e1, e2, bo, bl, bs', bx0, bx1, bx2⟩ := HPg.out wr hT.ext k hlt
      subst had
      obtain ⟨xn, hxn⟩ : ∃ z, z = xs.length := ⟨_, rfl⟩
      rw [← hxn] at p2 bx0 bx1
      have hge : lo ≤ ln := by rw [HLO.out]; exact least_le (mem_of_at e1)
      have hab : ln - lo < 2 ^ wv := by rw [HLO.out, HWV.out]; exact above_lt (mem_of_at e1)
      obtain ⟨d, hdd⟩ : ∃ d, d = ln - lo := ⟨_, rfl⟩
      have hd : LS[k]? = some d := by rw [HLS.out, hdd, HLO.out]; exact above_at e1
      have hdi : (ln : Int) - (lo : Int) = (d : Int) := by omega
      have hd1 : d < 2 ^ wv := hdd ▸ hab
      have HOf0 := fun W (hP : Pure wr W) => above_len_any (on : Int) (ln : Int) sa xn sc (lo : Int) lob W ((hT.ext.trans hP (fun _ _ e => e.elim)).cell_some HLOB.out hne) (by omega) (by omega) (by omega)
      rw [hdi] at HOf0
      unfold pageV at HOf0
      have hd2 : d ≤ 2147483647 := by omega
      clear hab hdi hdd
      have HOf := Lib.hid HOf0
      have HS2 : Hid (bs ++ numsB (LS.take k) wv ++ bN d wv = bs ++ numsB (LS.take (k + 1)) wv) := Lib.hid (by rw [numsB_take_at hd, List.append_assoc])
      have HPut := Lib.hid (fun W'' (hP : Pure wr W'') => wsput (hT.later hP) d wv (by omega) hwl (by omega) hd1)
      have hu : IntKind.u32.wrap (d : Int) = (d : Int) := IntWalk.u32_in _ (by omega)
      clear hd hd1 hT hsub e0 e1 e2 bs' hxn hlk2 HOf0
      go_wp2_with fail
      refine (HOf.out _ (ext_alloc wr _)).mono ?_
      rintro e w3 ⟨rfl, hP3⟩
      go_wp2_with fail
      refine (HPut.out _ ((ext_alloc wr _).pure hP3)).mono ?_
      rintro e w4 ⟨rfl, hT4⟩
      rw [HS2.out] at hT4
      clear HPut HOf
      go_wp2_with fail
      go_roundw
      case rel => exact ⟨k + 1, by omega, by go_num, hT4⟩
      case measure => simp [intOf]; omega
    · have hki : ¬ (k : Int) < (n : Int) := by omega
      obtain rfl : n = k := by omega
      have hf : bs ++ numsB (LS.take n) wv = bs ++ numsB LS wv := by rw [List.take_of_length_le (by rw [HLL.out]; omega)]
      rw [hf] at hT hlk2
      have HA := Lib.hid (wsalign hT (by omega))
      clear hf hT
      go_wp2_with fail
      refine HA.out.mono ?_
      rintro e w4 ⟨rfl, hT4⟩
      go_wp2_with fail
      go_end0
      exact ⟨rfl, hT4⟩
set_option maxHeartbeats 2000000 in
set_option maxRecDepth 100000 in
theorem row_cnt (ad : Option Addr) (c n : Nat) (h : HN) (w0 W : World) (wb : Nat) (bs : List Bool) (HPg : Hid (∀ W, Ext (fun i => i = wb) w0 W → ∀ k, k < n → PageAt W ad h k)) (hn40 : n ≤ 40) (hlst : (h.counts).length = n) (hS : WSt w0 wb bs W) (hlen : bs.length ≤ 1000000) (hos : ∀ x ∈ h.counts, x ≤ 3000) :
    Calls Try.prog 29 #[.pointer (some ⟨wb, 0, none⟩), .slice ad n c, .int .i64 (h.wc : Nat), .func (.func 20) #[] #[]] W (DoneTo w0 wb (align (bs ++ numsB (h.counts) (h.wc)))) := by
  obtain ⟨wv, hwv⟩ : ∃ z, z = h.wc := ⟨_, rfl⟩
  obtain ⟨LS, hls⟩ : ∃ z : List Nat, z = h.counts := ⟨_, rfl⟩
  rw [← hwv, ← hls]
  rw [← hls] at hlst
  have hwl : wv ≤ 32 := by rw [hwv]; exact wid_le.2 (mx_lt (by decide) (fun y hy => by have := hos y hy; omega))
  have HWV := Lib.hid hwv
  have HLS := Lib.hid hls
  have HLL := Lib.hid hlst
  clear hwv hls hlst
  skip
  go_enter Try.func29, Try.ntmps29
  go_wp2_with fail
  go_loopw [9, 12] (fun _ i W' => ∃ k : Nat, k ≤ n ∧ i = .int .i64 k ∧ WSt w0 wb (bs ++ numsB (LS.take k) wv) W') (fun _ i _ => n - (intOf i).toNat)
  case atStart => exact ⟨0, Nat.zero_le _, rfl, by simpa [numsB] using hS⟩
  case round =>
    obtain ⟨k, hk, rfl, hT⟩ := hrel
    clear hS
    have hlk2 : (bs ++ numsB (LS.take k) wv).length ≤ 1001280 := by
      rw [List.length_append, numsB_len, List.length_take]
      have : min k LS.length * wv ≤ 40 * 32 := Nat.mul_le_mul (by rw [HLL.out]; omega) hwl
      omega
    by_cases hlt : k < n
    · have hki : (k : Int) < (n : Int) := by omega
      obtain ⟨b, o, on, ln, sa, sc, xs, had, p0, p1, p2, hsub, e0, e1, e2, bo, bl, bs', bx0, bx1, bx2⟩ := HPg.out wr hT.ext k hlt
      subst had
      obtain ⟨xn, hxn⟩ : ∃ z, z = xs.length := ⟨_, rfl⟩
      rw [← hxn] at p2 bx0 bx1
      have hab : xn < 2 ^ wv := by rw [hxn, HWV.out]; exact Nat.lt_of_le_of_lt (le_mx (mem_of_at (counts_at e2))) (lt_wid _)
      obtain ⟨d, hdd⟩ : ∃ d, d = xn := ⟨_, rfl⟩
      have hd : LS[k]? = some d := by rw [HLS.out, hdd, hxn]; exact counts_at e2
      have hd1 : d < 2 ^ wv := hdd ▸ hab
      have HOf0 := fun W (hP : Pure wr W) => count_any (on : Int) (ln : Int) sa xn sc W (by omega)
      rw [← hdd] at HOf0 p2 bx0 bx1
      unfold pageV at HOf0
      clear hab hdd
      have HOf := Lib.hid HOf0
      have HS2 : Hid (bs ++ numsB (LS.take k) wv ++ bN d wv = bs ++ numsB (LS.take (k + 1)) wv) := Lib.hid (by rw [numsB_take_at hd, List.append_assoc])
      have HPut := Lib.hid (fun W'' (hP : Pure wr W'') => wsput (hT.later hP) d wv (by omega) hwl (by omega) hd1)
      have hu : IntKind.u32.wrap (d : Int) = (d : Int) := IntWalk.u32_in _ (by omega)
      clear hd hd1 hT hsub e0 e1 e2 bs' hxn hlk2 HOf0
      go_wp2_with fail
      refine (HOf.out _ (ext_alloc wr _)).mono ?_
      rintro e w3 ⟨rfl, hP3⟩
      go_wp2_with fail
      refine (HPut.out _ ((ext_alloc wr _).pure hP3)).mono ?_
      rintro e w4 ⟨rfl, hT4⟩
      rw [HS2.out] at hT4
      clear HPut HOf
      go_wp2_with fail
      go_roundw
      case rel => exact ⟨k + 1, by omega, by go_num, hT4⟩
      case measure => simp [intOf]; omega
    · have hki : ¬ (k : Int) < (n : Int) := by omega
      obtain rfl : n = k := by omega
      have hf : bs ++ numsB (LS.take n) wv = bs ++ numsB LS wv := by rw [List.take_of_length_le (by rw [HLL.out]; omega)]
      rw [hf] at hT hlk2
      have HA := Lib.hid (wsalign hT (by omega))
      clear hf hT
      go_wp2_with fail
      refine HA.out.mono ?_
      rintro e w4 ⟨rfl, hT4⟩
      go_wp2_with fail
      go_end0
      exact ⟨rfl, hT4⟩
end Go.Proofs.Ytdhejhgpjeenaaa
