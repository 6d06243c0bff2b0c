/-
  ShareHintMany: a table of equal lengths has, behind its head, as many bits as lengths, and comes back if there are at most 4096 of them. No condition.
-/
import Derived.Test.YtjnpjkenmkgooaaOpenTab
import Derived.OwnWalk
namespace Go.Proofs.Ytjnpjkenmkgooaa.shareHintMany
open Go.ChangeShapes Go.WideShapes Go.ChangeAt Go.RowKit Go.Proofs.Ytjnpjkenmkgooaa C27
set_option linter.unusedVariables false

theorem fold_same (f : Nat → Nat → Nat) (x : Nat) (h : f x x = x) (n : Nat) : (List.replicate n x).foldl f x = x := by
  induction n with
  | zero => rfl
  | succ n ih => rw [List.replicate_succ, List.foldl_cons, h, ih]
theorem width_same (n x : Nat) : width (List.replicate n x) = 0 := by
  unfold width
  have h : most (List.replicate n x) = least (List.replicate n x) := by
    cases n with
    | zero => rfl
    | succ n => rw [List.replicate_succ]; simp only [most, least]; rw [fold_same max x (Nat.max_self x), fold_same min x (Nat.min_self x)]
  rw [h, Nat.sub_self]; rfl
theorem many_len (n x : Nat) : (pack true (tabB 0 0 n (List.replicate n x) 0 [])).length = 24 + (n + 7) / 8 := by
  have p1l : (part1 0 0 n (List.replicate n x) 0).length = 192 := by
    unfold part1; rw [align_length, List.length_append, headB_len, lensB_len, width_same, Nat.mul_zero]
  rw [tabB_plain, pack_length]
  unfold part2
  rw [align_length, List.length_append, signB_len, p1l, List.length_replicate]
  omega
theorem many_ok {n x : Nat} (hn : n ≤ 4096) (h1 : 1 ≤ x) (h2 : x ≤ 2147483647) : okT 0 0 n (ints (List.replicate n x)) = true := by
  refine okT_true.2 ⟨by omega, by omega, by rw [ints_len, List.length_replicate]; exact hn, by rw [ints_len, List.length_replicate]; omega, ?_⟩
  refine List.any_eq_false.2 fun y hy => ?_
  unfold ints at hy
  rw [List.map_replicate] at hy
  have := (List.mem_replicate.1 hy).2
  subst this
  have h6 : inB (x : Int) 1 2147483647 = true := inB_true.2 ⟨by omega, by omega⟩
  simp [odd, h6]
theorem many_no {n x : Nat} (hn : 4096 < n) : okT 0 0 n (ints (List.replicate n x)) = false := by
  rw [← Bool.not_eq_true]
  intro h
  have := (okT_true.1 h).2.2.1
  rw [ints_len, List.length_replicate] at this
  omega
theorem take_set_succ {α : Type} (xs : List α) (k : Nat) (v : α) (h : k < xs.length) : (xs.set k v).take (k + 1) = xs.take k ++ [v] := by
  rw [List.take_succ_eq_append_getElem (by simpa using h)]
  simp [List.take_set_of_le]

set_option maxHeartbeats 1000000 in
set_option maxRecDepth 100000 in
theorem walk_yes (n x : Nat) (w : World) (hn : n ≤ 5000) (h1 : 1 ≤ x) (h2 : x ≤ 2147483647) :
    Calls Try.prog 7 #[.int .u16 n, .int .i64 x] w fun e w' => e = .returned (.bool true) ∧ Below w.heap.size w w' := by
  obtain ⟨i, hi, hz, hsz, hby⟩ := info_parts infoInt
  have HI := Lib.hid hi
  have HZ := Lib.hid hz
  have HSZ := Lib.hid hsz
  have HBY := Lib.hid hby
  clear hi hz hsz hby
  have g1 : decide ((5000 : Int) < (n : Int)) = false := decide_eq_false (by omega)
  have g2 : decide ((x : Int) < 1) = false := decide_eq_false (by omega)
  have g3 : decide ((2147483647 : Int) < (x : Int)) = false := decide_eq_false (by omega)
  go_enter Try.func7, Try.ntmps7
  go_wp2_with (refine wpList_make_full w rfl (.tmp 25) (.tmp 25) 22 rfl w.heap.size 3 i (.int .i64 0) 1 Try.underlying22 HI.out HZ.out HSZ.out .u16 .u16 (n : Int) (n : Int) n rfl rfl rfl rfl (by rw [HBY.out]; omega) (by unfold maxLen; omega) (Nat.le_refl _) ?_)
  intro w1 hO1 hg1
  have hP1 : Pure w w1 := (ext_of_grown hg1).mono (fun _ _ e => by cases e)
  clear hg1
  have hTB1 := BlockIs.new w1 [.int .i64 0, .int .i64 0, .int .i64 n, .slice (some ⟨w.heap.size, 0, none⟩) n n] 24
  have hO2 := hO1.alloc (.cells #[.int .i64 0, .int .i64 0, .int .i64 n, .slice (some ⟨w.heap.size, 0, none⟩) n n] 24)
  have hP2 := hP1.pure (ext_alloc w1 (.cells #[.int .i64 0, .int .i64 0, .int .i64 n, .slice (some ⟨w.heap.size, 0, none⟩) n n] 24))
  have hlt : w.heap.size < w1.heap.size := (hO1.lt _ rfl).2
  clear hO1 hP1
  go_wp2_with fail
  obtain ⟨tb, htb⟩ : ∃ tb, tb = w1.heap.size := ⟨_, rfl⟩
  rw [← htb]
  rw [← htb] at hTB1 hlt
  clear htb
  generalize w1.alloc (.cells #[.int .i64 0, .int .i64 0, .int .i64 n, .slice (some ⟨w.heap.size, 0, none⟩) n n] 24) = w2 at *
  obtain ⟨wo, hwo⟩ : ∃ W : World, W = w2 := ⟨_, rfl⟩
  rw [← hwo] at hP2
  clear g1 g2 g3
  go_loopw [6] (fun i wr => ∃ (k : Nat) (xs : List Value), k ≤ n ∧ i = .int .i64 k ∧ Hid (xs.take k = List.replicate k (numV x)) ∧ wr.ownsRow w.heap.size 3 1 (.slice (some ⟨w.heap.size, 0, none⟩) n n) n xs ∧ BlockIs wr tb [.int .i64 0, .int .i64 0, .int .i64 n, .slice (some ⟨w.heap.size, 0, none⟩) n n] 24 ∧ Ext (fun i => i = w.heap.size) wo wr) (fun i _ => n - (intOf i).toNat)
  case atStart => exact ⟨0, _, Nat.zero_le _, rfl, Lib.hid (by simp), hO2, hTB1, hwo ▸ Ext.refl _ _⟩
  case round =>
    obtain ⟨k, xs, hk, rfl, HX, hO, hTB, hE⟩ := hrel
    clear hO2 hTB1 hwo
    have t3 : wr.cell? ⟨tb, 0 + 3, none⟩ = some (.slice (some ⟨w.heap.size, 0, none⟩) n n) := hTB.cell 3
    by_cases hlt2 : k < n
    · have hki : (k : Int) < (n : Int) := by omega
      obtain ⟨g, hg, _, ⟨y, hy⟩, hf, hO'⟩ := own_set hO k hlt2 (numV x)
      cases hg
      have hxl : xs.length = n := by have := hO.1; omega
      have HX' : Hid ((xs.set k (numV x)).take (k + 1) = List.replicate (k + 1) (numV x)) := Lib.hid (by rw [take_set_succ xs k _ (by omega), HX.out, List.replicate_succ'])
      have hTB' := hTB.setOther (p := ⟨w.heap.size, k, none⟩) (by simp only; omega) (numV x)
      have hE' := hE.setCell (p := ⟨w.heap.size, k, none⟩) (fun _ => rfl) (numV x)
      clear hO hTB hE
      go_wp2_with fail
      go_roundw
      case rel => exact ⟨k + 1, xs.set k (numV x), by omega, by go_num, HX', hO', hTB', hE'⟩
      case measure => simp [intOf]; omega
    · have hki : ¬ (k : Int) < (n : Int) := by omega
      obtain rfl : n = k := by omega
      have hxs : xs = (List.replicate n x).map intV := by
        have hxl : xs.length = n := by have := hO.1; omega
        have := HX.out
        rw [List.take_of_length_le (by omega)] at this
        rw [this, List.map_replicate]; rfl
      have hRow : RowOf wr (some ⟨w.heap.size, 0, none⟩) ((List.replicate n x).map intV) := hxs ▸ own_row hO
      have hQ : Pure w wr := hP2.trans hE (fun i hi e => by have e' : i = w.heap.size := e; omega)
      have hlr : (List.replicate n x).length = n := List.length_replicate
      clear hxs HX hO hE hP2
      have t0 : wr.cell? ⟨tb, 0, none⟩ = some (.int .i64 0) := hTB.cell 0
      have t1 : wr.cell? ⟨tb, 0 + 1, none⟩ = some (.int .i64 0) := hTB.cell 1
      have t2 : wr.cell? ⟨tb, 0 + 2, none⟩ = some (.int .i64 n) := hTB.cell 2
      have HTo0 := fun (W : World) => to_any 0 0 (n : Int) (some ⟨w.heap.size, 0, none⟩) n n W
      unfold tblV at HTo0
      have HTo := Lib.hid HTo0
      clear HTo0
      by_cases h4 : n ≤ 4096
      · have hok := many_ok (n := n) h4 h1 h2
        obtain ⟨P, hPP⟩ : ∃ P, P = pack true (tabB 0 0 n (List.replicate n x) 0 []) := ⟨_, rfl⟩
        obtain ⟨q, hq⟩ : ∃ q, q = (n + 7) / 8 := ⟨_, rfl⟩
        obtain ⟨m, hm⟩ : ∃ m, m = P.length := ⟨_, rfl⟩
        have hmq : m = 24 + q := by rw [hm, hPP, many_len, hq]
        have HEn0 : ∀ W, Pure wr W → Calls Try.prog 9 #[.agg #[.int .i64 0, .int .i64 0, .int .i64 n, .slice (some ⟨w.heap.size, 0, none⟩) n n]] W (EncRes (tabB 0 0 n (List.replicate n x) 0 []) W) := fun W hP => by
          have h := encode_yes 0 0 n (some ⟨w.heap.size, 0, none⟩) n (List.replicate n x) W (hRow.ext hP (fun _ _ => id)) hok
          rw [hlr] at h
          exact h
        unfold EncRes at HEn0
        have HDe0 : ∀ (ra : Option Addr) (rc : Nat) W, Bytes W ra P → (ra = none → rc = 0) → P.length ≤ rc → Calls Try.prog 13 #[.slice ra P.length rc] W (fun e w' => ∃ (la : Option Addr) (lc : Nat), e = .returned (.tuple #[.agg #[.int .i64 0, .int .i64 0, .int .i64 n, .slice la n lc], .int .i64 (m : Nat), .int .i64 0]) ∧ RowOf w' la ((List.replicate n x).map intV) ∧ Pure W w') := fun ra rc W a1 a2 a3 => by
          refine (decode_tab (o := 0) (a := 0) (f := n) (ls := List.replicate n x) (groups := 0) (signed := []) [] ra rc P (by rw [List.append_nil]; exact hPP) W hok (by decide) a1 a2 a3 (by omega)).mono ?_
          rintro e w' ⟨lb, ld, he, b1, b2, b3, b4⟩
          rw [hlr, ← hPP, ← hm] at he
          exact ⟨lb, ld, he, b1, b4⟩
        have HSa0 : ∀ W (lb : Option Addr) (ld : Nat), Ext (fun _ => False) wr W → RowOf W lb ((List.replicate n x).map intV) → Calls Try.prog 15 #[.agg #[.int .i64 0, .int .i64 0, .int .i64 n, .slice lb n ld], .agg #[.int .i64 0, .int .i64 0, .int .i64 n, .slice (some ⟨w.heap.size, 0, none⟩) n n]] W (SameRes true W) := fun W lb ld hP h1 => by
          have h := refsame_any 0 0 n lb ld (ints (List.replicate n x)) 0 0 n (some ⟨w.heap.size, 0, none⟩) n (ints (List.replicate n x)) W (row_ints h1) (row_ints (hRow.ext hP (fun _ _ => id))) (by rw [ints_len, hlr]; omega) (by rw [ints_len, hlr]; omega)
          rw [ints_len, hlr, alike_refl] at h
          exact h
        have HOf0 := fun lb ld (W : World) => of_any 0 0 (n : Int) lb n ld W
        unfold tblV at HOf0
        rw [← hPP, ← hm] at HEn0
        rw [← hm] at HDe0
        have HEn := Lib.hid HEn0
        have HDe := Lib.hid HDe0
        have HSa := Lib.hid HSa0
        have HOf := Lib.hid HOf0
        have h4i : decide ((4096 : Int) < (n : Int)) = false := decide_eq_false (by omega)
        have hw1 : IntKind.i64.wrap ((n : Int) + 7) = (n : Int) + 7 := IntWalk.i64_in _ (by omega)
        have hw2 : ((n : Int) + 7).tdiv 8 = (q : Int) := by rw [Int.tdiv_eq_ediv_of_nonneg (by omega)]; omega
        have hw6 : ((n : Int) + 7) / 8 = (q : Int) := by omega
        have hw3 : IntKind.i64.wrap (q : Int) = (q : Int) := IntWalk.i64_in _ (by omega)
        have hw4 : IntKind.i64.wrap (24 + (q : Int)) = 24 + (q : Int) := IntWalk.i64_in _ (by omega)
        have hw5 : ((m : Int) == 24 + (q : Int)) = true := by simp; omega
        clear HEn0 HDe0 HSa0 HOf0 hok hRow hlr h4 hmq hq hPP
        have HM := Lib.hid hm
        clear hm
        go_wp2_with fail
        refine (HTo.out _).mono ?_
        rintro e w3 ⟨rfl, hP3⟩
        go_wp2_with fail
        refine (HEn.out _ hP3).mono ?_
        rintro e w4 ⟨ra, rc, rfl, hN⟩
        have hP4 := hP3.pure hN.ext
        have HD := Lib.hid (HDe.out ra rc w4 hN.bytes hN.nil (by rw [HM.out]; exact hN.le))
        clear HDe HEn hP3 hN
        go_wp2_with fail
        refine HD.out.mono ?_
        rintro e w5 ⟨lb, ld, rfl, hR5, hP5⟩
        have hTT := BlockIs.new w5 [.int .i64 0, .int .i64 0, .int .i64 n, .slice lb n ld] 30
        have hP6 := (hP4.pure hP5).pure (ext_alloc w5 (.cells #[.int .i64 0, .int .i64 0, .int .i64 n, .slice lb n ld] 30))
        have hR6 := hR5.ext (ext_alloc w5 (.cells #[.int .i64 0, .int .i64 0, .int .i64 n, .slice lb n ld] 30)) (fun _ _ => id)
        have hTB6 := hTB.ext hP6 id
        clear HD hR5 hP5 hP4 hTB t0 t1 t2 t3
        go_wp2_with fail
        obtain ⟨ub, hub⟩ : ∃ ub, ub = w5.heap.size := ⟨_, rfl⟩
        rw [← hub]
        rw [← hub] at hTT
        clear hub
        generalize w5.alloc (.cells #[.int .i64 0, .int .i64 0, .int .i64 n, .slice lb n ld] 30) = w6 at *
        have d0 : w6.drew.cell? ⟨ub, 0, none⟩ = some (.int .i64 0) := hTT.cell 0
        have d1 : w6.drew.cell? ⟨ub, 0 + 1, none⟩ = some (.int .i64 0) := hTT.cell 1
        have d2 : w6.drew.cell? ⟨ub, 0 + 2, none⟩ = some (.int .i64 n) := hTT.cell 2
        have d3 : w6.drew.cell? ⟨ub, 0 + 3, none⟩ = some (.slice lb n ld) := hTT.cell 3
        have x0 : w6.drew.cell? ⟨tb, 0, none⟩ = some (.int .i64 0) := hTB6.cell 0
        have x1 : w6.drew.cell? ⟨tb, 0 + 1, none⟩ = some (.int .i64 0) := hTB6.cell 1
        have x2 : w6.drew.cell? ⟨tb, 0 + 2, none⟩ = some (.int .i64 n) := hTB6.cell 2
        have x3 : w6.drew.cell? ⟨tb, 0 + 3, none⟩ = some (.slice (some ⟨w.heap.size, 0, none⟩) n n) := hTB6.cell 3
        have k0 := fun w' (hS : Ext (fun _ => False) w6.drew w') => hS.cell_some d0 id
        have k1 := fun w' (hS : Ext (fun _ => False) w6.drew w') => hS.cell_some d1 id
        have k2 := fun w' (hS : Ext (fun _ => False) w6.drew w') => hS.cell_some d2 id
        have k3 := fun w' (hS : Ext (fun _ => False) w6.drew w') => hS.cell_some d3 id
        have l0 := fun w' (hS : Ext (fun _ => False) w6.drew w') => hS.cell_some x0 id
        have l1 := fun w' (hS : Ext (fun _ => False) w6.drew w') => hS.cell_some x1 id
        have l2 := fun w' (hS : Ext (fun _ => False) w6.drew w') => hS.cell_some x2 id
        have l3 := fun w' (hS : Ext (fun _ => False) w6.drew w') => hS.cell_some x3 id
        have hR6d : RowOf w6.drew lb ((List.replicate n x).map intV) := hR6.ext ((Ext.refl (fun _ => False) w6).drew) (fun _ _ => id)
        have hu16 : IntKind.i64.wrap (n : Int) = (n : Int) := IntWalk.i64_in _ (by omega)
        refine region_start (fun _ => False) (by kernel_rfl) ?_
        try simp only [Act.put, List.setIfInBounds_toArray, List.set_cons_zero, List.set_cons_succ]
        refine region_take 0 63 (v := ?vmz0) rfl rfl (by kernel_rfl) (by kernel_rfl) (by kernel_rfl) (fun _ _ _ h => h) (by rfl) (fun w' hS => ?hmz0) ?rmz0
        case hmz0 => go_simp; with_reducible rfl
        try simp only [Act.put, List.setIfInBounds_toArray, List.set_cons_zero, List.set_cons_succ]
        refine region_take 1 64 (v := ?vmz1) rfl rfl (by kernel_rfl) (by kernel_rfl) (by kernel_rfl) (fun _ _ _ h => h) (by rfl) (fun w' hS => ?hmz1) ?rmz1
        case hmz1 => go_simp; with_reducible rfl
        try simp only [Act.put, List.setIfInBounds_toArray, List.set_cons_zero, List.set_cons_succ]
        refine region_take 2 65 (v := ?vmz2) rfl rfl (by kernel_rfl) (by kernel_rfl) (by kernel_rfl) (fun _ _ _ h => h) (by rfl) (fun w' hS => ?hmz2) ?rmz2
        case hmz2 => go_simp; with_reducible rfl
        try simp only [Act.put, List.setIfInBounds_toArray, List.set_cons_zero, List.set_cons_succ]
        refine region_take 3 66 (v := ?vmz3) rfl rfl (by kernel_rfl) (by kernel_rfl) (by kernel_rfl) (fun _ _ _ h => h) (by rfl) (fun w' hS => ?hmz3) ?rmz3
        case hmz3 => go_simp; with_reducible rfl
        try simp only [Act.put, List.setIfInBounds_toArray, List.set_cons_zero, List.set_cons_succ]
        refine region_take 4 67 (v := ?vmz4) rfl rfl (by kernel_rfl) (by kernel_rfl) (by kernel_rfl) (fun _ _ _ h => h) (by rfl) (fun w' hS => ?hmz4) ?rmz4
        case hmz4 => go_simp; with_reducible rfl
        try simp only [Act.put, List.setIfInBounds_toArray, List.set_cons_zero, List.set_cons_succ]
        refine region_take 5 68 (v := ?vmz5) rfl rfl (by kernel_rfl) (by kernel_rfl) (by kernel_rfl) (fun _ _ _ h => h) (by rfl) (fun w' hS => ?hmz5) ?rmz5
        case hmz5 => go_simp; with_reducible rfl
        try simp only [Act.put, List.setIfInBounds_toArray, List.set_cons_zero, List.set_cons_succ]
        refine region_take 6 69 (v := ?vmz6) rfl rfl (by kernel_rfl) (by kernel_rfl) (by kernel_rfl) (fun _ _ _ h => h) (by rfl) (fun w' hS => ?hmz6) ?rmz6
        case hmz6 => go_simp; with_reducible rfl
        try simp only [Act.put, List.setIfInBounds_toArray, List.set_cons_zero, List.set_cons_succ]
        refine region_take 7 70 (v := ?vmz7) rfl rfl (by kernel_rfl) (by kernel_rfl) (by kernel_rfl) (fun _ _ _ h => h) (by rfl) (fun w' hS => ?hmz7) ?rmz7
        case hmz7 => go_simp; with_reducible rfl
        try simp only [Act.put, List.setIfInBounds_toArray, List.set_cons_zero, List.set_cons_succ]
        refine region_take 8 71 (v := ?vmz8) rfl rfl (by kernel_rfl) (by kernel_rfl) (by kernel_rfl) (fun _ _ _ h => h) (by rfl) (fun w' hS => ?hmz8) ?rmz8
        case hmz8 => go_simp; with_reducible rfl
        try simp only [Act.put, List.setIfInBounds_toArray, List.set_cons_zero, List.set_cons_succ]
        refine region_take 9 72 (v := ?vmz9) rfl rfl (by kernel_rfl) (by kernel_rfl) (by kernel_rfl) (fun _ _ _ h => h) (by rfl) (fun w' hS => ?hmz9) ?rmz9
        case hmz9 => go_simp; with_reducible rfl
        try simp only [Act.put, List.setIfInBounds_toArray, List.set_cons_zero, List.set_cons_succ]
        refine region_take 10 73 (v := ?vmz10) rfl rfl (by kernel_rfl) (by kernel_rfl) (by kernel_rfl) (fun _ _ _ h => h) (by rfl) (fun w' hS => ?hmz10) ?rmz10
        case hmz10 => go_simp; with_reducible rfl
        try simp only [Act.put, List.setIfInBounds_toArray, List.set_cons_zero, List.set_cons_succ]
        refine region_take 11 74 (v := ?vmz11) rfl rfl (by kernel_rfl) (by kernel_rfl) (by kernel_rfl) (fun _ _ _ h => h) (by rfl) (fun w' hS => ?hmz11) ?rmz11
        case hmz11 => go_simp; with_reducible rfl
        try simp only [Act.put, List.setIfInBounds_toArray, List.set_cons_zero, List.set_cons_succ]
        refine region_take 12 75 (v := ?vmz12) rfl rfl (by kernel_rfl) (by kernel_rfl) (by kernel_rfl) (fun _ _ _ h => h) (by rfl) (fun w' hS => ?hmz12) ?rmz12
        case hmz12 => go_simp; with_reducible rfl
        try simp only [Act.put, List.setIfInBounds_toArray, List.set_cons_zero, List.set_cons_succ]
        refine region_take 13 76 (v := ?vmz13) rfl rfl (by kernel_rfl) (by kernel_rfl) (by kernel_rfl) (fun _ _ _ h => h) (by rfl) (fun w' hS => ?hmz13) ?rmz13
        case hmz13 => go_simp; with_reducible rfl
        try simp only [Act.put, List.setIfInBounds_toArray, List.set_cons_zero, List.set_cons_succ]
        refine region_take 14 77 (v := ?vmz14) rfl rfl (by kernel_rfl) (by kernel_rfl) (by kernel_rfl) (fun _ _ _ h => h) (by rfl) (fun w' hS => ?hmz14) ?rmz14
        case hmz14 => go_simp; with_reducible rfl
        try simp only [Act.put, List.setIfInBounds_toArray, List.set_cons_zero, List.set_cons_succ]
        refine region_take 15 78 (v := ?vmz15) rfl rfl (by kernel_rfl) (by kernel_rfl) (by kernel_rfl) (fun _ _ _ h => h) (by rfl) (fun w' hS => ?hmz15) ?rmz15
        case hmz15 => go_simp; with_reducible rfl
        try simp only [Act.put, List.setIfInBounds_toArray, List.set_cons_zero, List.set_cons_succ]
        refine region_take 16 79 (v := ?vmz16) rfl rfl (by kernel_rfl) (by kernel_rfl) (by kernel_rfl) (fun _ _ _ h => h) (by rfl) (fun w' hS => ?hmz16) ?rmz16
        case hmz16 => go_simp; with_reducible rfl
        try simp only [Act.put, List.setIfInBounds_toArray, List.set_cons_zero, List.set_cons_succ]
        refine region_take 17 80 (v := ?vmz17) rfl rfl (by kernel_rfl) (by kernel_rfl) (by kernel_rfl) (fun _ _ _ h => h) (by rfl) (fun w' hS => ?hmz17) ?rmz17
        case hmz17 => go_simp; with_reducible rfl
        try simp only [Act.put, List.setIfInBounds_toArray, List.set_cons_zero, List.set_cons_succ]
        refine region_take 18 81 (v := ?vmz18) rfl rfl (by kernel_rfl) (by kernel_rfl) (by kernel_rfl) (fun _ _ _ h => h) (by rfl) (fun w' hS => ?hmz18) ?rmz18
        case hmz18 => go_simp; with_reducible rfl
        try simp only [Act.put, List.setIfInBounds_toArray, List.set_cons_zero, List.set_cons_succ]
        refine region_take 19 82 (v := ?vmz19) rfl rfl (by kernel_rfl) (by kernel_rfl) (by kernel_rfl) (fun _ _ _ h => h) (by rfl) (fun w' hS => ?hmz19) ?rmz19
        case hmz19 => go_simp; with_reducible rfl
        try simp only [Act.put, List.setIfInBounds_toArray, List.set_cons_zero, List.set_cons_succ]
        refine region_take 20 83 (v := ?vmz20) rfl rfl (by kernel_rfl) (by kernel_rfl) (by kernel_rfl) (fun _ _ _ h => h) (by rfl) (fun w' hS => ?hmz20) ?rmz20
        case hmz20 => go_simp; with_reducible rfl
        try simp only [Act.put, List.setIfInBounds_toArray, List.set_cons_zero, List.set_cons_succ]
        refine region_take 21 84 (v := ?vmz21) rfl rfl (by kernel_rfl) (by kernel_rfl) (by kernel_rfl) (fun _ _ _ h => h) (by rfl) (fun w' hS => ?hmz21) ?rmz21
        case hmz21 => go_simp; with_reducible rfl
        try simp only [Act.put, List.setIfInBounds_toArray, List.set_cons_zero, List.set_cons_succ]
        refine region_take 22 85 (v := ?vmz22) rfl rfl (by kernel_rfl) (by kernel_rfl) (by kernel_rfl) (fun _ _ _ h => h) (by rfl) (fun w' hS => ?hmz22) ?rmz22
        case hmz22 => go_simp; with_reducible rfl
        try simp only [Act.put, List.setIfInBounds_toArray, List.set_cons_zero, List.set_cons_succ]
        refine region_take 23 86 (v := ?vmz23) rfl rfl (by kernel_rfl) (by kernel_rfl) (by kernel_rfl) (fun _ _ _ h => h) (by rfl) (fun w' hS => ?hmz23) ?rmz23
        case hmz23 => go_simp; with_reducible rfl
        try simp only [Act.put, List.setIfInBounds_toArray, List.set_cons_zero, List.set_cons_succ]
        refine region_take 25 88 (v := ?vmz25) rfl rfl (by kernel_rfl) (by kernel_rfl) (by kernel_rfl) (fun _ _ _ h => h) (by rfl) (fun w' hS => ?hmz25) ?rmz25
        case hmz25 => go_simp; with_reducible rfl
        try simp only [Act.put, List.setIfInBounds_toArray, List.set_cons_zero, List.set_cons_succ]
        refine wpAnyH_ready (rs := [24]) (by kernel_rfl) (by simp) (AllReadyH.cons rfl (fun K hK => ?_) AllReadyH.nil)
        go_simp
        refine (HOf.out lb ld _).mono ?_
        rintro e w7 ⟨rfl, hP7⟩
        refine hK.out _ _ (hP7) (fun hHeld => ?_)
        clear hK K hHeld
        refine region_now (hP7) ?_
        try simp only [Act.put, List.setIfInBounds_toArray, List.set_cons_zero, List.set_cons_succ]
        refine wpAnyH_ready (rs := [26]) (by kernel_rfl) (by simp) (AllReadyH.cons rfl (fun K hK => ?_) AllReadyH.nil)
        go_simp
        refine (HSa.out _ lb ld (hP6.drew.pure hP7) (hR6d.ext hP7 (fun _ _ => id))).mono ?_
        rintro e w8 ⟨rfl, hP8⟩
        refine hK.out _ _ (hP8) (fun hHeld => ?_)
        clear hK K hHeld
        refine region_now (hP8) ?_
        try simp only [Act.put, List.setIfInBounds_toArray, List.set_cons_zero, List.set_cons_succ]
        refine region_take 27 90 (v := ?vmz27) rfl rfl (by kernel_rfl) (by kernel_rfl) (by kernel_rfl) (fun _ _ _ h => h) (by rfl) (fun w' hS => ?hmz27) ?rmz27
        case hmz27 => go_simp; with_reducible rfl
        try simp only [Act.put, List.setIfInBounds_toArray, List.set_cons_zero, List.set_cons_succ]
        refine region_take 28 91 (v := ?vmz28) rfl rfl (by kernel_rfl) (by kernel_rfl) (by kernel_rfl) (fun _ _ _ h => h) (by rfl) (fun w' hS => ?hmz28) ?rmz28
        case hmz28 => go_simp; with_reducible rfl
        try simp only [Act.put, List.setIfInBounds_toArray, List.set_cons_zero, List.set_cons_succ]
        refine wpAnyH_ready (rs := [29]) (by kernel_rfl) (by simp) (AllReadyH.cons rfl (fun K hK => ?_) AllReadyH.nil)
        go_simp
        refine (works_any _).mono ?_
        rintro e w9 ⟨rfl, hP9⟩
        refine hK.out _ _ (hP9) (fun hHeld => ?_)
        clear hK K hHeld
        refine region_now (hP9) ?_
        try simp only [Act.put, List.setIfInBounds_toArray, List.set_cons_zero, List.set_cons_succ]
        refine region_take 30 93 (v := ?vmz30) rfl rfl (by kernel_rfl) (by kernel_rfl) (by kernel_rfl) (fun _ _ _ h => h) (by rfl) (fun w' hS => ?hmz30) ?rmz30
        case hmz30 => go_simp; with_reducible rfl
        try simp only [Act.put, List.setIfInBounds_toArray, List.set_cons_zero, List.set_cons_succ]
        refine region_take 31 4 (v := ?vmz31) rfl rfl (by kernel_rfl) (by kernel_rfl) (by kernel_rfl) (fun _ _ _ h => h) (by rfl) (fun w' hS => ?hmz31) ?rmz31
        case hmz31 => go_simp; with_reducible rfl
        try simp only [Act.put, List.setIfInBounds_toArray, List.set_cons_zero, List.set_cons_succ]
        refine wpAnyH_done (by kernel_rfl) ?_ _
        clear hw1 hw2 hw3 hw4 hw5 hw6 hu16
        go_wp2_with fail
        go_ret
        exact ⟨rfl, ((((hQ.pure hP6).drew.pure hP7).pure hP8).pure hP9).below⟩
      · have hok := many_no (n := n) (x := x) (by omega)
        have HEn0 := fun (W : World) (hP : Pure wr W) => encode_no 0 0 (n : Int) (some ⟨w.heap.size, 0, none⟩) n (ints (List.replicate n x)) W (row_ints (hRow.ext hP (fun _ _ => id))) (by rw [ints_len, hlr]; omega) hok
        rw [ints_len, hlr] at HEn0
        unfold tblV at HEn0
        have HEn := Lib.hid HEn0
        have h4i : decide ((4096 : Int) < (n : Int)) = true := decide_eq_true (by omega)
        clear HEn0 hok hRow hlr h4
        go_wp2_with fail
        refine (HTo.out _).mono ?_
        rintro e w3 ⟨rfl, hP3⟩
        go_wp2_with fail
        refine (HEn.out _ hP3).mono ?_
        rintro e w4 ⟨rfl, hP4⟩
        go_wp2_with fail
        refine (works_any _).mono ?_
        rintro e w5 ⟨rfl, hP5⟩
        go_wp2_with fail
        go_ret
        exact ⟨rfl, (((hQ.pure hP3).pure hP4).pure hP5).below⟩
set_option maxRecDepth 100000 in
theorem walk_no (n x : Int) (w : World) (h0 : 0 ≤ n) (hn : n ≤ 65535) (h : 5000 < n ∨ x < 1 ∨ 2147483647 < x) :
    Calls Try.prog 7 #[.int .u16 n, .int .i64 x] w fun e w' => e = .returned (.bool true) ∧ Below w.heap.size w w' := by
  by_cases h1 : 5000 < n
  · go_enter Try.func7, Try.ntmps7
    go_wp2_with fail
    refine (works_any _).mono ?_
    rintro e w2 ⟨rfl, hP⟩
    go_wp2_with fail
    go_ret
    exact ⟨rfl, hP.below⟩
  · by_cases h2 : x < 1
    · go_enter Try.func7, Try.ntmps7
      go_wp2_with fail
      refine (works_any _).mono ?_
      rintro e w2 ⟨rfl, hP⟩
      go_wp2_with fail
      go_ret
      exact ⟨rfl, hP.below⟩
    · have h3 : 2147483647 < x := by omega
      clear h
      go_enter Try.func7, Try.ntmps7
      go_wp2_with fail
      refine (works_any _).mono ?_
      rintro e w2 ⟨rfl, hP⟩
      go_wp2_with fail
      go_ret
      exact ⟨rfl, hP.below⟩
theorem walk (n x : Int) (w : World) (h0 : 0 ≤ n) (hn : n ≤ 65535) :
    Calls Try.prog 7 #[.int .u16 n, .int .i64 x] w fun e w' => e = .returned (.bool true) ∧ Below w.heap.size w w' := by
  by_cases h : 5000 < n ∨ x < 1 ∨ 2147483647 < x
  · exact walk_no n x w h0 hn h
  · have key := walk_yes n.toNat x.toNat w (by omega) (by omega) (by omega)
    rw [show (n.toNat : Int) = n from by omega, show (x.toNat : Int) = x from by omega] at key
    exact key

theorem lifted (os : Os) (started : os.Started) (H : Type) (enc : TypeId × Value → H) :
    ReturnsInHanded {} Try.checked os 7 .any (Rows.shareHintManySpec.pre6 enc Try.prog Try.f7 Rows.shareHintManyRow.domain false) (Rows.shareHintManySpec.post enc Try.prog Try.f7 false true false false) := by
  refine returnsInHanded_of_change (C := Try.checked) own started (by kernel_rfl) Try.func7
    (ChangeSpec.witness6 (enc := enc) (C := Try.checked) false ⟨#[], #[.int .u16 0, .int .i64 0], []⟩ 8 (by kernel_rfl) (by kernel_rfl) (by kernel_rfl) (by kernel_rfl)) ?_
  intro W base args ds gs before hval0 hW hcnd _
  have hval : ∀ (j : Nat) t v, Try.f7.params[j]? = some t → args[j]? = some v → Value.okWide Try.prog W .any base t v := hval0
  have hW' := hW
  obtain ⟨p, q, hA0, hV, rfl, hfz, hnd⟩ := hW
  have hA : DataW.TrodAll enc Try.prog W 0 (fun _ => true) true Try.f7.params.toList args.toList ds p := hA0
  rw [Try.params7] at hA hval
  obtain ⟨v0, vs0, d0, ds0, p0, q0, hargs, rfl, rfl, h0, r0⟩ := trodAll_cons hA
  obtain ⟨v1, vs1, d1, ds1, p1, q1, rfl, rfl, rfl, h1, r1⟩ := trodAll_cons r0
  obtain ⟨rfl, rfl, rfl⟩ := trodAll_nil r1
  obtain rfl : args = #[v0, v1] := by cases args; simp_all
  obtain ⟨rfl, rfl⟩ := trodVars_none hV
  have k0 := h0
  have lt0 : ∀ x ∈ p0, x.block < W.heap.size := by obtain ⟨m, hm⟩ := k0; exact DataW.trod_lt m _ _ _ hm
  have k1 := h1
  have lt1 : ∀ x ∈ p1, x.block < W.heap.size := by obtain ⟨m, hm⟩ := k1; exact DataW.trod_lt m _ _ _ hm
  obtain ⟨n, rfl, rfl, rfl, wn⟩ := open_int Try.underlying48 (hval 0 48 v0 rfl rfl) h0
  obtain ⟨x, rfl, rfl, rfl, wx⟩ := open_int Try.underlying3 (hval 1 3 v1 rfl rfl) h1
  clear hA0 hval0
  have hx : 0 ≤ n ∧ n ≤ 65535 := by simpa [Lit.wf, IntKind.min, IntKind.max, IntKind.signed, IntKind.bits] using wn
  refine (walk n x W hx.1 hx.2).mono fun e W' ⟨he, bel⟩ => ?_
  subst he
  exact ⟨_, rfl, _, _, _, [], _, [], hW', trodAll_mk1 (shut_bool Try.underlying4 _), (trodAll_cons_mk (Below.trod laidOut (by kernel_rfl) (of_decide_eq_true (by kernel_rfl)) k0 bel lt0) (trodAll_cons_mk (Below.trod laidOut (by kernel_rfl) (of_decide_eq_true (by kernel_rfl)) k1 bel lt1) trodAll_mk0)), rfl, bel.frame _, fun h => by cases h⟩

theorem proved : Rows.ShareHintManySaid :=
  OpenClaim.holds_of_wide 7 Try.f7 rfl rfl rfl rfl rfl rfl rfl ⟨rfl, rfl, rfl, rfl, rfl⟩ rfl rfl rfl rfl rfl (by kernel_rfl) Try.func7 (by kernel_rfl)
    (of_decide_eq_true (by kernel_rfl)) (by unfold Func.isWrapper; first | (rw [if_pos (by decide +kernel)]; kernel_rfl) | (rw [if_neg (by decide +kernel)]; exact ⟨rfl, rfl⟩))
    (fun os started H enc _ => lifted os started H enc)
#print axioms proved
end Go.Proofs.Ytjnpjkenmkgooaa.shareHintMany
