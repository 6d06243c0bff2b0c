import Derived.Test.YtnpiemcfbnpfdaaGreatShareOfSp
import Derived.Test.YtnpiemcfbnpfdaaGreatSqSp
set_option linter.unusedVariables false
set_option linter.unusedSimpArgs false
set_option maxRecDepth 100000
namespace Go.Proofs.YtnpiemcfbnpfdaaGreat
open Go.RowKit Go.Maps
theorem rows_bad (d : Nat) (l : List Ob) (oa : Option Addr) (oc : Nat) (rws : List (List Value)) (root E : Int) (w : World) (hD : DocOk w d l oa rws root) (hds : ∀ u ∈ l, u.data.size ≤ maxLen) (hE : docE l root = E) (h0 : E ≠ 0) :
 Calls Tryz.prog 7 #[.agg #[.slice oa l.length oc, .int .i64 root]] w (fun e w' => e = .returned (.tuple #[.slice none 0 0, .int .i64 E]) ∧ Pure w w') := by
 have HDo := qh (fun W (hP : Pure w W) => (hE ▸ doc_any d l oa oc rws root W (hD.pure hP) hds : Calls Tryz.prog 16 #[.agg #[.slice oa l.length oc, .int .i64 root]] W (IntTo E W)));obtain ⟨n, hn⟩ : ∃ z, z = l.length := ⟨_, rfl⟩;rw [← hn] at HDo ⊢;obtain ⟨w1, hw1⟩ : ∃ z, z = w.alloc (.cells #[.slice oa n oc, .int .i64 root] 24) := ⟨_, rfl⟩;have HP1 : Hid (Pure w w1) := qh (by rw [hw1]; exact ext_alloc w _);have HW1 := qh hw1.symm;have hb : (E != 0) = true := by simpa using h0
 clear hw1 hn hD hds hE
 go_enter Tryz.func7, Tryz.ntmps7
 go_wp2_with fail
 rw [HW1.out];refine (HDo.out w1 HP1.out).mono ?_;rintro e w2 ⟨rfl, hP2⟩
 go_wp2_with fail
 go_ret2;exact ⟨rfl, HP1.out.pure hP2⟩
set_option maxHeartbeats 2000000 in
theorem split_bad (d : Nat) (l : List Ob) (oa : Option Addr) (oc : Nat) (rws : List (List Value)) (root E : Int) (w : World) (hD : DocOk w d l oa rws root) (hds : ∀ u ∈ l, u.data.size ≤ maxLen) (hE : docE l root = E) (h0 : E ≠ 0) :
 Calls Tryz.prog 10 #[.agg #[.slice oa l.length oc, .int .i64 root]] w (fun e w' => e = .returned (.tuple #[.agg #[.slice none 0 0, .slice none 0 0, .slice none 0 0, .slice none 0 0, .slice none 0 0], .int .i64 E]) ∧ Pure w w') := by
 have HDo := qh (fun W (hP : Pure w W) => rows_bad d l oa oc rws root E W (hD.pure hP) hds hE h0);obtain ⟨n, hn⟩ : ∃ z, z = l.length := ⟨_, rfl⟩;rw [← hn] at HDo ⊢;obtain ⟨w1, hw1⟩ : ∃ z, z = (w.alloc (.cells #[.slice oa n oc, .int .i64 root] 24)).alloc (.cells #[.slice none 0 0, .slice none 0 0, .slice none 0 0, .slice none 0 0, .slice none 0 0] 37) := ⟨_, rfl⟩;have HP1 : Hid (Pure w w1) := qh (by rw [hw1]; exact (ext_alloc w _).pure (ext_alloc _ _));have HB1 : Hid (BlockIs w1 (w.heap.size + 1) [.slice none 0 0, .slice none 0 0, .slice none 0 0, .slice none 0 0, .slice none 0 0] 37) := qh (by
  have := BlockIs.new (w.alloc (.cells #[.slice oa n oc, .int .i64 root] 24)) [.slice none 0 0, .slice none 0 0, .slice none 0 0, .slice none 0 0, .slice none 0 0] 37;rw [World.size_alloc] at this;rw [hw1]; exact this)
 have HW1 := qh hw1.symm;obtain ⟨R, hR⟩ : ∃ z, z = w.heap.size := ⟨_, rfl⟩;rw [← hR] at HB1;have HR := qh hR.symm;have hb : (E != 0) = true := by simpa using h0
 clear hw1 hn hD hds hE hR
 go_enter Tryz.func10, Tryz.ntmps10
 go_wp2_with fail
 rw [HW1.out, HR.out];refine (HDo.out w1 HP1.out).mono ?_;rintro e w2 ⟨rfl, hP2⟩;have HB2 := qh (HB1.out.ext hP2 id);have HP2 := qh (HP1.out.pure hP2);have HTh : Hid (w2.there (R + 1) 0 (#[Value.slice none 0 0, .slice none 0 0, .slice none 0 0, .slice none 0 0, .slice none 0 0] : Array Value).size) := qh (HB2.out.there 5 rfl);have HSi : Hid ((Tryz.prog.info? 37).map (·.size) = some (#[Value.slice none 0 0, .slice none 0 0, .slice none 0 0, .slice none 0 0, .slice none 0 0] : Array Value).size) := qh sizeSP;have HOn : Hid (((#[Value.slice none 0 0, .slice none 0 0, .slice none 0 0, .slice none 0 0, .slice none 0 0] : Array Value).all fun u => u.oneCell') = true) := qh (all_oneCell_toArray (by intro u hu; simp only [List.mem_cons, List.not_mem_nil, or_false] at hu; rcases hu with rfl | rfl | rfl | rfl | rfl <;> rfl))
 clear hP2
 go_wp2_with (with_reducible refine at_store 37 (.tmp 2) (.tmp 15) ?_; refine wpList_store_mid rfl 37 (.tmp 2) (.tmp 15) rfl (R + 1) 0 #[.slice none 0 0, .slice none 0 0, .slice none 0 0, .slice none 0 0, .slice none 0 0] rfl rfl HTh.out HSi.out HOn.out ?_)
 have hB := HB2.out.setAll [.slice none 0 0, .slice none 0 0, .slice none 0 0, .slice none 0 0, .slice none 0 0] rfl;refine bodyPost_ret (results_row2 rfl _ _ (R + 1) _ [.slice none 0 0, .slice none 0 0, .slice none 0 0, .slice none 0 0, .slice none 0 0] _ rfl hB Tryz.underlying37 rfl sizeSP) rfl ?_;exact ⟨rfl, Ext.setCells _ 0 _ HP2.out (b := R + 1) (fun h => by have := HR.out; omega)⟩
theorem split_none (w : World) : Calls Tryz.prog 10 #[.agg #[.slice none 0 0, .int .i64 0]] w (fun e w' => e = .returned (.tuple #[.agg #[.slice none 0 0, .slice none 0 0, .slice none 0 0, .slice none 0 0, .slice none 0 0], .int .i64 23]) ∧ Pure w w') :=
 split_bad 3 [] none 0 [] 0 23 w ⟨⟨rfl, fun r hr => (by cases hr), fun i u hu => (by simp at hu), fun i o r ho => (by cases ho)⟩, by decide, fun u hu => (by cases hu), fun u hu => (by cases hu), by decide⟩ (fun u hu => by cases hu) (by decide +kernel) (by decide)
theorem rows_none (w : World) : Calls Tryz.prog 7 #[.agg #[.slice none 0 0, .int .i64 0]] w (fun e w' => e = .returned (.tuple #[.slice none 0 0, .int .i64 23]) ∧ Pure w w') :=
 rows_bad 3 [] none 0 [] 0 23 w ⟨⟨rfl, fun r hr => (by cases hr), fun i u hu => (by simp at hu), fun i o r ho => (by cases ho)⟩, by decide, fun u hu => (by cases hu), fun u hu => (by cases hu), by decide⟩ (fun u hu => by cases hu) (by decide +kernel) (by decide)
theorem wk_tree : (partsP 9 [2] 1 [[3, 4], [5, 6, 7], [8, 7]]).tree = [1, 2] := by decide +kernel
theorem wk_first : (partsP 9 [2] 1 [[3, 4], [5, 6, 7], [8, 7]]).first = [3, 4] := by decide +kernel
theorem wk_own : (partsP 9 [2] 1 [[3, 4], [5, 6, 7], [8, 7]]).own = [[5, 6], [8]] := by decide +kernel
theorem wk_shared : (partsP 9 [2] 1 [[3, 4], [5, 6, 7], [8, 7]]).shared = [7] := by decide +kernel
theorem wk_others : (partsP 9 [2] 1 [[3, 4], [5, 6, 7], [8, 7]]).others = [9] := by decide +kernel
def wkP : PartsP := ⟨[1, 2], [3, 4], [[5, 6], [8]], [7], [9]⟩
theorem wk_parts : partsP 9 [2] 1 [[3, 4], [5, 6, 7], [8, 7]] = wkP := by
 have h := wk_tree; have h2 := wk_first; have h3 := wk_own; have h4 := wk_shared; have h5 := wk_others
 revert h h2 h3 h4 h5
 generalize partsP 9 [2] 1 [[3, 4], [5, 6, 7], [8, 7]] = p;rintro h1 h2 h3 h4 h5;obtain ⟨a, b, c, d, e⟩ := p;simp only at h1 h2 h3 h4 h5;subst h1 h2 h3 h4 h5
 rfl
theorem ok_new {W : World} {b : Nat} {l : List Int} {T : TypeId} (h : BlockIs W b (intsV l) T) : CRow.ok W ⟨some ⟨b, 0, none⟩, l.length, l⟩ :=
 ⟨fun i u hu => ⟨b, 0, rfl, by rw [Nat.zero_add, h.cell i]; exact hu⟩, fun e => (by cases e), Nat.le_refl _⟩
theorem rows_new {W : World} {b : Nat} {rs : List CRow} {T : TypeId} (h : BlockIs W b (rs.map CRow.v) T) (hq : ∀ q ∈ rs, q.ok W) : Rws W (some ⟨b, 0, none⟩) rs :=
 ⟨fun i u hu => ⟨b, 0, rfl, by rw [Nat.zero_add, h.cell i]; exact hu⟩, fun q hq' => (hq q hq').1⟩
set_option maxHeartbeats 4000000 in
theorem works_any (w : World) : Calls Tryz.prog 6 #[] w (BoolTo true w) := by
 obtain ⟨b, hb⟩ : ∃ z, z = w.heap.size := ⟨_, rfl⟩;obtain ⟨w1, hw1⟩ : ∃ z, z = w.alloc (.cells #[.int .i64 2] 3) := ⟨_, rfl⟩;obtain ⟨w2, hw2⟩ : ∃ z, z = w1.alloc (.cells #[.int .i64 3, .int .i64 4] 3) := ⟨_, rfl⟩;obtain ⟨w3, hw3⟩ : ∃ z, z = w2.alloc (.cells #[.int .i64 5, .int .i64 6, .int .i64 7] 3) := ⟨_, rfl⟩;obtain ⟨w4, hw4⟩ : ∃ z, z = w3.alloc (.cells #[.int .i64 8, .int .i64 7] 3) := ⟨_, rfl⟩;obtain ⟨w5, hw5⟩ : ∃ z, z = w4.alloc (.cells #[.slice (some ⟨b + 1, 0, none⟩) 2 2, .slice (some ⟨b + 1 + 1, 0, none⟩) 3 3, .slice (some ⟨b + 1 + 1 + 1, 0, none⟩) 2 2] 35) := ⟨_, rfl⟩;have s1 : w1.heap.size = b + 1 := by rw [hw1, World.size_alloc, hb]
 have s2 : w2.heap.size = b + 1 + 1 := by rw [hw2, World.size_alloc, s1]
 have s3 : w3.heap.size = b + 1 + 1 + 1 := by rw [hw3, World.size_alloc, s2]
 have s4 : w4.heap.size = b + 1 + 1 + 1 + 1 := by rw [hw4, World.size_alloc, s3]
 have B1 : BlockIs w5 b (intsV [2]) 3 := by
  have h := BlockIs.new w [.int .i64 2] 3;rw [hw5, hw4, hw3, hw2, hw1, hb];exact (((h.alloc _).alloc _).alloc _).alloc _
 have B2 : BlockIs w5 (b + 1) (intsV [3, 4]) 3 := by
  have h := BlockIs.new w1 [.int .i64 3, .int .i64 4] 3;rw [s1] at h;rw [hw5, hw4, hw3, hw2];exact ((h.alloc _).alloc _).alloc _
 have B3 : BlockIs w5 (b + 1 + 1) (intsV [5, 6, 7]) 3 := by
  have h := BlockIs.new w2 [.int .i64 5, .int .i64 6, .int .i64 7] 3;rw [s2] at h;rw [hw5, hw4, hw3];exact (h.alloc _).alloc _
 have B4 : BlockIs w5 (b + 1 + 1 + 1) (intsV [8, 7]) 3 := by
  have h := BlockIs.new w3 [.int .i64 8, .int .i64 7] 3;rw [s3] at h;rw [hw5, hw4];exact h.alloc _
 obtain ⟨rs, hrs⟩ : ∃ z : List CRow, z = [⟨some ⟨b + 1, 0, none⟩, 2, [3, 4]⟩, ⟨some ⟨b + 1 + 1, 0, none⟩, 3, [5, 6, 7]⟩, ⟨some ⟨b + 1 + 1 + 1, 0, none⟩, 2, [8, 7]⟩] := ⟨_, rfl⟩;have B5 : BlockIs w5 (b + 1 + 1 + 1 + 1) (rs.map CRow.v) 35 := by
  have h := BlockIs.new w4 [.slice (some ⟨b + 1, 0, none⟩) 2 2, .slice (some ⟨b + 1 + 1, 0, none⟩) 3 3, .slice (some ⟨b + 1 + 1 + 1, 0, none⟩) 2 2] 35;rw [s4] at h;rw [hw5, hrs];exact h
 have hok : ∀ q ∈ rs, q.ok w5 := by
  intro q hq
  rw [hrs] at hq;simp only [List.mem_cons, List.not_mem_nil, or_false] at hq
  rcases hq with rfl | rfl | rfl
  ·exact ok_new B2
  ·exact ok_new B3
  ·exact ok_new B4
 have hls : lsR rs = [[3, 4], [5, 6, 7], [8, 7]] := by rw [hrs]; rfl
 have hC := shareof_any 9 1 (some ⟨b, 0, none⟩) none 1 0 0 [2] rs (some ⟨b + 1 + 1 + 1 + 1, 0, none⟩) 3 w5 (ok_new B1) (by decide) (rows_new B5 hok) hok (by
  intro q hq
  rw [hrs] at hq;simp only [List.mem_cons, List.not_mem_nil, or_false] at hq
  rcases hq with rfl | rfl | rfl
  ·exact (by decide : ∀ x ∈ ([3, 4] : List Int), (Lit.int .i64 x).wf = true)
  ·exact (by decide : ∀ x ∈ ([5, 6, 7] : List Int), (Lit.int .i64 x).wf = true)
  ·exact (by decide : ∀ x ∈ ([8, 7] : List Int), (Lit.int .i64 x).wf = true)) (by rw [hrs]; exact (by decide : 3 ≤ 1000000)) (by
  intro q hq
  rw [hrs] at hq;simp only [List.mem_cons, List.not_mem_nil, or_false] at hq
  rcases hq with rfl | rfl | rfl
  ·exact (by decide : 2 ≤ 1000000)
  ·exact (by decide : 3 ≤ 1000000)
  ·exact (by decide : 2 ≤ 1000000)) (by rw [hls]; decide)
 rw [hls, wk_parts, show rs.length = 3 by rw [hrs]; rfl] at hC;have HC := qh hC;have HP5 : Hid (Pure w w5) := qh (by rw [hw5, hw4, hw3, hw2, hw1]; exact ((((ext_alloc w _).pure (ext_alloc _ _)).pure (ext_alloc _ _)).pure (ext_alloc _ _)).pure (ext_alloc _ _));have HW5 : Hid (((((w.alloc (.cells #[.int .i64 2] 3)).alloc (.cells #[.int .i64 3, .int .i64 4] 3)).alloc (.cells #[.int .i64 5, .int .i64 6, .int .i64 7] 3)).alloc (.cells #[.int .i64 8, .int .i64 7] 3)).alloc (.cells #[.slice (some ⟨b + 1, 0, none⟩) 2 2, .slice (some ⟨b + 1 + 1, 0, none⟩) 3 3, .slice (some ⟨b + 1 + 1 + 1, 0, none⟩) 2 2] 35) = w5) := qh (by rw [hw5, hw4, hw3, hw2, hw1]);have HB := qh hb.symm;clear hw1 hw2 hw3 hw4 hw5 s1 s2 s3 s4 B1 B2 B3 B4 B5 hok hls hC hrs hb
 go_enter Tryz.func6, Tryz.ntmps6
 go_wp2_with fail
 rw [HB.out, HW5.out];refine HC.out.mono ?_;rintro e W6 ⟨⟨ta, tc, tl⟩, ⟨fa, fc, fl⟩, ⟨sa, sc, sl⟩, ⟨ha, hc, hl⟩, oa, oc, qs, rfl, H, hP⟩;obtain rfl : tl = [1, 2] := H.lt;obtain rfl : fl = [3, 4] := H.lf;obtain rfl : sl = [7] := H.ls;obtain rfl : hl = [9] := H.lh;have hq2 : qs.length = 2 := by have h := congrArg List.length H.lo; rw [lsR_len] at h; exact h
 have HH := qh H;have HP6 := qh (HP5.out.pure hP);have HQ2 := qh hq2;simp only [CRow.v, List.length_cons, List.length_nil, Nat.zero_add];rw [HQ2.out];clear H hP hq2
 go_wp2_with fail
 obtain ⟨W7, hW7⟩ : ∃ z, z = W6.alloc (.cells #[.slice ta 2 tc, .slice fa 2 fc, .slice oa 2 oc, .slice sa 1 sc, .slice ha 1 hc] 37) := ⟨_, rfl⟩;have HP67 : Hid (Pure W6 W7) := qh (by rw [hW7]; exact ext_alloc W6 _);have HB7 : Hid (BlockIs W7 W6.heap.size [.slice ta 2 tc, .slice fa 2 fc, .slice oa 2 oc, .slice sa 1 sc, .slice ha 1 hc] 37) := qh (by rw [hW7]; exact BlockIs.new W6 _ _);rw [← hW7];obtain ⟨tb, htb⟩ : ∃ z, z = W6.heap.size := ⟨_, rfl⟩;rw [← htb] at HB7 ⊢;clear hW7 htb;refine (split_none W7).mono ?_;rintro e W8 ⟨rfl, hP⟩;have HP68 := qh (HP67.out.pure hP);have HB8 := qh (HB7.out.ext hP id);clear hP
 go_wp2_with fail
 obtain ⟨W9, hW9⟩ : ∃ z, z = W8.alloc (.cells #[.slice none 0 0, .slice none 0 0, .slice none 0 0, .slice none 0 0, .slice none 0 0] 37) := ⟨_, rfl⟩;have HP69 : Hid (Pure W6 W9) := qh (by rw [hW9]; exact HP68.out.pure (ext_alloc W8 _));have HB9 : Hid (BlockIs W9 tb [.slice ta 2 tc, .slice fa 2 fc, .slice oa 2 oc, .slice sa 1 sc, .slice ha 1 hc] 37) := qh (by rw [hW9]; exact HB8.out.alloc _);rw [← hW9];clear hW9;refine (rows_none W9).mono ?_;rintro e W10 ⟨rfl, hP⟩;have HP610 := qh (HP69.out.pure hP);have hB10 := HB9.out.ext hP id;have x0 : W10.cell? ⟨tb, 0, none⟩ = some (.slice ta 2 tc) := hB10.cell 0;have x1 : W10.cell? ⟨tb, 1, none⟩ = some (.slice fa 2 fc) := hB10.cell 1;have x2 : W10.cell? ⟨tb, 2, none⟩ = some (.slice oa 2 oc) := hB10.cell 2;have x3 : W10.cell? ⟨tb, 3, none⟩ = some (.slice sa 1 sc) := hB10.cell 3;have x4 : W10.cell? ⟨tb, 4, none⟩ = some (.slice ha 1 hc) := hB10.cell 4;have hl : tb < W10.heap.size := hB10.lt;clear hP hB10 HB7 HB8 HB9 HP67 HP68 HP69
 go_wp2_with fail
 refine (lawof_any ta fa oa sa ha 2 2 2 1 1 tc fc oc sc hc W10).mono ?_;rintro e V ⟨rfl, hP⟩;have HP6V := qh (HP610.out.pure hP);clear hP x0 x1 x2 x3 x4 hl HP610;obtain ⟨b2, hb⟩ : ∃ z, z = V.heap.size := ⟨_, rfl⟩;obtain ⟨w1, hw1⟩ : ∃ z, z = V.alloc (.cells #[.int .i64 1, .int .i64 2] 3) := ⟨_, rfl⟩;obtain ⟨w2, hw2⟩ : ∃ z, z = w1.alloc (.cells #[.int .i64 3, .int .i64 4] 3) := ⟨_, rfl⟩;obtain ⟨w3, hw3⟩ : ∃ z, z = w2.alloc (.cells #[.int .i64 5, .int .i64 6] 3) := ⟨_, rfl⟩;obtain ⟨w4, hw4⟩ : ∃ z, z = w3.alloc (.cells #[.int .i64 8] 3) := ⟨_, rfl⟩;obtain ⟨w6, hw6⟩ : ∃ z, z = w4.alloc (.cells #[.slice (some ⟨b2 + 1 + 1, 0, none⟩) 2 2, .slice (some ⟨b2 + 1 + 1 + 1, 0, none⟩) 1 1] 35) := ⟨_, rfl⟩;obtain ⟨w7, hw7⟩ : ∃ z, z = w6.alloc (.cells #[.int .i64 7] 3) := ⟨_, rfl⟩;obtain ⟨w8, hw8⟩ : ∃ z, z = w7.alloc (.cells #[.int .i64 9] 3) := ⟨_, rfl⟩;have s1 : w1.heap.size = b2 + 1 := by rw [hw1, World.size_alloc, hb]
 have s2 : w2.heap.size = b2 + 1 + 1 := by rw [hw2, World.size_alloc, s1]
 have s3 : w3.heap.size = b2 + 1 + 1 + 1 := by rw [hw3, World.size_alloc, s2]
 have s4 : w4.heap.size = b2 + 1 + 1 + 1 + 1 := by rw [hw4, World.size_alloc, s3]
 have s6 : w6.heap.size = b2 + 1 + 1 + 1 + 1 + 1 := by rw [hw6, World.size_alloc, s4]
 have s7 : w7.heap.size = b2 + 1 + 1 + 1 + 1 + 1 + 1 := by rw [hw7, World.size_alloc, s6]
 have B1 : BlockIs w8 b2 (intsV [1, 2]) 3 := by
  have h := BlockIs.new V [.int .i64 1, .int .i64 2] 3;rw [hw8, hw7, hw6, hw4, hw3, hw2, hw1, hb];exact (((((h.alloc _).alloc _).alloc _).alloc _).alloc _).alloc _
 have B2 : BlockIs w8 (b2 + 1) (intsV [3, 4]) 3 := by
  have h := BlockIs.new w1 [.int .i64 3, .int .i64 4] 3;rw [s1] at h;rw [hw8, hw7, hw6, hw4, hw3, hw2];exact ((((h.alloc _).alloc _).alloc _).alloc _).alloc _
 have B3 : BlockIs w8 (b2 + 1 + 1) (intsV [5, 6]) 3 := by
  have h := BlockIs.new w2 [.int .i64 5, .int .i64 6] 3;rw [s2] at h;rw [hw8, hw7, hw6, hw4, hw3];exact (((h.alloc _).alloc _).alloc _).alloc _
 have B4 : BlockIs w8 (b2 + 1 + 1 + 1) (intsV [8]) 3 := by
  have h := BlockIs.new w3 [.int .i64 8] 3;rw [s3] at h;rw [hw8, hw7, hw6, hw4];exact ((h.alloc _).alloc _).alloc _
 obtain ⟨rs2, hrs⟩ : ∃ z : List CRow, z = [⟨some ⟨b2 + 1 + 1, 0, none⟩, 2, [5, 6]⟩, ⟨some ⟨b2 + 1 + 1 + 1, 0, none⟩, 1, [8]⟩] := ⟨_, rfl⟩;have B6 : BlockIs w8 (b2 + 1 + 1 + 1 + 1) (rs2.map CRow.v) 35 := by
  have h := BlockIs.new w4 [.slice (some ⟨b2 + 1 + 1, 0, none⟩) 2 2, .slice (some ⟨b2 + 1 + 1 + 1, 0, none⟩) 1 1] 35;rw [s4] at h;rw [hw8, hw7, hw6, hrs];exact (h.alloc _).alloc _
 have B7 : BlockIs w8 (b2 + 1 + 1 + 1 + 1 + 1) (intsV [7]) 3 := by
  have h := BlockIs.new w6 [.int .i64 7] 3;rw [s6] at h;rw [hw8, hw7];exact h.alloc _
 have B8 : BlockIs w8 (b2 + 1 + 1 + 1 + 1 + 1 + 1) (intsV [9]) 3 := by
  have h := BlockIs.new w7 [.int .i64 9] 3;rw [s7] at h;rw [hw8];exact h
 have hok : ∀ q ∈ rs2, q.ok w8 := by
  intro q hq
  rw [hrs] at hq;simp only [List.mem_cons, List.not_mem_nil, or_false] at hq
  rcases hq with rfl | rfl
  ·exact ok_new B3
  ·exact ok_new B4
 have hPV : Pure V w8 := by rw [hw8, hw7, hw6, hw4, hw3, hw2, hw1]; exact ((((((ext_alloc V _).pure (ext_alloc _ _)).pure (ext_alloc _ _)).pure (ext_alloc _ _)).pure (ext_alloc _ _)).pure (ext_alloc _ _)).pure (ext_alloc _ _)
 have H2 : PartsAt wkP ⟨some ⟨b2, 0, none⟩, 2, [1, 2]⟩ ⟨some ⟨b2 + 1, 0, none⟩, 2, [3, 4]⟩ ⟨some ⟨b2 + 1 + 1 + 1 + 1 + 1, 0, none⟩, 1, [7]⟩ ⟨some ⟨b2 + 1 + 1 + 1 + 1 + 1 + 1, 0, none⟩, 1, [9]⟩ (some ⟨b2 + 1 + 1 + 1 + 1, 0, none⟩) 2 rs2 w8 :=
  ⟨rfl, rfl, by rw [hrs]; rfl, rfl, rfl, ok_new B1, ok_new B2, rows_new B6 hok, ⟨fun e => (by cases e), by rw [hrs]; exact Nat.le_refl _⟩, hok, ok_new B7, ok_new B8⟩
 have hS := rpsame_any (HH.out.pure (HP6V.out.pure hPV)) H2 (by refine ⟨?_, ?_, ?_, ?_, ?_, ?_⟩ <;> decide);simp only [CRow.v, List.length_cons, List.length_nil, Nat.zero_add] at hS;rw [HQ2.out, show rs2.length = 2 by rw [hrs]; rfl] at hS;have HS := qh hS;have HPw := qh (HP6.out.pure (HP6V.out.pure hPV));have HW8 : Hid (((((((V.alloc (.cells #[.int .i64 1, .int .i64 2] 3)).alloc (.cells #[.int .i64 3, .int .i64 4] 3)).alloc (.cells #[.int .i64 5, .int .i64 6] 3)).alloc (.cells #[.int .i64 8] 3)).alloc (.cells #[.slice (some ⟨b2 + 1 + 1, 0, none⟩) 2 2, .slice (some ⟨b2 + 1 + 1 + 1, 0, none⟩) 1 1] 35)).alloc (.cells #[.int .i64 7] 3)).alloc (.cells #[.int .i64 9] 3) = w8) := qh (by rw [hw8, hw7, hw6, hw4, hw3, hw2, hw1]);have HB2 := qh hb.symm;clear hw1 hw2 hw3 hw4 hw6 hw7 hw8 s1 s2 s3 s4 s6 s7 B1 B2 B3 B4 B6 B7 B8 hok hS hrs hb H2 hPV
 go_wp2_with fail
 rw [HB2.out, HW8.out];refine HS.out.mono ?_;rintro e V2 ⟨rfl, hP⟩
 go_wp2_with fail
 go_ret;exact ⟨rfl, HPw.out.pure hP⟩
