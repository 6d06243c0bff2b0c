import Derived.Test.YtomcdhljjmnahaaGreatSameWPa
import Derived.Test.YtomcdhljjmnahaaGreatOwnHPa
import Derived.Test.YtomcdhljjmnahaaGreatGrpHPa
import Derived.Test.YtomcdhljjmnahaaGreatSqPa
set_option linter.unusedVariables false
set_option linter.unusedSimpArgs false
set_option maxRecDepth 100000
namespace Go.Proofs.YtomcdhljjmnahaaGreat
open Go.RowKit
def H0 (b : Nat) : HT := ⟨4, 500, [⟨1, 200, none, 0, []⟩, ⟨2, 50, some ⟨b, 0, none⟩, 2, [0, 1]⟩], 3, 750, 1, [200, 30]⟩
def L0 : LT := ⟨0, 0, 0, 4, 700, 2, 900⟩
theorem h0_chk (b : Nat) : chkE (H0 b) L0 = 0 := by kernel_rfl
theorem h0_own (b : Nat) : ownP (H0 b) L0 1 = some (700, 750) := by kernel_rfl
theorem h0_grp (b : Nat) : groupP (H0 b) 1 = some (750, 780) := by kernel_rfl
theorem h0_mod (b : Nat) : P26.Mod (H0 b).ps := ⟨by show (2 : Nat) ≤ 40; omega, fun p hp => by
 simp only [H0, List.mem_cons, List.not_mem_nil, or_false] at hp
 rcases hp with rfl | rfl
 ·exact Nat.zero_le _
 ·show (2 : Nat) ≤ 3000; omega⟩
structure Wk (w W : World) (tb1 : Nat) : Prop where
 b1 : BlockIs W w.heap.size [.int .i64 0, .int .i64 0, .int .i64 0, .int .i64 4, .int .i64 700, .int .i64 2, .int .i64 900] 40
 b2 : BlockIs W (tb1 + 1 + 1 + 1) [.int .i64 4, .int .i64 500, .slice (some ⟨tb1 + 1, 0, none⟩) 2 2, .int .i64 3, .int .i64 750, .int .i64 1, .slice (some ⟨tb1 + 1 + 1, 0, none⟩) 2 2] 25
 mem : HMem W (H0 tb1) (some ⟨tb1 + 1, 0, none⟩) 2 (some ⟨tb1 + 1 + 1, 0, none⟩) 2
 p : Pure w W
theorem Wk.pure {w W W' : World} {tb1 : Nat} (h : Wk w W tb1) (e : Pure W W') : Wk w W' tb1 := ⟨h.b1.ext e id, h.b2.ext e id, h.mem.pure e, h.p.pure e⟩
set_option maxHeartbeats 8000000 in
theorem works_any (w : World) : Calls Tryz.prog 7 #[] w fun e w' => e = .returned (.bool true) ∧ Pure w w' := by
 obtain ⟨w1, hw1⟩ : ∃ z, z = (w.alloc (.cells #[.int .i64 0, .int .i64 0, .int .i64 0, .int .i64 0, .int .i64 0, .int .i64 0, .int .i64 0] 40)).setCells w.heap.size 0 (#[.int .i64 0, .int .i64 0, .int .i64 0, .int .i64 4, .int .i64 700, .int .i64 2, .int .i64 900] : Array Value).toList := ⟨_, rfl⟩
 have hPs : Pure w w1 := hw1 ▸ (Ext.setCells _ 0 _ (ext_alloc w _) (b := w.heap.size) (fun h => by omega))
 have hB1 : BlockIs w1 w.heap.size [.int .i64 0, .int .i64 0, .int .i64 0, .int .i64 4, .int .i64 700, .int .i64 2, .int .i64 900] 40 := hw1 ▸ (BlockIs.new w [.int .i64 0, .int .i64 0, .int .i64 0, .int .i64 0, .int .i64 0, .int .i64 0, .int .i64 0] 40).setAll [.int .i64 0, .int .i64 0, .int .i64 0, .int .i64 4, .int .i64 700, .int .i64 2, .int .i64 900] rfl
 have HTh1 : Hid ((w.alloc (.cells #[.int .i64 0, .int .i64 0, .int .i64 0, .int .i64 0, .int .i64 0, .int .i64 0, .int .i64 0] 40)).there w.heap.size 0 (#[.int .i64 0, .int .i64 0, .int .i64 0, .int .i64 4, .int .i64 700, .int .i64 2, .int .i64 900] : Array Value).size) := qh (BlockIs.there (BlockIs.new w [.int .i64 0, .int .i64 0, .int .i64 0, .int .i64 0, .int .i64 0, .int .i64 0, .int .i64 0] 40) 7 rfl)
 have HSi1 : Hid ((Tryz.prog.info? 40).map (·.size) = some (#[.int .i64 0, .int .i64 0, .int .i64 0, .int .i64 4, .int .i64 700, .int .i64 2, .int .i64 900] : Array Value).size) := qh size27
 have HOn1 : Hid (((#[.int .i64 0, .int .i64 0, .int .i64 0, .int .i64 4, .int .i64 700, .int .i64 2, .int .i64 900] : Array Value).all fun u => u.oneCell') = true) := qh (all_oneCell_toArray (by intro u hu; simp only [List.mem_cons, List.not_mem_nil, or_false] at hu; rcases hu with rfl | rfl | rfl | rfl | rfl | rfl | rfl <;> rfl))
 have HWw1 := qh hw1.symm
 clear hw1
 have hP1 := hPs
 obtain ⟨tb1, htb1⟩ : ∃ z, z = w1.heap.size := ⟨_, rfl⟩
 obtain ⟨w2, hw2⟩ : ∃ z, z = w1.alloc (.cells #[.int .i64 0, .int .i64 1] 3) := ⟨_, rfl⟩
 obtain ⟨w3, hw3⟩ : ∃ z, z = w2.alloc (.cells #[.int .i64 1, .int .i64 200, .slice none 0 0, .int .i64 2, .int .i64 50, .slice (some ⟨tb1, 0, none⟩) 2 2] 53) := ⟨_, rfl⟩
 obtain ⟨w4, hw4⟩ : ∃ z, z = w3.alloc (.cells #[.int .i64 200, .int .i64 30] 3) := ⟨_, rfl⟩
 have hz2 : w2.heap.size = tb1 + 1 := by rw [hw2, World.size_alloc, htb1]
 have hz3 : w3.heap.size = tb1 + 1 + 1 := by rw [hw3, World.size_alloc, hz2]
 have hz4 : w4.heap.size = tb1 + 1 + 1 + 1 := by rw [hw4, World.size_alloc, hz3]
 have hP2 : Pure w1 w2 := hw2 ▸ ext_alloc w1 _
 have hP3 : Pure w2 w3 := hw3 ▸ ext_alloc w2 _
 have hP4 : Pure w3 w4 := hw4 ▸ ext_alloc w3 _
 have hR0 : RowOf w2 (some ⟨tb1, 0, none⟩) (([0, 1] : List Int).map zV) := hw2 ▸ row_at _ htb1.symm rfl
 have hR1 : RowOf w3 (some ⟨tb1 + 1, 0, none⟩) [.int .i64 1, .int .i64 200, .slice none 0 0, .int .i64 2, .int .i64 50, .slice (some ⟨tb1, 0, none⟩) 2 2] := hw3 ▸ row_at _ hz2 rfl
 have hR2 : RowOf w4 (some ⟨tb1 + 1 + 1, 0, none⟩) (([200, 30] : List Int).map zV) := hw4 ▸ row_at _ hz3 rfl
 have hM4 : HMem w4 (H0 tb1) (some ⟨tb1 + 1, 0, none⟩) 2 (some ⟨tb1 + 1 + 1, 0, none⟩) 2 := by
  refine ⟨⟨hR1.ext hP4 (fun _ _ => id), ?_, ?_⟩, hR2, by show (2 : Nat) ≤ 100000; omega, by show (2 : Nat) ≤ 100000; omega, ⟨Nat.le_refl _, Nat.zero_le _⟩, fun e => by cases e⟩
  ·intro p hp
   simp only [H0, List.mem_cons, List.not_mem_nil, or_false] at hp
   rcases hp with rfl | rfl
   ·exact row_nil _ _
   ·exact (hR0.ext hP3 (fun _ _ => id)).ext hP4 (fun _ _ => id)
  ·intro p hp
   simp only [H0, List.mem_cons, List.not_mem_nil, or_false] at hp
   rcases hp with rfl | rfl
   ·exact ⟨Nat.le_refl _, Nat.zero_le _, fun _ => rfl⟩
   ·exact ⟨Nat.le_refl _, by show (2 : Nat) ≤ maxLen; unfold maxLen; decide, fun e => by cases e⟩
 have HW4 : Hid (((w1.alloc (.cells #[.int .i64 0, .int .i64 1] 3)).alloc (.cells #[.int .i64 1, .int .i64 200, .slice none 0 0, .int .i64 2, .int .i64 50, .slice (some ⟨w1.heap.size, 0, none⟩) 2 2] 53)).alloc (.cells #[.int .i64 200, .int .i64 30] 3) = w4) := qh (by rw [hw4, hw3, hw2, htb1])
 obtain ⟨w5, hw5⟩ : ∃ z, z = (w4.alloc (.cells #[.int .i64 0, .int .i64 0, .slice none 0 0, .int .i64 0, .int .i64 0, .int .i64 0, .slice none 0 0] 25)).setCells w4.heap.size 0 (#[.int .i64 4, .int .i64 500, .slice (some ⟨tb1 + 1, 0, none⟩) 2 2, .int .i64 3, .int .i64 750, .int .i64 1, .slice (some ⟨tb1 + 1 + 1, 0, none⟩) 2 2] : Array Value).toList := ⟨_, rfl⟩
 have hPs : Pure w4 w5 := hw5 ▸ (Ext.setCells _ 0 _ (ext_alloc w4 _) (b := w4.heap.size) (fun h => by omega))
 have hB2 : BlockIs w5 w4.heap.size [.int .i64 4, .int .i64 500, .slice (some ⟨tb1 + 1, 0, none⟩) 2 2, .int .i64 3, .int .i64 750, .int .i64 1, .slice (some ⟨tb1 + 1 + 1, 0, none⟩) 2 2] 25 := hw5 ▸ (BlockIs.new w4 [.int .i64 0, .int .i64 0, .slice none 0 0, .int .i64 0, .int .i64 0, .int .i64 0, .slice none 0 0] 25).setAll [.int .i64 4, .int .i64 500, .slice (some ⟨tb1 + 1, 0, none⟩) 2 2, .int .i64 3, .int .i64 750, .int .i64 1, .slice (some ⟨tb1 + 1 + 1, 0, none⟩) 2 2] rfl
 have HTh2 : Hid ((w4.alloc (.cells #[.int .i64 0, .int .i64 0, .slice none 0 0, .int .i64 0, .int .i64 0, .int .i64 0, .slice none 0 0] 25)).there w4.heap.size 0 (#[.int .i64 4, .int .i64 500, .slice (some ⟨tb1 + 1, 0, none⟩) 2 2, .int .i64 3, .int .i64 750, .int .i64 1, .slice (some ⟨tb1 + 1 + 1, 0, none⟩) 2 2] : Array Value).size) := qh (BlockIs.there (BlockIs.new w4 [.int .i64 0, .int .i64 0, .slice none 0 0, .int .i64 0, .int .i64 0, .int .i64 0, .slice none 0 0] 25) 7 rfl)
 have HSi2 : Hid ((Tryz.prog.info? 25).map (·.size) = some (#[.int .i64 4, .int .i64 500, .slice (some ⟨tb1 + 1, 0, none⟩) 2 2, .int .i64 3, .int .i64 750, .int .i64 1, .slice (some ⟨tb1 + 1 + 1, 0, none⟩) 2 2] : Array Value).size) := qh size25
 have HOn2 : Hid (((#[.int .i64 4, .int .i64 500, .slice (some ⟨tb1 + 1, 0, none⟩) 2 2, .int .i64 3, .int .i64 750, .int .i64 1, .slice (some ⟨tb1 + 1 + 1, 0, none⟩) 2 2] : Array Value).all fun u => u.oneCell') = true) := qh (all_oneCell_toArray (by intro u hu; simp only [List.mem_cons, List.not_mem_nil, or_false] at hu; rcases hu with rfl | rfl | rfl | rfl | rfl | rfl | rfl <;> rfl))
 have HWw5 := qh hw5.symm
 clear hw5
 rw [hz4] at hB2 HTh2 HWw5
 have hWk : Wk w w5 tb1 := ⟨((((hB1.ext hP2 id).ext hP3 id).ext hP4 id).ext hPs id), hB2, hM4.pure hPs, (((hP1.pure hP2).pure hP3).pure hP4).pure hPs⟩
 have HK := qh hWk
 have HTb1 := qh htb1
 have HR5 : Hid (w5.rangeAt (tb1 + 1 + 1 + 1) 0 [.int .i64 4, .int .i64 500, .slice (some ⟨tb1 + 1, 0, none⟩) 2 2, .int .i64 3, .int .i64 750, .int .i64 1, .slice (some ⟨tb1 + 1 + 1, 0, none⟩) 2 2]) := qh hB2.range
 have HL7 : Hid (([.int .i64 4, .int .i64 500, .slice (some ⟨tb1 + 1, 0, none⟩) 2 2, .int .i64 3, .int .i64 750, .int .i64 1, .slice (some ⟨tb1 + 1 + 1, 0, none⟩) 2 2] : List Value).length = 7) := qh rfl
 have HM7 : Hid (([.int .i64 0, .int .i64 0, .int .i64 0, .int .i64 4, .int .i64 700, .int .i64 2, .int .i64 900] : List Value).length = 7) := qh rfl
 clear hw2 hw3 hw4 hz2 hz3 hz4 hP2 hP3 hP4 hR0 hR1 hR2 hM4 hPs hB1 hB2 hP1 hWk htb1
 go_enter Tryz.func7, Tryz.ntmps7
 go_wp2_with (first
  | (with_reducible refine V11.at_store 40 (.tmp 1) (.tmp 11) ?_; refine wpList_store_mid rfl 40 (.tmp 1) (.tmp 11) rfl w.heap.size 0 #[.int .i64 0, .int .i64 0, .int .i64 0, .int .i64 4, .int .i64 700, .int .i64 2, .int .i64 900] rfl rfl HTh1.out HSi1.out HOn1.out ?_; rw [HWw1.out])
  | (with_reducible refine V11.at_store 25 (.tmp 2) (.tmp 17) ?_; rw [HW4.out, ← HTb1.out]; refine wpList_store_mid rfl 25 (.tmp 2) (.tmp 17) rfl (tb1 + 1 + 1 + 1) 0 #[.int .i64 4, .int .i64 500, .slice (some ⟨tb1 + 1, 0, none⟩) 2 2, .int .i64 3, .int .i64 750, .int .i64 1, .slice (some ⟨tb1 + 1 + 1, 0, none⟩) 2 2] rfl rfl HTh2.out HSi2.out HOn2.out ?_; rw [HWw5.out])
  | (with_reducible refine V11.at_load 25 (.tmp 2) ?_; refine wpList_load_h rfl (.tmp 2) rfl (tb1 + 1 + 1 + 1) 0 rfl [.int .i64 4, .int .i64 500, .slice (some ⟨tb1 + 1, 0, none⟩) 2 2, .int .i64 3, .int .i64 750, .int .i64 1, .slice (some ⟨tb1 + 1 + 1, 0, none⟩) 2 2] HR5.out HL7.out ?_))
 have hOb := object_any (H0 tb1) _ _ _ _ w5 HK.out.mem (h0_mod tb1)
 rw [obj_err (h0_chk tb1)] at hOb
 have HOb := qh hOb
 clear hOb HR5 HTh1 HSi1 HOn1 HWw1 HTh2 HSi2 HOn2 HWw5 HW4 HTb1
 refine HOb.out.mono ?_
 rintro e w6 ⟨os, rfl, hO, hP6⟩
 have HK := qh (HK.out.pure hP6)
 have hO' := hO
 obtain ⟨vs, rfl, hLv⟩ := hO'
 obtain ⟨a4, c4, _, rfl, -⟩ := hLv.kids
 have hdd : (objO (H0 tb1)).data.size ≤ 1000000 := by
  unfold objO
  rw [if_pos (obj_err (h0_chk tb1))]
  show (strOf _ ++ strOf _).size ≤ _
  rw [ByteArray.size_append, strOf_size, strOf_size]
  have h1 := enc26_len (a := (H0 tb1).fa) (h0_mod tb1)
  have h2 := enc27_len (H0 tb1).so (H0 tb1).sa (H0 tb1).sf (H0 tb1).sh
  omega
 have hvl : (objO (H0 tb1)).v.l.length ≤ 1000000 := by
  unfold objO
  rw [if_pos (obj_err (h0_chk tb1))]
  show (2 : Nat) ≤ _
  omega
 obtain ⟨O, hOo⟩ : ∃ z, z = objO (H0 tb1) := ⟨_, rfl⟩
 rw [← hOo] at hO hdd hvl ⊢
 have HBk : Hid (∀ {H : HT} {er : Int}, ParP O L0 H er → er = 0 ∧ Alike H (H0 tb1)) := qh (fun hp => par_back (h0_mod tb1) (h0_chk tb1) (by rw [← hOo]; exact hp))
 have HPr := qh (fun W (hP : Pure w6 W) => parse_any 1 O _ L0 W (hO.pure hP) hvl hdd)
 obtain ⟨l4, hl4⟩ : ∃ z, z = O.v.l.length := ⟨_, rfl⟩
 obtain ⟨k4, hk4⟩ : ∃ z, z = O.v.kind := ⟨_, rfl⟩
 obtain ⟨n4, hn4⟩ : ∃ z, z = O.v.n := ⟨_, rfl⟩
 obtain ⟨s4, hs4⟩ : ∃ z, z = O.v.s := ⟨_, rfl⟩
 obtain ⟨st, hst⟩ : ∃ z, z = O.st := ⟨_, rfl⟩
 obtain ⟨dd, hdt⟩ : ∃ z, z = O.data := ⟨_, rfl⟩
 rw [← hl4, ← hk4, ← hn4, ← hs4, ← hst, ← hdt] at HPr ⊢
 simp only [List.cons_append, List.nil_append] at HPr ⊢
 clear hOo hO hdd hvl hl4 hk4 hn4 hs4 hst hdt hLv hP6 HOb
 obtain ⟨w7, hw7⟩ : ∃ z, z = (w6.alloc (.cells #[.int .i64 0, .int .i64 0, .string ⟨#[]⟩, .slice none 0 0, .bool false, .string ⟨#[]⟩] 32)).setCells w6.heap.size 0 (#[.int .i64 k4, .int .i64 n4, .string s4, .slice a4 l4 c4, .bool st, .string dd] : Array Value).toList := ⟨_, rfl⟩
 have hPs : Pure w6 w7 := hw7 ▸ (Ext.setCells _ 0 _ (ext_alloc w6 _) (b := w6.heap.size) (fun h => by omega))
 have hB3 : BlockIs w7 w6.heap.size [.int .i64 k4, .int .i64 n4, .string s4, .slice a4 l4 c4, .bool st, .string dd] 32 := hw7 ▸ (BlockIs.new w6 [.int .i64 0, .int .i64 0, .string ⟨#[]⟩, .slice none 0 0, .bool false, .string ⟨#[]⟩] 32).setAll [.int .i64 k4, .int .i64 n4, .string s4, .slice a4 l4 c4, .bool st, .string dd] rfl
 have HTh3 : Hid ((w6.alloc (.cells #[.int .i64 0, .int .i64 0, .string ⟨#[]⟩, .slice none 0 0, .bool false, .string ⟨#[]⟩] 32)).there w6.heap.size 0 (#[.int .i64 k4, .int .i64 n4, .string s4, .slice a4 l4 c4, .bool st, .string dd] : Array Value).size) := qh (BlockIs.there (BlockIs.new w6 [.int .i64 0, .int .i64 0, .string ⟨#[]⟩, .slice none 0 0, .bool false, .string ⟨#[]⟩] 32) 6 rfl)
 have HSi3 : Hid ((Tryz.prog.info? 32).map (·.size) = some (#[.int .i64 k4, .int .i64 n4, .string s4, .slice a4 l4 c4, .bool st, .string dd] : Array Value).size) := qh size42
 have HOn3 : Hid (((#[.int .i64 k4, .int .i64 n4, .string s4, .slice a4 l4 c4, .bool st, .string dd] : Array Value).all fun u => u.oneCell') = true) := qh (all_oneCell_toArray (by intro u hu; simp only [List.mem_cons, List.not_mem_nil, or_false] at hu; rcases hu with rfl | rfl | rfl | rfl | rfl | rfl <;> rfl))
 have HWw7 := qh hw7.symm
 clear hw7
 have HK := qh (HK.out.pure hPs)
 have HPr := qh (HPr.out w7 hPs)
 have HR3 : Hid (w7.rangeAt w6.heap.size 0 [.int .i64 k4, .int .i64 n4, .string s4, .slice a4 l4 c4, .bool st, .string dd]) := qh hB3.range
 have HRl : Hid (w7.rangeAt w.heap.size 0 [.int .i64 0, .int .i64 0, .int .i64 0, .int .i64 4, .int .i64 700, .int .i64 2, .int .i64 900]) := qh HK.out.b1.range
 have HS6 : Hid (([.int .i64 k4, .int .i64 n4, .string s4, .slice a4 l4 c4, .bool st, .string dd] : List Value).length = 6) := qh rfl
 clear hPs hB3
 go_wp2_with (first
  | (with_reducible refine V11.at_store 32 (.tmp 3) (.tmp 21) ?_; refine wpList_store_mid rfl 32 (.tmp 3) (.tmp 21) rfl w6.heap.size 0 #[.int .i64 k4, .int .i64 n4, .string s4, .slice a4 l4 c4, .bool st, .string dd] rfl rfl HTh3.out HSi3.out HOn3.out ?_; rw [HWw7.out])
  | (with_reducible refine V11.at_load 32 (.tmp 3) ?_; refine wpList_load_mid rfl 32 (.tmp 3) rfl w6.heap.size 0 rfl [.int .i64 k4, .int .i64 n4, .string s4, .slice a4 l4 c4, .bool st, .string dd] _ HR3.out Tryz.underlying32 rfl (sz42 HS6.out) ?_)
  | (with_reducible refine V11.at_load 40 (.tmp 1) ?_; refine wpList_load_l rfl (.tmp 1) rfl w.heap.size 0 rfl [.int .i64 0, .int .i64 0, .int .i64 0, .int .i64 4, .int .i64 700, .int .i64 2, .int .i64 900] HRl.out HM7.out ?_))
 refine HPr.out.mono ?_
 rintro e w8 ⟨Hx, xa, xc, ya, yc, er, rfl, hPar, hMx, hP8⟩
 have HK := qh (HK.out.pure hP8)
 obtain ⟨rfl, hAl⟩ := HBk.out hPar
 have HAl := qh hAl
 have HMx := qh hMx
 clear hP8 hAl hMx hPar HPr HR3 HRl HS6 HTh3 HSi3 HOn3 HWw7 HBk
 obtain ⟨xs, hxs⟩ : ∃ z, z = hC Hx xa xc ya yc := ⟨_, rfl⟩
 have HXs := qh hxs
 have HX7 : Hid (xs.length = 7) := qh (by rw [hxs]; rfl)
 have hXo : (xs.toArray.all fun u => u.oneCell') = true := by
  rw [hxs]; unfold hC
  exact all_oneCell_toArray (by intro u hu; simp only [List.mem_cons, List.not_mem_nil, or_false] at hu; rcases hu with rfl | rfl | rfl | rfl | rfl | rfl | rfl <;> rfl)
 rw [← hxs]
 clear hxs
 obtain ⟨w9, hw9⟩ : ∃ z, z = (w8.alloc (.cells #[.int .i64 0, .int .i64 0, .slice none 0 0, .int .i64 0, .int .i64 0, .int .i64 0, .slice none 0 0] 25)).setCells w8.heap.size 0 xs.toArray.toList := ⟨_, rfl⟩
 have hPs : Pure w8 w9 := hw9 ▸ (Ext.setCells _ 0 _ (ext_alloc w8 _) (b := w8.heap.size) (fun h => by omega))
 have hB5 : BlockIs w9 w8.heap.size xs 25 := by
  have h := (BlockIs.new w8 [.int .i64 0, .int .i64 0, .slice none 0 0, .int .i64 0, .int .i64 0, .int .i64 0, .slice none 0 0] 25).setAll xs (by rw [HX7.out]; rfl)
  rw [hw9]; simpa using h
 have HTh5 : Hid ((w8.alloc (.cells #[.int .i64 0, .int .i64 0, .slice none 0 0, .int .i64 0, .int .i64 0, .int .i64 0, .slice none 0 0] 25)).there w8.heap.size 0 xs.toArray.size) := qh (by rw [show xs.toArray.size = 7 from by rw [List.size_toArray, HX7.out]]; exact BlockIs.there (BlockIs.new w8 [.int .i64 0, .int .i64 0, .slice none 0 0, .int .i64 0, .int .i64 0, .int .i64 0, .slice none 0 0] 25) 7 rfl)
 have HSi5 : Hid ((Tryz.prog.info? 25).map (·.size) = some xs.toArray.size) := qh (by rw [show xs.toArray.size = 7 from by rw [List.size_toArray, HX7.out]]; exact size25)
 have HOn5 := qh hXo
 have HWw9 := qh hw9.symm
 have HK := qh (HK.out.pure hPs)
 have HMx := qh (HMx.out.pure hPs)
 have HR2 : Hid (w9.rangeAt (tb1 + 1 + 1 + 1) 0 [.int .i64 4, .int .i64 500, .slice (some ⟨tb1 + 1, 0, none⟩) 2 2, .int .i64 3, .int .i64 750, .int .i64 1, .slice (some ⟨tb1 + 1 + 1, 0, none⟩) 2 2]) := qh HK.out.b2.range
 have HR1 : Hid (w9.rangeAt w.heap.size 0 [.int .i64 0, .int .i64 0, .int .i64 0, .int .i64 4, .int .i64 700, .int .i64 2, .int .i64 900]) := qh HK.out.b1.range
 have hOw := own_any (H0 tb1) L0 1 (some ⟨tb1 + 1, 0, none⟩) (some ⟨tb1 + 1 + 1, 0, none⟩) 2 2 w9 HK.out.mem (Or.inr (Nat.le_refl _))
 rw [h0_own] at hOw
 have HOw := qh hOw
 clear hw9 hPs hXo hOw
 go_wp2_with (first
  | (with_reducible refine V11.at_store 25 (.tmp 5) (.tmp 27) ?_; refine wpList_store_mid rfl 25 (.tmp 5) (.tmp 27) rfl w8.heap.size 0 xs.toArray rfl rfl HTh5.out HSi5.out HOn5.out ?_; rw [HWw9.out])
  | (with_reducible refine V11.at_load 25 (.tmp 2) ?_; refine wpList_load_h rfl (.tmp 2) rfl (tb1 + 1 + 1 + 1) 0 rfl [.int .i64 4, .int .i64 500, .slice (some ⟨tb1 + 1, 0, none⟩) 2 2, .int .i64 3, .int .i64 750, .int .i64 1, .slice (some ⟨tb1 + 1 + 1, 0, none⟩) 2 2] HR2.out HL7.out ?_)
  | (with_reducible refine V11.at_load 40 (.tmp 1) ?_; refine wpList_load_l rfl (.tmp 1) rfl w.heap.size 0 rfl [.int .i64 0, .int .i64 0, .int .i64 0, .int .i64 4, .int .i64 700, .int .i64 2, .int .i64 900] HR1.out HM7.out ?_))
 refine HOw.out.mono ?_
 rintro e w10 ⟨rfl, hP10⟩
 have HK := qh (HK.out.pure hP10)
 have HMx := qh (HMx.out.pure hP10)
 have hB5 := hB5.ext hP10 id
 clear hP10 HOw HR1 HR2 HTh5 HSi5 HOn5 HWw9
 rw [show spanV (some (700, 750)) = .agg #[.int .i64 700, .int .i64 750] from rfl, show (some ((700, 750) : Int × Int)).isSome = true from rfl]
 obtain ⟨w11, hw11⟩ : ∃ z, z = (w10.alloc (.cells #[.int .i64 0, .int .i64 0] 55)).setCells w10.heap.size 0 (#[.int .i64 700, .int .i64 750] : Array Value).toList := ⟨_, rfl⟩
 have hPs : Pure w10 w11 := hw11 ▸ (Ext.setCells _ 0 _ (ext_alloc w10 _) (b := w10.heap.size) (fun h => by omega))
 have hB7 : BlockIs w11 w10.heap.size [.int .i64 700, .int .i64 750] 55 := hw11 ▸ (BlockIs.new w10 [.int .i64 0, .int .i64 0] 55).setAll [.int .i64 700, .int .i64 750] rfl
 have HTh7 : Hid ((w10.alloc (.cells #[.int .i64 0, .int .i64 0] 55)).there w10.heap.size 0 (#[.int .i64 700, .int .i64 750] : Array Value).size) := qh (BlockIs.there (BlockIs.new w10 [.int .i64 0, .int .i64 0] 55) 2 rfl)
 have HSi7 : Hid ((Tryz.prog.info? 55).map (·.size) = some (#[.int .i64 700, .int .i64 750] : Array Value).size) := qh sizeSp
 have HOn7 : Hid (((#[.int .i64 700, .int .i64 750] : Array Value).all fun u => u.oneCell') = true) := qh (all_oneCell_toArray (by intro u hu; simp only [List.mem_cons, List.not_mem_nil, or_false] at hu; rcases hu with rfl | rfl <;> rfl))
 have HWw11 := qh hw11.symm
 clear hw11
 have HK := qh (HK.out.pure hPs)
 have HMx := qh (HMx.out.pure hPs)
 have hB5 := hB5.ext hPs id
 have HR2 : Hid (w11.rangeAt (tb1 + 1 + 1 + 1) 0 [.int .i64 4, .int .i64 500, .slice (some ⟨tb1 + 1, 0, none⟩) 2 2, .int .i64 3, .int .i64 750, .int .i64 1, .slice (some ⟨tb1 + 1 + 1, 0, none⟩) 2 2]) := qh HK.out.b2.range
 have hGr := group_any (H0 tb1) 1 (some ⟨tb1 + 1, 0, none⟩) (some ⟨tb1 + 1 + 1, 0, none⟩) 2 2 w11 HK.out.mem
 rw [h0_grp] at hGr
 have HGr := qh hGr
 clear hPs hGr
 go_wp2_with (first
  | (with_reducible refine V11.at_store 55 (.tmp 7) (.tmp 33) ?_; refine wpList_store_mid rfl 55 (.tmp 7) (.tmp 33) rfl w10.heap.size 0 #[.int .i64 700, .int .i64 750] rfl rfl HTh7.out HSi7.out HOn7.out ?_; rw [HWw11.out])
  | (with_reducible refine V11.at_load 25 (.tmp 2) ?_; refine wpList_load_h rfl (.tmp 2) rfl (tb1 + 1 + 1 + 1) 0 rfl [.int .i64 4, .int .i64 500, .slice (some ⟨tb1 + 1, 0, none⟩) 2 2, .int .i64 3, .int .i64 750, .int .i64 1, .slice (some ⟨tb1 + 1 + 1, 0, none⟩) 2 2] HR2.out HL7.out ?_))
 refine HGr.out.mono ?_
 rintro e w12 ⟨rfl, hP12⟩
 have HK := qh (HK.out.pure hP12)
 have HMx := qh (HMx.out.pure hP12)
 have hB5 := hB5.ext hP12 id
 have hB7 := hB7.ext hP12 id
 clear hP12 HGr HR2 HTh7 HSi7 HOn7 HWw11
 rw [show spanV (some (750, 780)) = .agg #[.int .i64 750, .int .i64 780] from rfl, show (some ((750, 780) : Int × Int)).isSome = true from rfl]
 obtain ⟨w13, hw13⟩ : ∃ z, z = (w12.alloc (.cells #[.int .i64 0, .int .i64 0] 55)).setCells w12.heap.size 0 (#[.int .i64 750, .int .i64 780] : Array Value).toList := ⟨_, rfl⟩
 have hPs : Pure w12 w13 := hw13 ▸ (Ext.setCells _ 0 _ (ext_alloc w12 _) (b := w12.heap.size) (fun h => by omega))
 have hB9 : BlockIs w13 w12.heap.size [.int .i64 750, .int .i64 780] 55 := hw13 ▸ (BlockIs.new w12 [.int .i64 0, .int .i64 0] 55).setAll [.int .i64 750, .int .i64 780] rfl
 have HTh9 : Hid ((w12.alloc (.cells #[.int .i64 0, .int .i64 0] 55)).there w12.heap.size 0 (#[.int .i64 750, .int .i64 780] : Array Value).size) := qh (BlockIs.there (BlockIs.new w12 [.int .i64 0, .int .i64 0] 55) 2 rfl)
 have HSi9 : Hid ((Tryz.prog.info? 55).map (·.size) = some (#[.int .i64 750, .int .i64 780] : Array Value).size) := qh sizeSp
 have HOn9 : Hid (((#[.int .i64 750, .int .i64 780] : Array Value).all fun u => u.oneCell') = true) := qh (all_oneCell_toArray (by intro u hu; simp only [List.mem_cons, List.not_mem_nil, or_false] at hu; rcases hu with rfl | rfl <;> rfl))
 have HWw13 := qh hw13.symm
 clear hw13
 have HK := qh (HK.out.pure hPs)
 have HMx := qh (HMx.out.pure hPs)
 have hB5 := hB5.ext hPs id
 have hB7 := hB7.ext hPs id
 have HR2 : Hid (w13.rangeAt (tb1 + 1 + 1 + 1) 0 [.int .i64 4, .int .i64 500, .slice (some ⟨tb1 + 1, 0, none⟩) 2 2, .int .i64 3, .int .i64 750, .int .i64 1, .slice (some ⟨tb1 + 1 + 1, 0, none⟩) 2 2]) := qh HK.out.b2.range
 have HR5 : Hid (w13.rangeAt w8.heap.size 0 xs) := qh hB5.range
 have hSm := same_yes Hx (H0 tb1) xa ya xc yc (some ⟨tb1 + 1, 0, none⟩) (some ⟨tb1 + 1 + 1, 0, none⟩) 2 2 w13 HMx.out HK.out.mem HAl.out
 rw [← HXs.out] at hSm
 have HSm := qh hSm
 clear hPs hSm
 go_wp2_with (first
  | (with_reducible refine V11.at_store 55 (.tmp 9) (.tmp 38) ?_; refine wpList_store_mid rfl 55 (.tmp 9) (.tmp 38) rfl w12.heap.size 0 #[.int .i64 750, .int .i64 780] rfl rfl HTh9.out HSi9.out HOn9.out ?_; rw [HWw13.out])
  | (with_reducible refine V11.at_load 25 (.tmp 2) ?_; refine wpList_load_h rfl (.tmp 2) rfl (tb1 + 1 + 1 + 1) 0 rfl [.int .i64 4, .int .i64 500, .slice (some ⟨tb1 + 1, 0, none⟩) 2 2, .int .i64 3, .int .i64 750, .int .i64 1, .slice (some ⟨tb1 + 1 + 1, 0, none⟩) 2 2] HR2.out HL7.out ?_)
  | (with_reducible refine V11.at_load 25 (.tmp 5) ?_; refine wpList_load_h rfl (.tmp 5) rfl w8.heap.size 0 rfl xs HR5.out HX7.out ?_))
 refine HSm.out.mono ?_
 rintro e w14 ⟨rfl, hP14⟩
 have HK := qh (HK.out.pure hP14)
 have hB7 := hB7.ext hP14 id
 have hB9 := hB9.ext hP14 id
 have HR2 : Hid (w14.rangeAt (tb1 + 1 + 1 + 1) 0 [.int .i64 4, .int .i64 500, .slice (some ⟨tb1 + 1, 0, none⟩) 2 2, .int .i64 3, .int .i64 750, .int .i64 1, .slice (some ⟨tb1 + 1 + 1, 0, none⟩) 2 2]) := qh HK.out.b2.range
 have HR1 : Hid (w14.rangeAt w.heap.size 0 [.int .i64 0, .int .i64 0, .int .i64 0, .int .i64 4, .int .i64 700, .int .i64 2, .int .i64 900]) := qh HK.out.b1.range
 have hCk := check_any (H0 tb1) L0 (some ⟨tb1 + 1, 0, none⟩) (some ⟨tb1 + 1 + 1, 0, none⟩) 2 2 w14 HK.out.mem (h0_mod tb1).mod2
 rw [h0_chk] at hCk
 have HCk := qh hCk
 clear hP14 HSm HR5 HTh9 HSi9 HOn9 HWw13 hCk hB5
 go_wp2_with (first
  | (with_reducible refine V11.at_load 25 (.tmp 2) ?_; refine wpList_load_h rfl (.tmp 2) rfl (tb1 + 1 + 1 + 1) 0 rfl [.int .i64 4, .int .i64 500, .slice (some ⟨tb1 + 1, 0, none⟩) 2 2, .int .i64 3, .int .i64 750, .int .i64 1, .slice (some ⟨tb1 + 1 + 1, 0, none⟩) 2 2] HR2.out HL7.out ?_)
  | (with_reducible refine V11.at_load 40 (.tmp 1) ?_; refine wpList_load_l rfl (.tmp 1) rfl w.heap.size 0 rfl [.int .i64 0, .int .i64 0, .int .i64 0, .int .i64 4, .int .i64 700, .int .i64 2, .int .i64 900] HR1.out HM7.out ?_))
 refine HCk.out.mono ?_
 rintro e w15 ⟨rfl, hP15⟩
 have HK := qh (HK.out.pure hP15)
 have hB7 := hB7.ext hP15 id
 have hB9 := hB9.ext hP15 id
 have g0 : w15.cell? ⟨w10.heap.size, 0, none⟩ = some (.int .i64 700) := hB7.cell 0
 have g1 : w15.cell? ⟨w10.heap.size, 1, none⟩ = some (.int .i64 750) := hB7.cell 1
 have g2 : w15.cell? ⟨w12.heap.size, 0, none⟩ = some (.int .i64 750) := hB9.cell 0
 have g3 : w15.cell? ⟨w12.heap.size, 1, none⟩ = some (.int .i64 780) := hB9.cell 1
 clear hP15 HCk HR1 HR2 hB7 hB9
 go_wp2_with fail
 go_ret
 exact ⟨rfl, HK.out.p⟩
