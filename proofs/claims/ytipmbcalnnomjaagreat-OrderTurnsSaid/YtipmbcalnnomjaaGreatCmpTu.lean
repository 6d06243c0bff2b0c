import Derived.Test.YtipmbcalnnomjaaGreatDictTu
import Derived.Lib.Bytealg
import Derived.Lib.IndexLaws
import Derived.Laws.Externs
import Derived.Test.YtipmbcalnnomjaaGreatSqTu
set_option linter.unusedVariables false
set_option linter.unusedSimpArgs false
set_option maxRecDepth 100000
namespace Go.Proofs.YtipmbcalnnomjaaGreat
open Go.RowKit
def dictOwn (n : Int) (s : ByteArray) (l : List V) : Int := if n = 0 ∧ s.toList = [] then dictE l else 2
theorem find70 : Extern.find Tryz.f173 = some Extern.BytealgIndexByte.indexByte := rfl
theorem run70 (s : ByteArray) (w : World) : (callFunc 173 #[.string s, .int .u8 0]).run Tryz.prog w = .ok (.value (.int .i64 (Lib.indexByte s.data.toList 0))) w := by
 rw [run_callFunc_extern Tryz.func173 (by decide +kernel) rfl (by kernel_rfl) find70, Lib.run_indexByteString]
 rfl
theorem idx_any (s : ByteArray) (w : World) : Calls Tryz.prog 148 #[.string s, .int .u8 0] w fun e w' => e = .returned (.int .i64 (Lib.indexByte s.data.toList 0)) ∧ w' = w := by
 have h70 := run70 s
 generalize Lib.indexByte s.data.toList 0 = y at *
 go_enter Tryz.func148, Tryz.ntmps148
 go_wp2_with fail
 go_in
 go_wp2_with fail
 go_ret
 exact ⟨rfl, rfl⟩
def textB (s : ByteArray) : Bool := decide (s.size ≤ 127) && !(s.data.toList.contains 0)
theorem idx_text (s : ByteArray) : decide (0 ≤ Lib.indexByte s.data.toList 0) = s.data.toList.contains 0 := by
 by_cases h : (0 : UInt8) ∈ s.data.toList
 ·have h1 : s.data.toList.contains 0 = true := by simpa using h
  rw [h1]
  refine decide_eq_true ?_
  have h2 := Lib.indexByte_ge s.data.toList 0
  by_cases e : Lib.indexByte s.data.toList 0 = -1
  ·obtain ⟨k, hk, hk2⟩ := List.mem_iff_getElem.1 h
   exact absurd (by rw [List.getElem?_eq_getElem hk, hk2]) (Lib.indexByte_none e k)
  ·omega
 ·have h1 : s.data.toList.contains 0 = false := by simpa using h
  rw [h1]
  refine decide_eq_false ?_
  intro h2
  obtain ⟨o, ho⟩ : ∃ o : Nat, Lib.indexByte s.data.toList 0 = (o : Int) := ⟨_, (Int.toNat_of_nonneg h2).symm⟩
  have := (Lib.indexByte_some ho).1
  exact h (List.mem_of_getElem? this)
def ownE (k n : Int) (s : ByteArray) (l : List V) : Int :=
 if k = 0 then (if n = 0 ∧ s.toList = [] ∧ l.length = 0 then 0 else 2)
 else if k = 1 then (if (n = 0 ∨ n = 1) ∧ s.toList = [] ∧ l.length = 0 then 0 else 2)
 else if k = 2 ∨ k = 3 then numE k n s l.length
 else if k = 4 then (if n = 0 ∧ l.length = 0 then 0 else 2)
 else if k = 5 then (if textB s = true then (if n = 0 ∧ l.length = 0 then 0 else 2) else 17)
 else if k = 6 then (if n = 0 ∧ s.toList = [] then 0 else 2)
 else if k = 7 then dictOwn n s l
 else if k = 8 then (if (1 ≤ n ∧ n ≤ 4096) ∧ s.toList = [] ∧ l.length = 0 then 0 else 2)
 else 2
set_option maxHeartbeats 1000000 in
theorem plain_any (k n : Int) (s : ByteArray) (a : Option Addr) (len c : Nat) (w : World) :
 Calls Tryz.prog 146 #[.agg #[.int .i64 k, .int .i64 n, .string s, .slice a len c]] w (BoolTo (decide (n = 0 ∧ s.toList = [] ∧ len = 0)) w) := by
 obtain ⟨B, hB⟩ : ∃ B, B = decide (n = 0 ∧ s.toList = [] ∧ len = 0) := ⟨_, rfl⟩
 rw [← hB]
 by_cases h1 : n = 0
 ·by_cases h2 : s.toList = []
  ·by_cases h3 : len = 0
   ·have HB : Hid (B = true) := qh (by rw [hB]; exact decide_eq_true ⟨h1, h2, h3⟩)
    have h3' : ((len : Int) == 0) = true := by simp [h3]
    subst h1
    clear hB h3
    go_enter Tryz.func146, Tryz.ntmps146
    go_wp2_with fail
    go_ret
    exact ⟨by rw [HB.out]; rfl, ext_alloc _ _⟩
   ·have HB : Hid (B = false) := qh (by rw [hB]; exact decide_eq_false (fun h => h3 h.2.2))
    have h3' : ((len : Int) == 0) = false := by simp [h3]
    subst h1
    clear hB h3
    go_enter Tryz.func146, Tryz.ntmps146
    go_wp2_with fail
    go_ret
    exact ⟨by rw [HB.out]; rfl, ext_alloc _ _⟩
  ·have HB : Hid (B = false) := qh (by rw [hB]; exact decide_eq_false (fun h => h2 h.2.1))
   subst h1
   clear hB
   go_enter Tryz.func146, Tryz.ntmps146
   go_wp2_with fail
   go_ret
   exact ⟨by rw [HB.out]; rfl, ext_alloc _ _⟩
 ·have HB : Hid (B = false) := qh (by rw [hB]; exact decide_eq_false (fun h => h1 h.1))
  have h1' : (n == 0) = false := by simpa using h1
  clear hB h1
  go_enter Tryz.func146, Tryz.ntmps146
  go_wp2_with fail
  go_ret
  exact ⟨by rw [HB.out]; rfl, ext_alloc _ _⟩
theorem ownE_1 (n : Int) (s : ByteArray) (l : List V) : ownE 1 n s l = if (n = 0 ∨ n = 1) ∧ s.toList = [] ∧ l.length = 0 then 0 else 2 := by unfold ownE; rw [if_neg (by decide), if_pos rfl]
theorem ownE_4 (n : Int) (s : ByteArray) (l : List V) : ownE 4 n s l = if n = 0 ∧ l.length = 0 then 0 else 2 := by unfold ownE; rw [if_neg (by decide), if_neg (by decide), if_neg (by decide), if_pos rfl]
theorem ownE_6 (n : Int) (s : ByteArray) (l : List V) : ownE 6 n s l = if n = 0 ∧ s.toList = [] then 0 else 2 := by unfold ownE; rw [if_neg (by decide), if_neg (by decide), if_neg (by decide), if_neg (by decide), if_neg (by decide), if_pos rfl]
theorem ownE_8 (n : Int) (s : ByteArray) (l : List V) : ownE 8 n s l = if (1 ≤ n ∧ n ≤ 4096) ∧ s.toList = [] ∧ l.length = 0 then 0 else 2 := by unfold ownE; rw [if_neg (by decide), if_neg (by decide), if_neg (by decide), if_neg (by decide), if_neg (by decide), if_neg (by decide), if_neg (by decide), if_pos rfl]
set_option maxHeartbeats 1000000 in
theorem own1 (n : Int) (s : ByteArray) (l : List V) (a : Option Addr) (c : Nat) (w : World) :
 Calls Tryz.prog 128 #[.agg #[.int .i64 1, .int .i64 n, .string s, .slice a l.length c]] w (IntTo (ownE 1 n s l) w) := by
 obtain ⟨E, hE⟩ : ∃ E, E = ownE 1 n s l := ⟨_, rfl⟩
 rw [← hE]
 rw [ownE_1] at hE
 obtain ⟨len, hlen⟩ : ∃ len, len = l.length := ⟨_, rfl⟩
 try rw [← hlen] at hE
 rw [← hlen]
 clear hlen
 rcases (show n = 0 ∨ n = 1 ∨ (¬ n = 0 ∧ ¬ n = 1) by omega) with rfl | rfl | ⟨h0, h1⟩
 ·by_cases hs : s.toList = []
  ·by_cases hz : len = 0
   ·have hz' : ((len : Int) == 0) = true := by simp [hz]
    have HEE : Hid (E = 0) := qh (by rw [hE]; exact if_pos ⟨Or.inl rfl, hs, hz⟩)
    clear hE
    go_enter Tryz.func128, Tryz.ntmps128
    go_wp2_with fail
    all_goals
     go_ret
     exact ⟨by rw [HEE.out]; rfl, ext_alloc _ _⟩
   ·have hz' : ((len : Int) == 0) = false := by simp [hz]
    have HEE : Hid (E = 2) := qh (by rw [hE]; exact if_neg (fun h => hz h.2.2))
    clear hE
    go_enter Tryz.func128, Tryz.ntmps128
    go_wp2_with fail
    all_goals
     go_ret
     exact ⟨by rw [HEE.out]; rfl, ext_alloc _ _⟩
  ·
   have HEE : Hid (E = 2) := qh (by rw [hE]; exact if_neg (fun h => hs h.2.1))
   clear hE
   go_enter Tryz.func128, Tryz.ntmps128
   go_wp2_with fail
   all_goals
    go_ret
    exact ⟨by rw [HEE.out]; rfl, ext_alloc _ _⟩
 ·by_cases hs : s.toList = []
  ·by_cases hz : len = 0
   ·have hz' : ((len : Int) == 0) = true := by simp [hz]
    have HEE : Hid (E = 0) := qh (by rw [hE]; exact if_pos ⟨Or.inr rfl, hs, hz⟩)
    clear hE
    go_enter Tryz.func128, Tryz.ntmps128
    go_wp2_with fail
    all_goals
     go_ret
     exact ⟨by rw [HEE.out]; rfl, ext_alloc _ _⟩
   ·have hz' : ((len : Int) == 0) = false := by simp [hz]
    have HEE : Hid (E = 2) := qh (by rw [hE]; exact if_neg (fun h => hz h.2.2))
    clear hE
    go_enter Tryz.func128, Tryz.ntmps128
    go_wp2_with fail
    all_goals
     go_ret
     exact ⟨by rw [HEE.out]; rfl, ext_alloc _ _⟩
  ·
   have HEE : Hid (E = 2) := qh (by rw [hE]; exact if_neg (fun h => hs h.2.1))
   clear hE
   go_enter Tryz.func128, Tryz.ntmps128
   go_wp2_with fail
   all_goals
    go_ret
    exact ⟨by rw [HEE.out]; rfl, ext_alloc _ _⟩
 ·have h0' : (n == 0) = false := by simpa using h0
  have h1' : (n == 1) = false := by simpa using h1
  have HEE : Hid (E = 2) := qh (by rw [hE]; exact if_neg (fun h => by rcases h.1 with e | e; exact h0 e; exact h1 e))
  clear hE
  go_enter Tryz.func128, Tryz.ntmps128
  go_wp2_with fail
  all_goals
   go_ret
   exact ⟨by rw [HEE.out]; rfl, ext_alloc _ _⟩
set_option maxHeartbeats 1000000 in
theorem own4 (n : Int) (s : ByteArray) (l : List V) (a : Option Addr) (c : Nat) (w : World) :
 Calls Tryz.prog 128 #[.agg #[.int .i64 4, .int .i64 n, .string s, .slice a l.length c]] w (IntTo (ownE 4 n s l) w) := by
 obtain ⟨E, hE⟩ : ∃ E, E = ownE 4 n s l := ⟨_, rfl⟩
 rw [← hE]
 rw [ownE_4] at hE
 obtain ⟨len, hlen⟩ : ∃ len, len = l.length := ⟨_, rfl⟩
 try rw [← hlen] at hE
 rw [← hlen]
 clear hlen
 by_cases hn : n = 0
 ·by_cases hz : len = 0
  ·have hz' : ((len : Int) == 0) = true := by simp [hz]
   have HEE : Hid (E = 0) := qh (by rw [hE]; exact if_pos ⟨hn, hz⟩)
   clear hE; subst hn
   go_enter Tryz.func128, Tryz.ntmps128
   go_wp2_with fail
   all_goals
    go_ret
    exact ⟨by rw [HEE.out]; rfl, ext_alloc _ _⟩
  ·have hz' : ((len : Int) == 0) = false := by simp [hz]
   have HEE : Hid (E = 2) := qh (by rw [hE]; exact if_neg (fun h => hz h.2))
   clear hE; subst hn
   go_enter Tryz.func128, Tryz.ntmps128
   go_wp2_with fail
   all_goals
    go_ret
    exact ⟨by rw [HEE.out]; rfl, ext_alloc _ _⟩
 ·have hn' : (n == 0) = false := by simpa using hn
  have HEE : Hid (E = 2) := qh (by rw [hE]; exact if_neg (fun h => hn h.1))
  clear hE
  go_enter Tryz.func128, Tryz.ntmps128
  go_wp2_with fail
  all_goals
   go_ret
   exact ⟨by rw [HEE.out]; rfl, ext_alloc _ _⟩
set_option maxHeartbeats 1000000 in
theorem own6 (n : Int) (s : ByteArray) (l : List V) (a : Option Addr) (c : Nat) (w : World) :
 Calls Tryz.prog 128 #[.agg #[.int .i64 6, .int .i64 n, .string s, .slice a l.length c]] w (IntTo (ownE 6 n s l) w) := by
 obtain ⟨E, hE⟩ : ∃ E, E = ownE 6 n s l := ⟨_, rfl⟩
 rw [← hE]
 rw [ownE_6] at hE
 obtain ⟨len, hlen⟩ : ∃ len, len = l.length := ⟨_, rfl⟩
 try rw [← hlen] at hE
 rw [← hlen]
 clear hlen
 by_cases hn : n = 0
 ·by_cases hs : s.toList = []
  ·have hs' : s.toList.isEmpty = true := by rw [hs]; rfl
   have HEE : Hid (E = 0) := qh (by rw [hE]; exact if_pos ⟨hn, hs⟩)
   clear hE; subst hn
   go_enter Tryz.func128, Tryz.ntmps128
   go_wp2_with fail
   all_goals
    go_ret
    exact ⟨by rw [HEE.out]; rfl, ext_alloc _ _⟩
  ·have hs' : s.toList.isEmpty = false := by simpa using hs
   have HEE : Hid (E = 2) := qh (by rw [hE]; exact if_neg (fun h => hs h.2))
   clear hE; subst hn
   go_enter Tryz.func128, Tryz.ntmps128
   go_wp2_with fail
   all_goals
    go_ret
    exact ⟨by rw [HEE.out]; rfl, ext_alloc _ _⟩
 ·have hn' : (n == 0) = false := by simpa using hn
  have HEE : Hid (E = 2) := qh (by rw [hE]; exact if_neg (fun h => hn h.1))
  clear hE
  go_enter Tryz.func128, Tryz.ntmps128
  go_wp2_with fail
  all_goals
   go_ret
   exact ⟨by rw [HEE.out]; rfl, ext_alloc _ _⟩
set_option maxHeartbeats 1000000 in
theorem own8 (n : Int) (s : ByteArray) (l : List V) (a : Option Addr) (c : Nat) (w : World) :
 Calls Tryz.prog 128 #[.agg #[.int .i64 8, .int .i64 n, .string s, .slice a l.length c]] w (IntTo (ownE 8 n s l) w) := by
 obtain ⟨E, hE⟩ : ∃ E, E = ownE 8 n s l := ⟨_, rfl⟩
 rw [← hE]
 rw [ownE_8] at hE
 obtain ⟨len, hlen⟩ : ∃ len, len = l.length := ⟨_, rfl⟩
 try rw [← hlen] at hE
 rw [← hlen]
 clear hlen
 by_cases h1 : 1 ≤ n
 ·by_cases h2 : n ≤ 4096
  ·by_cases hs : s.toList = []
   ·by_cases hz : len = 0
    ·have hz' : ((len : Int) == 0) = true := by simp [hz]
     have HEE : Hid (E = 0) := qh (by rw [hE]; exact if_pos ⟨⟨h1, h2⟩, hs, hz⟩)
     clear hE
     go_enter Tryz.func128, Tryz.ntmps128
     go_wp2_with fail
     all_goals
      go_ret
      exact ⟨by rw [HEE.out]; rfl, ext_alloc _ _⟩
    ·have hz' : ((len : Int) == 0) = false := by simp [hz]
     have HEE : Hid (E = 2) := qh (by rw [hE]; exact if_neg (fun h => hz h.2.2))
     clear hE
     go_enter Tryz.func128, Tryz.ntmps128
     go_wp2_with fail
     all_goals
      go_ret
      exact ⟨by rw [HEE.out]; rfl, ext_alloc _ _⟩
   ·
    have HEE : Hid (E = 2) := qh (by rw [hE]; exact if_neg (fun h => hs h.2.1))
    clear hE
    go_enter Tryz.func128, Tryz.ntmps128
    go_wp2_with fail
    all_goals
     go_ret
     exact ⟨by rw [HEE.out]; rfl, ext_alloc _ _⟩
  ·
   have HEE : Hid (E = 2) := qh (by rw [hE]; exact if_neg (fun h => h2 h.1.2))
   clear hE
   go_enter Tryz.func128, Tryz.ntmps128
   go_wp2_with fail
   all_goals
    go_ret
    exact ⟨by rw [HEE.out]; rfl, ext_alloc _ _⟩
 ·
  have HEE : Hid (E = 2) := qh (by rw [hE]; exact if_neg (fun h => h1 h.1.1))
  clear hE
  go_enter Tryz.func128, Tryz.ntmps128
  go_wp2_with fail
  all_goals
   go_ret
   exact ⟨by rw [HEE.out]; rfl, ext_alloc _ _⟩
theorem ownE_0 (n : Int) (s : ByteArray) (l : List V) : ownE 0 n s l = if n = 0 ∧ s.toList = [] ∧ l.length = 0 then 0 else 2 := by unfold ownE; rw [if_pos rfl]
theorem ownE_2 (n : Int) (s : ByteArray) (l : List V) : ownE 2 n s l = numE 2 n s l.length := by unfold ownE; rw [if_neg (by decide), if_neg (by decide), if_pos (Or.inl rfl)]
theorem ownE_3 (n : Int) (s : ByteArray) (l : List V) : ownE 3 n s l = numE 3 n s l.length := by unfold ownE; rw [if_neg (by decide), if_neg (by decide), if_pos (Or.inr rfl)]
theorem ownE_5 (n : Int) (s : ByteArray) (l : List V) : ownE 5 n s l = if textB s = true then (if n = 0 ∧ l.length = 0 then 0 else 2) else 17 := by unfold ownE; rw [if_neg (by decide), if_neg (by decide), if_neg (by decide), if_neg (by decide), if_pos rfl]
theorem ownE_7 (n : Int) (s : ByteArray) (l : List V) : ownE 7 n s l = dictOwn n s l := by unfold ownE; rw [if_neg (by decide), if_neg (by decide), if_neg (by decide), if_neg (by decide), if_neg (by decide), if_neg (by decide), if_pos rfl]
theorem ownE_other {k : Int} (h : ¬ (0 ≤ k ∧ k ≤ 8)) (n : Int) (s : ByteArray) (l : List V) : ownE k n s l = 2 := by unfold ownE; rw [if_neg (by omega), if_neg (by omega), if_neg (by omega), if_neg (by omega), if_neg (by omega), if_neg (by omega), if_neg (by omega), if_neg (by omega)]
set_option maxHeartbeats 1000000 in
theorem own0 (n : Int) (s : ByteArray) (l : List V) (a : Option Addr) (c : Nat) (w : World) :
 Calls Tryz.prog 128 #[.agg #[.int .i64 0, .int .i64 n, .string s, .slice a l.length c]] w (IntTo (ownE 0 n s l) w) := by
 obtain ⟨E, hE⟩ : ∃ E, E = ownE 0 n s l := ⟨_, rfl⟩
 rw [← hE]
 rw [ownE_0] at hE
 obtain ⟨len, hlen⟩ : ∃ len, len = l.length := ⟨_, rfl⟩
 try rw [← hlen] at hE
 rw [← hlen]
 clear hlen
 have HP := qh (fun W => plain_any 0 n s a len c W)
 obtain ⟨B, hB⟩ : ∃ B, B = decide (n = 0 ∧ s.toList = [] ∧ len = 0) := ⟨_, rfl⟩
 rw [← hB] at HP
 have HE : Hid (E = if B = true then 0 else 2) := qh (by rw [hE, hB]; simp)
 clear hE hB
 cases B with
 | false =>
   go_enter Tryz.func128, Tryz.ntmps128
   go_wp2_with fail
   refine (HP.out _).mono ?_
   rintro e w2 ⟨rfl, hP2⟩
   go_wp2_with fail
   go_ret
   exact ⟨by rw [HE.out]; rfl, (ext_alloc _ _).pure hP2⟩
 | true =>
   go_enter Tryz.func128, Tryz.ntmps128
   go_wp2_with fail
   refine (HP.out _).mono ?_
   rintro e w2 ⟨rfl, hP2⟩
   go_wp2_with fail
   go_ret
   exact ⟨by rw [HE.out]; rfl, (ext_alloc _ _).pure hP2⟩
set_option maxHeartbeats 1000000 in
theorem own2 (n : Int) (s : ByteArray) (l : List V) (a : Option Addr) (c : Nat) (w : World) :
 Calls Tryz.prog 128 #[.agg #[.int .i64 2, .int .i64 n, .string s, .slice a l.length c]] w (IntTo (ownE 2 n s l) w) := by
 obtain ⟨E, hE⟩ : ∃ E, E = ownE 2 n s l := ⟨_, rfl⟩
 rw [← hE]
 rw [ownE_2] at hE
 obtain ⟨len, hlen⟩ : ∃ len, len = l.length := ⟨_, rfl⟩
 try rw [← hlen] at hE
 rw [← hlen]
 clear hlen
 have HP := qh (fun W => numcheck_any 2 n s a len c W)
 rw [← hE] at HP
 clear hE
 go_enter Tryz.func128, Tryz.ntmps128
 go_wp2_with fail
 all_goals
  refine (HP.out _).mono ?_
  rintro e w2 ⟨rfl, hP2⟩
  go_wp2_with fail
  go_ret
  exact ⟨rfl, (ext_alloc _ _).pure hP2⟩
set_option maxHeartbeats 1000000 in
theorem own3 (n : Int) (s : ByteArray) (l : List V) (a : Option Addr) (c : Nat) (w : World) :
 Calls Tryz.prog 128 #[.agg #[.int .i64 3, .int .i64 n, .string s, .slice a l.length c]] w (IntTo (ownE 3 n s l) w) := by
 obtain ⟨E, hE⟩ : ∃ E, E = ownE 3 n s l := ⟨_, rfl⟩
 rw [← hE]
 rw [ownE_3] at hE
 obtain ⟨len, hlen⟩ : ∃ len, len = l.length := ⟨_, rfl⟩
 try rw [← hlen] at hE
 rw [← hlen]
 clear hlen
 have HP := qh (fun W => numcheck_any 3 n s a len c W)
 rw [← hE] at HP
 clear hE
 go_enter Tryz.func128, Tryz.ntmps128
 go_wp2_with fail
 all_goals
  refine (HP.out _).mono ?_
  rintro e w2 ⟨rfl, hP2⟩
  go_wp2_with fail
  go_ret
  exact ⟨rfl, (ext_alloc _ _).pure hP2⟩
set_option maxHeartbeats 1000000 in
theorem own5 (n : Int) (s : ByteArray) (l : List V) (a : Option Addr) (c : Nat) (w : World) (hs : s.size ≤ maxLen) :
 Calls Tryz.prog 128 #[.agg #[.int .i64 5, .int .i64 n, .string s, .slice a l.length c]] w (IntTo (ownE 5 n s l) w) := by
 obtain ⟨E, hE⟩ : ∃ E, E = ownE 5 n s l := ⟨_, rfl⟩
 rw [← hE]
 rw [ownE_5] at hE
 obtain ⟨len, hlen⟩ : ∃ len, len = l.length := ⟨_, rfl⟩
 try rw [← hlen] at hE
 rw [← hlen]
 clear hlen
 unfold maxLen at hs
 have HI := qh (fun W => idx_any s W)
 have hti := idx_text s
 obtain ⟨y, hy⟩ : ∃ y, y = Lib.indexByte s.data.toList 0 := ⟨_, rfl⟩
 rw [← hy] at HI hti
 by_cases h127 : 127 < s.size
 ·have HEE : Hid (E = 17) := qh (by rw [hE, if_neg]; simp [textB]; omega)
  have h1 : (127 : Int) < (s.size : Int) := by omega
  clear hE hti h127
  go_enter Tryz.func128, Tryz.ntmps128
  go_wp2_with fail
  go_ret
  exact ⟨by rw [HEE.out]; rfl, ext_alloc _ _⟩
 ·have h1 : ¬ (127 : Int) < (s.size : Int) := by omega
  by_cases h0 : 0 ≤ y
  ·have HEE : Hid (E = 17) := qh (by
    rw [hE, if_neg]
    rw [decide_eq_true h0] at hti
    rw [textB, ← hti]; simp)
   clear hE hti h127
   go_enter Tryz.func128, Tryz.ntmps128
   go_wp2_with fail
   refine (HI.out _).mono ?_
   rintro e w2 ⟨rfl, hw2⟩
   obtain rfl := hw2
   go_wp2_with fail
   go_ret
   exact ⟨by rw [HEE.out]; rfl, ext_alloc _ _⟩
  ·have htx : textB s = true := by
    rw [decide_eq_false h0] at hti
    rw [textB, ← hti, decide_eq_true (show s.size ≤ 127 by omega)]; rfl
   rw [if_pos htx] at hE
   clear htx hti h127
   by_cases hn : n = 0
   ·subst hn
    by_cases hz : len = 0
    ·have HEE : Hid (E = 0) := qh (by rw [hE, if_pos ⟨rfl, hz⟩])
     have hz' : ((len : Int) == 0) = true := by simp [hz]
     clear hE
     go_enter Tryz.func128, Tryz.ntmps128
     go_wp2_with fail
     refine (HI.out _).mono ?_
     rintro e w2 ⟨rfl, hw2⟩
     obtain rfl := hw2
     go_wp2_with fail
     go_ret
     exact ⟨by rw [HEE.out]; rfl, ext_alloc _ _⟩
    ·have HEE : Hid (E = 2) := qh (by rw [hE, if_neg (fun h => hz h.2)])
     have hz' : ((len : Int) == 0) = false := by simp [hz]
     clear hE
     go_enter Tryz.func128, Tryz.ntmps128
     go_wp2_with fail
     refine (HI.out _).mono ?_
     rintro e w2 ⟨rfl, hw2⟩
     obtain rfl := hw2
     go_wp2_with fail
     go_ret
     exact ⟨by rw [HEE.out]; rfl, ext_alloc _ _⟩
   ·have HEE : Hid (E = 2) := qh (by rw [hE, if_neg (fun h => hn h.1)])
    have hn' : (n == 0) = false := by simpa using hn
    clear hE
    go_enter Tryz.func128, Tryz.ntmps128
    go_wp2_with fail
    refine (HI.out _).mono ?_
    rintro e w2 ⟨rfl, hw2⟩
    obtain rfl := hw2
    go_wp2_with fail
    go_ret
    exact ⟨by rw [HEE.out]; rfl, ext_alloc _ _⟩
set_option maxHeartbeats 1000000 in
theorem own7 {d : Nat} {l : List V} {a : Option Addr} {rows : List (List Value)} (n : Int) (s : ByteArray) (c : Nat) (w : World) (hK : Kids w d l a rows) (hl : l.length ≤ 1000000) :
 Calls Tryz.prog 128 #[.agg #[.int .i64 7, .int .i64 n, .string s, .slice a l.length c]] w (IntTo (ownE 7 n s l) w) := by
 obtain ⟨E, hE⟩ : ∃ E, E = ownE 7 n s l := ⟨_, rfl⟩
 rw [← hE]
 rw [ownE_7] at hE
 unfold dictOwn at hE
 have HD : Hid (∀ W, Pure w W → Calls Tryz.prog 149 #[.agg #[.int .i64 7, .int .i64 n, .string s, .slice a l.length c]] W (IntTo (dictE l) W)) :=
  qh (fun W hW => dict_any 7 n s c W (hK.pure hW) hl)
 clear hK hl
 obtain ⟨D, hD⟩ : ∃ D, D = dictE l := ⟨_, rfl⟩
 rw [← hD] at hE HD
 obtain ⟨len, hlen⟩ : ∃ len, len = l.length := ⟨_, rfl⟩
 rw [← hlen] at HD ⊢
 clear hlen hD
 by_cases h1 : n = 0
 ·subst h1
  by_cases h2 : s.toList = []
  ·have HEE : Hid (E = D) := qh (by rw [hE]; exact if_pos ⟨rfl, h2⟩)
   clear hE
   go_enter Tryz.func128, Tryz.ntmps128
   go_wp2_with fail
   refine (HD.out _ (ext_alloc _ _)).mono ?_
   rintro e w2 ⟨rfl, hP2⟩
   go_wp2_with fail
   go_ret
   exact ⟨by rw [HEE.out]; rfl, (ext_alloc _ _).pure hP2⟩
  ·have HEE : Hid (E = 2) := qh (by rw [hE]; exact if_neg (fun h => h2 h.2))
   have h2' : s.toList.isEmpty = false := by simpa using h2
   clear hE
   go_enter Tryz.func128, Tryz.ntmps128
   go_wp2_with fail
   all_goals
    go_ret
    exact ⟨by rw [HEE.out]; rfl, ext_alloc _ _⟩
 ·have HEE : Hid (E = 2) := qh (by rw [hE]; exact if_neg (fun h => h1 h.1))
  have h1' : (n == 0) = false := by simpa using h1
  clear hE
  go_enter Tryz.func128, Tryz.ntmps128
  go_wp2_with fail
  go_ret
  exact ⟨by rw [HEE.out]; rfl, ext_alloc _ _⟩
set_option maxHeartbeats 1000000 in
theorem own_other {k : Int} (hk : ¬ (0 ≤ k ∧ k ≤ 8)) (n : Int) (s : ByteArray) (l : List V) (a : Option Addr) (c : Nat) (w : World) :
 Calls Tryz.prog 128 #[.agg #[.int .i64 k, .int .i64 n, .string s, .slice a l.length c]] w (IntTo (ownE k n s l) w) := by
 rw [ownE_other hk]
 obtain ⟨len, hlen⟩ : ∃ len, len = l.length := ⟨_, rfl⟩
 rw [← hlen]
 clear hlen
 have h0 : (k == 0) = false := by simp; omega
 have h1 : (k == 1) = false := by simp; omega
 have h2 : (k == 2) = false := by simp; omega
 have h3 : (k == 3) = false := by simp; omega
 have h4 : (k == 4) = false := by simp; omega
 have h5 : (k == 5) = false := by simp; omega
 have h6 : (k == 6) = false := by simp; omega
 have h7 : (k == 7) = false := by simp; omega
 have h8 : (k == 8) = false := by simp; omega
 clear hk
 go_enter Tryz.func128, Tryz.ntmps128
 go_wp2_with fail
 go_ret
 exact ⟨rfl, ext_alloc _ _⟩
theorem own_any {d : Nat} {l : List V} {a : Option Addr} {rows : List (List Value)} (k n : Int) (s : ByteArray) (c : Nat) (w : World) (hK : Kids w d l a rows) (hl : l.length ≤ 1000000) (hs : s.size ≤ maxLen) :
 Calls Tryz.prog 128 #[.agg #[.int .i64 k, .int .i64 n, .string s, .slice a l.length c]] w (IntTo (ownE k n s l) w) := by
 by_cases hk : 0 ≤ k ∧ k ≤ 8
 ·have h9 : k = 0 ∨ k = 1 ∨ k = 2 ∨ k = 3 ∨ k = 4 ∨ k = 5 ∨ k = 6 ∨ k = 7 ∨ k = 8 := by omega
  clear hk
  rcases h9 with rfl | rfl | rfl | rfl | rfl | rfl | rfl | rfl | rfl
  ·exact own0 n s l a c w
  ·exact own1 n s l a c w
  ·exact own2 n s l a c w
  ·exact own3 n s l a c w
  ·exact own4 n s l a c w
  ·exact own5 n s l a c w hs
  ·exact own6 n s l a c w
  ·exact own7 n s c w hK hl
  ·exact own8 n s l a c w
 ·exact own_other hk n s l a c w
theorem own_lies {d : Nat} {v : V} {cs : List Value} (w : World) (hL : Lies w (d + 1) v cs) (hl : v.l.length ≤ 1000000) :
 Calls Tryz.prog 128 #[.agg cs.toArray] w (IntTo (ownE v.kind v.n v.s v.l) w) := by
 obtain ⟨a, c, rows, rfl, _, _, _, hK, hs⟩ := hL.kids
 exact own_any _ _ _ c w hK hl hs
mutual
def V.walk {σ : Type} (f : σ → V → σ × Bool) : V → σ → σ × Bool
 | .mk k n s l, x => if (f x (.mk k n s l)).2 = true then (if (k == 6 || k == 7) = true then walkL f l (f x (.mk k n s l)).1 else ((f x (.mk k n s l)).1, true)) else ((f x (.mk k n s l)).1, false)
def walkL {σ : Type} (f : σ → V → σ × Bool) : List V → σ → σ × Bool
 | [], x => (x, true)
 | v :: l, x => if (v.walk f x).2 = true then walkL f l (v.walk f x).1 else ((v.walk f x).1, false)
end
theorem walk_eq {σ : Type} (f : σ → V → σ × Bool) (v : V) (x : σ) : v.walk f x = if (f x v).2 = true then (if v.holds = true then walkL f v.l (f x v).1 else ((f x v).1, true)) else ((f x v).1, false) := by
 cases v; rw [V.walk]; rfl
theorem walkL_snoc {σ : Type} (f : σ → V → σ × Bool) (l : List V) (v : V) (x : σ) : walkL f (l ++ [v]) x = if (walkL f l x).2 = true then v.walk f (walkL f l x).1 else walkL f l x := by
 induction l generalizing x with
 | nil =>
   rw [List.nil_append, walkL, walkL, walkL]
   by_cases h : (v.walk f x).2 = true
   ·rw [if_pos h, if_pos rfl]
    obtain ⟨y, b⟩ : ∃ y, y = v.walk f x := ⟨_, rfl⟩
    rw [← b] at h ⊢
    rcases y with ⟨y, z⟩
    simp only at h
    rw [h]
   ·rw [if_neg h, if_pos rfl]
    obtain ⟨y, b⟩ : ∃ y, y = v.walk f x := ⟨_, rfl⟩
    rw [← b] at h ⊢
    rcases y with ⟨y, z⟩
    simp only [Bool.not_eq_true] at h
    rw [h]
 | cons u l ih =>
   rw [List.cons_append, walkL, walkL]
   by_cases h : (u.walk f x).2 = true
   ·rw [if_pos h, if_pos h, ih]
   ·rw [if_neg h, if_neg h, if_neg (by simp)]
theorem walkL_stop {σ : Type} (f : σ → V → σ × Bool) (p q : List V) (x : σ) (h : (walkL f p x).2 = false) : walkL f (p ++ q) x = walkL f p x := by
 induction p generalizing x with
 | nil => rw [walkL] at h; cases h
 | cons u p ih =>
   rw [List.cons_append, walkL]
   rw [walkL] at h
   rw [walkL]
   split
   ·next e => rw [if_pos e] at h; exact ih _ h
   ·rfl
structure Step {Γ : Type} (S : Γ → Nat → Prop) (I : Γ → World → Prop) (γ : Γ) (W : World) (γ' : Γ) (W' : World) : Prop where
 ext : Ext (S γ) W W'
 inv : I γ' W'
 own : ∀ k, S γ' k → S γ k ∨ W.heap.size ≤ k
theorem Step.trans {Γ : Type} {S : Γ → Nat → Prop} {I : Γ → World → Prop} {γ γ' γ'' : Γ} {W W' W'' : World} (h : Step S I γ W γ' W') (k : Step S I γ' W' γ'' W'') : Step S I γ W γ'' W'' :=
 ⟨h.ext.trans k.ext (fun i hi hs => (h.own i hs).resolve_right (by omega)), k.inv, fun i hs => by
  rcases k.own i hs with h1 | h1
  ·exact h.own i h1
  ·exact Or.inr (Nat.le_trans h.ext.size h1)⟩
structure Walker {Γ σ : Type} (view : Γ → σ) (S : Γ → Nat → Prop) (I : Γ → World → Prop) (f : σ → V → σ × Bool) (g : Nat) (caps : Array Value) (w0 : World) : Prop where
 goes : ∀ args w, (callFunc g args).run Tryz.prog w = .ok (.enter g args) w
 base : ∀ γ W, I γ W → Pure w0 W
 below : ∀ γ W k, I γ W → S γ k → k < W.heap.size
 keep : ∀ γ W W', I γ W → Pure W W' → I γ W'
 see : ∀ d v cs γ W, Lies w0 (d + 1) v cs → v.size ≤ 100000 → I γ W → Calls Tryz.prog g (#[.agg cs.toArray] ++ caps) W (fun e W' => ∃ γ', e = .returned (.bool (f (view γ) v).2) ∧ view γ' = (f (view γ) v).1 ∧ Step S I γ W γ' W')
def WalkTo {Γ σ : Type} (view : Γ → σ) (S : Γ → Nat → Prop) (I : Γ → World → Prop) (F : σ × Bool) (γ : Γ) (W : World) (e : Ending) (W' : World) : Prop :=
 ∃ γ', e = .returned (.bool F.2) ∧ view γ' = F.1 ∧ Step S I γ W γ' W'
theorem Walker.pure {Γ σ : Type} {view : Γ → σ} {S : Γ → Nat → Prop} {I : Γ → World → Prop} {f : σ → V → σ × Bool} {g : Nat} {caps : Array Value} {w0 : World} (h : Walker view S I f g caps w0) {γ : Γ} {W W' : World} (hI : I γ W) (hP : Pure W W') : Step S I γ W γ W' :=
 ⟨hP.mono (fun _ _ e => e.elim), h.keep _ _ _ hI hP, fun k hs => Or.inl hs⟩
set_option maxHeartbeats 1000000 in
theorem walk_any {Γ σ : Type} {view : Γ → σ} {S : Γ → Nat → Prop} {I : Γ → World → Prop} {f : σ → V → σ × Bool} {g : Nat} {caps : Array Value} {w0 : World} (hWk : Hid (Walker view S I f g caps w0)) (hg : ∀ args w, (callFunc g args).run Tryz.prog w = .ok (.enter g args) w) : ∀ (d : Nat) (v : V) (cs : List Value) (γ : Γ) (w : World), Lies w0 d v cs → v.size ≤ 100000 → I γ w →
 Calls Tryz.prog 93 #[.agg cs.toArray, .func (.func g) #[] caps] w (WalkTo view S I (v.walk f (view γ)) γ w)
 | 0, _, _, _, _, h, _, _ => h.elim
 | d + 1, v, cs, γ, w, h, hsz, hI => by
   have IH := walk_any hWk hg d
   have hL0 := h
   obtain ⟨w1, hw1⟩ : ∃ w1, w1 = w.alloc (.cells cs.toArray 48) := ⟨_, rfl⟩
   have hBx : BlockIs w1 w.heap.size cs 48 := hw1 ▸ BlockIs.new w _ _
   have hP1 : Pure w w1 := hw1 ▸ ext_alloc w _
   have hst0 := hWk.out.pure hI hP1
   have hSee := qh (hWk.out.see d v cs γ w1 h hsz hst0.inv)
   have hbel := hWk.out.below _ _ w.heap.size hI
   obtain ⟨tb, htb⟩ : ∃ tb, tb = w.heap.size := ⟨_, rfl⟩
   rw [← htb] at hBx hbel
   have hns : ¬ S γ tb := fun hs => by have := hbel hs; omega
   have htb1 : tb < w1.heap.size := hBx.lt
   have he := walk_eq f v (view γ)
   obtain ⟨R, hR⟩ : ∃ R, R = v.walk f (view γ) := ⟨_, rfl⟩
   rw [← hR] at he ⊢
   have h4 := h.len
   have HRg := hBx.range
   have HTb := qh htb
   have HW1 := qh hw1
   have HE := qh he
   have HI := qh IH
   have HL0 := qh hL0
   have HSt0 := qh hst0
   have HNs := qh hns
   have HSz := qh hsz
   clear hR he IH hL0 h hst0 hns hbel hw1 htb htb1 hsz hI hP1
   go_enter Tryz.func93, Tryz.ntmps93
   go_wp2_with (refine wpList_load_mid rfl 48 (.tmp 2) rfl tb 0 (by rw [HTb.out]; rfl) cs _ (by rw [← HW1.out]; exact HRg) Tryz.underlying48 rfl (by rw [h4]; kernel_rfl) ?_)
   rw [← HW1.out, ← HTb.out]
   refine hSee.out.mono ?_
   rintro e w2 ⟨γ2, rfl, hv2, hst2⟩
   have hst := HSt0.out.trans hst2
   have hB2 := hBx.ext hst2.ext HNs.out
   have HF := qh hv2
   have HSt := qh hst
   clear hSee hv2 hst hst2 hBx HRg HNs HSt0
   obtain ⟨B, hB⟩ : ∃ B, B = (f (view γ) v).2 := ⟨_, rfl⟩
   rw [← hB]
   have HE1 : Hid (R = if B = true then (if v.holds = true then walkL f v.l (view γ2) else (view γ2, true)) else (view γ2, false)) := qh (by rw [HE.out, hB, HF.out])
   clear hB HE HF
   obtain ⟨a, c, rows, rfl, hlc, hcm, hnil, hK, hs⟩ := HL0.out.kids
   have hho := holds_iff (v := v)
   obtain ⟨n, hn⟩ : ∃ n, n = v.l.length := ⟨_, rfl⟩
   obtain ⟨l, hl⟩ : ∃ l, l = v.l := ⟨_, rfl⟩
   have hszl : sizeL l ≤ 100000 := by have := size_eq v; rw [hl]; have := HSz.out; omega
   have hlen : n ≤ sizeL l := by
    rw [hn, ← hl]
    clear HE1 hK hn hl hszl
    induction l with
    | nil => simp [sizeL]
    | cons u l ih => rw [sizeL, List.length_cons]; have := size_eq u; omega
   rw [← hl] at HE1 hn hK
   rw [← hl, ← hn] at hlc hB2
   obtain ⟨H, hH⟩ : ∃ H, H = v.holds := ⟨_, rfl⟩
   rw [← hH] at HE1 hho
   generalize v.kind = k at *
   have HN := qh hn
   have HSl := qh hszl
   have hn1 : n ≤ 100000 := by omega
   clear hn hl hH hszl hlen HL0 HSz hs
   cases B with
   | false =>
     have HR : Hid (R = (view γ2, false)) := qh (by rw [HE1.out]; rfl)
     clear HE1 HI hho hK
     go_wp2_with fail
     go_ret
     exact ⟨γ2, by rw [HR.out]; rfl, by rw [HR.out], HSt.out⟩
   | true =>
     cases H with
     | false =>
       have HR : Hid (R = (view γ2, true)) := qh (by rw [HE1.out]; rfl)
       have h67 : ¬ (k = 6 ∨ k = 7) := fun e => by have := hho.2 e; cases this
       have h6 : (k != 6) = true := by simp; exact fun e => h67 (Or.inl e)
       have h7 : (k != 7) = true := by simp; exact fun e => h67 (Or.inr e)
       have c0 : w2.cell? ⟨tb, 0, none⟩ = some (.int .i64 k) := hB2.cell 0
       clear HE1 HI hho hK h67
       go_wp2_with fail
       go_ret
       exact ⟨γ2, by rw [HR.out]; rfl, by rw [HR.out], HSt.out⟩
     | true =>
       have HR : Hid (R = walkL f l (view γ2)) := qh (by rw [HE1.out]; rfl)
       have h67 := hho.1 rfl
       have c0 : w2.cell? ⟨tb, 0, none⟩ = some (.int .i64 k) := hB2.cell 0
       have c3 : w2.cell? ⟨tb, 3, none⟩ = some (.slice a n c) := hB2.cell 3
       clear HE1 hho
       rcases h67 with rfl | rfl
       all_goals
        go_wp2_with fail
        go_loopw [6, 22] (fun _ i W => ∃ (k : Nat) (γk : Γ), k ≤ n ∧ i = .int .i64 k ∧ walkL f (l.take k) (view γ2) = (view γk, true) ∧ Step S I γ w γk W) (fun _ i _ => n - (intOf i).toNat)
        case atStart => exact ⟨0, γ2, Nat.zero_le _, rfl, by rw [List.take_zero, walkL], HSt.out⟩
        case round =>
         obtain ⟨k, γk, hk, rfl, hwk, hStk⟩ := hrel
         by_cases hlt : k < n
         ·have hki : (k : Int) < (n : Int) := by omega
          obtain ⟨u, hu⟩ : ∃ u, l[k]? = some u := ⟨_, List.getElem?_eq_getElem (by rw [← HN.out]; exact hlt)⟩
          have hP0 := hWk.out.base _ _ hStk.inv
          obtain ⟨b, o, r, rfl, hr0, hr4, hL⟩ := hK.at k u hu
          have hr : wr.rangeAt b (o + k * 4) r := fun j v hv => hP0.cell_some (hr0 j v hv) id
          have hus : u.size ≤ 100000 := Nat.le_trans (size_mem (List.mem_of_getElem? hu)) HSl.out
          have hwk1 : walkL f (l.take (k + 1)) (view γ2) = u.walk f (view γk) := by
           obtain ⟨hkl, rfl⟩ := List.getElem?_eq_some_iff.1 hu
           rw [List.take_succ_eq_append_getElem hkl, walkL_snoc, hwk, if_pos rfl]
          obtain ⟨hth, hB3, hP2⟩ := put_new (W := wr) _ rfl (d := d) (v := u) (cs := r) (by exact hL.pure hP0)
          have hone := hL.one
          obtain ⟨w3, hw3⟩ : ∃ z, z = (wr.alloc (.cells zeroCs.toArray 48)).setCells wr.heap.size 0 r := ⟨_, rfl⟩
          rw [← hw3] at hB3 hP2
          have hR3 := hB3.range
          have hSt3 := hStk.trans (hWk.out.pure hStk.inv hP2)
          obtain ⟨F, hF⟩ : ∃ F, F = u.walk f (view γk) := ⟨_, rfl⟩
          have HC0 := HI.out u r γk w3 hL hus hSt3.inv
          rw [← hF] at HC0 hwk1
          have HC := qh HC0
          have HW3 := qh hw3
          have HOne := qh hone
          have hsr : r.toArray.size = 4 := by rw [List.size_toArray]; exact hr4
          have HTh := qh (show (wr.alloc (.cells #[.int .i64 0, .int .i64 0, .string ⟨#[]⟩, .slice none 0 0] 48)).there wr.heap.size 0 r.toArray.size by rw [hsr]; exact hth)
          have HSi : Hid ((Tryz.prog.info? 48).map (·.size) = some r.toArray.size) := qh (by rw [hsr]; kernel_rfl)
          have HR4 := qh hr4
          have HK1 := qh hwk1
          have HS3 := qh hSt3
          clear hu hL HC0 hF hus hw3 hone hth hr4 hB3 hsr hr0 hP0 hwk hwk1 hStk hSt3 hP2 hK HI
          go_wp2_with (first
           | (refine wpList_load_mid rfl 48 (.tmp 24) rfl b (o + k * 4) rfl r _ hr Tryz.underlying48 rfl (by rw [HR4.out]; kernel_rfl) ?_)
           | (refine wpList_store_mid rfl 48 (.tmp 6) (.tmp 25) rfl wr.heap.size 0 r.toArray rfl rfl HTh.out HSi.out HOne.out ?_; rw [show (wr.alloc (.cells #[.int .i64 0, .int .i64 0, .string ⟨#[]⟩, .slice none 0 0] 48)).setCells wr.heap.size 0 r.toArray.toList = w3 from HW3.out.symm])
           | (refine wpList_load_mid rfl 48 (.tmp 6) rfl wr.heap.size 0 rfl r _ hR3 Tryz.underlying48 rfl (by rw [HR4.out]; kernel_rfl) ?_))
          refine HC.out.mono ?_
          rintro e w4 ⟨γ4, rfl, hv4, hst4⟩
          clear HC
          have hSt4 := HS3.out.trans hst4
          obtain ⟨F1, F2⟩ := F
          cases F2 with
          | true =>
            go_wp2_with fail
            go_roundw
            case rel => exact ⟨k + 1, γ4, by omega, by go_num, by rw [HK1.out, hv4], hSt4⟩
            case measure => simp [intOf]; omega
          | false =>
            have HB2 : Hid (R = (view γ4, false)) := qh (by
             rw [HR.out, ← List.take_append_drop (k + 1) l, walkL_stop _ _ _ _ (by rw [HK1.out]), HK1.out, hv4])
            go_wp2_with fail
            go_ret
            exact ⟨γ4, by rw [HB2.out]; rfl, by rw [HB2.out], hSt4⟩
         ·have hki : ¬ (k : Int) < (n : Int) := by omega
          have HB2 : Hid (R = (view γk, true)) := qh (by rw [HR.out, ← hwk, List.take_of_length_le (by rw [← HN.out]; omega)])
          clear hwk HR
          have HS := qh hStk
          clear hStk
          go_wp2_with fail
          go_ret
          exact ⟨γk, by rw [HB2.out]; rfl, by rw [HB2.out], HS.out⟩
mutual
def V.first : V → Int
 | .mk k n s l => if ownE k n s l = 0 then (if (k == 6 || k == 7) = true then firstL l else 0) else ownE k n s l
def firstL : List V → Int
 | [] => 0
 | v :: l => if v.first = 0 then firstL l else v.first
end
theorem length_sizeL (l : List V) : l.length ≤ sizeL l := by
 induction l with
 | nil => simp
 | cons u l ih => rw [sizeL, List.length_cons]; have := size_eq u; omega
theorem enters {P : Program} {f : FuncId} {fn : Func} {c : Code} (hf : P.funcs[f]? = some fn) (hname : (fn.name == "runtime.NumGoroutine") = false) (hb : fn.body = some c) (args : Array Value) (w : World) : (callFunc f args).run P w = .ok (.enter f args) w := by
 have h1 : fn.name ≠ "runtime.NumGoroutine" := by simpa using hname
 simp [callFunc, go_sem, hf, h1, hb]
def V.checkE (v : V) : Int := if v.depth ≤ 64 then v.first else 15
def ownF (_ : Int) (v : V) : Int × Bool := (ownE v.kind v.n v.s v.l, decide (ownE v.kind v.n v.s v.l = 0))
mutual
theorem V.walk_own : ∀ (v : V) (x : Int), v.walk ownF x = (v.first, decide (v.first = 0))
 | .mk k n s l, x => by
   rw [V.walk, V.first]
   have hL := walkL_own l
   have e : ownF x (.mk k n s l) = (ownE k n s l, decide (ownE k n s l = 0)) := rfl
   rw [e]
   simp only [decide_eq_true_eq]
   by_cases h : ownE k n s l = 0
   ·rw [if_pos h, if_pos h]
    by_cases h67 : (k == 6 || k == 7) = true
    ·rw [if_pos h67, if_pos h67, h, hL]
    ·rw [if_neg h67, if_neg h67, h]; rfl
   ·rw [if_neg h, if_neg h]; simp [h]
theorem walkL_own : ∀ (l : List V), walkL ownF l 0 = (firstL l, decide (firstL l = 0))
 | [] => by rw [walkL, firstL]; rfl
 | v :: l => by
   rw [walkL, firstL, V.walk_own v]
   have hL := walkL_own l
   simp only [decide_eq_true_eq]
   by_cases h : v.first = 0
   ·rw [if_pos h, if_pos h, h, hL]
   ·rw [if_neg h, if_neg h]; simp [h]
end
set_option maxHeartbeats 1000000 in
theorem check1_any (d : Nat) (v : V) (cs : List Value) (p : Nat) (x : Int) (w : World) (h : Lies w (d + 1) v cs) (hsz : v.size ≤ 100000) (hx : BlockIs w p [.int .i64 x] 42) :
 Calls Tryz.prog 127 #[.agg cs.toArray, .pointer (some ⟨p, 0, none⟩)] w (fun e W' => e = .returned (.bool (ownF x v).2) ∧ BlockIs W' p [.int .i64 (ownF x v).1] 42 ∧ Ext (fun k => k = p) w W') := by
 have h4 := h.len
 have hszl : sizeL v.l ≤ 100000 := by have := size_eq v; omega
 have hlen : v.l.length ≤ sizeL v.l := length_sizeL _
 have HOw := qh (fun W (hP : Pure w W) => own_lies W (h.pure hP) (by omega))
 obtain ⟨w1, hw1⟩ : ∃ w1, w1 = w.alloc (.cells cs.toArray 48) := ⟨_, rfl⟩
 have hBx : BlockIs w1 w.heap.size cs 48 := hw1 ▸ BlockIs.new w _ _
 have hP1 : Pure w w1 := hw1 ▸ ext_alloc w _
 have hpb := hx.lt
 have hx1 := hx.ext hP1 id
 obtain ⟨tb, htb⟩ : ∃ tb, tb = w.heap.size := ⟨_, rfl⟩
 rw [← htb] at hBx
 have hne : p ≠ tb := by omega
 have hR := hBx.range
 have HW1 := qh hw1
 have HTb := qh htb
 unfold ownF
 obtain ⟨E, hE⟩ : ∃ E, E = ownE v.kind v.n v.s v.l := ⟨_, rfl⟩
 rw [← hE] at HOw ⊢
 clear hE hw1 htb h hsz hszl hlen hx hpb
 go_enter Tryz.func127, Tryz.ntmps127
 go_wp2_with (refine wpList_load_mid rfl 48 (.tmp 2) rfl tb 0 (by rw [HTb.out]; rfl) cs _ (by rw [← HW1.out]; exact hR) Tryz.underlying48 rfl (by rw [h4]; kernel_rfl) ?_)
 rw [← HW1.out, ← HTb.out]
 refine (HOw.out w1 hP1).mono ?_
 rintro e w2 ⟨rfl, hP2⟩
 have hx2 := hx1.ext hP2 id
 have c0 : w2.cell? ⟨p, 0, none⟩ = some (.int .i64 x) := hx2.cell 0
 have f0 : w2.frozen? ⟨p, 0, none⟩ = false := hx2.free 0
 have hx3 := hx2.set 0 (.int .i64 E)
 have hE3 := ((hP1.pure hP2).mono (T := fun k => k = p) (fun _ _ e => e.elim)).setCell (p := ⟨p, 0, none⟩) (fun _ => rfl) (.int .i64 E)
 have HX3 := qh hx3
 have HE3 := qh hE3
 clear hx3 hE3 hx2 hx1
 by_cases h0 : E = 0
 ·have h0' : (E == 0) = true := by simp [h0]
  have HB : Hid (decide (E = 0) = true) := qh (by simp [h0])
  go_wp2_with fail
  go_ret
  exact ⟨by rw [HB.out]; rfl, by subst h0; exact HX3.out, by subst h0; exact HE3.out⟩
 ·have h0' : (E == 0) = false := by simp [h0]
  have HB : Hid (decide (E = 0) = false) := qh (by simp [h0])
  go_wp2_with fail
  go_ret
  exact ⟨by rw [HB.out]; rfl, HX3.out, HE3.out⟩
def CheckI (w0 : World) (p : Nat) (x : Int) (W : World) : Prop := Pure w0 W ∧ w0.heap.size ≤ p ∧ BlockIs W p [.int .i64 x] 42
theorem check_walker (w0 : World) (p : Nat) : Walker (fun x : Int => x) (fun _ k => k = p) (CheckI w0 p) ownF 127 #[.pointer (some ⟨p, 0, none⟩)] w0 where
 goes := enters Tryz.func127 (by decide +kernel) rfl
 base := fun _ _ h => h.1
 below := fun _ _ k h e => e ▸ h.2.2.lt
 keep := fun _ _ _ h hP => ⟨h.1.pure hP, h.2.1, h.2.2.ext hP id⟩
 see := fun d v cs x W hL hs h => by
  refine (check1_any d v cs p x W (hL.pure h.1) hs h.2.2).mono ?_
  rintro e W' ⟨rfl, hb, hE⟩
  exact ⟨(ownF x v).1, rfl, rfl, hE, ⟨h.1.trans hE (fun k hk e => by have := h.2.1; omega), h.2.1, hb⟩, fun k hk => Or.inl hk⟩
set_option maxHeartbeats 1000000 in
theorem check_any (d : Nat) (v : V) (cs : List Value) (w : World) (h : Lies w d v cs) (hsz : v.size ≤ 100000) :
 Calls Tryz.prog 90 #[.agg cs.toArray] w (IntTo v.checkE w) := by
 have h4 := h.len
 have HDe := qh (fun W (hP : Pure w W) => depth_any d v cs W (h.pure hP) hsz)
 have HWa := qh (fun W p (hI : CheckI w p 0 W) => walk_any (qh (check_walker w p)) (check_walker w p).goes d v cs 0 W h hsz hI)
 obtain ⟨w1, hw1⟩ : ∃ w1, w1 = w.alloc (.cells cs.toArray 48) := ⟨_, rfl⟩
 have hBx : BlockIs w1 w.heap.size cs 48 := hw1 ▸ BlockIs.new w _ _
 have hP1 : Pure w w1 := hw1 ▸ ext_alloc w _
 have hs0 : w.heap.size ≤ w1.heap.size := hP1.size
 obtain ⟨tb, htb⟩ : ∃ tb, tb = w.heap.size := ⟨_, rfl⟩
 rw [← htb] at hBx
 have hR := hBx.range
 have HW1 := qh hw1
 have HTb := qh htb
 have hds := V.depth_size v
 have hwo := V.walk_own v 0
 obtain ⟨D, hD⟩ : ∃ D, D = v.depth := ⟨_, rfl⟩
 obtain ⟨F, hF⟩ : ∃ F, F = v.first := ⟨_, rfl⟩
 obtain ⟨E, hE⟩ : ∃ E, E = v.checkE := ⟨_, rfl⟩
 rw [← hE]
 unfold V.checkE at hE
 rw [← hD, ← hF] at hE
 rw [← hD] at HDe hds
 rw [← hF] at hwo
 rw [hwo] at HWa
 have hD1 : D ≤ 100000 := by omega
 have HE := qh hE
 have hsb : tb ≤ w1.heap.size := by rw [htb]; exact hs0
 clear hD hF hE hw1 htb h hsz hds hwo hs0
 go_enter Tryz.func90, Tryz.ntmps90
 go_wp2_with (refine wpList_load_mid rfl 48 (.tmp 1) rfl tb 0 (by rw [HTb.out]; rfl) cs _ (by rw [← HW1.out]; exact hR) Tryz.underlying48 rfl (by rw [h4]; kernel_rfl) ?_)
 rw [← HW1.out, ← HTb.out]
 refine (HDe.out w1 hP1).mono ?_
 rintro e w2 ⟨rfl, hP2⟩
 have hR2 := (hBx.ext hP2 id).range
 by_cases hd : D ≤ 64
 ·have hdi : ¬ (64 : Int) < (D : Int) := by omega
  have HB : Hid (E = F) := qh (by rw [HE.out, if_pos hd])
  clear HE hd
  have hP12 := hP1.pure hP2
  have hsw : w.heap.size ≤ w2.heap.size := hP12.size
  obtain ⟨w3, hw3⟩ : ∃ w3, w3 = w2.alloc (.cells [.int .i64 0].toArray 42) := ⟨_, rfl⟩
  have hBp : BlockIs w3 w2.heap.size [.int .i64 0] 42 := hw3 ▸ BlockIs.new w2 _ _
  have hP3 : Pure w2 w3 := hw3 ▸ ext_alloc w2 _
  have hR3 := ((hBx.ext hP2 id).ext hP3 id).range
  have HW3 := qh hw3
  have HWB := qh (HWa.out w3 w2.heap.size ⟨hP12.pure hP3, hsw, hBp⟩)
  clear hw3 HWa
  go_wp2_with (refine wpList_load_mid rfl 48 (.tmp 1) rfl tb 0 rfl cs _ (by first | exact hR3 | (rw [← HW3.out]; exact hR3)) Tryz.underlying48 rfl (by rw [h4]; kernel_rfl) ?_)
  rw [← HW3.out]
  refine HWB.out.mono ?_
  rintro e w4 ⟨x4, rfl, hv4, hst4⟩
  have hv : x4 = F := hv4
  obtain ⟨h4a, h4b, h4c⟩ := hst4.inv
  have c0 : w4.cell? ⟨w2.heap.size, 0, none⟩ = some (.int .i64 F) := hv ▸ h4c.cell 0
  clear hv hv4 hst4 h4c HWB hBp
  go_wp2_with fail
  go_ret
  exact ⟨by rw [HB.out]; rfl, h4a⟩
 ·have hdi : (64 : Int) < (D : Int) := by omega
  have HB : Hid (E = 15) := qh (by rw [HE.out, if_neg hd])
  clear HE hd HWa
  go_wp2_with fail
  go_ret
  exact ⟨by rw [HB.out]; rfl, hP1.pure hP2⟩
def cmpI (x y : Int) : Int := if x < y then -1 else if y < x then 1 else 0
def cmpS (a b : ByteArray) : Int := Lib.compareBytes a.data.toList b.data.toList
def orI (x y : Int) : Int := if x = 0 then y else x
mutual
def V.cmp : V → V → Int
 | .mk k n s l, .mk k' n' s' l' => orI (orI (cmpI k k') (orI (cmpI n n') (cmpS s s'))) (cmpL l l')
def cmpL : List V → List V → Int
 | [], [] => 0
 | [], _ :: _ => -1
 | _ :: _, [] => 1
 | a :: l, b :: m => orI (a.cmp b) (cmpL l m)
end
def V.head (v u : V) : Int := orI (cmpI v.kind u.kind) (orI (cmpI v.n u.n) (cmpS v.s u.s))
theorem cmp_eq (v u : V) : v.cmp u = orI (v.head u) (cmpL v.l u.l) := by cases v; cases u; rw [V.cmp]; rfl
theorem orI_zero (y : Int) : orI 0 y = y := rfl
theorem orI_ne {x : Int} (y : Int) (h : x ≠ 0) : orI x y = x := if_neg h
