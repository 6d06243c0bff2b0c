import Derived.Test.YtipmbcalnnomjaaGreatTreePlTu
import Derived.Test.YtipmbcalnnomjaaGreatGetTu
import Derived.Test.YtipmbcalnnomjaaGreatDocPlTu
import Derived.Test.YtipmbcalnnomjaaGreatDocOkTu
import Derived.Test.YtipmbcalnnomjaaGreatRefsRTu
import Derived.Test.YtipmbcalnnomjaaGreatSqTu
set_option linter.unusedVariables false
set_option linter.unusedSimpArgs false
set_option maxRecDepth 100000
namespace Go.Proofs.YtipmbcalnnomjaaGreat
open Go.RowKit
theorem bytes_inj {s t : ByteArray} (h : s.toList = t.toList) : s = t := by
 rw [ByteArray.toList_eq, ByteArray.toList_eq] at h
 cases s; cases t
 simp only at h
 congr 1
 exact Array.ext' h
theorem k_parent : (⟨#[80, 97, 114, 101, 110, 116]⟩ : ByteArray) = "Parent".toUTF8 := by decide +kernel
set_option maxHeartbeats 1000000 in
theorem parented_any (d : Nat) (v : V) (cs : List Value) (n : Int) (w : World) (h : Lies w (d + 1) v cs) (hl : v.l.length ≤ 1000000) :
 Calls Tryz.prog 65 #[.agg cs.toArray, .int .i64 n] w (BoolTo (parentB v n) w) := by
 have HG := qh (fun W (hP : Pure w W) => get_any d v cs "Parent".toUTF8 W (h.pure hP) hl)
 rw [← k_parent] at HG
 obtain ⟨a, c, rows, hcs, _⟩ := h.kids
 have HK : Hid (parentB v n = if n = 0 then !(v.get ⟨#[80, 97, 114, 101, 110, 116]⟩).2 else decide ((v.get ⟨#[80, 97, 114, 101, 110, 116]⟩).1.kind = 8) && decide ((v.get ⟨#[80, 97, 114, 101, 110, 116]⟩).1.n = n)) := qh (by rw [k_parent]; rfl)
 obtain ⟨F, hF⟩ : ∃ z, z = parentB v n := ⟨_, rfl⟩
 rw [← hF] at HK ⊢
 obtain ⟨G, hG⟩ : ∃ z, z = v.get ⟨#[80, 97, 114, 101, 110, 116]⟩ := ⟨_, rfl⟩
 rw [← hG] at HK HG
 rw [hcs] at HG ⊢
 clear hcs h hl hF hG
 generalize v.l.length = m at *
 generalize v.kind = vk at *
 generalize v.n = vn at *
 generalize v.s = vs at *
 go_enter Tryz.func65, Tryz.ntmps65
 go_wp2_with fail
 refine (HG.out _ (ext_alloc w _)).mono ?_
 rintro e w2 ⟨cs, rfl, hL, hP⟩
 obtain ⟨a', c', rows', rfl, _⟩ := hL.kids
 have HP := qh ((ext_alloc w _).pure hP)
 obtain ⟨⟨k, x, s, l⟩, is⟩ := G
 simp only [V.kind, V.n, V.s, V.l] at *
 generalize l.length = ln at *
 clear hL hP HG
 by_cases hn : n = 0
 ·subst hn
  have HF : Hid (F = !is) := qh (by rw [HK.out, if_pos rfl])
  go_wp2_with fail
  go_ret
  exact ⟨by rw [HF.out]; rfl, HP.out.pure (ext_alloc _ _)⟩
 ·have HF : Hid (F = (decide (k = 8) && decide (x = n))) := qh (by rw [HK.out, if_neg hn]; rfl)
  by_cases hk : k = 8
  ·subst hk
   by_cases hx : x = n
   ·subst hx
    go_wp2_with fail
    go_ret
    exact ⟨by rw [HF.out]; simp, HP.out.pure (ext_alloc _ _)⟩
   ·go_wp2_with fail
    go_ret
    exact ⟨by rw [HF.out]; simp [hx], HP.out.pure (ext_alloc _ _)⟩
  ·go_wp2_with fail
   go_ret
   exact ⟨by rw [HF.out]; simp [hk], HP.out.pure (ext_alloc _ _)⟩
theorem k_type : (⟨#[84, 121, 112, 101]⟩ : ByteArray) = "Type".toUTF8 := by decide +kernel
set_option maxHeartbeats 1000000 in
theorem typed_any (d : Nat) (o : Ob) (cs : List Value) (t : ByteArray) (w : World) (h : Lies w (d + 1) o.v cs) (hl : o.v.l.length ≤ 1000000) :
 Calls Tryz.prog 96 #[.agg (cs ++ [Value.bool o.st, Value.string o.data]).toArray, .string t] w (BoolTo (typedO o t) w) := by
 have HG := qh (fun W (hP : Pure w W) => get_any d o.v cs "Type".toUTF8 W (h.pure hP) hl)
 rw [← k_type] at HG
 obtain ⟨a, c, rows, hcs, _⟩ := h.kids
 have HK : Hid (typedO o t = (!o.st && decide ((o.v.get ⟨#[84, 121, 112, 101]⟩).1.kind = 5) && decide ((o.v.get ⟨#[84, 121, 112, 101]⟩).1.s = t))) := qh (by rw [k_type]; rfl)
 obtain ⟨F, hF⟩ : ∃ z, z = typedO o t := ⟨_, rfl⟩
 rw [← hF] at HK ⊢
 obtain ⟨G, hG⟩ : ∃ z, z = o.v.get ⟨#[84, 121, 112, 101]⟩ := ⟨_, rfl⟩
 rw [← hG] at HK HG
 rw [hcs] at HG ⊢
 clear hcs h hl hF hG
 generalize o.v.l.length = m at *
 generalize o.v.kind = vk at *
 generalize o.v.n = vn at *
 generalize o.v.s = vs at *
 generalize o.st = st at *
 generalize o.data = dt at *
 simp only [List.cons_append, List.nil_append] at HG ⊢
 go_enter Tryz.func96, Tryz.ntmps96
 go_wp2_with fail
 refine (HG.out _ (ext_alloc w _)).mono ?_
 rintro e w2 ⟨cs, rfl, hL, hP⟩
 obtain ⟨a', c', rows', rfl, _⟩ := hL.kids
 have HP := qh ((ext_alloc w _).pure hP)
 have hB := BlockIs.new w [.int .i64 vk, .int .i64 vn, .string vs, .slice a m c, .bool st, .string dt] 61
 have hB := hB.ext hP id
 have hlt : w.heap.size < w2.heap.size := hB.lt
 have c4 : w2.cell? ⟨w.heap.size, 4, none⟩ = some (.bool st) := hB.cell 4
 obtain ⟨⟨k, x, s, l⟩, is⟩ := G
 simp only [V.kind, V.n, V.s, V.l] at *
 generalize l.length = ln at *
 clear hL hP HG hB
 cases st with
 | true =>
   have HF : Hid (F = false) := qh (by rw [HK.out]; rfl)
   go_wp2_with fail
   go_ret
   exact ⟨by rw [HF.out]; rfl, HP.out.pure (ext_alloc _ _)⟩
 | false =>
   by_cases hk : k = 5
   ·subst hk
    by_cases hx : s = t
    ·subst hx
     have HF : Hid (F = true) := qh (by rw [HK.out]; simp)
     go_wp2_with fail
     go_ret
     exact ⟨by rw [HF.out]; simp, HP.out.pure (ext_alloc _ _)⟩
    ·have hx2 : ¬ s.toList = t.toList := fun e => hx (bytes_inj e)
     have HF : Hid (F = false) := qh (by rw [HK.out]; simp [hx])
     go_wp2_with fail
     go_ret
     exact ⟨by rw [HF.out]; simp [hx2], HP.out.pure (ext_alloc _ _)⟩
   ·have HF : Hid (F = false) := qh (by rw [HK.out]; simp [hk])
    go_wp2_with fail
    go_ret
    exact ⟨by rw [HF.out]; simp [hk], HP.out.pure (ext_alloc _ _)⟩
theorem k_page : (⟨#[80, 97, 103, 101]⟩ : ByteArray) = "Page".toUTF8 := by decide +kernel
set_option maxHeartbeats 1000000 in
theorem page_any (d : Nat) (o : Ob) (cs : List Value) (w : World) (h : Lies w (d + 1) o.v cs) (hl : o.v.l.length ≤ 1000000) :
 Calls Tryz.prog 66 #[.agg (cs ++ [Value.bool o.st, Value.string o.data]).toArray] w (BoolTo (typedO o "Page".toUTF8) w) := by
 have HG := qh (fun W (hP : Pure w W) => typed_any d o cs "Page".toUTF8 W (h.pure hP) hl)
 obtain ⟨F, hF⟩ : ∃ z, z = typedO o "Page".toUTF8 := ⟨_, rfl⟩
 rw [← hF] at HG ⊢
 rw [← k_page] at HG
 obtain ⟨a, c, rows, hcs, _⟩ := h.kids
 rw [hcs] at HG ⊢
 clear hcs h hl hF
 generalize o.v.l.length = m at *
 generalize o.v.kind = vk at *
 generalize o.v.n = vn at *
 generalize o.v.s = vs at *
 generalize o.st = st at *
 generalize o.data = dt at *
 simp only [List.cons_append, List.nil_append] at HG ⊢
 go_enter Tryz.func66, Tryz.ntmps66
 go_wp2_with fail
 refine (HG.out _ (ext_alloc w _)).mono ?_
 rintro e w2 ⟨rfl, hP⟩
 go_wp2_with fail
 go_ret
 exact ⟨rfl, (ext_alloc w _).pure hP⟩
theorem k_pages : (⟨#[80, 97, 103, 101, 115]⟩ : ByteArray) = "Pages".toUTF8 := by decide +kernel
theorem k_cat : (⟨#[67, 97, 116, 97, 108, 111, 103]⟩ : ByteArray) = "Catalog".toUTF8 := by decide +kernel
def rootO (o : Ob) : Option Int := if typedO o "Catalog".toUTF8 && decide ((o.v.get "Pages".toUTF8).1.kind = 8) then some (o.v.get "Pages".toUTF8).1.n else none
def RootTo (r : Option Int) (w : World) (e : Ending) (w' : World) : Prop := e = .returned (.tuple #[.int .i64 (r.getD 0), .bool r.isSome]) ∧ Pure w w'
set_option maxHeartbeats 1000000 in
theorem root_any (d : Nat) (o : Ob) (cs : List Value) (w : World) (h : Lies w (d + 1) o.v cs) (hl : o.v.l.length ≤ 1000000) :
 Calls Tryz.prog 67 #[.agg (cs ++ [Value.bool o.st, Value.string o.data]).toArray] w (RootTo (rootO o) w) := by
 have HT := qh (fun W (hP : Pure w W) => typed_any d o cs "Catalog".toUTF8 W (h.pure hP) hl)
 have HG := qh (fun W (hP : Pure w W) => get_any d o.v cs "Pages".toUTF8 W (h.pure hP) hl)
 have HK : Hid (rootO o = if typedO o "Catalog".toUTF8 && decide ((o.v.get "Pages".toUTF8).1.kind = 8) then some (o.v.get "Pages".toUTF8).1.n else none) := qh rfl
 obtain ⟨F, hF⟩ : ∃ z, z = rootO o := ⟨_, rfl⟩
 rw [← hF] at HK ⊢
 obtain ⟨G, hG⟩ : ∃ z, z = o.v.get "Pages".toUTF8 := ⟨_, rfl⟩
 obtain ⟨T, hT⟩ : ∃ z, z = typedO o "Catalog".toUTF8 := ⟨_, rfl⟩
 rw [← hG] at HK HG
 rw [← hT] at HK HT
 rw [← k_pages] at HG
 rw [← k_cat] at HT
 obtain ⟨a, c, rows, hcs, _⟩ := h.kids
 rw [hcs] at HG HT ⊢
 clear hcs h hl hF hG hT
 generalize o.v.l.length = m at *
 generalize o.v.kind = vk at *
 generalize o.v.n = vn at *
 generalize o.v.s = vs at *
 generalize o.st = st at *
 generalize o.data = dt at *
 simp only [List.cons_append, List.nil_append] at HG HT ⊢
 go_enter Tryz.func67, Tryz.ntmps67
 go_wp2_with fail
 refine (HG.out _ (ext_alloc w _)).mono ?_
 rintro e w2 ⟨cs, rfl, hL, hP⟩
 obtain ⟨a', c', rows', rfl, _⟩ := hL.kids
 have HP := qh ((ext_alloc w _).pure hP)
 have hB := BlockIs.new w [.int .i64 vk, .int .i64 vn, .string vs, .slice a m c, .bool st, .string dt] 61
 have hB := hB.ext hP id
 have HB := qh hB
 have hlt : w.heap.size < w2.heap.size := hB.lt
 have c0 : w2.cell? ⟨w.heap.size, 0, none⟩ = some (.int .i64 vk) := hB.cell 0
 have c1 : w2.cell? ⟨w.heap.size, 1, none⟩ = some (.int .i64 vn) := hB.cell 1
 have c2 : w2.cell? ⟨w.heap.size, 2, none⟩ = some (.string vs) := hB.cell 2
 have c3 : w2.cell? ⟨w.heap.size, 3, none⟩ = some (.slice a m c) := hB.cell 3
 have c4 : w2.cell? ⟨w.heap.size, 4, none⟩ = some (.bool st) := hB.cell 4
 have c5 : w2.cell? ⟨w.heap.size, 5, none⟩ = some (.string dt) := hB.cell 5
 obtain ⟨⟨k, x, s, l⟩, is⟩ := G
 simp only [V.kind, V.n, V.s, V.l] at *
 generalize l.length = ln at *
 have hBn := qh (BlockIs.new w2 [.int .i64 k, .int .i64 x, .string s, .slice a' ln c'] 48)
 clear hL hP HG hB
 go_wp2_with fail
 refine (HT.out _ (HP.out.pure (ext_alloc w2 _))).mono ?_
 rintro e w3 ⟨rfl, hP⟩
 have hBn := hBn.out.ext hP id
 have n0 : w3.cell? ⟨w2.heap.size, 0, none⟩ = some (.int .i64 k) := hBn.cell 0
 have n1 : w3.cell? ⟨w2.heap.size, 1, none⟩ = some (.int .i64 x) := hBn.cell 1
 have HP3 := qh ((HP.out.pure (ext_alloc w2 _)).pure hP)
 clear hBn hP c0 c1 c2 c3 c4 c5 HB HT
 cases T with
 | false =>
   have HF : Hid (F = none) := qh (by rw [HK.out]; rfl)
   go_wp2_with fail
   go_ret2
   exact ⟨by rw [HF.out]; rfl, HP3.out⟩
 | true =>
   by_cases hk : k = 8
   ·subst hk
    have HF : Hid (F = some x) := qh (by rw [HK.out]; rfl)
    go_wp2_with fail
    go_ret2
    exact ⟨by rw [HF.out]; rfl, HP3.out⟩
   ·have HF : Hid (F = none) := qh (HK.out.trans (if_neg (fun h => hk (of_decide_eq_true h))))
    go_wp2_with fail
    go_ret2
    exact ⟨by rw [HF.out]; rfl, HP3.out⟩
theorem get_find (v : V) (key : ByteArray) : (v.get key).2 = (v.find key).isSome := by
 unfold V.get
 cases v.find key <;> rfl
set_option maxHeartbeats 1000000 in
theorem fhas_any (d : Nat) (v : V) (cs : List Value) (key : ByteArray) (w : World) (h : Lies w (d + 1) v cs) (hl : v.l.length ≤ 1000000) :
 Calls Tryz.prog 91 #[.agg cs.toArray, .string key] w (BoolTo (v.find key).isSome w) := by
 have HG := qh (fun W (hP : Pure w W) => get_any d v cs key W (h.pure hP) hl)
 obtain ⟨a, c, rows, hcs, _⟩ := h.kids
 rw [← get_find]
 obtain ⟨G, hG⟩ : ∃ z, z = v.get key := ⟨_, rfl⟩
 rw [← hG] at HG ⊢
 rw [hcs] at HG ⊢
 clear hcs h hl hG
 generalize v.l.length = m at *
 generalize v.kind = vk at *
 generalize v.n = vn at *
 generalize v.s = vs at *
 go_enter Tryz.func91, Tryz.ntmps91
 go_wp2_with fail
 refine (HG.out _ (ext_alloc w _)).mono ?_
 rintro e w2 ⟨cs, rfl, hL, hP⟩
 obtain ⟨a', c', rows', rfl, _⟩ := hL.kids
 have HP := qh ((ext_alloc w _).pure hP)
 clear hL hP HG
 go_wp2_with fail
 go_ret
 exact ⟨rfl, HP.out.pure (ext_alloc _ _)⟩
theorem k_length : (⟨#[76, 101, 110, 103, 116, 104]⟩ : ByteArray) = "Length".toUTF8 := by decide +kernel
theorem k_filter : (⟨#[70, 105, 108, 116, 101, 114]⟩ : ByteArray) = "Filter".toUTF8 := by decide +kernel
theorem k_parms : (⟨#[68, 101, 99, 111, 100, 101, 80, 97, 114, 109, 115]⟩ : ByteArray) = "DecodeParms".toUTF8 := by decide +kernel
def obF (E : Int) (st : Bool) (n : Nat) (k : Int) (a b c : Bool) : Int :=
 if E ≠ 0 then E else if st = false ∧ n ≠ 0 then 2 else if st = true ∧ (k ≠ 7 ∨ a = true ∨ b = true ∨ c = true) then 2 else if 16777216 < n then 3 else 0
theorem obE_eq (o : Ob) : obE o = obF o.v.checkE o.st o.data.size o.v.kind (o.v.find "Length".toUTF8).isSome (o.v.find "Filter".toUTF8).isSome (o.v.find "DecodeParms".toUTF8).isSome := rfl
theorem empty_size {s : ByteArray} : s.toList = [] ↔ s.size = 0 := by
 rw [ByteArray.toList_eq, ← List.length_eq_zero_iff]
 simp
set_option maxHeartbeats 4000000 in
theorem fcheck_any (d : Nat) (o : Ob) (cs : List Value) (w : World) (h : Lies w (d + 1) o.v cs) (hsz : o.v.size ≤ 100000) (hds : o.data.size ≤ maxLen) :
 Calls Tryz.prog 59 #[.agg (cs ++ [Value.bool o.st, Value.string o.data]).toArray] w (IntTo (obE o) w) := by
 have hl : o.v.l.length ≤ 1000000 := by have := V.len_size o.v; omega
 have HC := qh (fun W (hP : Pure w W) => check_any (d + 1) o.v cs W (h.pure hP) hsz)
 have HH := qh (fun key W (hP : Pure w W) => fhas_any d o.v cs key W (h.pure hP) hl)
 rw [obE_eq, ← k_length, ← k_filter, ← k_parms]
 have H1 := qh (HH.out ⟨#[76, 101, 110, 103, 116, 104]⟩)
 have H2 := qh (HH.out ⟨#[70, 105, 108, 116, 101, 114]⟩)
 have H3 := qh (HH.out ⟨#[68, 101, 99, 111, 100, 101, 80, 97, 114, 109, 115]⟩)
 clear HH
 generalize (o.v.find ⟨#[76, 101, 110, 103, 116, 104]⟩).isSome = A at *
 generalize (o.v.find ⟨#[70, 105, 108, 116, 101, 114]⟩).isSome = B at *
 generalize (o.v.find ⟨#[68, 101, 99, 111, 100, 101, 80, 97, 114, 109, 115]⟩).isSome = C at *
 obtain ⟨a, c, rows, hcs, _⟩ := h.kids
 rw [hcs] at HC H1 H2 H3 ⊢
 generalize o.v.checkE = E at *
 clear hcs h hl hsz
 generalize o.v.l.length = m at *
 generalize o.v.kind = vk at *
 generalize o.v.n = vn at *
 generalize o.v.s = vs at *
 generalize o.st = st at *
 generalize o.data = dt at *
 obtain ⟨F, hF⟩ : ∃ z, z = obF E st dt.size vk A B C := ⟨_, rfl⟩
 rw [← hF]
 have HF := qh hF
 unfold maxLen at hds
 simp only [List.cons_append, List.nil_append] at HC H1 H2 H3 ⊢
 clear hF
 go_enter Tryz.func59, Tryz.ntmps59
 go_wp2_with fail
 refine (HC.out _ (ext_alloc w _)).mono ?_
 rintro e w2 ⟨rfl, hP⟩
 have hB := BlockIs.new w [.int .i64 vk, .int .i64 vn, .string vs, .slice a m c, .bool st, .string dt] 61
 have hB := hB.ext hP id
 have hlt : w.heap.size < w2.heap.size := hB.lt
 have HP := qh ((ext_alloc w _).pure hP)
 have HB := qh hB
 have c0 : w2.cell? ⟨w.heap.size, 0, none⟩ = some (.int .i64 vk) := hB.cell 0
 have c1 : w2.cell? ⟨w.heap.size, 1, none⟩ = some (.int .i64 vn) := hB.cell 1
 have c2 : w2.cell? ⟨w.heap.size, 2, none⟩ = some (.string vs) := hB.cell 2
 have c3 : w2.cell? ⟨w.heap.size, 3, none⟩ = some (.slice a m c) := hB.cell 3
 have c4 : w2.cell? ⟨w.heap.size, 4, none⟩ = some (.bool st) := hB.cell 4
 have c5 : w2.cell? ⟨w.heap.size, 5, none⟩ = some (.string dt) := hB.cell 5
 clear hP hB HC
 by_cases hE : E = 0
 ·subst hE
  cases st with
  | false =>
    by_cases hz : dt.size = 0
    ·have hd1 : dt.toList = [] := empty_size.2 hz
     have HFr : Hid (F = 0) := qh (by rw [HF.out]; unfold obF; simp [hz])
     have hbi : ¬ (16777216 : Int) < (dt.size : Int) := by omega
     have hz1 : (dt.size : Int) = 0 := by omega
     clear hz
     go_wp2_with fail
     go_ret
     exact ⟨by rw [HFr.out]; rfl, HP.out⟩
    ·have hd1 : ¬ dt.toList = [] := fun e => hz (empty_size.1 e)
     have hd2 : (!dt.toList.isEmpty) = true := by simpa using hd1
     have hd3 : dt.toList.isEmpty = false := by simpa using hd1
     have HFr : Hid (F = 2) := qh (by rw [HF.out]; unfold obF; simp [hz])
     clear hz
     go_wp2_with fail
     go_ret
     exact ⟨by rw [HFr.out]; rfl, HP.out⟩
  | true =>
    by_cases h7 : vk = 7
    ·subst h7
     go_wp2_with fail
     refine (H1.out w2 HP.out).mono ?_
     rintro e w3 ⟨rfl, hP⟩
     have hB := HB.out.ext hP id
     have hlt : w.heap.size < w3.heap.size := hB.lt
     have HP2 := qh (HP.out.pure hP)
     have HB2 := qh hB
     clear HP HB c0 c1 c2 c3 c4 c5
     have HP := HP2
     have HB := HB2
     have c0 : w3.cell? ⟨w.heap.size, 0, none⟩ = some (.int .i64 7) := hB.cell 0
     have c1 : w3.cell? ⟨w.heap.size, 1, none⟩ = some (.int .i64 vn) := hB.cell 1
     have c2 : w3.cell? ⟨w.heap.size, 2, none⟩ = some (.string vs) := hB.cell 2
     have c3 : w3.cell? ⟨w.heap.size, 3, none⟩ = some (.slice a m c) := hB.cell 3
     have c4 : w3.cell? ⟨w.heap.size, 4, none⟩ = some (.bool true) := hB.cell 4
     have c5 : w3.cell? ⟨w.heap.size, 5, none⟩ = some (.string dt) := hB.cell 5
     clear hP hB HP2 HB2 H1
     cases A with
     | true =>
       have HFr : Hid (F = 2) := qh (by rw [HF.out]; unfold obF; simp)
       go_wp2_with fail
       go_ret
       exact ⟨by rw [HFr.out]; rfl, HP.out⟩
     | false =>
       go_wp2_with fail
       refine (H2.out w3 HP.out).mono ?_
       rintro e w4 ⟨rfl, hP⟩
       have hB := HB.out.ext hP id
       have hlt : w.heap.size < w4.heap.size := hB.lt
       have HP2 := qh (HP.out.pure hP)
       have HB2 := qh hB
       clear HP HB c0 c1 c2 c3 c4 c5
       have HP := HP2
       have HB := HB2
       have c0 : w4.cell? ⟨w.heap.size, 0, none⟩ = some (.int .i64 7) := hB.cell 0
       have c1 : w4.cell? ⟨w.heap.size, 1, none⟩ = some (.int .i64 vn) := hB.cell 1
       have c2 : w4.cell? ⟨w.heap.size, 2, none⟩ = some (.string vs) := hB.cell 2
       have c3 : w4.cell? ⟨w.heap.size, 3, none⟩ = some (.slice a m c) := hB.cell 3
       have c4 : w4.cell? ⟨w.heap.size, 4, none⟩ = some (.bool true) := hB.cell 4
       have c5 : w4.cell? ⟨w.heap.size, 5, none⟩ = some (.string dt) := hB.cell 5
       clear hP hB HP2 HB2 H2
       cases B with
       | true =>
         have HFr : Hid (F = 2) := qh (by rw [HF.out]; unfold obF; simp)
         go_wp2_with fail
         go_ret
         exact ⟨by rw [HFr.out]; rfl, HP.out⟩
       | false =>
         go_wp2_with fail
         refine (H3.out w4 HP.out).mono ?_
         rintro e w5 ⟨rfl, hP⟩
         have hB := HB.out.ext hP id
         have hlt : w.heap.size < w5.heap.size := hB.lt
         have HP2 := qh (HP.out.pure hP)
         have HB2 := qh hB
         clear HP HB c0 c1 c2 c3 c4 c5
         have HP := HP2
         have HB := HB2
         have c0 : w5.cell? ⟨w.heap.size, 0, none⟩ = some (.int .i64 7) := hB.cell 0
         have c1 : w5.cell? ⟨w.heap.size, 1, none⟩ = some (.int .i64 vn) := hB.cell 1
         have c2 : w5.cell? ⟨w.heap.size, 2, none⟩ = some (.string vs) := hB.cell 2
         have c3 : w5.cell? ⟨w.heap.size, 3, none⟩ = some (.slice a m c) := hB.cell 3
         have c4 : w5.cell? ⟨w.heap.size, 4, none⟩ = some (.bool true) := hB.cell 4
         have c5 : w5.cell? ⟨w.heap.size, 5, none⟩ = some (.string dt) := hB.cell 5
         clear hP hB HP2 HB2 H3
         cases C with
         | true =>
           have HFr : Hid (F = 2) := qh (by rw [HF.out]; unfold obF; simp)
           go_wp2_with fail
           go_ret
           exact ⟨by rw [HFr.out]; rfl, HP.out⟩
         | false =>
           have HFr : Hid (F = if 16777216 < dt.size then 3 else 0) := qh (by rw [HF.out]; unfold obF; simp)
           by_cases hbig : 16777216 < dt.size
           ·have hbi : (16777216 : Int) < (dt.size : Int) := by omega
            have HFq : Hid (F = 3) := qh (by rw [HFr.out, if_pos hbig])
            clear hbig
            go_wp2_with fail
            go_ret
            exact ⟨by rw [HFq.out]; rfl, HP.out⟩
           ·have hbi : ¬ (16777216 : Int) < (dt.size : Int) := by omega
            have HFq : Hid (F = 0) := qh (by rw [HFr.out, if_neg hbig])
            clear hbig
            go_wp2_with fail
            go_ret
            exact ⟨by rw [HFq.out]; rfl, HP.out⟩
    ·have h7b : (vk != 7) = true := by simpa using h7
     have HFr : Hid (F = 2) := qh (by rw [HF.out]; unfold obF; simp [h7])
     go_wp2_with fail
     go_ret
     exact ⟨by rw [HFr.out]; rfl, HP.out⟩
 ·have HFr : Hid (F = E) := qh (by rw [HF.out]; exact if_pos hE)
  have hE2 : (E != 0) = true := by simpa using hE
  go_wp2_with fail
  go_ret
  exact ⟨by rw [HFr.out]; rfl, HP.out⟩
theorem any_take_s {α : Type} (p : α → Bool) (ls : List α) (k : Nat) (hk : k < ls.length) : (ls.take (k + 1)).any p = ((ls.take k).any p || p ls[k]) := by
 rw [List.take_add_one, List.getElem?_eq_getElem hk, List.any_append]; simp
theorem iV_at {w : World} {ad : Option Addr} {ls : List Int} (h : RowOf w ad (intsV ls)) (i : Nat) (hi : i < ls.length) : ∃ b o, ad = some ⟨b, o, none⟩ ∧ w.cell? ⟨b, o + i, none⟩ = some (.int .i64 ls[i]) :=
 h i _ (intsV_get hi)
def IdxTo (b : Bool) (w : World) (e : Ending) (w' : World) : Prop := ∃ r : Int, e = .returned (.int .i64 r) ∧ decide (0 ≤ r) = b ∧ Pure w w'
set_option maxHeartbeats 1000000 in
theorem index_gen (g : Nat) (caps : Array Value) (q : Int → Bool) (ad : Option Addr) (cap : Nat) (ls : List Int) (w : World) (hr : RowOf w ad (intsV ls)) (hl : ls.length ≤ 1000000000)
 (HQ : Hid (∀ x W, Pure w W → x ∈ ls → Calls Tryz.prog g (#[.int .i64 x] ++ caps) W (BoolTo (q x) W))) (hg : ∀ args w, (callFunc g args).run Tryz.prog w = .ok (.enter g args) w) :
 Calls Tryz.prog 92 #[.slice ad ls.length cap, .func (.func g) #[] caps] w (IdxTo (ls.any q) w) := by
 go_enter Tryz.func92, Tryz.ntmps92
 go_wp2_with fail
 go_loopw [8, 5] (fun i _ W => ∃ k : Nat, k ≤ ls.length ∧ i = .int .i64 k ∧ Hid ((ls.take k).any q = false) ∧ Pure w W) (fun i _ _ => ls.length - (intOf i).toNat)
 case atStart => exact ⟨0, Nat.zero_le _, rfl, qh rfl, Ext.refl _ _⟩
 case round =>
  obtain ⟨k, hk, rfl, HNo, hP⟩ := hrel
  by_cases hlt : k < ls.length
  ·have hki : (k : Int) < (ls.length : Int) := by omega
   have hk0 : (0 : Int) ≤ (k : Int) := by omega
   obtain ⟨b, o, rfl, h0⟩ := iV_at (hr.ext hP (fun _ _ => id)) k hlt
   have HB := qh (HQ.out ls[k] wr hP (List.getElem_mem hlt))
   have HT := qh (any_take_s q ls k hlt)
   have HA := qh (fun h : q ls[k] = true => List.any_eq_true.2 ⟨_, List.getElem_mem hlt, h⟩)
   cases hb : q ls[k] with
   | true =>
     rw [hb] at HB HA
     generalize ls[k] = x at *
     clear hb
     go_wp2_with fail
     refine HB.out.mono ?_
     rintro e w2 ⟨rfl, hP2⟩
     go_wp2_with fail
     go_ret
     exact ⟨k, rfl, by rw [HA.out trivial]; simp, hP.pure hP2⟩
   | false =>
     rw [hb, HNo.out] at HT
     have HB' := qh (hb ▸ HB.out)
     clear HB
     generalize ls[k] = x at *
     clear hb HA
     go_wp2_with fail
     refine HB'.out.mono ?_
     rintro e w2 ⟨rfl, hP2⟩
     go_wp2_with fail
     go_roundw
     case rel => exact ⟨k + 1, by omega, by go_num, HT, hP.pure hP2⟩
     case measure => simp [intOf]; omega
  ·have hki : ¬ (k : Int) < (ls.length : Int) := by omega
   have HN2 : Hid (ls.any q = false) := qh (by have := HNo.out; rwa [List.take_of_length_le (by omega)] at this)
   go_wp2_with fail
   go_ret
   exact ⟨-1, rfl, by rw [HN2.out]; rfl, hP⟩
theorem contains_gen (g : Nat) (caps : Array Value) (q : Int → Bool) (ad : Option Addr) (cap : Nat) (ls : List Int) (w : World) (hr : RowOf w ad (intsV ls)) (hl : ls.length ≤ 1000000000)
 (HQ : Hid (∀ x W, Pure w W → x ∈ ls → Calls Tryz.prog g (#[.int .i64 x] ++ caps) W (BoolTo (q x) W))) (hg : ∀ args w, (callFunc g args).run Tryz.prog w = .ok (.enter g args) w) :
 Calls Tryz.prog 60 #[.slice ad ls.length cap, .func (.func g) #[] caps] w (BoolTo (ls.any q) w) := by
 have HI := qh (index_gen g caps q ad cap ls w hr hl HQ hg)
 clear hg HQ
 go_enter Tryz.func60, Tryz.ntmps60
 go_wp2_with fail
 refine HI.out.mono ?_
 rintro e w2 ⟨r, rfl, hd, hP⟩
 have HD := qh hd
 clear hd
 go_wp2_with fail
 go_ret
 exact ⟨by rw [← HD.out]; rfl, hP⟩
set_option maxHeartbeats 1000000 in
theorem index_any (x : Int) (ad : Option Addr) (cap : Nat) (ls : List Int) (w : World) (hr : RowOf w ad (intsV ls)) (hl : ls.length ≤ 1000000000) :
 Calls Tryz.prog 100 #[.slice ad ls.length cap, .int .i64 x] w (IdxTo (decide (x ∈ ls)) w) := by
 go_enter Tryz.func100, Tryz.ntmps100
 go_wp2_with fail
 go_loopw [8, 5] (fun i _ W => ∃ k : Nat, k ≤ ls.length ∧ i = .int .i64 k ∧ Hid (x ∉ ls.take k) ∧ Pure w W) (fun i _ _ => ls.length - (intOf i).toNat)
 case atStart => exact ⟨0, Nat.zero_le _, rfl, qh (by simp), Ext.refl _ _⟩
 case round =>
  obtain ⟨k, hk, rfl, HNo, hP⟩ := hrel
  by_cases hlt : k < ls.length
  ·have hki : (k : Int) < (ls.length : Int) := by omega
   have hk0 : (0 : Int) ≤ (k : Int) := by omega
   obtain ⟨b, o, rfl, h0⟩ := iV_at (hr.ext hP (fun _ _ => id)) k hlt
   have HA := qh (fun h : x = ls[k] => show decide (x ∈ ls) = true from decide_eq_true (by rw [h]; exact List.getElem_mem hlt))
   have HT := qh (fun h : ¬ x = ls[k] => show x ∉ ls.take (k + 1) by
    rw [List.take_succ_eq_append_getElem hlt, List.mem_append, List.mem_singleton]
    rintro (h1 | h1)
    ·exact HNo.out h1
    ·exact h h1)
   generalize ls[k] = y at *
   by_cases hxy : x = y
   ·have HA2 := qh (HA.out hxy)
    clear HA HT
    subst hxy
    go_wp2_with fail
    go_ret
    exact ⟨k, rfl, by rw [HA2.out]; simp, hP⟩
   ·have HT2 := qh (HT.out hxy)
    clear HA HT
    go_wp2_with fail
    go_roundw
    case rel => exact ⟨k + 1, by omega, by go_num, HT2, hP⟩
    case measure => simp [intOf]; omega
  ·have hki : ¬ (k : Int) < (ls.length : Int) := by omega
   have HN2 : Hid (decide (x ∈ ls) = false) := qh (by have := HNo.out; rw [List.take_of_length_le (by omega)] at this; exact decide_eq_false this)
   go_wp2_with fail
   go_ret
   exact ⟨-1, rfl, by rw [HN2.out]; rfl, hP⟩
theorem contains_any (x : Int) (ad : Option Addr) (cap : Nat) (ls : List Int) (w : World) (hr : RowOf w ad (intsV ls)) (hl : ls.length ≤ 1000000000) :
 Calls Tryz.prog 69 #[.slice ad ls.length cap, .int .i64 x] w (BoolTo (decide (x ∈ ls)) w) := by
 have HI := qh (index_any x ad cap ls w hr hl)
 go_enter Tryz.func69, Tryz.ntmps69
 go_wp2_with fail
 refine HI.out.mono ?_
 rintro e w2 ⟨r, rfl, hd, hP⟩
 have HD := qh hd
 clear hd
 go_wp2_with fail
 go_ret
 exact ⟨by rw [← HD.out]; rfl, hP⟩
set_option maxHeartbeats 1000000 in
theorem objs1_any (x : Int) (oa : Option Addr) (n oc : Nat) (root : Int) (tb : Nat) (w : World) (hB : BlockIs w tb [.slice oa n oc, .int .i64 root] 24) :
 Calls Tryz.prog 62 #[.int .i64 x, .pointer (some ⟨tb, 0, none⟩)] w (BoolTo (decide ((n : Int) < x)) w) := by
 have c0 : w.cell? ⟨tb, 0, none⟩ = some (.slice oa n oc) := hB.cell 0
 clear hB
 go_enter Tryz.func62, Tryz.ntmps62
 go_wp2_with fail
 go_ret
 exact ⟨rfl, Ext.refl _ _⟩
theorem objs1_goes : ∀ args w, (callFunc 62 args).run Tryz.prog w = .ok (.enter 62 args) w := enters Tryz.func62 (by decide +kernel) rfl
theorem more_len (v : V) : (v.more []).length ≤ v.size := by have := V.more_len v []; simpa using this
theorem objsE_cons (n : Int) (o : Ob) (r : List Ob) : objsE n (o :: r) = if obE o ≠ 0 then obE o else if (o.v.more []).any (fun k => decide (n < k)) then 26 else objsE n r := rfl
set_option maxHeartbeats 4000000 in
theorem objects_any (d : Nat) (l : List Ob) (oa : Option Addr) (oc : Nat) (rows : List (List Value)) (root : Int) (w : World) (hD : DocOk w d l oa rows root) (hds : ∀ u ∈ l, u.data.size ≤ maxLen) :
 Calls Tryz.prog 35 #[.agg #[.slice oa l.length oc, .int .i64 root]] w (IntTo (objsE l.length l) w) := by
 obtain ⟨F, hF⟩ : ∃ z, z = objsE l.length l := ⟨_, rfl⟩
 rw [← hF]
 obtain ⟨n, hn⟩ : ∃ z, z = l.length := ⟨_, rfl⟩
 rw [← hn] at hF ⊢
 have HN := qh hn
 have HF := qh hF
 have HD := qh hD
 have HDs := qh hds
 have hn5 : n ≤ 5000 := by rw [hn]; exact hD.len
 obtain ⟨w1, hw1⟩ : ∃ z, z = w.alloc (.cells #[.slice oa n oc, .int .i64 root] 24) := ⟨_, rfl⟩
 obtain ⟨tb, htb⟩ : ∃ z, z = w.heap.size := ⟨_, rfl⟩
 have HB1 : Hid (BlockIs w1 tb [.slice oa n oc, .int .i64 root] 24) := qh (by rw [hw1, htb]; exact BlockIs.new w _ _)
 have HP1 : Hid (Pure w w1) := qh (hw1 ▸ ext_alloc w _)
 have HW1 := qh hw1
 have HTb := qh htb
 clear hn hF hD hds hw1 htb
 go_enter Tryz.func35, Tryz.ntmps35
 go_wp2_with fail
 rw [← HW1.out, ← HTb.out]
 go_loopw [9] (fun i wr => ∃ k : Nat, k ≤ n ∧ i = .int .i64 k ∧ Hid (F = objsE n (l.drop k)) ∧ Hid (Pure w1 wr)) (fun i _ => n - (intOf i).toNat)
 case atStart => exact ⟨0, Nat.zero_le _, rfl, HF, qh (Ext.refl _ _)⟩
 case round =>
  obtain ⟨k, hk, rfl, HR, HE⟩ := hrel
  by_cases hlt : k < n
  ·have hki : (k : Int) < (n : Int) := by omega
   obtain ⟨u, hu⟩ : ∃ u, l[k]? = some u := ⟨_, List.getElem?_eq_getElem (by rw [← HN.out]; exact hlt)⟩
   have hum := List.mem_of_getElem? hu
   have HR2 : Hid (F = if obE u ≠ 0 then obE u else if (u.v.more []).any (fun k => decide ((n : Int) < k)) then 26 else objsE n (l.drop (k + 1))) := qh (by
    obtain ⟨hkl, rfl⟩ := List.getElem?_eq_some_iff.1 hu
    rw [HR.out, List.drop_eq_getElem_cons hkl, objsE_cons])
   obtain ⟨b, o, cs, rfl, _, hl4, hL, hr0⟩ := HD.out.ok.at k u hu
   have hl : u.v.l.length ≤ 1000000 := by have := V.len_size u.v; have := HD.out.size u hum; omega
   have HC := qh (fun W (hP : Pure w W) => fcheck_any d u cs W (hL.pure hP) (HD.out.size u hum) (HDs.out u hum))
   have HRf := qh (fun W (hP : Pure w W) => refs_any (d + 1) u.v cs W (hL.pure hP) (HD.out.size u hum) (HD.out.wf u hum))
   have hPr := HP1.out.pure HE.out
   have hr : wr.rangeAt b (o + k * 6) (cs ++ [Value.bool u.st, Value.string u.data]) := fun j v hv => hPr.cell_some (hr0 j v hv) id
   have HPr := qh hPr
   have hsz6 : (Tryz.prog.info? 61).map (·.size) = some (cs ++ [Value.bool u.st, Value.string u.data]).length := by rw [List.length_append, hl4]; exact info6
   obtain ⟨ua, uc, urows, hcs, _⟩ := hL.kids
   rw [hcs] at HC HRf hr hsz6
   have HSz := qh hsz6
   have hmz : (u.v.more []).length ≤ 100000 := Nat.le_trans (more_len u.v) (HD.out.size u hum)
   have HMz := qh hmz
   clear hcs hL hl4 hr0 hu hum hl hPr hsz6 HR hmz
   generalize u.v.l.length = um at *
   generalize u.v.kind = uk at *
   generalize u.v.n = un at *
   generalize u.v.s = us at *
   generalize u.st = st at *
   generalize u.data = dt at *
   obtain ⟨E, hE⟩ : ∃ z, z = obE u := ⟨_, rfl⟩
   obtain ⟨M, hM⟩ : ∃ z, z = u.v.more [] := ⟨_, rfl⟩
   rw [← hE] at HR2 HC
   rw [← hM] at HR2 HRf HMz
   clear hE hM
   simp only [List.cons_append, List.nil_append] at HC HRf hr HSz
   go_wp2_with (with_reducible refine at_load 61 (.tmp 11) ?_; refine wpList_load_mid rfl 61 (.tmp 11) rfl b (o + k * 6) rfl [.int .i64 uk, .int .i64 un, .string us, .slice ua um uc, .bool st, .string dt] _ hr Tryz.underlying61 rfl HSz.out ?_)
   have hP2 := ext_alloc wr (.cells #[.int .i64 uk, .int .i64 un, .string us, .slice ua um uc, .bool st, .string dt] 61)
   have hB := BlockIs.new wr [.int .i64 uk, .int .i64 un, .string us, .slice ua um uc, .bool st, .string dt] 61
   refine (HC.out _ (HPr.out.pure hP2)).mono ?_
   rintro e w3 ⟨rfl, hP3⟩
   have hB := hB.ext hP3 id
   obtain ⟨b4, hb4⟩ : ∃ z, z = wr.heap.size := ⟨_, rfl⟩
   rw [← hb4] at hB ⊢
   have hlt3 : b4 < w3.heap.size := hB.lt
   have c0 : w3.cell? ⟨b4, 0, none⟩ = some (.int .i64 uk) := hB.cell 0
   have c1 : w3.cell? ⟨b4, 1, none⟩ = some (.int .i64 un) := hB.cell 1
   have c2 : w3.cell? ⟨b4, 2, none⟩ = some (.string us) := hB.cell 2
   have c3 : w3.cell? ⟨b4, 3, none⟩ = some (.slice ua um uc) := hB.cell 3
   have HE3 := qh ((HE.out.pure hP2).pure hP3)
   clear hP2 hP3 hB HC hr HE HPr hb4
   by_cases hE0 : E = 0
   ·subst hE0
    have HR3 : Hid (F = if M.any (fun k => decide ((n : Int) < k)) then 26 else objsE n (l.drop (k + 1))) := qh HR2.out
    go_wp2_with fail
    refine (HRf.out w3 (HP1.out.pure HE3.out)).mono ?_
    rintro e w4 ⟨ra, rc, rfl, _, _, _, hRow, hP4⟩
    have HE4 := qh (HE3.out.pure hP4)
    have HRow := qh hRow
    have HCf := qh (contains_gen 62 #[.pointer (some ⟨tb, 0, none⟩)] (fun k => decide ((n : Int) < k)) ra rc M w4 hRow (by have := HMz.out; omega) (qh (fun x W hP _ => objs1_any x _ n oc root tb W ((HB1.out.ext HE4.out id).ext hP id))) objs1_goes)
    obtain ⟨T, hT⟩ : ∃ z, z = M.any (fun k => decide ((n : Int) < k)) := ⟨_, rfl⟩
    rw [← hT] at HR3 HCf
    obtain ⟨mn, hmn⟩ : ∃ z, z = M.length := ⟨_, rfl⟩
    rw [← hmn] at HCf ⊢
    clear hRow hP4 hT hmn c0 c1 c2 c3 hlt3 HR2 HRf
    go_wp2_with fail
    refine HCf.out.mono ?_
    rintro e w5 ⟨rfl, hP5⟩
    have HE5 := qh (HE4.out.pure hP5)
    clear hP5
    cases T with
    | true =>
      have HFr : Hid (F = 26) := qh HR3.out
      go_wp2_with fail
      go_ret
      exact ⟨by rw [HFr.out]; rfl, HP1.out.pure HE5.out⟩
    | false =>
      have HFr : Hid (F = objsE n (l.drop (k + 1))) := qh HR3.out
      go_wp2_with fail
      go_roundw
      case rel => exact ⟨k + 1, by omega, by go_num, HFr, HE5⟩
      case measure => simp [intOf]; omega
   ·have hE1 : (E != 0) = true := by simpa using hE0
    have HFr : Hid (F = E) := qh (HR2.out.trans (if_pos hE0))
    go_wp2_with fail
    go_ret
    exact ⟨by rw [HFr.out]; rfl, HP1.out.pure HE3.out⟩
  ·have hki : ¬ (k : Int) < (n : Int) := by omega
   have HFr : Hid (F = 0) := qh (by rw [HR.out, List.drop_eq_nil_of_le (by rw [← HN.out]; omega)]; rfl)
   go_wp2_with fail
   go_ret
   exact ⟨by rw [HFr.out]; rfl, HP1.out.pure HE.out⟩
