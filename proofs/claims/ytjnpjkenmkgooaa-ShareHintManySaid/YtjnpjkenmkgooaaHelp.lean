/-
  Walked: the reference's Same and Encode, and the laws' own helpers of and to.
-/
import Derived.Test.YtjnpjkenmkgooaaEncode
import Derived.Test.YtjnpjkenmkgooaaRefCheck
import Derived.Test.YtjnpjkenmkgooaaText
import Derived.Test.YtjnpjkenmkgooaaSame
namespace Go.Proofs.Ytjnpjkenmkgooaa
open Go.RowKit C27
set_option linter.unusedVariables false

set_option maxRecDepth 100000 in
theorem of_any (o a f : Int) (la : Option Addr) (n c : Nat) (w : World) : Calls Try.prog 16 #[tblV o a f la n c] w fun e w' => e = .returned (tblV o a f la n c) ∧ Pure w w' := by
  unfold tblV
  go_enter Try.func16, Try.ntmps16
  go_wp2_with fail
  refine bodyPost_ret (v := .agg #[.int .i64 o, .int .i64 a, .int .i64 f, .slice la n c]) (by simp [results, Try.results16, go_sem]) rfl ⟨rfl, ?_⟩
  repeat (first | exact Ext.refl _ _ | refine Ext.setCell ?_ (fun e => by simp at e) _ | refine Ext.alloc ?_ _)
set_option maxRecDepth 100000 in
theorem to_any (o a f : Int) (la : Option Addr) (n c : Nat) (w : World) : Calls Try.prog 10 #[tblV o a f la n c] w fun e w' => e = .returned (tblV o a f la n c) ∧ Pure w w' := by
  unfold tblV
  go_enter Try.func10, Try.ntmps10
  go_wp2_with fail
  refine bodyPost_ret (v := .agg #[.int .i64 o, .int .i64 a, .int .i64 f, .slice la n c]) (by simp [results, Try.results10, go_sem]) rfl ⟨rfl, ?_⟩
  repeat (first | exact Ext.refl _ _ | refine Ext.setCell ?_ (fun e => by simp at e) _ | refine Ext.alloc ?_ _)

/-- are tables alike? -/
def alike (o a f : Int) (l : List Int) (o' a' f' : Int) (l' : List Int) : Bool := o == o' && a == a' && f == f' && decide (l = l')
theorem alike_refl (o a f : Int) (l : List Int) : alike o a f l o a f l = true := by simp [alike]
set_option maxRecDepth 100000 in
theorem refsame_any (o a f : Int) (la : Option Addr) (c : Nat) (l : List Int) (o' a' f' : Int) (lb : Option Addr) (d : Nat) (l' : List Int) (w : World) (hl : RowOf w la (l.map numV)) (hm : RowOf w lb (l'.map numV)) (hll : l.length ≤ 1000000000) (hml : l'.length ≤ 1000000000) :
    Calls Try.prog 15 #[tblV o a f la l.length c, tblV o' a' f' lb l'.length d] w (SameRes (alike o a f l o' a' f' l') w) := by
  have HS := Lib.hid (fun W (hP : Pure w W) => rowsame_any la c l lb d l' W (hl.ext hP (fun _ _ => id)) (hm.ext hP (fun _ _ => id)) hll hml)
  obtain ⟨B, hB⟩ : ∃ B, B = alike o a f l o' a' f' l' := ⟨_, rfl⟩
  rw [← hB]
  unfold alike at hB
  unfold tblV
  by_cases h1 : o = o'
  · have h1' : (o == o') = true := by simp [h1]
    by_cases h2 : a = a'
    · have h2' : (a == a') = true := by simp [h2]
      by_cases h3 : f = f'
      · have h3' : (f == f') = true := by simp [h3]
        have HB : Hid (B = decide (l = l')) := Lib.hid (by rw [hB, h1', h2', h3']; simp)
        clear hB h1 h2 h3 hl hm
        go_enter Try.func15, Try.ntmps15
        go_wp2_with fail
        refine (HS.out _ (((Ext.refl _ _).alloc _).alloc _)).mono ?_
        rintro e w2 ⟨rfl, hP⟩
        go_wp2_with fail
        go_ret
        exact ⟨by rw [HB.out]; rfl, (((Ext.refl _ _).alloc _).alloc _).pure hP⟩
      · have h3' : (f == f') = false := by simp [h3]
        have HB : Hid (B = false) := Lib.hid (by rw [hB, h1', h2', h3']; simp)
        clear hB h1 h2 h3 hl hm
        go_enter Try.func15, Try.ntmps15
        go_wp2_with fail
        go_ret
        exact ⟨by rw [HB.out]; rfl, (((Ext.refl _ _).alloc _).alloc _)⟩
    · have h2' : (a == a') = false := by simp [h2]
      have HB : Hid (B = false) := Lib.hid (by rw [hB, h1', h2']; simp)
      clear hB h1 h2 hl hm
      go_enter Try.func15, Try.ntmps15
      go_wp2_with fail
      go_ret
      exact ⟨by rw [HB.out]; rfl, (((Ext.refl _ _).alloc _).alloc _)⟩
  · have h1' : (o == o') = false := by simp [h1]
    have HB : Hid (B = false) := Lib.hid (by rw [hB, h1']; simp)
    clear hB h1 hl hm
    go_enter Try.func15, Try.ntmps15
    go_wp2_with fail
    go_ret
    exact ⟨by rw [HB.out]; rfl, (((Ext.refl _ _).alloc _).alloc _)⟩

/-- what a table comes to -/
def nats (ls : List Int) : List Nat := ls.map Int.toNat
def encB (o a f : Int) (ls : List Int) : List UInt8 := if okT o a f ls then pack true (tabB o.toNat a.toNat f.toNat (nats ls) 0 []) else []
def encE (o a f : Int) (ls : List Int) : Int := if okT o a f ls then 0 else 2
def EncTo (o a f : Int) (ls : List Int) (w : World) (e : Ending) (w' : World) : Prop := ∃ ra rc, e = .returned (.tuple #[.slice ra (encB o a f ls).length rc, .int .i64 (encE o a f ls)]) ∧ NewRow w w' ra rc (encB o a f ls)
theorem new_nil {w w' : World} (h : Pure w w') : NewRow w w' none 0 [] := ⟨row_nil _ _, h, fun _ => rfl, fun g hg => (by cases hg), fun g hg => (by cases hg), Nat.le_refl _, Nat.zero_le _⟩
theorem okT_ints {o a f : Int} {ls : List Int} (h : okT o a f ls = true) : o = (o.toNat : Int) ∧ a = (a.toNat : Int) ∧ f = (f.toNat : Int) ∧ ls = (nats ls).map (fun x : Nat => (x : Int)) := by
  obtain ⟨h1, h2, h3, h4, h5⟩ := okT_true.1 h
  refine ⟨by omega, by omega, by omega, ?_⟩
  unfold nats
  rw [List.map_map]
  refine (List.map_id ls).symm.trans (List.map_congr_left fun x hx => ?_)
  have := List.any_eq_false.1 h5 x hx
  have h6 : inB x 1 2147483647 = true := by simpa [odd] using this
  have := inB_true.1 h6
  simp only [id, Function.comp]; omega
theorem nats_len (ls : List Int) : (nats ls).length = ls.length := by simp [nats]
theorem encode_any (o a f : Int) (la : Option Addr) (c : Nat) (ls : List Int) (w : World) (hr : RowOf w la (ls.map iV)) (hl : (ls.length : Int) ≤ 9223372036854775807) :
    Calls Try.prog 9 #[tblV o a f la ls.length c] w (EncTo o a f ls w) := by
  by_cases h : okT o a f ls = true
  · obtain ⟨e1, e2, e3, e4⟩ := okT_ints h
    have hB : encB o a f ls = pack true (tabB o.toNat a.toNat f.toNat (nats ls) 0 []) := if_pos h
    have hE : encE o a f ls = 0 := if_pos h
    have key := encode_yes o.toNat a.toNat f.toNat la c (nats ls) w (by rw [← intV_map, ← e4]; exact hr) (by rw [← e4, ← e1, ← e2, ← e3]; exact h)
    rw [← e1, ← e2, ← e3, nats_len] at key
    refine key.mono fun e w' ⟨ra, rc, he, hN⟩ => ⟨ra, rc, by rw [hB, hE]; exact he, by rw [hB]; exact hN⟩
  · have h' : okT o a f ls = false := by simpa using h
    have hB : encB o a f ls = [] := if_neg h
    have hE : encE o a f ls = 2 := if_neg h
    refine (encode_no o a f la c ls w hr hl h').mono fun e w' ⟨he, hP⟩ => ⟨none, 0, by rw [hB, hE]; exact he, by rw [hB]; exact new_nil hP⟩
set_option maxRecDepth 100000 in
theorem refencode_any (o a f : Int) (la : Option Addr) (c : Nat) (ls : List Int) (w : World) (hr : RowOf w la (ls.map iV)) (hl : (ls.length : Int) ≤ 9223372036854775807) :
    Calls Try.prog 11 #[tblV o a f la ls.length c] w (EncTo o a f ls w) := by
  obtain ⟨w1, hw1⟩ : ∃ w1, w1 = w.alloc (.cells #[.int .i64 o, .int .i64 a, .int .i64 f, .slice la ls.length c] 24) := ⟨_, rfl⟩
  have hB1 : BlockIs w1 w.heap.size [.int .i64 o, .int .i64 a, .int .i64 f, .slice la ls.length c] 24 := hw1 ▸ BlockIs.new w _ _
  have hP1 : Pure w w1 := hw1 ▸ ext_alloc w _
  have hr1 := hr.ext hP1 (fun _ _ => id)
  have HC0 := refcheck_any o a f la c ls w1 hr1 hl
  by_cases h : okT o a f ls = true
  · obtain ⟨e1, e2, e3, e4⟩ := okT_ints h
    rw [h] at HC0
    have hB : encB o a f ls = pack true (tabB o.toNat a.toNat f.toNat (nats ls) 0 []) := if_pos h
    have hE : encE o a f ls = 0 := if_pos h
    have HT0 := fun W (hP : Pure w W) => text_any o.toNat a.toNat f.toNat la c (nats ls) none 0 [] 0 W (by rw [← intV_map, ← e4]; exact hr.ext hP (fun _ _ => id)) (by rw [← e4, ← e1, ← e2, ← e3]; exact h) (by decide) (row_nil _ _) (by decide)
    rw [← e1, ← e2, ← e3, nats_len] at HT0
    obtain ⟨P, hP⟩ : ∃ P, P = pack true (tabB o.toNat a.toNat f.toNat (nats ls) 0 []) := ⟨_, rfl⟩
    rw [← hP] at HT0 hB
    have HB := Lib.hid hB
    have HE := Lib.hid hE
    have HC := Lib.hid HC0
    have HT := Lib.hid HT0
    clear hB hE HC0 HT0 e1 e2 e3 e4 h hP
    unfold tblV at HC HT ⊢
    go_enter Try.func11, Try.ntmps11
    go_wp2_with fail
    rw [← hw1]
    clear hw1
    refine HC.out.mono ?_
    rintro e w2 ⟨rfl, hE2⟩
    have hB2 := hB1.ext hE2 id
    have hP2 := hP1.pure hE2
    have b0 : w2.cell? ⟨w.heap.size, 0, none⟩ = some (.int .i64 o) := hB2.cell 0
    have b1 : w2.cell? ⟨w.heap.size, 0 + 1, none⟩ = some (.int .i64 a) := hB2.cell 1
    have b2 : w2.cell? ⟨w.heap.size, 0 + 2, none⟩ = some (.int .i64 f) := hB2.cell 2
    have b3 : w2.cell? ⟨w.heap.size, 0 + 3, none⟩ = some (.slice la ls.length c) := hB2.cell 3
    go_wp2_with fail
    refine (HT.out w2 hP2).mono ?_
    rintro e w3 ⟨ra, rc, rfl, hO, hP3⟩
    go_wp2_with fail
    go_ret2
    refine ⟨ra, rc, by rw [HB.out, HE.out]; rfl, ?_⟩
    rw [HB.out]
    obtain ⟨_, _, hh, h1, h2, h3, h4⟩ := own_form hO
    cases hh
    exact ⟨bytes_of_own hO, hP2.pure hP3, h3, fun g hg => Nat.le_trans hP2.size (h4 g hg).1, fun g hg => (h4 g hg).2.1, h1, h2⟩
  · have h' : okT o a f ls = false := by simpa using h
    rw [h'] at HC0
    have hB : encB o a f ls = [] := if_neg h
    have hE : encE o a f ls = 2 := if_neg h
    have HB := Lib.hid hB
    have HE := Lib.hid hE
    have HC := Lib.hid HC0
    clear hB hE HC0 h h'
    unfold tblV at HC ⊢
    go_enter Try.func11, Try.ntmps11
    go_wp2_with fail
    rw [← hw1]
    clear hw1
    refine HC.out.mono ?_
    rintro e w2 ⟨rfl, hE2⟩
    have hP2 := hP1.pure hE2
    go_wp2_with fail
    go_ret2
    refine ⟨none, 0, by rw [HB.out, HE.out]; rfl, ?_⟩
    rw [HB.out]
    exact new_nil hP2
end Go.Proofs.Ytjnpjkenmkgooaa
