/-
  What a table of hints comes to; and walked: the reference's Encode.
-/
import Derived.Test.YtdhejhgpjeenaaaTable
import Derived.Test.YtdhejhgpjeenaaaRefCheck
import Derived.Test.YtdhejhgpjeenaaaRead
namespace Go.Proofs.Ytdhejhgpjeenaaa
open Go.RowKit C26
set_option linter.unusedVariables false

def encB (a : Int) (ps : List PH) : List UInt8 := if chk a ps = 0 then pack true (tabB a.toNat (toN ps) rest0) else []
def EncTo (a : Int) (ps : List PH) (w : World) (e : Ending) (w' : World) : Prop := ∃ ra rc, e = .returned (.tuple #[.slice ra (encB a ps).length rc, .int .i64 (chk a ps)]) ∧ NewRow w w' ra rc (encB a ps)
theorem new_nil {w w' : World} (h : Pure w w') : NewRow w w' none 0 [] := ⟨row_nil _ _, h, fun _ => rfl, fun g hg => (by cases hg), fun g hg => (by cases hg), Nat.le_refl _, Nat.zero_le _⟩
theorem newrow_own {w w1 w' : World} {ra : Option Addr} {rc : Nat} {l : List UInt8} (hP : Pure w w1) (hO : w'.ownsRow w1.heap.size 5 1 (.slice ra l.length rc) l.length (l.map byV)) (hP' : Pure w1 w') : NewRow w w' ra rc l := by
  obtain ⟨_, _, hh, h1, h2, h3, h4⟩ := own_form hO
  cases hh
  exact ⟨own_row hO, hP.pure hP', h3, fun g hg => Nat.le_trans hP.size (h4 g hg).1, fun g hg => (h4 g hg).2.1, h1, h2⟩
set_option maxRecDepth 100000 in
theorem refencode_any (a : Int) (ad : Option Addr) (c : Nat) (ps : List PH) (w : World) (h : Hints w ad ps) (hm : Mod ps) :
    Calls Try.prog 11 #[.int .i64 a, .slice ad ps.length c] w (EncTo a ps w) := by
  have HC0 := refcheck_any a ad c ps w h hm
  by_cases hz : chk a ps = 0
  · have hk := chk_ok hz hm
    have hB : encB a ps = pack true (tabB a.toNat (toN ps) rest0) := if_pos hz
    have e1 : a = (a.toNat : Int) := by have := hk.a; omega
    have HT0 := fun W (hP : Pure w W) => table_any a.toNat ad c ps 0 0 0 0 W (h.pure hP) hm (by rw [← e1]; exact hk) (by omega) (by omega) (by omega) (by omega)
    obtain ⟨P, hP⟩ : ∃ P, P = pack true (tabB a.toNat (toN ps) rest0) := ⟨_, rfl⟩
    have hr : (⟨0 % 33, 0 % 33, 0 % 33, 0⟩ : RestN) = rest0 := rfl
    rw [hr, ← hP, ← e1] at HT0
    rw [← hP] at hB
    unfold IntRes at HC0
    rw [hz] at HC0
    have HC := Lib.hid HC0
    have HT := Lib.hid HT0
    have HB := Lib.hid hB
    have HZ := Lib.hid hz
    clear HC0 HT0 hB hz e1 hP hr hk h
    go_enter Try.func11, Try.ntmps11
    go_wp2_with fail
    refine HC.out.mono ?_
    rintro e w2 ⟨rfl, hP2⟩
    go_wp2_with fail
    refine (HT.out w2 hP2).mono ?_
    rintro e w3 ⟨ra, rc, rfl, hO, hP3⟩
    go_wp2_with fail
    go_ret2
    refine ⟨ra, rc, by rw [HB.out, HZ.out]; rfl, ?_⟩
    rw [HB.out]
    exact newrow_own hP2 hO hP3
  · have hB : encB a ps = [] := if_neg hz
    have hne : (chk a ps != 0) = true := by simpa using hz
    unfold IntRes at HC0
    obtain ⟨E, hE⟩ : ∃ E, E = chk a ps := ⟨_, rfl⟩
    rw [← hE] at HC0 hne
    have HC := Lib.hid HC0
    have HB := Lib.hid hB
    have HE := Lib.hid hE
    clear HC0 hB hz hE h
    go_enter Try.func11, Try.ntmps11
    go_wp2_with fail
    refine HC.out.mono ?_
    rintro e w2 ⟨rfl, hP2⟩
    go_wp2_with fail
    go_ret2
    refine ⟨none, 0, by rw [HB.out, ← HE.out]; rfl, ?_⟩
    rw [HB.out]
    exact new_nil hP2
end Go.Proofs.Ytdhejhgpjeenaaa
