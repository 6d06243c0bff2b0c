import Derived.Test.YtipmbcalnnomjaaGreatRef24Tu
import Derived.Deep.DeepCutAuto
import Derived.Test.YtipmbcalnnomjaaGreatSqTu
set_option linter.unusedVariables false
set_option linter.unusedSimpArgs false
namespace Go.Proofs.YtipmbcalnnomjaaGreat
open Go.RowKit Go.Maps
theorem sizeSP : (Tryz.prog.info? 36).map (·.size) = some 5 := by kernel_rfl
def PAt (p : PartsP) (v0 v1 v2 v3 v4 : Value) (W : World) : Prop := ∃ t f s h a c rs, PartsAt p t f s h a c rs W ∧ v0 = t.v ∧ v1 = f.v ∧ v2 = .slice a rs.length c ∧ v3 = s.v ∧ v4 = h.v
theorem PAt.pure {p : PartsP} {v0 v1 v2 v3 v4 : Value} {W W' : World} (h : PAt p v0 v1 v2 v3 v4 W) (hP : Pure W W') : PAt p v0 v1 v2 v3 v4 W' := by
 obtain ⟨t, f, s, h, a, c, rs, H, e⟩ := h
 exact ⟨t, f, s, h, a, c, rs, H.pure hP, e⟩
section
variable {rows : List (List Int)} {p j M cnt : Nat} {D : DataW Unit} {W W' : World}
end
section
variable {T R tb tr B uc : Nat} {Du : DataW Unit} {κ κ' : Nat → Nat} {A : Nat → Option Addr} {C : Nat → Nat} {X : Nat → List Value} {qs : List CRow} {W W' W1 W2 : World} {S : Nat → Prop}
end
