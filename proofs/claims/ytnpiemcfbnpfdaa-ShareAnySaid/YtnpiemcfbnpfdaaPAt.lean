/-
  Parts as five slices.
-/
import Derived.Test.YtnpiemcfbnpfdaaOfSame
namespace Go.Proofs.Ytnpiemcfbnpfdaa
open Go.RowKit Go.Maps
set_option linter.unusedVariables false
set_option linter.unusedSimpArgs false

/-- five values that are parts -/
def PAt (p : PartsP) (v0 v1 v2 v3 v4 : Value) (W : World) : Prop := ∃ t f s h a c rs, PartsAt p t f s h a c rs W ∧ v0 = t.v ∧ v1 = f.v ∧ v2 = .slice a rs.length c ∧ v3 = s.v ∧ v4 = h.v
theorem PAt.pure {p : PartsP} {v0 v1 v2 v3 v4 : Value} {W W' : World} (h : PAt p v0 v1 v2 v3 v4 W) (hP : Pure W W') : PAt p v0 v1 v2 v3 v4 W' := by
  obtain ⟨t, f, s, h, a, c, rs, H, e⟩ := h
  exact ⟨t, f, s, h, a, c, rs, H.pure hP, e⟩
def PartsTo2 (p : PartsP) (w : World) (e : Ending) (w' : World) : Prop :=
  ∃ (a0 a1 a2 a3 a4 : Option Addr) (n0 n1 n2 n3 n4 c0 c1 c2 c3 c4 : Nat), e = .returned (.agg #[.slice a0 n0 c0, .slice a1 n1 c1, .slice a2 n2 c2, .slice a3 n3 c3, .slice a4 n4 c4]) ∧
    PAt p (.slice a0 n0 c0) (.slice a1 n1 c1) (.slice a2 n2 c2) (.slice a3 n3 c3) (.slice a4 n4 c4) w' ∧ Pure w w'
theorem PartsTo.two {p : PartsP} {w w' : World} {e : Ending} (h : PartsTo p w e w') : PartsTo2 p w e w' := by
  obtain ⟨t, f, s, h, a, c, rs, rfl, H, hP⟩ := h
  exact ⟨t.a, f.a, a, s.a, h.a, t.l.length, f.l.length, rs.length, s.l.length, h.l.length, t.c, f.c, c, s.c, h.c, rfl, ⟨t, f, s, h, a, c, rs, H, rfl, rfl, rfl, rfl, rfl⟩, hP⟩
def PSmall (p : PartsP) : Prop := p.tree.length ≤ 1000000 ∧ p.first.length ≤ 1000000 ∧ p.shared.length ≤ 1000000 ∧ p.others.length ≤ 1000000 ∧ p.own.length ≤ 1000000 ∧ ∀ r ∈ p.own, r.length ≤ 1000000
theorem rpsame2_any {p : PartsP} {v0 v1 v2 v3 v4 u0 u1 u2 u3 u4 : Value} {w : World} (H : PAt p v0 v1 v2 v3 v4 w) (K : PAt p u0 u1 u2 u3 u4 w) (hz : PSmall p) :
    Calls Try.prog 9 #[.agg #[v0, v1, v2, v3, v4], .agg #[u0, u1, u2, u3, u4]] w (BoolTo true w) := by
  obtain ⟨t, f, s, h, a, c, rs, H, rfl, rfl, rfl, rfl, rfl⟩ := H
  obtain ⟨t', f', s', h', a', c', rs', K, rfl, rfl, rfl, rfl, rfl⟩ := K
  exact rpsame_any H K hz
end Go.Proofs.Ytnpiemcfbnpfdaa
