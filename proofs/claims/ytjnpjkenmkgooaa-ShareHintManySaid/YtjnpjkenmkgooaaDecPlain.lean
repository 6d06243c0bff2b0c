/-
  Plain: what the bytes of a table come to.
-/
import Derived.Test.YtjnpjkenmkgooaaGoRows
namespace Go.Proofs.Ytjnpjkenmkgooaa
open Go.RowKit C27
set_option linter.unusedVariables false

def hO (bs : List Bool) : Nat := numAt bs 0 32
def hA (bs : List Bool) : Nat := numAt bs 32 32
def hF (bs : List Bool) : Nat := numAt bs 64 32
def hN (bs : List Bool) : Nat := numAt bs 96 32
def hG (bs : List Bool) : Nat := numAt bs 128 16
def hL (bs : List Bool) : Nat := numAt bs 144 32
def hW (bs : List Bool) : Nat := numAt bs 176 16
def HeadOk (bs : List Bool) : Prop := hO bs ≤ 4096 ∧ hA bs ≤ 2147483647 ∧ hN bs ≤ 4096 ∧ hF bs ≤ hN bs ∧ hG bs ≤ 32 ∧ hW bs ≤ 32
structure DRes where
  e : Int
  o : Nat
  a : Nat
  f : Nat
  ls : List Nat
  m : Nat
def dErr (e : Int) : DRes := ⟨e, 0, 0, 0, [], 0⟩
def DecTo (bs : List Bool) (r : DRes) : Prop :=
  (bs.length < 192 ∧ r = dErr 10) ∨ (192 ≤ bs.length ∧ ((¬ HeadOk bs ∧ r = dErr 27) ∨ (HeadOk bs ∧ ∃ s' out, RowsTo bs 192 (hN bs) (hL bs) (hW bs) (hG bs) s' out ∧ ((s'.2 ≠ 0 ∧ r = dErr s'.2) ∨ (s'.2 = 0 ∧ r = ⟨0, hO bs, hA bs, hF bs, out, s'.1 / 8⟩)))))
theorem rows_unique {bs : List Bool} {p n least wd groups : Nat} {s s' : St} {out out' : List Nat} (h : RowsTo bs p n least wd groups s out) (h' : RowsTo bs p n least wd groups s' out') : s.2 = s'.2 ∧ (s.2 = 0 → s = s' ∧ out = out') := by
  obtain ⟨K, hF, h⟩ := h
  obtain ⟨K', hF', h'⟩ := h'
  have hk := hF.unique hF'
  subst hk
  rcases h with ⟨⟨x, hx, hb⟩, he⟩ | ⟨hall, h⟩
  · rcases h' with ⟨_, he'⟩ | ⟨hall', _⟩
    · exact ⟨he.trans he'.symm, fun h => absurd h (by rw [he]; decide)⟩
    · have := hall' x hx; rw [hb] at this; cases this
  · rcases h' with ⟨⟨x, hx, hb⟩, _⟩ | ⟨_, h'⟩
    · have := hall x hx; rw [hb] at this; cases this
    · rcases h with ⟨hn, he⟩ | ⟨ha, he, ho⟩
      · rcases h' with ⟨_, he'⟩ | ⟨ha', _⟩
        · exact ⟨he.trans he'.symm, fun h => absurd h (by rw [he]; decide)⟩
        · exact absurd ha' hn
      · rcases h' with ⟨hn', _⟩ | ⟨_, he', ho'⟩
        · exact absurd ha hn'
        · exact ⟨by rw [he, he'], fun _ => ⟨he.trans he'.symm, ho.trans ho'.symm⟩⟩
theorem dec_unique {bs : List Bool} {r r' : DRes} (h : DecTo bs r) (h' : DecTo bs r') : r = r' := by
  rcases h with ⟨h1, rfl⟩ | ⟨h1, h⟩
  · rcases h' with ⟨_, rfl⟩ | ⟨h1', _⟩
    · rfl
    · omega
  · rcases h' with ⟨h1', _⟩ | ⟨_, h'⟩
    · omega
    · rcases h with ⟨hn, rfl⟩ | ⟨hk, s, out, hr, h⟩
      · rcases h' with ⟨_, rfl⟩ | ⟨hk', _⟩
        · rfl
        · exact absurd hk' hn
      · rcases h' with ⟨hn', _⟩ | ⟨_, s', out', hr', h'⟩
        · exact absurd hk hn'
        · obtain ⟨e1, e2⟩ := rows_unique hr hr'
          rcases h with ⟨h, rfl⟩ | ⟨h, rfl⟩
          · rcases h' with ⟨_, rfl⟩ | ⟨h', _⟩
            · rw [e1]
            · exact absurd (e1.trans h') h
          · rcases h' with ⟨h', _⟩ | ⟨_, rfl⟩
            · exact absurd (e1.symm.trans h) h'
            · obtain ⟨rfl, rfl⟩ := e2 h; rfl
/-- what the head's numbers come to -/
theorem head_short {bs : List Bool} {s1 s2 s3 s4 s5 s6 s7 : St} {v1 v2 v3 v4 v5 v6 v7 : Nat} (hl : bs.length < 192) (h1 : num1 bs (0, 0) 32 = (v1, s1)) (h2 : num1 bs s1 32 = (v2, s2)) (h3 : num1 bs s2 32 = (v3, s3)) (h4 : num1 bs s3 32 = (v4, s4)) (h5 : num1 bs s4 16 = (v5, s5)) (h6 : num1 bs s5 32 = (v6, s6)) (h7 : num1 bs s6 16 = (v7, s7)) : s7.2 = 10 := by
  have stay : ∀ {s s' : St} {v w : Nat}, num1 bs s w = (v, s') → s.2 = 10 → s'.2 = 10 := fun {s s' v w} h e => by
    rw [num1_err (by rw [e]; decide)] at h
    rw [← (Prod.mk.inj h).2]; exact e
  have go : ∀ {p : Nat} {s' : St} {v w : Nat}, num1 bs (p, 0) w = (v, s') → (s' = (p + w, 0) ∧ p + w ≤ bs.length) ∨ s'.2 = 10 := fun {p s' v w} h => by
    by_cases hc : p + w ≤ bs.length
    · rw [num1_yes hc] at h; exact Or.inl ⟨(Prod.mk.inj h).2.symm, hc⟩
    · rw [num1_cut (by omega)] at h; exact Or.inr (by rw [← (Prod.mk.inj h).2])
  have step : ∀ {s s' : St} {v w p : Nat}, num1 bs s w = (v, s') → (s = (p, 0) ∨ s.2 = 10) → (s' = (p + w, 0) ∧ p + w ≤ bs.length) ∨ s'.2 = 10 := fun {s s' v w p} h hs => by
    rcases hs with rfl | e
    · exact go h
    · exact Or.inr (stay h e)
  have weak : ∀ {s : St} {q : Nat}, (s = (q, 0) ∧ q ≤ bs.length) ∨ s.2 = 10 → s = (q, 0) ∨ s.2 = 10 := fun h => h.imp (fun h => h.1) id
  have a1 := step h1 (Or.inl rfl)
  have a2 := step h2 (weak a1)
  have a3 := step h3 (weak a2)
  have a4 := step h4 (weak a3)
  have a5 := step h5 (weak a4)
  have a6 := step h6 (weak a5)
  rcases step h7 (weak a6) with ⟨_, h⟩ | h
  · omega
  · exact h
theorem head_yes {bs : List Bool} {s1 s2 s3 s4 s5 s6 s7 : St} {v1 v2 v3 v4 v5 v6 v7 : Nat} (hl : 192 ≤ bs.length) (h1 : num1 bs (0, 0) 32 = (v1, s1)) (h2 : num1 bs s1 32 = (v2, s2)) (h3 : num1 bs s2 32 = (v3, s3)) (h4 : num1 bs s3 32 = (v4, s4)) (h5 : num1 bs s4 16 = (v5, s5)) (h6 : num1 bs s5 32 = (v6, s6)) (h7 : num1 bs s6 16 = (v7, s7)) :
    v1 = hO bs ∧ v2 = hA bs ∧ v3 = hF bs ∧ v4 = hN bs ∧ v5 = hG bs ∧ v6 = hL bs ∧ v7 = hW bs ∧ s7 = (192, 0) := by
  rw [num1_yes (by omega)] at h1
  obtain ⟨rfl, rfl⟩ := Prod.mk.inj h1
  rw [num1_yes (by omega)] at h2
  obtain ⟨rfl, rfl⟩ := Prod.mk.inj h2
  rw [num1_yes (by omega)] at h3
  obtain ⟨rfl, rfl⟩ := Prod.mk.inj h3
  rw [num1_yes (by omega)] at h4
  obtain ⟨rfl, rfl⟩ := Prod.mk.inj h4
  rw [num1_yes (by omega)] at h5
  obtain ⟨rfl, rfl⟩ := Prod.mk.inj h5
  rw [num1_yes (by omega)] at h6
  obtain ⟨rfl, rfl⟩ := Prod.mk.inj h6
  rw [num1_yes (by omega)] at h7
  obtain ⟨rfl, rfl⟩ := Prod.mk.inj h7
  exact ⟨rfl, rfl, rfl, rfl, rfl, rfl, rfl, rfl⟩
end Go.Proofs.Ytjnpjkenmkgooaa
