/-
  Values that lie in certain blocks alone.
-/
import Derived.Test.YtipmbcalnnomjaaTop
namespace Go.Proofs.Ytipmbcalnnomjaa
open Go.RowKit
set_option linter.unusedVariables false
set_option linter.unusedSimpArgs false

/-- as Lies; every row that holds anything lies in a block of A -/
def LiesIn (A : Nat → Prop) (W : World) : Nat → V → List Value → Prop
  | 0, _, _ => False
  | d + 1, v, cs => ∃ (a : Option Addr) (c : Nat) (rows : List (List Value)), cs = [.int .i64 v.kind, .int .i64 v.n, .string v.s, .slice a v.l.length c] ∧ rows.length = v.l.length ∧ (∀ r ∈ rows, r.length = 4) ∧ RowOf W a (rows.flatMap id) ∧ v.l.length ≤ c ∧ c ≤ maxLen ∧ (a = none → c = 0) ∧ (∀ (i : Nat) (u : V) (r : List Value), v.l[i]? = some u → rows[i]? = some r → LiesIn A W d u r) ∧ v.s.size ≤ maxLen ∧ (∀ x, a = some x → rows ≠ [] → A x.block)
theorem LiesIn.lies {A : Nat → Prop} {W : World} : ∀ {d : Nat} {v : V} {cs : List Value}, LiesIn A W d v cs → Lies W d v cs
  | 0, _, _, h => h.elim
  | d + 1, v, cs, h => by
    obtain ⟨a, c, rows, h1, h2, h3, h4, h5, h6, h7, h8, h9, _⟩ := h
    exact ⟨a, c, rows, h1, h2, h3, h4, h5, h6, h7, fun i u r hu hr => (h8 i u r hu hr).lies, h9⟩
theorem LiesIn.mono {A A' : Nat → Prop} {W : World} (hA : ∀ b, b < W.heap.size → A b → A' b) : ∀ {d : Nat} {v : V} {cs : List Value}, LiesIn A W d v cs → LiesIn A' W d v cs
  | 0, _, _, h => h.elim
  | d + 1, v, cs, h => by
    obtain ⟨a, c, rows, h1, h2, h3, h4, h5, h6, h7, h8, h9, h10⟩ := h
    refine ⟨a, c, rows, h1, h2, h3, h4, h5, h6, h7, fun i u r hu hr => (h8 i u r hu hr).mono hA, h9, fun x hx hne => hA _ ?_ (h10 x hx hne)⟩
    subst hx
    have hpos : 0 < (rows.flatMap id).length := by
      cases rows with
      | nil => exact absurd rfl hne
      | cons r rows => rw [List.flatMap_cons, List.length_append]; have := h3 r (by simp); simp only [id]; omega
    obtain ⟨b, o, hb, hc⟩ := h4 0 _ (List.getElem?_eq_getElem hpos)
    cases hb
    exact World.block_lt_of_cell? W _ hc
theorem LiesIn.ext {A S : Nat → Prop} {W W' : World} (hE : Ext S W W') (hS : ∀ b, A b → ¬ S b) : ∀ {d : Nat} {v : V} {cs : List Value}, LiesIn A W d v cs → LiesIn A W' d v cs
  | 0, _, _, h => h.elim
  | d + 1, v, cs, h => by
    obtain ⟨a, c, rows, h1, h2, h3, h4, h5, h6, h7, h8, h9, h10⟩ := h
    refine ⟨a, c, rows, h1, h2, h3, ?_, h5, h6, h7, fun i u r hu hr => LiesIn.ext hE hS (h8 i u r hu hr), h9, h10⟩
    by_cases hne : rows = []
    · subst hne; intro i u hu; simp at hu
    · exact h4.ext hE (fun x hx => hS _ (h10 x hx hne))
theorem LiesIn.pure {A : Nat → Prop} {W W' : World} (hE : Pure W W') {d : Nat} {v : V} {cs : List Value} (h : LiesIn A W d v cs) : LiesIn A W' d v cs := h.ext hE (fun _ _ => id)
theorem Lies.within {W : World} : ∀ {d : Nat} {v : V} {cs : List Value}, Lies W d v cs → LiesIn (fun b => b < W.heap.size) W d v cs
  | 0, _, _, h => h.elim
  | d + 1, v, cs, h => by
    obtain ⟨a, c, rows, h1, h2, h3, h4, h5, h6, h7, h8, h9⟩ := h
    refine ⟨a, c, rows, h1, h2, h3, h4, h5, h6, h7, fun i u r hu hr => (h8 i u r hu hr).within, h9, fun x hx hne => ?_⟩
    subst hx
    have hpos : 0 < (rows.flatMap id).length := by
      cases rows with
      | nil => exact absurd rfl hne
      | cons r rows => rw [List.flatMap_cons, List.length_append]; have := h3 r (by simp); simp only [id]; omega
    obtain ⟨b, o, hb, hc⟩ := h4 0 _ (List.getElem?_eq_getElem hpos)
    cases hb
    exact World.block_lt_of_cell? W _ hc
theorem LiesIn.more {A : Nat → Prop} {W : World} : ∀ {d : Nat} {v : V} {cs : List Value}, LiesIn A W d v cs → LiesIn A W (d + 1) v cs
  | 0, _, _, h => h.elim
  | d + 1, v, cs, h => by
    obtain ⟨a, c, rows, h1, h2, h3, h4, h5, h6, h7, h8, h9, h10⟩ := h
    exact ⟨a, c, rows, h1, h2, h3, h4, h5, h6, h7, fun i u r hu hr => (h8 i u r hu hr).more, h9, h10⟩
/-- so many values stand in these cells, each in blocks of A -/
def FitIn (A : Nat → Prop) (W : World) (d : Nat) (l : List V) (xs : List Value) : Prop := ∃ rows : List (List Value), xs = rows.flatMap id ∧ rows.length = l.length ∧ (∀ r ∈ rows, r.length = 4) ∧ (∀ (i : Nat) (u : V) (r : List Value), l[i]? = some u → rows[i]? = some r → LiesIn A W d u r)
namespace FitIn
variable {A A' S : Nat → Prop} {W W' : World} {d : Nat} {l : List V} {xs : List Value}
theorem nil : FitIn A W d [] [] := ⟨[], rfl, rfl, (fun r hr => by cases hr), (fun i u r hu => by simp at hu)⟩
theorem ext (h : FitIn A W d l xs) (hE : Ext S W W') (hS : ∀ b, A b → ¬ S b) : FitIn A W' d l xs := by
  obtain ⟨rows, h1, h2, h3, h4⟩ := h
  exact ⟨rows, h1, h2, h3, fun i u r hu hr => (h4 i u r hu hr).ext hE hS⟩
theorem mono (h : FitIn A W d l xs) (hA : ∀ b, b < W.heap.size → A b → A' b) : FitIn A' W d l xs := by
  obtain ⟨rows, h1, h2, h3, h4⟩ := h
  exact ⟨rows, h1, h2, h3, fun i u r hu hr => (h4 i u r hu hr).mono hA⟩
theorem snoc (h : FitIn A W d l xs) {u : V} {r : List Value} (hu : LiesIn A W d u r) : FitIn A W d (l ++ [u]) (xs ++ r) := by
  obtain ⟨rows, h1, h2, h3, h4⟩ := h
  have hl := hu.lies.len
  refine ⟨rows ++ [r], by rw [List.flatMap_append, ← h1]; simp, by simp [h2], ?_, ?_⟩
  · intro x hx
    rcases List.mem_append.1 hx with hx | hx
    · exact h3 x hx
    · simp at hx; rw [hx]; exact hl
  · intro i v x hv hx
    by_cases hi : i < l.length
    · rw [List.getElem?_append_left hi] at hv
      rw [List.getElem?_append_left (by omega)] at hx
      exact h4 i v x hv hx
    · rw [List.getElem?_append_right (by omega)] at hv
      rw [List.getElem?_append_right (by omega)] at hx
      have hi0 : i - l.length = 0 := by
        rcases Nat.eq_zero_or_pos (i - l.length) with e | e
        · exact e
        · rw [List.getElem?_eq_none (by simp; omega)] at hv; cases hv
      rw [hi0] at hv
      rw [h2, hi0] at hx
      cases hv
      cases hx
      exact hu
theorem len (h : FitIn A W d l xs) : xs.length = l.length * 4 := by
  obtain ⟨rows, rfl, h2, h3, _⟩ := h
  rw [← h2]
  have := flat_len (size := 4) id rows (fun r hr => h3 r hr)
  exact this
theorem lies (h : FitIn A W d l xs) {a : Option Addr} (hr : RowOf W a xs) (k n : Int) (s : ByteArray) (c : Nat) (hc : l.length ≤ c) (hcm : c ≤ maxLen) (hnil : a = none → c = 0) (hs : s.size ≤ maxLen) (ha : ∀ x, a = some x → A x.block) :
    LiesIn A W (d + 1) (.mk k n s l) [.int .i64 k, .int .i64 n, .string s, .slice a l.length c] := by
  obtain ⟨rows, rfl, h2, h3, h4⟩ := h
  exact ⟨a, c, rows, rfl, h2, h3, hr, hc, hcm, hnil, h4, hs, fun x hx _ => ha x hx⟩
end FitIn
theorem LiesIn.leaf (A : Nat → Prop) (W : World) (d : Nat) (k n : Int) (s : ByteArray) (hs : s.size ≤ maxLen) : LiesIn A W (d + 1) (.mk k n s []) [.int .i64 k, .int .i64 n, .string s, .slice none 0 0] :=
  FitIn.nil.lies (a := none) (fun i u hu => by simp at hu) k n s 0 (Nat.le_refl _) (Nat.zero_le _) (fun _ => rfl) hs (fun x hx => by cases hx)
end Go.Proofs.Ytipmbcalnnomjaa
