import Derived.Test.YtnpiemcfbnpfdaaGreatTopSr
import Derived.Test.YtnpiemcfbnpfdaaGreatSqSr
set_option linter.unusedVariables false
set_option linter.unusedSimpArgs false
namespace Go.Proofs.YtnpiemcfbnpfdaaGreat
open Go.RowKit
def LiesIn (A : Nat → Prop) (W : World) : Nat → V → List Value → Prop
 | 0, _, _ => False
 | d + 1, v, cs => ∃ (a : Option Addr) (c : Nat) (rows : List (List Value)), cs = [.int .i64 v.kind, .int .i64 v.n, .string v.s, .slice a v.l.length c] ∧ rows.length = v.l.length ∧ (∀ r ∈ rows, r.length = 4) ∧ RowOf W a (rows.flatMap id) ∧ v.l.length ≤ c ∧ c ≤ maxLen ∧ (a = none → c = 0) ∧ (∀ (i : Nat) (u : V) (r : List Value), v.l[i]? = some u → rows[i]? = some r → LiesIn A W d u r) ∧ v.s.size ≤ maxLen ∧ (∀ x, a = some x → rows ≠ [] → A x.block)
theorem LiesIn.lies {A : Nat → Prop} {W : World} : ∀ {d : Nat} {v : V} {cs : List Value}, LiesIn A W d v cs → Lies W d v cs
 | 0, _, _, h => h.elim
 | d + 1, v, cs, h => by
   obtain ⟨a, c, rows, h1, h2, h3, h4, h5, h6, h7, h8, h9, _⟩ := h
   exact ⟨a, c, rows, h1, h2, h3, h4, h5, h6, h7, fun i u r hu hr => (h8 i u r hu hr).lies, h9⟩
def FitIn (A : Nat → Prop) (W : World) (d : Nat) (l : List V) (xs : List Value) : Prop := ∃ rows : List (List Value), xs = rows.flatMap id ∧ rows.length = l.length ∧ (∀ r ∈ rows, r.length = 4) ∧ (∀ (i : Nat) (u : V) (r : List Value), l[i]? = some u → rows[i]? = some r → LiesIn A W d u r)
namespace FitIn
variable {A A' S : Nat → Prop} {W W' : World} {d : Nat} {l : List V} {xs : List Value}
theorem nil : FitIn A W d [] [] := ⟨[], rfl, rfl, (fun r hr => by cases hr), (fun i u r hu => by simp at hu)⟩
theorem lies (h : FitIn A W d l xs) {a : Option Addr} (hr : RowOf W a xs) (k n : Int) (s : ByteArray) (c : Nat) (hc : l.length ≤ c) (hcm : c ≤ maxLen) (hnil : a = none → c = 0) (hs : s.size ≤ maxLen) (ha : ∀ x, a = some x → A x.block) :
 LiesIn A W (d + 1) (.mk k n s l) [.int .i64 k, .int .i64 n, .string s, .slice a l.length c] := by
 obtain ⟨rows, rfl, h2, h3, h4⟩ := h
 exact ⟨a, c, rows, rfl, h2, h3, hr, hc, hcm, hnil, h4, hs, fun x hx _ => ha x hx⟩
end FitIn
theorem LiesIn.leaf (A : Nat → Prop) (W : World) (d : Nat) (k n : Int) (s : ByteArray) (hs : s.size ≤ maxLen) : LiesIn A W (d + 1) (.mk k n s []) [.int .i64 k, .int .i64 n, .string s, .slice none 0 0] :=
 FitIn.nil.lies (a := none) (fun i u hu => by simp at hu) k n s 0 (Nat.le_refl _) (Nat.zero_le _) (fun _ => rfl) hs (fun x hx => by cases hx)
