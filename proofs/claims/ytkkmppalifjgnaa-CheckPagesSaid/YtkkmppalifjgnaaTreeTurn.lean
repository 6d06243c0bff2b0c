/-
  The plain walk does not hang on how the objects are numbered.
-/
import Derived.Test.YtkkmppalifjgnaaDocPl
namespace Go.Proofs.Ytkkmppalifjgnaa
open Go.RowKit
set_option linter.unusedVariables false
set_option linter.unusedSimpArgs false

def Tr.turn (g : Int → Int) (t : Tr) : Tr := ⟨t.nodes.map g, t.pages.map g⟩
/-- the objects l', numbered by g, are those of l -/
structure Turned (g : Int → Int) (l l' : List Ob) : Prop where
  inj : ∀ x y, g x = g y → x = y
  typed : ∀ x t, typedO (obAt l' (g x)) t = typedO (obAt l x) t
  node : ∀ x, nodeO (obAt l' (g x)) = (nodeO (obAt l x)).map fun p => (p.1.map g, p.2)
  par : ∀ x n, parentB (obAt l' (g x)).v (g n) = parentB (obAt l x).v n
theorem mem_turn {g : Int → Int} (hg : ∀ x y, g x = g y → x = y) (l : List Int) (x : Int) : g x ∈ l.map g ↔ x ∈ l := by
  rw [List.mem_map]
  exact ⟨fun ⟨y, hy, e⟩ => hg _ _ e ▸ hy, fun h => ⟨x, h, rfl⟩⟩
theorem Tr.has_turn {g : Int → Int} (hg : ∀ x y, g x = g y → x = y) (t : Tr) (x : Int) : (t.turn g).has (g x) ↔ t.has x := by
  unfold Tr.has Tr.turn
  rw [mem_turn hg, mem_turn hg]
def turnR (g : Int → Int) (r : Option (Tr × Int)) : Option (Tr × Int) := r.map fun p => (p.1.turn g, p.2)
theorem kidsP_turn {g : Int → Int} {f f' : Tr → Int → Option (Tr × Int)} {one : Bool} (hf : ∀ t k, f' (t.turn g) (g k) = turnR g (f t k)) :
    ∀ (r : List Int) (t : Tr) (s : Int), kidsP f' one (r.map g) (t.turn g) s = turnR g (kidsP f one r t s)
  | [], t, s => rfl
  | k :: r, t, s => by
    rw [List.map_cons]
    unfold kidsP
    rw [hf]
    cases h : f t k with
    | none => rfl
    | some p =>
      obtain ⟨u, m⟩ := p
      show (if one = true ∧ m ≠ 1 then none else kidsP f' one (r.map g) (u.turn g) (s + m)) = turnR g (if one = true ∧ m ≠ 1 then none else kidsP f one r u (s + m))
      split
      · rfl
      · exact kidsP_turn hf r u (s + m)
theorem belP_turn {g : Int → Int} {l l' : List Ob} (h : Turned g l l') (root : Int) : ∀ (f : Nat) (parent : Int) (page : Bool) (t : Tr) (n : Int),
    belP l' (g root) f (g parent) page (t.turn g) (g n) = turnR g (belP l root f parent page t n) := by
  have hR : ∀ x : Int, g x = g root ↔ x = root := fun x => ⟨h.inj _ _, fun e => e ▸ rfl⟩
  intro f
  induction f with
  | zero =>
    intro parent page t n
    unfold belP
    rw [h.typed, h.par]
    simp only [hR, Tr.has_turn h.inj]
    split
    · rfl
    · split
      · simp [turnR, Tr.turn]
      · simp [turnR]
  | succ f ih =>
    intro parent page t n
    unfold belP
    rw [h.typed, h.par, h.node]
    simp only [hR, Tr.has_turn h.inj]
    split
    · rfl
    · split
      · simp [turnR, Tr.turn]
      · cases hn : nodeO (obAt l n) with
        | none => rfl
        | some p =>
          obtain ⟨kids, count⟩ := p
          show (match kidsP (belP l' (g root) f (g n) (decide (count = (kids.map g).length))) (decide (count = (kids.map g).length)) (kids.map g) ⟨t.nodes.map g ++ [g n], t.pages.map g⟩ 0 with
            | some (u, s) => if s = count then some (u, s) else none
            | none => none) = turnR g (match kidsP (belP l root f n (decide (count = kids.length))) (decide (count = kids.length)) kids ⟨t.nodes ++ [n], t.pages⟩ 0 with
            | some (u, s) => if s = count then some (u, s) else none
            | none => none)
          have e : (⟨t.nodes.map g ++ [g n], t.pages.map g⟩ : Tr) = Tr.turn g ⟨t.nodes ++ [n], t.pages⟩ := by simp [Tr.turn]
          rw [List.length_map, e, kidsP_turn (fun t k => ih n _ t k)]
          cases hk : kidsP (belP l root f n (decide (count = kids.length))) (decide (count = kids.length)) kids ⟨t.nodes ++ [n], t.pages⟩ 0 with
          | none => rfl
          | some p =>
            obtain ⟨u, s⟩ := p
            show (if s = count then some (u.turn g, s) else none) = turnR g (if s = count then some (u, s) else none)
            split <;> rfl
end Go.Proofs.Ytkkmppalifjgnaa
