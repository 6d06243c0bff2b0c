/-
  Plain: to which objects a value refers; the numbers in a value.
-/
import Derived.Test.YtiakphjkcpbccaaFirst
import Derived.Maps.OwnOps
import Derived.Maps.Views
namespace Go.Proofs.Ytiakphjkcpbccaa
open Go.RowKit
set_option linter.unusedVariables false

mutual
/-- all numbers in a value -/
def V.nums : V → List Int
  | .mk _ n _ l => n :: numsL l
def numsL : List V → List Int
  | [] => []
  | v :: l => v.nums ++ numsL l
end
theorem nums_eq (v : V) : v.nums = v.n :: numsL v.l := by cases v; rw [V.nums]; rfl
theorem nums_mem {l : List V} {v : V} (h : v ∈ l) : ∀ x ∈ v.nums, x ∈ numsL l := by
  induction l with
  | nil => cases h
  | cons u l ih =>
    intro x hx
    rw [numsL, List.mem_append]
    rcases List.mem_cons.1 h with rfl | h
    · exact Or.inl hx
    · exact Or.inr (ih h x hx)
mutual
theorem V.nums_len : ∀ v : V, v.nums.length = v.size
  | .mk k n s l => by
    have := numsL_len l
    simp only [V.nums, V.size, List.length_cons]; omega
theorem numsL_len : ∀ l : List V, (numsL l).length = sizeL l
  | [] => by simp [numsL, sizeL]
  | v :: l => by
    have := V.nums_len v
    have := numsL_len l
    rw [numsL, sizeL, List.length_append]; omega
end
/-- all numbers in it stand in L -/
def InL (L : List Int) (v : V) : Prop := ∀ x ∈ v.nums, x ∈ L
theorem InL.down {L : List Int} {v u : V} (h : InL L v) (hu : u ∈ v.l) : InL L u := fun x hx => h x (by rw [nums_eq]; exact List.mem_cons_of_mem _ (nums_mem hu x hx))
theorem InL.n {L : List Int} {v : V} (h : InL L v) : v.n ∈ L := h _ (by rw [nums_eq]; exact List.mem_cons_self)
theorem nodup_len : ∀ (S L : List Int), S.Nodup → (∀ x ∈ S, x ∈ L) → S.length ≤ L.length
  | [], _, _, _ => Nat.zero_le _
  | x :: S, L, hn, hs => by
    obtain ⟨h1, h2⟩ := List.nodup_cons.1 hn
    have hx := hs x List.mem_cons_self
    have := nodup_len S (L.erase x) h2 (fun y hy => (List.mem_erase_of_ne (by rintro rfl; exact h1 hy)).2 (hs y (List.mem_cons_of_mem _ hy)))
    rw [List.length_erase_of_mem hx] at this
    have := List.length_pos_of_mem hx
    rw [List.length_cons]; omega
mutual
/-- the references of a value behind those that are there -/
def V.more : V → List Int → List Int
  | .mk k n _ l, S => if k = 8 ∧ S.contains n = false then S ++ [n] else if (k == 6 || k == 7) = true then moreL l S else S
def moreL : List V → List Int → List Int
  | [], S => S
  | v :: l, S => moreL l (v.more S)
end
theorem more_eq (v : V) (S : List Int) : v.more S = if v.kind = 8 ∧ S.contains v.n = false then S ++ [v.n] else if v.holds = true then moreL v.l S else S := by cases v; rw [V.more]; rfl
theorem moreL_snoc (l : List V) (u : V) (S : List Int) : moreL (l ++ [u]) S = u.more (moreL l S) := by
  induction l generalizing S with
  | nil => rw [List.nil_append, moreL, moreL, moreL]
  | cons v l ih => rw [List.cons_append, moreL, moreL, ih]
mutual
theorem V.more_len : ∀ (v : V) (S : List Int), (v.more S).length ≤ S.length + v.size
  | .mk k n s l, S => by
    have := moreL_len l S
    rw [V.more, V.size]
    split
    · rw [List.length_append]; simp
    · split
      · omega
      · omega
theorem moreL_len : ∀ (l : List V) (S : List Int), (moreL l S).length ≤ S.length + sizeL l
  | [], S => by rw [moreL]; omega
  | v :: l, S => by
    have := V.more_len v S
    have := moreL_len l (v.more S)
    rw [moreL, sizeL]; omega
end
/-- one step of the walk -/
def seeF (S : List Int) (v : V) : List Int × Bool := (if v.kind = 8 ∧ S.contains v.n = false then S ++ [v.n] else S, true)
mutual
theorem V.walk_more : ∀ (v : V) (S : List Int), v.walk seeF S = (v.more S, true)
  | .mk k n s l, S => by
    have ih := fun T => walkL_more l T
    rw [walk_eq, more_eq, if_pos (show (seeF S (V.mk k n s l)).2 = true from rfl)]
    by_cases h : (V.mk k n s l).kind = 8 ∧ S.contains (V.mk k n s l).n = false
    · have hh : (V.mk k n s l).holds = false := by simp [V.holds, h.1]
      rw [hh, if_neg (by simp), if_pos h]
      simp only [seeF]
      rw [if_pos h]
    · have e : (seeF S (V.mk k n s l)).1 = S := by simp only [seeF]; rw [if_neg h]
      rw [e, if_neg h]
      split
      · exact ih S
      · rfl
theorem walkL_more : ∀ (l : List V) (S : List Int), walkL seeF l S = (moreL l S, true)
  | [], S => by rw [walkL, moreL]
  | v :: l, S => by
    rw [walkL, moreL, V.walk_more v S, if_pos rfl]
    exact walkL_more l (v.more S)
end
def intsV (to : List Int) : List Value := to.map (fun x => Value.int .i64 x)
theorem intsV_len (S : List Int) : (intsV S).length = S.length := by rw [intsV, List.length_map]
theorem intsV_snoc (S : List Int) (x : Int) : intsV (S ++ [x]) = intsV S ++ [.int .i64 x] := by simp [intsV]
theorem intsV_get {S : List Int} {k : Nat} (h : k < S.length) : (intsV S)[k]? = some (.int .i64 S[k]) := by rw [intsV, List.getElem?_map, List.getElem?_eq_getElem h]; rfl
theorem infoI : (Try.prog.info? 3).map (fun i => (i.zero, i.size, i.bytes)) = some (some (.int .i64 0), 1, 8) := by kernel_rfl
/-- a map's block is kept while others are written -/
theorem own_map_ext {H : Type} {P : Program} {k : TypeId} {R : Value → Option (DataW H × List MemPlace)} {b n : Nat} {D : DataW H} {S : Nat → Prop} {w w' : World} (h : w.ownsMap P k R b n D) (e : Ext S w w') (hn : ¬ S b) : w'.ownsMap P k R b n D := by
  have hlt := h.lt
  obtain ⟨es, clock, hb, F, hs, hD⟩ := h
  exact ⟨es, clock, (e.block b hlt hn).trans hb, F, hs, hD⟩
end Go.Proofs.Ytiakphjkcpbccaa
