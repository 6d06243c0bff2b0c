/-
  Plain law: bytes of which one is changed have another sum.
-/
import Derived.Test.YtclnicnieapojaaPlain
namespace Go.Proofs.Ytclnicnieapojaa

def addB (s : Int) (x : UInt8) : Int := s + x.toNat
def tot (l : List UInt8) : Int := l.foldl addB 0
theorem tot_snoc (l : List UInt8) (x : UInt8) : tot (l ++ [x]) = tot l + x.toNat := by simp [tot, addB]
theorem run_fst (l : List UInt8) : (run l).1 = (1 + tot l) % 65521 := by
  have key : ∀ k, k ≤ l.length → (run (l.take k)).1 = (1 + tot (l.take k)) % 65521 := by
    intro k
    induction k with
    | zero => intro _; simp [run, runFrom, tot]
    | succ k ih =>
      intro hk
      have := ih (by omega)
      rw [List.take_add_one, List.getElem?_eq_getElem (show k < l.length by omega), Option.toList, run_append, tot_snoc]
      simp only [runFrom, List.foldl, st, this]
      omega
  have := key l.length (Nat.le_refl _)
  rwa [List.take_of_length_le (Nat.le_refl _)] at this
theorem tot_from (s : Int) (l : List UInt8) : l.foldl addB s = s + tot l := by
  induction l generalizing s with
  | nil => simp [tot]
  | cons x l ih => simp only [tot, List.foldl]; rw [ih, ih (addB 0 x)]; simp only [addB]; omega
theorem tot_cons (x : UInt8) (l : List UInt8) : tot (x :: l) = x.toNat + tot l := by
  show l.foldl addB (addB 0 x) = _
  rw [tot_from]; simp only [addB]; omega
theorem tot_set (l : List UInt8) (k : Nat) (hk : k < l.length) (x : UInt8) : tot (l.set k x) = tot l - l[k].toNat + x.toNat := by
  induction l generalizing k with
  | nil => simp at hk
  | cons y l ih =>
    cases k with
    | zero => simp [tot_cons]; omega
    | succ k => simp only [List.set_cons_succ, tot_cons, List.getElem_cons_succ]; rw [ih k (by simpa using hk)]; omega
theorem sum_sees (l : List UInt8) (k : Nat) (hk : k < l.length) (x : UInt8) : (sumOf (run (l.set k x)) != sumOf (run l)) = ((l[k].toNat : Int) != x.toNat) := by
  have h1 := run_fst (l.set k x)
  have h2 := run_fst l
  rw [tot_set l k hk x] at h1
  have b1 := run_in (l.set k x)
  have b2 := run_in l
  have hy := l[k].toNat_lt
  have hx := x.toNat_lt
  unfold InR at b1 b2
  by_cases e : l[k] = x
  · have e' : l.set k x = l := by rw [← e]; exact List.set_getElem_self hk
    rw [e', e]; simp
  · have e' : (l[k].toNat : Int) ≠ x.toNat := by
      intro h; exact e (UInt8.toNat_inj.1 (by omega))
    have e2 : sumOf (run (l.set k x)) ≠ sumOf (run l) := by
      unfold sumOf
      omega
    rw [bne_iff_ne.2 e', bne_iff_ne.2 e2]
end Go.Proofs.Ytclnicnieapojaa
