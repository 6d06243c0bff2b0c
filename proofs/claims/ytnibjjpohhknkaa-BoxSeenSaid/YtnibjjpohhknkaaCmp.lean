/-
  May a dictionary's names be? (the reference's)
  Walked: strings.IndexByte, the reference's Text.
  May a value be, by itself? (both)
  Walked: own (own), of values that hold no number, no name and no dictionary.
  Walked: the program's own, of values without anything, of numbers and names.
  Walked: the program's own, of dictionaries and of what has no kind.
  Walked: the program's own, of every value.
  Walked: own (refown), of values that hold no number, no name and no dictionary.
  Walked: the reference's own, of numbers, names, dictionaries and of what has no kind.
  Walked: the reference's own, of texts; and of every value.
  Walked: the program's walk through a value, with any closure.
  The first error of a value; walked: the reference's first and Check.
  Walked: both Checks.
  How two values stand (plain); walked: cmp.Compare, cmp.Or, strings.Compare.
-/
import Derived.Test.YtnibjjpohhknkaaDict
import Derived.Lib.Bytealg
import Derived.Lib.IndexLaws
import Derived.Laws.Externs
namespace Go.Proofs.Ytnibjjpohhknkaa
open Go.RowKit
set_option linter.unusedVariables false
set_option linter.unusedSimpArgs false

theorem bl_total : ∀ x y : List UInt8, (Op.bytesLess y x || y == x) = !Op.bytesLess x y
  | [], [] => by simp [Op.bytesLess]
  | [], b :: y => by simp [Op.bytesLess]
  | a :: x, [] => by simp [Op.bytesLess]
  | a :: x, b :: y => by
    have ih := bl_total x y
    simp only [Op.bytesLess]
    by_cases h1 : a < b
    · have h2 : ¬ b < a := by simp only [UInt8.lt_iff_toNat_lt] at *; omega
      have h3 : ¬ b = a := fun e => by subst e; simp only [UInt8.lt_iff_toNat_lt] at h1; omega
      simp [h1, h2, h3]
    · by_cases h2 : a = b
      · subst h2
        simp only [UInt8.lt_irrefl, decide_false, Bool.false_or, beq_self_eq_true, Bool.true_and, ← ih]
        simp
      · have h3 : b < a := by
          simp only [UInt8.lt_iff_toNat_lt] at *
          have : a.toNat ≠ b.toNat := fun e => h2 (UInt8.toNat_inj.1 e)
          omega
        simp [h1, h2, h3]
def dictOwn (n : Int) (s : ByteArray) (l : List V) : Int := if n = 0 ∧ s.toList = [] then dictE l else 2
end Go.Proofs.Ytnibjjpohhknkaa
namespace Go.Proofs.Ytnibjjpohhknkaa
open Go.RowKit
set_option linter.unusedVariables false
set_option linter.unusedSimpArgs false

/-- may a text be a name's? -/
def textB (s : ByteArray) : Bool := decide (s.size ≤ 127) && !(s.data.toList.contains 0)
theorem idx_text (s : ByteArray) : decide (0 ≤ Lib.indexByte s.data.toList 0) = s.data.toList.contains 0 := by
  by_cases h : (0 : UInt8) ∈ s.data.toList
  · have h1 : s.data.toList.contains 0 = true := by simpa using h
    rw [h1]
    refine decide_eq_true ?_
    have h2 := Lib.indexByte_ge s.data.toList 0
    by_cases e : Lib.indexByte s.data.toList 0 = -1
    · obtain ⟨k, hk, hk2⟩ := List.mem_iff_getElem.1 h
      exact absurd (by rw [List.getElem?_eq_getElem hk, hk2]) (Lib.indexByte_none e k)
    · omega
  · have h1 : s.data.toList.contains 0 = false := by simpa using h
    rw [h1]
    refine decide_eq_false ?_
    intro h2
    obtain ⟨o, ho⟩ : ∃ o : Nat, Lib.indexByte s.data.toList 0 = (o : Int) := ⟨_, (Int.toNat_of_nonneg h2).symm⟩
    have := (Lib.indexByte_some ho).1
    exact h (List.mem_of_getElem? this)
end Go.Proofs.Ytnibjjpohhknkaa
namespace Go.Proofs.Ytnibjjpohhknkaa
open Go.RowKit
set_option linter.unusedVariables false
set_option linter.unusedSimpArgs false

/-- which error a value has by itself -/
def ownE (k n : Int) (s : ByteArray) (l : List V) : Int :=
  if k = 0 then (if n = 0 ∧ s.toList = [] ∧ l.length = 0 then 0 else 2)
  else if k = 1 then (if (n = 0 ∨ n = 1) ∧ s.toList = [] ∧ l.length = 0 then 0 else 2)
  else if k = 2 ∨ k = 3 then numE k n s l.length
  else if k = 4 then (if n = 0 ∧ l.length = 0 then 0 else 2)
  else if k = 5 then (if textB s = true then (if n = 0 ∧ l.length = 0 then 0 else 2) else 17)
  else if k = 6 then (if n = 0 ∧ s.toList = [] then 0 else 2)
  else if k = 7 then dictOwn n s l
  else if k = 8 then (if (1 ≤ n ∧ n ≤ 4096) ∧ s.toList = [] ∧ l.length = 0 then 0 else 2)
  else 2
end Go.Proofs.Ytnibjjpohhknkaa
namespace Go.Proofs.Ytnibjjpohhknkaa
open Go.RowKit
set_option linter.unusedVariables false
set_option linter.unusedSimpArgs false

theorem ownE_1 (n : Int) (s : ByteArray) (l : List V) : ownE 1 n s l = if (n = 0 ∨ n = 1) ∧ s.toList = [] ∧ l.length = 0 then 0 else 2 := by unfold ownE; rw [if_neg (by decide), if_pos rfl]
theorem ownE_4 (n : Int) (s : ByteArray) (l : List V) : ownE 4 n s l = if n = 0 ∧ l.length = 0 then 0 else 2 := by unfold ownE; rw [if_neg (by decide), if_neg (by decide), if_neg (by decide), if_pos rfl]
theorem ownE_6 (n : Int) (s : ByteArray) (l : List V) : ownE 6 n s l = if n = 0 ∧ s.toList = [] then 0 else 2 := by unfold ownE; rw [if_neg (by decide), if_neg (by decide), if_neg (by decide), if_neg (by decide), if_neg (by decide), if_pos rfl]
theorem ownE_8 (n : Int) (s : ByteArray) (l : List V) : ownE 8 n s l = if (1 ≤ n ∧ n ≤ 4096) ∧ s.toList = [] ∧ l.length = 0 then 0 else 2 := by unfold ownE; rw [if_neg (by decide), if_neg (by decide), if_neg (by decide), if_neg (by decide), if_neg (by decide), if_neg (by decide), if_neg (by decide), if_pos rfl]
end Go.Proofs.Ytnibjjpohhknkaa
namespace Go.Proofs.Ytnibjjpohhknkaa
open Go.RowKit
set_option linter.unusedVariables false
set_option linter.unusedSimpArgs false

theorem ownE_0 (n : Int) (s : ByteArray) (l : List V) : ownE 0 n s l = if n = 0 ∧ s.toList = [] ∧ l.length = 0 then 0 else 2 := by unfold ownE; rw [if_pos rfl]
theorem ownE_2 (n : Int) (s : ByteArray) (l : List V) : ownE 2 n s l = numE 2 n s l.length := by unfold ownE; rw [if_neg (by decide), if_neg (by decide), if_pos (Or.inl rfl)]
theorem ownE_3 (n : Int) (s : ByteArray) (l : List V) : ownE 3 n s l = numE 3 n s l.length := by unfold ownE; rw [if_neg (by decide), if_neg (by decide), if_pos (Or.inr rfl)]
theorem ownE_5 (n : Int) (s : ByteArray) (l : List V) : ownE 5 n s l = if textB s = true then (if n = 0 ∧ l.length = 0 then 0 else 2) else 17 := by unfold ownE; rw [if_neg (by decide), if_neg (by decide), if_neg (by decide), if_neg (by decide), if_pos rfl]
theorem ownE_7 (n : Int) (s : ByteArray) (l : List V) : ownE 7 n s l = dictOwn n s l := by unfold ownE; rw [if_neg (by decide), if_neg (by decide), if_neg (by decide), if_neg (by decide), if_neg (by decide), if_neg (by decide), if_pos rfl]
theorem ownE_other {k : Int} (h : ¬ (0 ≤ k ∧ k ≤ 8)) (n : Int) (s : ByteArray) (l : List V) : ownE k n s l = 2 := by unfold ownE; rw [if_neg (by omega), if_neg (by omega), if_neg (by omega), if_neg (by omega), if_neg (by omega), if_neg (by omega), if_neg (by omega), if_neg (by omega)]

end Go.Proofs.Ytnibjjpohhknkaa
namespace Go.Proofs.Ytnibjjpohhknkaa
open Go.RowKit
set_option linter.unusedVariables false
set_option linter.unusedSimpArgs false

end Go.Proofs.Ytnibjjpohhknkaa
namespace Go.Proofs.Ytnibjjpohhknkaa
open Go.RowKit
set_option linter.unusedVariables false
set_option linter.unusedSimpArgs false

end Go.Proofs.Ytnibjjpohhknkaa
namespace Go.Proofs.Ytnibjjpohhknkaa
open Go.RowKit
set_option linter.unusedVariables false
set_option linter.unusedSimpArgs false


end Go.Proofs.Ytnibjjpohhknkaa
namespace Go.Proofs.Ytnibjjpohhknkaa
open Go.RowKit
set_option linter.unusedVariables false
set_option linter.unusedSimpArgs false

end Go.Proofs.Ytnibjjpohhknkaa
namespace Go.Proofs.Ytnibjjpohhknkaa
open Go.RowKit
set_option linter.unusedVariables false
set_option linter.unusedSimpArgs false

end Go.Proofs.Ytnibjjpohhknkaa
namespace Go.Proofs.Ytnibjjpohhknkaa
open Go.RowKit
set_option linter.unusedVariables false
set_option linter.unusedSimpArgs false

mutual
/-- a walk through a value: a step at each, until one says no -/
def V.walk {σ : Type} (f : σ → V → σ × Bool) : V → σ → σ × Bool
  | .mk k n s l, x => if (f x (.mk k n s l)).2 = true then (if (k == 6 || k == 7) = true then walkL f l (f x (.mk k n s l)).1 else ((f x (.mk k n s l)).1, true)) else ((f x (.mk k n s l)).1, false)
def walkL {σ : Type} (f : σ → V → σ × Bool) : List V → σ → σ × Bool
  | [], x => (x, true)
  | v :: l, x => if (v.walk f x).2 = true then walkL f l (v.walk f x).1 else ((v.walk f x).1, false)
end
theorem walk_eq {σ : Type} (f : σ → V → σ × Bool) (v : V) (x : σ) : v.walk f x = if (f x v).2 = true then (if v.holds = true then walkL f v.l (f x v).1 else ((f x v).1, true)) else ((f x v).1, false) := by
  cases v; rw [V.walk]; rfl
theorem walkL_snoc {σ : Type} (f : σ → V → σ × Bool) (l : List V) (v : V) (x : σ) : walkL f (l ++ [v]) x = if (walkL f l x).2 = true then v.walk f (walkL f l x).1 else walkL f l x := by
  induction l generalizing x with
  | nil =>
    rw [List.nil_append, walkL, walkL, walkL]
    by_cases h : (v.walk f x).2 = true
    · rw [if_pos h, if_pos rfl]
      obtain ⟨y, b⟩ : ∃ y, y = v.walk f x := ⟨_, rfl⟩
      rw [← b] at h ⊢
      rcases y with ⟨y, z⟩
      simp only at h
      rw [h]
    · rw [if_neg h, if_pos rfl]
      obtain ⟨y, b⟩ : ∃ y, y = v.walk f x := ⟨_, rfl⟩
      rw [← b] at h ⊢
      rcases y with ⟨y, z⟩
      simp only [Bool.not_eq_true] at h
      rw [h]
  | cons u l ih =>
    rw [List.cons_append, walkL, walkL]
    by_cases h : (u.walk f x).2 = true
    · rw [if_pos h, if_pos h, ih]
    · rw [if_neg h, if_neg h, if_neg (by simp)]
theorem walkL_stop {σ : Type} (f : σ → V → σ × Bool) (p q : List V) (x : σ) (h : (walkL f p x).2 = false) : walkL f (p ++ q) x = walkL f p x := by
  induction p generalizing x with
  | nil => rw [walkL] at h; cases h
  | cons u p ih =>
    rw [List.cons_append, walkL]
    rw [walkL] at h
    rw [walkL]
    split
    · next e => rw [if_pos e] at h; exact ih _ h
    · rfl
/-- one step of what a closure keeps -/
structure Step {Γ : Type} (S : Γ → Nat → Prop) (I : Γ → World → Prop) (γ : Γ) (W : World) (γ' : Γ) (W' : World) : Prop where
  ext : Ext (S γ) W W'
  inv : I γ' W'
  own : ∀ k, S γ' k → S γ k ∨ W.heap.size ≤ k
theorem Step.trans {Γ : Type} {S : Γ → Nat → Prop} {I : Γ → World → Prop} {γ γ' γ'' : Γ} {W W' W'' : World} (h : Step S I γ W γ' W') (k : Step S I γ' W' γ'' W'') : Step S I γ W γ'' W'' :=
  ⟨h.ext.trans k.ext (fun i hi hs => (h.own i hs).resolve_right (by omega)), k.inv, fun i hs => by
    rcases k.own i hs with h1 | h1
    · exact h.own i h1
    · exact Or.inr (Nat.le_trans h.ext.size h1)⟩
/-- what a walk's closure must do -/
structure Walker {Γ σ : Type} (view : Γ → σ) (S : Γ → Nat → Prop) (I : Γ → World → Prop) (f : σ → V → σ × Bool) (g : Nat) (caps : Array Value) (w0 : World) : Prop where
  goes : ∀ args w, (callFunc g args).run Try.prog w = .ok (.enter g args) w
  base : ∀ γ W, I γ W → Pure w0 W
  below : ∀ γ W k, I γ W → S γ k → k < W.heap.size
  keep : ∀ γ W W', I γ W → Pure W W' → I γ W'
  see : ∀ d v cs γ W, Lies w0 (d + 1) v cs → v.size ≤ 100000 → I γ W → Calls Try.prog g (#[.agg cs.toArray] ++ caps) W (fun e W' => ∃ γ', e = .returned (.bool (f (view γ) v).2) ∧ view γ' = (f (view γ) v).1 ∧ Step S I γ W γ' W')
def WalkTo {Γ σ : Type} (view : Γ → σ) (S : Γ → Nat → Prop) (I : Γ → World → Prop) (F : σ × Bool) (γ : Γ) (W : World) (e : Ending) (W' : World) : Prop :=
  ∃ γ', e = .returned (.bool F.2) ∧ view γ' = F.1 ∧ Step S I γ W γ' W'
theorem Walker.pure {Γ σ : Type} {view : Γ → σ} {S : Γ → Nat → Prop} {I : Γ → World → Prop} {f : σ → V → σ × Bool} {g : Nat} {caps : Array Value} {w0 : World} (h : Walker view S I f g caps w0) {γ : Γ} {W W' : World} (hI : I γ W) (hP : Pure W W') : Step S I γ W γ W' :=
  ⟨hP.mono (fun _ _ e => e.elim), h.keep _ _ _ hI hP, fun k hs => Or.inl hs⟩
end Go.Proofs.Ytnibjjpohhknkaa
namespace Go.Proofs.Ytnibjjpohhknkaa
open Go.RowKit
set_option linter.unusedVariables false
set_option linter.unusedSimpArgs false

mutual
/-- the first error of a value, and of all in it -/
def V.first : V → Int
  | .mk k n s l => if ownE k n s l = 0 then (if (k == 6 || k == 7) = true then firstL l else 0) else ownE k n s l
def firstL : List V → Int
  | [] => 0
  | v :: l => if v.first = 0 then firstL l else v.first
end
theorem first_eq (v : V) : v.first = if ownE v.kind v.n v.s v.l = 0 then (if v.holds = true then firstL v.l else 0) else ownE v.kind v.n v.s v.l := by cases v; rw [V.first]; rfl
theorem firstL_append (p q : List V) : firstL (p ++ q) = if firstL p = 0 then firstL q else firstL p := by
  induction p with
  | nil => simp [firstL]
  | cons u p ih =>
    rw [List.cons_append, firstL, firstL]
    by_cases h : u.first = 0
    · rw [if_pos h, if_pos h, ih]
    · rw [if_neg h, if_neg h, if_neg h]
theorem firstL_snoc (p : List V) (u : V) (h : firstL p = 0) : firstL (p ++ [u]) = u.first := by
  rw [firstL_append, if_pos h, firstL, firstL]; split <;> simp_all
theorem firstL_stop {l : List V} {k : Nat} {u : V} (h : firstL (l.take k) = 0) (hu : l[k]? = some u) (hn : u.first ≠ 0) : firstL l = u.first := by
  obtain ⟨hkl, rfl⟩ := List.getElem?_eq_some_iff.1 hu
  conv => lhs; rw [← List.take_append_drop (k + 1) l]
  rw [List.take_succ_eq_append_getElem hkl, firstL_append, firstL_snoc _ _ h, if_neg hn]
theorem length_sizeL (l : List V) : l.length ≤ sizeL l := by
  induction l with
  | nil => simp
  | cons u l ih => rw [sizeL, List.length_cons]; have := size_eq u; omega
end Go.Proofs.Ytnibjjpohhknkaa
namespace Go.Proofs.Ytnibjjpohhknkaa
open Go.RowKit
set_option linter.unusedVariables false
set_option linter.unusedSimpArgs false

theorem enters {P : Program} {f : FuncId} {fn : Func} {c : Code} (hf : P.funcs[f]? = some fn) (hname : (fn.name == "runtime.NumGoroutine") = false) (hb : fn.body = some c) (args : Array Value) (w : World) : (callFunc f args).run P w = .ok (.enter f args) w := by
  have h1 : fn.name ≠ "runtime.NumGoroutine" := by simpa using hname
  simp [callFunc, go_sem, hf, h1, hb]
/-- which error a value has -/
def V.checkE (v : V) : Int := if v.depth ≤ 64 then v.first else 15
/-- the step of the program's Check -/
def ownF (_ : Int) (v : V) : Int × Bool := (ownE v.kind v.n v.s v.l, decide (ownE v.kind v.n v.s v.l = 0))
mutual
theorem V.walk_own : ∀ (v : V) (x : Int), v.walk ownF x = (v.first, decide (v.first = 0))
  | .mk k n s l, x => by
    rw [V.walk, V.first]
    have hL := walkL_own l
    have e : ownF x (.mk k n s l) = (ownE k n s l, decide (ownE k n s l = 0)) := rfl
    rw [e]
    simp only [decide_eq_true_eq]
    by_cases h : ownE k n s l = 0
    · rw [if_pos h, if_pos h]
      by_cases h67 : (k == 6 || k == 7) = true
      · rw [if_pos h67, if_pos h67, h, hL]
      · rw [if_neg h67, if_neg h67, h]; rfl
    · rw [if_neg h, if_neg h]; simp [h]
theorem walkL_own : ∀ (l : List V), walkL ownF l 0 = (firstL l, decide (firstL l = 0))
  | [] => by rw [walkL, firstL]; rfl
  | v :: l => by
    rw [walkL, firstL, V.walk_own v]
    have hL := walkL_own l
    simp only [decide_eq_true_eq]
    by_cases h : v.first = 0
    · rw [if_pos h, if_pos h, h, hL]
    · rw [if_neg h, if_neg h]; simp [h]
end
def CheckI (w0 : World) (p : Nat) (x : Int) (W : World) : Prop := Pure w0 W ∧ w0.heap.size ≤ p ∧ BlockIs W p [.int .i64 x] 29
end Go.Proofs.Ytnibjjpohhknkaa
namespace Go.Proofs.Ytnibjjpohhknkaa
open Go.RowKit
set_option linter.unusedVariables false
set_option linter.unusedSimpArgs false

def cmpI (x y : Int) : Int := if x < y then -1 else if y < x then 1 else 0
def cmpS (a b : ByteArray) : Int := Lib.compareBytes a.data.toList b.data.toList
def orI (x y : Int) : Int := if x = 0 then y else x
mutual
/-- how two values stand -/
def V.cmp : V → V → Int
  | .mk k n s l, .mk k' n' s' l' => orI (orI (cmpI k k') (orI (cmpI n n') (cmpS s s'))) (cmpL l l')
def cmpL : List V → List V → Int
  | [], [] => 0
  | [], _ :: _ => -1
  | _ :: _, [] => 1
  | a :: l, b :: m => orI (a.cmp b) (cmpL l m)
end
def V.head (v u : V) : Int := orI (cmpI v.kind u.kind) (orI (cmpI v.n u.n) (cmpS v.s u.s))
theorem cmp_eq (v u : V) : v.cmp u = orI (v.head u) (cmpL v.l u.l) := by cases v; cases u; rw [V.cmp]; rfl
theorem orI_zero (y : Int) : orI 0 y = y := rfl
theorem orI_ne {x : Int} (y : Int) (h : x ≠ 0) : orI x y = x := if_neg h
def UnTo (v : Value) (w : World) (e : Ending) (w' : World) : Prop := e = .returned v ∧ w' = w
end Go.Proofs.Ytnibjjpohhknkaa
