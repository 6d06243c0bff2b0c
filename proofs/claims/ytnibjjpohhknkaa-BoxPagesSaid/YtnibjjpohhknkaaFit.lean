/-
  Which values stand in so many cells; plain: find, put, drop.
-/
import Derived.Test.YtnibjjpohhknkaaDepth2
namespace Go.Proofs.Ytnibjjpohhknkaa
open Go.RowKit
set_option linter.unusedVariables false
set_option linter.unusedSimpArgs false

inductive Fit (W : World) (d : Nat) : List V → List Value → Prop
  | nil : Fit W d [] []
  | cons {u : V} {r : List Value} {l : List V} {xs : List Value} : Lies W d u r → Fit W d l xs → Fit W d (u :: l) (r ++ xs)
theorem Fit.len {W : World} {d : Nat} {l : List V} {xs : List Value} (h : Fit W d l xs) : xs.length = l.length * 4 := by
  induction h with
  | nil => rfl
  | cons h1 _ ih => rw [List.length_append, h1.len, ih, List.length_cons]; omega
theorem Fit.pure {W W' : World} {d : Nat} {l : List V} {xs : List Value} (h : Fit W d l xs) (hP : Pure W W') : Fit W' d l xs := by
  induction h with
  | nil => exact .nil
  | cons h1 _ ih => exact .cons (h1.pure hP) ih
theorem Fit.mono {W : World} {d d' : Nat} {l : List V} {xs : List Value} (h : Fit W d l xs) (hd : d ≤ d') : Fit W d' l xs := by
  induction h with
  | nil => exact .nil
  | cons h1 _ ih => exact .cons (h1.mono hd) ih
theorem Fit.one {W : World} {d : Nat} {l : List V} {xs : List Value} (h : Fit W d l xs) : ∀ u ∈ xs, u.oneCell' = true := by
  induction h with
  | nil => intro u hu; cases hu
  | cons h1 _ ih =>
    intro u hu
    rcases List.mem_append.1 hu with hu | hu
    · have := h1.one
      rw [Array.all_eq_true'] at this
      exact this u (by simpa using hu)
    · exact ih u hu
theorem Fit.append {W : World} {d : Nat} {l m : List V} {xs ys : List Value} (h : Fit W d l xs) (h2 : Fit W d m ys) : Fit W d (l ++ m) (xs ++ ys) := by
  induction h with
  | nil => exact h2
  | cons h1 _ ih => rw [List.cons_append, List.append_assoc]; exact .cons h1 ih
theorem Fit.single {W : World} {d : Nat} {u : V} {r : List Value} (h : Lies W d u r) : Fit W d [u] r := by
  have := Fit.cons h (Fit.nil (W := W) (d := d))
  rwa [List.append_nil] at this
theorem Fit.take {W : World} {d : Nat} {l : List V} {xs : List Value} (h : Fit W d l xs) : ∀ k : Nat, Fit W d (l.take k) (xs.take (k * 4)) := by
  induction h with
  | nil => intro k; simp; exact .nil
  | @cons u r l xs h1 _ ih =>
    intro k
    cases k with
    | zero => simp; exact .nil
    | succ k =>
      have e := h1.len
      rw [List.take_succ_cons, List.take_append, List.take_of_length_le (l := r) (by omega), show (k + 1) * 4 - r.length = k * 4 by omega]
      exact .cons h1 (ih k)
theorem Fit.drop {W : World} {d : Nat} {l : List V} {xs : List Value} (h : Fit W d l xs) : ∀ k : Nat, Fit W d (l.drop k) (xs.drop (k * 4)) := by
  induction h with
  | nil => intro k; simp; exact .nil
  | @cons u r l xs h1 h2 ih =>
    intro k
    cases k with
    | zero => simp; exact .cons h1 h2
    | succ k =>
      have e := h1.len
      rw [List.drop_succ_cons, List.drop_append, show r.drop ((k + 1) * 4) = [] from List.drop_eq_nil_of_le (by omega), List.nil_append, show (k + 1) * 4 - r.length = k * 4 by omega]
      exact ih k
theorem fit_rows {W : World} {d : Nat} : ∀ (l : List V) (rows : List (List Value)), rows.length = l.length → (∀ (i : Nat) (u : V) (r : List Value), l[i]? = some u → rows[i]? = some r → Lies W d u r) → Fit W d l (rows.flatMap id)
  | [], [], _, _ => .nil
  | u :: l, r :: rows, hl, h => by
    rw [List.flatMap_cons]
    exact .cons (h 0 u r rfl rfl) (fit_rows l rows (by simpa using hl) (fun i u r hu hr => h (i + 1) u r hu hr))
  | [], _ :: _, hl, _ => by simp at hl
  | _ :: _, [], hl, _ => by simp at hl
theorem Kids.fit {W : World} {d : Nat} {l : List V} {a : Option Addr} {rows : List (List Value)} (h : Kids W d l a rows) : Fit W d l (rows.flatMap id) := fit_rows l rows h.len h.lies
theorem Fit.rows {W : World} {d : Nat} {l : List V} {xs : List Value} (h : Fit W d l xs) : ∃ rows : List (List Value), xs = rows.flatMap id ∧ rows.length = l.length ∧ (∀ r ∈ rows, r.length = 4) ∧ (∀ (i : Nat) (u : V) (r : List Value), l[i]? = some u → rows[i]? = some r → Lies W d u r) := by
  induction h with
  | nil => exact ⟨[], rfl, rfl, (fun r hr => by cases hr), (fun i u r hu => by simp at hu)⟩
  | @cons u r l xs h1 _ ih =>
    obtain ⟨rows, rfl, e1, e2, e3⟩ := ih
    refine ⟨r :: rows, by rw [List.flatMap_cons]; rfl, by simp [e1], ?_, ?_⟩
    · intro r hr
      rcases List.mem_cons.1 hr with rfl | hr
      · exact h1.len
      · exact e2 r hr
    · intro i u r hu hr
      cases i with
      | zero => cases hu; cases hr; exact h1
      | succ i => exact e3 i u r hu hr
theorem Fit.kids {W : World} {d : Nat} {l : List V} {xs : List Value} {a : Option Addr} (h : Fit W d l xs) (hr : RowOf W a xs) : ∃ rows : List (List Value), xs = rows.flatMap id ∧ Kids W d l a rows := by
  obtain ⟨rows, rfl, e1, e2, e3⟩ := h.rows
  exact ⟨rows, rfl, e1, e2, hr, e3⟩
theorem Fit.at {W : World} {d : Nat} {l : List V} {xs : List Value} {a : Option Addr} (h : Fit W d l xs) (hr : RowOf W a xs) (k : Nat) (u : V) (hk : l[k]? = some u) :
    ∃ b o r, a = some ⟨b, o, none⟩ ∧ W.rangeAt b (o + k * 4) r ∧ r.length = 4 ∧ Lies W d u r := by
  obtain ⟨rows, _, hK⟩ := h.kids hr
  exact hK.at k u hk
theorem Fit.lies {W : World} {d : Nat} {l : List V} {xs : List Value} {a : Option Addr} (h : Fit W d l xs) (hr : RowOf W a xs) (k n : Int) (s : ByteArray) (c : Nat) (hc : l.length ≤ c) (hcm : c ≤ maxLen) (hnil : a = none → c = 0) (hs : s.size ≤ maxLen) :
    Lies W (d + 1) (.mk k n s l) [.int .i64 k, .int .i64 n, .string s, .slice a l.length c] := by
  obtain ⟨rows, rfl, hK⟩ := h.kids hr
  exact ⟨a, c, rows, rfl, hK.len, hK.four, hK.row, hc, hcm, hnil, hK.lies, hs⟩
/-- a value with none in it -/
theorem Lies.leaf (W : World) (d : Nat) (k n : Int) (s : ByteArray) (hs : s.size ≤ maxLen) : Lies W (d + 1) (.mk k n s []) [.int .i64 k, .int .i64 n, .string s, .slice none 0 0] :=
  Fit.lies .nil (fun i u hu => by simp at hu) k n s 0 (Nat.le_refl _) (Nat.zero_le _) (fun _ => rfl) hs
/-- from the parts of a value -/
theorem Lies.fit {W : World} {d : Nat} {v : V} {cs : List Value} (h : Lies W (d + 1) v cs) : ∃ a c xs, cs = [.int .i64 v.kind, .int .i64 v.n, .string v.s, .slice a v.l.length c] ∧ v.l.length ≤ c ∧ c ≤ maxLen ∧ (a = none → c = 0) ∧ Fit W d v.l xs ∧ RowOf W a xs ∧ v.s.size ≤ maxLen := by
  obtain ⟨a, c, rows, h1, h2, h3, h4, hK, h5⟩ := h.kids
  exact ⟨a, c, rows.flatMap id, h1, h2, h3, h4, hK.fit, hK.row, h5⟩
/-- the first of every other value that has it -/
def nextP (p : V → Bool) : List V → Option Nat
  | [] => none
  | [u] => if p u then some 0 else none
  | u :: _ :: l => if p u then some 0 else (nextP p l).map (· + 2)
theorem nextP_hit {p : V → Bool} {u : V} {l : List V} (h : p u = true) : nextP p (u :: l) = some 0 := by
  cases l <;> simp [nextP, h]
theorem nextP_miss {p : V → Bool} {u : V} {l : List V} (h : p u = false) : nextP p (u :: l) = (nextP p (l.drop 1)).map (· + 2) := by
  cases l <;> simp [nextP, h]
/-- where it stands from a place on; below 0: nowhere -/
def placeAt (p : V → Bool) (l : List V) (k : Nat) : Option Nat := (nextP p (l.drop k)).map (· + k)
theorem placeAt_end {p : V → Bool} {l : List V} {k : Nat} (h : l.length ≤ k) : placeAt p l k = none := by
  rw [placeAt, List.drop_eq_nil_of_le h]; rfl
theorem placeAt_hit {p : V → Bool} {l : List V} {k : Nat} {u : V} (hu : l[k]? = some u) (h : p u = true) : placeAt p l k = some k := by
  obtain ⟨hk, rfl⟩ := List.getElem?_eq_some_iff.1 hu
  rw [placeAt, List.drop_eq_getElem_cons hk, nextP_hit h]; simp
theorem placeAt_miss {p : V → Bool} {l : List V} {k : Nat} {u : V} (hu : l[k]? = some u) (h : p u = false) : placeAt p l k = placeAt p l (k + 2) := by
  obtain ⟨hk, rfl⟩ := List.getElem?_eq_some_iff.1 hu
  rw [placeAt, placeAt, List.drop_eq_getElem_cons hk, nextP_miss h, List.drop_drop, Option.map_map, show k + 1 + 1 = k + 2 from by omega]
  congr 1
  funext x
  simp only [Function.comp]
  omega
theorem nextP_spec {p : V → Bool} : ∀ (l : List V) (i : Nat), nextP p l = some i → i < l.length ∧ (∃ u, l[i]? = some u ∧ p u = true) ∧ i % 2 = 0
  | [], i, h => by simp [nextP] at h
  | [u], i, h => by
    simp only [nextP] at h
    split at h
    · next hp => cases h; exact ⟨by simp, ⟨u, rfl, hp⟩, rfl⟩
    · cases h
  | u :: y :: l, i, h => by
    simp only [nextP] at h
    split at h
    · next hp => cases h; exact ⟨by simp, ⟨u, rfl, hp⟩, rfl⟩
    · obtain ⟨j, hj, rfl⟩ := Option.map_eq_some_iff.1 h
      obtain ⟨h1, ⟨z, h2, h3⟩, h4⟩ := nextP_spec l j hj
      exact ⟨by simp; omega, ⟨z, by simpa using h2, h3⟩, by omega⟩
def hit (key : ByteArray) (u : V) : Bool := u.kind == 5 && (u.s.toList == key.toList)
def over (key : ByteArray) (u : V) : Bool := u.kind == 5 && Op.bytesLess key.toList u.s.toList
/-- where a name stands -/
def V.find (v : V) (key : ByteArray) : Option Nat := if v.kind = 7 then nextP (hit key) v.l else none
def nameV (key : ByteArray) : V := .mk 5 0 key []
def nullV : V := .mk 0 0 ⟨#[]⟩ []
def placeOf (l : List V) (key : ByteArray) : Nat := (nextP (over key) l).getD l.length
def V.put (v : V) (key : ByteArray) (x : V) : V :=
  if v.kind = 7 then
    match nextP (hit key) v.l with
    | some i => .mk v.kind v.n v.s (v.l.take (i + 1) ++ ([x] ++ v.l.drop (min (i + 2) v.l.length)))
    | none => .mk v.kind v.n v.s (v.l.take (placeOf v.l key) ++ ([nameV key, x] ++ v.l.drop (placeOf v.l key)))
  else v
def V.dropped (v : V) (key : ByteArray) : V :=
  match v.find key with
  | some i => .mk v.kind v.n v.s (v.l.take i ++ v.l.drop (min (i + 2) v.l.length))
  | none => v
def V.get (v : V) (key : ByteArray) : V × Bool :=
  match v.find key with
  | some i => (v.l[i + 1]?.getD nullV, true)
  | none => (nullV, false)
end Go.Proofs.Ytnibjjpohhknkaa
