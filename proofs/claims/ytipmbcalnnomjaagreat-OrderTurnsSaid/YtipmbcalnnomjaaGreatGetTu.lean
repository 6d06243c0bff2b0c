import Derived.Test.YtipmbcalnnomjaaGreatDictTu
import Derived.Laws.Rows
import Derived.Laws.ResultCell
import Derived.Test.YtipmbcalnnomjaaGreatSqTu
set_option linter.unusedVariables false
set_option linter.unusedSimpArgs false
set_option maxRecDepth 100000
namespace Go.Proofs.YtipmbcalnnomjaaGreat
open Go.RowKit
inductive Fit (W : World) (d : Nat) : List V → List Value → Prop
 | nil : Fit W d [] []
 | cons {u : V} {r : List Value} {l : List V} {xs : List Value} : Lies W d u r → Fit W d l xs → Fit W d (u :: l) (r ++ xs)
theorem Fit.len {W : World} {d : Nat} {l : List V} {xs : List Value} (h : Fit W d l xs) : xs.length = l.length * 4 := by
 induction h with
 | nil => rfl
 | cons h1 _ ih => rw [List.length_append, h1.len, ih, List.length_cons]; omega
theorem Fit.pure {W W' : World} {d : Nat} {l : List V} {xs : List Value} (h : Fit W d l xs) (hP : Pure W W') : Fit W' d l xs := by
 induction h with
 | nil => exact .nil
 | cons h1 _ ih => exact .cons (h1.pure hP) ih
theorem Fit.one {W : World} {d : Nat} {l : List V} {xs : List Value} (h : Fit W d l xs) : ∀ u ∈ xs, u.oneCell' = true := by
 induction h with
 | nil => intro u hu; cases hu
 | cons h1 _ ih =>
   intro u hu
   rcases List.mem_append.1 hu with hu | hu
   ·have := h1.one
    rw [Array.all_eq_true'] at this
    exact this u (by simpa using hu)
   ·exact ih u hu
theorem Fit.append {W : World} {d : Nat} {l m : List V} {xs ys : List Value} (h : Fit W d l xs) (h2 : Fit W d m ys) : Fit W d (l ++ m) (xs ++ ys) := by
 induction h with
 | nil => exact h2
 | cons h1 _ ih => rw [List.cons_append, List.append_assoc]; exact .cons h1 ih
theorem Fit.single {W : World} {d : Nat} {u : V} {r : List Value} (h : Lies W d u r) : Fit W d [u] r := by
 have := Fit.cons h (Fit.nil (W := W) (d := d))
 rwa [List.append_nil] at this
theorem Fit.take {W : World} {d : Nat} {l : List V} {xs : List Value} (h : Fit W d l xs) : ∀ k : Nat, Fit W d (l.take k) (xs.take (k * 4)) := by
 induction h with
 | nil => intro k; simp; exact .nil
 | @cons u r l xs h1 _ ih =>
   intro k
   cases k with
   | zero => simp; exact .nil
   | succ k =>
     have e := h1.len
     rw [List.take_succ_cons, List.take_append, List.take_of_length_le (l := r) (by omega), show (k + 1) * 4 - r.length = k * 4 by omega]
     exact .cons h1 (ih k)
theorem Fit.drop {W : World} {d : Nat} {l : List V} {xs : List Value} (h : Fit W d l xs) : ∀ k : Nat, Fit W d (l.drop k) (xs.drop (k * 4)) := by
 induction h with
 | nil => intro k; simp; exact .nil
 | @cons u r l xs h1 h2 ih =>
   intro k
   cases k with
   | zero => simp; exact .cons h1 h2
   | succ k =>
     have e := h1.len
     rw [List.drop_succ_cons, List.drop_append, show r.drop ((k + 1) * 4) = [] from List.drop_eq_nil_of_le (by omega), List.nil_append, show (k + 1) * 4 - r.length = k * 4 by omega]
     exact ih k
theorem fit_rows {W : World} {d : Nat} : ∀ (l : List V) (rows : List (List Value)), rows.length = l.length → (∀ (i : Nat) (u : V) (r : List Value), l[i]? = some u → rows[i]? = some r → Lies W d u r) → Fit W d l (rows.flatMap id)
 | [], [], _, _ => .nil
 | u :: l, r :: rows, hl, h => by
   rw [List.flatMap_cons]
   exact .cons (h 0 u r rfl rfl) (fit_rows l rows (by simpa using hl) (fun i u r hu hr => h (i + 1) u r hu hr))
 | [], _ :: _, hl, _ => by simp at hl
 | _ :: _, [], hl, _ => by simp at hl
theorem Kids.fit {W : World} {d : Nat} {l : List V} {a : Option Addr} {rows : List (List Value)} (h : Kids W d l a rows) : Fit W d l (rows.flatMap id) := fit_rows l rows h.len h.lies
theorem Fit.rows {W : World} {d : Nat} {l : List V} {xs : List Value} (h : Fit W d l xs) : ∃ rows : List (List Value), xs = rows.flatMap id ∧ rows.length = l.length ∧ (∀ r ∈ rows, r.length = 4) ∧ (∀ (i : Nat) (u : V) (r : List Value), l[i]? = some u → rows[i]? = some r → Lies W d u r) := by
 induction h with
 | nil => exact ⟨[], rfl, rfl, (fun r hr => by cases hr), (fun i u r hu => by simp at hu)⟩
 | @cons u r l xs h1 _ ih =>
   obtain ⟨rows, rfl, e1, e2, e3⟩ := ih
   refine ⟨r :: rows, by rw [List.flatMap_cons]; rfl, by simp [e1], ?_, ?_⟩
   ·intro r hr
    rcases List.mem_cons.1 hr with rfl | hr
    ·exact h1.len
    ·exact e2 r hr
   ·intro i u r hu hr
    cases i with
    | zero => cases hu; cases hr; exact h1
    | succ i => exact e3 i u r hu hr
theorem Fit.kids {W : World} {d : Nat} {l : List V} {xs : List Value} {a : Option Addr} (h : Fit W d l xs) (hr : RowOf W a xs) : ∃ rows : List (List Value), xs = rows.flatMap id ∧ Kids W d l a rows := by
 obtain ⟨rows, rfl, e1, e2, e3⟩ := h.rows
 exact ⟨rows, rfl, e1, e2, hr, e3⟩
theorem Fit.lies {W : World} {d : Nat} {l : List V} {xs : List Value} {a : Option Addr} (h : Fit W d l xs) (hr : RowOf W a xs) (k n : Int) (s : ByteArray) (c : Nat) (hc : l.length ≤ c) (hcm : c ≤ maxLen) (hnil : a = none → c = 0) (hs : s.size ≤ maxLen) :
 Lies W (d + 1) (.mk k n s l) [.int .i64 k, .int .i64 n, .string s, .slice a l.length c] := by
 obtain ⟨rows, rfl, hK⟩ := h.kids hr
 exact ⟨a, c, rows, rfl, hK.len, hK.four, hK.row, hc, hcm, hnil, hK.lies, hs⟩
theorem Lies.leaf (W : World) (d : Nat) (k n : Int) (s : ByteArray) (hs : s.size ≤ maxLen) : Lies W (d + 1) (.mk k n s []) [.int .i64 k, .int .i64 n, .string s, .slice none 0 0] :=
 Fit.lies .nil (fun i u hu => by simp at hu) k n s 0 (Nat.le_refl _) (Nat.zero_le _) (fun _ => rfl) hs
theorem Lies.fit {W : World} {d : Nat} {v : V} {cs : List Value} (h : Lies W (d + 1) v cs) : ∃ a c xs, cs = [.int .i64 v.kind, .int .i64 v.n, .string v.s, .slice a v.l.length c] ∧ v.l.length ≤ c ∧ c ≤ maxLen ∧ (a = none → c = 0) ∧ Fit W d v.l xs ∧ RowOf W a xs ∧ v.s.size ≤ maxLen := by
 obtain ⟨a, c, rows, h1, h2, h3, h4, hK, h5⟩ := h.kids
 exact ⟨a, c, rows.flatMap id, h1, h2, h3, h4, hK.fit, hK.row, h5⟩
def nextP (p : V → Bool) : List V → Option Nat
 | [] => none
 | [u] => if p u then some 0 else none
 | u :: _ :: l => if p u then some 0 else (nextP p l).map (· + 2)
theorem nextP_hit {p : V → Bool} {u : V} {l : List V} (h : p u = true) : nextP p (u :: l) = some 0 := by
 cases l <;> simp [nextP, h]
theorem nextP_miss {p : V → Bool} {u : V} {l : List V} (h : p u = false) : nextP p (u :: l) = (nextP p (l.drop 1)).map (· + 2) := by
 cases l <;> simp [nextP, h]
def placeAt (p : V → Bool) (l : List V) (k : Nat) : Option Nat := (nextP p (l.drop k)).map (· + k)
theorem placeAt_end {p : V → Bool} {l : List V} {k : Nat} (h : l.length ≤ k) : placeAt p l k = none := by
 rw [placeAt, List.drop_eq_nil_of_le h]; rfl
theorem placeAt_hit {p : V → Bool} {l : List V} {k : Nat} {u : V} (hu : l[k]? = some u) (h : p u = true) : placeAt p l k = some k := by
 obtain ⟨hk, rfl⟩ := List.getElem?_eq_some_iff.1 hu
 rw [placeAt, List.drop_eq_getElem_cons hk, nextP_hit h]; simp
theorem placeAt_miss {p : V → Bool} {l : List V} {k : Nat} {u : V} (hu : l[k]? = some u) (h : p u = false) : placeAt p l k = placeAt p l (k + 2) := by
 obtain ⟨hk, rfl⟩ := List.getElem?_eq_some_iff.1 hu
 rw [placeAt, placeAt, List.drop_eq_getElem_cons hk, nextP_miss h, List.drop_drop, Option.map_map, show k + 1 + 1 = k + 2 from by omega]
 congr 1
 funext x
 simp only [Function.comp]
 omega
theorem nextP_spec {p : V → Bool} : ∀ (l : List V) (i : Nat), nextP p l = some i → i < l.length ∧ (∃ u, l[i]? = some u ∧ p u = true) ∧ i % 2 = 0
 | [], i, h => by simp [nextP] at h
 | [u], i, h => by
   simp only [nextP] at h
   split at h
   ·next hp => cases h; exact ⟨by simp, ⟨u, rfl, hp⟩, rfl⟩
   ·cases h
 | u :: y :: l, i, h => by
   simp only [nextP] at h
   split at h
   ·next hp => cases h; exact ⟨by simp, ⟨u, rfl, hp⟩, rfl⟩
   ·obtain ⟨j, hj, rfl⟩ := Option.map_eq_some_iff.1 h
    obtain ⟨h1, ⟨z, h2, h3⟩, h4⟩ := nextP_spec l j hj
    exact ⟨by simp; omega, ⟨z, by simpa using h2, h3⟩, by omega⟩
def hit (key : ByteArray) (u : V) : Bool := u.kind == 5 && (u.s.toList == key.toList)
def over (key : ByteArray) (u : V) : Bool := u.kind == 5 && Op.bytesLess key.toList u.s.toList
def V.find (v : V) (key : ByteArray) : Option Nat := if v.kind = 7 then nextP (hit key) v.l else none
def nameV (key : ByteArray) : V := .mk 5 0 key []
def nullV : V := .mk 0 0 ⟨#[]⟩ []
def placeOf (l : List V) (key : ByteArray) : Nat := (nextP (over key) l).getD l.length
def V.put (v : V) (key : ByteArray) (x : V) : V :=
 if v.kind = 7 then
  match nextP (hit key) v.l with
  | some i => .mk v.kind v.n v.s (v.l.take (i + 1) ++ ([x] ++ v.l.drop (min (i + 2) v.l.length)))
  | none => .mk v.kind v.n v.s (v.l.take (placeOf v.l key) ++ ([nameV key, x] ++ v.l.drop (placeOf v.l key)))
 else v
def V.dropped (v : V) (key : ByteArray) : V :=
 match v.find key with
 | some i => .mk v.kind v.n v.s (v.l.take i ++ v.l.drop (min (i + 2) v.l.length))
 | none => v
def V.get (v : V) (key : ByteArray) : V × Bool :=
 match v.find key with
 | some i => (v.l[i + 1]?.getD nullV, true)
 | none => (nullV, false)
def optI : Option Nat → Int
 | some i => i
 | none => -1
theorem placeAt_zero (p : V → Bool) (l : List V) : placeAt p l 0 = nextP p l := by
 rw [placeAt, List.drop_zero]; cases nextP p l <;> rfl
set_option maxHeartbeats 1000000 in
theorem find_any (d : Nat) (v : V) (cs : List Value) (key : ByteArray) (w : World) (h : Lies w (d + 1) v cs) (hl : v.l.length ≤ 1000000) :
 Calls Tryz.prog 97 #[.agg cs.toArray, .string key] w (IntTo (optI (v.find key)) w) := by
 obtain ⟨a, c, rows, rfl, hlc, hcm, hnil, hK, hs⟩ := h.kids
 obtain ⟨E, hE⟩ : ∃ E, E = optI (v.find key) := ⟨_, rfl⟩
 rw [← hE]
 unfold V.find at hE
 obtain ⟨l, hll⟩ : ∃ l, l = v.l := ⟨_, rfl⟩
 rw [← hll] at hE hl hK ⊢
 generalize v.kind = k0 at *
 generalize v.n = n0 at *
 generalize v.s = s0 at *
 obtain ⟨n, hn⟩ : ∃ n, n = l.length := ⟨_, rfl⟩
 rw [← hn] at hl ⊢
 obtain ⟨w1, hw1⟩ : ∃ w1, w1 = w.alloc (.cells #[.int .i64 k0, .int .i64 n0, .string s0, .slice a n c] 48) := ⟨_, rfl⟩
 have hBx : BlockIs w1 w.heap.size [.int .i64 k0, .int .i64 n0, .string s0, .slice a n c] 48 := hw1 ▸ BlockIs.new w _ _
 have hP1 : Pure w w1 := hw1 ▸ ext_alloc w _
 have hK1 := hK.pure hP1
 obtain ⟨tb, htb⟩ : ∃ tb, tb = w.heap.size := ⟨_, rfl⟩
 rw [← htb] at hBx
 have HE := qh hE
 have HN := qh hn
 have HW1 := qh hw1
 have HTb := qh htb
 have HP1 := qh hP1
 have c0 : w1.cell? ⟨tb, 0, none⟩ = some (.int .i64 k0) := hBx.cell 0
 have c3 : w1.cell? ⟨tb, 3, none⟩ = some (.slice a n c) := hBx.cell 3
 clear hE hn hw1 htb hK h hll hBx hP1 hs
 by_cases h7 : k0 = 7
 ·subst h7
  have HE1 : Hid (E = optI (nextP (hit key) l)) := qh (by rw [HE.out, if_pos rfl])
  clear HE
  go_enter Tryz.func97, Tryz.ntmps97
  go_wp2_with fail
  rw [← HW1.out, ← HTb.out]
  go_loop [5] (fun i => ∃ k : Nat, k ≤ n + 1 ∧ i = .int .i64 k ∧ Hid (E = optI (placeAt (hit key) l k))) (fun i => n + 1 - (intOf i).toNat)
  case atStart => exact ⟨0, by omega, rfl, qh (by rw [HE1.out, placeAt_zero])⟩
  case round =>
   obtain ⟨k, hk, rfl, HA⟩ := hrel
   by_cases hlt : k < n
   ·have hki : (k : Int) < (n : Int) := by omega
    obtain ⟨u, hu⟩ : ∃ u, l[k]? = some u := ⟨_, List.getElem?_eq_getElem (by rw [← HN.out]; exact hlt)⟩
    obtain ⟨b, o, a', c', rfl, e0, e1, e2, e3⟩ := hK1.cells k u hu
    obtain ⟨H, hH⟩ : ∃ H, H = hit key u := ⟨_, rfl⟩
    have hyes : H = true → E = k := fun e => by rw [HA.out, placeAt_hit hu (hH.symm.trans e)]; rfl
    have hno : H = false → E = optI (placeAt (hit key) l (k + 2)) := fun e => by rw [HA.out, placeAt_miss hu (hH.symm.trans e)]
    unfold hit at hH
    generalize u.kind = kk at *
    generalize u.s = ss at *
    clear hu
    by_cases h5 : kk = 5
    ·subst h5
     obtain ⟨Q, hQ⟩ : ∃ Q, Q = (ss.toList == key.toList) := ⟨_, rfl⟩
     have hHQ : H = Q := by rw [hH, hQ]; rfl
     have hQ' : (ss.toList == key.toList) = Q := hQ.symm
     subst hHQ
     have HY := qh hyes
     have HNo := qh hno
     clear hH hQ hyes hno
     cases H with
     | true =>
       have HB := qh (HY.out rfl)
       clear HY HNo HA
       go_wp2_with fail
       go_ret
       exact ⟨by rw [HB.out]; rfl, HP1.out⟩
     | false =>
       have HB := qh (HNo.out rfl)
       clear HY HNo HA
       go_wp2_with fail
       go_round
       case rel => exact ⟨k + 2, by omega, by go_num, HB⟩
       case measure => simp [intOf]; omega
    ·have HB : Hid (E = optI (placeAt (hit key) l (k + 2))) := qh (hno (by rw [hH]; simp [h5]))
     have h5' : (kk == 5) = false := by simpa using h5
     clear hH hyes hno HA h5
     go_wp2_with fail
     go_round
     case rel => exact ⟨k + 2, by omega, by go_num, HB⟩
     case measure => simp [intOf]; omega
   ·have hki : ¬ (k : Int) < (n : Int) := by omega
    have HB : Hid (E = -1) := qh (by rw [HA.out, placeAt_end (by rw [← HN.out]; omega)]; rfl)
    go_wp2_with fail
    go_ret
    exact ⟨by rw [HB.out]; rfl, HP1.out⟩
 ·have HB : Hid (E = -1) := qh (by rw [HE.out, if_neg h7]; rfl)
  have h7' : (k0 != 7) = true := by simpa using h7
  have h7'' : (k0 == 7) = false := by simpa using h7
  clear h7 HE
  go_enter Tryz.func97, Tryz.ntmps97
  go_wp2_with fail
  skip
  go_ret
  exact ⟨by rw [HB.out]; rfl, by rw [← HW1.out]; exact HP1.out⟩
theorem results_row1 {P : Program} {fn : Func} {p : Tmp} {ty : TypeId} (h : fn.results = #[.cell p ty]) (tmps : Array Value) (w : World) (g : Nat) (t : TypeId) (cs : List Value) (d : TypeDesc)
 (hp : tmps.getD p undef = .pointer (some ⟨g, 0, none⟩)) (hg : BlockIs w g cs t) (hu : P.underlying ty = some d) (hd : (match d with | .struct _ | .array _ _ => true | _ => false) = true) (hi : (P.info? ty).map (·.size) = some cs.length) :
 (results fn tmps).run P w = .ok (.agg cs.toArray) w :=
 results_cell_row h tmps w g t cs.toArray (0, 0) d hp hg hu hd (by simpa using hi)
theorem results_row2 {P : Program} {fn : Func} {p u : Tmp} {ty : TypeId} (h : fn.results = #[.cell p ty, .tmp u]) (tmps : Array Value) (w : World) (g : Nat) (t : TypeId) (cs : List Value) (d : TypeDesc)
 (hp : tmps.getD p undef = .pointer (some ⟨g, 0, none⟩)) (hg : BlockIs w g cs t) (hu : P.underlying ty = some d) (hd : (match d with | .struct _ | .array _ _ => true | _ => false) = true) (hi : (P.info? ty).map (·.size) = some cs.length) :
 (results fn tmps).run P w = .ok (.tuple #[.agg cs.toArray, tmps.getD u undef]) w := by
 rw [results_cell_tmp h, hp]
 have := run_loadVar_row (P := P) w g t ty cs.toArray (0, 0) d hg hu hd (by simpa using hi)
 simp only [asAddr, Sem.run_pure, Result.andThen, this]
theorem size24 : (Tryz.prog.info? 48).map (·.size) = some 4 := by kernel_rfl
def GetTo (F : V × Bool) (d : Nat) (w : World) (e : Ending) (w' : World) : Prop :=
 ∃ cs, e = .returned (.tuple #[.agg cs.toArray, .bool F.2]) ∧ Lies w' (d + 1) F.1 cs ∧ Pure w w'
theorem find_lt {v : V} {key : ByteArray} {i : Nat} (h : v.find key = some i) : i < v.l.length := by
 unfold V.find at h
 split at h
 ·exact (nextP_spec _ _ h).1
 ·cases h
theorem lies_null (W : World) (d : Nat) : Lies W (d + 1) nullV zeroCs := Lies.leaf W d 0 0 ⟨#[]⟩ (Nat.zero_le _)
theorem one_zero : (zeroCs.toArray.all fun u => u.oneCell') = true := all_oneCell_toArray (by intro u hu; simp only [zeroCs, List.mem_cons, List.not_mem_nil, or_false] at hu; rcases hu with rfl | rfl | rfl | rfl <;> rfl)
set_option maxHeartbeats 1000000 in
theorem get_any (d : Nat) (v : V) (cs : List Value) (key : ByteArray) (w : World) (h : Lies w (d + 1) v cs) (hl : v.l.length ≤ 1000000) :
 Calls Tryz.prog 95 #[.agg cs.toArray, .string key] w (GetTo (v.get key) d w) := by
 have h4 := h.len
 have HF := qh (fun W (hP : Pure w W) => find_any d v cs key W (h.pure hP) hl)
 obtain ⟨w1, hw1⟩ : ∃ w1, w1 = w.alloc (.cells cs.toArray 48) := ⟨_, rfl⟩
 have hB1 : BlockIs w1 w.heap.size cs 48 := hw1 ▸ BlockIs.new w _ _
 have hP1 : Pure w w1 := hw1 ▸ ext_alloc w _
 obtain ⟨tb, htb⟩ : ∃ tb, tb = w.heap.size := ⟨_, rfl⟩
 have hs1 : w1.heap.size = tb + 1 := by rw [hw1, World.size_alloc, htb]
 have htw : w.heap.size ≤ tb := by omega
 rw [← htb] at hB1
 obtain ⟨w2, hw2⟩ : ∃ w2, w2 = w1.alloc (.cells zeroCs.toArray 48) := ⟨_, rfl⟩
 have hB1' : BlockIs w2 tb cs 48 := hw2 ▸ hB1.alloc _
 have hB2 : BlockIs w2 (tb + 1) zeroCs 48 := by rw [← hs1, hw2]; exact BlockIs.new w1 _ _
 have hP2 : Pure w w2 := hP1.pure (hw2 ▸ ext_alloc w1 _)
 have hR := hB1'.range
 have HW1 := qh hw1
 have HW2 := qh (show w2 = w1.alloc (.cells #[.int .i64 0, .int .i64 0, .string ⟨#[]⟩, .slice none 0 0] 48) from hw2)
 have HTb := qh htb
 have HS1 := qh hs1
 have HTw := qh htw
 have HL := qh h
 have HCs := qh (show cs.length = 4 from h4)
 clear hw1 htb hw2 hs1 h htw
 obtain ⟨F, hF⟩ : ∃ F, F = v.get key := ⟨_, rfl⟩
 rw [← hF]
 unfold V.get at hF
 have hlt := fun i => find_lt (v := v) (key := key) (i := i)
 obtain ⟨p, hp⟩ : ∃ p, p = v.find key := ⟨_, rfl⟩
 rw [← hp] at hF hlt HF
 have HFF := qh hF
 have HLt := qh hlt
 clear hF hp hlt
 obtain ⟨a, c, rows, hcs0, hlc, hcm, hnil, hK, hs⟩ := HL.out.kids
 have hcs := qh hcs0
 clear hcs0
 go_enter Tryz.func95, Tryz.ntmps95
 go_wp2_with (refine wpList_load_mid rfl 48 (.tmp 2) rfl tb 0 (by rw [HTb.out]; rfl) cs _ (by rw [← HW1.out, ← HW2.out]; exact hR) Tryz.underlying48 rfl (by rw [HCs.out]; kernel_rfl) ?_)
 rw [← HW1.out, ← HTb.out, ← HW2.out]
 refine (HF.out w2 hP2).mono ?_
 rintro e w3 ⟨rfl, hP3⟩
 have hB23 := hB2.ext hP3 id
 have hB13 := hB1'.ext hP3 id
 have hP03 := hP2.pure hP3
 have HTh := qh (hB23.there 4 rfl)
 clear HF hR hB1 hB2 hB1'
 cases p with
 | none =>
   have HFN : Hid (F = (nullV, false)) := qh HFF.out
   have hB3 := hB23.setAll zeroCs rfl
   have hP4 := Ext.setCells zeroCs 0 w3 hP03 (b := tb + 1) (fun h => by have := HTw.out; omega)
   have HB3 := qh hB3
   have HP4 := qh hP4
   clear hB3 hP4 hB23 hB13 hP03
   go_wp2_with (refine wpList_store_mid rfl 48 (.tmp 4) (.tmp 13) rfl (tb + 1) 0 zeroCs.toArray rfl rfl HTh.out size24 one_zero ?_; try simp only [List.toArray_toList])
   refine bodyPost_ret (results_row2 rfl _ _ (tb + 1) _ zeroCs _ rfl HB3.out Tryz.underlying48 rfl size24) rfl ?_
   exact ⟨zeroCs, by rw [HFN.out]; rfl, by rw [HFN.out]; exact lies_null _ _, HP4.out⟩
 | some i =>
   have HFN : Hid (F = (v.l[i + 1]?.getD nullV, true)) := qh HFF.out
   have hi := HLt.out i rfl
   obtain rfl := hcs.out
   have c3 : w3.cell? ⟨tb, 3, none⟩ = some (.slice a v.l.length c) := hB13.cell 3
   obtain ⟨l, hll⟩ : ∃ l, l = v.l := ⟨_, rfl⟩
   rw [← hll] at hi hl HFN hK c3
   obtain ⟨n, hn⟩ : ∃ n, n = l.length := ⟨_, rfl⟩
   rw [← hn] at hi hl c3
   have HN := qh hn
   have HFF2 := qh HFN.out
   by_cases he : i + 1 = n
   ·have HF3 : Hid (F = (nullV, true)) := qh (by rw [HFN.out, List.getElem?_eq_none (by rw [← HN.out]; omega)]; rfl)
    have hie : (i : Int) + 1 = (n : Int) := by omega
    have hB3 := hB23.setAll zeroCs rfl
    have hP4 := Ext.setCells zeroCs 0 w3 hP03 (b := tb + 1) (fun h => by have := HTw.out; omega)
    have HB3 := qh hB3
    have HP4 := qh hP4
    clear hB3 hP4 hB23 hB13 hP03 hll hn HFN HFF2 HFF he
    simp only [optI]
    go_wp2_with (refine wpList_store_mid rfl 48 (.tmp 4) (.tmp 21) rfl (tb + 1) 0 zeroCs.toArray rfl rfl HTh.out size24 one_zero ?_; try simp only [List.toArray_toList])
    refine bodyPost_ret (results_row2 rfl _ _ (tb + 1) _ zeroCs _ rfl HB3.out Tryz.underlying48 rfl size24) rfl ?_
    exact ⟨zeroCs, by rw [HF3.out]; rfl, by rw [HF3.out]; exact lies_null _ _, HP4.out⟩
   ·obtain ⟨u, hu⟩ : ∃ u, l[i + 1]? = some u := ⟨_, List.getElem?_eq_getElem (by rw [← HN.out]; omega)⟩
    have HF3 : Hid (F = (u, true)) := qh (by rw [HFN.out, hu]; rfl)
    obtain ⟨b, o, r, rfl, hr0, hr4, hL0⟩ := hK.at (i + 1) u hu
    have hr : w3.rangeAt b (o + (i + 1) * 4) r := fun j v hv => hP03.cell_some (hr0 j v hv) id
    have hL := hL0.pure hP03
    have HL0 := qh hL0
    have hie : ¬ (i : Int) + 1 = (n : Int) := by omega
    have hie2 : (i : Int) + 1 < (n : Int) := by omega
    have hone := hL.one
    have hP4 := Ext.setCells r 0 w3 hP03 (b := tb + 1) (fun h => by have := HTw.out; omega)
    have hP34 := Ext.setCells r 0 w3 (Ext.refl (fun k => k = tb + 1) w3) (b := tb + 1) (fun h => rfl)
    have hB3 := hB23.setAll r (by rw [hr4]; rfl)
    have hLL := hK
    have HB3 := qh hB3
    have HP4 := qh hP4
    have HOne := qh hone
    have HR4 := qh hr4
    have HSi : Hid ((Tryz.prog.info? 48).map (·.size) = some r.toArray.size) := qh (by rw [List.size_toArray, hr4]; exact size24)
    have HTh' : Hid (w3.there (tb + 1) 0 r.toArray.size) := qh (by rw [List.size_toArray, hr4]; exact HTh.out)
    have HKid := qh hK
    have HU := qh hu
    have hr' : w3.rangeAt b (o + (i + 1) * 4) r := hr
    clear hB3 hP4 hB23 hB13 hll hn HFN HFF2 HFF he hone hr4 hL hL0 hr0 hu hr hK hLL
    simp only [optI]
    go_wp2_with (first
     | (refine wpList_load_mid rfl 48 (.tmp 26) rfl b (o + (i + 1) * 4) rfl r _ hr' Tryz.underlying48 rfl (by rw [HR4.out]; kernel_rfl) ?_)
     | (refine wpList_store_mid rfl 48 (.tmp 4) (.tmp 27) rfl (tb + 1) 0 r.toArray rfl rfl HTh'.out HSi.out HOne.out ?_; try simp only [List.toArray_toList]))
    refine bodyPost_ret (results_row2 rfl _ _ (tb + 1) _ r _ rfl HB3.out Tryz.underlying48 rfl (by rw [HR4.out]; exact size24)) rfl ?_
    refine ⟨r, by rw [HF3.out]; rfl, ?_, HP4.out⟩
    rw [HF3.out]
    exact (HL0.out.pure HP4.out).more
