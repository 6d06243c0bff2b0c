import Derived.Test.YtipmbcalnnomjaaGreatNumPlVw
import Derived.Test.YtipmbcalnnomjaaGreatRowPutVw
import Derived.Test.YtipmbcalnnomjaaGreatDocPlVw
import Derived.Test.YtipmbcalnnomjaaGreatAskVw
import Derived.Test.YtipmbcalnnomjaaGreatSqVw
set_option linter.unusedVariables false
set_option linter.unusedSimpArgs false
namespace Go.Proofs.YtipmbcalnnomjaaGreat
open Go.RowKit
theorem refsL_mem {x : Int} : ∀ {l : List V}, x ∈ refsL l ↔ ∃ u ∈ l, x ∈ u.refs
 | [] => by simp [refsL]
 | v :: l => by rw [refsL, List.mem_append, refsL_mem (l := l)]; simp
theorem refs_dict {v : V} (h : v.kind = 7) : v.refs = refsL v.l := by
 rw [refs_eq, if_neg (by omega), if_pos (by simp [V.holds, h])]
theorem dropped_kind (v : V) (key : ByteArray) : (v.dropped key).kind = v.kind := by
 unfold V.dropped
 split <;> rfl
theorem refs_dropped {v : V} {key : ByteArray} {x : Int} (h : x ∈ (v.dropped key).refs) : x ∈ v.refs := by
 cases hf : v.find key with
 | none =>
   have : v.dropped key = v := by unfold V.dropped; rw [hf]
   rwa [this] at h
 | some i =>
   have h7 := find_kind hf
   rw [refs_dict (by rw [dropped_kind, h7])] at h
   rw [refs_dict h7]
   obtain ⟨u, hu, hx⟩ := refsL_mem.1 h
   refine refsL_mem.2 ⟨u, ?_, hx⟩
   unfold V.dropped at hu
   rw [hf] at hu
   rcases List.mem_append.1 (show u ∈ v.l.take i ++ v.l.drop (min (i + 2) v.l.length) from hu) with h | h
   ·exact List.mem_of_mem_take h
   ·exact List.mem_of_mem_drop h
theorem refs_cut {root : Int} {t : Tr} {n : Int} {v : V} {x : Int} (h : x ∈ (cutP root t n v).refs) : x ∈ v.refs := by
 unfold cutP at h
 have h1 : ∀ a : V, x ∈ (if n ∈ t.pages then a.dropped "Parent".toUTF8 else a : V).refs → x ∈ a.refs := fun a ha => by
  split at ha
  ·exact refs_dropped ha
  ·exact ha
 have h2 : ∀ a : V, x ∈ (if n ∈ t.nodes then (a.dropped "Kids".toUTF8).dropped "Parent".toUTF8 else a : V).refs → x ∈ a.refs := fun a ha => by
  split at ha
  ·exact refs_dropped (refs_dropped ha)
  ·exact ha
 have h3 : ∀ a : V, x ∈ (if n = root then a.dropped "Pages".toUTF8 else a : V).refs → x ∈ a.refs := fun a ha => by
  split at ha
  ·exact refs_dropped ha
  ·exact ha
 exact h3 _ (h2 _ (h1 _ h))
def HasK (l : List V) (key : ByteArray) (x : V) : Prop := ∃ i nm, i % 2 = 0 ∧ l[i]? = some nm ∧ hit key nm = true ∧ l[i + 1]? = some x
theorem nextP_even {p : V → Bool} : ∀ {l : List V} {i : Nat}, nextP p l = some i → i % 2 = 0 ∧ ∃ u, l[i]? = some u ∧ p u = true
 | [], _, h => by cases h
 | [u], i, h => by
   unfold nextP at h
   split at h
   ·rename_i hp
    cases h
    exact ⟨rfl, u, rfl, hp⟩
   ·cases h
 | u :: v :: l, i, h => by
   unfold nextP at h
   split at h
   ·rename_i hp
    cases h
    exact ⟨rfl, u, rfl, hp⟩
   ·cases hn : nextP p l with
    | none => rw [hn] at h; cases h
    | some j =>
      rw [hn] at h
      cases h
      obtain ⟨h1, w, h2, h3⟩ := nextP_even hn
      exact ⟨by show (j + 2) % 2 = 0; omega, w, h2, h3⟩
theorem hask_drop {l : List V} {key key2 : ByteArray} {x : V} (h : HasK l key x) (hne : key.toList ≠ key2.toList) {j : Nat} (hj : nextP (hit key2) l = some j) : HasK (l.take j ++ l.drop (min (j + 2) l.length)) key x := by
 obtain ⟨i, nm, hi, h1, h2, h3⟩ := h
 obtain ⟨hj2, u, hu, hh⟩ := nextP_even hj
 have hil := (List.getElem?_eq_some_iff.1 h3).1
 have hjl := (List.getElem?_eq_some_iff.1 hu).1
 have hij : i ≠ j := by
  rintro rfl
  rw [h1] at hu
  cases hu
  unfold hit at h2 hh
  rw [Bool.and_eq_true] at h2 hh
  exact hne ((eq_of_beq h2.2).symm.trans (eq_of_beq hh.2))
 have htl : (l.take j).length = j := by rw [List.length_take]; omega
 by_cases hlt : i < j
 ·refine ⟨i, nm, hi, ?_, h2, ?_⟩
  ·rw [List.getElem?_append_left (by omega), List.getElem?_take_of_lt hlt]; exact h1
  ·rw [List.getElem?_append_left (by omega), List.getElem?_take_of_lt (by omega)]; exact h3
 ·refine ⟨i - 2, nm, by omega, ?_, h2, ?_⟩
  ·rw [List.getElem?_append_right (by omega), htl, List.getElem?_drop, show min (j + 2) l.length + (i - 2 - j) = i by omega]; exact h1
  ·rw [List.getElem?_append_right (by omega), htl, List.getElem?_drop, show min (j + 2) l.length + (i - 2 + 1 - j) = i + 1 by omega]; exact h3
theorem hask_dropped {v : V} {key key2 : ByteArray} {x : V} (h : HasK v.l key x) (hne : key.toList ≠ key2.toList) : HasK (v.dropped key2).l key x := by
 unfold V.dropped
 split
 ·rename_i j hj
  unfold V.find at hj
  split at hj
  ·exact hask_drop h hne hj
  ·cases hj
 ·exact h
theorem get_hask {v : V} {key : ByteArray} (h : (v.get key).2 = true) : v.kind = 7 ∧ (HasK v.l key (v.get key).1 ∨ (v.get key).1 = nullV) := by
 unfold V.get at h ⊢
 cases hf : v.find key with
 | none => rw [hf] at h; cases h
 | some i =>
   refine ⟨find_kind hf, ?_⟩
   have hf2 := hf
   unfold V.find at hf2
   rw [if_pos (find_kind hf)] at hf2
   obtain ⟨h1, u, h2, h3⟩ := nextP_even hf2
   show HasK v.l key (v.l[i + 1]?.getD nullV) ∨ v.l[i + 1]?.getD nullV = nullV
   cases hx : v.l[i + 1]? with
   | none => exact Or.inr rfl
   | some x => exact Or.inl ⟨i, u, h1, h2, h3, hx⟩
theorem refs_null : nullV.refs = [] := by decide +kernel
theorem refs_got {v : V} {key : ByteArray} (h : (v.get key).2 = true) (h1 : key.toList ≠ "Kids".toUTF8.toList) (h2 : key.toList ≠ "Parent".toUTF8.toList) {x : Int} (hx : x ∈ (v.get key).1.refs) : x ∈ ((v.dropped "Kids".toUTF8).dropped "Parent".toUTF8).refs := by
 obtain ⟨h7, hk | hk⟩ := get_hask h
 ·obtain ⟨i, nm, _, _, _, h3⟩ := hask_dropped (hask_dropped hk h1) h2
  rw [refs_dict (by rw [dropped_kind, dropped_kind, h7])]
  exact refsL_mem.2 ⟨_, List.mem_of_getElem? h3, hx⟩
 ·rw [hk, refs_null] at hx
  cases hx
structure DocFine (l : List Ob) (root : Int) (t : Tr) : Prop where
 few : ∀ o ∈ l, ∀ x ∈ o.v.refs, x ≤ l.length
 cut : ∀ n, ∀ x ∈ (cutP root t n (obAt l n).v).refs, x ≠ root ∧ ¬ t.has x
 tok : t.Ok l
 nroot : ¬ t.has root
def Tr.good (l : List Ob) (root : Int) (t : Tr) (x : Int) : Prop := x ≠ root ∧ ¬ t.has x ∧ x ≤ l.length
def V.good (l : List Ob) (root : Int) (t : Tr) (v : V) : Prop := ∀ x ∈ v.refs, t.good l root x
section
variable {l : List Ob} {root : Int} {t : Tr}
theorem DocFine.le (h : DocFine l root t) (n : Int) : ∀ x ∈ (obAt l n).v.refs, x ≤ l.length := by
 intro x hx
 rcases obAt_cases l n with hm | e
 ·exact h.few _ hm x hx
 ·rw [e, show noOb.v = nullV from rfl, refs_null] at hx
  cases hx
theorem DocFine.rest (h : DocFine l root t) {n : Int} (h1 : n ≠ root) (h2 : ¬ t.has n) : (obAt l n).v.good l root t := fun x hx => by
 have h3 := h.cut n x (by unfold cutP; simp only [if_neg h1, if_neg (fun e => h2 (Or.inl e)), if_neg (fun e => h2 (Or.inr e))]; exact hx)
 exact ⟨h3.1, h3.2, h.le n x hx⟩
theorem DocFine.page (h : DocFine l root t) {n : Int} (hn : n ∈ t.pages) : ((obAt l n).v.dropped "Parent".toUTF8).good l root t := fun x hx => by
 have h1 : n ≠ root := fun e => h.nroot (e ▸ Or.inr hn)
 have h2 : n ∉ t.nodes := fun e => (List.nodup_append.1 h.tok.nd).2.2 _ e _ hn rfl
 have h3 := h.cut n x (by unfold cutP; simp only [if_neg h1, if_neg h2, if_pos hn]; exact hx)
 exact ⟨h3.1, h3.2, h.le n x (refs_dropped hx)⟩
theorem DocFine.node (h : DocFine l root t) {n : Int} (hn : n ∈ t.nodes) : (((obAt l n).v.dropped "Kids".toUTF8).dropped "Parent".toUTF8).good l root t := fun x hx => by
 have h1 : n ≠ root := fun e => h.nroot (e ▸ Or.inl hn)
 have h2 : n ∉ t.pages := fun e => (List.nodup_append.1 h.tok.nd).2.2 _ hn _ e rfl
 have h3 := h.cut n x (by unfold cutP; simp only [if_neg h1, if_pos hn, if_neg h2]; exact hx)
 exact ⟨h3.1, h3.2, h.le n x (refs_dropped (refs_dropped hx))⟩
theorem onP_app (xs ys : List Int) : ∃ zs, onP xs ys = xs ++ zs ∧ ∀ z ∈ zs, z ∈ ys := by
 induction ys using snocInd with
 | nil => exact ⟨[], by simp [onP], fun z hz => by cases hz⟩
 | app ys y ih =>
   obtain ⟨zs, h1, h2⟩ := ih
   rw [onP_snoc]
   split
   ·exact ⟨zs, h1, fun z hz => List.mem_append_left _ (h2 z hz)⟩
   ·refine ⟨zs ++ [y], by rw [h1, List.append_assoc], fun z hz => ?_⟩
    rcases List.mem_append.1 hz with hz | hz
    ·exact List.mem_append_left _ (h2 z hz)
    ·exact List.mem_append_right _ hz
theorem nextR_refs {v : V} {x : Int} (h : x ∈ nextR v) : x ∈ v.refs := by
 unfold nextR at h
 exact (mem_more0 x v).1 (List.mem_filter.1 h).1
theorem firstR_good (h : DocFine l root t) {n : Int} (hn : n ∈ t.pages) {g : V} (hg : g.good l root t) : ∀ x ∈ firstR (obAt l n).v g, t.good l root x := fun x hx => by
 rcases onP_mem.1 hx with hx | hx
 ·rcases onP_mem.1 hx with hx | hx
  ·cases hx
  ·exact h.page hn x (nextR_refs hx)
 ·exact hg x (nextR_refs hx)
theorem closR_good (h : DocFine l root t) {n : Int} (hn : n ∈ t.pages) {g : V} (hg : g.good l root t) : ∀ (f : Nat) (ys : List Int) (k : Nat), (∀ y ∈ ys, t.good l root y) → ∃ zs, closR l g f (n :: ys) k = n :: zs ∧ ∀ z ∈ zs, t.good l root z
 | 0, ys, k, hy => ⟨ys, rfl, hy⟩
 | f + 1, ys, k, hy => by
   rw [closR]
   split
   ·rename_i hk
    obtain ⟨zs, h1, h2⟩ := onP_app (n :: ys) (if k = 0 then firstR (obAt l ((n :: ys).getD k 0)).v g else nextR (obAt l ((n :: ys).getD k 0)).v)
    rw [h1, List.cons_append]
    refine closR_good h hn hg f (ys ++ zs) (k + 1) fun y hm => ?_
    rcases List.mem_append.1 hm with hm | hm
    ·exact hy y hm
    ·have h3 := h2 y hm
     cases k with
     | zero => exact firstR_good h hn hg y h3
     | succ k =>
       rw [if_neg (Nat.succ_ne_zero k)] at h3
       have hk2 : k < ys.length := by rw [List.length_cons] at hk; omega
       have h4 : (n :: ys).getD (k + 1) 0 = ys[k] := by
        rw [List.getD_eq_getElem?_getD, List.getElem?_cons_succ, List.getElem?_eq_getElem hk2]
        rfl
       rw [h4] at h3
       have h5 := hy _ (List.getElem_mem hk2)
       exact h.rest h5.1 h5.2.1 y (nextR_refs h3)
   ·exact ⟨ys, rfl, hy⟩
theorem closP_good (h : DocFine l root t) {n : Int} (hn : n ∈ t.pages) {g : V} (hg : g.good l root t) : ∃ zs, closP l n g = n :: zs ∧ ∀ z ∈ zs, t.good l root z :=
 closR_good h hn hg 5000 [] 0 (fun y hy => by cases hy)
end
theorem put_parts {v : V} (key : ByteArray) (x : V) : (v.put key x).kind = v.kind ∧ (v.put key x).n = v.n ∧ ∀ u ∈ (v.put key x).l, u ∈ v.l ∨ u = x ∨ u = nameV key := by
 unfold V.put
 split
 ·split
  ·rename_i i _
   refine ⟨rfl, rfl, fun u hu => ?_⟩
   rcases List.mem_append.1 (show u ∈ v.l.take (i + 1) ++ ([x] ++ v.l.drop (min (i + 2) v.l.length)) from hu) with h | h
   ·exact Or.inl (List.mem_of_mem_take h)
   ·rcases List.mem_append.1 h with h | h
    ·exact Or.inr (Or.inl (List.mem_singleton.1 h))
    ·exact Or.inl (List.mem_of_mem_drop h)
  ·refine ⟨rfl, rfl, fun u hu => ?_⟩
   rcases List.mem_append.1 (show u ∈ v.l.take (placeOf v.l key) ++ ([nameV key, x] ++ v.l.drop (placeOf v.l key)) from hu) with h | h
   ·exact Or.inl (List.mem_of_mem_take h)
   ·rcases List.mem_append.1 h with h | h
    ·rcases List.mem_cons.1 h with h | h
     ·exact Or.inr (Or.inr h)
     ·exact Or.inr (Or.inl (List.mem_singleton.1 h))
    ·exact Or.inl (List.mem_of_mem_drop h)
 ·exact ⟨rfl, rfl, fun u hu => Or.inl hu⟩
theorem numsL_mem2 {x : Int} : ∀ {l : List V}, x ∈ numsL l → ∃ u ∈ l, x ∈ u.nums
 | v :: l, h => by
   rw [numsL, List.mem_append] at h
   rcases h with h | h
   ·exact ⟨v, List.mem_cons_self, h⟩
   ·obtain ⟨u, hu, hx⟩ := numsL_mem2 h
    exact ⟨u, List.mem_cons_of_mem _ hu, hx⟩
theorem name_wf (key : ByteArray) : (nameV key).wf := fun x hx => by
 rw [nums_eq] at hx
 have : x = 0 := by simpa [nameV, V.n, V.l, numsL] using hx
 subst this
 decide
theorem put_wf {v : V} (h : v.wf) {key : ByteArray} {x : V} (hx : x.wf) : (v.put key x).wf := fun y hy => by
 obtain ⟨_, h2, h3⟩ := put_parts (v := v) key x
 rw [nums_eq, h2] at hy
 rcases List.mem_cons.1 hy with rfl | hy
 ·exact h.n
 ·obtain ⟨u, hu, hyu⟩ := numsL_mem2 hy
  rcases h3 u hu with h4 | rfl | rfl
  ·exact h.down h4 y hyu
  ·exact hx y hyu
  ·exact name_wf key y hyu
theorem name_refs (key : ByteArray) : (nameV key).refs = [] := by rw [refs_eq]; rfl
theorem put_refs {v : V} (h7 : v.kind = 7) {key : ByteArray} {x : V} {y : Int} (h : y ∈ (v.put key x).refs) : y ∈ v.refs ∨ y ∈ x.refs := by
 obtain ⟨h1, _, h3⟩ := put_parts (v := v) key x
 rw [refs_dict (h1.trans h7)] at h
 obtain ⟨u, hu, hyu⟩ := refsL_mem.1 h
 rcases h3 u hu with h4 | rfl | rfl
 ·exact Or.inl (by rw [refs_dict h7]; exact refsL_mem.2 ⟨u, h4, hyu⟩)
 ·exact Or.inr hyu
 ·rw [name_refs] at hyu; cases hyu
theorem sizeL_app : ∀ a b : List V, sizeL (a ++ b) = sizeL a + sizeL b
 | [], b => by simp [sizeL]
 | u :: a, b => by rw [List.cons_append, sizeL, sizeL, sizeL_app a b]; omega
theorem sizeL_takes (l : List V) (k : Nat) : sizeL (l.take k) + sizeL (l.drop k) = sizeL l := by rw [← sizeL_app, List.take_append_drop]
theorem sizeL_dropm (l : List V) {i j : Nat} (h : i ≤ j) : sizeL (l.drop j) ≤ sizeL (l.drop i) := by
 have := sizeL_takes (l.drop i) (j - i)
 rw [List.drop_drop, show i + (j - i) = j by omega] at this
 omega
theorem put_sizes (v : V) (key : ByteArray) (x : V) : (v.put key x).size ≤ v.size + x.size + 1 := by
 obtain ⟨k, n, s, l⟩ := v
 unfold V.put
 split
 ·split
  ·rename_i i _
   show (V.mk k n s (l.take (i + 1) ++ ([x] ++ l.drop (min (i + 2) l.length)))).size ≤ _
   have h1 := sizeL_takes l (i + 1)
   by_cases hi : i + 1 ≤ l.length
   ·have h2 := sizeL_dropm l (show i + 1 ≤ min (i + 2) l.length by omega)
    rw [V.size, V.size, sizeL_app, sizeL_app]
    simp only [sizeL]
    omega
   ·rw [show l.drop (min (i + 2) l.length) = [] from List.drop_eq_nil_of_le (by omega), V.size, V.size, sizeL_app, sizeL_app]
    simp only [sizeL]
    omega
  ·show (V.mk k n s (l.take (placeOf l key) ++ ([nameV key, x] ++ l.drop (placeOf l key)))).size ≤ _
   have h1 := sizeL_takes l (placeOf l key)
   rw [V.size, V.size, sizeL_app, sizeL_app]
   simp only [sizeL, nameV, V.size]
   omega
 ·omega
theorem inh_ne : ∀ k, k < 4 → (inhK k).toList ≠ "Kids".toUTF8.toList ∧ (inhK k).toList ≠ "Parent".toUTF8.toList := by decide +kernel
section
variable {l : List Ob} {root : Int} {t : Tr}
structure GoodG (l : List Ob) (root : Int) (t : Tr) (m : Nat) (g : V) : Prop where
 kind : g.kind = 7
 good : g.good l root t
 size : g.size ≤ m
 wf : g.wf
theorem GoodG.giveN {m : Nat} {g : V} (h : GoodG l root t m g) (hF : DocFine l root t) {n : Int} (hn : n ∈ t.nodes) (hz : (obAt l n).v.size ≤ 300) (hw : (obAt l n).v.wf) : ∀ k, k ≤ 4 → GoodG l root t (m + 301 * k) (giveN g (obAt l n).v k)
 | 0, _ => h
 | k + 1, hk => by
   have ih := GoodG.giveN h hF hn hz hw k (by omega)
   obtain ⟨n1, n2⟩ := inh_ne k (by omega)
   unfold Go.Proofs.YtipmbcalnnomjaaGreat.giveN
   split
   ·rename_i hg
    have hzx := get_size hz (by omega) (inhK k)
    refine ⟨(put_parts _ _).1.trans ih.kind, fun x hx => ?_, ?_, put_wf ih.wf (hw.get _)⟩
    ·rcases put_refs ih.kind hx with hx | hx
     ·exact ih.good x hx
     ·exact hF.node hn x (refs_got hg n1 n2 hx)
    ·have := put_sizes (Go.Proofs.YtipmbcalnnomjaaGreat.giveN g (obAt l n).v k) (inhK k) ((obAt l n).v.get (inhK k)).1
     have := ih.size
     omega
   ·exact ⟨ih.kind, ih.good, by have := ih.size; omega, ih.wf⟩
theorem GoodG.leafN {m : Nat} {g : V} (h : GoodG l root t m g) (v : V) : ∀ k, GoodG l root t m (leafN g v k)
 | 0 => h
 | k + 1 => by
   have ih := GoodG.leafN h v k
   unfold Go.Proofs.YtipmbcalnnomjaaGreat.leafN
   split
   ·exact ⟨(dropped_kind _ _).trans ih.kind, fun x hx => ih.good x (refs_dropped hx), Nat.le_trans (dropped_size _ _) ih.size, dropped_wf ih.wf _⟩
   ·exact ih
theorem GoodG.more {m m' : Nat} {g : V} (h : GoodG l root t m g) (hm : m ≤ m') : GoodG l root t m' g := ⟨h.kind, h.good, Nat.le_trans h.size hm, h.wf⟩
def Grow (t u : Tr) : Prop := t.nodes <+: u.nodes ∧ t.pages <+: u.pages
theorem Grow.refl (t : Tr) : Grow t t := ⟨List.prefix_refl _, List.prefix_refl _⟩
theorem Grow.trans {t u v : Tr} (h : Grow t u) (h' : Grow u v) : Grow t v := ⟨h.1.trans h'.1, h.2.trans h'.2⟩
theorem kidsP_grow {f : Tr → Int → Option (Tr × Int)} {one : Bool} (hf : ∀ t k u m, f t k = some (u, m) → Grow t u) :
 ∀ (r : List Int) (t : Tr) (s : Int) (u : Tr) (m : Int), kidsP f one r t s = some (u, m) → Grow t u
 | [], t, s, u, m, h => by simp only [kidsP, Option.some.injEq, Prod.mk.injEq] at h; obtain ⟨rfl, rfl⟩ := h; exact Grow.refl _
 | k :: r, t, s, u, m, h => by
   unfold kidsP at h
   split at h
   ·cases h
   ·rename_i v q hq
    split at h
    ·cases h
    ·exact (hf _ _ _ _ hq).trans (kidsP_grow hf r v (s + q) u m h)
theorem bel_cases {f : Nat} {parent : Int} {page : Bool} {t u : Tr} {n m : Int} (h : belP l root f parent page t n = some (u, m)) :
 n ≠ root ∧ ¬ t.has n ∧ ((typedO (obAt l n) "Page".toUTF8 = true ∧ u = ⟨t.nodes, t.pages ++ [n]⟩ ∧ m = 1 ∧ page = true) ∨
   (∃ f' ks, f = f' + 1 ∧ (page && typedO (obAt l n) "Page".toUTF8) = false ∧ nodeO (obAt l n) = some (ks, m) ∧ kidsP (belP l root f' n (decide (m = ks.length))) (decide (m = ks.length)) ks ⟨t.nodes ++ [n], t.pages⟩ 0 = some (u, m))) := by
 unfold belP at h
 split at h
 ·cases h
 ·rename_i hc
  simp only [not_or] at hc
  refine ⟨hc.1, hc.2.1, ?_⟩
  split at h
  ·rename_i hp
   rw [Bool.and_eq_true] at hp
   simp only [Option.some.injEq, Prod.mk.injEq] at h
   exact Or.inl ⟨hp.2, h.1.symm, h.2.symm, hp.1⟩
  ·rename_i hp
   split at h
   ·rename_i f' kids count e1
    split at h
    ·rename_i u' s' hk
     split at h
     ·rename_i hs
      simp only [Option.some.injEq, Prod.mk.injEq] at h
      obtain ⟨rfl, rfl⟩ := h
      subst hs
      exact Or.inr ⟨f', kids, rfl, by simpa using hp, e1, hk⟩
     ·cases h
    ·cases h
   ·cases h
theorem belP_grow : ∀ (f : Nat) (parent : Int) (page : Bool) (t : Tr) (n : Int) (u : Tr) (m : Int), belP l root f parent page t n = some (u, m) → Grow t u := by
 intro f
 induction f with
 | zero =>
   intro parent page t n u m h
   obtain ⟨_, _, ⟨_, rfl, _, _⟩ | ⟨f', ks, e, _⟩⟩ := bel_cases h
   ·exact ⟨List.prefix_refl _, List.prefix_append _ _⟩
   ·cases e
 | succ f ih =>
   intro parent page t n u m h
   obtain ⟨_, _, ⟨_, rfl, _, _⟩ | ⟨f', ks, e, _, _, hk⟩⟩ := bel_cases h
   ·exact ⟨List.prefix_refl _, List.prefix_append _ _⟩
   ·cases e
    have := kidsP_grow (fun t k u m hh => ih n _ t k u m hh) ks _ 0 u m hk
    exact (show Grow t ⟨t.nodes ++ [n], t.pages⟩ from ⟨List.prefix_append _ _, List.prefix_refl _⟩).trans this
theorem kidsP_no {f : Tr → Int → Option (Tr × Int)} {one : Bool} (hf : ∀ t k u m, ¬ t.has root → f t k = some (u, m) → ¬ u.has root) :
 ∀ (r : List Int) (t : Tr) (s : Int) (u : Tr) (m : Int), ¬ t.has root → kidsP f one r t s = some (u, m) → ¬ u.has root
 | [], t, s, u, m, ht, h => by simp only [kidsP, Option.some.injEq, Prod.mk.injEq] at h; obtain ⟨rfl, rfl⟩ := h; exact ht
 | k :: r, t, s, u, m, ht, h => by
   unfold kidsP at h
   split at h
   ·cases h
   ·rename_i v q hq
    split at h
    ·cases h
    ·exact kidsP_no hf r v (s + q) u m (hf _ _ _ _ ht hq) h
theorem belP_no : ∀ (f : Nat) (parent : Int) (page : Bool) (t : Tr) (n : Int) (u : Tr) (m : Int), ¬ t.has root → belP l root f parent page t n = some (u, m) → ¬ u.has root := by
 intro f
 induction f with
 | zero =>
   intro parent page t n u m ht h
   obtain ⟨hn, _, ⟨_, rfl, _, _⟩ | ⟨f', ks, e, _⟩⟩ := bel_cases h
   ·rintro (h1 | h1)
    ·exact ht (Or.inl h1)
    ·rcases List.mem_append.1 h1 with h1 | h1
     ·exact ht (Or.inr h1)
     ·exact hn (List.mem_singleton.1 h1).symm
   ·cases e
 | succ f ih =>
   intro parent page t n u m ht h
   obtain ⟨hn, _, ⟨_, rfl, _, _⟩ | ⟨f', ks, e, _, _, hk⟩⟩ := bel_cases h
   ·rintro (h1 | h1)
    ·exact ht (Or.inl h1)
    ·rcases List.mem_append.1 h1 with h1 | h1
     ·exact ht (Or.inr h1)
     ·exact hn (List.mem_singleton.1 h1).symm
   ·cases e
    refine kidsP_no (fun t k u m ht hh => ih n _ t k u m ht hh) ks _ 0 u m ?_ hk
    rintro (h1 | h1)
    ·rcases List.mem_append.1 h1 with h1 | h1
     ·exact ht (Or.inl h1)
     ·exact hn (List.mem_singleton.1 h1).symm
    ·exact ht (Or.inr h1)
theorem kids_one {f : Tr → Int → Option (Tr × Int)} (hf : ∀ t k u m, f t k = some (u, m) → Grow t u) (hl : ∀ t k u m, f t k = some (u, m) → (u.pages.length : Int) = t.pages.length + m) :
 ∀ (r : List Int) (t : Tr) (s : Int) (u : Tr) (m : Int), kidsP f true r t s = some (u, m) → ∀ j (hj : j < r.length), ∃ tj uj, f tj r[j] = some (uj, 1) ∧ Grow uj u ∧ tj.pages.length = t.pages.length + j
 | [], t, s, u, m, h => fun j hj => by cases hj
 | k :: r, t, s, u, m, h => fun j hj => by
   unfold kidsP at h
   split at h
   ·cases h
   ·rename_i v q hq
    split at h
    ·cases h
    ·rename_i hc
     have hq1 : q = 1 := by simpa using hc
     subst hq1
     cases j with
     | zero => exact ⟨t, v, hq, kidsP_grow hf r v _ u m h, rfl⟩
     | succ j =>
       obtain ⟨tj, uj, h1, h2, h3⟩ := kids_one hf hl r v _ u m h j (by simpa using hj)
       have := hl _ _ _ _ hq
       exact ⟨tj, uj, h1, h2, by omega⟩
theorem kids_pick {f : Tr → Int → Option (Tr × Int)} (hf : ∀ t k u m, f t k = some (u, m) → Grow t u) (hl : ∀ t k u m, f t k = some (u, m) → (u.pages.length : Int) = t.pages.length + m) (hn : ∀ t k u m, f t k = some (u, m) → ∃ ks, nodeO (obAt l k) = some (ks, m)) :
 ∀ (r : List Int) (t : Tr) (s : Int) (u : Tr) (m : Int), kidsP f false r t s = some (u, m) → ∀ p : Int, 0 ≤ p → p < m - s → ∃ k ks c p' tk uk, pickP l r p = some (k, ks, c, p') ∧ nodeO (obAt l k) = some (ks, c) ∧ f tk k = some (uk, c) ∧ 0 ≤ p' ∧ p' < c ∧ (tk.pages.length : Int) + p' = t.pages.length + p ∧ Grow uk u
 | [], t, s, u, m, h => fun p h0 h1 => by
   simp only [kidsP, Option.some.injEq, Prod.mk.injEq] at h
   omega
 | k :: r, t, s, u, m, h => fun p h0 h1 => by
   unfold kidsP at h
   split at h
   ·cases h
   ·rename_i v q hq
    split at h
    ·cases h
    ·obtain ⟨ks, hks⟩ := hn _ _ _ _ hq
     have hlv := hl _ _ _ _ hq
     by_cases hpq : p < q
     ·refine ⟨k, ks, q, p, t, v, ?_, hks, hq, h0, hpq, rfl, kidsP_grow hf r v _ u m h⟩
      unfold pickP
      rw [hks]
      simp only [if_pos hpq]
     ·obtain ⟨k', ks', c, p', tk, uk, e1, e2, e3, e4, e5, e6, e7⟩ := kids_pick hf hl hn r v _ u m h (p - q) (by omega) (by omega)
      refine ⟨k', ks', c, p', tk, uk, ?_, e2, e3, e4, e5, by omega, e7⟩
      unfold pickP
      rw [hks]
      simp only [if_neg hpq]
      exact e1
theorem typed_one {o : Ob} {a b : ByteArray} (h : typedO o a = true) (h' : typedO o b = true) : a = b := by
 unfold typedO at h h'
 simp only [Bool.and_eq_true, decide_eq_true_eq] at h h'
 exact h.2.symm.trans h'.2
theorem node_nopage {o : Ob} {ks : List Int} {c : Int} (h : nodeO o = some (ks, c)) : ¬ typedO o "Page".toUTF8 = true := fun hp =>
 absurd (typed_one (node_typed h).1 hp) (by decide +kernel)
def LeafGood (l : List Ob) (root : Int) (T : Tr) (i : Int) (R : Int × List Int × V) : Prop := T.pages[i.toNat]? = some R.1 ∧ (∀ x ∈ R.2.1, x ∈ T.nodes) ∧ GoodG l root T 100000 R.2.2 ∧ R.2.1.length ≤ 100000
theorem find_bel {T : Tr} (hF : DocFine l root T) (hz : ∀ n, (obAt l n).v.size ≤ 300) (hw : ∀ n, (obAt l n).v.wf) :
 ∀ (f : Nat) (parent : Int) (page : Bool) (t : Tr) (n : Int) (u : Tr) (m : Int) (kids : List Int) (c p : Int) (path : List Int) (g : V) (M : Nat), belP l root f parent page t n = some (u, m) → nodeO (obAt l n) = some (kids, c) → Grow u T → 0 ≤ p → p < c → (∀ x ∈ path, x ∈ T.nodes) → GoodG l root T M g → path.length ≤ M → M + 1204 * f ≤ 100000 →
   ∃ R, findP l f n kids c p path g = some R ∧ LeafGood l root T ((t.pages.length : Int) + p) R := by
 intro f
 induction f with
 | zero =>
   intro parent page t n u m kids c p path g M h hn hG h0 h1 hp hg hpl hM
   obtain ⟨_, _, ⟨hpg, _⟩ | ⟨f', ks, e, _⟩⟩ := bel_cases h
   ·exact absurd hpg (node_nopage hn)
   ·cases e
 | succ f ih =>
   intro parent page t n u m kids c p path g M h hn hG h0 h1 hp hg hpl hM
   obtain ⟨_, _, ⟨hpg, _⟩ | ⟨f', ks, e, _, hn2, hk⟩⟩ := bel_cases h
   ·exact absurd hpg (node_nopage hn)
   ·cases e
    rw [hn] at hn2
    obtain ⟨rfl, rfl⟩ : kids = ks ∧ c = m := by simpa using hn2
    have hGr := kidsP_grow (fun t k u m hh => belP_grow f n _ t k u m hh) kids _ 0 u c hk
    have hnT : n ∈ T.nodes := (hGr.1.trans hG.1).subset (by simp)
    have hp' : ∀ x ∈ path ++ [n], x ∈ T.nodes := fun x hx => by
     rcases List.mem_append.1 hx with hx | hx
     ·exact hp x hx
     ·rw [List.mem_singleton.1 hx]; exact hnT
    have hg' : GoodG l root T (M + 1204) (giveP g (obAt l n).v) := hg.giveN hF hnT (hz n) (hw n) 4 (Nat.le_refl _)
    have hM2 : M + 1204 + 1204 * f ≤ 100000 := by omega
    have hM3 : M + 1204 ≤ 100000 := Nat.le_trans (Nat.le_add_right _ _) hM2
    have hpl' : (path ++ [n]).length ≤ M + 1204 := by rw [List.length_append, List.length_singleton]; omega
    have hLf := fun v => (hg'.leafN v 4).more hM3
    rw [findP]
    by_cases hc : c = kids.length
    ·rw [if_pos hc]
     have hd : decide (c = (kids.length : Int)) = true := decide_eq_true hc
     rw [hd] at hk
     have hj : p.toNat < kids.length := by omega
     obtain ⟨tj, uj, e1, e2, e3⟩ := kids_one (fun t k u m hh => belP_grow f n _ t k u m hh) (fun t k u m hh => belP_len l root f n _ t k u m hh) kids _ 0 u c hk p.toNat hj
     rw [show kids.getD p.toNat 0 = kids[p.toNat] by rw [List.getD_eq_getElem?_getD, List.getElem?_eq_getElem hj]; rfl]
     have e3' : tj.pages.length = t.pages.length + p.toNat := e3
     obtain ⟨_, _, ⟨hpg, rfl, _, _⟩ | ⟨f', ks', rfl, hnp, hn3, hk3⟩⟩ := bel_cases e1
     ·rw [if_pos hpg]
      refine ⟨_, rfl, ?_, hp', hLf _, Nat.le_trans hpl' hM3⟩
      obtain ⟨ps, hps⟩ := (e2.2.trans hG.2)
      rw [← hps]
      show ((tj.pages ++ [kids[p.toNat]]) ++ ps)[((t.pages.length : Int) + p).toNat]? = some kids[p.toNat]
      rw [show ((t.pages.length : Int) + p).toNat = tj.pages.length by omega, List.append_assoc, List.getElem?_append_right (Nat.le_refl _), Nat.sub_self]
      rfl
     ·rw [if_neg (node_nopage hn3), hn3]
      simp only [if_pos]
      obtain ⟨R, r1, r2⟩ := ih n true tj kids[p.toNat] uj 1 ks' 1 0 (path ++ [n]) (giveP g (obAt l n).v) (M + 1204) e1 hn3 (e2.trans hG) (by omega) (by omega) hp' hg' hpl' hM2
      refine ⟨R, r1, ?_⟩
      rw [show ((t.pages.length : Int) + p) = (tj.pages.length : Int) + 0 by omega]
      exact r2
    ·rw [if_neg hc]
     have hd : decide (c = (kids.length : Int)) = false := decide_eq_false hc
     rw [hd] at hk
     obtain ⟨k, ks', c', p', tk, uk, e1, e2, e3, e4, e5, e6, e7⟩ := kids_pick (fun t k u m hh => belP_grow f n _ t k u m hh) (fun t k u m hh => belP_len l root f n _ t k u m hh) (fun t k u m hh => by
      obtain ⟨_, _, ⟨_, _, _, h4⟩ | ⟨f', ks, _, _, h5, _⟩⟩ := bel_cases hh
      ·cases h4
      ·exact ⟨ks, h5⟩) kids _ 0 u c hk p h0 (by omega)
     rw [e1]
     obtain ⟨R, r1, r2⟩ := ih n false tk k uk c' ks' c' p' (path ++ [n]) (giveP g (obAt l n).v) (M + 1204) e3 e2 (e7.trans hG) e4 e5 hp' hg' hpl' hM2
     refine ⟨R, r1, ?_⟩
     have e6' : (tk.pages.length : Int) + p' = (t.pages.length : Int) + p := e6
     rw [← e6']
     exact r2
end
theorem objs_few (n : Int) : ∀ {r : List Ob}, objsE n r = 0 → ∀ o ∈ r, ∀ x ∈ o.v.refs, x ≤ n
 | [], _, o, ho => by cases ho
 | u :: r, h, o, ho => by
   unfold objsE at h
   split at h
   ·rename_i hc; exact absurd h hc
   ·split at h
    ·cases h
    ·rename_i hc
     rcases List.mem_cons.1 ho with rfl | ho
     ·intro x hx
      by_cases hxn : x ≤ n
      ·exact hxn
      ·exfalso
       apply hc
       rw [List.any_eq_true]
       exact ⟨x, (mem_more0 x _).2 hx, decide_eq_true (by omega)⟩
     ·exact objs_few n h o ho
theorem doc_fine {l : List Ob} {root : Int} (h : docE l root = 0) : ∃ T n0 m kids, walkP l root = (T, 0) ∧ DocFine l root T ∧ TopOk l root n0 kids m ∧ belP l root 64 0 false ⟨[], []⟩ n0 = some (T, m) ∧ (T.pages.length : Int) = m ∧ 1 ≤ m := by
 unfold docE at h
 split at h
 ·cases h
 split at h
 ·rename_i hc; exact absurd h hc
 rename_i hO
 have hO : objsE l.length l = 0 := by simpa using hO
 split at h
 ·rename_i hc; exact absurd h hc
 rename_i hW
 have hW : (walkP l root).2 = 0 := by simpa using hW
 split at h
 ·cases h
 rename_i hS
 have hS : strayP l root (walkP l root).1 = false := by simpa using hS
 unfold walkP at hW
 split at hW
 ·rename_i hr
  split at hW
  ·rename_i T m hb
   have hwk : walkP l root = (T, 0) := by unfold walkP; rw [if_pos hr, hb]
   rw [hwk] at hS
   have hno := belP_no 64 0 false ⟨[], []⟩ _ T m (by simp [Tr.has]) hb
   obtain ⟨hok, hm⟩ := belP_ok l root 64 0 false ⟨[], []⟩ _ T m (Tr.ok_nil l) hb
   have hlen := belP_len l root 64 0 false ⟨[], []⟩ _ T m hb
   obtain ⟨_, _, ⟨_, _, _, hpg⟩ | ⟨f', ks, _, _, hn, _⟩⟩ := bel_cases hb
   ·cases hpg
   ·refine ⟨T, _, m, ks, hwk, ⟨objs_few l.length hO, fun n x hx => ?_, hok, hno⟩, ⟨by unfold rootO; rw [if_pos hr], hn⟩, hb, by simpa using hlen, hm⟩
    rcases Classical.em (1 ≤ n ∧ n ≤ l.length) with hin | hin
    ·obtain ⟨k, rfl⟩ : ∃ k : Nat, n = (k : Int) + 1 := ⟨(n - 1).toNat, by omega⟩
     have hk : k < l.length := by omega
     have h1 : leadsB root T (cutP root T ((k : Int) + 1) (l.getD k noOb).v) = false := by
      unfold strayP at hS
      rw [List.any_eq_false] at hS
      simpa using hS k (List.mem_range.2 hk)
     have h2 : l.getD k noOb = obAt l ((k : Int) + 1) := by
      unfold obAt
      rw [if_pos hin, show ((k : Int) + 1 - 1).toNat = k by omega, List.getD_eq_getElem?_getD]
     rw [h2] at h1
     unfold leadsB at h1
     rw [List.any_eq_false] at h1
     have h3 := h1 x ((mem_more0 x _).2 hx)
     simp only [decide_eq_true_eq, not_or] at h3
     exact h3
    ·have h1 := refs_cut hx
     rw [show obAt l n = noOb by unfold obAt; rw [if_neg hin], show noOb.v = nullV from rfl, refs_null] at h1
     cases h1
  ·cases hW
 ·cases hW
theorem doc_leaves {l : List Ob} {root : Int} (h : docE l root = 0) (hz : ∀ n, (obAt l n).v.size ≤ 300) (hw : ∀ n, (obAt l n).v.wf) :
 ∃ T n0 kids q, ∃ Rs : List (Int × List Int × V), walkP l root = (T, 0) ∧ DocFine l root T ∧ TopOk l root n0 kids q ∧ (Rs.length : Int) = q ∧ Rs.length = T.pages.length ∧ 1 ≤ Rs.length ∧ (∀ (p : Nat) (hp : p < Rs.length), findP l 64 n0 kids q (p : Int) [] emptyV = some Rs[p] ∧ LeafGood l root T (p : Int) Rs[p]) := by
 obtain ⟨T, n0, m, kids, h1, h2, h3, h4, h5, h6⟩ := doc_fine h
 have hE : GoodG l root T 10 emptyV := ⟨rfl, fun x hx => by { rw [show emptyV.refs = [] by decide +kernel] at hx; cases hx }, by decide +kernel, fun x hx => by
  rw [nums_eq] at hx
  have : x = 0 := by simpa [emptyV, V.n, V.l, numsL] using hx
  subst this
  decide⟩
 have hall : ∀ p : Nat, (p : Int) < m → ∃ R, findP l 64 n0 kids m (p : Int) [] emptyV = some R ∧ LeafGood l root T (p : Int) R := fun p hp => by
  obtain ⟨R, r1, r2⟩ := find_bel h2 hz hw 64 0 false ⟨[], []⟩ n0 T m kids m (p : Int) [] emptyV 10 h4 h3.node (Grow.refl _) (by omega) hp (fun x hx => by cases hx) hE (Nat.zero_le _) (by omega)
  refine ⟨R, r1, ?_⟩
  rw [show (((⟨[], []⟩ : Tr).pages.length : Int) + (p : Int)) = (p : Int) by simp] at r2
  exact r2
 refine ⟨T, n0, kids, m, (List.range m.toNat).map fun p : Nat => (findP l 64 n0 kids m (p : Int) [] emptyV).getD (0, [], emptyV), h1, h2, h3, ?_, ?_, ?_, fun p hp => ?_⟩
 ·rw [List.length_map, List.length_range]; omega
 ·rw [List.length_map, List.length_range]; omega
 ·rw [List.length_map, List.length_range]; omega
 ·rw [List.length_map, List.length_range] at hp
  obtain ⟨R, r1, r2⟩ := hall p (by omega)
  rw [List.getElem_map, List.getElem_range, r1]
  exact ⟨rfl, r2⟩
