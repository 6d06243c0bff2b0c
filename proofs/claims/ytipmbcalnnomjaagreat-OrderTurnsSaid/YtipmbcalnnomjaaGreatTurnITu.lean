import Derived.Test.YtipmbcalnnomjaaGreatOrdTurnTu
import Derived.Test.YtipmbcalnnomjaaGreatTurnOTu
import Derived.Test.YtipmbcalnnomjaaGreatRefOfOTu
import Derived.Test.YtipmbcalnnomjaaGreatMapRTu
import Derived.Test.YtipmbcalnnomjaaGreatZGetTu
import Derived.Test.YtipmbcalnnomjaaGreatSqTu
set_option linter.unusedVariables false
set_option linter.unusedSimpArgs false
namespace Go.Proofs.YtipmbcalnnomjaaGreat
open Go.RowKit Go.Maps
theorem all_get (T : Int → Ob) {main head first : List Int} {k : Nat} {x : Int} (h : (allO main head first)[k]? = some x) : (turnedP T main head first)[k]? = some (if k = main.length ∨ k = main.length + head.length + 1 then noOb else T x) := by
 unfold allO at h
 simp only [List.append_assoc] at h
 by_cases h1 : k < main.length
 ·rw [List.getElem?_append_left h1] at h
  rw [turned_main T h, if_neg (by omega)]
 ·rw [List.getElem?_append_right (by omega)] at h
  by_cases h2 : k = main.length
  ·subst h2
   rw [turned_lin, if_pos (Or.inl rfl)]
  ·obtain ⟨i, rfl⟩ : ∃ i, k = main.length + 1 + i := ⟨k - main.length - 1, by omega⟩
   rw [show main.length + 1 + i - main.length = i + 1 by omega, List.singleton_append, List.getElem?_cons_succ] at h
   by_cases h3 : i < head.length
   ·rw [List.getElem?_append_left h3] at h
    rw [turned_head T h, if_neg (by omega)]
   ·rw [List.getElem?_append_right (by omega)] at h
    by_cases h4 : i = head.length
    ·subst h4
     rw [turned_hint, if_pos (Or.inr (by omega))]
    ·obtain ⟨j, rfl⟩ : ∃ j, i = head.length + 1 + j := ⟨i - head.length - 1, by omega⟩
     rw [show head.length + 1 + j - head.length = j + 1 by omega, List.singleton_append, List.getElem?_cons_succ] at h
     have := turned_first T (main := main) (head := head) h
     rw [show main.length + 1 + (head.length + 1 + j) = main.length + 1 + head.length + 1 + j by omega, this, if_neg (by omega)]
theorem all_len (main head first : List Int) : (allO main head first).length = main.length + head.length + first.length + 2 := by
 unfold allO
 simp only [List.length_append, List.length_singleton]
 omega
theorem exec_loadDc {oi : Oper} {ev : Operand → Value} {w : World} {x : Operand} {b : Nat} {cs : List Value} {T : TypeId} (ho : oi.op = .load 24 x) (hx : ev x = .pointer (some ⟨b, 0, none⟩)) (hB : BlockIs w b cs T) (hl : (Tryz.prog.info? 24).map (·.size) = some cs.length) :
 (execOp ev oi).run Tryz.prog w = .ok (.value (.agg cs.toArray)) w := by
 unfold execOp
 simp only [ho, hx, Instr.loadAt, Instr.sureAddr, Sem.run_bind, Sem.run_pure, Result.andThen_ok, run_loadVar_mid w b 0 24 cs _ hB.range Tryz.underlying24 rfl hl]
def DocTo (L : List Ob) (d : Nat) (rt : Int) (w : World) (e : Ending) (w' : World) : Prop :=
 ∃ (a : Option Addr) (N c : Nat) (rws : List (List Value)), e = .returned (.agg #[.slice a N c, .int .i64 rt]) ∧ N = L.length ∧ OKids w' (d + 1) L a rws ∧ Pure w w'
theorem ObsIn.behind {A : Nat → Prop} {W : World} {d : Nat} {l : List Ob} {rows : List (List Value)} (h : ObsIn A W d l rows) {o : Ob} {cs : List Value} (hL : LiesIn A W d o.v cs) : ObsIn A W d (l ++ [o]) (rows ++ [cs ++ [.bool o.st, .string o.data]]) := by
 refine ⟨by rw [List.length_append, List.length_append, h.len]; rfl, fun r hr => ?_, fun i u r hu hr => ?_⟩
 ·rcases List.mem_append.1 hr with hr | hr
  ·exact h.six r hr
  ·rw [List.mem_singleton] at hr
   rw [hr, List.length_append, hL.lies.len]
   rfl
 ·by_cases hi : i < l.length
  ·rw [List.getElem?_append_left hi] at hu
   rw [List.getElem?_append_left (by rw [h.len]; exact hi)] at hr
   exact h.lies i u r hu hr
  ·have hi2 : i = l.length := by
    have := (List.getElem?_eq_some_iff.1 hu).1
    rw [List.length_append, List.length_singleton] at this
    omega
   subst hi2
   rw [List.getElem?_append_right (Nat.le_refl _), Nat.sub_self] at hu
   rw [List.getElem?_append_right (by rw [h.len]; exact Nat.le_refl _), h.len, Nat.sub_self] at hr
   cases hu
   cases hr
   exact ⟨cs, rfl, hL⟩
structure TurnI (w w4 : World) (d pb : Nat) (l : List Ob) (tl : List Value) (oa : Option Addr) (oc : Nat) (rows : List (List Value)) (W : World) : Prop where
 blk : BlockIs W pb (.slice oa l.length oc :: tl) 24
 row : W.ownsRow w4.heap.size 61 6 (.slice oa l.length oc) l.length (rows.flatMap id)
 obs : ObsIn (fun b => b < w.heap.size ∨ (w4.heap.size ≤ b ∧ b < W.heap.size ∧ ∀ x, oa = some x → x.block ≠ b)) W (d + 1) l rows
 ext : Ext (fun b => b = pb) w4 W
 lo : w.heap.size ≤ pb ∧ pb < w4.heap.size
section
variable {w w4 W W' : World} {d pb : Nat} {l : List Ob} {tl : List Value} {oa : Option Addr} {oc : Nat} {rows : List (List Value)}
theorem TurnI.pure (h : TurnI w w4 d pb l tl oa oc rows W) (hP : Pure W W') : TurnI w w4 d pb l tl oa oc rows W' :=
 ⟨h.blk.ext hP id, own_ext h.row hP (fun _ _ => id), (h.obs.ext hP (fun _ _ => id)).mono (fun b hb => hb.imp id (fun q => ⟨q.1, Nat.lt_of_lt_of_le q.2.1 hP.size, q.2.2⟩)), h.ext.trans hP (fun _ _ e => e.elim), h.lo⟩
theorem TurnI.step (h : TurnI w w4 d pb l tl oa oc rows W) {W6 : World} {a6 : Option Addr} {c6 : Nat} {o : Ob} {cs : List Value}
 (hL : LiesIn (fun b => b < w.heap.size ∨ (w4.heap.size ≤ b ∧ ∀ x, oa = some x → x.block ≠ b)) W (d + 1) o.v cs)
 (hO : W6.ownsRow w4.heap.size 61 6 (.slice a6 (l.length + 1) c6) (l.length + 1) (rows.flatMap id ++ (cs ++ [.bool o.st, .string o.data]))) (hg : W.grownBy W6 (Value.slice oa l.length oc).ownBlock)
 (hf : ∀ x, a6 = some x → (Value.slice oa l.length oc).ownBlock = some x.block ∨ W.heap.size ≤ x.block) :
 TurnI w w4 d pb (l ++ [o]) tl a6 c6 (rows ++ [cs ++ [.bool o.st, .string o.data]]) (W6.setCell ⟨pb, 0, none⟩ (.slice a6 (l.length + 1) c6)) := by
 have hE := ext_of_grown hg
 have hlo := h.lo
 have hown : ∀ k, (Value.slice oa l.length oc).ownBlock = some k → ∃ x : Addr, oa = some x ∧ x.block = k := fun k hk => by
  cases oa with
  | none => cases hk
  | some x => exact ⟨x, rfl, Option.some.inj hk⟩
 have hpb : ¬ (Value.slice oa l.length oc).ownBlock = some pb := fun e => by have := (h.row.lt pb e).1; omega
 have hX : Ext (fun b => b = pb) W6 (W6.setCell ⟨pb, 0, none⟩ (.slice a6 (l.length + 1) c6)) := Ext.setCell (S := fun b => b = pb) (Ext.refl _ _) (p := ⟨pb, 0, none⟩) (fun _ => rfl) _
 have hs := hE.size
 have hl1 : (l ++ [o]).length = l.length + 1 := by rw [List.length_append, List.length_singleton]
 refine ⟨?_, ?_, ?_, ?_, hlo⟩
 ·rw [hl1]
  exact (h.blk.ext hE hpb).set 0 (.slice a6 (l.length + 1) c6)
 ·rw [hl1, List.flatMap_append, show ([cs ++ [Value.bool o.st, Value.string o.data]]).flatMap id = cs ++ [Value.bool o.st, Value.string o.data] by simp]
  exact own_ext hO hX (fun g hg e => by have := (hO.lt g hg).1; omega)
 ·have h1 : ObsIn (fun b => b < w.heap.size ∨ (w4.heap.size ≤ b ∧ b < W.heap.size ∧ ∀ x, oa = some x → x.block ≠ b)) W (d + 1) (l ++ [o]) (rows ++ [cs ++ [.bool o.st, .string o.data]]) := h.obs.behind (hL.mono (fun b hb q => q.imp id (fun q => ⟨q.1, hb, q.2⟩)))
  have h2 := h1.ext hE (fun b hb e => by
   obtain ⟨x, hx, hxb⟩ := hown b e
   have := (h.row.lt b e).1
   rcases hb with hb | hb
   ·omega
   ·exact hb.2.2 x hx hxb)
  have h3 := h2.ext hX (fun b hb e => by rcases hb with hb | hb <;> omega)
  refine h3.mono (fun b hb => hb.imp id (fun q => ⟨q.1, by have := hX.size; omega, fun x hx e => ?_⟩))
  rcases hf x hx with hf | hf
  ·obtain ⟨y, hy, hyb⟩ := hown _ hf
   exact q.2.2 y hy (hyb.trans e)
  ·omega
 ·exact (h.ext.trans hE (fun i hi e => by have := (h.row.lt i e).1; omega)).trans hX (fun _ _ e => e)
end
theorem take_behind {α : Type _} {l : List α} {k : Nat} {x : α} (h : l[k]? = some x) : l.take (k + 1) = l.take k ++ [x] := by
 obtain ⟨hk, rfl⟩ := List.getElem?_eq_some_iff.1 h
 exact List.take_succ_eq_append_getElem hk
