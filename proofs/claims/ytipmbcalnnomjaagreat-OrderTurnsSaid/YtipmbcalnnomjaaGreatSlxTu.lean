import Derived.Test.YtipmbcalnnomjaaGreatOwnTu
import Derived.Test.YtipmbcalnnomjaaGreatOpenTu
import Derived.Laws.CopyOwn
import Derived.Lib.AppendZerosOnto
import Derived.Lib.AppendZeros
import Derived.Lib.Overlaps
import Derived.Laws.Externs
import Derived.Test.YtipmbcalnnomjaaGreatSqTu
set_option linter.unusedVariables false
set_option linter.unusedSimpArgs false
namespace Go.Proofs.YtipmbcalnnomjaaGreat
open Go.RowKit
theorem setRow_is {w : World} {g : Nat} {cur new : List Value} {t : TypeId} (hg : BlockIs w g cur t) : BlockIs (w.setRow g new.toArray) g new t := setRow_heap w g _ _ t _ hg
theorem setRow_ext (w : World) (g : Nat) (cs : Array Value) : Ext (fun k => k = g) w (w.setRow g cs) :=
 ⟨rfl, rfl, rfl, by simp [World.setRow], fun k hk hn => setRow_other w g k cs hn⟩
theorem loads {P : Program} {w : World} {sp : Option Addr} {cs : List Value} (n size len cap : Nat) (hl : cs.length = n * size) (hr : 0 < cs.length → RowOf w sp cs) (hsp : sp = none → cs = []) : (Builtin.firstCells size n (.slice sp len cap)).run P w = .ok cs.toArray w := by
 cases sp with
 | none => obtain rfl := hsp rfl; exact run_firstCells_none w size n len cap
 | some ad =>
   refine run_firstCells_some w size n ad len cap cs hl (fun j v hj => ?_)
   have hlt := (List.getElem?_eq_some_iff.1 hj).1
   obtain ⟨b, o, h1, h2⟩ := hr (by omega) j v hj
   cases h1
   rw [addr_add]; exact h2
theorem wpList_clear_big {P : Program} {w : World} {ops : Array Oper} {rest : List Oper} {o : Oper} {a : Act} {Q : Exit → Act → World → Prop} (hgd : o.guard = none) (d : Operand) (dT : TypeId)
 (ho : o.op = .call { callee := .builtin .clear, args := #[d], argTypes := #[dT] }) (elem : TypeId) (hu : P.underlying dT = some (.slice elem)) (z : Value) (hz : ∀ w, (zeroValue elem).run P w = .ok z w) (hz1 : ∀ v ∈ z.cells, v.oneCell' = true)
 (dp : Option Addr) (dLen dCap : Nat) (hd : a.eval d = .slice dp dLen dCap)
 (g off : Nat) (cur : List Value) (t : TypeId) (hg : BlockIs w g cur t) (hpos : 0 < dLen → dp = some ⟨g, off, none⟩) (hfit : off + dLen * z.cells.size ≤ cur.length)
 (h : ∀ w' cur', BlockIs w' g cur' t → cur'.length = cur.length → cur'.take off = cur.take off → Ext (fun k => k = g) w w' → wpList P ops Q rest (a.put o.dst (.tuple #[])) w') :
 wpList P ops Q (o :: rest) a w := by
 refine wpList_plain hgd fun K hK => ?_
 by_cases h0 : dLen = 0
 ·subst h0
  have hrun : (Builtin.clear_ #[dT] o.type #[.slice dp 0 dCap]).run P w = .ok (.tuple #[]) w := by
   cases dp <;> simp [Builtin.clear_, run_underlying hu]
  unfold Oper.wp
  simp [execOp, ho, resolve, invoke, builtin, hd, hrun, Result.andThen]
  exact hK _ _ (h w cur hg rfl rfl (Ext.refl _ _))
 ·obtain rfl := hpos (by omega)
  obtain ⟨zs, hzs⟩ : ∃ zs, zs = (Builtin.zeroCells z.cells dLen).toList := ⟨_, rfl⟩
  have hzl : zs.length = dLen * z.cells.size := by rw [hzs]; simp [Builtin.zeroCells]
  have hz2 : ∀ v ∈ zs, v.oneCell' = true := by
   intro v hv
   rw [hzs] at hv
   simp only [Builtin.zeroCells, Array.mem_toList_iff, Array.mem_map, Array.mem_range] at hv
   obtain ⟨k, hk, rfl⟩ := hv
   have hm : k % z.cells.size < z.cells.size := Nat.mod_lt _ (by rcases Nat.eq_zero_or_pos z.cells.size with e | e; rw [e] at hk; simp at hk; exact e)
   rw [getElem!_pos z.cells _ hm]
   exact hz1 _ (Array.getElem_mem hm)
  have hst := run_storeCells_at P g off t zs 0 cur.toArray w hg (by rw [hzl]; simpa using hfit) hz2
  have hrun : (Builtin.clear_ #[dT] o.type #[.slice (some ⟨g, off, none⟩) dLen dCap]).run P w = .ok (.tuple #[]) (w.setRow g (splice cur off zs).toArray) := by
   obtain ⟨m, rfl⟩ : ∃ m, dLen = m + 1 := ⟨dLen - 1, by omega⟩
   simp [Builtin.clear_, run_underlying hu, hz, ← hzs, hst, splice]
  unfold Oper.wp
  simp [execOp, ho, resolve, invoke, builtin, hd, hrun, Result.andThen]
  refine hK _ _ (h _ (splice cur off zs) (setRow_is hg) (length_splice _ _ _ (by omega)) ?_ (setRow_ext _ _ _))
  rw [splice, List.take_append_of_le_length (by simp; omega), List.take_take, Nat.min_self]
theorem wpList_append_make {P : Program} {w : World} {ops : Array Oper} {rest : List Oper} {o : Oper} {a : Act} {Q : Exit → Act → World → Prop} (hgd : o.guard = none) (s x : Operand) (t tn : TypeId)
 (ho : o.op = .call { callee := .builtin .append, args := #[s, x], argTypes := #[t, tn] }) (e : TypeId) (ht : P.underlying t = some (.slice e)) (htn : P.underlying tn = some (.int .i64))
 (z : Value) (size bytes : Nat) (hinfo : (P.info? e).map (fun i => (i.zero, i.size, i.bytes)) = some (some z, size, bytes)) (hzs : z.cells.size = size) (hsz : 0 < size)
 (sp : Option Addr) (n c k : Nat) (xs : List Value) (hs : a.eval s = .slice sp n c) (hx : a.eval x = .int .i64 k) (hl : xs.length = n * size) (hr : 0 < xs.length → RowOf w sp xs) (hsp : sp = none → xs = [])
 (h0 : 0 < k) (hroom : c < n + k) (hbytes : (n + k) * bytes ≤ 140737488355328) (h63 : n + k ≤ maxLen)
 (h : ∀ w' G rest', BlockIs w' w.heap.size (xs ++ rest') e → rest'.length + xs.length = G * size → n + k ≤ G → G ≤ maxLen → Pure w w' → wpList P ops Q rest (a.put o.dst (.slice (some ⟨w.heap.size, 0, none⟩) (n + k) G)) w') :
 wpList P ops Q (o :: rest) a w := by
 obtain ⟨i, hi, hz, hsize, hby⟩ := info_parts hinfo
 have hold : (Builtin.firstCells i.size n (.slice sp n c)).run P w.drew = .ok xs.toArray w.drew := loads n i.size n c (by rw [hsize]; exact hl) (fun hp => hr hp) hsp
 have hmk : k * i.bytes ≤ 281474976710656 := by
  rw [hby]
  have : k * bytes ≤ (n + k) * bytes := Nat.mul_le_mul_right _ (by omega)
  omega
 have hrun := Lib.run_append_grow_zeros w t tn o.type e i z .i64 .i64 ht htn hi hz sp n c xs hold k h0 (by omega) hroom (by unfold maxLen at h63; omega) hmk (by rw [hby]; exact growslice_fits hroom hbytes)
 have hG := grownCap_ge w (n + k) c e
 have hG2 := grownCap_le_maxLen w (n + k) c e h63
 generalize grownCap w (n + k) c e = G at *
 refine Lib.wpList_append_run w hgd s x t tn ho _ _ hs hx _ _ hrun (h _ G ((Builtin.zeroCells z.cells k).toList ++ (Builtin.zeroCells z.cells (G - (n + k))).toList) ?_ ?_ hG hG2 ((Ext.refl _ w).drew.alloc _))
 ·have := BlockIs.new w.drew (xs ++ ((Builtin.zeroCells z.cells k).toList ++ (Builtin.zeroCells z.cells (G - (n + k))).toList)) e
  have e : (xs ++ ((Builtin.zeroCells z.cells k).toList ++ (Builtin.zeroCells z.cells (G - (n + k))).toList)).toArray = xs.toArray ++ Builtin.zeroCells z.cells k ++ Builtin.zeroCells z.cells (G - (n + k)) := by
   apply Array.ext'
   simp
  rw [e] at this
  exact this
 ·have e1 : (Builtin.zeroCells z.cells k).toList.length = k * size := by simp [Builtin.zeroCells, hzs]
  have e2 : (Builtin.zeroCells z.cells (G - (n + k))).toList.length = (G - (n + k)) * size := by simp [Builtin.zeroCells, hzs]
  rw [List.length_append, e1, e2, hl, ← Nat.add_mul, ← Nat.add_mul]
  congr 1
  omega
