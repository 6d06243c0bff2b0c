import Derived.Test.YtomcdhljjmnahaaGreatAddPa
import Derived.Test.YtomcdhljjmnahaaGreatLibBAPa
import Derived.Test.YtomcdhljjmnahaaGreatLibBBPa
import Derived.Great.Walk
import Derived.Test.YtomcdhljjmnahaaGreatSqPa
set_option linter.unusedVariables false
set_option linter.unusedSimpArgs false
namespace Go.Proofs.YtomcdhljjmnahaaGreat
open Go.RowKit
theorem infoZ : (Tryz.prog.info? 3).map (fun i => (i.zero, i.size, i.bytes)) = some (some (.int .i64 0), 1, 8) := by kernel_rfl
theorem zV_one (l : List Int) : ∀ u ∈ l.map zV, u.oneCell' = true := by intro u hu; obtain ⟨y, _, rfl⟩ := List.mem_map.1 hu; rfl
abbrev OwnZ (w : World) (B : Nat) (a : Option Addr) (n c : Nat) (xs : List Int) : Prop := w.ownsRow B 3 1 (.slice a n c) n (xs.map zV)
theorem OwnZ.row {w : World} {B n c : Nat} {a : Option Addr} {xs : List Int} (h : OwnZ w B a n c xs) : RowOf w a (xs.map zV) := own_row h
theorem OwnZ.nil {w : World} {B n c : Nat} {a : Option Addr} {xs : List Int} (h : OwnZ w B a n c xs) : a = none → c = 0 := by
 obtain ⟨_, _, e, _, _, h2, _⟩ := own_form h
 cases e
 exact h2
theorem OwnZ.pure {w w' : World} {B n c : Nat} {a : Option Addr} {xs : List Int} (h : OwnZ w B a n c xs) (hP : Pure w w') : OwnZ w' B a n c xs := own_ext h hP (fun _ _ => id)
theorem OwnZ.new (w : World) (cs : List Value) (xs : List Int) (hcs : cs = xs.map zV) (n : Nat) (hn : n = xs.length) (hm : n ≤ maxLen) (B : Nat) (hB : B ≤ w.heap.size) : OwnZ (w.alloc (.cells cs.toArray 3)) B (some ⟨w.heap.size, 0, none⟩) n n xs := by
 subst hcs hn
 exact own_new (by rw [List.length_map, Nat.mul_one]) hm B hB
theorem wpList_append_int {w : World} {ops : Array Oper} {rest : List Oper} {o : Oper} {a : Act} {Q : Exit → Act → World → Prop} (hgd : o.guard = none) (s x : Operand)
 (ho : o.op = .call { callee := .builtin .append, args := #[s, x], argTypes := #[23, 23] })
 (base : Nat) (a0 : Option Addr) (n c0 : Nat) (xs : List Int) (hs : a.eval s = .slice a0 n c0) (hown : OwnZ w base a0 n c0 xs)
 (ad : Option Addr) (m c : Nat) (ys : List Int) (hx : a.eval x = .slice ad m c) (hm : m = ys.length) (hnil : ad = none → c = 0) (hnews : RowOf w ad (ys.map zV)) (hle : n + m ≤ 1000000000) (hbase : base ≤ w.heap.size)
 (h : ∀ (a' : Option Addr) (c' : Nat) (w' : World), OwnZ w' base a' (n + m) c' (xs ++ ys) → Ext (fun i => base ≤ i) w w' → wpList Tryz.prog ops Q rest (a.put o.dst (.slice a' (n + m) c')) w') : wpList Tryz.prog ops Q (o :: rest) a w := by
 refine wpList_append_any hgd s x 23 ho base 3 (.int .i64 0) 1 8 Tryz.underlying23 infoZ rfl (by decide) _ n (xs.map zV) hs hown ad m c (ys.map zV) hx (fun e => ⟨?_, hnil e⟩) (by rw [List.length_map, hm]; omega) hnews (zV_one ys) (n + m) rfl ((xs ++ ys).map zV) (by rw [List.map_append]) (by omega) (by unfold maxLen; omega) hbase ?_
 ·subst e
  by_cases h0 : 0 < ys.length
  ·obtain ⟨b, o', e, _⟩ := zV_at hnews 0 h0
   cases e
  ·omega
 ·intro a' c' w' hO hg
  refine h a' c' w' hO ?_
  exact (ext_of_grown hg).mono (fun i _ e => by have := (hown.lt i e).1; omega)
