import Derived.Test.YtomcdhljjmnahaaGreatPiecePa
import Derived.Test.YtomcdhljjmnahaaGreatIntsPa
import Derived.Test.YtomcdhljjmnahaaGreatSqPa
set_option linter.unusedVariables false
set_option linter.unusedSimpArgs false
namespace Go.Proofs.YtomcdhljjmnahaaGreat
open Go.RowKit
def hC (h : HT) (pa : Option Addr) (pc : Nat) (la : Option Addr) (lc : Nat) : List Value := [.int .i64 h.fo, .int .i64 h.fa, .slice pa h.ps.length pc, .int .i64 h.so, .int .i64 h.sa, .int .i64 h.sf, .slice la h.sh.length lc]
def lC (l : LT) : List Value := [.int .i64 l.len, .int .i64 l.ha, .int .i64 l.hl, .int .i64 l.fo, .int .i64 l.fe, .int .i64 l.pg, .int .i64 l.main]
structure HMem (W : World) (h : HT) (pa : Option Addr) (pc : Nat) (la : Option Addr) (lc : Nat) : Prop where
 pages : P26.Hints W pa h.ps
 share : RowOf W la (h.sh.map zV)
 pn : h.ps.length ≤ 100000
 sn : h.sh.length ≤ 100000
 lcap : h.sh.length ≤ lc ∧ 0 ≤ lc
 lnil : la = none → lc = 0
theorem HMem.pure {W W' : World} {h : HT} {pa la : Option Addr} {pc lc : Nat} (H : HMem W h pa pc la lc) (hP : Pure W W') : HMem W' h pa pc la lc :=
 ⟨H.pages.pure hP, H.share.ext hP (fun _ _ => id), H.pn, H.sn, H.lcap, H.lnil⟩
theorem size25 : (Tryz.prog.info? 25).map (·.size) = some 7 := by kernel_rfl
theorem size27 : (Tryz.prog.info? 40).map (·.size) = some 7 := by kernel_rfl
theorem size51 : (Tryz.prog.info? 53).map (·.size) = some 3 := by kernel_rfl
theorem sz25 {cs : List Value} (h : cs.length = 7) : (Tryz.prog.info? 25).map (·.size) = some cs.length := by rw [h]; exact size25
theorem sz27 {cs : List Value} (h : cs.length = 7) : (Tryz.prog.info? 40).map (·.size) = some cs.length := by rw [h]; exact size27
theorem szPg (a b : Int) (s : Value) : (Tryz.prog.info? 53).map (·.size) = some ([Value.int .i64 a, .int .i64 b, s] : List Value).length := size51
theorem szSp (a b : Int) : (Tryz.prog.info? 55).map (·.size) = some ([Value.int .i64 a, .int .i64 b] : List Value).length := sizeSp
theorem HMem.page {W : World} {h : HT} {pa la : Option Addr} {pc lc : Nat} (H : HMem W h pa pc la lc) (k : Nat) (hk : k < h.ps.length) :
 ∃ b o, pa = some ⟨b, o, none⟩ ∧ W.rangeAt b (o + k * 3) [.int .i64 h.ps[k].o, .int .i64 h.ps[k].l, .slice h.ps[k].sa h.ps[k].sh.length h.ps[k].sc] := by
 obtain ⟨b, o, rfl, c0, c1, c2⟩ := H.pages.at k hk
 refine ⟨b, o, rfl, fun j v hv => ?_⟩
 match j, hv with
 | 0, hv => cases hv; exact c0
 | 1, hv => cases hv; exact c1
 | 2, hv => cases hv; exact c2
 | j + 3, hv => simp at hv
theorem lensP_get {ps : List PH} {k : Nat} (hk : k < ps.length) : (lensP ps)[k]?.getD 0 = ps[k].l := by
 unfold lensP
 rw [List.getElem?_map, List.getElem?_eq_getElem hk]
 rfl
theorem lensP_len (ps : List PH) : (lensP ps).length = ps.length := by simp [lensP]
theorem exec_loadSp {oi : Oper} {ev : Operand → Value} {w : World} {x : Operand} {b : Nat} {cs : List Value} {T : TypeId} (ho : oi.op = .load 55 x) (hx : ev x = .pointer (some ⟨b, 0, none⟩)) (hB : BlockIs w b cs T) (hl : cs.length = 2) :
 (execOp ev oi).run Tryz.prog w = .ok (.value (.agg cs.toArray)) w := by
 unfold execOp
 simp only [ho, hx, Instr.loadAt, Instr.sureAddr, Sem.run_bind, Sem.run_pure, Result.andThen_ok, run_loadVar_mid w b 0 55 cs _ hB.range Tryz.underlying55 rfl (by rw [hl]; exact sizeSp)]
theorem eqlSp (x y : Int) (B : Bool) (h : B = (decide (x = 0) && decide (y = 0))) (w : World) : (binOp .eql 55 (.agg #[.int .i64 x, .int .i64 y]) (.agg #[.int .i64 0, .int .i64 0])).run Tryz.prog w = .ok (.bool B) w := by
 subst h
 rw [run_eql_struct]
 go_simp
 by_cases h1 : x = 0 <;> by_cases h2 : y = 0 <;> simp [h1, h2]
theorem ifsSp {α : Type} (F : Bool → α) (x y : Int) (B : Bool) (h : B = (decide (x ≠ 0) || decide (y ≠ 0))) : (if x = 0 then if y = 0 then F false else F true else F true) = F B := by
 subst h
 by_cases h1 : x = 0 <;> by_cases h2 : y = 0 <;> simp [h1, h2]
theorem piece_is (l : List Int) (n : Int) : (pieceP l n).isSome = (decide (((pieceP l n).getD (0, 0)).1 ≠ 0) || decide (((pieceP l n).getD (0, 0)).2 ≠ 0)) := by
 cases h : pieceP l n with
 | none => rfl
 | some x =>
   obtain ⟨h1, h2, _, rfl⟩ := piece_some h
   have := sumL_pos h1
   simp
   omega
