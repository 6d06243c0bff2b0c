import Derived.Test.YtipmbcalnnomjaaGreatFirstRVw
import Derived.Test.YtipmbcalnnomjaaGreatLeavesVw
import Derived.Test.YtipmbcalnnomjaaGreatSqVw
set_option linter.unusedVariables false
set_option linter.unusedSimpArgs false
set_option maxRecDepth 100000
namespace Go.Proofs.YtipmbcalnnomjaaGreat
open Go.RowKit Go.Maps
theorem infoOb : (Tryz.prog.info? 61).map (fun i => (i.zero, i.size, i.bytes)) = some (some (.agg #[.int .i64 0, .int .i64 0, .string ⟨#[]⟩, .slice none 0 0, .bool false, .string ⟨#[]⟩]), 6, 80) := by kernel_rfl
theorem RowI.ext {S : Nat → Prop} {rb B R0 : Nat} {xs : List Int} {a : Option Addr} {c : Nat} {D : DataW Unit} {W W' : World} (h : RowI rb B R0 xs a c D W) (hE : Ext S W W') (hS : ∀ b, S b → ¬ RowS rb B a b) : RowI rb B R0 xs a c D W' :=
 ⟨h.blk.ext hE (fun e => hS _ e (Or.inl rfl)), own_ext h.row hE (fun g hg e => hS g e (RowS.of_own hg)), own_map_ext h.own hE (fun e => hS _ e (Or.inr (Or.inl rfl))), h.is, h.has, Nat.le_trans h.rs hE.size, h.lo⟩
def ObIs (w0 : World) (d : Nat) (l : List Ob) (x : Int) (r : List Value) : Prop := ∃ cs, r = cs ++ [.bool (obAt l x).st, .string (obAt l x).data] ∧ Lies w0 (d + 1) (obAt l x).v cs
structure ClosI (w0 w : World) (d : Nat) (l : List Ob) (rb B R0 : Nat) (xs : List Int) (a : Option Addr) (c : Nat) (D : DataW Unit) (k : Nat) (oa : Option Addr) (oc : Nat) (rws : List (List Value)) (W : World) : Prop where
 base : Pure w W
 row : RowI rb B R0 xs a c D W
 out : W.ownsRow R0 61 6 (.slice oa k oc) k (rws.flatMap id)
 len : rws.length = k
 ok : ∀ (i : Nat) (x : Int) (r : List Value), xs[i]? = some x → rws[i]? = some r → ObIs w0 d l x r
 sep : ∀ x y, a = some x → oa = some y → x.block ≠ y.block
 lo : w.heap.size ≤ rb ∧ w.heap.size ≤ B
section
variable {w0 w : World} {d : Nat} {l : List Ob} {rb B R0 : Nat} {xs : List Int} {a : Option Addr} {c : Nat} {D : DataW Unit} {k : Nat} {oa : Option Addr} {oc : Nat} {rws : List (List Value)} {W W' : World}
theorem ClosI.pure (h : ClosI w0 w d l rb B R0 xs a c D k oa oc rws W) (hP : Pure W W') : ClosI w0 w d l rb B R0 xs a c D k oa oc rws W' :=
 ⟨h.base.pure hP, h.row.pure hP, own_ext h.out hP (fun _ _ => id), h.len, h.ok, h.sep, h.lo⟩
theorem ClosI.old (h : ClosI w0 w d l rb B R0 xs a c D k oa oc rws W) : ∀ b, b < w.heap.size → ¬ RowS rb B a b := by
 intro b hb e
 have h1 := h.lo
 have h2 := h.row.lo
 rcases e with e | e | ⟨x, hx, e⟩
 ·omega
 ·omega
 ·have := (h.row.row.lt x.block (by rw [hx]; rfl)).1
  omega
theorem ClosI.keep (h : ClosI w0 w d l rb B R0 xs a c D k oa oc rws W) {b : Nat} (h0 : b < R0) (h1 : b ≠ rb) (h2 : b ≠ B) : ¬ RowS rb B a b := by
 intro e
 rcases e with e | e | ⟨x, hx, e⟩
 ·omega
 ·omega
 ·have := (h.row.row.lt x.block (by rw [hx]; rfl)).1
  omega
theorem ClosI.put {zs ys : List Int} (h : ClosI w0 w d l rb B R0 xs a c D k oa oc rws W) (hz : zs = onP xs ys) (hk : k ≤ xs.length) {e : Ending} (hp : PutTo rb B R0 zs a W e W') : ∃ a' c' D', ClosI w0 w d l rb B R0 zs a' c' D' k oa oc rws W' := by
 obtain ⟨rfl, a', c', D', hI, hE, hf⟩ := hp
 subst hz
 have hlt := h.row.lo
 refine ⟨a', c', D', h.base.trans hE (fun b hb e => h.old b hb e), hI, own_ext h.out hE (fun g hg e => ?_), h.len, fun i x r hx hr => ?_, fun x y hx hy => ?_, h.lo⟩
 ·obtain ⟨y, hy, hyg⟩ : ∃ y, oa = some y ∧ y.block = g := by
   cases oa with
   | none => cases hg
   | some y => exact ⟨y, rfl, Option.some.inj hg⟩
  have hgl := (h.out.lt g hg).1
  rcases e with e | e | ⟨x, hx, e⟩
  ·omega
  ·omega
  ·exact h.sep x y hx hy (by rw [e, hyg])
 ·have hi : i < xs.length := by
   have := (List.getElem?_eq_some_iff.1 hr).1
   have := h.len
   omega
  rw [onP_get hi] at hx
  exact h.ok i x r hx hr
 ·rcases hf x hx with ⟨u, hu, hub⟩ | hf
  ·rw [← hub]; exact h.sep u y hu hy
  ·have := (h.out.lt y.block (by rw [hy]; rfl)).2
   omega
theorem ClosI.snoc {x : Int} {cs : List Value} {a2 : Option Addr} {c2 : Nat} {W2 : World} (h : ClosI w0 w d l rb B R0 xs a c D k oa oc rws W) (hx : xs[k]? = some x) (hL : ObIs w0 d l x cs)
 (hO2 : W2.ownsRow R0 61 6 (.slice a2 (k + 1) c2) (k + 1) (rws.flatMap id ++ cs)) (hg : W.grownBy W2 (Value.slice oa k oc).ownBlock) (hf : ∀ y, a2 = some y → (Value.slice oa k oc).ownBlock = some y.block ∨ W.heap.size ≤ y.block) :
 ClosI w0 w d l rb B R0 xs a c D (k + 1) a2 c2 (rws ++ [cs]) W2 := by
 have hE := ext_of_grown hg
 have hlo := h.row.lo
 have hS : ∀ b, (Value.slice oa k oc).ownBlock = some b → ¬ RowS rb B a b := fun b hb e => by
  obtain ⟨y, hy, hyg⟩ : ∃ y, oa = some y ∧ y.block = b := by
   cases oa with
   | none => cases hb
   | some y => exact ⟨y, rfl, Option.some.inj hb⟩
  have hgl := (h.out.lt b hb).1
  rcases e with e | e | ⟨x, hx, e⟩
  ·omega
  ·omega
  ·exact h.sep x y hx hy (by rw [e, hyg])
 have e : (rws ++ [cs]).flatMap id = rws.flatMap id ++ cs := by rw [List.flatMap_append]; simp
 refine ⟨h.base.trans hE (fun b hb e => by have := (h.out.lt b e).1; have := h.lo; omega), h.row.ext hE hS, by rw [e]; exact hO2, by rw [List.length_append, h.len]; rfl, fun i y r hy hr => ?_, fun u y hu hy => ?_, h.lo⟩
 ·by_cases hi : i < k
  ·rw [List.getElem?_append_left (by rw [h.len]; exact hi)] at hr
   exact h.ok i y r hy hr
  ·have hi2 : i = k := by
    have := (List.getElem?_eq_some_iff.1 hr).1
    rw [List.length_append, List.length_singleton, h.len] at this
    omega
   subst hi2
   rw [List.getElem?_append_right (by rw [h.len]; exact Nat.le_refl _), h.len, Nat.sub_self] at hr
   cases hr
   rw [hx] at hy
   cases hy
   exact hL
 ·rcases hf y hy with hf | hf
  ·intro e2
   exact hS _ hf (Or.inr (Or.inr ⟨u, hu, e2⟩))
  ·have := (h.row.row.lt u.block (by rw [hu]; rfl)).2
   omega
end
theorem results_tmp4 {fn : Func} {t u v x : Tmp} (h : fn.results = #[.tmp t, .tmp u, .tmp v, .tmp x]) (tmps : Array Value) (P : Program) (w : World) :
 (results fn tmps).run P w = .ok (.tuple #[tmps.getD t undef, tmps.getD u undef, tmps.getD v undef, tmps.getD x undef]) w := by
 simp [results, h]
def sliceLen : Value → Nat
 | .slice _ n _ => n
 | _ => 0
def Lim (n : Int) (xs : List Int) : Prop := xs.Nodup ∧ ∀ x ∈ xs, x = n ∨ (1 ≤ x ∧ x ≤ 4096)
theorem nodup_sub {α : Type} [DecidableEq α] : ∀ {xs ys : List α}, xs.Nodup → (∀ x ∈ xs, x ∈ ys) → xs.length ≤ ys.length
 | [], _, _, _ => Nat.zero_le _
 | x :: xs, ys, h, hs => by
   rw [List.nodup_cons] at h
   have hx := hs x List.mem_cons_self
   have := nodup_sub (xs := xs) (ys := ys.erase x) h.2 (fun y hy => (List.mem_erase_of_ne (fun e => by subst e; exact h.1 hy)).2 (hs y (List.mem_cons_of_mem _ hy)))
   rw [List.length_erase_of_mem hx] at this
   have hp := List.length_pos_of_mem hx
   rw [List.length_cons]
   omega
theorem Lim.len {n : Int} {xs : List Int} (h : Lim n xs) : xs.length ≤ 4097 := by
 have := nodup_sub (ys := n :: (List.range 4096).map (fun i : Nat => (i : Int) + 1)) h.1 (fun x hx => by
  rcases h.2 x hx with e | e
  ·rw [e]; exact List.mem_cons_self
  ·refine List.mem_cons_of_mem _ (List.mem_map.2 ⟨(x - 1).toNat, List.mem_range.2 (by omega), by omega⟩))
 rw [List.length_cons, List.length_map, List.length_range] at this
 exact this
theorem Lim.on {n : Int} {xs ys : List Int} (h : Lim n xs) (hy : ∀ y ∈ ys, 1 ≤ y ∧ y ≤ 4096) : Lim n (onP xs ys) :=
 ⟨onP_nodup h.1, fun x hx => (onP_mem.1 hx).elim (h.2 x) (fun e => Or.inr (hy x e))⟩
theorem nextR_in {v : V} : ∀ y ∈ nextR v, 1 ≤ y ∧ y ≤ 4096 := fun y hy => by
 unfold nextR at hy
 exact of_decide_eq_true (List.mem_filter.1 hy).2
theorem firstR_in {v g : V} : ∀ y ∈ firstR v g, 1 ≤ y ∧ y ≤ 4096 := fun y hy => by
 rcases onP_mem.1 hy with h | h
 ·rcases onP_mem.1 h with h | h
  ·cases h
  ·exact nextR_in y h
 ·exact nextR_in y h
theorem in_wf {y : Int} (h : 1 ≤ y ∧ y ≤ 4096) : (Lit.int .i64 y).wf = true := by
 unfold Lit.wf
 simp [IntKind.min, IntKind.max, IntKind.bits, IntKind.signed]
 omega
theorem firstR_len (v g : V) : (firstR v g).length ≤ v.size + g.size := by
 have h1 := onP_len (onP [] (nextR (v.dropped "Parent".toUTF8))) (nextR g)
 have h2 := onP_len [] (nextR (v.dropped "Parent".toUTF8))
 have h3 := nextR_len (v.dropped "Parent".toUTF8)
 have h4 := dropped_size v "Parent".toUTF8
 have h5 := nextR_len g
 rw [List.length_nil] at h2
 unfold firstR
 omega
theorem closR_go {l : List Ob} {g : V} {f : Nat} {xs : List Int} {k : Nat} (hf : 0 < f) (hk : k < xs.length) : closR l g f xs k = closR l g (f - 1) (onP xs (if k = 0 then firstR (obAt l xs[k]).v g else nextR (obAt l xs[k]).v)) (k + 1) := by
 obtain ⟨e, rfl⟩ : ∃ e, f = e + 1 := ⟨f - 1, by omega⟩
 rw [closR, if_pos hk, List.getD_eq_getElem?_getD, List.getElem?_eq_getElem hk]
 rfl
theorem closR_end (l : List Ob) (g : V) (f : Nat) (xs : List Int) : closR l g f xs xs.length = xs := by
 cases f with
 | zero => rfl
 | succ f => rw [closR, if_neg (Nat.lt_irrefl _)]
def ClosTo (w0 : World) (d : Nat) (l : List Ob) (xs : List Int) (w : World) (e : Ending) (w' : World) : Prop :=
 ∃ (a : Option Addr) (c : Nat) (oa : Option Addr) (oc : Nat) (rws : List (List Value)), e = .returned (.tuple #[.slice a xs.length c, .slice oa xs.length oc, .int .i64 0, .int .i64 0]) ∧ w'.ownsRow w.heap.size 3 1 (.slice a xs.length c) xs.length (intsV xs) ∧ w'.ownsRow w.heap.size 61 6 (.slice oa xs.length oc) xs.length (rws.flatMap id) ∧ rws.length = xs.length ∧ (∀ (i : Nat) (x : Int) (r : List Value), xs[i]? = some x → rws[i]? = some r → ObIs w0 d l x r) ∧ Pure w w'
set_option maxHeartbeats 4000000 in
theorem closure_any (d e0 : Nat) (l : List Ob) (oa : Option Addr) (oc : Nat) (root : Int) (rows : List (List Value)) (fb db : Nat) (n : Int) (pa : Option Addr) (pm pc : Nat) (g : V) (gcs : List Value) (w0 w : World) (hP0 : Pure w0 w) (hOK : OKids w0 (d + 1) l oa rows) (hol : l.length ≤ 1000000)
 (hF : FileAt w fb db oa l.length oc root) (hg : Lies w (e0 + 1) g gcs) (hgz : g.size ≤ 100000) (hgw : g.wf) (hz : ∀ i, (obAt l i).v.size ≤ 100000) (hw : ∀ i, (obAt l i).v.wf) (hn : (Lit.int .i64 n).wf = true) :
 Calls Tryz.prog 40 #[.pointer (some ⟨fb, 0, none⟩), .agg (Value.int .i64 n :: Value.slice pa pm pc :: gcs).toArray] w (ClosTo w0 d l (closP l n g) w) := by
 have hmm := @run_makeMap Tryz.prog
 obtain ⟨ga, gc, grows, hgc, _⟩ := hg.kids
 have HG := qh (fun i W (hP : Pure w W) => fget_any d l oa oc root rows fb db i w0 W (hP0.pure hP) hOK hol (hF.ext hP id id))
 have HFst := qh (fun i cs W (hP : Pure w W) (hL : Lies w0 (d + 1) (obAt l i).v cs) => firstr_any d e0 (obAt l i).v cs g gcs W (hL.pure (hP0.pure hP)) (hg.pure hP) (hz i) (hw i) hgz hgw)
 have HNx := qh (fun i cs W (hP : Pure w W) (hL : Lies w0 (d + 1) (obAt l i).v cs) => next_any d (obAt l i).v cs W (hL.pure (hP0.pure hP)) (hz i) (hw i))
 have HZ := qh hz
 have HGz := qh hgz
 obtain ⟨lcs, hlcs⟩ : ∃ z, z = [Value.int .i64 n, .slice pa pm pc, .int .i64 g.kind, .int .i64 g.n, .string g.s, .slice ga g.l.length gc] := ⟨_, rfl⟩
 obtain ⟨w1, hw1⟩ : ∃ z, z = w.alloc (.cells lcs.toArray 92) := ⟨_, rfl⟩
 obtain ⟨w2, hw2⟩ : ∃ z, z = w1.alloc (.map #[] 0) := ⟨_, rfl⟩
 obtain ⟨w3, hw3⟩ : ∃ z, z = w2.alloc (.cells #[.slice none 0 0, .map (some (w.heap.size + 1))] 142) := ⟨_, rfl⟩
 obtain ⟨w4, hw4⟩ : ∃ z, z = w3.alloc (.cells #[.int .i64 n] 3) := ⟨_, rfl⟩
 obtain ⟨tb, htb⟩ : ∃ z, z = w.heap.size := ⟨_, rfl⟩
 have hs1 : w1.heap.size = tb + 1 := by rw [hw1, World.size_alloc, htb]
 have hs2 : w2.heap.size = tb + 1 + 1 := by rw [hw2, World.size_alloc, hs1]
 have hs3 : w3.heap.size = tb + 1 + 1 + 1 := by rw [hw3, World.size_alloc, hs2]
 have hs4 : w4.heap.size = tb + 1 + 1 + 1 + 1 := by rw [hw4, World.size_alloc, hs3]
 have hP1 : Pure w w1 := hw1 ▸ ext_alloc w _
 have hP2 : Pure w1 w2 := hw2 ▸ ext_alloc w1 _
 have hP3 : Pure w2 w3 := hw3 ▸ ext_alloc w2 _
 have hP4 : Pure w3 w4 := hw4 ▸ ext_alloc w3 _
 have hBl : BlockIs w4 tb lcs 92 := (((show BlockIs w1 tb lcs 92 by rw [hw1, htb]; exact BlockIs.new w _ _).ext hP2 id).ext hP3 id).ext hP4 id
 have hO2 : w2.ownsMap Tryz.prog 3 (plainElem (H := Unit) Tryz.prog 3) (tb + 1) 0 (.map []) := by rw [← hs1, hw2]; exact World.ownsMap_made _ _ _ _
 have hBr : BlockIs w4 (tb + 1 + 1) [.slice none 0 0, .map (some (tb + 1))] 142 := (show BlockIs w3 (tb + 1 + 1) [.slice none 0 0, .map (some (tb + 1))] 142 by rw [hw3, ← hs2, htb]; exact BlockIs.new w2 [.slice none 0 0, .map (some (w.heap.size + 1))] _).ext hP4 id
 have hBn : BlockIs w4 (tb + 1 + 1 + 1) [.int .i64 n] 3 := by rw [← hs3, hw4]; exact BlockIs.new w3 [.int .i64 n] _
 have hPz : Pure w w4 := ((hP1.pure hP2).pure hP3).pure hP4
 have HP := qh hPz
 have hRI := row_empty (R0 := tb + 1 + 1 + 1 + 1) hBr (own_map_ext (own_map_ext hO2 hP3 id) hP4 id) (by omega) ⟨by omega, by omega, by omega⟩
 have HI0 : Hid (ClosI w0 w d l (tb + 1 + 1) (tb + 1) (tb + 1 + 1 + 1 + 1) [] none 0 (.map []) 0 none 0 [] w4) := qh ⟨hPz, hRI, World.ownsRow_nil _ _ _ _, rfl, fun i x r h => by simp at h, fun x y h => by simp at h, by omega, by omega⟩
 have hput := rowput_any hRI [n] (some ⟨tb + 1 + 1 + 1, 0, none⟩) 1 (fun i u hu => ⟨tb + 1 + 1 + 1, 0, rfl, by rw [Nat.zero_add, hBn.cell]; exact hu⟩) (fun x hx hs => by
  cases hx
  rcases hs with e | e | ⟨y, hy, _⟩
  ·simp only at e; omega
  ·simp only at e; omega
  ·cases hy) (fun y hy => by rw [List.mem_singleton] at hy; rw [hy]; exact hn) (by simp)
 have HPut : Hid (Calls Tryz.prog 78 #[.pointer (some ⟨tb + 1 + 1, 0, none⟩), .slice (some ⟨tb + 1 + 1 + 1, 0, none⟩) 1 1] w4 (PutTo (tb + 1 + 1) (tb + 1) (tb + 1 + 1 + 1 + 1) (onP [] [n]) none w4)) := qh hput
 have HBl := qh hBl
 rw [hlcs] at hw1 HBl
 have HW : Hid ((((w.alloc (.cells #[Value.int .i64 n, .slice pa pm pc, .int .i64 g.kind, .int .i64 g.n, .string g.s, .slice ga g.l.length gc] 92)).alloc (.map #[] 0)).alloc (.cells #[.slice none 0 0, .map (some (w.heap.size + 1))] 142)).alloc (.cells #[.int .i64 n] 3) = w4) := qh (by rw [hw4, hw3, hw2, hw1])
 have HTb := qh htb
 rw [hgc] at HFst ⊢
 obtain ⟨FS, hFS⟩ : ∃ F : Int → List Int, F = fun i => firstR (obAt l i).v g := ⟨_, rfl⟩
 clear hw1 hw2 hw3 hw4 htb hs1 hs2 hs3 hs4 hP1 hP2 hP3 hP4 hBl hO2 hBr hBn hPz hRI hput hlcs hP0 hOK hF hg hgz hgw hz hw hn hgc
 unfold ObW at HG
 unfold NumsOwn at HFst HNx
 go_enter Tryz.func40, Tryz.ntmps40
 go_wp2_with fail
 rw [HW.out, ← HTb.out]
 refine HPut.out.mono ?_
 rintro e W5 hp5
 obtain rfl := hp5.1
 have h5 := HI0.out.put rfl (Nat.zero_le _) hp5
 rw [show onP [] [n] = [n] by simp [onP]] at h5
 obtain ⟨a5, c5, D5, hI5⟩ := h5
 have HBl5 := qh (HBl.out.ext hp5.2.choose_spec.choose_spec.choose_spec.2.1 (HI0.out.keep (by omega) (by omega) (by omega)))
 have HI5 := qh hI5
 clear hI5 hp5 HPut HI0 HW HBl
 go_wp2_with fail
 go_loopw [9] (fun o wr => ∃ (k : Nat) (xs : List Int) (a : Option Addr) (c : Nat) (D : DataW Unit) (oa : Option Addr) (oc : Nat) (rws : List (List Value)), k ≤ xs.length ∧ o = .slice oa k oc ∧ Hid (closP l n g = closR l g (5000 - k) xs k) ∧ Hid (Lim n xs) ∧ Hid (BlockIs wr tb [Value.int .i64 n, .slice pa pm pc, .int .i64 g.kind, .int .i64 g.n, .string g.s, .slice ga g.l.length gc] 92) ∧ Hid (ClosI w0 w d l (tb + 1 + 1) (tb + 1) (tb + 1 + 1 + 1 + 1) xs a c D k oa oc rws wr)) (fun o _ => 5000 - sliceLen o)
 case atStart => exact ⟨0, [n], a5, c5, D5, none, 0, [], Nat.zero_le _, rfl, qh rfl, qh ⟨by simp, fun x hx => Or.inl (List.mem_singleton.1 hx)⟩, HBl5, HI5⟩
 case round =>
  obtain ⟨k, xs, a, c, D, oa, oc, rws, hk, rfl, HC, HL, HBx, HI⟩ := hrel
  have hm := HL.out.len
  obtain ⟨m, hm2⟩ : ∃ z, z = xs.length := ⟨_, rfl⟩
  rw [← hm2] at hm hk
  have HM := qh hm2
  have r0 : wr.cell? ⟨tb + 1 + 1, 0, none⟩ = some (.slice a m c) := by rw [hm2]; exact HI.out.row.blk.cell 0
  clear hm2
  by_cases hlt : k < m
  ·have hki : (k : Int) < (m : Int) := by omega
   have hk0 : (0 : Int) ≤ (k : Int) := by omega
   have hkx : k < xs.length := by rw [← HM.out]; exact hlt
   obtain ⟨yb, yo, rfl, hyc⟩ := (own_row HI.out.row.row) k _ (intsV_get hkx)
   have HGo : Hid (closP l n g = closR l g (5000 - (k + 1)) (onP xs (if k = 0 then firstR (obAt l xs[k]).v g else nextR (obAt l xs[k]).v)) (k + 1)) := qh (by rw [HC.out, closR_go (by omega) hkx, Nat.sub_sub])
   have HXk : Hid (xs[k]? = some xs[k]) := qh (List.getElem?_eq_getElem hkx)
   obtain ⟨x, hx⟩ : ∃ z, z = xs[k] := ⟨_, rfl⟩
   rw [← hx] at hyc HGo HXk
   clear hx hkx HC
   go_wp2_with fail
   refine (HG.out x wr HI.out.base).mono ?_
   rintro e W1 ⟨cs, rfl, hL, hP1⟩
   have HI1 := qh (HI.out.pure hP1)
   have hB1 := HBx.out.ext hP1 id
   obtain ⟨va, vc, vrows, hvc, _⟩ := hL.kids
   have HOb : Hid (ObIs w0 d l x (cs ++ [.bool (obAt l x).st, .string (obAt l x).data])) := qh ⟨cs, rfl, hL⟩
   have HLv := qh hL
   have HF1 := qh (fun W hP => HFst.out x cs W hP hL)
   have HN1 := qh (fun W hP => HNx.out x cs W hP hL)
   have HZx := qh (HZ.out x)
   rw [hvc] at HOb HLv HF1 HN1 ⊢
   clear hL hvc hP1
   have HLf := qh (firstR_len (obAt l x).v g)
   have HLn := qh (nextR_len (obAt l x).v)
   generalize (obAt l x).v.l.length = vm at *
   generalize (obAt l x).v.kind = vk at *
   generalize (obAt l x).v.n = vn at *
   generalize (obAt l x).v.s = vs at *
   generalize (obAt l x).st = st at *
   generalize (obAt l x).data = dt at *
   have hbw : tb < W1.heap.size := by have := HI1.out.row.lo.1; have := HI1.out.row.rs; omega
   have y2 : W1.cell? ⟨tb, 2, none⟩ = some (.int .i64 g.kind) := hB1.cell 2
   have y3 : W1.cell? ⟨tb, 3, none⟩ = some (.int .i64 g.n) := hB1.cell 3
   have y4 : W1.cell? ⟨tb, 4, none⟩ = some (.string g.s) := hB1.cell 4
   have y5 : W1.cell? ⟨tb, 5, none⟩ = some (.slice ga g.l.length gc) := hB1.cell 5
   obtain ⟨W2, hW2⟩ : ∃ z, z = W1.alloc (.cells #[.int .i64 vk, .int .i64 vn, .string vs, .slice va vm vc, .bool st, .string dt] 61) := ⟨_, rfl⟩
   have hP2 : Pure W1 W2 := by rw [hW2]; exact ext_alloc W1 _
   have HI2 := qh (HI1.out.pure hP2)
   have HB2 := qh (hB1.ext hP2 id)
   have HBo : Hid (BlockIs W2 W1.heap.size [.int .i64 vk, .int .i64 vn, .string vs, .slice va vm vc, .bool st, .string dt] 61) := qh (by rw [hW2]; exact BlockIs.new W1 [.int .i64 vk, .int .i64 vn, .string vs, .slice va vm vc, .bool st, .string dt] _)
   have HW2 := qh hW2.symm
   have HYl : Hid (yb < W2.heap.size) := qh (HI2.out.row.row.lt yb rfl).2
   have HYg : Hid (yb < W1.heap.size) := qh (HI1.out.row.row.lt yb rfl).2
   have HR1 := qh HI1.out.row.rs
   have HS2 : Hid (W2.heap.size = W1.heap.size + 1) := qh (by rw [hW2, World.size_alloc])
   clear hW2 hP2 hB1 HI1 HI HBx
   by_cases hk1 : k = 0
   ·subst hk1
    rw [if_pos rfl] at HGo
    go_wp2_with fail
    rw [HW2.out]
    refine (HF1.out W2 HI2.out.base).mono ?_
    rintro e W3 ⟨la, lc, rfl, hO3, hP3⟩
    have HI3 := qh (HI2.out.pure hP3)
    have HB3 := HB2.out.ext hP3 id
    have HBo3 := HBo.out.ext hP3 id
    have hyl := HYl.out
    have hr0 := HR1.out
    have hs2 := HS2.out
    have hrl := HI2.out.row.lo
    have hput := rowput_any HI3.out.row (firstR (obAt l x).v g) la lc (own_row hO3) (fun u hu hs => by
     have h1 := (hO3.lt u.block (by rw [hu]; rfl)).1
     rcases hs with e | e | ⟨y, hy, e⟩
     ·omega
     ·omega
     ·cases hy
      simp only at e
      omega) (fun y hy => in_wf (firstR_in y hy)) (by
     have h1 := HZx.out
     have h2 := HGz.out
     have h3 := HLf.out
     have h4 := HL.out.len
     omega)
    have HPut := qh hput
    have HSt := qh (show ∀ b, b = tb ∨ b = W1.heap.size → ¬ RowS (tb + 1 + 1) (tb + 1) (some ⟨yb, yo, none⟩) b from fun b hb hs => by
     have h1 := HYg.out
     have h2 := (HI2.out.row.row.lt yb rfl).1
     have h3 := HR1.out
     rcases hb with hb | hb <;> rcases hs with e | e | ⟨y, hy, e⟩
     ·omega
     ·omega
     ·cases hy
      simp only at e
      omega
     ·omega
     ·omega
     ·cases hy
      simp only at e
      omega)
    obtain ⟨fm, hfm⟩ : ∃ z, z = (firstR (obAt l x).v g).length := ⟨_, rfl⟩
    rw [← hfm] at HPut ⊢
    have HB3 := qh HB3
    have HBo3 := qh HBo3
    clear hO3 hP3 hput hfm hyl hr0 hs2 hrl y2 y3 y4 y5 HF1 HN1 hyc r0
    go_wp2_with fail
    refine HPut.out.mono ?_
    rintro e W4 hp
    obtain rfl := hp.1
    obtain ⟨a4, c4, D4, hI4⟩ := HI3.out.put rfl (by have := HM.out; omega) hp
    have hE4 := hp.2.choose_spec.choose_spec.choose_spec.2.1
    have HI4 := qh hI4
    have hB4 := HB3.out.ext hE4 (HSt.out _ (Or.inl rfl))
    have hBo4 := HBo3.out.ext hE4 (HSt.out _ (Or.inr rfl))
    have hbw4 : W1.heap.size < W4.heap.size := by have h1 := HS2.out; have h2 := HI3.out.row.rs; have := hE4.size; have h4 : W1.heap.size < W3.heap.size := World.block_lt_of_cell? W3 _ (show W3.cell? ⟨W1.heap.size, 0, none⟩ = some (.int .i64 vk) from HBo3.out.cell 0); omega
    have z0 : W4.cell? ⟨W1.heap.size, 0, none⟩ = some (.int .i64 vk) := hBo4.cell 0
    have z1 : W4.cell? ⟨W1.heap.size, 1, none⟩ = some (.int .i64 vn) := hBo4.cell 1
    have z2 : W4.cell? ⟨W1.heap.size, 2, none⟩ = some (.string vs) := hBo4.cell 2
    have z3 : W4.cell? ⟨W1.heap.size, 3, none⟩ = some (.slice va vm vc) := hBo4.cell 3
    have z4 : W4.cell? ⟨W1.heap.size, 4, none⟩ = some (.bool st) := hBo4.cell 4
    have z5 : W4.cell? ⟨W1.heap.size, 5, none⟩ = some (.string dt) := hBo4.cell 5
    obtain ⟨W5, hW5⟩ : ∃ z, z = W4.alloc (.cells #[.int .i64 vk, .int .i64 vn, .string vs, .slice va vm vc, .bool st, .string dt] 61) := ⟨_, rfl⟩
    have hP5 : Pure W4 W5 := by rw [hW5]; exact ext_alloc W4 _
    have HI5 := qh (HI4.out.pure hP5)
    have HB5 := qh (hB4.ext hP5 id)
    have HRw : Hid (RowOf W5 (some ⟨W4.heap.size, 0, none⟩) [.int .i64 vk, .int .i64 vn, .string vs, .slice va vm vc, .bool st, .string dt]) := qh (fun i u hu => ⟨W4.heap.size, 0, rfl, by rw [hW5, (BlockIs.new W4 [.int .i64 vk, .int .i64 vn, .string vs, .slice va vm vc, .bool st, .string dt] 61).cell, Nat.zero_add]; exact hu⟩)
    have HO5 := qh HI5.out.out
    have HOne : Hid (∀ u ∈ ([.int .i64 vk, .int .i64 vn, .string vs, .slice va vm vc, .bool st, .string dt] : List Value), u.oneCell' = true) := qh (by intro u hu; simp only [List.mem_cons, List.not_mem_nil, or_false] at hu; rcases hu with rfl | rfl | rfl | rfl | rfl | rfl <;> rfl)
    have HB1 : Hid ((0 + 1) * 80 ≤ 140737488355328) := qh (by omega)
    have HB2 : Hid (0 + 1 ≤ maxLen) := qh (by unfold maxLen; omega)
    have HRs := qh HI5.out.row.rs
    have HW5 := qh hW5.symm
    clear hW5 hP5 hB4 hBo4 hE4 hI4 hp HI3 HI2
    go_wp2_with (at_builtin; rw [HW5.out]; refine wpList_append_fresh rfl (.tmp 62) (.tmp 64) 22 rfl (tb + 1 + 1 + 1 + 1) 61 (.agg #[.int .i64 0, .int .i64 0, .string ⟨#[]⟩, .slice none 0 0, .bool false, .string ⟨#[]⟩]) 6 80 Tryz.underlying22 infoOb rfl (by decide) (.slice oa 0 oc) 0 (rws.flatMap id) rfl HO5.out (some ⟨W4.heap.size, 0, none⟩) 1 1 [.int .i64 vk, .int .i64 vn, .string vs, .slice va vm vc, .bool st, .string dt] rfl (fun e => by cases e) rfl HRw.out HOne.out (0 + 1) rfl (rws.flatMap id ++ [.int .i64 vk, .int .i64 vn, .string vs, .slice va vm vc, .bool st, .string dt]) rfl HB1.out HB2.out HRs.out ?_; intro a6 c6 W6 hO6 hg6 hf6)
    have HNew := qh (HI5.out.snoc (show (onP xs (firstR (obAt l x).v g))[0]? = some x by rw [onP_get (by have := HM.out; omega)]; exact HXk.out) HOb.out hO6 hg6 hf6)
    have HB6 := qh (HB5.out.ext (ext_of_grown hg6) (fun e => by have := (HI5.out.out.lt tb e).1; omega))
    clear hO6 hg6 hf6
    go_wp2_with fail
    go_roundw
    case rel => exact ⟨0 + 1, onP xs (firstR (obAt l x).v g), a4, c4, D4, a6, c6, _, by have := onP_len_ge xs (firstR (obAt l x).v g); have := HM.out; omega, rfl, HGo, qh (HL.out.on firstR_in), HB6, HNew⟩
    case measure => (simp [sliceLen]) <;> omega
   ·rw [if_neg hk1] at HGo
    have hkb : ((k : Int) == 0) = false := by simp; omega
    go_wp2_with fail
    rw [HW2.out]
    refine (HN1.out W2 HI2.out.base).mono ?_
    rintro e W3 ⟨la, lc, rfl, hO3, hP3⟩
    have HI3 := qh (HI2.out.pure hP3)
    have HB3 := HB2.out.ext hP3 id
    have HBo3 := HBo.out.ext hP3 id
    have hyl := HYl.out
    have hr0 := HR1.out
    have hs2 := HS2.out
    have hrl := HI2.out.row.lo
    have hput := rowput_any HI3.out.row (nextR (obAt l x).v) la lc (own_row hO3) (fun u hu hs => by
     have h1 := (hO3.lt u.block (by rw [hu]; rfl)).1
     rcases hs with e | e | ⟨y, hy, e⟩
     ·omega
     ·omega
     ·cases hy
      simp only at e
      omega) (fun y hy => in_wf (nextR_in y hy)) (by
     have h1 := HZx.out
     have h2 := HGz.out
     have h3 := HLn.out
     have h4 := HL.out.len
     omega)
    have HPut := qh hput
    have HSt := qh (show ∀ b, b = tb ∨ b = W1.heap.size → ¬ RowS (tb + 1 + 1) (tb + 1) (some ⟨yb, yo, none⟩) b from fun b hb hs => by
     have h1 := HYg.out
     have h2 := (HI2.out.row.row.lt yb rfl).1
     have h3 := HR1.out
     rcases hb with hb | hb <;> rcases hs with e | e | ⟨y, hy, e⟩
     ·omega
     ·omega
     ·cases hy
      simp only at e
      omega
     ·omega
     ·omega
     ·cases hy
      simp only at e
      omega)
    obtain ⟨fm, hfm⟩ : ∃ z, z = (nextR (obAt l x).v).length := ⟨_, rfl⟩
    rw [← hfm] at HPut ⊢
    have HB3 := qh HB3
    have HBo3 := qh HBo3
    clear hO3 hP3 hput hfm hyl hr0 hs2 hrl y2 y3 y4 y5 HF1 HN1 hyc r0
    go_wp2_with fail
    refine HPut.out.mono ?_
    rintro e W4 hp
    obtain rfl := hp.1
    obtain ⟨a4, c4, D4, hI4⟩ := HI3.out.put rfl (by have := HM.out; omega) hp
    have hE4 := hp.2.choose_spec.choose_spec.choose_spec.2.1
    have HI4 := qh hI4
    have hB4 := HB3.out.ext hE4 (HSt.out _ (Or.inl rfl))
    have hBo4 := HBo3.out.ext hE4 (HSt.out _ (Or.inr rfl))
    have hbw4 : W1.heap.size < W4.heap.size := by have h1 := HS2.out; have h2 := HI3.out.row.rs; have := hE4.size; have h4 : W1.heap.size < W3.heap.size := World.block_lt_of_cell? W3 _ (show W3.cell? ⟨W1.heap.size, 0, none⟩ = some (.int .i64 vk) from HBo3.out.cell 0); omega
    have z0 : W4.cell? ⟨W1.heap.size, 0, none⟩ = some (.int .i64 vk) := hBo4.cell 0
    have z1 : W4.cell? ⟨W1.heap.size, 1, none⟩ = some (.int .i64 vn) := hBo4.cell 1
    have z2 : W4.cell? ⟨W1.heap.size, 2, none⟩ = some (.string vs) := hBo4.cell 2
    have z3 : W4.cell? ⟨W1.heap.size, 3, none⟩ = some (.slice va vm vc) := hBo4.cell 3
    have z4 : W4.cell? ⟨W1.heap.size, 4, none⟩ = some (.bool st) := hBo4.cell 4
    have z5 : W4.cell? ⟨W1.heap.size, 5, none⟩ = some (.string dt) := hBo4.cell 5
    obtain ⟨W5, hW5⟩ : ∃ z, z = W4.alloc (.cells #[.int .i64 vk, .int .i64 vn, .string vs, .slice va vm vc, .bool st, .string dt] 61) := ⟨_, rfl⟩
    have hP5 : Pure W4 W5 := by rw [hW5]; exact ext_alloc W4 _
    have HI5 := qh (HI4.out.pure hP5)
    have HB5 := qh (hB4.ext hP5 id)
    have HRw : Hid (RowOf W5 (some ⟨W4.heap.size, 0, none⟩) [.int .i64 vk, .int .i64 vn, .string vs, .slice va vm vc, .bool st, .string dt]) := qh (fun i u hu => ⟨W4.heap.size, 0, rfl, by rw [hW5, (BlockIs.new W4 [.int .i64 vk, .int .i64 vn, .string vs, .slice va vm vc, .bool st, .string dt] 61).cell, Nat.zero_add]; exact hu⟩)
    have HO5 := qh HI5.out.out
    have HOne : Hid (∀ u ∈ ([.int .i64 vk, .int .i64 vn, .string vs, .slice va vm vc, .bool st, .string dt] : List Value), u.oneCell' = true) := qh (by intro u hu; simp only [List.mem_cons, List.not_mem_nil, or_false] at hu; rcases hu with rfl | rfl | rfl | rfl | rfl | rfl <;> rfl)
    have HB1 : Hid ((k + 1) * 80 ≤ 140737488355328) := qh (by omega)
    have HB2 : Hid (k + 1 ≤ maxLen) := qh (by unfold maxLen; omega)
    have HRs := qh HI5.out.row.rs
    have HW5 := qh hW5.symm
    clear hW5 hP5 hB4 hBo4 hE4 hI4 hp HI3 HI2
    go_wp2_with (at_builtin; rw [HW5.out]; refine wpList_append_fresh rfl (.tmp 62) (.tmp 64) 22 rfl (tb + 1 + 1 + 1 + 1) 61 (.agg #[.int .i64 0, .int .i64 0, .string ⟨#[]⟩, .slice none 0 0, .bool false, .string ⟨#[]⟩]) 6 80 Tryz.underlying22 infoOb rfl (by decide) (.slice oa k oc) k (rws.flatMap id) rfl HO5.out (some ⟨W4.heap.size, 0, none⟩) 1 1 [.int .i64 vk, .int .i64 vn, .string vs, .slice va vm vc, .bool st, .string dt] rfl (fun e => by cases e) rfl HRw.out HOne.out (k + 1) rfl (rws.flatMap id ++ [.int .i64 vk, .int .i64 vn, .string vs, .slice va vm vc, .bool st, .string dt]) rfl HB1.out HB2.out HRs.out ?_; intro a6 c6 W6 hO6 hg6 hf6)
    have HNew := qh (HI5.out.snoc (show (onP xs (nextR (obAt l x).v))[k]? = some x by rw [onP_get (by have := HM.out; omega)]; exact HXk.out) HOb.out hO6 hg6 hf6)
    have HB6 := qh (HB5.out.ext (ext_of_grown hg6) (fun e => by have := (HI5.out.out.lt tb e).1; omega))
    clear hO6 hg6 hf6
    go_wp2_with fail
    go_roundw
    case rel => exact ⟨k + 1, onP xs (nextR (obAt l x).v), a4, c4, D4, a6, c6, _, by have := onP_len_ge xs (nextR (obAt l x).v); have := HM.out; omega, rfl, HGo, qh (HL.out.on nextR_in), HB6, HNew⟩
    case measure => (simp [sliceLen]) <;> omega
  ·have hki : ¬ (k : Int) < (m : Int) := by omega
   obtain rfl : k = m := by omega
   have HEnd : Hid (closP l n g = xs) := qh (by rw [HC.out, HM.out, closR_end])
   go_wp2_with fail
   (try simp only [Exit.inBlock, Exit.then])
   refine bodyPost_ret (results_tmp4 rfl _ _ _) rfl ?_
   have hlo := HI.out.lo
   have hrl := HI.out.row.lo
   rw [HEnd.out]
   rw [HM.out]
   refine ⟨a, c, oa, oc, rws, rfl, own_base HI.out.row.row (by omega), ?_, by rw [HI.out.len, HM.out], HI.out.ok, HI.out.base⟩
   rw [← HM.out]
   exact own_base HI.out.out (by omega)
