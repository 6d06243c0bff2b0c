/-
  Walked: the reader that keeps the first error: num (chapter 26).
-/
import Derived.Test.YtdhejhgpjeenaaaRefRow26
import Derived.Test.YtdhejhgpjeenaaaGet
namespace Go.Proofs.Ytdhejhgpjeenaaa.C26
open Go.RowKit Go.Proofs.Ytdhejhgpjeenaaa
set_option linter.unusedVariables false

/-- a reader: how many bits were taken, which error it has -/
abbrev St := Nat × Int
def num1 (bs : List Bool) (s : St) (w : Nat) : Nat × St :=
  if s.2 = 0 then (if s.1 + w ≤ bs.length then (numAt bs s.1 w, (s.1 + w, 0)) else (0, (s.1, 10))) else (0, s)
theorem num1_err {bs : List Bool} {s : St} {w : Nat} (h : s.2 ≠ 0) : num1 bs s w = (0, s) := by unfold num1; rw [if_neg h]
theorem num1_cut {bs : List Bool} {p : Nat} {w : Nat} (h : bs.length < p + w) : num1 bs (p, 0) w = (0, (p, 10)) := by unfold num1; rw [if_pos rfl, if_neg (by simp; omega)]
theorem num1_yes {bs : List Bool} {p : Nat} {w : Nat} (h : p + w ≤ bs.length) : num1 bs (p, 0) w = (numAt bs p w, (p + w, 0)) := by unfold num1; rw [if_pos rfl, if_pos h]
structure RS (W : World) (rr rb : Nat) (l : List UInt8) (s : St) (a : Option Addr) (c : Nat) : Prop where
  blk : BlockIs W rr [.pointer (some ⟨rb, 0, none⟩), .int .i64 s.2] 73
  rd : RdIs W rb true l s.1 a c
  le : s.1 ≤ 8 * l.length
  ne : rr ≠ rb
  ap : ∀ g, a = some g → g.block ≠ rr
/-- what reading writes -/
def RdS (rr rb : Nat) (i : Nat) : Prop := i = rr ∨ i = rb
theorem RS.ext {S : Nat → Prop} {W W' : World} {rr rb : Nat} {l : List UInt8} {s : St} {a : Option Addr} {c : Nat} (h : RS W rr rb l s a c) (e : Ext S W W') (h1 : ¬ S rr) (h2 : ¬ S rb) (h3 : ∀ g, a = some g → ¬ S g.block) : RS W' rr rb l s a c :=
  ⟨h.blk.ext e h1, h.rd.ext e h2 h3, h.le, h.ne, h.ap⟩
theorem RS.pure {W W' : World} {rr rb : Nat} {l : List UInt8} {s : St} {a : Option Addr} {c : Nat} (h : RS W rr rb l s a c) (e : Pure W W') : RS W' rr rb l s a c := h.ext e id id (fun _ _ => id)
theorem RS.setErr {W : World} {rr rb : Nat} {l : List UInt8} {p : Nat} {e0 : Int} {a : Option Addr} {c : Nat} (h : RS W rr rb l (p, e0) a c) (e1 : Int) : RS (W.setCell ⟨rr, 1, none⟩ (.int .i64 e1)) rr rb l (p, e1) a c := by
  have hE : Ext (fun i => i = rr) W (W.setCell ⟨rr, 1, none⟩ (.int .i64 e1)) := (Ext.refl (fun i => i = rr) W).setCell (p := ⟨rr, 1, none⟩) (fun _ => rfl) _
  exact ⟨by simpa using h.blk.set 1 (.int .i64 e1), h.rd.ext hE (fun e => h.ne e.symm) (fun g hg e => h.ap g hg e), h.le, h.ne, h.ap⟩

def NumRes (rr rb : Nat) (l : List UInt8) (s : St) (n : Nat) (a : Option Addr) (c : Nat) (W : World) (e : Ending) (W' : World) : Prop :=
  e = .returned (.int .i64 ((num1 (bitsOf true l) s n).1 : Nat)) ∧ RS W' rr rb l (num1 (bitsOf true l) s n).2 a c ∧ Ext (RdS rr rb) W W'
set_option maxRecDepth 100000 in
theorem num_err (rr rb : Nat) (l : List UInt8) (p : Nat) (er : Int) (a : Option Addr) (c : Nat) (n : Nat) (W : World) (h : RS W rr rb l (p, er) a c) (he : er ≠ 0) :
    Calls Try.prog 58 #[.pointer (some ⟨rr, 0, none⟩), .int .i64 n] W (NumRes rr rb l (p, er) n a c W) := by
  have h1 : W.cell? ⟨rr, 0 + 1, none⟩ = some (.int .i64 er) := h.blk.cell 1
  have he' : (er != 0) = true := by simpa using he
  have HN := Lib.hid (num1_err (bs := bitsOf true l) (s := (p, er)) (w := n) he)
  clear he
  go_enter Try.func58, Try.ntmps58
  go_wp2_with fail
  go_ret
  unfold NumRes
  rw [HN.out]
  exact ⟨rfl, h, Ext.refl _ _⟩
set_option maxRecDepth 100000 in
theorem num_cut (rr rb : Nat) (l : List UInt8) (p : Nat) (a : Option Addr) (c : Nat) (n : Nat) (W : World) (h : RS W rr rb l (p, 0) a c) (hn : n ≤ 32) (hl : l.length ≤ 10000000) (hcut : 8 * l.length < p + n) :
    Calls Try.prog 58 #[.pointer (some ⟨rr, 0, none⟩), .int .i64 n] W (NumRes rr rb l (p, 0) n a c W) := by
  have h0 : W.cell? ⟨rr, 0, none⟩ = some (.pointer (some ⟨rb, 0, none⟩)) := h.blk.cell 0
  have h1 : W.cell? ⟨rr, 0 + 1, none⟩ = some (.int .i64 0) := h.blk.cell 1
  have f1 : W.frozen? ⟨rr, 0 + 1, none⟩ = false := h.blk.free 1
  have HG := Lib.hid (get_no2 rb true l p a c n W h.rd (by omega) h.le hn hcut)
  have HN := Lib.hid (num1_cut (bs := bitsOf true l) (p := p) (w := n) (by rw [bitsOf_length]; exact hcut))
  clear hcut
  go_enter Try.func58, Try.ntmps58
  go_wp2_with fail
  refine HG.out.mono ?_
  rintro e w1 ⟨rfl, q, rfl⟩
  go_wp2_with fail
  go_ret
  unfold NumRes
  rw [HN.out]
  refine ⟨rfl, ?_, ?_⟩
  · have := (h.pure ((Ext.refl (fun _ => False) W).drewN q)).setErr 10
    first | exact this | exact (h.setErr 10).pure ((Ext.refl (fun _ => False) _).drewN q)
  · first | exact ((Ext.refl (RdS rr rb) W).drewN q).setCell (p := ⟨rr, 1, none⟩) (fun _ => Or.inl rfl) _ | exact ((Ext.refl (RdS rr rb) W).setCell (p := ⟨rr, 1, none⟩) (fun _ => Or.inl rfl) _).drewN q
set_option maxRecDepth 100000 in
theorem num_yes (rr rb : Nat) (l : List UInt8) (p : Nat) (a : Option Addr) (c : Nat) (n : Nat) (W : World) (h : RS W rr rb l (p, 0) a c) (hn : n ≤ 32) (hl : l.length ≤ 10000000) (hcut : p + n ≤ 8 * l.length) :
    Calls Try.prog 58 #[.pointer (some ⟨rr, 0, none⟩), .int .i64 n] W (NumRes rr rb l (p, 0) n a c W) := by
  have h0 : W.cell? ⟨rr, 0, none⟩ = some (.pointer (some ⟨rb, 0, none⟩)) := h.blk.cell 0
  have h1 : W.cell? ⟨rr, 0 + 1, none⟩ = some (.int .i64 0) := h.blk.cell 1
  have hv := numAt_lt32 (bitsOf true l) p n hn
  have HG0 := get_yes rb true l p a c n W h.rd (by omega) hn hcut
  obtain ⟨v, hvv⟩ : ∃ v, v = numAt (bitsOf true l) p n := ⟨_, rfl⟩
  rw [show num true (((bitsOf true l).drop p).take n) = v from hvv.symm] at HG0
  have HN0 := num1_yes (bs := bitsOf true l) (p := p) (w := n) (by rw [bitsOf_length]; exact hcut)
  rw [← hvv] at hv HN0
  have HG := Lib.hid HG0
  have HN := Lib.hid HN0
  have HC := Lib.hid hcut
  have hne := h.ne
  have hap := h.ap
  have hblk := h.blk
  clear HG0 HN0 hvv hcut h
  go_enter Try.func58, Try.ntmps58
  go_wp2_with fail
  refine HG.out.mono ?_
  rintro e w1 ⟨rfl, hR, hE⟩
  have hblk1 := hblk.ext hE hne
  have c1 : w1.cell? ⟨rr, 0 + 1, none⟩ = some (.int .i64 0) := hblk1.cell 1
  have f1 : w1.frozen? ⟨rr, 0 + 1, none⟩ = false := hblk1.free 1
  clear HG
  go_wp2_with fail
  go_ret
  unfold NumRes
  rw [HN.out]
  have hRS : RS w1 rr rb l (p + n, 0) a c := ⟨hblk1, hR, HC.out, hne, hap⟩
  exact ⟨rfl, hRS.setErr 0, (hE.mono (T := RdS rr rb) (fun i _ e => Or.inr e)).setCell (p := ⟨rr, 1, none⟩) (fun _ => Or.inl rfl) _⟩
theorem num_any (rr rb : Nat) (l : List UInt8) (s : St) (a : Option Addr) (c : Nat) (n : Nat) (W : World) (h : RS W rr rb l s a c) (hn : n ≤ 32) (hl : l.length ≤ 10000000) :
    Calls Try.prog 58 #[.pointer (some ⟨rr, 0, none⟩), .int .i64 n] W (NumRes rr rb l s n a c W) := by
  obtain ⟨p, er⟩ := s
  by_cases he : er = 0
  · subst he
    by_cases hcut : 8 * l.length < p + n
    · exact num_cut rr rb l p a c n W h hn hl hcut
    · exact num_yes rr rb l p a c n W h hn hl (by omega)
  · exact num_err rr rb l p er a c n W h he
end Go.Proofs.Ytdhejhgpjeenaaa.C26
