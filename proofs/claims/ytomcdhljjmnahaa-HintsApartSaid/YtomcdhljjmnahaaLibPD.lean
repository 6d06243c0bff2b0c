/-
  Walked: are hints alike? (the reference's Same)
  Walked: what the two Decodes tell of a table's bytes; works() returns true, and writes nothing that was there.
  What came in: hints of pages.
-/
import Derived.Test.YtomcdhljjmnahaaLibPA
import Derived.Test.YtomcdhljjmnahaaLibPB
import Derived.Test.YtomcdhljjmnahaaLibPC
import Derived.Test.YtomcdhljjmnahaaLibBB
namespace Go.Proofs.Ytomcdhljjmnahaa.P26
set_option linter.unusedVariables false
set_option linter.unusedSimpArgs false
open Go.RowKit

def pv (p : PH) : Int × Int × List Int := (p.o, p.l, p.sh)
def SameRes (b : Bool) (w : World) (e : Ending) (w' : World) : Prop := e = .returned (.bool b) ∧ Pure w w'
theorem drewN_two (w : World) (q n : Nat) : (w.drewN q).drewN n = w.drewN (q + n) := by unfold World.drewN; simp [Nat.add_assoc]
theorem alike_no {ps qs : List PH} {k : Nat} (h : k < ps.length) (h' : k < qs.length) (hne : pv ps[k] ≠ pv qs[k]) : alikeB ps qs = false := by
  apply decide_eq_false
  intro e
  apply hne
  have := congrArg (fun l => l[k]?) e
  simpa [h, h', pv] using this
theorem alike_yes {ps qs : List PH} {k : Nat} (hk : ps.length ≤ k) (hl : ps.length = qs.length) (h : (ps.map pv).take k = (qs.map pv).take k) : alikeB ps qs = true := by
  apply decide_eq_true
  rw [List.take_of_length_le (by simpa using hk), List.take_of_length_le (by simp; omega)] at h
  exact h
theorem alike_take {ps qs : List PH} {k : Nat} (h : k < ps.length) (h' : k < qs.length) (ht : (ps.map pv).take k = (qs.map pv).take k) (hx : pv ps[k] = pv qs[k]) : (ps.map pv).take (k + 1) = (qs.map pv).take (k + 1) := by
  rw [List.take_succ_eq_append_getElem (by simpa using h), List.take_succ_eq_append_getElem (by simpa using h'), ht, List.getElem_map, List.getElem_map, hx]
theorem take_eq {l m : List Int} {k : Nat} (h : k < l.length) (h' : k < m.length) (he : l.take k = m.take k) (hx : l[k] = m[k]) : l.take (k + 1) = m.take (k + 1) := by
  rw [List.take_succ_eq_append_getElem h, List.take_succ_eq_append_getElem h', he, hx]
theorem alike_refl (ps qs : List PH) (h : ps.map pv = qs.map pv) : alikeB ps qs = true := decide_eq_true h

set_option maxHeartbeats 2000000 in
set_option maxRecDepth 100000 in
theorem same_any (ad : Option Addr) (c : Nat) (ps : List PH) (ae : Option Addr) (d : Nat) (qs : List PH) (w : World) (hp : Hints w ad ps) (hq : Hints w ae qs) (hl : (ps.length : Int) ≤ 9223372036854775807) (hm : (qs.length : Int) ≤ 9223372036854775807) :
    Calls Try.prog 35 #[.slice ad ps.length c, .slice ae qs.length d] w (SameRes (alikeB ps qs) w) := by
  obtain ⟨B, hB⟩ : ∃ B, B = alikeB ps qs := ⟨_, rfl⟩
  rw [← hB]
  by_cases hlen : ps.length = qs.length
  · have hne : ((ps.length : Int) != (qs.length : Int)) = false := by simp; omega
    have HB := Lib.hid hB
    have HL := Lib.hid hlen
    have h1 : ps.length ≤ qs.length := by omega
    have h2 : qs.length ≤ ps.length := by omega
    clear hB hlen
    go_enter Try.func35, Try.ntmps35
    go_wp2_with fail
    go_loopw [5, 6] (fun i _ W => ∃ k : Nat, k ≤ ps.length ∧ i = .int .i64 k ∧ Hid ((ps.map pv).take k = (qs.map pv).take k) ∧ Pure w W) (fun i _ _ => ps.length - (intOf i).toNat)
    case atStart => exact ⟨0, Nat.zero_le _, rfl, Lib.hid (by simp), Ext.refl _ _⟩
    case round =>
      obtain ⟨k, hk, rfl, HT, hP⟩ := hrel
      by_cases hlt : k < ps.length
      · have hki : (k : Int) < (ps.length : Int) := by omega
        have hkq : k < qs.length := by omega
        have hkj : (k : Int) < (qs.length : Int) := by omega
        obtain ⟨b, o, had, p0, p1, p2⟩ := (hp.pure hP).at k hlt
        obtain ⟨b', o', hae, q0, q1, q2⟩ := (hq.pure hP).at k hkq
        have hrp := hp.sub _ (List.getElem_mem hlt)
        have hrq := hq.sub _ (List.getElem_mem hkq)
        have hfp := (hp.fit _ (List.getElem_mem hlt)).2.1
        have hfq := (hq.fit _ (List.getElem_mem hkq)).2.1
        have hgp := (hp.fit _ (List.getElem_mem hlt)).1
        have hgq := (hq.fit _ (List.getElem_mem hkq)).1
        obtain ⟨p, hpp⟩ : ∃ p, p = ps[k] := ⟨_, rfl⟩
        obtain ⟨q, hqq⟩ : ∃ q, q = qs[k] := ⟨_, rfl⟩
        rw [← hpp] at p0 p1 p2 hrp hfp hgp
        rw [← hqq] at q0 q1 q2 hrq hfq hgq
        have HPP := Lib.hid hpp
        have HQQ := Lib.hid hqq
        obtain ⟨pn, hpn⟩ : ∃ n, n = p.sh.length := ⟨_, rfl⟩
        obtain ⟨qn, hqn⟩ : ∃ n, n = q.sh.length := ⟨_, rfl⟩
        have HPN := Lib.hid hpn
        have HQN := Lib.hid hqn
        unfold maxLen at hfp hfq
        rw [← hpn] at p2 hgp
        rw [← hqn] at q2 hgq
        subst had hae
        obtain ⟨po, hpo⟩ : ∃ x, x = p.o := ⟨_, rfl⟩
        obtain ⟨qo, hqo⟩ : ∃ x, x = q.o := ⟨_, rfl⟩
        obtain ⟨pl, hpl⟩ : ∃ x, x = p.l := ⟨_, rfl⟩
        obtain ⟨ql, hql⟩ : ∃ x, x = q.l := ⟨_, rfl⟩
        rw [← hpo] at p0
        rw [← hqo] at q0
        rw [← hpl] at p1
        rw [← hql] at q1
        have HNo : ∀ (h : pv p ≠ pv q), alikeB ps qs = false := fun h => alike_no hlt hkq (by rw [← HPP.out, ← HQQ.out]; exact h)
        by_cases c0 : po = qo
        · have e0 : (po != qo) = false := by simp [c0]
          by_cases c1 : pl = ql
          · have e1 : (pl != ql) = false := by simp [c1]
            by_cases c2 : pn = qn
            · have e2 : ((pn : Int) != (qn : Int)) = false := by simp; omega
              have HOL : Hid (p.o = q.o ∧ p.l = q.l) := Lib.hid ⟨by rw [← hpo, ← hqo]; exact c0, by rw [← hpl, ← hql]; exact c1⟩
              have HNN : Hid (pn = qn) := Lib.hid c2
              have h3 : pn ≤ qn := by omega
              have h4 : qn ≤ pn := by omega
              have HNO := Lib.hid HNo
              have HHP := Lib.hid hp
              have HHQ := Lib.hid hq
              have HRP := Lib.hid hrp
              have HRQ := Lib.hid hrq
              clear c0 c1 c2 hpp hqq hpn hqn hpo hqo hpl hql hp hq HNo hrp hrq
              go_wp2_with fail
              go_quiet (fail)
              go_wp2_with fail
              obtain ⟨wo, hwo⟩ : ∃ W : World, W = wr.drewN nq := ⟨_, rfl⟩
              have hPo : Pure wr wo := hwo ▸ (Ext.refl (fun _ => False) wr).drewN nq
              rw [← hwo]
              clear hwo
              go_loopw [6] (fun i W => ∃ j : Nat, j ≤ pn ∧ i = .int .i64 j ∧ Hid (p.sh.take j = q.sh.take j) ∧ Pure wr W) (fun i _ => pn - (intOf i).toNat)
              case atStart => exact ⟨0, Nat.zero_le _, rfl, Lib.hid (by simp), hPo⟩
              case round =>
                obtain ⟨j, hj, rfl, HU, hPj⟩ := hrel
                have x2 := hPj.cell_some p2 id
                have y2 := hPj.cell_some q2 id
                by_cases hjt : j < pn
                · have hji : (j : Int) < (pn : Int) := by omega
                  have hjn : j < qn := by omega
                  have hjm : (j : Int) < (qn : Int) := by omega
                  obtain ⟨sb, so, hsa, hsc⟩ := numV_at ((HRP.out.ext hP (fun _ _ => id)).ext hPj (fun _ _ => id)) j (by rw [← HPN.out]; exact hjt)
                  obtain ⟨sb', so', hsa', hsc'⟩ := numV_at ((HRQ.out.ext hP (fun _ _ => id)).ext hPj (fun _ _ => id)) j (by rw [← HQN.out]; exact hjn)
                  obtain ⟨x, hx⟩ : ∃ x, x = p.sh[j]'(by rw [← HPN.out]; exact hjt) := ⟨_, rfl⟩
                  obtain ⟨y, hy⟩ : ∃ x, x = q.sh[j]'(by rw [← HQN.out]; exact hjn) := ⟨_, rfl⟩
                  rw [← hx] at hsc
                  rw [← hy] at hsc'
                  rw [hsa] at x2
                  rw [hsa'] at y2
                  have HX := Lib.hid hx
                  have HY := Lib.hid hy
                  clear hx hy hsa hsa'
                  by_cases hxy : x = y
                  · have hE : (x != y) = false := by simp [hxy]
                    have HS : Hid (p.sh.take (j + 1) = q.sh.take (j + 1)) := Lib.hid (take_eq (by rw [← HPN.out]; exact hjt) (by rw [← HQN.out]; exact hjn) HU.out (by rw [← HX.out, ← HY.out, hxy]))
                    clear hxy p0 p1 p2 q0 q1 q2
                    go_wp2_with fail
                    go_quiet (fail)
                    go_wp2_with fail
                    go_roundw
                    case rel => exact ⟨j + 1, by omega, by go_num, HS, hPj.drewN _⟩
                    case measure => simp [intOf]; omega
                  · have hE : (x != y) = true := by simp [hxy]
                    have HF : Hid (alikeB ps qs = false) := Lib.hid (HNO.out (fun e => hxy (by
                      have e2 : p.sh = q.sh := congrArg (fun z => z.2.2) e
                      rw [HX.out, HY.out]; simp only [e2])))
                    clear hxy p0 p1 p2 q0 q1 q2
                    go_wp2_with fail
                    go_quiet (fail)
                    go_wp2_with fail
                    go_ret
                    exact ⟨by rw [HB.out, HF.out]; rfl, hP.pure (hPj.drewN _)⟩
                · have hji : ¬ (j : Int) < (pn : Int) := by omega
                  have HS : Hid ((ps.map pv).take (k + 1) = (qs.map pv).take (k + 1)) := Lib.hid (alike_take hlt hkq HT.out (by
                    rw [← HPP.out, ← HQQ.out]
                    have e1 := HPN.out
                    have e2 := HQN.out
                    have e3 := HU.out
                    rw [List.take_of_length_le (by omega), List.take_of_length_le (by omega)] at e3
                    unfold pv
                    rw [HOL.out.1, HOL.out.2, e3]))
                  clear p0 p1 p2 q0 q1 q2
                  go_wp2_with fail
                  go_roundw
                  case rel => exact ⟨k + 1, by omega, by go_num, HS, hP.pure hPj⟩
                  case measure => simp [intOf]; omega
            · have e2 : ((pn : Int) != (qn : Int)) = true := by simp; omega
              have HF : Hid (alikeB ps qs = false) := Lib.hid (HNo (fun e => c2 (by
                have e2 : p.sh = q.sh := congrArg (fun z => z.2.2) e
                rw [hpn, hqn, e2])))
              clear c0 c1 c2 hpp hqq hpn hqn hpo hqo hpl hql hp hq HNo hrp hrq
              go_wp2_with fail
              go_quiet (fail)
              go_wp2_with fail
              go_ret
              exact ⟨by rw [HB.out, HF.out]; rfl, hP.drewN _⟩
          · have e1 : (pl != ql) = true := by simp [c1]
            have HF : Hid (alikeB ps qs = false) := Lib.hid (HNo (fun e => c1 (by
              rw [hpl, hql]; exact congrArg (fun z => z.2.1) e)))
            clear c0 c1 hpp hqq hpn hqn hpo hqo hpl hql hp hq HNo hrp hrq
            go_wp2_with fail
            go_quiet (fail)
            go_wp2_with fail
            go_ret
            exact ⟨by rw [HB.out, HF.out]; rfl, hP.drewN _⟩
        · have e0 : (po != qo) = true := by simp [c0]
          have HF : Hid (alikeB ps qs = false) := Lib.hid (HNo (fun e => c0 (by
            rw [hpo, hqo]; exact congrArg (fun z => z.1) e)))
          clear c0 hpp hqq hpn hqn hpo hqo hpl hql hp hq HNo hrp hrq
          go_wp2_with fail
          go_quiet (fail)
          go_wp2_with fail
          go_ret
          exact ⟨by rw [HB.out, HF.out]; rfl, hP.drewN _⟩
      · have hki : ¬ (k : Int) < (ps.length : Int) := by omega
        have HF : Hid (alikeB ps qs = true) := Lib.hid (alike_yes (by omega) HL.out HT.out)
        clear hp hq
        go_wp2_with fail
        go_ret
        exact ⟨by rw [HB.out, HF.out]; rfl, hP⟩
  · have hne : ((ps.length : Int) != (qs.length : Int)) = true := by simp; omega
    have HF : Hid (alikeB ps qs = false) := Lib.hid (decide_eq_false (fun e => hlen (by have := congrArg List.length e; simpa using this)))
    have HB := Lib.hid hB
    clear hlen hB
    go_enter Try.func35, Try.ntmps35
    go_wp2_with fail
    go_ret
    exact ⟨by rw [HB.out, HF.out]; rfl, Ext.refl _ _⟩
end Go.Proofs.Ytomcdhljjmnahaa.P26
namespace Go.Proofs.Ytomcdhljjmnahaa.P26
set_option linter.unusedVariables false
set_option linter.unusedSimpArgs false
open Go.RowKit C26

/-- hints are told -/
def HintsTo (a : Nat) (ps : List PH) (m : Nat) (w : World) (e : Ending) (w' : World) : Prop := ∃ (qs : List PH) (oa : Option Addr) (oc : Nat), e = .returned (.tuple #[.int .i64 a, .slice oa ps.length oc, .int .i64 m, .int .i64 0]) ∧ qs.map pv = ps.map pv ∧ Hints w' oa qs ∧ Pure w w'
theorem map_toNat {α : Type} (f : α → Int) (ps : List α) (h : ∀ p ∈ ps, 0 ≤ f p) : ps.map f = (ps.map (fun p => (f p).toNat)).map (fun x : Nat => (x : Int)) := by
  rw [List.map_map]
  refine List.map_congr_left fun p hp => ?_
  have := h p hp
  simp only [Function.comp]; omega
theorem hintsTo_of {a : Nat} {ps : List PH} {r : RestN} {behind : List UInt8} {w : World} (hk : ChkOk a ps) (hf : r.f ≤ 32) (hp : r.p ≤ 32) (hq : r.q ≤ 32) (hfill : r.fill < 4294967296) {e : Ending} {w' : World} (h : DecRes (bitsOf true (pack true (tabB a (toN ps) r) ++ behind)) (ps.length : Int) w e w') : HintsTo a ps (pack true (tabB a (toN ps) r)).length w e w' := by
  obtain ⟨d, qs, oa, oc, he, hT, hR, hH, _, hP⟩ := h
  rw [← toN_os_len ps] at hT
  obtain rfl := dec_tab hk.ok (by have := hk.a; omega) hf hp hq hfill hT
  have hpv : ps.map (fun p => (p.o, p.l, p.sh)) = resV ⟨0, a, (toN ps).os, (toN ps).ls, (toN ps).shs, (pack true (tabB a (toN ps) r)).length⟩ := by
    refine resV_of ps _ ?_ ?_ ?_
    · exact map_toNat (fun p : PH => p.o) ps (fun p hp => by have := (hk.nat p hp).o; omega)
    · exact map_toNat (fun p : PH => p.l) ps (fun p hp => by have := (hk.nat p hp).l; omega)
    · simp only [toN, List.map_map]
      refine List.map_congr_left fun p hp => ?_
      simp only [Function.comp]
      exact (map_toNat (fun x : Int => x) p.sh (fun x hx => by have := (hk.nat p hp).sh x hx; omega) ▸ (List.map_id' p.sh).symm : p.sh = _)
  have hl : qs.length = ps.length := by
    have := congrArg List.length (hR.trans hpv.symm)
    simpa using this
  refine ⟨qs, oa, oc, ?_, hR.trans hpv.symm, hH, hP⟩
  rw [he, hl]
theorem decode_tab {a : Nat} {ps : List PH} {r : RestN} (behind : List UInt8) (bd : Option Addr) (bc : Nat) (bl : List UInt8) (hbl : bl = pack true (tabB a (toN ps) r) ++ behind) (w : World) (hk : ChkOk a ps) (hf : r.f ≤ 32) (hp : r.p ≤ 32) (hq : r.q ≤ 32) (hfill : r.fill < 4294967296) (hb : Bytes w bd bl) (hnil : bd = none → bc = 0) (hle : bl.length ≤ bc) (hl : bl.length ≤ 5000000) :
    Calls Try.prog 33 #[.slice bd bl.length bc, .int .i64 ps.length] w (HintsTo a ps (pack true (tabB a (toN ps) r)).length w) :=
  (decode_any bd bc bl ps.length w hb hnil hle hl).mono fun e w' h => hintsTo_of (behind := behind) hk hf hp hq hfill (by rw [← hbl]; exact h)
theorem one_hint {W : World} {oa : Option Addr} {qs : List PH} (h : Hints W oa qs) (hq : qs.map pv = [(3, 99, [5])]) :
    ∃ b o sb so sc, oa = some ⟨b, o, none⟩ ∧ W.cell? ⟨b, o, none⟩ = some (.int .i64 3) ∧ W.cell? ⟨b, o + 1, none⟩ = some (.int .i64 99) ∧ W.cell? ⟨b, o + 2, none⟩ = some (.slice (some ⟨sb, so, none⟩) 1 sc) ∧ W.cell? ⟨sb, so, none⟩ = some (.int .i64 5) := by
  obtain ⟨q, rfl⟩ : ∃ q, qs = [q] := List.length_eq_one_iff.1 (by have := congrArg List.length hq; simpa using this)
  have e : pv q = (3, 99, [5]) := by simpa using hq
  obtain ⟨o', l', sa', sc', sh'⟩ := q
  simp only [pv, Prod.mk.injEq] at e
  obtain ⟨rfl, rfl, rfl⟩ := e
  obtain ⟨b, o, rfl, c0, c1, c2⟩ := h.at 0 (by simp)
  simp only [List.getElem_cons_zero, Nat.zero_mul, Nat.add_zero] at c0 c1 c2
  obtain ⟨sb, so, hs, c3⟩ := numV_at (h.sub _ (List.mem_singleton.2 rfl)) 0 (by simp)
  simp only at hs
  subst hs
  simp only [List.getElem_cons_zero, Nat.add_zero] at c3
  exact ⟨b, o, sb, so, sc', rfl, c0, c1, c2, c3⟩
def wPs (b : Nat) : List PH := [⟨3, 99, some ⟨b, 0, none⟩, 1, [5]⟩]
theorem w_chk (b : Nat) : chk 7 (wPs b) = 0 := rfl
theorem w_mod (b : Nat) : Mod (wPs b) := ⟨by simp [wPs], by simp [wPs]⟩
theorem w_len (b : Nat) : (pack true (tabB 7 (toN (wPs b)) rest0)).length = 38 := by rw [pack_length]; show (List.length (tabB 7 ⟨[3], [99], [[5]]⟩ rest0) + 7) / 8 = 38; decide +kernel
theorem w_enc (b : Nat) : encB 7 (wPs b) = pack true (tabB 7 (toN (wPs b)) rest0) := if_pos (w_chk b)
end Go.Proofs.Ytomcdhljjmnahaa.P26
namespace Go.Proofs.Ytomcdhljjmnahaa.P26
set_option linter.unusedVariables false
set_option linter.unusedSimpArgs false
open Go.ChangeShapes Go.WideShapes Go.ChangeAt Go.RowKit C26

set_option maxRecDepth 100000 in
theorem open_hints {H : Type} {enc : TypeId × Value → H} {W : World} {v : Value} {d : DataW H} {p : List MemPlace} {base : Nat}
    (hv : Value.okWide Try.prog W .any base 22 v) (h : DataW.Trod enc Try.prog W 0 (fun _ => true) true 22 v d p) :
    ∃ (a : Option Addr) (c : Nat) (ps : List PH), v = .slice a ps.length c ∧ (ps.length : Int) ≤ 9223372036854775807 ∧ Hints W a ps := by
  obtain ⟨a0, len, cap, rfl⟩ := okWide_slice Try.underlying22 hv
  obtain ⟨fuel, hf⟩ := h
  have s3 : Try.prog.cellsOf 51 = 3 := by kernel_rfl
  have s0 : Try.prog.cellsOf 3 = 1 := by kernel_rfl
  have s1 : Try.prog.cellsOf 23 = 1 := by kernel_rfl
  obtain ⟨a, c, rows, hcs, hl, hm, hn, hq, hrow⟩ := open_rows (size := 3) (Q := fun cs (q : PH) => cs = cellsP q ∧ RowOf W q.sa (q.sh.map numV) ∧ (q.sh.length ≤ q.sc ∧ q.sc ≤ maxLen ∧ (q.sa = none → q.sc = 0))) Try.underlying22 s3 (by decide) (fun n cs y hy hlen => by
    match cs, hlen with
    | [c0, c1, c2], _ =>
      obtain ⟨xs, n', _, hx, _, hlen, hfs⟩ := DataW.trod_struct Try.underlying51 hy
      have h0 : DataW.trod enc Try.prog W 0 (fun _ => true) true n' 3 (([c0, c1, c2].drop 0).take (Try.prog.cellsOf 3)) = xs[0]? := hfs 0 _ rfl
      have h1 : DataW.trod enc Try.prog W 0 (fun _ => true) true n' 3 (([c0, c1, c2].drop 1).take (Try.prog.cellsOf 3)) = xs[1]? := hfs 1 _ rfl
      have h2 : DataW.trod enc Try.prog W 0 (fun _ => true) true n' 23 (([c0, c1, c2].drop 2).take (Try.prog.cellsOf 23)) = xs[2]? := hfs 2 _ rfl
      rw [s0] at h0 h1
      rw [s1] at h2
      simp only [List.drop, List.take] at h0 h1 h2
      match xs, hlen with
      | [y0, y1, y2], _ =>
        simp only [List.getElem?_cons_zero, List.getElem?_cons_succ] at h0 h1 h2
        obtain ⟨o, e0, _, _⟩ := DataW.trod_int Try.underlying3 h0
        obtain ⟨l, e1, _, _⟩ := DataW.trod_int Try.underlying3 h1
        cases e0
        cases e1
        obtain ⟨la, c, rows, hcs, hl, hm, hn, hq, hrow⟩ := open_rows (size := 1) (Q := fun cs (q : Int) => cs = [numV q]) Try.underlying23 s0 (by decide) (fun n cs y hy hlen => by
          match cs, hlen with
          | [z], _ =>
            obtain ⟨x, e, _, _⟩ := DataW.trod_int Try.underlying3 hy
            cases e
            exact ⟨x, rfl⟩) h2
        cases hcs
        exact ⟨⟨o, l, la, c, rows.map (·.2)⟩, by simp [cellsP], row_of_rows (fun r hr => (hq r hr).2) hrow, by simpa using hl, hm, hn⟩) hf
  simp [Value.cells] at hcs
  obtain ⟨rfl, rfl, rfl⟩ := hcs
  have hmap : rows.flatMap (·.1) = (rows.map (·.2)).flatMap cellsP := by
    clear hl hrow hf hv
    induction rows with
    | nil => rfl
    | cons r rows ih => rw [List.flatMap_cons, List.map_cons, List.flatMap_cons, ih (fun r hr => hq r (by simp [hr])), (hq r (by simp)).2.1]
  refine ⟨a0, cap, rows.map (·.2), by simp, by simp; unfold maxLen at hm; omega, ⟨hmap ▸ hrow, fun p hp => ?_, fun p hp => ?_⟩⟩
  · obtain ⟨r, hr, rfl⟩ := List.mem_map.1 hp
    exact (hq r hr).2.2.1
  · obtain ⟨r, hr, rfl⟩ := List.mem_map.1 hp
    exact (hq r hr).2.2.2
end Go.Proofs.Ytomcdhljjmnahaa.P26
