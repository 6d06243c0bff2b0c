/-
  Walked: are hints alike? (the reference's Same)
  Walked: the program's Encode, of any hints.
  Plain: the bytes of a table of hints come to those hints, whatever is behind, and whatever stands where contents and fractions do.
  Walked: what the two Decodes tell of a table's bytes; works() returns true, and writes nothing that was there.
  What came in: hints of pages.
-/
import Derived.Test.YtdhejhgpjeenaaaHints
import Derived.Test.YtdhejhgpjeenaaaEncode
import Derived.Test.YtdhejhgpjeenaaaPages
import Derived.Test.YtdhejhgpjeenaaaNumAt26
import Derived.Test.YtdhejhgpjeenaaaDecode
import Derived.Test.YtdhejhgpjeenaaaOpen2
namespace Go.Proofs.Ytdhejhgpjeenaaa
open Go.RowKit
set_option linter.unusedVariables false

def pv (p : PH) : Int × Int × List Int := (p.o, p.l, p.sh)
def SameRes (b : Bool) (w : World) (e : Ending) (w' : World) : Prop := e = .returned (.bool b) ∧ Pure w w'
theorem drewN_two (w : World) (q n : Nat) : (w.drewN q).drewN n = w.drewN (q + n) := by unfold World.drewN; simp [Nat.add_assoc]
theorem alike_no {ps qs : List PH} {k : Nat} (h : k < ps.length) (h' : k < qs.length) (hne : pv ps[k] ≠ pv qs[k]) : alikeB ps qs = false := by
  apply decide_eq_false
  intro e
  apply hne
  have := congrArg (fun l => l[k]?) e
  simpa [h, h', pv] using this
theorem alike_yes {ps qs : List PH} {k : Nat} (hk : ps.length ≤ k) (hl : ps.length = qs.length) (h : (ps.map pv).take k = (qs.map pv).take k) : alikeB ps qs = true := by
  apply decide_eq_true
  rw [List.take_of_length_le (by simpa using hk), List.take_of_length_le (by simp; omega)] at h
  exact h
theorem alike_take {ps qs : List PH} {k : Nat} (h : k < ps.length) (h' : k < qs.length) (ht : (ps.map pv).take k = (qs.map pv).take k) (hx : pv ps[k] = pv qs[k]) : (ps.map pv).take (k + 1) = (qs.map pv).take (k + 1) := by
  rw [List.take_succ_eq_append_getElem (by simpa using h), List.take_succ_eq_append_getElem (by simpa using h'), ht, List.getElem_map, List.getElem_map, hx]
theorem take_eq {l m : List Int} {k : Nat} (h : k < l.length) (h' : k < m.length) (he : l.take k = m.take k) (hx : l[k] = m[k]) : l.take (k + 1) = m.take (k + 1) := by
  rw [List.take_succ_eq_append_getElem h, List.take_succ_eq_append_getElem h', he, hx]
theorem alike_refl (ps qs : List PH) (h : ps.map pv = qs.map pv) : alikeB ps qs = true := decide_eq_true h

set_option maxHeartbeats 2000000 in
set_option maxRecDepth 100000 in
theorem same_any (ad : Option Addr) (c : Nat) (ps : List PH) (ae : Option Addr) (d : Nat) (qs : List PH) (w : World) (hp : Hints w ad ps) (hq : Hints w ae qs) (hl : (ps.length : Int) ≤ 9223372036854775807) (hm : (qs.length : Int) ≤ 9223372036854775807) :
    Calls Try.prog 15 #[.slice ad ps.length c, .slice ae qs.length d] w (SameRes (alikeB ps qs) w) := by
  obtain ⟨B, hB⟩ : ∃ B, B = alikeB ps qs := ⟨_, rfl⟩
  rw [← hB]
  by_cases hlen : ps.length = qs.length
  · have hne : ((ps.length : Int) != (qs.length : Int)) = false := by simp; omega
    have HB := Lib.hid hB
    have HL := Lib.hid hlen
    have h1 : ps.length ≤ qs.length := by omega
    have h2 : qs.length ≤ ps.length := by omega
    clear hB hlen
    go_enter Try.func15, Try.ntmps15
    go_wp2_with fail
    go_loopw [5, 6] (fun i _ W => ∃ k : Nat, k ≤ ps.length ∧ i = .int .i64 k ∧ Hid ((ps.map pv).take k = (qs.map pv).take k) ∧ Pure w W) (fun i _ _ => ps.length - (intOf i).toNat)
    case atStart => exact ⟨0, Nat.zero_le _, rfl, Lib.hid (by simp), Ext.refl _ _⟩
    case round =>
      obtain ⟨k, hk, rfl, HT, hP⟩ := hrel
      by_cases hlt : k < ps.length
      · have hki : (k : Int) < (ps.length : Int) := by omega
        have hkq : k < qs.length := by omega
        have hkj : (k : Int) < (qs.length : Int) := by omega
        obtain ⟨b, o, had, p0, p1, p2⟩ := (hp.pure hP).at k hlt
        obtain ⟨b', o', hae, q0, q1, q2⟩ := (hq.pure hP).at k hkq
        have hrp := hp.sub _ (List.getElem_mem hlt)
        have hrq := hq.sub _ (List.getElem_mem hkq)
        have hfp := (hp.fit _ (List.getElem_mem hlt)).2.1
        have hfq := (hq.fit _ (List.getElem_mem hkq)).2.1
        have hgp := (hp.fit _ (List.getElem_mem hlt)).1
        have hgq := (hq.fit _ (List.getElem_mem hkq)).1
        obtain ⟨p, hpp⟩ : ∃ p, p = ps[k] := ⟨_, rfl⟩
        obtain ⟨q, hqq⟩ : ∃ q, q = qs[k] := ⟨_, rfl⟩
        rw [← hpp] at p0 p1 p2 hrp hfp hgp
        rw [← hqq] at q0 q1 q2 hrq hfq hgq
        have HPP := Lib.hid hpp
        have HQQ := Lib.hid hqq
        obtain ⟨pn, hpn⟩ : ∃ n, n = p.sh.length := ⟨_, rfl⟩
        obtain ⟨qn, hqn⟩ : ∃ n, n = q.sh.length := ⟨_, rfl⟩
        have HPN := Lib.hid hpn
        have HQN := Lib.hid hqn
        unfold maxLen at hfp hfq
        rw [← hpn] at p2 hgp
        rw [← hqn] at q2 hgq
        subst had hae
        obtain ⟨po, hpo⟩ : ∃ x, x = p.o := ⟨_, rfl⟩
        obtain ⟨qo, hqo⟩ : ∃ x, x = q.o := ⟨_, rfl⟩
        obtain ⟨pl, hpl⟩ : ∃ x, x = p.l := ⟨_, rfl⟩
        obtain ⟨ql, hql⟩ : ∃ x, x = q.l := ⟨_, rfl⟩
        rw [← hpo] at p0
        rw [← hqo] at q0
        rw [← hpl] at p1
        rw [← hql] at q1
        have HNo : ∀ (h : pv p ≠ pv q), alikeB ps qs = false := fun h => alike_no hlt hkq (by rw [← HPP.out, ← HQQ.out]; exact h)
        by_cases c0 : po = qo
        · have e0 : (po != qo) = false := by simp [c0]
          by_cases c1 : pl = ql
          · have e1 : (pl != ql) = false := by simp [c1]
            by_cases c2 : pn = qn
            · have e2 : ((pn : Int) != (qn : Int)) = false := by simp; omega
              have HOL : Hid (p.o = q.o ∧ p.l = q.l) := Lib.hid ⟨by rw [← hpo, ← hqo]; exact c0, by rw [← hpl, ← hql]; exact c1⟩
              have HNN : Hid (pn = qn) := Lib.hid c2
              have h3 : pn ≤ qn := by omega
              have h4 : qn ≤ pn := by omega
              have HNO := Lib.hid HNo
              have HHP := Lib.hid hp
              have HHQ := Lib.hid hq
              have HRP := Lib.hid hrp
              have HRQ := Lib.hid hrq
              clear c0 c1 c2 hpp hqq hpn hqn hpo hqo hpl hql hp hq HNo hrp hrq
              go_wp2_with fail
              go_quiet (fail)
              go_wp2_with fail
              obtain ⟨wo, hwo⟩ : ∃ W : World, W = wr.drewN nq := ⟨_, rfl⟩
              have hPo : Pure wr wo := hwo ▸ (Ext.refl (fun _ => False) wr).drewN nq
              rw [← hwo]
              clear hwo
              go_loopw [6] (fun i W => ∃ j : Nat, j ≤ pn ∧ i = .int .i64 j ∧ Hid (p.sh.take j = q.sh.take j) ∧ Pure wr W) (fun i _ => pn - (intOf i).toNat)
              case atStart => exact ⟨0, Nat.zero_le _, rfl, Lib.hid (by simp), hPo⟩
              case round =>
                obtain ⟨j, hj, rfl, HU, hPj⟩ := hrel
                have x2 := hPj.cell_some p2 id
                have y2 := hPj.cell_some q2 id
                by_cases hjt : j < pn
                · have hji : (j : Int) < (pn : Int) := by omega
                  have hjn : j < qn := by omega
                  have hjm : (j : Int) < (qn : Int) := by omega
                  obtain ⟨sb, so, hsa, hsc⟩ := numV_at ((HRP.out.ext hP (fun _ _ => id)).ext hPj (fun _ _ => id)) j (by rw [← HPN.out]; exact hjt)
                  obtain ⟨sb', so', hsa', hsc'⟩ := numV_at ((HRQ.out.ext hP (fun _ _ => id)).ext hPj (fun _ _ => id)) j (by rw [← HQN.out]; exact hjn)
                  obtain ⟨x, hx⟩ : ∃ x, x = p.sh[j]'(by rw [← HPN.out]; exact hjt) := ⟨_, rfl⟩
                  obtain ⟨y, hy⟩ : ∃ x, x = q.sh[j]'(by rw [← HQN.out]; exact hjn) := ⟨_, rfl⟩
                  rw [← hx] at hsc
                  rw [← hy] at hsc'
                  rw [hsa] at x2
                  rw [hsa'] at y2
                  have HX := Lib.hid hx
                  have HY := Lib.hid hy
                  clear hx hy hsa hsa'
                  by_cases hxy : x = y
                  · have hE : (x != y) = false := by simp [hxy]
                    have HS : Hid (p.sh.take (j + 1) = q.sh.take (j + 1)) := Lib.hid (take_eq (by rw [← HPN.out]; exact hjt) (by rw [← HQN.out]; exact hjn) HU.out (by rw [← HX.out, ← HY.out, hxy]))
                    clear hxy p0 p1 p2 q0 q1 q2
                    go_wp2_with fail
                    go_quiet (fail)
                    go_wp2_with fail
                    go_roundw
                    case rel => exact ⟨j + 1, by omega, by go_num, HS, hPj.drewN _⟩
                    case measure => simp [intOf]; omega
                  · have hE : (x != y) = true := by simp [hxy]
                    have HF : Hid (alikeB ps qs = false) := Lib.hid (HNO.out (fun e => hxy (by
                      have e2 : p.sh = q.sh := congrArg (fun z => z.2.2) e
                      rw [HX.out, HY.out]; simp only [e2])))
                    clear hxy p0 p1 p2 q0 q1 q2
                    go_wp2_with fail
                    go_quiet (fail)
                    go_wp2_with fail
                    go_ret
                    exact ⟨by rw [HB.out, HF.out]; rfl, hP.pure (hPj.drewN _)⟩
                · have hji : ¬ (j : Int) < (pn : Int) := by omega
                  have HS : Hid ((ps.map pv).take (k + 1) = (qs.map pv).take (k + 1)) := Lib.hid (alike_take hlt hkq HT.out (by
                    rw [← HPP.out, ← HQQ.out]
                    have e1 := HPN.out
                    have e2 := HQN.out
                    have e3 := HU.out
                    rw [List.take_of_length_le (by omega), List.take_of_length_le (by omega)] at e3
                    unfold pv
                    rw [HOL.out.1, HOL.out.2, e3]))
                  clear p0 p1 p2 q0 q1 q2
                  go_wp2_with fail
                  go_roundw
                  case rel => exact ⟨k + 1, by omega, by go_num, HS, hP.pure hPj⟩
                  case measure => simp [intOf]; omega
            · have e2 : ((pn : Int) != (qn : Int)) = true := by simp; omega
              have HF : Hid (alikeB ps qs = false) := Lib.hid (HNo (fun e => c2 (by
                have e2 : p.sh = q.sh := congrArg (fun z => z.2.2) e
                rw [hpn, hqn, e2])))
              clear c0 c1 c2 hpp hqq hpn hqn hpo hqo hpl hql hp hq HNo hrp hrq
              go_wp2_with fail
              go_quiet (fail)
              go_wp2_with fail
              go_ret
              exact ⟨by rw [HB.out, HF.out]; rfl, hP.drewN _⟩
          · have e1 : (pl != ql) = true := by simp [c1]
            have HF : Hid (alikeB ps qs = false) := Lib.hid (HNo (fun e => c1 (by
              rw [hpl, hql]; exact congrArg (fun z => z.2.1) e)))
            clear c0 c1 hpp hqq hpn hqn hpo hqo hpl hql hp hq HNo hrp hrq
            go_wp2_with fail
            go_quiet (fail)
            go_wp2_with fail
            go_ret
            exact ⟨by rw [HB.out, HF.out]; rfl, hP.drewN _⟩
        · have e0 : (po != qo) = true := by simp [c0]
          have HF : Hid (alikeB ps qs = false) := Lib.hid (HNo (fun e => c0 (by
            rw [hpo, hqo]; exact congrArg (fun z => z.1) e)))
          clear c0 hpp hqq hpn hqn hpo hqo hpl hql hp hq HNo hrp hrq
          go_wp2_with fail
          go_quiet (fail)
          go_wp2_with fail
          go_ret
          exact ⟨by rw [HB.out, HF.out]; rfl, hP.drewN _⟩
      · have hki : ¬ (k : Int) < (ps.length : Int) := by omega
        have HF : Hid (alikeB ps qs = true) := Lib.hid (alike_yes (by omega) HL.out HT.out)
        clear hp hq
        go_wp2_with fail
        go_ret
        exact ⟨by rw [HB.out, HF.out]; rfl, hP⟩
  · have hne : ((ps.length : Int) != (qs.length : Int)) = true := by simp; omega
    have HF : Hid (alikeB ps qs = false) := Lib.hid (decide_eq_false (fun e => hlen (by have := congrArg List.length e; simpa using this)))
    have HB := Lib.hid hB
    clear hlen hB
    go_enter Try.func15, Try.ntmps15
    go_wp2_with fail
    go_ret
    exact ⟨by rw [HB.out, HF.out]; rfl, Ext.refl _ _⟩
end Go.Proofs.Ytdhejhgpjeenaaa
namespace Go.Proofs.Ytdhejhgpjeenaaa
open Go.RowKit C26
set_option linter.unusedVariables false

set_option maxRecDepth 100000 in
theorem encode_any (a : Int) (ad : Option Addr) (c : Nat) (ps : List PH) (w : World) (h : Hints w ad ps) (hm : Mod ps) :
    Calls Try.prog 10 #[.int .i64 a, .slice ad ps.length c] w (EncTo a ps w) := by
  by_cases hz : chk a ps = 0
  · have hk := chk_ok hz hm
    have e1 : a = (a.toNat : Int) := by have := hk.a; omega
    have key := encode_yes a.toNat ad c ps w h hm (by rw [← e1]; exact hz)
    rw [← e1] at key
    exact key
  · have HC0 := check_any a ad c ps w h hm
    have hB : encB a ps = [] := if_neg hz
    have hne : (chk a ps != 0) = true := by simpa using hz
    unfold IntRes at HC0
    obtain ⟨E, hE⟩ : ∃ E, E = chk a ps := ⟨_, rfl⟩
    rw [← hE] at HC0 hne
    have HC := Lib.hid HC0
    have HB := Lib.hid hB
    have HE := Lib.hid hE
    clear HC0 hB hz hE h
    go_enter Try.func10, Try.ntmps10
    go_wp2_with fail
    refine HC.out.mono ?_
    rintro e w2 ⟨rfl, hP2⟩
    go_wp2_with fail
    go_ret2
    refine ⟨none, 0, by rw [HB.out, ← HE.out]; rfl, ?_⟩
    rw [HB.out]
    exact new_nil hP2
end Go.Proofs.Ytdhejhgpjeenaaa
namespace Go.Proofs.Ytdhejhgpjeenaaa
open Go.RowKit C26
set_option linter.unusedVariables false

theorem above_len (xs : List Nat) : (HN.above xs).length = xs.length := by simp [HN.above]
theorem above_back (xs : List Nat) : (HN.above xs).map (fun x => least xs + x) = xs := by
  unfold HN.above
  rw [List.map_map]
  refine Eq.trans (List.map_congr_left fun y hy => ?_) (List.map_id xs)
  have h1 := least_le hy
  simp only [id, Function.comp]; omega
theorem row_found {bs pre rest : List Bool} {p w n : Nat} (xs : List Nat) (hb : bs = pre ++ (numsB xs w ++ rest)) (hp : p = pre.length) (hn : n = xs.length) (hx : ∀ x ∈ xs, x < 2 ^ w) : vals bs p w n = xs ∧ p + n * w ≤ bs.length := by
  refine ⟨vals_flat (post := rest) xs pre (by rw [hb]; rfl) hp hn hx, ?_⟩
  rw [hb, List.length_append, List.length_append, numsB_len, hp, hn]; omega
theorem fill_found {bs pre rest : List Bool} {p w n x : Nat} (hb : bs = pre ++ (fillN n w x ++ rest)) (hp : p = pre.length) : p + n * w ≤ bs.length := by
  rw [hb, List.length_append, List.length_append, fillN_len, hp]; omega
theorem lt_wid_of {x y : Nat} (h : x ≤ y) : x < 2 ^ wid y := Nat.lt_of_le_of_lt h (lt_wid y)
theorem le_sum_mem {x : Nat} : ∀ {l : List Nat}, x ∈ l → x ≤ l.sum
  | [], h => by cases h
  | y :: l, h => by
    rw [List.sum_cons]
    rcases List.mem_cons.1 h with rfl | h
    · omega
    · have := le_sum_mem h
      omega
theorem dec_back {a : Nat} {h : HN} {r : RestN} {tail : List Bool} (hok : h.Ok) (ha : a ≤ 2147483647) (hf : r.f ≤ 32) (hp : r.p ≤ 32) (hq : r.q ≤ 32) (hfill : r.fill < 4294967296) :
    DecTo (tabB a h r ++ tail) (h.os.length : Int) ⟨0, a, h.os, h.ls, h.shs, (pack true (tabB a h r)).length⟩ := by
  obtain ⟨z1, hz1⟩ := align_split (headB a h r ++ numsB (HN.above h.os) h.wa)
  obtain ⟨z2, hz2⟩ := align_split (part1 a h r ++ numsB (HN.above h.ls) h.wb)
  obtain ⟨z3, hz3⟩ := align_split (part2 a h r ++ numsB h.counts h.wc)
  obtain ⟨z4, hz4⟩ := align_split (part3 a h r ++ numsB h.all h.wd)
  obtain ⟨z5, hz5⟩ := align_split (part4 a h r ++ fillN h.many r.f r.fill)
  obtain ⟨z6, hz6⟩ := align_split (part5 a h r ++ fillN h.os.length r.p r.fill)
  obtain ⟨z7, hz7⟩ := align_split (part6 a h r ++ fillN h.os.length r.q r.fill)
  have wa32 : h.wa ≤ 32 := width_le (fun y hy => by have := hok.os y hy; omega)
  have wb32 : h.wb ≤ 32 := width_le (fun y hy => by have := hok.ls y hy; omega)
  have hcm : ∀ x ∈ h.counts, x ≤ h.many := fun x hx => by
    obtain ⟨row, hr, rfl⟩ := List.mem_map.1 hx
    unfold HN.many HN.all
    rw [List.length_flatten]
    exact le_sum_mem (List.mem_map_of_mem hr)
  have wc32 : h.wc ≤ 32 := wid_le.2 (mx_lt (by decide) (fun y hy => by have := hcm y hy; have := hok.many; omega))
  have wd32 : h.wd ≤ 32 := wid_le.2 (mx_lt (by decide) (fun y hy => by have := hok.sh y hy; omega))
  have hx32 : r.x < 4294967296 := by unfold RestN.x; split <;> omega
  have hlo : least h.os < 4294967296 := by
    have h1 := hok.pos
    obtain ⟨x, hx⟩ : ∃ x, x ∈ h.os := List.exists_mem_of_length_pos (by omega)
    have := least_le hx
    have := hok.os x hx
    omega
  have hll : least h.ls < 4294967296 := by
    have h1 := hok.pos
    obtain ⟨x, hx⟩ : ∃ x, x ∈ h.ls := List.exists_mem_of_length_pos (by have := hok.ll; omega)
    have := least_le hx
    have := hok.ls x hx
    omega
  obtain ⟨n, hn⟩ : ∃ n, n = h.os.length := ⟨_, rfl⟩
  have hlen0 : tabB a h r = (part6 a h r ++ fillN h.os.length r.q r.fill) ++ z7 := hz7
  obtain ⟨bs, hbs⟩ : ∃ bs, bs = tabB a h r ++ tail := ⟨_, rfl⟩
  obtain ⟨t7, ht7⟩ : ∃ t, t = z7 ++ tail := ⟨_, rfl⟩
  have e7 : bs = part6 a h r ++ (fillN h.os.length r.q r.fill ++ t7) := by rw [hbs, hlen0, ht7]; simp only [List.append_assoc]
  obtain ⟨t6, ht6⟩ : ∃ t, t = z6 ++ (fillN h.os.length r.q r.fill ++ t7) := ⟨_, rfl⟩
  have e6 : bs = part5 a h r ++ (fillN h.os.length r.p r.fill ++ t6) := by rw [e7, ht6]; unfold part6; rw [hz6]; simp only [List.append_assoc]
  obtain ⟨t5, ht5⟩ : ∃ t, t = z5 ++ (fillN h.os.length r.p r.fill ++ t6) := ⟨_, rfl⟩
  have e5 : bs = part4 a h r ++ (fillN h.many r.f r.fill ++ t5) := by rw [e6, ht5]; unfold part5; rw [hz5]; simp only [List.append_assoc]
  obtain ⟨t4, ht4⟩ : ∃ t, t = z4 ++ (fillN h.many r.f r.fill ++ t5) := ⟨_, rfl⟩
  have e4 : bs = part3 a h r ++ (numsB h.all h.wd ++ t4) := by rw [e5, ht4]; unfold part4; rw [hz4]; simp only [List.append_assoc]
  obtain ⟨t3, ht3⟩ : ∃ t, t = z3 ++ (numsB h.all h.wd ++ t4) := ⟨_, rfl⟩
  have e3 : bs = part2 a h r ++ (numsB h.counts h.wc ++ t3) := by rw [e4, ht3]; unfold part3; rw [hz3]; simp only [List.append_assoc]
  obtain ⟨t2, ht2⟩ : ∃ t, t = z2 ++ (numsB h.counts h.wc ++ t3) := ⟨_, rfl⟩
  have e2 : bs = part1 a h r ++ (numsB (HN.above h.ls) h.wb ++ t2) := by rw [e3, ht2]; unfold part2; rw [hz2]; simp only [List.append_assoc]
  obtain ⟨t1, ht1⟩ : ∃ t, t = z1 ++ (numsB (HN.above h.ls) h.wb ++ t2) := ⟨_, rfl⟩
  have e1 : bs = headB a h r ++ (numsB (HN.above h.os) h.wa ++ t1) := by rw [e2, ht1]; unfold part1; rw [hz1]; simp only [List.append_assoc]
  obtain ⟨r0, hr0⟩ : ∃ t, t = numsB (HN.above h.os) h.wa ++ t1 := ⟨_, rfl⟩
  have e0 : bs = headB a h r ++ r0 := by rw [e1, hr0]
  have hl288 : 288 ≤ bs.length := by rw [e0, List.length_append, headB_len]; omega
  have k_h0 : h0 bs = least h.os := numAt_mid (pre := []) (post := bN a 32 ++ bN h.wa 16 ++ bN (least h.ls) 32 ++ bN h.wb 16 ++ bN r.x 32 ++ bN r.p 16 ++ bN r.x 32 ++ bN r.q 16 ++ bN h.wc 16 ++ bN h.wd 16 ++ bN r.f 16 ++ bN 1 16 ++ r0) (by rw [e0]; unfold headB bN; simp only [List.nil_append, List.append_assoc]) (by simp only [List.length_append, List.length_nil, bN_len]) (by omega)
  have k_h1 : h1 bs = a := numAt_mid (pre := bN (least h.os) 32) (post := bN h.wa 16 ++ bN (least h.ls) 32 ++ bN h.wb 16 ++ bN r.x 32 ++ bN r.p 16 ++ bN r.x 32 ++ bN r.q 16 ++ bN h.wc 16 ++ bN h.wd 16 ++ bN r.f 16 ++ bN 1 16 ++ r0) (by rw [e0]; unfold headB bN; simp only [List.nil_append, List.append_assoc]) (by simp only [List.length_append, List.length_nil, bN_len]) (by omega)
  have k_h2 : h2 bs = h.wa := numAt_mid (pre := bN (least h.os) 32 ++ bN a 32) (post := bN (least h.ls) 32 ++ bN h.wb 16 ++ bN r.x 32 ++ bN r.p 16 ++ bN r.x 32 ++ bN r.q 16 ++ bN h.wc 16 ++ bN h.wd 16 ++ bN r.f 16 ++ bN 1 16 ++ r0) (by rw [e0]; unfold headB bN; simp only [List.nil_append, List.append_assoc]) (by simp only [List.length_append, List.length_nil, bN_len]) (by omega)
  have k_h3 : h3 bs = least h.ls := numAt_mid (pre := bN (least h.os) 32 ++ bN a 32 ++ bN h.wa 16) (post := bN h.wb 16 ++ bN r.x 32 ++ bN r.p 16 ++ bN r.x 32 ++ bN r.q 16 ++ bN h.wc 16 ++ bN h.wd 16 ++ bN r.f 16 ++ bN 1 16 ++ r0) (by rw [e0]; unfold headB bN; simp only [List.nil_append, List.append_assoc]) (by simp only [List.length_append, List.length_nil, bN_len]) (by omega)
  have k_h4 : h4 bs = h.wb := numAt_mid (pre := bN (least h.os) 32 ++ bN a 32 ++ bN h.wa 16 ++ bN (least h.ls) 32) (post := bN r.x 32 ++ bN r.p 16 ++ bN r.x 32 ++ bN r.q 16 ++ bN h.wc 16 ++ bN h.wd 16 ++ bN r.f 16 ++ bN 1 16 ++ r0) (by rw [e0]; unfold headB bN; simp only [List.nil_append, List.append_assoc]) (by simp only [List.length_append, List.length_nil, bN_len]) (by omega)
  have k_h6 : h6 bs = r.p := numAt_mid (pre := bN (least h.os) 32 ++ bN a 32 ++ bN h.wa 16 ++ bN (least h.ls) 32 ++ bN h.wb 16 ++ bN r.x 32) (post := bN r.x 32 ++ bN r.q 16 ++ bN h.wc 16 ++ bN h.wd 16 ++ bN r.f 16 ++ bN 1 16 ++ r0) (by rw [e0]; unfold headB bN; simp only [List.nil_append, List.append_assoc]) (by simp only [List.length_append, List.length_nil, bN_len]) (by omega)
  have k_h8 : h8 bs = r.q := numAt_mid (pre := bN (least h.os) 32 ++ bN a 32 ++ bN h.wa 16 ++ bN (least h.ls) 32 ++ bN h.wb 16 ++ bN r.x 32 ++ bN r.p 16 ++ bN r.x 32) (post := bN h.wc 16 ++ bN h.wd 16 ++ bN r.f 16 ++ bN 1 16 ++ r0) (by rw [e0]; unfold headB bN; simp only [List.nil_append, List.append_assoc]) (by simp only [List.length_append, List.length_nil, bN_len]) (by omega)
  have k_h9 : h9 bs = h.wc := numAt_mid (pre := bN (least h.os) 32 ++ bN a 32 ++ bN h.wa 16 ++ bN (least h.ls) 32 ++ bN h.wb 16 ++ bN r.x 32 ++ bN r.p 16 ++ bN r.x 32 ++ bN r.q 16) (post := bN h.wd 16 ++ bN r.f 16 ++ bN 1 16 ++ r0) (by rw [e0]; unfold headB bN; simp only [List.nil_append, List.append_assoc]) (by simp only [List.length_append, List.length_nil, bN_len]) (by omega)
  have k_h10 : h10 bs = h.wd := numAt_mid (pre := bN (least h.os) 32 ++ bN a 32 ++ bN h.wa 16 ++ bN (least h.ls) 32 ++ bN h.wb 16 ++ bN r.x 32 ++ bN r.p 16 ++ bN r.x 32 ++ bN r.q 16 ++ bN h.wc 16) (post := bN r.f 16 ++ bN 1 16 ++ r0) (by rw [e0]; unfold headB bN; simp only [List.nil_append, List.append_assoc]) (by simp only [List.length_append, List.length_nil, bN_len]) (by omega)
  have k_h11 : h11 bs = r.f := numAt_mid (pre := bN (least h.os) 32 ++ bN a 32 ++ bN h.wa 16 ++ bN (least h.ls) 32 ++ bN h.wb 16 ++ bN r.x 32 ++ bN r.p 16 ++ bN r.x 32 ++ bN r.q 16 ++ bN h.wc 16 ++ bN h.wd 16) (post := bN 1 16 ++ r0) (by rw [e0]; unfold headB bN; simp only [List.nil_append, List.append_assoc]) (by simp only [List.length_append, List.length_nil, bN_len]) (by omega)
  have p1 : q1 bs n = (part1 a h r).length := by unfold q1 part1; rw [k_h2, al8_align, List.length_append, headB_len, numsB_len, above_len, hn]
  have p2 : q2 bs n = (part2 a h r).length := by unfold q2 part2; rw [p1, k_h4, al8_align, List.length_append, numsB_len, above_len, hok.ll, hn]
  have p3 : q3 bs n = (part3 a h r).length := by unfold q3 part3; rw [p2, k_h9, al8_align, List.length_append, numsB_len, show h.counts.length = n from by rw [hn, HN.counts, List.length_map, hok.lsh]]
  have r1 := row_found (n := n) (HN.above h.os) e1 (headB_len a h r).symm (by rw [above_len, hn]) (fun x hx => by obtain ⟨y, hy, rfl⟩ := List.mem_map.1 hx; exact above_lt hy)
  have r2 := row_found (n := n) (HN.above h.ls) e2 p1 (by rw [above_len, hok.ll, hn]) (fun x hx => by obtain ⟨y, hy, rfl⟩ := List.mem_map.1 hx; exact above_lt hy)
  have r3 := row_found (n := n) h.counts e3 p2 (by rw [hn, HN.counts, List.length_map, hok.lsh]) (fun x hx => lt_wid_of (le_mx hx))
  have r4 := row_found (n := h.many) h.all e4 p3 rfl (fun x hx => lt_wid_of (le_mx hx))
  have hcn : cnts bs n = h.counts := by unfold cnts; rw [k_h9]; exact r3.1
  have hmn : mny bs n = h.many := by unfold mny; rw [hcn, HN.counts, HN.many, HN.all, List.length_flatten]
  have p4 : q4 bs n = (part4 a h r).length := by unfold q4 part4; rw [p3, hmn, k_h10, al8_align, List.length_append, numsB_len]; rfl
  have r5 := fill_found e5 p4
  have p5 : q5 bs n = (part5 a h r).length := by unfold q5 part5; rw [p4, hmn, k_h11, al8_align, List.length_append, fillN_len]
  have r6 := fill_found e6 p5
  have p6 : q6 bs n = (part6 a h r).length := by unfold q6 part6; rw [p5, k_h6, al8_align, List.length_append, fillN_len, hn]
  have r7 := fill_found e7 p6
  have p7 : q7 bs n = (tabB a h r).length := by unfold q7 tabB; rw [p6, k_h8, al8_align, List.length_append, fillN_len, hn]
  have hOK : HeadOk bs := ⟨by omega, by omega, by omega, by omega, by omega, by omega, by omega, by omega⟩
  have h8 : (tabB a h r).length % 8 = 0 := by unfold tabB; exact align_mod _
  have hpl : (pack true (tabB a h r)).length = q7 bs n / 8 := by
    rw [pack_length, ← p7]
    rw [← p7] at h8
    generalize q7 bs n = y at h8 ⊢
    omega
  have hct : cut h.counts h.all = h.shs := cut_flat h.shs
  have hG : good bs n = ⟨0, a, h.os, h.ls, h.shs, (pack true (tabB a h r)).length⟩ := by
    unfold good
    rw [k_h0, k_h1, k_h2, k_h3, k_h4, k_h10, r1.1, r2.1, above_back, above_back, hcn, hmn, r4.1, hct, hpl]
  rw [← hbs, ← hn]
  refine Or.inr ⟨inB_true.2 ⟨by have := hok.pos; omega, by have := hok.le; omega⟩, Or.inr ⟨hl288, Or.inr ⟨hOK, ?_⟩⟩⟩
  rw [Int.toNat_natCast]
  refine ⟨0, RowE.of_zero (by rw [k_h2]; exact r1.2) (fun x hx => ?_), Or.inr ⟨rfl, ⟨0, RowE.of_zero (by rw [k_h4]; exact r2.2) (fun x hx => ?_), Or.inr ⟨rfl, ⟨0, RowE.of_zero (by rw [k_h9]; exact r3.2) ?_, Or.inr ⟨rfl, ⟨0, RowE.of_zero (by rw [hmn, k_h10]; exact r4.2) (fun x hx => ?_), Or.inr ⟨rfl, ⟨0, RowE.of_zero (by rw [hmn, k_h11]; exact r5) trivial, Or.inr ⟨rfl, ⟨0, RowE.of_zero (by rw [k_h6, hn]; rw [← hn]; rw [hn] at r6 ⊢; exact r6) trivial, Or.inr ⟨rfl, ⟨0, RowE.of_zero (by rw [k_h8]; rw [← hn] at r7; exact r7) trivial, Or.inr ⟨rfl, hG.symm⟩⟩⟩⟩⟩⟩⟩⟩⟩⟩⟩⟩⟩⟩
  · rw [k_h2, r1.1] at hx
    obtain ⟨y, hy, rfl⟩ := List.mem_map.1 hx
    have := least_le hy
    have := hok.os y hy
    rw [k_h0]
    exact inB_true.2 ⟨by omega, by omega⟩
  · rw [k_h4, r2.1] at hx
    obtain ⟨y, hy, rfl⟩ := List.mem_map.1 hx
    have := least_le hy
    have := hok.ls y hy
    rw [k_h3]
    exact inB_true.2 ⟨by omega, by omega⟩
  · show (vals bs (q2 bs n) (h9 bs) n).sum ≤ 65536
    have := hok.many
    rw [← hmn] at this
    exact this
  · rw [k_h10, hmn, r4.1] at hx
    exact hok.sh x hx
theorem tabB_mod (a : Nat) (h : HN) (r : RestN) : (tabB a h r).length % 8 = 0 := by unfold tabB; exact align_mod _
/-- the bits of a table's bytes and of what is behind -/
theorem bits_tab (a : Nat) (h : HN) (r : RestN) (behind : List UInt8) : bitsOf true (pack true (tabB a h r) ++ behind) = tabB a h r ++ bitsOf true behind := by
  rw [bitsOf_append, bitsOf_pack, align_id (tabB_mod a h r)]
theorem dec_tab {a : Nat} {h : HN} {r : RestN} {behind : List UInt8} {d : DRes} (hok : h.Ok) (ha : a ≤ 2147483647) (hf : r.f ≤ 32) (hp : r.p ≤ 32) (hq : r.q ≤ 32) (hfill : r.fill < 4294967296) (hd : DecTo (bitsOf true (pack true (tabB a h r) ++ behind)) (h.os.length : Int) d) :
    d = ⟨0, a, h.os, h.ls, h.shs, (pack true (tabB a h r)).length⟩ := by
  rw [bits_tab] at hd
  exact dec_unique hd (dec_back hok ha hf hp hq hfill)
/-- how long a table is -/
theorem tab_len {a : Nat} {h : HN} {r : RestN} (hok : h.Ok) (hf : r.f ≤ 32) (hp : r.p ≤ 32) (hq : r.q ≤ 32) : (pack true (tabB a h r)).length ≤ 600000 := by
  have wa32 : h.wa ≤ 32 := width_le (fun y hy => by have := hok.os y hy; omega)
  have wb32 : h.wb ≤ 32 := width_le (fun y hy => by have := hok.ls y hy; omega)
  have hcm : ∀ x ∈ h.counts, x ≤ h.many := fun x hx => by
    obtain ⟨row, hr, rfl⟩ := List.mem_map.1 hx
    unfold HN.many HN.all
    rw [List.length_flatten]
    exact le_sum_mem (List.mem_map_of_mem hr)
  have wc32 : h.wc ≤ 32 := wid_le.2 (mx_lt (by decide) (fun y hy => by have := hcm y hy; have := hok.many; omega))
  have wd32 : h.wd ≤ 32 := wid_le.2 (mx_lt (by decide) (fun y hy => by have := hok.sh y hy; omega))
  have m1 : h.os.length * h.wa ≤ 40 * 32 := Nat.mul_le_mul hok.le wa32
  have m2 : h.os.length * h.wb ≤ 40 * 32 := Nat.mul_le_mul hok.le wb32
  have m3 : h.os.length * h.wc ≤ 40 * 32 := Nat.mul_le_mul hok.le wc32
  have m4 : h.many * h.wd ≤ 65536 * 32 := Nat.mul_le_mul hok.many wd32
  have m5 : h.many * r.f ≤ 65536 * 32 := Nat.mul_le_mul hok.many hf
  have m6 : h.os.length * r.p ≤ 40 * 32 := Nat.mul_le_mul hok.le hp
  have m7 : h.os.length * r.q ≤ 40 * 32 := Nat.mul_le_mul hok.le hq
  have l1 : (part1 a h r).length ≤ 300 + 40 * 32 := by unfold part1; rw [align_length, List.length_append, headB_len, numsB_len, above_len]; omega
  have l2 : (part2 a h r).length ≤ 310 + 2 * (40 * 32) := by unfold part2; rw [align_length, List.length_append, numsB_len, above_len, hok.ll]; omega
  have l3 : (part3 a h r).length ≤ 320 + 3 * (40 * 32) := by unfold part3; rw [align_length, List.length_append, numsB_len, HN.counts, List.length_map, hok.lsh]; omega
  have l4 : (part4 a h r).length ≤ 330 + 3 * (40 * 32) + 65536 * 32 := by unfold part4; rw [align_length, List.length_append, numsB_len]; unfold HN.many at m4; omega
  have l5 : (part5 a h r).length ≤ 340 + 3 * (40 * 32) + 2 * (65536 * 32) := by unfold part5; rw [align_length, List.length_append, fillN_len]; omega
  have l6 : (part6 a h r).length ≤ 350 + 4 * (40 * 32) + 2 * (65536 * 32) := by unfold part6; rw [align_length, List.length_append, fillN_len]; omega
  rw [pack_length]
  unfold tabB
  rw [align_length, List.length_append, fillN_len]
  omega
end Go.Proofs.Ytdhejhgpjeenaaa
namespace Go.Proofs.Ytdhejhgpjeenaaa
open Go.RowKit C26
set_option linter.unusedVariables false

/-- hints are told -/
def HintsTo (a : Nat) (ps : List PH) (m : Nat) (w : World) (e : Ending) (w' : World) : Prop := ∃ (qs : List PH) (oa : Option Addr) (oc : Nat), e = .returned (.tuple #[.int .i64 a, .slice oa ps.length oc, .int .i64 m, .int .i64 0]) ∧ qs.map pv = ps.map pv ∧ Hints w' oa qs ∧ Pure w w'
theorem map_toNat {α : Type} (f : α → Int) (ps : List α) (h : ∀ p ∈ ps, 0 ≤ f p) : ps.map f = (ps.map (fun p => (f p).toNat)).map (fun x : Nat => (x : Int)) := by
  rw [List.map_map]
  refine List.map_congr_left fun p hp => ?_
  have := h p hp
  simp only [Function.comp]; omega
theorem hintsTo_of {a : Nat} {ps : List PH} {r : RestN} {behind : List UInt8} {w : World} (hk : ChkOk a ps) (hf : r.f ≤ 32) (hp : r.p ≤ 32) (hq : r.q ≤ 32) (hfill : r.fill < 4294967296) {e : Ending} {w' : World} (h : DecRes (bitsOf true (pack true (tabB a (toN ps) r) ++ behind)) (ps.length : Int) w e w') : HintsTo a ps (pack true (tabB a (toN ps) r)).length w e w' := by
  obtain ⟨d, qs, oa, oc, he, hT, hR, hH, _, hP⟩ := h
  rw [← toN_os_len ps] at hT
  obtain rfl := dec_tab hk.ok (by have := hk.a; omega) hf hp hq hfill hT
  have hpv : ps.map (fun p => (p.o, p.l, p.sh)) = resV ⟨0, a, (toN ps).os, (toN ps).ls, (toN ps).shs, (pack true (tabB a (toN ps) r)).length⟩ := by
    refine resV_of ps _ ?_ ?_ ?_
    · exact map_toNat (fun p : PH => p.o) ps (fun p hp => by have := (hk.nat p hp).o; omega)
    · exact map_toNat (fun p : PH => p.l) ps (fun p hp => by have := (hk.nat p hp).l; omega)
    · simp only [toN, List.map_map]
      refine List.map_congr_left fun p hp => ?_
      simp only [Function.comp]
      exact (map_toNat (fun x : Int => x) p.sh (fun x hx => by have := (hk.nat p hp).sh x hx; omega) ▸ (List.map_id' p.sh).symm : p.sh = _)
  have hl : qs.length = ps.length := by
    have := congrArg List.length (hR.trans hpv.symm)
    simpa using this
  refine ⟨qs, oa, oc, ?_, hR.trans hpv.symm, hH, hP⟩
  rw [he, hl]
theorem decode_tab {a : Nat} {ps : List PH} {r : RestN} (behind : List UInt8) (bd : Option Addr) (bc : Nat) (bl : List UInt8) (hbl : bl = pack true (tabB a (toN ps) r) ++ behind) (w : World) (hk : ChkOk a ps) (hf : r.f ≤ 32) (hp : r.p ≤ 32) (hq : r.q ≤ 32) (hfill : r.fill < 4294967296) (hb : Bytes w bd bl) (hnil : bd = none → bc = 0) (hle : bl.length ≤ bc) (hl : bl.length ≤ 5000000) :
    Calls Try.prog 13 #[.slice bd bl.length bc, .int .i64 ps.length] w (HintsTo a ps (pack true (tabB a (toN ps) r)).length w) :=
  (decode_any bd bc bl ps.length w hb hnil hle hl).mono fun e w' h => hintsTo_of (behind := behind) hk hf hp hq hfill (by rw [← hbl]; exact h)
theorem refdecode_tab {a : Nat} {ps : List PH} {r : RestN} (behind : List UInt8) (bd : Option Addr) (bc : Nat) (bl : List UInt8) (hbl : bl = pack true (tabB a (toN ps) r) ++ behind) (w : World) (hk : ChkOk a ps) (hf : r.f ≤ 32) (hp : r.p ≤ 32) (hq : r.q ≤ 32) (hfill : r.fill < 4294967296) (hb : Bytes w bd bl) (hnil : bd = none → bc = 0) (hle : bl.length ≤ bc) (hl : bl.length ≤ 5000000) :
    Calls Try.prog 14 #[.slice bd bl.length bc, .int .i64 ps.length] w (HintsTo a ps (pack true (tabB a (toN ps) r)).length w) :=
  (refdecode_any bd bc bl ps.length w hb hnil hle hl).mono fun e w' h => hintsTo_of (behind := behind) hk hf hp hq hfill (by rw [← hbl]; exact h)
theorem one_hint {W : World} {oa : Option Addr} {qs : List PH} (h : Hints W oa qs) (hq : qs.map pv = [(3, 99, [5])]) :
    ∃ b o sb so sc, oa = some ⟨b, o, none⟩ ∧ W.cell? ⟨b, o, none⟩ = some (.int .i64 3) ∧ W.cell? ⟨b, o + 1, none⟩ = some (.int .i64 99) ∧ W.cell? ⟨b, o + 2, none⟩ = some (.slice (some ⟨sb, so, none⟩) 1 sc) ∧ W.cell? ⟨sb, so, none⟩ = some (.int .i64 5) := by
  obtain ⟨q, rfl⟩ : ∃ q, qs = [q] := List.length_eq_one_iff.1 (by have := congrArg List.length hq; simpa using this)
  have e : pv q = (3, 99, [5]) := by simpa using hq
  obtain ⟨o', l', sa', sc', sh'⟩ := q
  simp only [pv, Prod.mk.injEq] at e
  obtain ⟨rfl, rfl, rfl⟩ := e
  obtain ⟨b, o, rfl, c0, c1, c2⟩ := h.at 0 (by simp)
  simp only [List.getElem_cons_zero, Nat.zero_mul, Nat.add_zero] at c0 c1 c2
  obtain ⟨sb, so, hs, c3⟩ := numV_at (h.sub _ (List.mem_singleton.2 rfl)) 0 (by simp)
  simp only at hs
  subst hs
  simp only [List.getElem_cons_zero, Nat.add_zero] at c3
  exact ⟨b, o, sb, so, sc', rfl, c0, c1, c2, c3⟩
def wPs (b : Nat) : List PH := [⟨3, 99, some ⟨b, 0, none⟩, 1, [5]⟩]
theorem w_chk (b : Nat) : chk 7 (wPs b) = 0 := rfl
theorem w_mod (b : Nat) : Mod (wPs b) := ⟨by simp [wPs], by simp [wPs]⟩
theorem w_len (b : Nat) : (pack true (tabB 7 (toN (wPs b)) rest0)).length = 38 := by rw [pack_length]; show (List.length (tabB 7 ⟨[3], [99], [[5]]⟩ rest0) + 7) / 8 = 38; decide +kernel
theorem w_enc (b : Nat) : encB 7 (wPs b) = pack true (tabB 7 (toN (wPs b)) rest0) := if_pos (w_chk b)
set_option maxHeartbeats 1000000 in
set_option maxRecDepth 100000 in
theorem works_any (w : World) : Calls Try.prog 9 #[] w fun e w' => e = .returned (.bool true) ∧ Pure w w' := by
  obtain ⟨b1, hb1⟩ : ∃ z, z = w.heap.size := ⟨_, rfl⟩
  obtain ⟨w2, hw2⟩ : ∃ z, z = (w.alloc (.cells #[.int .i64 5] 3)).alloc (.cells #[.int .i64 3, .int .i64 99, .slice (some ⟨b1, 0, none⟩) 1 1] 49) := ⟨_, rfl⟩
  have hP2 : Pure w w2 := hw2 ▸ ((Ext.refl _ w).alloc _).alloc _
  have hH : Hints w2 (some ⟨b1 + 1, 0, none⟩) (wPs b1) := by
    refine ⟨?_, ?_, ?_⟩
    · rw [hw2]; exact row_at _ (by rw [hb1, World.size_alloc]) rfl
    · intro p hp
      obtain rfl := List.mem_singleton.1 hp
      rw [hw2]
      exact (row_at [.int .i64 5] hb1.symm rfl).ext (ext_alloc _ _) (fun _ _ => id)
    · intro p hp
      obtain rfl := List.mem_singleton.1 hp
      exact ⟨Nat.le_refl _, by simp [maxLen, wPs], fun h => by cases h⟩
  have hE := encode_any 7 (some ⟨b1 + 1, 0, none⟩) 1 (wPs b1) w2 hH (w_mod b1)
  unfold EncTo at hE
  rw [w_enc, w_chk, w_len] at hE
  have HE := Lib.hid hE
  have HW2 := Lib.hid hw2
  have HB1 := Lib.hid hb1
  clear hE hw2 hb1 hH
  go_enter Try.func9, Try.ntmps9
  go_wp2_with fail
  rw [← HB1.out, ← HW2.out]
  refine HE.out.mono ?_
  rintro e w3 ⟨ra, rc, rfl, hN⟩
  have hk := chk_ok (w_chk b1) (w_mod b1)
  have hD := decode_tab (r := rest0) [] ra rc _ (List.append_nil _).symm w3 hk (by decide) (by decide) (by decide) (by decide) hN.bytes hN.nil hN.le (by rw [w_len]; decide)
  rw [w_len] at hD
  have hP3 := hP2.pure hN.ext
  have HD := Lib.hid hD
  clear HE HW2 HB1 hN hD hk hP2
  go_wp2_with fail
  refine HD.out.mono ?_
  rintro e w4 ⟨qs, oa, oc, rfl, hq, hH, hP⟩
  obtain ⟨b, o, sb, so, sc, rfl, c0, c1, c2, c3⟩ := one_hint hH hq
  have hP4 := hP3.pure hP
  clear HD hq hH hP3 hP
  go_wp2_with fail
  go_ret
  exact ⟨rfl, hP4⟩
end Go.Proofs.Ytdhejhgpjeenaaa
namespace Go.Proofs.Ytdhejhgpjeenaaa
open Go.ChangeShapes Go.WideShapes Go.ChangeAt Go.RowKit C26
set_option linter.unusedVariables false

set_option maxRecDepth 100000 in
theorem open_hints {H : Type} {enc : TypeId × Value → H} {W : World} {v : Value} {d : DataW H} {p : List MemPlace} {base : Nat}
    (hv : Value.okWide Try.prog W .any base 22 v) (h : DataW.Trod enc Try.prog W 0 (fun _ => true) true 22 v d p) :
    ∃ (a : Option Addr) (c : Nat) (ps : List PH), v = .slice a ps.length c ∧ (ps.length : Int) ≤ 9223372036854775807 ∧ Hints W a ps := by
  obtain ⟨a0, len, cap, rfl⟩ := okWide_slice Try.underlying22 hv
  obtain ⟨fuel, hf⟩ := h
  have s3 : Try.prog.cellsOf 49 = 3 := by kernel_rfl
  have s0 : Try.prog.cellsOf 3 = 1 := by kernel_rfl
  have s1 : Try.prog.cellsOf 47 = 1 := by kernel_rfl
  obtain ⟨a, c, rows, hcs, hl, hm, hn, hq, hrow⟩ := open_rows (size := 3) (Q := fun cs (q : PH) => cs = cellsP q ∧ RowOf W q.sa (q.sh.map numV) ∧ (q.sh.length ≤ q.sc ∧ q.sc ≤ maxLen ∧ (q.sa = none → q.sc = 0))) Try.underlying22 s3 (by decide) (fun n cs y hy hlen => by
    match cs, hlen with
    | [c0, c1, c2], _ =>
      obtain ⟨xs, n', _, hx, _, hlen, hfs⟩ := DataW.trod_struct Try.underlying49 hy
      have h0 : DataW.trod enc Try.prog W 0 (fun _ => true) true n' 3 (([c0, c1, c2].drop 0).take (Try.prog.cellsOf 3)) = xs[0]? := hfs 0 _ rfl
      have h1 : DataW.trod enc Try.prog W 0 (fun _ => true) true n' 3 (([c0, c1, c2].drop 1).take (Try.prog.cellsOf 3)) = xs[1]? := hfs 1 _ rfl
      have h2 : DataW.trod enc Try.prog W 0 (fun _ => true) true n' 47 (([c0, c1, c2].drop 2).take (Try.prog.cellsOf 47)) = xs[2]? := hfs 2 _ rfl
      rw [s0] at h0 h1
      rw [s1] at h2
      simp only [List.drop, List.take] at h0 h1 h2
      match xs, hlen with
      | [y0, y1, y2], _ =>
        simp only [List.getElem?_cons_zero, List.getElem?_cons_succ] at h0 h1 h2
        obtain ⟨o, e0, _, _⟩ := DataW.trod_int Try.underlying3 h0
        obtain ⟨l, e1, _, _⟩ := DataW.trod_int Try.underlying3 h1
        cases e0
        cases e1
        obtain ⟨la, c, rows, hcs, hl, hm, hn, hq, hrow⟩ := open_rows (size := 1) (Q := fun cs (q : Int) => cs = [numV q]) Try.underlying47 s0 (by decide) (fun n cs y hy hlen => by
          match cs, hlen with
          | [z], _ =>
            obtain ⟨x, e, _, _⟩ := DataW.trod_int Try.underlying3 hy
            cases e
            exact ⟨x, rfl⟩) h2
        cases hcs
        exact ⟨⟨o, l, la, c, rows.map (·.2)⟩, by simp [cellsP], row_of_rows (fun r hr => (hq r hr).2) hrow, by simpa using hl, hm, hn⟩) hf
  simp [Value.cells] at hcs
  obtain ⟨rfl, rfl, rfl⟩ := hcs
  have hmap : rows.flatMap (·.1) = (rows.map (·.2)).flatMap cellsP := by
    clear hl hrow hf hv
    induction rows with
    | nil => rfl
    | cons r rows ih => rw [List.flatMap_cons, List.map_cons, List.flatMap_cons, ih (fun r hr => hq r (by simp [hr])), (hq r (by simp)).2.1]
  refine ⟨a0, cap, rows.map (·.2), by simp, by simp; unfold maxLen at hm; omega, ⟨hmap ▸ hrow, fun p hp => ?_, fun p hp => ?_⟩⟩
  · obtain ⟨r, hr, rfl⟩ := List.mem_map.1 hp
    exact (hq r hr).2.2.1
  · obtain ⟨r, hr, rfl⟩ := List.mem_map.1 hp
    exact (hq r hr).2.2.2
end Go.Proofs.Ytdhejhgpjeenaaa
