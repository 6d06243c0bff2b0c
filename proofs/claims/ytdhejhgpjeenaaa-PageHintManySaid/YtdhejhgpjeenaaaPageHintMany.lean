/-
  PageHintMany: hints of pages that all have the same shared numbers are encoded if there are at most 65536 of them together, and come back. No condition.
-/
import Derived.Test.YtdhejhgpjeenaaaWorks
namespace Go.Proofs.Ytdhejhgpjeenaaa.pageHintMany
open Go.ChangeShapes Go.WideShapes Go.ChangeAt Go.RowKit Go.Proofs.Ytdhejhgpjeenaaa C26
set_option linter.unusedVariables false

def pg (rb m i : Nat) : PH := ⟨(i : Int) + 1, 100 * ((i : Int) + 1), some ⟨rb, 0, none⟩, m, (List.range m).map (fun x : Nat => (x : Int))⟩
def pgs (rb m n : Nat) : List PH := (List.range n).map (pg rb m)
theorem pgs_len (rb m n : Nat) : (pgs rb m n).length = n := by simp [pgs]
theorem pgs_mod {rb m n : Nat} (hn : n ≤ 40) (hm : m ≤ 3000) : Mod (pgs rb m n) := by
  refine ⟨by rw [pgs_len]; exact hn, fun p hp => ?_⟩
  obtain ⟨i, _, rfl⟩ := List.mem_map.1 hp
  simpa [pg] using hm
theorem pgs_tot (rb m n : Nat) : totS (pgs rb m n) = n * m := by
  unfold totS pgs
  rw [List.map_map]
  have : ((fun p : PH => p.sh.length) ∘ pg rb m) = fun _ => m := by funext i; simp [pg]
  rw [this, List.map_const', List.length_range]
  induction n with
  | zero => simp
  | succ n ih => rw [List.replicate_succ, List.sum_cons, ih, Nat.add_mul]; omega
theorem pgs_chk {rb m n : Nat} (h1 : 1 ≤ n) (hn : n ≤ 40) (hm : m ≤ 3000) : chk 9 (pgs rb m n) = if 65536 < n * m then 3 else 0 := by
  rw [chk_end (by decide) (inB_true.2 ⟨by rw [pgs_len]; omega, by rw [pgs_len]; omega⟩) (fun p hp => ?_), pgs_tot]
  obtain ⟨i, hi, rfl⟩ := List.mem_map.1 hp
  rw [List.mem_range] at hi
  refine okP_true (List.any_eq_false.2 fun x hx => ?_) (inB_true.2 ⟨by simp only [pg]; omega, by simp only [pg]; omega⟩) (inB_true.2 ⟨by simp only [pg]; omega, by simp only [pg]; omega⟩)
  simp only [pg, List.mem_map, List.mem_range] at hx
  obtain ⟨j, hj, rfl⟩ := hx
  have h6 : inB (j : Int) 0 4095 = true := inB_true.2 ⟨by omega, by omega⟩
  simp [odd, h6]
theorem outIs_there {W : World} {ob n : Nat} {ps : List PH} (h : OutIs W ob n ps) (k : Nat) (hk : k < ps.length) : W.there ob (k * 3) 3 := fun j hj => by
  obtain ⟨u, hu⟩ : ∃ u, (cellsP ps[k])[j]? = some u := ⟨_, List.getElem?_eq_getElem (show j < 3 by exact hj)⟩
  obtain ⟨⟨y, hy⟩, hf, _⟩ := h.set k j hk hj u ps[k] (by
    apply List.ext_getElem?
    intro i
    rw [List.getElem?_set]
    split
    · next e => subst e; rw [hu]; simp [(List.getElem?_eq_some_iff.1 hu).1]
    · rfl)
  exact ⟨by rw [hy]; rfl, hf⟩
theorem outIs_setAll {W : World} {ob n : Nat} {ps : List PH} (h : OutIs W ob n ps) (k : Nat) (hk : k < ps.length) (p : PH) : OutIs (W.setCells ob (k * 3) (cellsP p)) ob n (ps.set k p) := by
  obtain ⟨_, _, h0⟩ := h.set k 0 hk (by omega) (.int .i64 p.o) { ps[k] with o := p.o } rfl
  obtain ⟨_, _, h1⟩ := h0.set k 1 (by simpa using hk) (by omega) (.int .i64 p.l) { ps[k] with o := p.o, l := p.l } (by rw [List.getElem_set_self]; rfl)
  obtain ⟨_, _, h2⟩ := h1.set k 2 (by simpa using hk) (by omega) (.slice p.sa p.sh.length p.sc) p (by rw [List.getElem_set_self]; rfl)
  rw [List.set_set, List.set_set] at h2
  exact h2
set_option maxHeartbeats 4000000 in
set_option maxRecDepth 100000 in
theorem walk (p s : Nat) (w : World) (hp : p ≤ 65535) (hs : s ≤ 65535) :
    Calls Try.prog 7 #[.int .u16 p, .int .u16 s] w fun e w' => e = .returned (.bool true) ∧ Below w.heap.size w w' := by
  obtain ⟨pi, hpi, hpz, hps, hpbb⟩ := info_parts infoPage
  have HPI := Lib.hid hpi
  have HPZ := Lib.hid hpz
  have HPS := Lib.hid hps
  have HPB := Lib.hid hpbb
  obtain ⟨ii, hii, hiz, his, hib⟩ := info_parts infoInt
  have HII := Lib.hid hii
  have HIZ := Lib.hid hiz
  have HIS := Lib.hid his
  have HIB := Lib.hid hib
  clear hpi hpz hps hpbb hii hiz his hib
  obtain ⟨n, hn⟩ : ∃ n, n = 1 + p % 40 := ⟨_, rfl⟩
  obtain ⟨m, hm⟩ : ∃ m, m = s % 3001 := ⟨_, rfl⟩
  have hn1 : 1 ≤ n := by omega
  have hn2 : n ≤ 40 := by omega
  have hm2 : m ≤ 3000 := by omega
  have en : 1 + (p : Int) % 40 = (n : Int) := by omega
  have em : (s : Int) % 3001 = (m : Int) := by omega
  clear hn hm
  go_enter Try.func7, Try.ntmps7
  go_wp2_with (refine wpList_make_full w rfl (.tmp 24) (.tmp 24) 22 rfl w.heap.size 49 pi (.agg #[.int .i64 0, .int .i64 0, .slice none 0 0]) 3 Try.underlying22 HPI.out HPZ.out HPS.out .i64 .i64 (n : Int) (n : Int) n rfl rfl rfl rfl (by rw [HPB.out]; omega) (by unfold maxLen; omega) (Nat.le_refl _) ?_)
  intro w1 hO1 hg1
  rw [made_pages] at hO1
  obtain ⟨ob, hob⟩ : ∃ z, z = w.heap.size := ⟨_, rfl⟩
  have hOut1 : OutIs w1 ob n (List.replicate n noPage) := ⟨by rw [hob]; exact hO1, List.length_replicate⟩
  have hP1 : Pure w w1 := (ext_of_grown hg1).mono (fun _ _ e => by cases e)
  have hwo : w.heap.size ≤ ob := by omega
  rw [← hob]
  clear hO1 hg1 hob en em
  obtain ⟨rb, hrb⟩ : ∃ z, z = w1.heap.size := ⟨_, rfl⟩
  have hor : ob < rb := by rw [hrb]; exact hOut1.lt
  have HRb := Lib.hid hrb
  clear hrb
  go_wp2_with (refine wpList_make_full w1 rfl (.tmp 26) (.tmp 26) 47 rfl rb 3 ii (.int .i64 0) 1 Try.underlying47 HII.out HIZ.out HIS.out .i64 .i64 (m : Int) (m : Int) m rfl rfl rfl rfl (by rw [HIB.out]; omega) (by unfold maxLen; omega) (Nat.le_of_eq HRb.out) ?_)
  rw [← HRb.out]
  intro w2 hO2 hg2
  have hP12 : Pure w1 w2 := (ext_of_grown hg2).mono (fun _ _ e => by cases e)
  have hOut2 := hOut1.ext hP12 id
  have hP2 := hP1.pure hP12
  clear hg2 hP12 hOut1 hP1 HRb
  go_wp2_with fail
  go_loopw [9] (fun i W => ∃ (k : Nat) (xs : List Value), k ≤ m ∧ i = .int .i64 k ∧ Hid (xs.take k = (List.range k).map intV) ∧ W.ownsRow rb 3 1 (.slice (some ⟨rb, 0, none⟩) m m) m xs ∧ Ext (fun i => i = rb) w2 W) (fun i _ => m - (intOf i).toNat)
  case atStart => exact ⟨0, _, Nat.zero_le _, rfl, Lib.hid (by simp), hO2, Ext.refl _ _⟩
  case round =>
    obtain ⟨k, xs, hk, rfl, HX, hO, hE⟩ := hrel
    clear hO2
    by_cases hlt : k < m
    · have hki : (k : Int) < (m : Int) := by omega
      obtain ⟨g, hg, _, ⟨y, hy⟩, hf, hO'⟩ := own_set hO k hlt (intV k)
      cases hg
      have hxl : xs.length = m := by have := hO.1; omega
      have HX' : Hid ((xs.set k (intV k)).take (k + 1) = (List.range (k + 1)).map intV) := Lib.hid (by rw [take_set_succ xs k _ (by omega), HX.out, List.range_succ, List.map_append]; rfl)
      have hE' := hE.setCell (p := ⟨rb, k, none⟩) (fun _ => rfl) (intV k)
      clear hO hE
      unfold intV at hO' hE'
      go_wp2_with fail
      go_roundw
      case rel => exact ⟨k + 1, _, by omega, by go_num, HX', hO', hE'⟩
      case measure => simp [intOf]; omega
    · have hki : ¬ (k : Int) < (m : Int) := by omega
      obtain rfl : m = k := by omega
      have hxs : xs = (List.range m).map intV := by
        have hxl : xs.length = m := by have := hO.1; omega
        have := HX.out
        rwa [List.take_of_length_le (by omega)] at this
      have hRow3 : RowOf wr (some ⟨rb, 0, none⟩) ((List.range m).map intV) := hxs ▸ own_row hO
      have hOut3 := hOut2.ext hE (by omega)
      have hP3 : Pure w wr := hP2.trans hE (fun i hi e => by have e' : i = rb := e; omega)
      obtain ⟨w3, rfl⟩ : ∃ z : World, z = wr := ⟨_, rfl⟩
      clear hxs HX hO hE hOut2 hP2 hki
      go_wp2_with fail
      go_loopw [10] (fun i W => ∃ (k : Nat) (ps : List PH), k ≤ n ∧ i = .int .i64 k ∧ Hid (ps.take k = pgs rb m k) ∧ OutIs W ob n ps ∧ Ext (fun i => i = ob) w3 W) (fun i _ => n - (intOf i).toNat)
      case atStart => exact ⟨0, _, Nat.zero_le _, rfl, Lib.hid (by simp [pgs]), hOut3, Ext.refl _ _⟩
      case round =>
        obtain ⟨k, ps, hk, rfl, HPs, hO, hE⟩ := hrel
        clear hOut3
        by_cases hlt : k < n
        · have hki : (k : Int) < (n : Int) := by omega
          have hkp : k < ps.length := by have := hO.len; omega
          have hTh := outIs_there hO k hkp
          have hO' := outIs_setAll hO k hkp (pg rb m k)
          have hcs : cellsP (pg rb m k) = [.int .i64 ((k : Int) + 1), .int .i64 (100 * ((k : Int) + 1)), .slice (some ⟨rb, 0, none⟩) m m] := by simp [cellsP, pg]
          rw [hcs] at hO'
          have hE' := Ext.setCells (b := ob) [.int .i64 ((k : Int) + 1), .int .i64 (100 * ((k : Int) + 1)), .slice (some ⟨rb, 0, none⟩) m m] (k * 3) wr hE (fun _ => rfl)
          have HPs' : Hid ((ps.set k (pg rb m k)).take (k + 1) = pgs rb m (k + 1)) := Lib.hid (by
            rw [List.take_succ_eq_append_getElem (by simpa using hkp)]
            simp only [List.take_set_of_le (Nat.le_refl k), List.getElem_set_self]
            rw [HPs.out]; simp [pgs, List.range_succ])
          have hAll : (#[.int .i64 ((k : Int) + 1), .int .i64 (100 * ((k : Int) + 1)), .slice (some ⟨rb, 0, none⟩) m m] : Array Value).all (fun v => v.oneCell') = true := all_oneCell_toArray (cs := [.int .i64 ((k : Int) + 1), .int .i64 (100 * ((k : Int) + 1)), .slice (some ⟨rb, 0, none⟩) m m]) (by intro v hv; simp only [List.mem_cons, List.not_mem_nil, or_false] at hv; rcases hv with rfl | rfl | rfl <;> rfl)
          have HAll := Lib.hid hAll
          clear hcs hO hE hAll
          go_wp2_with (refine wpList_store_mid rfl 49 (.tmp 51) (.tmp 50) rfl ob (k * 3) #[.int .i64 ((k : Int) + 1), .int .i64 (100 * ((k : Int) + 1)), .slice (some ⟨rb, 0, none⟩) m m] rfl rfl hTh (by kernel_rfl) HAll.out ?_)
          go_roundw
          case rel => exact ⟨k + 1, _, by omega, by go_num, HPs', hO', hE'⟩
          case measure => simp [intOf]; omega
        · have hki : ¬ (k : Int) < (n : Int) := by omega
          obtain rfl : n = k := by omega
          have hps : ps = pgs rb m n := by
            have := HPs.out
            rwa [List.take_of_length_le (by have := hO.len; omega)] at this
          subst hps
          have hRow4 := hRow3.ext hE (fun g hg e => by cases hg; have e' : rb = ob := e; omega)
          have hP4 : Pure w wr := hP3.trans hE (fun i hi e => by have e' : i = ob := e; omega)
          have hH : Hints wr (some ⟨ob, 0, none⟩) (pgs rb m n) := ⟨own_row hO.own, fun p hp => by
            obtain ⟨i, _, rfl⟩ := List.mem_map.1 hp
            simp only [pg, List.map_map]
            exact hRow4, fun p hp => by
            obtain ⟨i, _, rfl⟩ := List.mem_map.1 hp
            exact ⟨by simp [pg], by simp only [pg]; unfold maxLen; omega, fun h => by cases h⟩⟩
          have hm' := pgs_mod (rb := rb) hn2 hm2
          have hck := pgs_chk (rb := rb) hn1 hn2 hm2
          obtain ⟨t, ht⟩ : ∃ t, t = n * m := ⟨_, rfl⟩
          rw [← ht] at hck
          have ht2 : t ≤ 120000 := by rw [ht]; exact Nat.mul_le_mul hn2 hm2
          have hti : (n : Int) * (m : Int) = (t : Int) := by rw [ht]; push_cast; rfl
          have HEn0 := encode_any 9 (some ⟨ob, 0, none⟩) n (pgs rb m n) wr hH hm'
          unfold EncTo at HEn0
          rw [pgs_len] at HEn0
          clear ht hRow3 hRow4 hP3 hO hE HPs hki hk
          by_cases hbig : 65536 < t
          · rw [if_pos hbig] at hck
            have hB : encB 9 (pgs rb m n) = [] := if_neg (by rw [hck]; decide)
            rw [hB, hck] at HEn0
            have HEn := Lib.hid HEn0
            have hbi : (65536 : Int) < (t : Int) := by omega
            clear HEn0 hB hck hm' hH hbig
            go_wp2_with fail
            refine HEn.out.mono ?_
            rintro e w5 ⟨ra, rc, rfl, hN⟩
            have hQ5 := hP4.pure hN.ext
            clear hN HEn
            go_wp2_with fail
            refine (works_any _).mono ?_
            rintro e w6 ⟨rfl, hP6⟩
            go_wp2_with fail
            go_ret
            exact ⟨rfl, (hQ5.pure hP6).below⟩
          · rw [if_neg hbig] at hck
            have hk := chk_ok hck hm'
            obtain ⟨P, hPP⟩ : ∃ P, P = pack true (tabB 9 (toN (pgs rb m n)) rest0) := ⟨_, rfl⟩
            have htl : P.length ≤ 600000 := hPP ▸ tab_len hk.ok (by decide) (by decide) (by decide)
            have hB : encB 9 (pgs rb m n) = P := by rw [hPP]; exact if_pos hck
            rw [hB, hck] at HEn0
            have HDe0 := fun (ra : Option Addr) (rc : Nat) W (h1 : Bytes W ra P) (h2 : ra = none → rc = 0) (h3 : P.length ≤ rc) => decode_tab (a := 9) (ps := pgs rb m n) (r := rest0) [] ra rc P (by rw [hPP, List.append_nil]) W hk (by decide) (by decide) (by decide) (by decide) h1 h2 h3 (by omega)
            unfold HintsTo at HDe0
            rw [← hPP, pgs_len] at HDe0
            have HSa0 := fun W (qs : List PH) (qa : Option Addr) (qc : Nat) (hP : Pure wr W) (h1 : Hints W qa qs) (h2 : qs.map pv = (pgs rb m n).map pv) => same_any qa qc qs (some ⟨ob, 0, none⟩) n (pgs rb m n) W h1 (hH.pure hP) (by have := congrArg List.length h2; simp [pgs_len] at this; omega) (by rw [pgs_len]; omega)
            have HEn := Lib.hid HEn0
            have HDe := Lib.hid HDe0
            have HSa := Lib.hid HSa0
            have hbi : ¬ (65536 : Int) < (t : Int) := by omega
            clear HEn0 HDe0 HSa0 hPP hB hck hm' hH hbig hk
            go_wp2_with fail
            refine HEn.out.mono ?_
            rintro e w5 ⟨ra, rc, rfl, hN⟩
            have hPN := hN.ext
            have HD := Lib.hid (HDe.out ra rc w5 hN.bytes hN.nil hN.le)
            clear hN HEn HDe
            go_wp2_with fail
            refine HD.out.mono ?_
            rintro e w6 ⟨qs, oa, oc, rfl, hq1, hH6, hP6⟩
            have hql : qs.length = n := by have := congrArg List.length hq1; simpa [pgs_len] using this
            have hQ6 := hPN.pure hP6
            have HS := HSa.out w6 qs oa oc hQ6 hH6 hq1
            rw [alike_refl qs _ hq1, hql, pgs_len] at HS
            have HS := Lib.hid HS
            clear HD hq1 hH6 hql HSa hti
            go_wp2_with fail
            refine HS.out.mono ?_
            rintro e w7 ⟨rfl, hP7⟩
            go_wp2_with fail
            refine (works_any _).mono ?_
            rintro e w8 ⟨rfl, hP8⟩
            go_wp2_with fail
            go_ret
            exact ⟨rfl, (((hP4.pure hQ6).pure hP7).pure hP8).below⟩

set_option maxRecDepth 100000 in
theorem lifted (os : Os) (started : os.Started) (H : Type) (enc : TypeId × Value → H) :
    ReturnsInHanded {} Try.checked os 7 .any (Rows.pageHintManySpec.pre6 enc Try.prog Try.f7 Rows.pageHintManyRow.domain false) (Rows.pageHintManySpec.post enc Try.prog Try.f7 false true false false) := by
  refine returnsInHanded_of_change (C := Try.checked) own started (by kernel_rfl) Try.func7
    (ChangeSpec.witness6 (enc := enc) (C := Try.checked) false ⟨#[], #[.int .u16 0, .int .u16 0], []⟩ 8 (by kernel_rfl) (by kernel_rfl) (by kernel_rfl) (by kernel_rfl)) ?_
  intro W base args ds gs before hval0 hW hcnd _
  have hval : ∀ (j : Nat) t v, Try.f7.params[j]? = some t → args[j]? = some v → Value.okWide Try.prog W .any base t v := hval0
  have hW' := hW
  obtain ⟨p, q, hA0, hV, rfl, hfz, hnd⟩ := hW
  have hA : DataW.TrodAll enc Try.prog W 0 (fun _ => true) true Try.f7.params.toList args.toList ds p := hA0
  rw [Try.params7] at hA hval
  obtain ⟨v0, vs0, d0, ds0, p0, q0, hargs, rfl, rfl, h0, r0⟩ := trodAll_cons hA
  obtain ⟨v1, vs1, d1, ds1, p1, q1, rfl, rfl, rfl, h1, r1⟩ := trodAll_cons r0
  obtain ⟨rfl, rfl, rfl⟩ := trodAll_nil r1
  obtain rfl : args = #[v0, v1] := by cases args; simp_all
  obtain ⟨rfl, rfl⟩ := trodVars_none hV
  have k0 := h0
  have lt0 : ∀ x ∈ p0, x.block < W.heap.size := by obtain ⟨m, hm⟩ := k0; exact DataW.trod_lt m _ _ _ hm
  have k1 := h1
  have lt1 : ∀ x ∈ p1, x.block < W.heap.size := by obtain ⟨m, hm⟩ := k1; exact DataW.trod_lt m _ _ _ hm
  obtain ⟨x0, rfl, rfl, rfl, wx0⟩ := open_int Try.underlying46 (hval 0 46 v0 rfl rfl) h0
  obtain ⟨x1, rfl, rfl, rfl, wx1⟩ := open_int Try.underlying46 (hval 1 46 v1 rfl rfl) h1
  clear hA0 hval0
  have hx0 : 0 ≤ x0 ∧ x0 ≤ 65535 := (by simpa [Lit.wf, IntKind.min, IntKind.max, IntKind.signed, IntKind.bits] using wx0); have hx1 : 0 ≤ x1 ∧ x1 ≤ 65535 := (by simpa [Lit.wf, IntKind.min, IntKind.max, IntKind.signed, IntKind.bits] using wx1); obtain ⟨p, rfl⟩ : ∃ p : Nat, x0 = (p : Int) := ⟨x0.toNat, by omega⟩; obtain ⟨s, rfl⟩ : ∃ s : Nat, x1 = (s : Int) := ⟨x1.toNat, by omega⟩
  refine (walk p s W (by omega) (by omega)).mono fun e W' ⟨he, bel⟩ => ?_
  subst he
  exact ⟨_, rfl, _, _, _, [], _, [], hW', trodAll_mk1 (shut_bool Try.underlying4 _), (trodAll_cons_mk (Below.trod laidOut (by kernel_rfl) (of_decide_eq_true (by kernel_rfl)) k0 bel lt0) (trodAll_cons_mk (Below.trod laidOut (by kernel_rfl) (of_decide_eq_true (by kernel_rfl)) k1 bel lt1) trodAll_mk0)), rfl, bel.frame _, fun h => by cases h⟩

theorem proved : Rows.PageHintManySaid :=
  OpenClaim.holds_of_wide 7 Try.f7 rfl rfl rfl rfl rfl rfl rfl ⟨rfl, rfl, rfl, rfl, rfl⟩ rfl rfl rfl rfl rfl (by kernel_rfl) Try.func7 (by kernel_rfl)
    (of_decide_eq_true (by kernel_rfl)) (by unfold Func.isWrapper; first | (rw [if_pos (by decide +kernel)]; kernel_rfl) | (rw [if_neg (by decide +kernel)]; exact ⟨rfl, rfl⟩))
    (fun os started H enc _ => lifted os started H enc)
#print axioms proved
end Go.Proofs.Ytdhejhgpjeenaaa.pageHintMany
