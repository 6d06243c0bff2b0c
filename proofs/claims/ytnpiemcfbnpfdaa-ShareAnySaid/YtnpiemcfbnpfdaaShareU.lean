/-
  Walked: share.uses, in how many rows each number is.
-/
import Derived.Test.YtnpiemcfbnpfdaaSharePl
import Derived.Test.YtnpiemcfbnpfdaaRowPut
import Derived.Test.YtnpiemcfbnpfdaaDocD
import Derived.Maps.OwnOps
namespace Go.Proofs.Ytnpiemcfbnpfdaa
open Go.RowKit Go.Maps
set_option linter.unusedVariables false
set_option linter.unusedSimpArgs false

/-- rows of numbers in memory -/
structure Rws (W : World) (a : Option Addr) (rs : List CRow) : Prop where
  row : RowOf W a (rs.map CRow.v)
  has : ∀ q ∈ rs, RowOf W q.a (intsV q.l)
def lsR (rs : List CRow) : List (List Int) := rs.map (·.l)
theorem Rws.ext {S : Nat → Prop} {W W' : World} {a : Option Addr} {rs : List CRow} (h : Rws W a rs) (hE : Ext S W W') (h1 : ∀ x, a = some x → ¬ S x.block) (h2 : ∀ q ∈ rs, ∀ x, q.a = some x → ¬ S x.block) : Rws W' a rs :=
  ⟨h.row.ext hE h1, fun q hq => (h.has q hq).ext hE (h2 q hq)⟩
theorem Rws.pure {W W' : World} {a : Option Addr} {rs : List CRow} (h : Rws W a rs) (hP : Pure W W') : Rws W' a rs := h.ext hP (fun _ _ => id) (fun _ _ _ _ => id)
theorem Rws.get {W : World} {a : Option Addr} {rs : List CRow} (h : Rws W a rs) {p : Nat} (hp : p < rs.length) : ∃ b o, a = some ⟨b, o, none⟩ ∧ W.cell? ⟨b, o + p, none⟩ = some (.slice rs[p].a rs[p].l.length rs[p].c) :=
  h.row p _ (by rw [List.getElem?_map, List.getElem?_eq_getElem hp]; rfl)
theorem lsR_len (rs : List CRow) : (lsR rs).length = rs.length := by unfold lsR; rw [List.length_map]
theorem lsR_get {rs : List CRow} {p : Nat} (hp : p < rs.length) : (lsR rs)[p]'(by rw [lsR_len]; exact hp) = rs[p].l := by unfold lsR; rw [List.getElem_map]
theorem lsR_getD {rs : List CRow} {p : Nat} (hp : p < rs.length) : (lsR rs).getD p [] = rs[p].l := by rw [getD_at _ p (by rw [lsR_len]; exact hp), lsR_get hp]
def useD (a b : Int) : DataW Unit := .agg [.lit (.int .i64 a), .lit (.int .i64 b)]
def useR (v : Value) : Option (DataW Unit × List MemPlace) := match v with
  | .agg cs => match cs.toList with
    | [.int .i64 a, .int .i64 b] => some (useD a b, [])
    | _ => none
  | _ => none
theorem useR_mk (a b : Int) : useR (.agg #[.int .i64 a, .int .i64 b]) = some (useD a b, []) := rfl
theorem useR_inv {v : Value} {z : DataW Unit × List MemPlace} (h : useR v = some z) : ∃ a b, v = .agg #[.int .i64 a, .int .i64 b] ∧ z = (useD a b, []) := by
  unfold useR at h
  split at h
  · rename_i cs
    split at h
    · rename_i a b e
      cases h
      exact ⟨a, b, by rw [show cs = #[.int .i64 a, .int .i64 b] from by rw [← Array.toArray_toList (xs := cs), e]], rfl⟩
    · cases h
  · cases h
theorem useR_at {v : Value} {u l : Int} {ps : List MemPlace} (h : useR v = some (useD u l, ps)) : v = .agg #[.int .i64 u, .int .i64 l] := by
  obtain ⟨a, b, rfl, hz⟩ := useR_inv h
  unfold useD at hz
  simp only [Prod.mk.injEq, DataW.agg.injEq, List.cons.injEq, DataW.lit.injEq, Lit.int.injEq, true_and, and_true] at hz
  obtain ⟨⟨rfl, rfl⟩, _⟩ := hz
  rfl
theorem zeroUse (w : World) : (zeroValue 56).run Try.prog w = .ok (.agg #[.int .i64 0, .int .i64 0]) w := by kernel_rfl
theorem wpList_lookup_use {w : World} {ops : Array Oper} {rest : List Oper} {o : Oper} {a : Act} {Q : Exit → Act → World → Prop} (hg : o.guard = none) (m x : Operand) (hop : o.op = Op.lookup 51 m x true)
    (B n : Nat) (D : DataW Unit) (hm : a.eval m = .map (some B)) (hown : w.ownsMap Try.prog 3 useR B n D) (k : Int) (hx : a.eval x = .int .i64 k) (hw : (Lit.int .i64 k).wf = true)
    (u l : Int) (hat : D.atKey (.int .i64 k) (useD 0 0) = useD u l) (b : Bool) (hb : Maps.has D (.int .i64 k) = b)
    (hK : wpList Try.prog ops Q rest (a.put o.dst (.tuple #[.agg #[.int .i64 u, .int .i64 l], .bool b])) w) : wpList Try.prog ops Q (o :: rest) a w :=
  wpList_lookup_own_ok w hg m x _ hop 3 56 lawInt Try.underlying51 useR (zeroUse _) (useD 0 0) [] (useR_mk 0 0) B n D hm hown _ _ hx (keyOf_int_mk Try.underlying3 hw) (fun v ps hv => by
    rw [hat] at hv
    obtain rfl := useR_at hv
    rw [hb]
    exact hK)
theorem wpList_lookup_use1 {w : World} {ops : Array Oper} {rest : List Oper} {o : Oper} {a : Act} {Q : Exit → Act → World → Prop} (hg : o.guard = none) (m x : Operand) (hop : o.op = Op.lookup 51 m x false)
    (B n : Nat) (D : DataW Unit) (hm : a.eval m = .map (some B)) (hown : w.ownsMap Try.prog 3 useR B n D) (k : Int) (hx : a.eval x = .int .i64 k) (hw : (Lit.int .i64 k).wf = true)
    (u l : Int) (hat : D.atKey (.int .i64 k) (useD 0 0) = useD u l)
    (hK : wpList Try.prog ops Q rest (a.put o.dst (.agg #[.int .i64 u, .int .i64 l])) w) : wpList Try.prog ops Q (o :: rest) a w := by
  refine wpList_plain hg fun K' hK' => ?_
  obtain ⟨v, ps, hrun, hv⟩ := hown.lookup lawInt Try.underlying51 (zeroUse _) (useR_mk 0 0) (keyOf_int_mk Try.underlying3 hw)
  rw [hat] at hv
  obtain rfl := useR_at hv
  unfold Oper.wp
  simp [execOp, hop, hm, hx, hrun, Result.andThen]
  exact hK' _ _ hK
/-- the map of uses: the rows ahead of p are counted, and j numbers of the row p -/
structure UseI (rows : List (List Int)) (p j B cnt : Nat) (D : DataW Unit) (L : Int → Int) (W : World) : Prop where
  own : W.ownsMap Try.prog 3 useR B cnt D
  is : IsMap D
  few : cnt ≤ ((rows.take p).flatten).length + j
  look : ∀ x, D.atKey (.int .i64 x) (useD 0 0) = useD (useP rows p j x : Nat) (L x)
  has : ∀ x, Maps.has D (.int .i64 x) = decide (0 < useP rows p j x)
  last : ∀ x, 0 < useP rows p j x → L x ≤ p ∧ (L x = p ↔ x ∈ (rows.getD p []).take j)
theorem UseI.pure {rows : List (List Int)} {p j B cnt : Nat} {D : DataW Unit} {L : Int → Int} {W W' : World} (h : UseI rows p j B cnt D L W) (hP : Pure W W') : UseI rows p j B cnt D L W' :=
  ⟨own_map_ext h.own hP id, h.is, h.few, h.look, h.has, h.last⟩
theorem UseI.skip {rows : List (List Int)} {p j B cnt : Nat} {D : DataW Unit} {L : Int → Int} {W : World} (h : UseI rows p j B cnt D L W) (hp : p < rows.length) (hj : j < rows[p].length) (hx : rows[p][j] ∈ rows[p].take j) : UseI rows p (j + 1) B cnt D L W := by
  have e : ∀ x, useP rows p (j + 1) x = useP rows p j x := fun x => by
    rw [useP_step rows p j hp hj, if_neg]
    rintro ⟨rfl, h2⟩
    exact h2 hx
  refine ⟨h.own, h.is, by have := h.few; omega, fun x => by rw [e]; exact h.look x, fun x => by rw [e]; exact h.has x, fun x hx0 => ?_⟩
  rw [e] at hx0
  obtain ⟨h1, h2⟩ := h.last x hx0
  refine ⟨h1, h2.trans ?_⟩
  rw [getD_at rows p hp, List.take_succ_eq_append_getElem hj, List.mem_append, List.mem_singleton]
  exact ⟨Or.inl, fun h => h.elim id (fun e => e ▸ hx)⟩
theorem UseI.put {rows : List (List Int)} {p j B cnt : Nat} {D : DataW Unit} {L : Int → Int} {W W' : World} (h : UseI rows p j B cnt D L W) (hp : p < rows.length) (hj : j < rows[p].length) {x : Int} (hxe : rows[p][j] = x) (hx : x ∉ rows[p].take j)
    (hO : W'.ownsMap Try.prog 3 useR B (cnt + 1) (D.put (.int .i64 x) (useD ((useP rows p j x : Nat) + 1) p))) : UseI rows p (j + 1) B (cnt + 1) (D.put (.int .i64 x) (useD ((useP rows p j x : Nat) + 1) p)) (fun y => if y = x then p else L y) W' := by
  have e1 : useP rows p (j + 1) x = useP rows p j x + 1 := by rw [useP_step rows p j hp hj, if_pos ⟨hxe.symm, hx⟩]
  have e2 : ∀ y, y ≠ x → useP rows p (j + 1) y = useP rows p j y := fun y hy => by rw [useP_step rows p j hp hj, if_neg]; rintro ⟨rfl, _⟩; exact hy hxe
  have e3 : ∀ y, y ∈ (rows.getD p []).take (j + 1) ↔ y ∈ (rows.getD p []).take j ∨ y = x := fun y => by
    rw [getD_at rows p hp, List.take_succ_eq_append_getElem hj, List.mem_append, List.mem_singleton, hxe]
  refine ⟨hO, h.is.put _ _, by have := h.few; omega, fun y => ?_, fun y => ?_, fun y hy0 => ?_⟩
  · by_cases hy : y = x
    · subst hy
      rw [atKey_put_same h.is (k := .int .i64 y) trivial, e1]
      simp
    · rw [atKey_put_other (fun e' => hy (by cases e'; rfl)), h.look, e2 y hy]
      simp [hy]
  · by_cases hy : y = x
    · subst hy
      rw [has_put_same h.is (k := .int .i64 y) trivial, e1]
      simp
    · rw [has_put_other (fun e' => hy (by cases e'; rfl)), h.has, e2 y hy]
  · by_cases hy : y = x
    · subst hy
      refine ⟨?_, ?_⟩
      · simp
      · rw [e3]
        simp
    · rw [e2 y hy] at hy0
      obtain ⟨h1, h2⟩ := h.last y hy0
      simp only [if_neg hy]
      refine ⟨h1, h2.trans ?_⟩
      rw [e3]
      exact ⟨Or.inl, fun h => h.elim id (fun e => absurd e hy)⟩
theorem UseI.next {rows : List (List Int)} {p B cnt : Nat} {D : DataW Unit} {L : Int → Int} {W : World} (hp : p < rows.length) (h : UseI rows p rows[p].length B cnt D L W) : UseI rows (p + 1) 0 B cnt D L W := by
  refine ⟨h.own, h.is, ?_, fun x => by rw [useP_row rows p hp]; exact h.look x, fun x => by rw [useP_row rows p hp]; exact h.has x, fun x hx => ?_⟩
  · have h1 := h.few
    rw [take_flat rows p hp, List.flatten_append, List.length_append]
    simpa using h1
  · rw [useP_row rows p hp] at hx
    have h1 := (h.last x hx).1
    refine ⟨by omega, ?_⟩
    rw [List.take_zero]
    constructor
    · intro e; omega
    · intro e; cases e
theorem useP_le (rows : List (List Int)) (p j : Nat) (x : Int) : useP rows p j x ≤ rows.length + 1 := by
  unfold useP
  have h1 := manyP_le (rows.take p) x
  rw [List.length_take] at h1
  split <;> omega
/-- behind uses -/
def UsesTo (rows : List (List Int)) (w : World) (e : Ending) (w' : World) : Prop :=
  ∃ B cnt D, ∃ L : Int → Int, e = .returned (.map (some B)) ∧ w'.ownsMap Try.prog 3 useR B cnt D ∧ w.heap.size ≤ B ∧ (∀ x, D.atKey (.int .i64 x) (useD 0 0) = useD (manyP rows x : Nat) (L x)) ∧ Pure w w'
set_option maxHeartbeats 4000000 in
set_option maxRecDepth 100000 in
theorem uses_any (rs : List CRow) (a : Option Addr) (c : Nat) (w : World) (hR : Rws w a rs) (hwf : ∀ q ∈ rs, ∀ x ∈ q.l, (Lit.int .i64 x).wf = true) (hn : rs.length ≤ 1000000) (hm : ∀ q ∈ rs, q.l.length ≤ 1000000) (ht : (lsR rs).flatten.length ≤ 1000000000) :
    Calls Try.prog 18 #[.slice a rs.length c] w (UsesTo (lsR rs) w) := by
  have hmm := @run_makeMap Try.prog
  have HR := Lib.hid hR
  have HWf := Lib.hid hwf
  have HM := Lib.hid hm
  have HT := Lib.hid ht
  obtain ⟨n, hN⟩ : ∃ z, z = rs.length := ⟨_, rfl⟩
  rw [← hN] at hn ⊢
  have HN := Lib.hid hN
  clear hR hwf hm ht hN
  go_enter Try.func18, Try.ntmps18
  go_wp2_with fail
  clear hmm
  have h0 : UseI (lsR rs) 0 0 w.heap.size 0 (.map []) (fun _ => 0) (w.alloc (.map #[] 0)) := by
    have e : ∀ x, useP (lsR rs) 0 0 x = 0 := fun x => by unfold useP; simp [manyP]
    refine ⟨World.ownsMap_made _ _ _ _, isMap_empty, Nat.zero_le _, fun x => by rw [e]; rfl, fun x => by rw [e]; rfl, fun x hx => ?_⟩
    rw [e] at hx
    omega
  have H0 := Lib.hid h0
  have HP0 : Hid (Pure w (w.alloc (.map #[] 0))) := Lib.hid (ext_alloc _ _)
  obtain ⟨B, hB⟩ : ∃ z, z = w.heap.size := ⟨_, rfl⟩
  rw [← hB] at H0 ⊢
  have HB := Lib.hid hB
  clear h0 hB
  go_loopw [13] (fun i wr => ∃ (p cnt : Nat) (D : DataW Unit) (L : Int → Int), p ≤ n ∧ i = .int .i64 p ∧ Hid (UseI (lsR rs) p 0 B cnt D L wr) ∧ Hid (Pure w wr)) (fun i _ => n - (intOf i).toNat)
  case atStart => exact ⟨0, 0, _, _, Nat.zero_le _, rfl, H0, HP0⟩
  case round =>
    obtain ⟨p, cnt, D, L, hp, rfl, HU, HP⟩ := hrel
    by_cases hlt : p < n
    · have hki : (p : Int) < (n : Int) := by omega
      have hpr : p < rs.length := by rw [← HN.out]; exact hlt
      have hpl : p < (lsR rs).length := by rw [lsR_len]; exact hpr
      obtain ⟨b, o, rfl, hc⟩ := (HR.out.pure HP.out).get hpr
      obtain ⟨q, hq⟩ : ∃ z, z = rs[p] := ⟨_, rfl⟩
      have hlg : (lsR rs)[p] = q.l := by rw [lsR_get hpr, hq]
      have hqm : q ∈ rs := hq ▸ List.getElem_mem hpr
      have HRow : Hid (RowOf w q.a (intsV q.l)) := Lib.hid (HR.out.has q hqm)
      have HWq : Hid (∀ x ∈ q.l, (Lit.int .i64 x).wf = true) := Lib.hid (HWf.out q hqm)
      rw [← hq] at hc
      obtain ⟨m, hm⟩ : ∃ z, z = q.l.length := ⟨_, rfl⟩
      have hmle : m ≤ 1000000 := by rw [hm]; exact HM.out q hqm
      rw [← hm] at hc
      have HLg : Hid (∀ h : p < (lsR rs).length, (lsR rs)[p] = q.l) := Lib.hid (fun _ => hlg)
      have HMm := Lib.hid hm
      have HPl := Lib.hid hpl
      generalize q.a = qa at *
      generalize q.c = qc at *
      clear hlg hm hpl hq hqm
      go_wp2_with fail
      obtain ⟨wo, rfl⟩ : ∃ wo : World, wo = wr := ⟨_, rfl⟩
      go_loopw [20] (fun i wr => ∃ (j cnt : Nat) (D : DataW Unit) (L : Int → Int), j ≤ m ∧ i = .int .i64 j ∧ Hid (UseI (lsR rs) p j B cnt D L wr) ∧ Hid (Pure w wr)) (fun i _ => m - (intOf i).toNat)
      case atStart => exact ⟨0, cnt, D, L, Nat.zero_le _, rfl, HU, HP⟩
      case round =>
        obtain ⟨j, cnt, D, L, hj, rfl, HU, HP⟩ := hrel
        by_cases hltj : j < m
        · have hkj : (j : Int) < (m : Int) := by omega
          have hj0 : (0 : Int) ≤ (j : Int) := by omega
          have hjq : j < q.l.length := by rw [← HMm.out]; exact hltj
          have hjl : j < ((lsR rs)[p]'HPl.out).length := by rw [HLg.out HPl.out]; exact hjq
          obtain ⟨xb, xo, rfl, hxc⟩ := (HRow.out.ext HP.out (fun _ _ => id)) j _ (intsV_get hjq)
          obtain ⟨x, hx⟩ : ∃ z, z = q.l[j] := ⟨_, rfl⟩
          have hxe : ((lsR rs)[p]'HPl.out)[j] = x := by rw [hx]; simp only [HLg.out HPl.out]
          have HXw : Hid ((Lit.int .i64 x).wf = true) := Lib.hid (HWq.out x (by rw [hx]; exact List.getElem_mem hjq))
          rw [← hx] at hxc
          have HXe : Hid (∀ h : j < ((lsR rs)[p]'HPl.out).length, ((lsR rs)[p]'HPl.out)[j] = x) := Lib.hid (fun _ => hxe)
          have HJl := Lib.hid hjl
          obtain ⟨u, hu⟩ : ∃ z, z = useP (lsR rs) p j x := ⟨_, rfl⟩
          have hul : (u : Int) ≤ 2000000 := by
            have h1 := useP_le (lsR rs) p j x
            rw [lsR_len, ← HN.out] at h1
            omega
          have hun : (0 : Int) ≤ (u : Int) := by omega
          have hlk := HU.out.look x
          have hhs := HU.out.has x
          have hls := HU.out.last x
          rw [← hu] at hlk hhs hls
          obtain ⟨l, hl⟩ : ∃ z, z = L x := ⟨_, rfl⟩
          rw [← hl] at hlk hls
          have HLk := Lib.hid hlk
          have HU' := Lib.hid hu
          have hmem : (0 < u ∧ l = p) ↔ x ∈ ((lsR rs).getD p []).take j := by
            constructor
            · rintro ⟨h1, h2⟩
              exact (hls h1).2.1 h2
            · intro h
              have h1 : 0 < u := by rw [hu]; unfold useP; rw [if_pos h]; omega
              exact ⟨h1, (hls h1).2.2 h⟩
          rw [getD_at _ p HPl.out] at hmem
          have HMem := Lib.hid hmem
          have HPa : Hid (Pure w (wr.alloc (.cells #[.int .i64 (u : Int), .int .i64 l] 56))) := Lib.hid (HP.out.pure (ext_alloc _ _))
          have HUa : Hid (UseI (lsR rs) p j B cnt D L (wr.alloc (.cells #[.int .i64 (u : Int), .int .i64 l] 56))) := Lib.hid (HU.out.pure (ext_alloc _ _))
          have HKm : Hid (cnt < maxLen) := Lib.hid (by
            have h1 := HU.out.few
            have h2 : ((lsR rs).take (p + 1)).flatten.length ≤ (lsR rs).flatten.length := by
              have h3 : (lsR rs).flatten = (((lsR rs).take (p + 1)) ++ ((lsR rs).drop (p + 1))).flatten := by rw [List.take_append_drop]
              rw [h3, List.flatten_append, List.length_append]
              exact Nat.le_add_right _ _
            rw [take_flat _ p HPl.out, List.flatten_append, List.length_append] at h2
            simp only [List.flatten_cons, List.flatten_nil, List.append_nil] at h2
            have h4 := HT.out
            have h5 := HJl.out
            unfold maxLen
            omega)
          clear hxe hjl hu hlk hhs hls hl hmem hx
          by_cases hin : 0 < u ∧ l = p
          · have hb : Maps.has D (.int .i64 x) = true := by rw [HU.out.has, ← HU'.out]; exact decide_eq_true hin.1
            have HBb := Lib.hid hb
            have HNx : Hid (UseI (lsR rs) p (j + 1) B cnt D L (wr.alloc (.cells #[.int .i64 (u : Int), .int .i64 l] 56))) := Lib.hid (HUa.out.skip HPl.out HJl.out (by rw [HXe.out HJl.out]; exact HMem.out.1 hin))
            obtain ⟨_, rfl⟩ := hin
            clear hb
            go_wp2_with (at_lookup; refine wpList_lookup_use rfl (.tmp 25) (.tmp 26) rfl B cnt D rfl HU.out.own x rfl HXw.out u p HLk.out true HBb.out ?_)
            go_roundw
            case rel => exact ⟨j + 1, cnt, D, L, by omega, by go_num, HNx, HPa⟩
            case measure => simp [intOf]; omega
          · have HIn : Hid (x ∉ ((lsR rs)[p]'HPl.out).take j) := Lib.hid (fun h => hin (HMem.out.2 h))
            have HPut := Lib.hid (fun W' => HUa.out.put (W' := W') HPl.out HJl.out (HXe.out HJl.out) HIn.out)
            rw [← HU'.out] at HPut
            by_cases hu0 : 0 < u
            · have hlp : (l == (p : Int)) = false := beq_eq_false_iff_ne.2 (fun e => hin ⟨hu0, e⟩)
              have HBb : Hid (Maps.has D (.int .i64 x) = true) := Lib.hid (by rw [HU.out.has, ← HU'.out]; exact decide_eq_true hu0)
              clear hin hu0
              go_wp2_with (first
                | (at_lookup; refine wpList_lookup_use rfl (.tmp 25) (.tmp 26) rfl B cnt D rfl HU.out.own x rfl HXw.out u l HLk.out true HBb.out ?_)
                | (at_mapUpdate; refine wpList_mapUpdate_own _ rfl (.tmp 38) (.tmp 39) (.tmp 44) 51 rfl 3 56 lawInt Try.underlying51 useR B cnt D rfl HUa.out.own HKm.out _ _ _ rfl rfl (keyOf_int_mk Try.underlying3 HXw.out) _ [] (useR_mk _ _) ?_; intro W2 hO2 hg2))
              have HNx := Lib.hid (HPut.out W2 hO2)
              have HPx : Hid (Pure w W2) := Lib.hid (HPa.out.trans (ext_of_grown hg2) (fun i hi e => by have := Option.some.inj e; have := HB.out; omega))
              clear hO2 hg2
              go_roundw
              case rel => exact ⟨j + 1, _, _, _, by omega, by go_num, HNx, HPx⟩
              case measure => simp [intOf]; omega
            · obtain rfl : u = 0 := by omega
              have HBb : Hid (Maps.has D (.int .i64 x) = false) := Lib.hid (by rw [HU.out.has, ← HU'.out]; rfl)
              clear hin hu0
              go_wp2_with (first
                | (at_lookup; refine wpList_lookup_use rfl (.tmp 25) (.tmp 26) rfl B cnt D rfl HU.out.own x rfl HXw.out (0 : Nat) l HLk.out false HBb.out ?_)
                | (at_mapUpdate; refine wpList_mapUpdate_own _ rfl (.tmp 38) (.tmp 39) (.tmp 44) 51 rfl 3 56 lawInt Try.underlying51 useR B cnt D rfl HUa.out.own HKm.out _ _ _ rfl rfl (keyOf_int_mk Try.underlying3 HXw.out) _ [] (useR_mk _ _) ?_; intro W2 hO2 hg2))
              have HNx := Lib.hid (HPut.out W2 hO2)
              have HPx : Hid (Pure w W2) := Lib.hid (HPa.out.trans (ext_of_grown hg2) (fun i hi e => by have := Option.some.inj e; have := HB.out; omega))
              clear hO2 hg2
              go_roundw
              case rel => exact ⟨j + 1, _, _, _, by omega, by go_num, HNx, HPx⟩
              case measure => simp [intOf]; omega
        · have hkj : ¬ (j : Int) < (m : Int) := by omega
          obtain rfl : j = m := by omega
          have HNx : Hid (UseI (lsR rs) (p + 1) 0 B cnt D L wr) := Lib.hid (by
            refine UseI.next HPl.out ?_
            have h := HU.out
            rw [HMm.out, ← HLg.out HPl.out] at h
            exact h)
          go_wp2_with fail
          go_roundw
          case rel => exact ⟨p + 1, cnt, D, L, by omega, by go_num, HNx, HP⟩
          case measure => simp [intOf]; omega
    · have hki : ¬ (p : Int) < (n : Int) := by omega
      obtain rfl : p = n := by omega
      have HLk : Hid (∀ x, D.atKey (.int .i64 x) (useD 0 0) = useD (manyP (lsR rs) x : Nat) (L x)) := Lib.hid (fun x => by
        have h := HU.out.look x
        rw [HN.out, ← lsR_len, useP_end] at h
        exact h)
      go_wp2_with fail
      go_ret
      exact ⟨B, cnt, D, L, rfl, HU.out.own, by rw [← HB.out]; exact Nat.le_refl _, HLk.out, HP.out⟩
end Go.Proofs.Ytnpiemcfbnpfdaa
