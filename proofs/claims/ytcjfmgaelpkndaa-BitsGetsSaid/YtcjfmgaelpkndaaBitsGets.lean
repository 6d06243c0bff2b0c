/-
  Proved: BitsGets: for either end, all bytes and all parts the law returns true, and writes nothing that was there. Conditions: none.
-/
import Derived.Test.YtcjfmgaelpkndaaWorks
import Derived.Test.YtcjfmgaelpkndaaBitsBack
import Derived.Test.YtcjfmgaelpkndaaRefOf
import Derived.Test.YtcjfmgaelpkndaaRefBits
import Derived.Test.YtcjfmgaelpkndaaOpen
namespace Go.Proofs.Ytcjfmgaelpkndaa.bitsGets
open Go.ChangeShapes Go.WideShapes Go.ChangeAt Go.RowKit bitsBack
set_option linter.unusedVariables false

set_option maxHeartbeats 4000000 in
set_option maxRecDepth 100000 in
theorem walk (high : Bool) (bd : Option Addr) (bc : Nat) (bl : List UInt8) (ad : Option Addr) (cap : Nat) (l : List (Int × Int)) (w : World) (hb : Bytes w bd bl) (hnil : bd = none → bc = 0) (hle : bl.length ≤ bc) (hl : (l.length : Int) ≤ 9223372036854775807) (hr : RowOf w ad (l.flatMap partCells)) (hin : ∀ p ∈ l, InP p) :
    Calls Try.prog 6 #[.bool high, .slice bd bl.length bc, .slice ad l.length cap] w fun e w' => e = .returned (.bool true) ∧ Below w.heap.size w w' := by
  by_cases h200 : 200 < bl.length
  · have h2 : (200 : Int) < (bl.length : Int) := by omega
    go_enter Try.func6, Try.ntmps6
    go_wp2_with fail
    refine (works_any w).mono ?_
    rintro e w1 ⟨rfl, hE1⟩
    go_wp2_with fail
    go_ret
    exact ⟨rfl, hE1.below⟩
  · have h2 : ¬ (200 : Int) < (bl.length : Int) := by omega
    go_enter Try.func6, Try.ntmps6
    go_wp2_with fail
    refine (works_any w).mono ?_
    rintro e w1 ⟨rfl, hE1⟩
    go_wp2_with fail
    refine (read_any bd bc bl high w1 (hb.pure hE1) hnil hle (by omega)).mono ?_
    rintro e w2 ⟨rb, ga, gc, rfl, hR, hE2, hrb1, hrb2, hga⟩
    have hP2 : Pure w w2 := hE1.pure hE2
    have hszw := hE1.size
    go_wp2_with fail
    refine (refbits_any high bd bc bl w2 (hb.pure hP2) (by omega)).mono ?_
    rintro e w3 ⟨fa, fc, rfl, hF⟩
    have hR3 := hR.ext hF.pure id (fun _ _ => id)
    have hP3 := hP2.pure hF.pure
    have hfa : ∀ g, fa = some g → g.block ≠ rb := by
      intro g hg
      obtain ⟨_, _, hh, _, _, _, h4⟩ := own_form hF.own
      cases hh
      have := (h4 g hg).1
      omega
    have hfnil : fa = none → fc = 0 := by
      obtain ⟨_, _, hh, _, _, h3, _⟩ := own_form hF.own
      cases hh
      exact h3
    have hfle : (bitsOf high bl).length ≤ fc := by
      obtain ⟨_, _, hh, h3, _⟩ := own_form hF.own
      cases hh
      exact h3
    have hfrow := own_row hF.own
    have hbitl := bitsOf_length high bl
    obtain ⟨L, hL⟩ : ∃ L, L = (bitsOf high bl).length := ⟨_, rfl⟩
    rw [← hL] at hbitl hfle ⊢
    have HL := Lib.hid hL
    have HB := Lib.hid hbitl
    have hL2 : L ≤ 1600 := by omega
    clear hL hbitl hF hR hP2 hE1 hE2
    go_wp2_with fail
    go_loopw [9, 10, 11, 12, 13] (fun at' i _ _ _ wr => ∃ (k m : Nat), k ≤ l.length ∧ k ≤ 60 ∧ m ≤ L ∧ i = .int .i64 k ∧ at' = .int .i64 m ∧ RdIs wr rb high bl m ga gc ∧ Pure w wr ∧ RowOf wr fa ((bitsOf high bl).map Value.bool)) (fun _ i _ _ _ _ => 60 - (intOf i).toNat)
    case atStart => exact ⟨0, 0, Nat.zero_le _, Nat.zero_le _, Nat.zero_le _, rfl, rfl, hR3, hP3, hfrow⟩
    case round =>
      obtain ⟨k, m, hk, hk60, hm, rfl, rfl, hR, hP, hfr⟩ := hrel
      clear hR3 hP3 hfrow
      by_cases hlt : k < l.length
      · by_cases hlt60 : k < 60
        · obtain ⟨ab, ao, rfl, h0, h1⟩ := part_at hr k hlt
          have habk : ab < w.heap.size := World.block_lt_of_cell? _ _ h0
          have hab : ab ≠ rb := by omega
          have hk0 : (0 : Int) ≤ (k : Int) := by omega
          have hki : (k : Int) < (l.length : Int) := by omega
          have hinP := hin l[k] (List.getElem_mem _)
          replace h0 := hP.cell_some h0 id
          replace h1 := hP.cell_some h1 id
          obtain ⟨p, hp⟩ : ∃ p, p = l[k] := ⟨_, rfl⟩
          rw [← hp] at h0 h1 hinP
          clear hp
          obtain ⟨x, n⟩ := p
          obtain ⟨i0, i1, i2, i3⟩ := hinP
          simp only at h0 h1 i0 i1 i2 i3
          obtain ⟨x, rfl⟩ := Int.eq_ofNat_of_zero_le i0
          clear i0
          by_cases hn0 : n < 0
          · by_cases hx2 : x % 2 = 0
            · have hx2' : ((x : Int) % 2 == 0) = true := by simp; omega
              clear hx2
              go_wp2_with fail
              refine (ralign_any rb high bl m ga gc wr hR (by omega)).mono ?_
              rintro e w5 ⟨rfl, hR5, hE5⟩
              obtain ⟨mm, hmm⟩ : ∃ mm, mm = 8 * ((m + 7) / 8) := ⟨_, rfl⟩
              rw [← hmm] at hR5
              have hmmL : mm ≤ L := by have := HB.out; omega
              have hz : ((m : Int) + 7) / 8 * 8 = (mm : Int) := by omega
              have hP5 := hP.trans hE5 (fun i hi e => by subst e; exact absurd hi (by omega))
              have hfr5 := hfr.ext hE5 hfa
              clear hE5 hmm
              have HLf := left_any rb high _ mm ga gc w5 hR5 (by omega) (by omega)
              rw [show 8 * (bl.length : Int) - (mm : Int) = (L : Int) - (mm : Int) from by have := HB.out; omega] at HLf
              have HLf' := Lib.hid HLf
              have hwz : IntKind.i64.wrap ((L : Int) - (mm : Int)) = (L : Int) - (mm : Int) := IntWalk.i64_in _ (by omega)
              clear HLf
              go_wp2_with fail
              refine (at_any rb high _ mm ga gc w5 hR5).mono ?_
              rintro e w6 ⟨rfl, hw6⟩
              obtain rfl := hw6.symm
              go_wp2_with fail
              refine HLf'.out.mono ?_
              rintro e w6 ⟨rfl, q6, hw6⟩
              have hE6 : Ext (fun i => i = rb) w5 w6 := hw6 ▸ (Ext.refl _ w5).drewN q6
              have hE6' : Pure w5 w6 := hw6 ▸ (Ext.refl _ w5).drewN q6
              have hR6 := hR5.ext hE6' id (fun _ _ => id)
              have hP6 := hP5.pure hE6'
              have hfr6 := hfr5.ext hE6 hfa
              clear hw6
              go_wp2_with fail
              go_roundw
              case rel => exact ⟨k + 1, mm, by omega, by omega, hmmL, by go_num, rfl, hR6, hP6, hfr6⟩
              case measure => simp [intOf]; omega
            · have hx2' : ((x : Int) % 2 == 0) = false := by simp; omega
              clear hx2
              have h2b : wr.cell? ⟨rb, 0 + 2, none⟩ = some (.bool true) := hR.blk.cell 2
              go_wp2_with fail
              refine (get_no1 rb n wr h2b (Or.inl hn0)).mono ?_
              rintro e w5 ⟨rfl, hw5⟩
              obtain rfl := hw5.symm
              have hR5 := hR
              have hP5 := hP
              have hfr5 := hfr
              have hmmL := hm
              have HLf := left_any rb high _ m ga gc wr hR5 (by omega) (by omega)
              rw [show 8 * (bl.length : Int) - (m : Int) = (L : Int) - (m : Int) from by have := HB.out; omega] at HLf
              have HLf' := Lib.hid HLf
              have hwz : IntKind.i64.wrap ((L : Int) - (m : Int)) = (L : Int) - (m : Int) := IntWalk.i64_in _ (by omega)
              clear HLf
              go_wp2_with fail
              refine (at_any rb high _ m ga gc wr hR5).mono ?_
              rintro e w6 ⟨rfl, hw6⟩
              obtain rfl := hw6.symm
              go_wp2_with fail
              refine HLf'.out.mono ?_
              rintro e w6 ⟨rfl, q6, hw6⟩
              have hE6 : Ext (fun i => i = rb) wr w6 := hw6 ▸ (Ext.refl _ wr).drewN q6
              have hE6' : Pure wr w6 := hw6 ▸ (Ext.refl _ wr).drewN q6
              have hR6 := hR5.ext hE6' id (fun _ _ => id)
              have hP6 := hP5.pure hE6'
              have hfr6 := hfr5.ext hE6 hfa
              clear hw6
              go_wp2_with fail
              go_roundw
              case rel => exact ⟨k + 1, m, by omega, by omega, hmmL, by go_num, rfl, hR6, hP6, hfr6⟩
              case measure => simp [intOf]; omega
          · by_cases hn1 : 32 < n
            · have h2b : wr.cell? ⟨rb, 0 + 2, none⟩ = some (.bool true) := hR.blk.cell 2
              go_wp2_with fail
              refine (get_no1 rb n wr h2b (Or.inr hn1)).mono ?_
              rintro e w5 ⟨rfl, hw5⟩
              obtain rfl := hw5.symm
              have hR5 := hR
              have hP5 := hP
              have hfr5 := hfr
              have hmmL := hm
              have HLf := left_any rb high _ m ga gc wr hR5 (by omega) (by omega)
              rw [show 8 * (bl.length : Int) - (m : Int) = (L : Int) - (m : Int) from by have := HB.out; omega] at HLf
              have HLf' := Lib.hid HLf
              have hwz : IntKind.i64.wrap ((L : Int) - (m : Int)) = (L : Int) - (m : Int) := IntWalk.i64_in _ (by omega)
              clear HLf
              go_wp2_with fail
              refine (at_any rb high _ m ga gc wr hR5).mono ?_
              rintro e w6 ⟨rfl, hw6⟩
              obtain rfl := hw6.symm
              go_wp2_with fail
              refine HLf'.out.mono ?_
              rintro e w6 ⟨rfl, q6, hw6⟩
              have hE6 : Ext (fun i => i = rb) wr w6 := hw6 ▸ (Ext.refl _ wr).drewN q6
              have hE6' : Pure wr w6 := hw6 ▸ (Ext.refl _ wr).drewN q6
              have hR6 := hR5.ext hE6' id (fun _ _ => id)
              have hP6 := hP5.pure hE6'
              have hfr6 := hfr5.ext hE6 hfa
              clear hw6
              go_wp2_with fail
              go_roundw
              case rel => exact ⟨k + 1, m, by omega, by omega, hmmL, by go_num, rfl, hR6, hP6, hfr6⟩
              case measure => simp [intOf]; omega
            · obtain ⟨n, rfl⟩ := Int.eq_ofNat_of_zero_le (show 0 ≤ n by omega)
              have hw0 : IntKind.i64.wrap ((L : Int) - (m : Int)) = (L : Int) - (m : Int) := IntWalk.i64_in _ (by omega)
              by_cases hcut : L < m + n
              · have hcut' : (L : Int) - (m : Int) < (n : Int) := by omega
                have HG := Lib.hid (get_no2 rb high bl m ga gc n wr hR (by omega) (by have := HB.out; omega) (by omega) (by have := HB.out; omega))
                go_wp2_with fail
                refine HG.out.mono ?_
                rintro e w5 ⟨rfl, q5, hw5⟩
                have hE5 : Pure wr w5 := hw5 ▸ (Ext.refl _ wr).drewN q5
                have hR5 := hR.ext hE5 id (fun _ _ => id)
                have hP5 := hP.pure hE5
                have hfr5 := hfr.ext hE5 (fun _ _ => id)
                have hmmL := hm
                clear hw5 HG
                have HLf := left_any rb high _ m ga gc w5 hR5 (by omega) (by omega)
                rw [show 8 * (bl.length : Int) - (m : Int) = (L : Int) - (m : Int) from by have := HB.out; omega] at HLf
                have HLf' := Lib.hid HLf
                have hwz : IntKind.i64.wrap ((L : Int) - (m : Int)) = (L : Int) - (m : Int) := IntWalk.i64_in _ (by omega)
                clear HLf
                go_wp2_with fail
                refine (at_any rb high _ m ga gc w5 hR5).mono ?_
                rintro e w6 ⟨rfl, hw6⟩
                obtain rfl := hw6.symm
                go_wp2_with fail
                refine HLf'.out.mono ?_
                rintro e w6 ⟨rfl, q6, hw6⟩
                have hE6 : Ext (fun i => i = rb) w5 w6 := hw6 ▸ (Ext.refl _ w5).drewN q6
                have hE6' : Pure w5 w6 := hw6 ▸ (Ext.refl _ w5).drewN q6
                have hR6 := hR5.ext hE6' id (fun _ _ => id)
                have hP6 := hP5.pure hE6'
                have hfr6 := hfr5.ext hE6 hfa
                clear hw6
                go_wp2_with fail
                go_roundw
                case rel => exact ⟨k + 1, m, by omega, by omega, hmmL, by go_num, rfl, hR6, hP6, hfr6⟩
                case measure => simp [intOf]; omega
              · have hcut' : ¬ (L : Int) - (m : Int) < (n : Int) := by omega
                obtain ⟨v, hv⟩ : ∃ v, v = num high (((bitsOf high bl).drop m).take n) := ⟨_, rfl⟩
                have HG0 := get_yes rb high bl m ga gc n wr hR (by omega) (by omega) (by have := HB.out; omega)
                rw [← hv] at HG0
                have HG := Lib.hid HG0
                have HV := Lib.hid hv
                clear HG0 hv
                go_wp2_with fail
                refine HG.out.mono ?_
                rintro e w5 ⟨rfl, hR5, hE5⟩
                have hP5 := hP.trans hE5 (fun i hi e => by subst e; exact absurd hi (by omega))
                have hfr5 := hfr.ext hE5 hfa
                have hsl : m + n ≤ fc := by omega
                have hw1 : IntKind.i64.wrap ((m : Int) + (n : Int)) = (m : Int) + (n : Int) := IntWalk.i64_in _ (by omega)
                obtain ⟨mm, hmm⟩ : ∃ mm, mm = m + n := ⟨_, rfl⟩
                rw [← hmm] at hR5
                have hmmL : mm ≤ L := by omega
                have hlenS : (((bitsOf high bl).drop m).take n).length = n := by rw [List.length_take, List.length_drop, ← HL.out]; omega
                have hrowS : RowOf w5 (fa.map fun x => x.add m) ((((bitsOf high bl).drop m).take n).map Value.bool) := by rw [List.map_take, List.map_drop]; exact row_take (row_drop hfr5 m) n
                have HO := refof_any high (fa.map fun x => x.add m) (fc - m) _ w5 hrowS (by rw [hlenS]; omega)
                rw [hlenS, ← HV.out] at HO
                have HO' := Lib.hid HO
                have HM := Lib.hid hmm
                clear HG HO hlenS hrowS hmm
                go_wp2_with fail
                · obtain rfl : n = 0 := by have := HM.out; omega
                  have HO2 := refof_any high fa 0 [] w5 (row_nil _ _) (by simp)
                  rw [List.length_nil, show num high [] = v from by rw [HV.out, List.take_zero]] at HO2
                  refine HO2.mono ?_
                  rintro e w6 ⟨rfl, hw6⟩
                  obtain rfl := hw6.symm
                  clear hw1 HO'
                  have hz : mm = m := by have := HM.out; omega
                  rw [hz] at hR5 hmmL
                  clear HM hz
                  obtain rfl : fc = m := by omega
                  have HLf := left_any rb high _ fc ga gc w5 hR5 (by omega) (by omega)
                  rw [show 8 * (bl.length : Int) - (fc : Int) = (L : Int) - (fc : Int) from by have := HB.out; omega] at HLf
                  have HLf' := Lib.hid HLf
                  have hwz : IntKind.i64.wrap ((L : Int) - (fc : Int)) = (L : Int) - (fc : Int) := IntWalk.i64_in _ (by omega)
                  clear HLf
                  go_wp2_with fail
                  refine (at_any rb high _ fc ga gc w5 hR5).mono ?_
                  rintro e w6 ⟨rfl, hw6⟩
                  obtain rfl := hw6.symm
                  go_wp2_with fail
                  refine HLf'.out.mono ?_
                  rintro e w6 ⟨rfl, q6, hw6⟩
                  have hE6 : Ext (fun i => i = rb) w5 w6 := hw6 ▸ (Ext.refl _ w5).drewN q6
                  have hE6' : Pure w5 w6 := hw6 ▸ (Ext.refl _ w5).drewN q6
                  have hR6 := hR5.ext hE6' id (fun _ _ => id)
                  have hP6 := hP5.pure hE6'
                  have hfr6 := hfr5.ext hE6 hfa
                  clear hw6
                  go_wp2_with fail
                  go_roundw
                  case rel => exact ⟨k + 1, fc, by omega, by omega, hmmL, by go_num, rfl, hR6, hP6, hfr6⟩
                  case measure => simp [intOf]; omega
                · refine HO'.out.mono ?_
                  rintro e w6 ⟨rfl, hw6⟩
                  obtain rfl := hw6.symm
                  clear hw1 HO'
                  have hz : (m : Int) + (n : Int) = (mm : Int) := by have := HM.out; omega
                  have hw2 : IntKind.i64.wrap (mm : Int) = (mm : Int) := IntWalk.i64_in _ (by omega)
                  have HLf := left_any rb high _ mm ga gc w5 hR5 (by omega) (by omega)
                  rw [show 8 * (bl.length : Int) - (mm : Int) = (L : Int) - (mm : Int) from by have := HB.out; omega] at HLf
                  have HLf' := Lib.hid HLf
                  have hwz : IntKind.i64.wrap ((L : Int) - (mm : Int)) = (L : Int) - (mm : Int) := IntWalk.i64_in _ (by omega)
                  clear HLf
                  go_wp2_with fail
                  refine (at_any rb high _ mm ga gc w5 hR5).mono ?_
                  rintro e w6 ⟨rfl, hw6⟩
                  obtain rfl := hw6.symm
                  go_wp2_with fail
                  refine HLf'.out.mono ?_
                  rintro e w6 ⟨rfl, q6, hw6⟩
                  have hE6 : Ext (fun i => i = rb) w5 w6 := hw6 ▸ (Ext.refl _ w5).drewN q6
                  have hE6' : Pure w5 w6 := hw6 ▸ (Ext.refl _ w5).drewN q6
                  have hR6 := hR5.ext hE6' id (fun _ _ => id)
                  have hP6 := hP5.pure hE6'
                  have hfr6 := hfr5.ext hE6 hfa
                  clear hw6
                  go_wp2_with fail
                  go_roundw
                  case rel => exact ⟨k + 1, mm, by omega, by omega, hmmL, by go_num, rfl, hR6, hP6, hfr6⟩
                  case measure => simp [intOf]; omega
        · have hfin : ¬ ((k : Int) < 60) := by omega
          clear hlt60
          go_wp2_with fail
          go_ret
          exact ⟨rfl, hP.below⟩
      · have hfin : ¬ ((k : Int) < (l.length : Int)) := by omega
        clear hlt
        go_wp2_with fail
        go_ret
        exact ⟨rfl, hP.below⟩

theorem open_byts {H : Type} {enc : TypeId × Value → H} {W : World} {v : Value} {d : DataW H} {p : List MemPlace} {base : Nat}
    (hv : Value.okWide Try.prog W .any base 32 v) (h : DataW.Trod enc Try.prog W 0 (fun _ => true) true 32 v d p) :
    ∃ (a : Option Addr) (cap : Nat) (l : List UInt8), v = .slice a l.length cap ∧ l.length ≤ cap ∧ (a = none → cap = 0) ∧ Bytes W a l := by
  obtain ⟨a0, len, cap, rfl⟩ := okWide_slice Try.underlying32 hv
  obtain ⟨fuel, hf⟩ := h
  obtain ⟨a, c, rows, hcs, hl, hm, hn, hq, hrow⟩ := open_rows (size := 1) (Q := fun cs (q : UInt8) => cs = [byV q]) Try.underlying32 (by kernel_rfl) (by decide) (fun n cs y hy hlen => by
    obtain ⟨x, e, _, wx⟩ := DataW.trod_int Try.underlying5 hy
    simp [Lit.wf, IntKind.min, IntKind.max, IntKind.signed, IntKind.bits] at wx
    refine ⟨UInt8.ofNat x.toNat, ?_⟩
    rw [e]
    unfold byV
    rw [ofNat_toNat _ (by omega)]
    congr 2
    omega) hf
  simp [Value.cells] at hcs
  obtain ⟨rfl, rfl, rfl⟩ := hcs
  have hmap : rows.flatMap (·.1) = (rows.map (·.2)).map byV := by
    rw [List.map_map]
    clear hl hrow hf hv
    induction rows with
    | nil => rfl
    | cons r rows ih => rw [List.flatMap_cons, List.map_cons, ih (fun r hr => hq r (by simp [hr])), (hq r (by simp)).2]; rfl
  refine ⟨a0, cap, rows.map (·.2), by simp, by simpa using hl, hn, ?_⟩
  have := hmap ▸ hrow
  exact this

theorem lifted (os : Os) (started : os.Started) (H : Type) (enc : TypeId × Value → H) :
    ReturnsInHanded {} Try.checked os 6 .any (Rows.bitsGetsSpec.pre6 enc Try.prog Try.f6 Rows.bitsGetsRow.domain false) (Rows.bitsGetsSpec.post enc Try.prog Try.f6 false true false false) := by
  refine returnsInHanded_of_change (C := Try.checked) own started (by kernel_rfl) Try.func6
    (ChangeSpec.witness6 (enc := enc) (C := Try.checked) false ⟨#[], #[.bool false, .slice none 0 0, .slice none 0 0], []⟩ 8 (by kernel_rfl) (by kernel_rfl) (by kernel_rfl) (by kernel_rfl)) ?_
  intro W base args ds gs before hval0 hW hcnd _
  have hval : ∀ (j : Nat) t v, Try.f6.params[j]? = some t → args[j]? = some v → Value.okWide Try.prog W .any base t v := hval0
  have hW' := hW
  obtain ⟨p, q, hA0, hV, rfl, hfz, hnd⟩ := hW
  have hA : DataW.TrodAll enc Try.prog W 0 (fun _ => true) true Try.f6.params.toList args.toList ds p := hA0
  rw [Try.params6] at hA hval
  obtain ⟨v0, vs0, d0, ds0, p0, q0, hargs, rfl, rfl, h0, r0⟩ := trodAll_cons hA
  obtain ⟨v1, vs1, d1, ds1, p1, q1, rfl, rfl, rfl, h1, r1⟩ := trodAll_cons r0
  obtain ⟨v2, vs2, d2, ds2, p2, q2, rfl, rfl, rfl, h2, r2⟩ := trodAll_cons r1
  obtain ⟨rfl, rfl, rfl⟩ := trodAll_nil r2
  obtain rfl : args = #[v0, v1, v2] := by cases args; simp_all
  obtain ⟨rfl, rfl⟩ := trodVars_none hV
  obtain ⟨x, rfl, rfl, rfl⟩ := open_bool Try.underlying4 (hval 0 4 v0 rfl rfl) h0
  have k1 := h1
  have lt1 : ∀ x ∈ p1, x.block < W.heap.size := by obtain ⟨m, hm⟩ := k1; exact DataW.trod_lt m _ _ _ hm
  have k2 := h2
  have lt2 : ∀ x ∈ p2, x.block < W.heap.size := by obtain ⟨m, hm⟩ := k2; exact DataW.trod_lt m _ _ _ hm
  obtain ⟨bd, bc, bl, rfl, hble, hbn, hbb⟩ := open_byts (hval 1 32 v1 rfl rfl) h1
  obtain ⟨a, cap, l, rfl, hl, hrow, hin⟩ := open_parts (hval 2 22 v2 rfl rfl) h2
  clear hA0 hval0
  refine (walk x bd bc bl a cap l W hbb hbn hble hl hrow hin).mono fun e W' ⟨he, bel⟩ => ?_
  subst he
  exact ⟨_, rfl, _, _, _, [], _, [], hW', trodAll_mk1 (shut_bool Try.underlying4 _), (trodAll_cons_mk (shut_bool Try.underlying4 _) (trodAll_cons_mk (Below.trod laidOut (by kernel_rfl) (of_decide_eq_true (by kernel_rfl)) k1 bel lt1) (trodAll_cons_mk (Below.trod laidOut (by kernel_rfl) (of_decide_eq_true (by kernel_rfl)) k2 bel lt2) trodAll_mk0))), rfl, bel.frame _, fun h => by cases h⟩

theorem proved : Rows.BitsGetsSaid :=
  OpenClaim.holds_of_wide 6 Try.f6 rfl rfl rfl rfl rfl rfl rfl ⟨rfl, rfl, rfl, rfl, rfl⟩ rfl rfl rfl rfl rfl (by kernel_rfl) Try.func6 (by kernel_rfl)
    (of_decide_eq_true (by kernel_rfl)) (by unfold Func.isWrapper; first | (rw [if_pos (by decide +kernel)]; kernel_rfl) | (rw [if_neg (by decide +kernel)]; exact ⟨rfl, rfl⟩))
    (fun os started H enc _ => lifted os started H enc)
#print axioms proved
end Go.Proofs.Ytcjfmgaelpkndaa.bitsGets
