/-
  Proved: BitsBack: for either end and all parts the law returns true, and writes nothing that was there. Conditions: none.
-/
import Derived.Test.YtcjfmgaelpkndaaWorks
import Derived.Test.YtcjfmgaelpkndaaBackPlain
import Derived.Test.YtcjfmgaelpkndaaOpen
namespace Go.Proofs.Ytcjfmgaelpkndaa.bitsBack
open Go.ChangeShapes Go.WideShapes Go.ChangeAt Go.RowKit
set_option linter.unusedVariables false

def partCells (p : Int × Int) : List Value := [.int .u32 p.1, .int .i64 p.2]
theorem infoPart : (Try.prog.info? 29).map (fun i => (i.zero, i.size, i.bytes)) = some (some (.agg #[.int .u32 0, .int .i64 0]), 2, 16) := by kernel_rfl
theorem partCells_len (l : List (Int × Int)) : (l.flatMap partCells).length = l.length * 2 := flat_len partCells l (fun r _ => rfl)
theorem part_at {w : World} {a : Option Addr} {l : List (Int × Int)} (h : RowOf w a (l.flatMap partCells)) (k : Nat) (hk : k < l.length) :
    ∃ b o, a = some ⟨b, o, none⟩ ∧ w.cell? ⟨b, o + k * 2, none⟩ = some (.int .u32 l[k].1) ∧ w.cell? ⟨b, o + k * 2 + 1, none⟩ = some (.int .i64 l[k].2) := by
  have h0 := flat_get (size := 2) partCells l (fun r _ => rfl) k hk 0 (by omega)
  have h1 := flat_get (size := 2) partCells l (fun r _ => rfl) k hk 1 (by omega)
  obtain ⟨b, o, rfl, c0⟩ := h (k * 2 + 0) _ (h0.trans rfl)
  obtain ⟨_, _, e, c1⟩ := h (k * 2 + 1) _ (h1.trans rfl)
  cases e
  exact ⟨b, o, rfl, c0, by rw [Nat.add_assoc]; exact c1⟩
theorem part_one (l : List (Int × Int)) : ∀ u ∈ l.flatMap partCells, u.oneCell' = true := by
  intro u hu
  simp [partCells] at hu
  obtain ⟨_, _, _, rfl | rfl⟩ := hu <;> rfl
/-- the ranges of the parts' numbers -/
def InP (p : Int × Int) : Prop := 0 ≤ p.1 ∧ p.1 ≤ 4294967295 ∧ -9223372036854775808 ≤ p.2 ∧ p.2 ≤ 9223372036854775807

theorem put_any (b : Nat) (high : Bool) (bs : List Bool) (a : Option Addr) (c : Nat) (p : Int × Int) (w : World) (h : WrIs w b high bs a c) (hlen : bs.length ≤ 50000) (hp : InP p) :
    Calls Try.prog 8 #[.pointer (some ⟨b, 0, none⟩), .int .u32 p.1, .int .i64 p.2] w fun e w' => e = .returned (.int .i64 (if okP p then 0 else 2)) ∧ ∃ a' c', WrIs w' b high (bs ++ if okP p then bitsP high p else []) a' c' ∧ Ext (WrS b a) w w' ∧ (∀ g, a' = some g → a = some g ∨ w.heap.size ≤ g.block) := by
  obtain ⟨x, n⟩ := p
  obtain ⟨h0, h1, _, _⟩ := hp
  simp only at h0 h1
  obtain ⟨x, rfl⟩ := Int.eq_ofNat_of_zero_le h0
  by_cases hn0 : n < 0
  · have hk : okP ((x : Int), n) = false := by simp [okP]; omega
    rw [hk]
    refine (put_no1 b high bs a c x n w h hn0).mono ?_
    rintro e w' ⟨rfl, hw⟩
    obtain rfl := hw.symm
    exact ⟨rfl, a, c, by simpa using h, Ext.refl _ _, fun g hg => Or.inl hg⟩
  · by_cases hn1 : 32 < n
    · have hk : okP ((x : Int), n) = false := by simp [okP]; omega
      rw [hk]
      refine (put_no2 b high bs a c x n w h hn1).mono ?_
      rintro e w' ⟨rfl, hw⟩
      obtain rfl := hw.symm
      exact ⟨rfl, a, c, by simpa using h, Ext.refl _ _, fun g hg => Or.inl hg⟩
    · obtain ⟨n, rfl⟩ := Int.eq_ofNat_of_zero_le (show 0 ≤ n by omega)
      by_cases hx : x < 2 ^ n
      · have hk : okP ((x : Int), (n : Int)) = true := by simp [okP]; omega
        rw [hk]
        exact put_yes b high bs a c x n w h hlen (by omega) (by omega) hx
      · have hk : okP ((x : Int), (n : Int)) = false := by simp [okP]; omega
        rw [hk]
        refine (put_no3 b high bs a c x n w h (by omega) (by omega) (by omega)).mono ?_
        rintro e w' ⟨rfl, hw⟩
        obtain rfl := hw.symm
        exact ⟨rfl, a, c, by simpa using h, Ext.refl _ _, fun g hg => Or.inl hg⟩

set_option maxHeartbeats 4000000 in
set_option maxRecDepth 100000 in
theorem walk (high : Bool) (ad : Option Addr) (cap : Nat) (l : List (Int × Int)) (w : World) (hl : (l.length : Int) ≤ 9223372036854775807) (hr : RowOf w ad (l.flatMap partCells)) (hin : ∀ p ∈ l, InP p) :
    Calls Try.prog 3 #[.bool high, .slice ad l.length cap] w fun e w' => e = .returned (.bool true) ∧ Below w.heap.size w w' := by
  go_enter Try.func3, Try.ntmps3
  go_wp2_with fail
  refine (new_any high w).mono ?_
  rintro e w1 ⟨rfl, hA1, hE1⟩
  obtain ⟨b, hb⟩ : ∃ b, b = w.heap.size := ⟨_, rfl⟩
  rw [← hb] at hA1 ⊢
  have hb1 : w.heap.size ≤ b := by omega
  clear hb
  go_wp2_with fail
  go_loopw [6, 7] (fun v i wr => ∃ (k : Nat) (a : Option Addr) (c : Nat) (ia : Option Addr) (ic : Nat), k ≤ l.length ∧ k ≤ 60 ∧ i = .int .i64 k ∧ v = .slice ia (kept l k).length ic ∧ wr.ownsRow w.heap.size 29 2 v (kept l k).length ((kept l k).flatMap partCells) ∧ WrIs wr b high (bitsAll high (kept l k)) a c ∧ Pure w wr ∧ (∀ g, a = some g → w.heap.size ≤ g.block) ∧ (∀ g, ia = some g → g.block ≠ b ∧ ∀ g', a = some g' → g.block ≠ g'.block)) (fun _ i _ => 60 - (intOf i).toNat)
  case atStart => exact ⟨0, none, 0, none, 0, Nat.zero_le _, Nat.zero_le _, rfl, rfl, World.ownsRow_nil _ _ _ _, hA1, hE1, (fun g hg => by cases hg), (fun g hg => by cases hg)⟩
  case round =>
    obtain ⟨k, a, c, ia, ic, hk, hk60, rfl, rfl, hown, hW, hE, hfa, hdis⟩ := hrel
    clear hA1 hE1
    have hkl := kept_len l k
    have hbl := bitsAll_le high _ (kept_ok l k)
    have hbsz := hW.blk.lt
    by_cases hlt : k < l.length
    · by_cases hlt60 : k < 60
      · obtain ⟨ab, ao, rfl, h0, h1⟩ := part_at hr k hlt
        have habk : ab < w.heap.size := World.block_lt_of_cell? _ _ h0
        have hk0 : (0 : Int) ≤ (k : Int) := by omega
        have hki : (k : Int) < (l.length : Int) := by omega
        have hinP := hin l[k] (List.getElem_mem _)
        have hsucc := kept_succ l k hlt
        have hnw : ¬ WrS b a ab := not_wrs (by omega) (fun g hg => by have := hfa g hg; omega)
        have cl0 := fun w' (hS : Ext (WrS b a) wr.drew w') => hS.cell_some (hE.drew.cell_some h0 id) hnw
        have cl1 := fun w' (hS : Ext (WrS b a) wr.drew w') => hS.cell_some (hE.drew.cell_some h1 id) hnw
        have HPut := Lib.hid (put_any b high _ a c l[k] wr.drew (hW.ext (Ext.refl (fun _ => False) wr).drew id (fun _ _ => id)) (by omega) hinP)
        cases hok : okP l[k] with
        | false =>
          rw [hok] at hsucc HPut
          simp only [Bool.false_eq_true, if_false, List.append_nil] at hsucc HPut
          have HS := Lib.hid hsucc
          clear hsucc hok
          go_wp2_with fail
          refine region_start (WrS b a) (by kernel_rfl) ?_
          try simp only [Act.put, List.setIfInBounds_toArray, List.set_cons_zero, List.set_cons_succ]
          refine region_take 0 27 (v := ?vf0) rfl rfl (by kernel_rfl) (by kernel_rfl) (by kernel_rfl) (fun _ _ _ h => h) (by rfl) (fun w' hS => ?hf0) ?rf0
          case hf0 => go_simp; with_reducible rfl
          try simp only [Act.put, List.setIfInBounds_toArray, List.set_cons_zero, List.set_cons_succ]
          refine region_take 1 28 (v := ?vf1) rfl rfl (by kernel_rfl) (by kernel_rfl) (by kernel_rfl) (fun _ _ _ h => h) (by rfl) (fun w' hS => ?hf1) ?rf1
          case hf1 => go_simp; with_reducible rfl
          try simp only [Act.put, List.setIfInBounds_toArray, List.set_cons_zero, List.set_cons_succ]
          refine region_take 2 29 (v := ?vf2) rfl rfl (by kernel_rfl) (by kernel_rfl) (by kernel_rfl) (fun _ _ _ h => h) (by rfl) (fun w' hS => ?hf2) ?rf2
          case hf2 => go_simp; with_reducible rfl
          try simp only [Act.put, List.setIfInBounds_toArray, List.set_cons_zero, List.set_cons_succ]
          refine region_take 3 30 (v := ?vf3) rfl rfl (by kernel_rfl) (by kernel_rfl) (by kernel_rfl) (fun _ _ _ h => h) (by rfl) (fun w' hS => ?hf3) ?rf3
          case hf3 => go_simp; with_reducible rfl
          try simp only [Act.put, List.setIfInBounds_toArray, List.set_cons_zero, List.set_cons_succ]
          refine region_take 4 31 (v := ?vf4) rfl rfl (by kernel_rfl) (by kernel_rfl) (by kernel_rfl) (fun _ _ _ h => h) (by rfl) (fun w' hS => ?hf4) ?rf4
          case hf4 => go_simp; with_reducible rfl
          try simp only [Act.put, List.setIfInBounds_toArray, List.set_cons_zero, List.set_cons_succ]
          refine region_take 5 32 (v := ?vf5) rfl rfl (by kernel_rfl) (by kernel_rfl) (by kernel_rfl) (fun _ _ _ h => h) (by rfl) (fun w' hS => ?hf5) ?rf5
          case hf5 => go_simp; with_reducible rfl
          try simp only [Act.put, List.setIfInBounds_toArray, List.set_cons_zero, List.set_cons_succ]
          refine region_take 6 33 (v := ?vf6) rfl rfl (by kernel_rfl) (by kernel_rfl) (by kernel_rfl) (fun _ _ _ h => h) (by rfl) (fun w' hS => ?hf6) ?rf6
          case hf6 => go_simp; with_reducible rfl
          try simp only [Act.put, List.setIfInBounds_toArray, List.set_cons_zero, List.set_cons_succ]
          refine region_take 7 34 (v := ?vf7) rfl rfl (by kernel_rfl) (by kernel_rfl) (by kernel_rfl) (fun _ _ _ h => h) (by rfl) (fun w' hS => ?hf7) ?rf7
          case hf7 => go_simp; with_reducible rfl
          try simp only [Act.put, List.setIfInBounds_toArray, List.set_cons_zero, List.set_cons_succ]
          refine region_take 8 35 (v := ?vf8) rfl rfl (by kernel_rfl) (by kernel_rfl) (by kernel_rfl) (fun _ _ _ h => h) (by rfl) (fun w' hS => ?hf8) ?rf8
          case hf8 => go_simp; with_reducible rfl
          try simp only [Act.put, List.setIfInBounds_toArray, List.set_cons_zero, List.set_cons_succ]
          refine region_take 9 36 (v := ?vf9) rfl rfl (by kernel_rfl) (by kernel_rfl) (by kernel_rfl) (fun _ _ _ h => h) (by rfl) (fun w' hS => ?hf9) ?rf9
          case hf9 => go_simp; with_reducible rfl
          try simp only [Act.put, List.setIfInBounds_toArray, List.set_cons_zero, List.set_cons_succ]
          refine region_take 10 37 (v := ?vf10) rfl rfl (by kernel_rfl) (by kernel_rfl) (by kernel_rfl) (fun _ _ _ h => h) (by rfl) (fun w' hS => ?hf10) ?rf10
          case hf10 => go_simp; with_reducible rfl
          try simp only [Act.put, List.setIfInBounds_toArray, List.set_cons_zero, List.set_cons_succ]
          refine wpAnyH_ready (rs := [11]) (by kernel_rfl) (by simp) (AllReadyH.cons rfl (fun K hK => ?_) AllReadyH.nil)
          go_simp
          refine HPut.out.mono ?_
          rintro e w2 ⟨rfl, a2, c2, hW2, hE2, hf2⟩
          refine hK.out _ _ (hE2) (fun hHeld => ?_)
          clear hK K hHeld
          refine region_now (hE2) ?_
          try simp only [Act.put, List.setIfInBounds_toArray, List.set_cons_zero, List.set_cons_succ]
          refine region_take 12 39 (v := ?vf12) rfl rfl (by kernel_rfl) (by kernel_rfl) (by kernel_rfl) (fun _ _ _ h => h) (by rfl) (fun w' hS => ?hf12) ?rf12
          case hf12 => go_simp; with_reducible rfl
          try simp only [Act.put, List.setIfInBounds_toArray, List.set_cons_zero, List.set_cons_succ]
          refine wpAnyH_done (by kernel_rfl) ?_ _
          have hEE := ext_new hE.drew hE2 (by omega) hfa
          have hown2 := own_ext hown.drew hE2 (fun g hg e => by
            cases ia with
            | none => cases hg
            | some y =>
              cases hg
              obtain ⟨d1, d2⟩ := hdis y rfl
              exact not_wrs d1 d2 e)
          clear cl0 cl1 HPut
          go_wp2_with fail
          go_roundw
          case rel =>
            refine ⟨k + 1, a2, c2, ia, ic, by omega, by omega, by go_num, by rw [HS.out], by rw [HS.out]; exact hown2, by rw [HS.out]; exact hW2, hEE, fun g hg => ?_, fun g hg => ⟨(hdis g hg).1, fun g' hg' => ?_⟩⟩
            · rcases hf2 g hg with e | e
              · exact hfa g e
              · have := hE.drew.size; omega
            · rcases hf2 g' hg' with e | e
              · exact (hdis g hg).2 g' e
              · obtain ⟨_, _, hh, _, _, _, h4⟩ := own_form hown
                cases hh
                have := (h4 g hg).2.1
                have e' : wr.heap.size ≤ g'.block := e
                omega
          case measure => simp [intOf]; omega
        | true =>
          rw [hok] at hsucc HPut
          simp only [if_true] at hsucc HPut
          have HS := Lib.hid hsucc
          have HOk := Lib.hid hok
          clear hsucc hok
          go_wp2_with fail
          refine region_start (WrS b a) (by kernel_rfl) ?_
          try simp only [Act.put, List.setIfInBounds_toArray, List.set_cons_zero, List.set_cons_succ]
          refine region_take 0 27 (v := ?vt0) rfl rfl (by kernel_rfl) (by kernel_rfl) (by kernel_rfl) (fun _ _ _ h => h) (by rfl) (fun w' hS => ?ht0) ?rt0
          case ht0 => go_simp; with_reducible rfl
          try simp only [Act.put, List.setIfInBounds_toArray, List.set_cons_zero, List.set_cons_succ]
          refine region_take 1 28 (v := ?vt1) rfl rfl (by kernel_rfl) (by kernel_rfl) (by kernel_rfl) (fun _ _ _ h => h) (by rfl) (fun w' hS => ?ht1) ?rt1
          case ht1 => go_simp; with_reducible rfl
          try simp only [Act.put, List.setIfInBounds_toArray, List.set_cons_zero, List.set_cons_succ]
          refine region_take 2 29 (v := ?vt2) rfl rfl (by kernel_rfl) (by kernel_rfl) (by kernel_rfl) (fun _ _ _ h => h) (by rfl) (fun w' hS => ?ht2) ?rt2
          case ht2 => go_simp; with_reducible rfl
          try simp only [Act.put, List.setIfInBounds_toArray, List.set_cons_zero, List.set_cons_succ]
          refine region_take 3 30 (v := ?vt3) rfl rfl (by kernel_rfl) (by kernel_rfl) (by kernel_rfl) (fun _ _ _ h => h) (by rfl) (fun w' hS => ?ht3) ?rt3
          case ht3 => go_simp; with_reducible rfl
          try simp only [Act.put, List.setIfInBounds_toArray, List.set_cons_zero, List.set_cons_succ]
          refine region_take 4 31 (v := ?vt4) rfl rfl (by kernel_rfl) (by kernel_rfl) (by kernel_rfl) (fun _ _ _ h => h) (by rfl) (fun w' hS => ?ht4) ?rt4
          case ht4 => go_simp; with_reducible rfl
          try simp only [Act.put, List.setIfInBounds_toArray, List.set_cons_zero, List.set_cons_succ]
          refine region_take 5 32 (v := ?vt5) rfl rfl (by kernel_rfl) (by kernel_rfl) (by kernel_rfl) (fun _ _ _ h => h) (by rfl) (fun w' hS => ?ht5) ?rt5
          case ht5 => go_simp; with_reducible rfl
          try simp only [Act.put, List.setIfInBounds_toArray, List.set_cons_zero, List.set_cons_succ]
          refine region_take 6 33 (v := ?vt6) rfl rfl (by kernel_rfl) (by kernel_rfl) (by kernel_rfl) (fun _ _ _ h => h) (by rfl) (fun w' hS => ?ht6) ?rt6
          case ht6 => go_simp; with_reducible rfl
          try simp only [Act.put, List.setIfInBounds_toArray, List.set_cons_zero, List.set_cons_succ]
          refine region_take 7 34 (v := ?vt7) rfl rfl (by kernel_rfl) (by kernel_rfl) (by kernel_rfl) (fun _ _ _ h => h) (by rfl) (fun w' hS => ?ht7) ?rt7
          case ht7 => go_simp; with_reducible rfl
          try simp only [Act.put, List.setIfInBounds_toArray, List.set_cons_zero, List.set_cons_succ]
          refine region_take 8 35 (v := ?vt8) rfl rfl (by kernel_rfl) (by kernel_rfl) (by kernel_rfl) (fun _ _ _ h => h) (by rfl) (fun w' hS => ?ht8) ?rt8
          case ht8 => go_simp; with_reducible rfl
          try simp only [Act.put, List.setIfInBounds_toArray, List.set_cons_zero, List.set_cons_succ]
          refine region_take 9 36 (v := ?vt9) rfl rfl (by kernel_rfl) (by kernel_rfl) (by kernel_rfl) (fun _ _ _ h => h) (by rfl) (fun w' hS => ?ht9) ?rt9
          case ht9 => go_simp; with_reducible rfl
          try simp only [Act.put, List.setIfInBounds_toArray, List.set_cons_zero, List.set_cons_succ]
          refine region_take 10 37 (v := ?vt10) rfl rfl (by kernel_rfl) (by kernel_rfl) (by kernel_rfl) (fun _ _ _ h => h) (by rfl) (fun w' hS => ?ht10) ?rt10
          case ht10 => go_simp; with_reducible rfl
          try simp only [Act.put, List.setIfInBounds_toArray, List.set_cons_zero, List.set_cons_succ]
          refine wpAnyH_ready (rs := [11]) (by kernel_rfl) (by simp) (AllReadyH.cons rfl (fun K hK => ?_) AllReadyH.nil)
          go_simp
          refine HPut.out.mono ?_
          rintro e w2 ⟨rfl, a2, c2, hW2, hE2, hf2⟩
          refine hK.out _ _ (hE2) (fun hHeld => ?_)
          clear hK K hHeld
          refine region_now (hE2) ?_
          try simp only [Act.put, List.setIfInBounds_toArray, List.set_cons_zero, List.set_cons_succ]
          refine region_take 12 39 (v := ?vt12) rfl rfl (by kernel_rfl) (by kernel_rfl) (by kernel_rfl) (fun _ _ _ h => h) (by rfl) (fun w' hS => ?ht12) ?rt12
          case ht12 => go_simp; with_reducible rfl
          try simp only [Act.put, List.setIfInBounds_toArray, List.set_cons_zero, List.set_cons_succ]
          refine wpAnyH_done (by kernel_rfl) ?_ _
          have hEE := ext_new hE.drew hE2 (by omega) hfa
          have hown2 := own_ext hown.drew hE2 (fun g hg e => by
            cases ia with
            | none => cases hg
            | some y =>
              cases hg
              obtain ⟨d1, d2⟩ := hdis y rfl
              exact not_wrs d1 d2 e)
          have c0 := hEE.cell_some h0 id
          have c1 := hEE.cell_some h1 id
          clear cl0 cl1 HPut
          have hsz2 := hEE.size
          go_wp2_with (at_builtin; refine wpList_append_fresh rfl (.tmp 40) (.tmp 45) 22 rfl w.heap.size 29 (.agg #[.int .u32 0, .int .i64 0]) 2 16 Try.underlying22 infoPart rfl (by decide) _ (kept l k).length ((kept l k).flatMap partCells) rfl (hown2.alloc _) (some ⟨w2.heap.size, 0, none⟩) 1 1 (partCells l[k]) rfl (fun e => by cases e) rfl (row_at _ rfl rfl) (fun u hu => part_one [l[k]] u (by simpa using hu)) ((kept l k).length + 1) rfl ((kept l k ++ [l[k]]).flatMap partCells) (by simp) (by omega) (by unfold maxLen; omega) (by simp; omega) ?_)
          intro ia2 ic2 w3 hO3 hg3 hfr3
          have hg3' : Ext (fun i => (Value.slice ia (kept l k).length ic).ownBlock = some i) (w2.alloc (.cells #[.int .u32 l[k].1, .int .i64 l[k].2] 29)) w3 := ext_of_grown hg3
          have hE3 : Pure w w3 := Ext.own (hEE.alloc _) (hown2.alloc _) hg3
          have hW3 := (hW2.pure (ext_alloc w2 (.cells #[.int .u32 l[k].1, .int .i64 l[k].2] 29))).ext hg3' (fun e => by
            cases ia with
            | none => cases e
            | some y =>
              have e' : some y.block = some b := e
              exact (hdis y rfl).1 (Option.some.inj e')) (fun g hg e => by
            cases ia with
            | none => cases e
            | some y =>
              have e' : some y.block = some g.block := e
              have e2 := Option.some.inj e'
              rcases hf2 g hg with e3 | e3
              · exact (hdis y rfl).2 g e3 e2
              · obtain ⟨_, _, hh, _, _, _, h4⟩ := own_form hown
                cases hh
                have := (h4 y rfl).2.1
                have e4 : wr.heap.size ≤ g.block := e3
                omega)
          go_wp2_with fail
          go_roundw
          case rel =>
            have hs2 : wr.heap.size ≤ w2.heap.size := hE2.size
            have hlenk : (kept l (k + 1)).length = (kept l k).length + 1 := by rw [HS.out]; simp
            refine ⟨k + 1, a2, c2, ia2, ic2, by omega, by omega, by go_num, by rw [hlenk], by rw [hlenk, HS.out, List.flatMap_append]; exact hO3, ?_, hE3, fun g hg => ?_, fun g hg => ⟨fun e => ?_, fun g' hg' e => ?_⟩⟩
            · rw [HS.out, bitsAll_append, show bitsAll high [l[k]] = bitsP high l[k] from by simp [bitsAll]]; exact hW3
            · rcases hf2 g hg with e | e
              · exact hfa g e
              · have : w.heap.size ≤ wr.heap.size := hE.size
                have e4 : wr.heap.size ≤ g.block := e
                omega
            · rcases hfr3 g hg with e2 | e2
              · cases ia with
                | none => cases e2
                | some y =>
                  have e' : some y.block = some g.block := e2
                  exact (hdis y rfl).1 ((Option.some.inj e').trans e)
              · omega
            · have hg'lt := hW2.lt g' hg'
              rcases hfr3 g hg with e2 | e2
              · cases ia with
                | none => cases e2
                | some y =>
                  have e' : some y.block = some g.block := e2
                  have e3 := (Option.some.inj e').trans e
                  rcases hf2 g' hg' with e5 | e5
                  · exact (hdis y rfl).2 g' e5 e3
                  · obtain ⟨_, _, hh, _, _, _, h4⟩ := own_form hown
                    cases hh
                    have := (h4 y rfl).2.1
                    have e4 : wr.heap.size ≤ g'.block := e5
                    omega
              · omega
          case measure => simp [intOf]; omega
      · have hfin : ¬ ((k : Int) < 60) := by omega
        clear hlt60
        have hkn : (kept l k).length ≤ 60 := by omega
        have hpl : (pack high (bitsAll high (kept l k))).length ≤ 1000 := by rw [pack_length]; omega
        have hpl8 := Lib.hid (pack_length high (bitsAll high (kept l k)))
        go_wp2_with fail
        refine (bytes_any b high _ a c wr hW (by omega)).mono ?_
        rintro e w2 ⟨ra, rc, rfl, hN⟩
        go_wp2_with fail
        refine (read_any ra rc _ high w2 hN.bytes hN.nil hN.le (by omega)).mono ?_
        rintro e w3 ⟨rb, ga, gc, rfl, hR, hE3, hrb1, hrb2, hga⟩
        have hP3 : Pure w w3 := (hE.pure hN.ext).pure hE3
        have hsz2 := hN.ext.size
        have hszw := hE.size
        have hrow : RowOf w3 ia ((kept l k).flatMap partCells) := (own_row hown).ext (hN.ext.pure hE3) (fun _ _ => id)
        have hia : ∀ g, ia = some g → g.block < wr.heap.size := by
          intro g hg
          obtain ⟨_, _, hh, _, _, _, h4⟩ := own_form hown
          cases hh
          exact (h4 g hg).2.1
        have hokk := kept_ok l k
        have hin0 : ∀ p ∈ kept l k, 0 ≤ p.1 := fun p hp => (hin p (List.mem_of_mem_take (List.mem_filter.1 hp).1)).1
        clear hN hE3 hE hW hown hdis hfa
        generalize hin' : kept l k = inn at *
        clear hin'
        go_wp2_with fail
        go_loopw [9, 10, 11] (fun i _ _ wr2 => ∃ (m : Nat), m ≤ inn.length ∧ i = .int .i64 m ∧ RdIs wr2 rb high (pack high (bitsAll high inn)) (bitsAll high (inn.take m)).length ga gc ∧ Pure w wr2 ∧ RowOf wr2 ia (inn.flatMap partCells)) (fun i _ _ _ => inn.length - (intOf i).toNat)
        case atStart => exact ⟨0, Nat.zero_le _, rfl, hR, hP3, hrow⟩
        case round =>
          obtain ⟨m, hm, rfl, hR2, hP, hrow2⟩ := hrel
          clear hR hP3 hrow
          have hbm := bitsAll_take_le high inn m
          by_cases hmn : m < inn.length
          · obtain ⟨pb, po, rfl, h0, h1⟩ := part_at hrow2 m hmn
            have hk0 : (0 : Int) ≤ (m : Int) := by omega
            have hki : (m : Int) < (inn.length : Int) := by omega
            have hokm := hokk inn[m] (List.getElem_mem _)
            have hx0 := hin0 inn[m] (List.getElem_mem _)
            have hokm' := hokm
            simp only [okP, Bool.and_eq_true, decide_eq_true_eq] at hokm
            obtain ⟨⟨hn0, hn1⟩, hn2⟩ := hokm
            obtain ⟨nn, hnn⟩ := Int.eq_ofNat_of_zero_le hn0
            have hsucc := Lib.hid (bitsAll_succ high inn m hmn)
            have hcut := bitsAll_take_le high inn (m + 1)
            rw [hsucc.out] at hcut
            have hval : ((num high (((bitsOf high (pack high (bitsAll high inn))).drop (bitsAll high (inn.take m)).length).take nn) : Nat) : Int) = inn[m].1 := by
              rw [bitsOf_pack]; unfold align; rw [show nn = inn[m].2.toNat from by omega, drop_all high inn m hmn]; exact num_bitsP high _ hx0 hokm'
            have HG := get_yes rb high _ _ ga gc nn wr hR2 (by omega) (by omega) (by have := hpl8.out; omega)
            rw [hval] at HG
            have HG' := Lib.hid HG
            have hpb : pb < _ := hia _ rfl
            have hne : pb ≠ rb := by omega
            have cl0 := fun w' (hS : Ext (fun i => i = rb) wr w') => hS.cell_some h0 hne
            clear hval HG hn0 hn1 hn2 hx0 hokm'
            go_wp2_with fail
            refine HG'.out.mono ?_
            rintro e w4 ⟨rfl, hR3, hE4⟩
            have h0' := cl0 w4 hE4
            clear cl0 HG'
            go_wp2_with fail
            go_roundw
            case rel => exact ⟨m + 1, by omega, by go_num, by rw [hsucc.out, hnn]; exact hR3, hP.trans hE4 (fun i hi e => by subst e; exact absurd hi (by omega)), hrow2.ext hE4 (fun g hg => by cases hg; exact hne)⟩
            case measure => simp [intOf]; omega
          · have hfin2 : ¬ ((m : Int) < (inn.length : Int)) := by omega
            rw [show inn.take m = inn from List.take_of_length_le (by omega)] at hR2
            clear hmn hbm
            obtain ⟨q, hq⟩ : ∃ q : Nat, (q : Int) = 8 * ((pack high (bitsAll high inn)).length : Int) - ((bitsAll high inn).length : Int) := ⟨8 * (pack high (bitsAll high inn)).length - (bitsAll high inn).length, by have := hpl8.out; omega⟩
            have hq8 : q < 8 := by have := hpl8.out; omega
            have hqi : (q : Int) < 8 := by omega
            have hqm : (q : Int).tmod 8 = q := by rw [Int.tmod_eq_emod_of_nonneg (by omega)]; omega
            have HL := left_any rb high _ _ ga gc wr hR2 (by omega) (by omega)
            rw [← hq] at HL
            have HL' := Lib.hid HL
            have HQ := Lib.hid hq
            clear hq HL
            go_wp2_with fail
            refine HL'.out.mono ?_
            rintro e w4 ⟨rfl, md, hw4⟩
            clear HL'
            have hR3 : RdIs w4 rb high (pack high (bitsAll high inn)) (bitsAll high inn).length ga gc := hR2.ext (S := fun _ => False) (hw4 ▸ (Ext.refl _ wr).drewN md) id (fun _ _ => id)
            have hP3 : Pure w w4 := hw4 ▸ hP.drewN md
            have HG := get_yes rb high _ _ ga gc q w4 hR3 (by omega) (by omega) (by have := hpl8.out; have := HQ.out; omega)
            rw [bitsOf_pack, num_rest] at HG
            have HG' := Lib.hid HG
            clear HG hw4
            go_wp2_with fail
            refine HG'.out.mono ?_
            rintro e w5 ⟨rfl, hR4, hE5⟩
            clear HG'
            go_wp2_with fail
            refine (works_any w5).mono ?_
            rintro e w6 ⟨rfl, hE6⟩
            go_wp2_with fail
            go_ret
            refine ⟨rfl, ?_⟩
            have hP5 := hP3.trans hE5 (fun i hi e => by subst e; exact absurd hi (by omega))
            exact (hP5.pure hE6).below
    · have hfin : ¬ ((k : Int) < (l.length : Int)) := by omega
      clear hlt
      have hkn : (kept l k).length ≤ 60 := by omega
      have hpl : (pack high (bitsAll high (kept l k))).length ≤ 1000 := by rw [pack_length]; omega
      have hpl8 := Lib.hid (pack_length high (bitsAll high (kept l k)))
      go_wp2_with fail
      refine (bytes_any b high _ a c wr hW (by omega)).mono ?_
      rintro e w2 ⟨ra, rc, rfl, hN⟩
      go_wp2_with fail
      refine (read_any ra rc _ high w2 hN.bytes hN.nil hN.le (by omega)).mono ?_
      rintro e w3 ⟨rb, ga, gc, rfl, hR, hE3, hrb1, hrb2, hga⟩
      have hP3 : Pure w w3 := (hE.pure hN.ext).pure hE3
      have hsz2 := hN.ext.size
      have hszw := hE.size
      have hrow : RowOf w3 ia ((kept l k).flatMap partCells) := (own_row hown).ext (hN.ext.pure hE3) (fun _ _ => id)
      have hia : ∀ g, ia = some g → g.block < wr.heap.size := by
        intro g hg
        obtain ⟨_, _, hh, _, _, _, h4⟩ := own_form hown
        cases hh
        exact (h4 g hg).2.1
      have hokk := kept_ok l k
      have hin0 : ∀ p ∈ kept l k, 0 ≤ p.1 := fun p hp => (hin p (List.mem_of_mem_take (List.mem_filter.1 hp).1)).1
      clear hN hE3 hE hW hown hdis hfa
      generalize hin' : kept l k = inn at *
      clear hin'
      go_wp2_with fail
      go_loopw [9, 10, 11] (fun i _ _ wr2 => ∃ (m : Nat), m ≤ inn.length ∧ i = .int .i64 m ∧ RdIs wr2 rb high (pack high (bitsAll high inn)) (bitsAll high (inn.take m)).length ga gc ∧ Pure w wr2 ∧ RowOf wr2 ia (inn.flatMap partCells)) (fun i _ _ _ => inn.length - (intOf i).toNat)
      case atStart => exact ⟨0, Nat.zero_le _, rfl, hR, hP3, hrow⟩
      case round =>
        obtain ⟨m, hm, rfl, hR2, hP, hrow2⟩ := hrel
        clear hR hP3 hrow
        have hbm := bitsAll_take_le high inn m
        by_cases hmn : m < inn.length
        · obtain ⟨pb, po, rfl, h0, h1⟩ := part_at hrow2 m hmn
          have hk0 : (0 : Int) ≤ (m : Int) := by omega
          have hki : (m : Int) < (inn.length : Int) := by omega
          have hokm := hokk inn[m] (List.getElem_mem _)
          have hx0 := hin0 inn[m] (List.getElem_mem _)
          have hokm' := hokm
          simp only [okP, Bool.and_eq_true, decide_eq_true_eq] at hokm
          obtain ⟨⟨hn0, hn1⟩, hn2⟩ := hokm
          obtain ⟨nn, hnn⟩ := Int.eq_ofNat_of_zero_le hn0
          have hsucc := Lib.hid (bitsAll_succ high inn m hmn)
          have hcut := bitsAll_take_le high inn (m + 1)
          rw [hsucc.out] at hcut
          have hval : ((num high (((bitsOf high (pack high (bitsAll high inn))).drop (bitsAll high (inn.take m)).length).take nn) : Nat) : Int) = inn[m].1 := by
            rw [bitsOf_pack]; unfold align; rw [show nn = inn[m].2.toNat from by omega, drop_all high inn m hmn]; exact num_bitsP high _ hx0 hokm'
          have HG := get_yes rb high _ _ ga gc nn wr hR2 (by omega) (by omega) (by have := hpl8.out; omega)
          rw [hval] at HG
          have HG' := Lib.hid HG
          have hpb : pb < _ := hia _ rfl
          have hne : pb ≠ rb := by omega
          have cl0 := fun w' (hS : Ext (fun i => i = rb) wr w') => hS.cell_some h0 hne
          clear hval HG hn0 hn1 hn2 hx0 hokm'
          go_wp2_with fail
          refine HG'.out.mono ?_
          rintro e w4 ⟨rfl, hR3, hE4⟩
          have h0' := cl0 w4 hE4
          clear cl0 HG'
          go_wp2_with fail
          go_roundw
          case rel => exact ⟨m + 1, by omega, by go_num, by rw [hsucc.out, hnn]; exact hR3, hP.trans hE4 (fun i hi e => by subst e; exact absurd hi (by omega)), hrow2.ext hE4 (fun g hg => by cases hg; exact hne)⟩
          case measure => simp [intOf]; omega
        · have hfin2 : ¬ ((m : Int) < (inn.length : Int)) := by omega
          rw [show inn.take m = inn from List.take_of_length_le (by omega)] at hR2
          clear hmn hbm
          obtain ⟨q, hq⟩ : ∃ q : Nat, (q : Int) = 8 * ((pack high (bitsAll high inn)).length : Int) - ((bitsAll high inn).length : Int) := ⟨8 * (pack high (bitsAll high inn)).length - (bitsAll high inn).length, by have := hpl8.out; omega⟩
          have hq8 : q < 8 := by have := hpl8.out; omega
          have hqi : (q : Int) < 8 := by omega
          have hqm : (q : Int).tmod 8 = q := by rw [Int.tmod_eq_emod_of_nonneg (by omega)]; omega
          have HL := left_any rb high _ _ ga gc wr hR2 (by omega) (by omega)
          rw [← hq] at HL
          have HL' := Lib.hid HL
          have HQ := Lib.hid hq
          clear hq HL
          go_wp2_with fail
          refine HL'.out.mono ?_
          rintro e w4 ⟨rfl, md, hw4⟩
          clear HL'
          have hR3 : RdIs w4 rb high (pack high (bitsAll high inn)) (bitsAll high inn).length ga gc := hR2.ext (S := fun _ => False) (hw4 ▸ (Ext.refl _ wr).drewN md) id (fun _ _ => id)
          have hP3 : Pure w w4 := hw4 ▸ hP.drewN md
          have HG := get_yes rb high _ _ ga gc q w4 hR3 (by omega) (by omega) (by have := hpl8.out; have := HQ.out; omega)
          rw [bitsOf_pack, num_rest] at HG
          have HG' := Lib.hid HG
          clear HG hw4
          go_wp2_with fail
          refine HG'.out.mono ?_
          rintro e w5 ⟨rfl, hR4, hE5⟩
          clear HG'
          go_wp2_with fail
          refine (works_any w5).mono ?_
          rintro e w6 ⟨rfl, hE6⟩
          go_wp2_with fail
          go_ret
          refine ⟨rfl, ?_⟩
          have hP5 := hP3.trans hE5 (fun i hi e => by subst e; exact absurd hi (by omega))
          exact (hP5.pure hE6).below

theorem open_parts {H : Type} {enc : TypeId × Value → H} {W : World} {v : Value} {d : DataW H} {p : List MemPlace} {base : Nat}
    (hv : Value.okWide Try.prog W .any base 22 v) (h : DataW.Trod enc Try.prog W 0 (fun _ => true) true 22 v d p) :
    ∃ (a : Option Addr) (cap : Nat) (l : List (Int × Int)), v = .slice a l.length cap ∧ (l.length : Int) ≤ 9223372036854775807 ∧ RowOf W a (l.flatMap partCells) ∧ ∀ q ∈ l, InP q := by
  obtain ⟨a0, len, cap, rfl⟩ := okWide_slice Try.underlying22 hv
  obtain ⟨fuel, hf⟩ := h
  obtain ⟨a, c, rows, hcs, hl, hm, _, hq, hrow⟩ := open_rows (size := 2) (Q := fun cs (q : Int × Int) => cs = partCells q ∧ InP q) Try.underlying22 (by kernel_rfl) (by decide) (fun n cs y hy hlen => by
    obtain ⟨y0, y1, m, _, _, h0, h1⟩ := trod_struct2 Try.underlying29 hy
    match cs, hlen with
    | [c0, c1], _ =>
      obtain ⟨x, e0, _, w0⟩ := DataW.trod_int Try.underlying27 h0
      obtain ⟨z, e1, _, w1⟩ := DataW.trod_int Try.underlying3 h1
      have s0 : Try.prog.cellsOf 27 = 1 := by kernel_rfl
      have s1 : Try.prog.cellsOf 3 = 1 := by kernel_rfl
      simp only [s0, s1] at e0 e1
      simp at e0 e1
      subst e0 e1
      simp [Lit.wf, IntKind.min, IntKind.max, IntKind.signed, IntKind.bits] at w0 w1
      exact ⟨(x, z), rfl, w0.1, w0.2, w1.1, w1.2⟩) hf
  simp [Value.cells] at hcs
  obtain ⟨rfl, rfl, rfl⟩ := hcs
  have hmap : rows.flatMap (·.1) = (rows.map (·.2)).flatMap partCells := by
    rw [List.flatMap_map]
    clear hl hrow hf hv
    induction rows with
    | nil => rfl
    | cons r rows ih => rw [List.flatMap_cons, List.flatMap_cons, ih (fun r hr => hq r (by simp [hr])), (hq r (by simp)).2.1]
  refine ⟨a0, cap, rows.map (·.2), by simp, by simp; unfold maxLen at hm; omega, hmap ▸ hrow, fun q hq' => ?_⟩
  obtain ⟨r, hr, rfl⟩ := List.mem_map.1 hq'
  exact (hq r hr).2.2

theorem lifted (os : Os) (started : os.Started) (H : Type) (enc : TypeId × Value → H) :
    ReturnsInHanded {} Try.checked os 3 .any (Rows.bitsBackSpec.pre6 enc Try.prog Try.f3 Rows.bitsBackRow.domain false) (Rows.bitsBackSpec.post enc Try.prog Try.f3 false true false false) := by
  refine returnsInHanded_of_change (C := Try.checked) own started (by kernel_rfl) Try.func3
    (ChangeSpec.witness6 (enc := enc) (C := Try.checked) false ⟨#[], #[.bool false, .slice none 0 0], []⟩ 8 (by kernel_rfl) (by kernel_rfl) (by kernel_rfl) (by kernel_rfl)) ?_
  intro W base args ds gs before hval0 hW hcnd _
  have hval : ∀ (j : Nat) t v, Try.f3.params[j]? = some t → args[j]? = some v → Value.okWide Try.prog W .any base t v := hval0
  have hW' := hW
  obtain ⟨p, q, hA0, hV, rfl, hfz, hnd⟩ := hW
  have hA : DataW.TrodAll enc Try.prog W 0 (fun _ => true) true Try.f3.params.toList args.toList ds p := hA0
  rw [Try.params3] at hA hval
  obtain ⟨v0, vs0, d0, ds0, p0, q0, hargs, rfl, rfl, h0, r0⟩ := trodAll_cons hA
  obtain ⟨v1, vs1, d1, ds1, p1, q1, rfl, rfl, rfl, h1, r1⟩ := trodAll_cons r0
  obtain ⟨rfl, rfl, rfl⟩ := trodAll_nil r1
  obtain rfl : args = #[v0, v1] := by cases args; simp_all
  obtain ⟨rfl, rfl⟩ := trodVars_none hV
  obtain ⟨x, rfl, rfl, rfl⟩ := open_bool Try.underlying4 (hval 0 4 v0 rfl rfl) h0
  have k1 := h1
  have lt1 : ∀ x ∈ p1, x.block < W.heap.size := by obtain ⟨m, hm⟩ := k1; exact DataW.trod_lt m _ _ _ hm
  obtain ⟨a, cap, l, rfl, hl, hrow, hin⟩ := open_parts (hval 1 22 v1 rfl rfl) h1
  clear hA0 hval0
  refine (walk x a cap l W hl hrow hin).mono fun e W' ⟨he, bel⟩ => ?_
  subst he
  exact ⟨_, rfl, _, _, _, [], _, [], hW', trodAll_mk1 (shut_bool Try.underlying4 _), (trodAll_cons_mk (shut_bool Try.underlying4 _) (trodAll_cons_mk (Below.trod laidOut (by kernel_rfl) (of_decide_eq_true (by kernel_rfl)) k1 bel lt1) trodAll_mk0)), rfl, bel.frame _, fun h => by cases h⟩

theorem proved : Rows.BitsBackSaid :=
  OpenClaim.holds_of_wide 3 Try.f3 rfl rfl rfl rfl rfl rfl rfl ⟨rfl, rfl, rfl, rfl, rfl⟩ rfl rfl rfl rfl rfl (by kernel_rfl) Try.func3 (by kernel_rfl)
    (of_decide_eq_true (by kernel_rfl)) (by unfold Func.isWrapper; first | (rw [if_pos (by decide +kernel)]; kernel_rfl) | (rw [if_neg (by decide +kernel)]; exact ⟨rfl, rfl⟩))
    (fun os started H enc _ => lifted os started H enc)
#print axioms proved
end Go.Proofs.Ytcjfmgaelpkndaa.bitsBack
