/-
  Proved: BitsPuts: for either end and all parts the law returns true, and writes nothing that was there. Conditions: none.
-/
import Derived.Test.YtcjfmgaelpkndaaWorks
import Derived.Test.YtcjfmgaelpkndaaBitsBack
import Derived.Test.YtcjfmgaelpkndaaRefNum
import Derived.Test.YtcjfmgaelpkndaaOpen
namespace Go.Proofs.Ytcjfmgaelpkndaa.bitsPuts
open Go.ChangeShapes Go.WideShapes Go.ChangeAt Go.RowKit bitsBack
set_option linter.unusedVariables false

def lenOf : Value → Nat
  | .slice _ n _ => n
  | _ => 0
theorem own_blk {a : Option Addr} {n c i : Nat} (h : (Value.slice a n c).ownBlock = some i) : ∃ g, a = some g ∧ g.block = i := by
  cases a with
  | none => cases h
  | some y =>
    have e : some y.block = some i := h
    exact ⟨y, rfl, Option.some.inj e⟩
theorem own_form' {w : World} {B e size n : Nat} {a : Option Addr} {m c : Nat} {xs : List Value} (h : w.ownsRow B e size (.slice a m c) n xs) : a = none → c = 0 := by
  obtain ⟨_, _, hh, _, _, h3, _⟩ := own_form h
  cases hh
  exact h3
theorem number_any (high : Bool) (p : Int × Int) (w : World) (hp : InP p) :
    Calls Try.prog 16 #[.int .u32 p.1, .int .i64 p.2, .bool high] w fun e w' => ∃ a c, e = .returned (.tuple #[.slice a (if okP p then bitsP high p else []).length c, .bool (okP p)]) ∧ w'.ownsRow w.heap.size 4 1 (.slice a (if okP p then bitsP high p else []).length c) (if okP p then bitsP high p else []).length ((if okP p then bitsP high p else []).map Value.bool) ∧ Pure w w' := by
  obtain ⟨x, n⟩ := p
  obtain ⟨h0, h1, _, _⟩ := hp
  simp only at h0 h1
  obtain ⟨x, rfl⟩ := Int.eq_ofNat_of_zero_le h0
  by_cases hn : n < 0 ∨ 32 < n
  · have hk : okP ((x : Int), n) = false := by simp [okP]; omega
    rw [hk]
    refine (number_no1 x n high w hn).mono ?_
    rintro e w' ⟨rfl, hw⟩
    obtain rfl := hw.symm
    exact ⟨none, 0, rfl, World.ownsRow_nil _ _ _ _, Ext.refl _ _⟩
  · obtain ⟨n, rfl⟩ := Int.eq_ofNat_of_zero_le (show 0 ≤ n by omega)
    by_cases hx : x < 2 ^ n
    · have hk : okP ((x : Int), (n : Int)) = true := by simp [okP]; omega
      rw [hk]
      have hb : (bitsP high ((x : Int), (n : Int))) = bitsNum high x n := rfl
      simp only [if_true, hb, bitsNum_length]
      exact number_yes x n high w (by omega) (by omega) hx
    · have hk : okP ((x : Int), (n : Int)) = false := by simp [okP]; omega
      rw [hk]
      refine (number_no2 x n high w (by omega) (by omega) (by omega)).mono ?_
      rintro e w' ⟨rfl, hw⟩
      obtain rfl := hw.symm
      exact ⟨none, 0, rfl, World.ownsRow_nil _ _ _ _, Ext.refl _ _⟩

theorem bool_one (l : List Bool) : ∀ u ∈ l.map Value.bool, u.oneCell' = true := by intro u hu; obtain ⟨y, _, rfl⟩ := List.mem_map.1 hu; rfl
/-- the bits that are put -/
def putB (high : Bool) (p : Int × Int) : List Bool := if okP p then bitsP high p else []
theorem putB_len (high : Bool) (p : Int × Int) : (putB high p).length ≤ 32 := by
  unfold putB
  cases h : okP p with
  | false => simp
  | true =>
    simp only [if_true, bitsP_length]
    simp only [okP, Bool.and_eq_true, decide_eq_true_eq] at h
    omega
theorem numb_any (high : Bool) (p : Int × Int) (w : World) (hp : InP p) :
    Calls Try.prog 16 #[.int .u32 p.1, .int .i64 p.2, .bool high] w fun e w' => ∃ a c, e = .returned (.tuple #[.slice a (putB high p).length c, .bool (okP p)]) ∧ w'.ownsRow w.heap.size 4 1 (.slice a (putB high p).length c) (putB high p).length ((putB high p).map Value.bool) ∧ Pure w w' :=
  number_any high p w hp
theorem putb_any (b : Nat) (high : Bool) (bs : List Bool) (a : Option Addr) (c : Nat) (p : Int × Int) (w : World) (h : WrIs w b high bs a c) (hlen : bs.length ≤ 50000) (hp : InP p) :
    Calls Try.prog 8 #[.pointer (some ⟨b, 0, none⟩), .int .u32 p.1, .int .i64 p.2] w fun e w' => e = .returned (.int .i64 (if okP p then 0 else 2)) ∧ ∃ a' c', WrIs w' b high (bs ++ putB high p) a' c' ∧ Ext (WrS b a) w w' ∧ (∀ g, a' = some g → a = some g ∨ w.heap.size ≤ g.block) :=
  put_any b high bs a c p w h hlen hp

set_option maxHeartbeats 8000000 in
set_option maxRecDepth 100000 in
theorem walk (high : Bool) (ad : Option Addr) (cap : Nat) (l : List (Int × Int)) (w : World) (hl : (l.length : Int) ≤ 9223372036854775807) (hr : RowOf w ad (l.flatMap partCells)) (hin : ∀ p ∈ l, InP p) :
    Calls Try.prog 5 #[.bool high, .slice ad l.length cap] w fun e w' => e = .returned (.bool true) ∧ Below w.heap.size w w' := by
  go_enter Try.func5, Try.ntmps5
  go_wp2_with fail
  refine (new_any high w).mono ?_
  rintro e w1 ⟨rfl, hA1, hE1⟩
  obtain ⟨b, hb⟩ : ∃ b, b = w.heap.size := ⟨_, rfl⟩
  rw [← hb] at hA1 ⊢
  have hb1 : w.heap.size ≤ b := by omega
  clear hb
  go_wp2_with fail
  refine (works_any w1).mono ?_
  rintro e w2 ⟨rfl, hE2⟩
  have hA2 := hA1.pure hE2
  have hP2 := hE1.pure hE2
  clear hA1 hE1 hE2
  go_wp2_with fail
  go_loopw [6, 7, 8, 9, 10] (fun v i _ _ _ wr => ∃ (k : Nat) (bs : List Bool) (a : Option Addr) (c : Nat) (fa : Option Addr) (fc : Nat), k ≤ l.length ∧ k ≤ 60 ∧ i = .int .i64 k ∧ v = .slice fa bs.length fc ∧ wr.ownsRow w.heap.size 4 1 v bs.length (bs.map Value.bool) ∧ WrIs wr b high bs a c ∧ Pure w wr ∧ (∀ g, a = some g → w.heap.size ≤ g.block) ∧ (∀ g, fa = some g → g.block ≠ b ∧ ∀ g', a = some g' → g.block ≠ g'.block) ∧ bs.length ≤ 40 * k) (fun _ i _ _ _ _ => 60 - (intOf i).toNat)
  case atStart => exact ⟨0, [], none, 0, none, 0, Nat.zero_le _, Nat.zero_le _, rfl, rfl, World.ownsRow_nil _ _ _ _, hA2, hP2, (fun g hg => by cases hg), (fun g hg => by cases hg), Nat.zero_le _⟩
  case round =>
    obtain ⟨k, bs, a, c, fa, fc, hk, hk60, rfl, rfl, hown, hW, hP, hfa, hdis, hbl⟩ := hrel
    clear hA2 hP2
    have hbsz := hW.blk.lt
    by_cases hlt : k < l.length
    · by_cases hlt60 : k < 60
      · obtain ⟨ab, ao, rfl, h0, h1⟩ := part_at hr k hlt
        have habk : ab < w.heap.size := World.block_lt_of_cell? _ _ h0
        have hk0 : (0 : Int) ≤ (k : Int) := by omega
        have hki : (k : Int) < (l.length : Int) := by omega
        have hinP := hin l[k] (List.getElem_mem _)
        have hnw : ¬ WrS b a ab := not_wrs (by omega) (fun g hg => by have := hfa g hg; omega)
        have g0 := hP.cell_some h0 id
        have g1 := hP.cell_some h1 id
        obtain ⟨p, hp⟩ : ∃ p, p = l[k] := ⟨_, rfl⟩
        rw [← hp] at h0 h1 g0 g1 hinP
        clear hp
        have hinP' := hinP
        obtain ⟨i0, i1, i2, i3⟩ := hinP'
        by_cases hn0 : p.2 < 0
        · by_cases hx2 : p.1 % 2 = 0
          · have hx2' : (p.1 % 2 == 0) = true := by simp; omega
            clear hx2
            go_wp2_with fail
            refine (walign_any b high bs a c wr hW (by omega)).mono ?_
            rintro e w5 ⟨rfl, hW5, hE5⟩
            have hown5 := own_ext hown hE5 (fun g hg e => by
              obtain ⟨y, hy, hyg⟩ := own_blk hg
              exact (hdis y hy).1 (hyg.trans e))
            have hP5 := hP.trans hE5 (fun i hi e => by subst e; exact absurd hi (by omega))
            have hall := align_length bs
            have hal2 : (align bs).length ≤ 40 * (k + 1) := by omega
            have hal3 : bs.length ≤ (align bs).length := by omega
            have HAL := Lib.hid hall
            clear g0 g1 hall hE5 hown
            go_wp2_with fail
            go_loopw [6] (fun v wi => ∃ (bs' : List Bool) (fa : Option Addr) (fc : Nat), v = .slice fa bs'.length fc ∧ align bs' = align bs ∧ bs'.length ≤ (align bs).length ∧ wi.ownsRow w.heap.size 4 1 v bs'.length (bs'.map Value.bool) ∧ WrIs wi b high (align bs) a c ∧ Pure w wi ∧ (∀ g, fa = some g → g.block ≠ b ∧ ∀ g', a = some g' → g.block ≠ g'.block)) (fun v _ => (align bs).length - lenOf v)
            case atStart => exact ⟨bs, fa, fc, rfl, rfl, hal3, hown5, hW5, hP5, hdis⟩
            case round =>
              obtain ⟨bs', fa', fc', rfl, hae, hle, hown', hW', hP', hdis'⟩ := hrel
              obtain ⟨WW, rfl⟩ : ∃ wo : World, wo = wr := ⟨_, rfl⟩
              clear hown5 hW5 hP5 hdis
              have hal' := align_length bs'
              rw [hae] at hal'
              by_cases h8 : bs'.length % 8 = 0
              · have h8' : ((bs'.length : Int) % 8 != 0) = false := by simp; omega
                have hnb := (align_done bs' h8).symm.trans hae
                rw [← hnb] at hW' hal2
                clear h8 hnb hae hle hal'
                obtain ⟨nb, hnb⟩ : ∃ nb, nb = bs' := ⟨_, rfl⟩
                subst hnb
                have hW5 := hW'
                have hO5 := hown'
                have hP5 := hP'
                have hdis5 := hdis'
                have hfa5 := hfa
                have hle5 := own_form hO5
                obtain ⟨_, _, hh5, hle5, hmost5, hnil5, hlt5⟩ := hle5
                cases hh5
                have hrow5 := own_row hO5
                have hPl := pack_length high nb
                have hPl' : (pack high nb).length ≤ 1000 := by omega
                have HPl := Lib.hid hPl
                clear hPl
                have HLen := Lib.hid (len_any b high nb a c WW.drew (hW5.pure ((Ext.refl _ WW).drew)))
                have HByt := Lib.hid (bytes_any b high nb a c WW.drew (hW5.pure ((Ext.refl _ WW).drew)) (by omega))
                go_wp2_with fail
                refine region_start (fun _ => False) (by kernel_rfl) ?_
                try simp only [Act.put, List.setIfInBounds_toArray, List.set_cons_zero, List.set_cons_succ]
                refine region_take 0 91 (v := ?vz10) rfl rfl (by kernel_rfl) (by kernel_rfl) (by kernel_rfl) (fun _ _ _ h => h) (by rfl) (fun w' hS => ?hz10) ?rz10
                case hz10 => go_simp; with_reducible rfl
                try simp only [Act.put, List.setIfInBounds_toArray, List.set_cons_zero, List.set_cons_succ]
                refine region_take 2 93 (v := ?vz12) rfl rfl (by kernel_rfl) (by kernel_rfl) (by kernel_rfl) (fun _ _ _ h => h) (by rfl) (fun w' hS => ?hz12) ?rz12
                case hz12 => go_simp; with_reducible rfl
                try simp only [Act.put, List.setIfInBounds_toArray, List.set_cons_zero, List.set_cons_succ]
                refine region_take 3 94 (v := ?vz13) rfl rfl (by kernel_rfl) (by kernel_rfl) (by kernel_rfl) (fun _ _ _ h => h) (by rfl) (fun w' hS => ?hz13) ?rz13
                case hz13 => go_simp; with_reducible rfl
                try simp only [Act.put, List.setIfInBounds_toArray, List.set_cons_zero, List.set_cons_succ]
                refine wpAnyH_ready (rs := [1]) (by kernel_rfl) (by simp) (AllReadyH.cons rfl (fun K hK => ?_) AllReadyH.nil)
                go_simp
                refine HLen.out.mono ?_
                rintro e wp ⟨rfl, hwp⟩
                obtain rfl := hwp.symm
                refine hK.out _ _ (Ext.refl _ _) (fun hHeld => ?_)
                clear hK K hHeld
                refine region_now (Ext.refl _ _) ?_
                try simp only [Act.put, List.setIfInBounds_toArray, List.set_cons_zero, List.set_cons_succ]
                refine region_take 4 95 (v := ?vz14) rfl rfl (by kernel_rfl) (by kernel_rfl) (by kernel_rfl) (fun _ _ _ h => h) (by rfl) (fun w' hS => ?hz14) ?rz14
                case hz14 => go_simp; with_reducible rfl
                try simp only [Act.put, List.setIfInBounds_toArray, List.set_cons_zero, List.set_cons_succ]
                refine region_take 5 96 (v := ?vz15) rfl rfl (by kernel_rfl) (by kernel_rfl) (by kernel_rfl) (fun _ _ _ h => h) (by rfl) (fun w' hS => ?hz15) ?rz15
                case hz15 => go_simp; with_reducible rfl
                try simp only [Act.put, List.setIfInBounds_toArray, List.set_cons_zero, List.set_cons_succ]
                refine region_take 6 97 (v := ?vz16) rfl rfl (by kernel_rfl) (by kernel_rfl) (by kernel_rfl) (fun _ _ _ h => h) (by rfl) (fun w' hS => ?hz16) ?rz16
                case hz16 => go_simp; with_reducible rfl
                try simp only [Act.put, List.setIfInBounds_toArray, List.set_cons_zero, List.set_cons_succ]
                refine region_take 9 100 (v := ?vz19) rfl rfl (by kernel_rfl) (by kernel_rfl) (by kernel_rfl) (fun _ _ _ h => h) (by rfl) (fun w' hS => ?hz19) ?rz19
                case hz19 => go_simp; with_reducible rfl
                try simp only [Act.put, List.setIfInBounds_toArray, List.set_cons_zero, List.set_cons_succ]
                refine region_take 10 101 (v := ?vz110) rfl rfl (by kernel_rfl) (by kernel_rfl) (by kernel_rfl) (fun _ _ _ h => h) (by rfl) (fun w' hS => ?hz110) ?rz110
                case hz110 => go_simp; with_reducible rfl
                try simp only [Act.put, List.setIfInBounds_toArray, List.set_cons_zero, List.set_cons_succ]
                refine wpAnyH_ready (rs := [7]) (by kernel_rfl) (by simp) (AllReadyH.cons rfl (fun K hK => ?_) AllReadyH.nil)
                go_simp
                refine HByt.out.mono ?_
                rintro e wq ⟨ra, rc, rfl, hN⟩
                refine hK.out _ _ (hN.ext) (fun hHeld => ?_)
                clear hK K hHeld
                refine region_now (hN.ext) ?_
                try simp only [Act.put, List.setIfInBounds_toArray, List.set_cons_zero, List.set_cons_succ]
                have hN2 := hN.bytes
                have hN3 := hN.nil
                have cv8 := fun w' (hS : Ext (fun _ => False) wq w') => conv_str w' ra rc _ _ rfl hN3 (hN2.pure hS)
                refine region_take 8 99 (v := ?vz18) rfl rfl (by kernel_rfl) (by kernel_rfl) (by kernel_rfl) (fun _ _ _ h => h) (by rfl) (fun w' hS => ?hz18) ?rz18
                case hz18 => go_simp; with_reducible rfl
                try simp only [Act.put, List.setIfInBounds_toArray, List.set_cons_zero, List.set_cons_succ]
                refine wpAnyH_ready (rs := [11]) (by kernel_rfl) (by simp) (AllReadyH.cons rfl (fun K hK => ?_) AllReadyH.nil)
                go_simp
                refine (refbytes_any high fa' fc' nb wq (hrow5.ext ((Ext.refl (fun _ => False) WW).drew.pure hN.ext) (fun _ _ => id)) (by omega)).mono ?_
                rintro e wt ⟨ta, tc, rfl, hO6, hE6⟩
                refine hK.out _ _ (hE6) (fun hHeld => ?_)
                clear hK K hHeld
                refine region_now (hE6) ?_
                try simp only [Act.put, List.setIfInBounds_toArray, List.set_cons_zero, List.set_cons_succ]
                clear cv8
                have hO6' := own_row hO6
                have cv12 := fun w' (hS : Ext (fun _ => False) wt w') => conv_str w' ta tc _ _ rfl (own_form' hO6) (Bytes.pure hO6' hS)
                refine region_take 12 103 (v := ?vz112) rfl rfl (by kernel_rfl) (by kernel_rfl) (by kernel_rfl) (fun _ _ _ h => h) (by rfl) (fun w' hS => ?hz112) ?rz112
                case hz112 => go_simp; with_reducible rfl
                try simp only [Act.put, List.setIfInBounds_toArray, List.set_cons_zero, List.set_cons_succ]
                refine region_take 13 104 (v := ?vz113) rfl rfl (by kernel_rfl) (by kernel_rfl) (by kernel_rfl) (fun _ _ _ h => h) (by rfl) (fun w' hS => ?hz113) ?rz113
                case hz113 => go_simp; with_reducible rfl
                try simp only [Act.put, List.setIfInBounds_toArray, List.set_cons_zero, List.set_cons_succ]
                refine region_take 14 105 (v := ?vz114) rfl rfl (by kernel_rfl) (by kernel_rfl) (by kernel_rfl) (fun _ _ _ h => h) (by rfl) (fun w' hS => ?hz114) ?rz114
                case hz114 => go_simp; with_reducible rfl
                try simp only [Act.put, List.setIfInBounds_toArray, List.set_cons_zero, List.set_cons_succ]
                refine wpAnyH_done (by kernel_rfl) ?_ _
                have hPz : Pure WW wt := ((Ext.refl (fun _ => False) WW).drew.pure hN.ext).pure hE6
                have hW6 := hW5.pure hPz
                have hO6 := own_ext hO5 hPz (fun _ _ => id)
                have hP6 := hP5.pure hPz
                go_wp2_with fail
                go_roundw
                case rel => exact ⟨k + 1, nb, a, c, fa', fc', by omega, by omega, by go_num, rfl, hO6, hW6, hP6, hfa5, hdis5, by omega⟩
                case measure => simp [intOf]; omega
              · have h8' : ((bs'.length : Int) % 8 != 0) = true := by simp; omega
                have HA := Lib.hid ((align_step bs' h8).trans hae)
                have hle' : bs'.length + 1 ≤ (align bs).length := by omega
                clear h8 hae hal'
                go_wp2_with (at_builtin; refine wpList_append_fresh rfl (.tmp 46) (.tmp 47) 39 rfl w.heap.size 4 (.bool false) 1 1 Try.underlying39 infoBool rfl (by decide) _ bs'.length (bs'.map Value.bool) rfl (hown'.alloc _) (some ⟨WW.heap.size, 0, none⟩) 1 1 [.bool false] rfl (fun e => by cases e) rfl (row_at _ rfl rfl) (fun u hu => by simp at hu; subst hu; rfl) (bs'.length + 1) rfl ((bs' ++ [false]).map Value.bool) (by simp) (by omega) (by unfold maxLen; omega) (by have := hP'.size; simp; omega) ?_)
                intro a2 c2 w7 hO7 hg7 hfr7
                have hg7' := ext_of_grown hg7
                have hE7 : Pure w w7 := Ext.own (hP'.alloc _) (hown'.alloc _) hg7
                have hbl7 := hW'.blk.lt
                have hW7 := (hW'.pure (ext_alloc _ _)).ext hg7' (fun e => by
                  obtain ⟨y, hy, hyg⟩ := own_blk e
                  exact (hdis' y hy).1 hyg) (fun g hg e => by
                  obtain ⟨y, hy, hyg⟩ := own_blk e
                  exact (hdis' y hy).2 g hg hyg)
                have hlt7 := hW'.lt
                go_wp2_with fail
                go_roundw
                case rel =>
                  refine ⟨bs' ++ [false], a2, c2, by simp, HA.out, by simpa using hle', by simpa using hO7, hW7, hE7, fun g hg => ?_⟩
                  rcases hfr7 g hg with e | e
                  · obtain ⟨y, hy, hyg⟩ := own_blk e
                    rw [← hyg]; exact hdis' y hy
                  · have e2 : WW.heap.size + 1 ≤ g.block := by simpa using e
                    exact ⟨by omega, fun g' hg' => by have := hlt7 g' hg'; omega⟩
                case measure => simp [lenOf]; omega
          · have hx2' : (p.1 % 2 == 0) = false := by simp; omega
            clear hx2
            cases hok : okP p with
            | true => exact absurd hok (by simp [okP]; omega)
            | false =>
              obtain ⟨q, hq⟩ : ∃ q, q = putB high p := ⟨_, rfl⟩
              have hql : q.length ≤ 32 := by rw [hq]; exact putB_len high p
              have cn0 := fun w' (hS : Ext (fun _ => False) wr.drew w') => (hP.pure ((Ext.refl _ wr).drew.pure hS)).cell_some h0 id
              have cn1 := fun w' (hS : Ext (fun _ => False) wr.drew w') => (hP.pure ((Ext.refl _ wr).drew.pure hS)).cell_some h1 id
              have HN0 := numb_any high p wr.drew hinP
              rw [hok, ← hq] at HN0
              have HN := Lib.hid HN0
              have HP0 := fun wx (hx : WrIs wx b high bs a c) => putb_any b high bs a c p wx hx (by omega) hinP
              rw [hok, ← hq] at HP0
              simp only [Bool.false_eq_true, if_false, if_true] at HP0
              have HP' := Lib.hid HP0
              have hok' := Lib.hid hok
              clear hok hq HN0 HP0
              go_wp2_with fail
              clear g0 g1
              refine region_start (fun _ => False) (by kernel_rfl) ?_
              try simp only [Act.put, List.setIfInBounds_toArray, List.set_cons_zero, List.set_cons_succ]
              refine region_take 0 50 (v := ?vx20) rfl rfl (by kernel_rfl) (by kernel_rfl) (by kernel_rfl) (fun _ _ _ h => h) (by rfl) (fun w' hS => ?hx20) ?rx20
              case hx20 => go_simp; with_reducible rfl
              try simp only [Act.put, List.setIfInBounds_toArray, List.set_cons_zero, List.set_cons_succ]
              refine region_take 1 51 (v := ?vx21) rfl rfl (by kernel_rfl) (by kernel_rfl) (by kernel_rfl) (fun _ _ _ h => h) (by rfl) (fun w' hS => ?hx21) ?rx21
              case hx21 => go_simp; with_reducible rfl
              try simp only [Act.put, List.setIfInBounds_toArray, List.set_cons_zero, List.set_cons_succ]
              refine region_take 2 52 (v := ?vx22) rfl rfl (by kernel_rfl) (by kernel_rfl) (by kernel_rfl) (fun _ _ _ h => h) (by rfl) (fun w' hS => ?hx22) ?rx22
              case hx22 => go_simp; with_reducible rfl
              try simp only [Act.put, List.setIfInBounds_toArray, List.set_cons_zero, List.set_cons_succ]
              refine region_take 3 53 (v := ?vx23) rfl rfl (by kernel_rfl) (by kernel_rfl) (by kernel_rfl) (fun _ _ _ h => h) (by rfl) (fun w' hS => ?hx23) ?rx23
              case hx23 => go_simp; with_reducible rfl
              try simp only [Act.put, List.setIfInBounds_toArray, List.set_cons_zero, List.set_cons_succ]
              refine region_take 4 54 (v := ?vx24) rfl rfl (by kernel_rfl) (by kernel_rfl) (by kernel_rfl) (fun _ _ _ h => h) (by rfl) (fun w' hS => ?hx24) ?rx24
              case hx24 => go_simp; with_reducible rfl
              try simp only [Act.put, List.setIfInBounds_toArray, List.set_cons_zero, List.set_cons_succ]
              refine region_take 5 55 (v := ?vx25) rfl rfl (by kernel_rfl) (by kernel_rfl) (by kernel_rfl) (fun _ _ _ h => h) (by rfl) (fun w' hS => ?hx25) ?rx25
              case hx25 => go_simp; with_reducible rfl
              try simp only [Act.put, List.setIfInBounds_toArray, List.set_cons_zero, List.set_cons_succ]
              refine region_take 6 56 (v := ?vx26) rfl rfl (by kernel_rfl) (by kernel_rfl) (by kernel_rfl) (fun _ _ _ h => h) (by rfl) (fun w' hS => ?hx26) ?rx26
              case hx26 => go_simp; with_reducible rfl
              try simp only [Act.put, List.setIfInBounds_toArray, List.set_cons_zero, List.set_cons_succ]
              refine region_take 7 57 (v := ?vx27) rfl rfl (by kernel_rfl) (by kernel_rfl) (by kernel_rfl) (fun _ _ _ h => h) (by rfl) (fun w' hS => ?hx27) ?rx27
              case hx27 => go_simp; with_reducible rfl
              try simp only [Act.put, List.setIfInBounds_toArray, List.set_cons_zero, List.set_cons_succ]
              refine region_take 8 58 (v := ?vx28) rfl rfl (by kernel_rfl) (by kernel_rfl) (by kernel_rfl) (fun _ _ _ h => h) (by rfl) (fun w' hS => ?hx28) ?rx28
              case hx28 => go_simp; with_reducible rfl
              try simp only [Act.put, List.setIfInBounds_toArray, List.set_cons_zero, List.set_cons_succ]
              refine region_take 9 59 (v := ?vx29) rfl rfl (by kernel_rfl) (by kernel_rfl) (by kernel_rfl) (fun _ _ _ h => h) (by rfl) (fun w' hS => ?hx29) ?rx29
              case hx29 => go_simp; with_reducible rfl
              try simp only [Act.put, List.setIfInBounds_toArray, List.set_cons_zero, List.set_cons_succ]
              refine region_take 10 60 (v := ?vx210) rfl rfl (by kernel_rfl) (by kernel_rfl) (by kernel_rfl) (fun _ _ _ h => h) (by rfl) (fun w' hS => ?hx210) ?rx210
              case hx210 => go_simp; with_reducible rfl
              try simp only [Act.put, List.setIfInBounds_toArray, List.set_cons_zero, List.set_cons_succ]
              refine wpAnyH_ready (rs := [11]) (by kernel_rfl) (by simp) (AllReadyH.cons rfl (fun K hK => ?_) AllReadyH.nil)
              go_simp
              refine HN.out.mono ?_
              rintro e wn ⟨na, nc, rfl, hOn, hEn⟩
              refine hK.out _ _ (hEn) (fun hHeld => ?_)
              clear hK K hHeld
              refine region_now (hEn) ?_
              try simp only [Act.put, List.setIfInBounds_toArray, List.set_cons_zero, List.set_cons_succ]
              refine region_take 12 49 (v := ?vx212) rfl rfl (by kernel_rfl) (by kernel_rfl) (by kernel_rfl) (fun _ _ _ h => h) (by rfl) (fun w' hS => ?hx212) ?rx212
              case hx212 => go_simp; with_reducible rfl
              try simp only [Act.put, List.setIfInBounds_toArray, List.set_cons_zero, List.set_cons_succ]
              refine region_take 13 62 (v := ?vx213) rfl rfl (by kernel_rfl) (by kernel_rfl) (by kernel_rfl) (fun _ _ _ h => h) (by rfl) (fun w' hS => ?hx213) ?rx213
              case hx213 => go_simp; with_reducible rfl
              try simp only [Act.put, List.setIfInBounds_toArray, List.set_cons_zero, List.set_cons_succ]
              refine region_take 14 63 (v := ?vx214) rfl rfl (by kernel_rfl) (by kernel_rfl) (by kernel_rfl) (fun _ _ _ h => h) (by rfl) (fun w' hS => ?hx214) ?rx214
              case hx214 => go_simp; with_reducible rfl
              try simp only [Act.put, List.setIfInBounds_toArray, List.set_cons_zero, List.set_cons_succ]
              refine region_take 15 8 (v := ?vx215) rfl rfl (by kernel_rfl) (by kernel_rfl) (by kernel_rfl) (fun _ _ _ h => h) (by rfl) (fun w' hS => ?hx215) ?rx215
              case hx215 => go_simp; with_reducible rfl
              try simp only [Act.put, List.setIfInBounds_toArray, List.set_cons_zero, List.set_cons_succ]
              refine region_take 16 9 (v := ?vx216) rfl rfl (by kernel_rfl) (by kernel_rfl) (by kernel_rfl) (fun _ _ _ h => h) (by rfl) (fun w' hS => ?hx216) ?rx216
              case hx216 => go_simp; with_reducible rfl
              try simp only [Act.put, List.setIfInBounds_toArray, List.set_cons_zero, List.set_cons_succ]
              refine wpAnyH_done (by kernel_rfl) ?_ _
              have hPn : Pure wr wn := (Ext.refl (fun _ => False) wr).drew.pure hEn
              clear cn0 cn1 HN
              have cn0 := fun w' (hS : Ext (WrS b a) wn.drew w') => hS.cell_some ((hP.pure hPn).drew.cell_some h0 id) hnw
              have cn1 := fun w' (hS : Ext (WrS b a) wn.drew w') => hS.cell_some ((hP.pure hPn).drew.cell_some h1 id) hnw
              have HPut := Lib.hid (HP'.out wn.drew ((hW.pure hPn).pure ((Ext.refl _ wn).drew)))
              go_wp2_with fail
              refine region_start (WrS b a) (by kernel_rfl) ?_
              try simp only [Act.put, List.setIfInBounds_toArray, List.set_cons_zero, List.set_cons_succ]
              refine region_take 0 64 (v := ?vy20) rfl rfl (by kernel_rfl) (by kernel_rfl) (by kernel_rfl) (fun _ _ _ h => h) (by rfl) (fun w' hS => ?hy20) ?ry20
              case hy20 => go_simp; with_reducible rfl
              try simp only [Act.put, List.setIfInBounds_toArray, List.set_cons_zero, List.set_cons_succ]
              refine region_take 1 65 (v := ?vy21) rfl rfl (by kernel_rfl) (by kernel_rfl) (by kernel_rfl) (fun _ _ _ h => h) (by rfl) (fun w' hS => ?hy21) ?ry21
              case hy21 => go_simp; with_reducible rfl
              try simp only [Act.put, List.setIfInBounds_toArray, List.set_cons_zero, List.set_cons_succ]
              refine region_take 2 66 (v := ?vy22) rfl rfl (by kernel_rfl) (by kernel_rfl) (by kernel_rfl) (fun _ _ _ h => h) (by rfl) (fun w' hS => ?hy22) ?ry22
              case hy22 => go_simp; with_reducible rfl
              try simp only [Act.put, List.setIfInBounds_toArray, List.set_cons_zero, List.set_cons_succ]
              refine region_take 3 67 (v := ?vy23) rfl rfl (by kernel_rfl) (by kernel_rfl) (by kernel_rfl) (fun _ _ _ h => h) (by rfl) (fun w' hS => ?hy23) ?ry23
              case hy23 => go_simp; with_reducible rfl
              try simp only [Act.put, List.setIfInBounds_toArray, List.set_cons_zero, List.set_cons_succ]
              refine region_take 4 68 (v := ?vy24) rfl rfl (by kernel_rfl) (by kernel_rfl) (by kernel_rfl) (fun _ _ _ h => h) (by rfl) (fun w' hS => ?hy24) ?ry24
              case hy24 => go_simp; with_reducible rfl
              try simp only [Act.put, List.setIfInBounds_toArray, List.set_cons_zero, List.set_cons_succ]
              refine region_take 5 69 (v := ?vy25) rfl rfl (by kernel_rfl) (by kernel_rfl) (by kernel_rfl) (fun _ _ _ h => h) (by rfl) (fun w' hS => ?hy25) ?ry25
              case hy25 => go_simp; with_reducible rfl
              try simp only [Act.put, List.setIfInBounds_toArray, List.set_cons_zero, List.set_cons_succ]
              refine region_take 6 70 (v := ?vy26) rfl rfl (by kernel_rfl) (by kernel_rfl) (by kernel_rfl) (fun _ _ _ h => h) (by rfl) (fun w' hS => ?hy26) ?ry26
              case hy26 => go_simp; with_reducible rfl
              try simp only [Act.put, List.setIfInBounds_toArray, List.set_cons_zero, List.set_cons_succ]
              refine region_take 7 71 (v := ?vy27) rfl rfl (by kernel_rfl) (by kernel_rfl) (by kernel_rfl) (fun _ _ _ h => h) (by rfl) (fun w' hS => ?hy27) ?ry27
              case hy27 => go_simp; with_reducible rfl
              try simp only [Act.put, List.setIfInBounds_toArray, List.set_cons_zero, List.set_cons_succ]
              refine region_take 8 72 (v := ?vy28) rfl rfl (by kernel_rfl) (by kernel_rfl) (by kernel_rfl) (fun _ _ _ h => h) (by rfl) (fun w' hS => ?hy28) ?ry28
              case hy28 => go_simp; with_reducible rfl
              try simp only [Act.put, List.setIfInBounds_toArray, List.set_cons_zero, List.set_cons_succ]
              refine region_take 9 73 (v := ?vy29) rfl rfl (by kernel_rfl) (by kernel_rfl) (by kernel_rfl) (fun _ _ _ h => h) (by rfl) (fun w' hS => ?hy29) ?ry29
              case hy29 => go_simp; with_reducible rfl
              try simp only [Act.put, List.setIfInBounds_toArray, List.set_cons_zero, List.set_cons_succ]
              refine region_take 10 74 (v := ?vy210) rfl rfl (by kernel_rfl) (by kernel_rfl) (by kernel_rfl) (fun _ _ _ h => h) (by rfl) (fun w' hS => ?hy210) ?ry210
              case hy210 => go_simp; with_reducible rfl
              try simp only [Act.put, List.setIfInBounds_toArray, List.set_cons_zero, List.set_cons_succ]
              refine wpAnyH_ready (rs := [11]) (by kernel_rfl) (by simp) (AllReadyH.cons rfl (fun K hK => ?_) AllReadyH.nil)
              go_simp
              refine HPut.out.mono ?_
              rintro e wu ⟨rfl, a5, c5, hW4, hE4, hf4⟩
              refine hK.out _ _ (hE4) (fun hHeld => ?_)
              clear hK K hHeld
              refine region_now (hE4) ?_
              try simp only [Act.put, List.setIfInBounds_toArray, List.set_cons_zero, List.set_cons_succ]
              refine region_take 12 10 (v := ?vy212) rfl rfl (by kernel_rfl) (by kernel_rfl) (by kernel_rfl) (fun _ _ _ h => h) (by rfl) (fun w' hS => ?hy212) ?ry212
              case hy212 => go_simp; with_reducible rfl
              try simp only [Act.put, List.setIfInBounds_toArray, List.set_cons_zero, List.set_cons_succ]
              refine wpAnyH_done (by kernel_rfl) ?_ _
              clear cn0 cn1 HPut HP'
              have hPn' : Pure wr wn.drew := hPn.drew
              have hsz1 := hPn'.size
              have hsz2 := hE4.size
              have hown4 := own_ext (own_ext hown hPn' (fun _ _ => id)) hE4 (fun g hg e => by
                obtain ⟨y, hy, hyg⟩ := own_blk hg
                obtain ⟨d1, d2⟩ := hdis y hy
                rw [← hyg] at e
                exact not_wrs d1 d2 e)
              have hPu : Pure w wu := ext_new (hP.pure hPn') hE4 (by omega) hfa
              have hWlt := hW.lt
              have hW4lt := hW4.lt
              have hfalt : ∀ g, fa = some g → g.block < wr.heap.size := by
                intro g hg
                obtain ⟨_, _, hh, _, _, _, h4⟩ := own_form hown
                cases hh
                exact (h4 g hg).2.1
              have hnfr : ∀ g, na = some g → wr.heap.size ≤ g.block := by
                intro g hg
                obtain ⟨_, _, hh, _, _, _, h4⟩ := own_form hOn
                cases hh
                have e : wr.drew.heap.size ≤ g.block := (h4 g hg).1
                exact e
              have hnnil := own_form' hOn
              have hnle : na = none → q.length = 0 ∧ nc = 0 := by
                intro h
                obtain ⟨_, _, hh, h1, _, h3, _⟩ := own_form hOn
                cases hh
                have := h3 h
                omega
              have hrown : RowOf wu na (q.map Value.bool) := ((own_row hOn).ext (Ext.refl (fun _ => False) wn).drew (fun _ _ => id)).ext hE4 (fun g hg => by
                have := hnfr g hg
                exact not_wrs (by omega) (fun g' hg' => by have := hWlt g' hg'; omega))
              have hf4' : ∀ g', a5 = some g' → a = some g' ∨ wr.heap.size ≤ g'.block := by
                intro g' hg'
                rcases hf4 g' hg' with e | e
                · exact Or.inl e
                · exact Or.inr (Nat.le_trans hsz1 e)
              have hdis4 : ∀ g, fa = some g → g.block ≠ b ∧ ∀ g', a5 = some g' → g.block ≠ g'.block := by
                intro g hg
                refine ⟨(hdis g hg).1, fun g' hg' => ?_⟩
                rcases hf4' g' hg' with e | e
                · exact (hdis g hg).2 g' e
                · have := hfalt g hg; omega
              have hfa5 : ∀ g, a5 = some g → w.heap.size ≤ g.block := by
                intro g hg
                rcases hf4' g hg with e | e
                · exact hfa g e
                · have := hP.size; omega
              have hszP := hPu.size
              have hbl4 := hW4.blk.lt
              clear hown hdis hfa hfalt hWlt hW hP hPn hPn' hE4 hf4 hf4' hOn hnfr hnnil h0 h1 hEn
              go_wp2_with (at_builtin; refine wpList_append_fresh rfl (.tmp 88) (.tmp 89) 39 rfl w.heap.size 4 (.bool false) 1 1 Try.underlying39 infoBool rfl (by decide) _ bs.length (bs.map Value.bool) rfl hown4 na q.length nc (q.map Value.bool) rfl hnle (by simp) hrown (bool_one q) (bs.length + q.length) rfl (bs.map Value.bool ++ q.map Value.bool) rfl (by omega) (by unfold maxLen; omega) hszP ?_)
              intro f5 g5 w7 hO5 hg5 hfr5
              have hg5' := ext_of_grown hg5
              have hP5 : Pure w w7 := Ext.own hPu hown4 hg5
              have hW5 := hW4.ext hg5' (fun e => by
                obtain ⟨y, hy, hyg⟩ := own_blk e
                exact (hdis4 y hy).1 hyg) (fun g hg e => by
                obtain ⟨y, hy, hyg⟩ := own_blk e
                exact (hdis4 y hy).2 g hg hyg)
              have hdis5 : ∀ g, f5 = some g → g.block ≠ b ∧ ∀ g', a5 = some g' → g.block ≠ g'.block := by
                intro g hg
                rcases hfr5 g hg with e | e
                · obtain ⟨y, hy, hyg⟩ := own_blk e
                  rw [← hyg]; exact hdis4 y hy
                · exact ⟨by omega, fun g' hg' => by have := hW4lt g' hg'; omega⟩
              obtain ⟨nb, hnb⟩ : ∃ nb, nb = bs ++ q := ⟨_, rfl⟩
              have hnl : bs.length + q.length = nb.length := by rw [hnb]; simp
              have hnm : bs.map Value.bool ++ q.map Value.bool = nb.map Value.bool := by rw [hnb]; simp
              have hal2 : nb.length ≤ 40 * (k + 1) := by omega
              rw [hnl, hnm] at hO5
              rw [← hnb] at hW5
              rw [hnl]
              clear hg5 hg5' hfr5 hdis4 hW4 hown4 hPu hrown hnle hnb hnl hnm
              have hle5 := own_form hO5
              obtain ⟨_, _, hh5, hle5, hmost5, hnil5, hlt5⟩ := hle5
              cases hh5
              have hrow5 := own_row hO5
              have hPl := pack_length high nb
              have hPl' : (pack high nb).length ≤ 1000 := by omega
              have HPl := Lib.hid hPl
              clear hPl
              have HLen := Lib.hid (len_any b high nb a5 c5 w7.drew (hW5.pure ((Ext.refl _ w7).drew)))
              have HByt := Lib.hid (bytes_any b high nb a5 c5 w7.drew (hW5.pure ((Ext.refl _ w7).drew)) (by omega))
              go_wp2_with fail
              refine region_start (fun _ => False) (by kernel_rfl) ?_
              try simp only [Act.put, List.setIfInBounds_toArray, List.set_cons_zero, List.set_cons_succ]
              refine region_take 0 91 (v := ?vz30) rfl rfl (by kernel_rfl) (by kernel_rfl) (by kernel_rfl) (fun _ _ _ h => h) (by rfl) (fun w' hS => ?hz30) ?rz30
              case hz30 => go_simp; with_reducible rfl
              try simp only [Act.put, List.setIfInBounds_toArray, List.set_cons_zero, List.set_cons_succ]
              refine region_take 2 93 (v := ?vz32) rfl rfl (by kernel_rfl) (by kernel_rfl) (by kernel_rfl) (fun _ _ _ h => h) (by rfl) (fun w' hS => ?hz32) ?rz32
              case hz32 => go_simp; with_reducible rfl
              try simp only [Act.put, List.setIfInBounds_toArray, List.set_cons_zero, List.set_cons_succ]
              refine region_take 3 94 (v := ?vz33) rfl rfl (by kernel_rfl) (by kernel_rfl) (by kernel_rfl) (fun _ _ _ h => h) (by rfl) (fun w' hS => ?hz33) ?rz33
              case hz33 => go_simp; with_reducible rfl
              try simp only [Act.put, List.setIfInBounds_toArray, List.set_cons_zero, List.set_cons_succ]
              refine wpAnyH_ready (rs := [1]) (by kernel_rfl) (by simp) (AllReadyH.cons rfl (fun K hK => ?_) AllReadyH.nil)
              go_simp
              refine HLen.out.mono ?_
              rintro e wp ⟨rfl, hwp⟩
              obtain rfl := hwp.symm
              refine hK.out _ _ (Ext.refl _ _) (fun hHeld => ?_)
              clear hK K hHeld
              refine region_now (Ext.refl _ _) ?_
              try simp only [Act.put, List.setIfInBounds_toArray, List.set_cons_zero, List.set_cons_succ]
              refine region_take 4 95 (v := ?vz34) rfl rfl (by kernel_rfl) (by kernel_rfl) (by kernel_rfl) (fun _ _ _ h => h) (by rfl) (fun w' hS => ?hz34) ?rz34
              case hz34 => go_simp; with_reducible rfl
              try simp only [Act.put, List.setIfInBounds_toArray, List.set_cons_zero, List.set_cons_succ]
              refine region_take 5 96 (v := ?vz35) rfl rfl (by kernel_rfl) (by kernel_rfl) (by kernel_rfl) (fun _ _ _ h => h) (by rfl) (fun w' hS => ?hz35) ?rz35
              case hz35 => go_simp; with_reducible rfl
              try simp only [Act.put, List.setIfInBounds_toArray, List.set_cons_zero, List.set_cons_succ]
              refine region_take 6 97 (v := ?vz36) rfl rfl (by kernel_rfl) (by kernel_rfl) (by kernel_rfl) (fun _ _ _ h => h) (by rfl) (fun w' hS => ?hz36) ?rz36
              case hz36 => go_simp; with_reducible rfl
              try simp only [Act.put, List.setIfInBounds_toArray, List.set_cons_zero, List.set_cons_succ]
              refine region_take 9 100 (v := ?vz39) rfl rfl (by kernel_rfl) (by kernel_rfl) (by kernel_rfl) (fun _ _ _ h => h) (by rfl) (fun w' hS => ?hz39) ?rz39
              case hz39 => go_simp; with_reducible rfl
              try simp only [Act.put, List.setIfInBounds_toArray, List.set_cons_zero, List.set_cons_succ]
              refine region_take 10 101 (v := ?vz310) rfl rfl (by kernel_rfl) (by kernel_rfl) (by kernel_rfl) (fun _ _ _ h => h) (by rfl) (fun w' hS => ?hz310) ?rz310
              case hz310 => go_simp; with_reducible rfl
              try simp only [Act.put, List.setIfInBounds_toArray, List.set_cons_zero, List.set_cons_succ]
              refine wpAnyH_ready (rs := [7]) (by kernel_rfl) (by simp) (AllReadyH.cons rfl (fun K hK => ?_) AllReadyH.nil)
              go_simp
              refine HByt.out.mono ?_
              rintro e wq ⟨ra, rc, rfl, hN⟩
              refine hK.out _ _ (hN.ext) (fun hHeld => ?_)
              clear hK K hHeld
              refine region_now (hN.ext) ?_
              try simp only [Act.put, List.setIfInBounds_toArray, List.set_cons_zero, List.set_cons_succ]
              have hN2 := hN.bytes
              have hN3 := hN.nil
              have cv8 := fun w' (hS : Ext (fun _ => False) wq w') => conv_str w' ra rc _ _ rfl hN3 (hN2.pure hS)
              refine region_take 8 99 (v := ?vz38) rfl rfl (by kernel_rfl) (by kernel_rfl) (by kernel_rfl) (fun _ _ _ h => h) (by rfl) (fun w' hS => ?hz38) ?rz38
              case hz38 => go_simp; with_reducible rfl
              try simp only [Act.put, List.setIfInBounds_toArray, List.set_cons_zero, List.set_cons_succ]
              refine wpAnyH_ready (rs := [11]) (by kernel_rfl) (by simp) (AllReadyH.cons rfl (fun K hK => ?_) AllReadyH.nil)
              go_simp
              refine (refbytes_any high f5 g5 nb wq (hrow5.ext ((Ext.refl (fun _ => False) w7).drew.pure hN.ext) (fun _ _ => id)) (by omega)).mono ?_
              rintro e wt ⟨ta, tc, rfl, hO6, hE6⟩
              refine hK.out _ _ (hE6) (fun hHeld => ?_)
              clear hK K hHeld
              refine region_now (hE6) ?_
              try simp only [Act.put, List.setIfInBounds_toArray, List.set_cons_zero, List.set_cons_succ]
              clear cv8
              have hO6' := own_row hO6
              have cv12 := fun w' (hS : Ext (fun _ => False) wt w') => conv_str w' ta tc _ _ rfl (own_form' hO6) (Bytes.pure hO6' hS)
              refine region_take 12 103 (v := ?vz312) rfl rfl (by kernel_rfl) (by kernel_rfl) (by kernel_rfl) (fun _ _ _ h => h) (by rfl) (fun w' hS => ?hz312) ?rz312
              case hz312 => go_simp; with_reducible rfl
              try simp only [Act.put, List.setIfInBounds_toArray, List.set_cons_zero, List.set_cons_succ]
              refine region_take 13 104 (v := ?vz313) rfl rfl (by kernel_rfl) (by kernel_rfl) (by kernel_rfl) (fun _ _ _ h => h) (by rfl) (fun w' hS => ?hz313) ?rz313
              case hz313 => go_simp; with_reducible rfl
              try simp only [Act.put, List.setIfInBounds_toArray, List.set_cons_zero, List.set_cons_succ]
              refine region_take 14 105 (v := ?vz314) rfl rfl (by kernel_rfl) (by kernel_rfl) (by kernel_rfl) (fun _ _ _ h => h) (by rfl) (fun w' hS => ?hz314) ?rz314
              case hz314 => go_simp; with_reducible rfl
              try simp only [Act.put, List.setIfInBounds_toArray, List.set_cons_zero, List.set_cons_succ]
              refine wpAnyH_done (by kernel_rfl) ?_ _
              have hPz : Pure w7 wt := ((Ext.refl (fun _ => False) w7).drew.pure hN.ext).pure hE6
              have hW6 := hW5.pure hPz
              have hO6 := own_ext hO5 hPz (fun _ _ => id)
              have hP6 := hP5.pure hPz
              go_wp2_with fail
              go_roundw
              case rel => exact ⟨k + 1, nb, a5, c5, f5, g5, by omega, by omega, by go_num, rfl, hO6, hW6, hP6, hfa5, hdis5, by omega⟩
              case measure => simp [intOf]; omega
        · cases hok : okP p with
          | true =>
            obtain ⟨q, hq⟩ : ∃ q, q = putB high p := ⟨_, rfl⟩
            have hql : q.length ≤ 32 := by rw [hq]; exact putB_len high p
            have cn0 := fun w' (hS : Ext (fun _ => False) wr.drew w') => (hP.pure ((Ext.refl _ wr).drew.pure hS)).cell_some h0 id
            have cn1 := fun w' (hS : Ext (fun _ => False) wr.drew w') => (hP.pure ((Ext.refl _ wr).drew.pure hS)).cell_some h1 id
            have HN0 := numb_any high p wr.drew hinP
            rw [hok, ← hq] at HN0
            have HN := Lib.hid HN0
            have HP0 := fun wx (hx : WrIs wx b high bs a c) => putb_any b high bs a c p wx hx (by omega) hinP
            rw [hok, ← hq] at HP0
            simp only [Bool.false_eq_true, if_false, if_true] at HP0
            have HP' := Lib.hid HP0
            have hok' := Lib.hid hok
            clear hok hq HN0 HP0
            go_wp2_with fail
            clear g0 g1
            refine region_start (fun _ => False) (by kernel_rfl) ?_
            try simp only [Act.put, List.setIfInBounds_toArray, List.set_cons_zero, List.set_cons_succ]
            refine region_take 0 50 (v := ?vx40) rfl rfl (by kernel_rfl) (by kernel_rfl) (by kernel_rfl) (fun _ _ _ h => h) (by rfl) (fun w' hS => ?hx40) ?rx40
            case hx40 => go_simp; with_reducible rfl
            try simp only [Act.put, List.setIfInBounds_toArray, List.set_cons_zero, List.set_cons_succ]
            refine region_take 1 51 (v := ?vx41) rfl rfl (by kernel_rfl) (by kernel_rfl) (by kernel_rfl) (fun _ _ _ h => h) (by rfl) (fun w' hS => ?hx41) ?rx41
            case hx41 => go_simp; with_reducible rfl
            try simp only [Act.put, List.setIfInBounds_toArray, List.set_cons_zero, List.set_cons_succ]
            refine region_take 2 52 (v := ?vx42) rfl rfl (by kernel_rfl) (by kernel_rfl) (by kernel_rfl) (fun _ _ _ h => h) (by rfl) (fun w' hS => ?hx42) ?rx42
            case hx42 => go_simp; with_reducible rfl
            try simp only [Act.put, List.setIfInBounds_toArray, List.set_cons_zero, List.set_cons_succ]
            refine region_take 3 53 (v := ?vx43) rfl rfl (by kernel_rfl) (by kernel_rfl) (by kernel_rfl) (fun _ _ _ h => h) (by rfl) (fun w' hS => ?hx43) ?rx43
            case hx43 => go_simp; with_reducible rfl
            try simp only [Act.put, List.setIfInBounds_toArray, List.set_cons_zero, List.set_cons_succ]
            refine region_take 4 54 (v := ?vx44) rfl rfl (by kernel_rfl) (by kernel_rfl) (by kernel_rfl) (fun _ _ _ h => h) (by rfl) (fun w' hS => ?hx44) ?rx44
            case hx44 => go_simp; with_reducible rfl
            try simp only [Act.put, List.setIfInBounds_toArray, List.set_cons_zero, List.set_cons_succ]
            refine region_take 5 55 (v := ?vx45) rfl rfl (by kernel_rfl) (by kernel_rfl) (by kernel_rfl) (fun _ _ _ h => h) (by rfl) (fun w' hS => ?hx45) ?rx45
            case hx45 => go_simp; with_reducible rfl
            try simp only [Act.put, List.setIfInBounds_toArray, List.set_cons_zero, List.set_cons_succ]
            refine region_take 6 56 (v := ?vx46) rfl rfl (by kernel_rfl) (by kernel_rfl) (by kernel_rfl) (fun _ _ _ h => h) (by rfl) (fun w' hS => ?hx46) ?rx46
            case hx46 => go_simp; with_reducible rfl
            try simp only [Act.put, List.setIfInBounds_toArray, List.set_cons_zero, List.set_cons_succ]
            refine region_take 7 57 (v := ?vx47) rfl rfl (by kernel_rfl) (by kernel_rfl) (by kernel_rfl) (fun _ _ _ h => h) (by rfl) (fun w' hS => ?hx47) ?rx47
            case hx47 => go_simp; with_reducible rfl
            try simp only [Act.put, List.setIfInBounds_toArray, List.set_cons_zero, List.set_cons_succ]
            refine region_take 8 58 (v := ?vx48) rfl rfl (by kernel_rfl) (by kernel_rfl) (by kernel_rfl) (fun _ _ _ h => h) (by rfl) (fun w' hS => ?hx48) ?rx48
            case hx48 => go_simp; with_reducible rfl
            try simp only [Act.put, List.setIfInBounds_toArray, List.set_cons_zero, List.set_cons_succ]
            refine region_take 9 59 (v := ?vx49) rfl rfl (by kernel_rfl) (by kernel_rfl) (by kernel_rfl) (fun _ _ _ h => h) (by rfl) (fun w' hS => ?hx49) ?rx49
            case hx49 => go_simp; with_reducible rfl
            try simp only [Act.put, List.setIfInBounds_toArray, List.set_cons_zero, List.set_cons_succ]
            refine region_take 10 60 (v := ?vx410) rfl rfl (by kernel_rfl) (by kernel_rfl) (by kernel_rfl) (fun _ _ _ h => h) (by rfl) (fun w' hS => ?hx410) ?rx410
            case hx410 => go_simp; with_reducible rfl
            try simp only [Act.put, List.setIfInBounds_toArray, List.set_cons_zero, List.set_cons_succ]
            refine wpAnyH_ready (rs := [11]) (by kernel_rfl) (by simp) (AllReadyH.cons rfl (fun K hK => ?_) AllReadyH.nil)
            go_simp
            refine HN.out.mono ?_
            rintro e wn ⟨na, nc, rfl, hOn, hEn⟩
            refine hK.out _ _ (hEn) (fun hHeld => ?_)
            clear hK K hHeld
            refine region_now (hEn) ?_
            try simp only [Act.put, List.setIfInBounds_toArray, List.set_cons_zero, List.set_cons_succ]
            refine region_take 12 49 (v := ?vx412) rfl rfl (by kernel_rfl) (by kernel_rfl) (by kernel_rfl) (fun _ _ _ h => h) (by rfl) (fun w' hS => ?hx412) ?rx412
            case hx412 => go_simp; with_reducible rfl
            try simp only [Act.put, List.setIfInBounds_toArray, List.set_cons_zero, List.set_cons_succ]
            refine region_take 13 62 (v := ?vx413) rfl rfl (by kernel_rfl) (by kernel_rfl) (by kernel_rfl) (fun _ _ _ h => h) (by rfl) (fun w' hS => ?hx413) ?rx413
            case hx413 => go_simp; with_reducible rfl
            try simp only [Act.put, List.setIfInBounds_toArray, List.set_cons_zero, List.set_cons_succ]
            refine region_take 14 63 (v := ?vx414) rfl rfl (by kernel_rfl) (by kernel_rfl) (by kernel_rfl) (fun _ _ _ h => h) (by rfl) (fun w' hS => ?hx414) ?rx414
            case hx414 => go_simp; with_reducible rfl
            try simp only [Act.put, List.setIfInBounds_toArray, List.set_cons_zero, List.set_cons_succ]
            refine region_take 15 8 (v := ?vx415) rfl rfl (by kernel_rfl) (by kernel_rfl) (by kernel_rfl) (fun _ _ _ h => h) (by rfl) (fun w' hS => ?hx415) ?rx415
            case hx415 => go_simp; with_reducible rfl
            try simp only [Act.put, List.setIfInBounds_toArray, List.set_cons_zero, List.set_cons_succ]
            refine region_take 16 9 (v := ?vx416) rfl rfl (by kernel_rfl) (by kernel_rfl) (by kernel_rfl) (fun _ _ _ h => h) (by rfl) (fun w' hS => ?hx416) ?rx416
            case hx416 => go_simp; with_reducible rfl
            try simp only [Act.put, List.setIfInBounds_toArray, List.set_cons_zero, List.set_cons_succ]
            refine wpAnyH_done (by kernel_rfl) ?_ _
            have hPn : Pure wr wn := (Ext.refl (fun _ => False) wr).drew.pure hEn
            clear cn0 cn1 HN
            have cn0 := fun w' (hS : Ext (WrS b a) wn.drew w') => hS.cell_some ((hP.pure hPn).drew.cell_some h0 id) hnw
            have cn1 := fun w' (hS : Ext (WrS b a) wn.drew w') => hS.cell_some ((hP.pure hPn).drew.cell_some h1 id) hnw
            have HPut := Lib.hid (HP'.out wn.drew ((hW.pure hPn).pure ((Ext.refl _ wn).drew)))
            go_wp2_with fail
            refine region_start (WrS b a) (by kernel_rfl) ?_
            try simp only [Act.put, List.setIfInBounds_toArray, List.set_cons_zero, List.set_cons_succ]
            refine region_take 0 64 (v := ?vy40) rfl rfl (by kernel_rfl) (by kernel_rfl) (by kernel_rfl) (fun _ _ _ h => h) (by rfl) (fun w' hS => ?hy40) ?ry40
            case hy40 => go_simp; with_reducible rfl
            try simp only [Act.put, List.setIfInBounds_toArray, List.set_cons_zero, List.set_cons_succ]
            refine region_take 1 65 (v := ?vy41) rfl rfl (by kernel_rfl) (by kernel_rfl) (by kernel_rfl) (fun _ _ _ h => h) (by rfl) (fun w' hS => ?hy41) ?ry41
            case hy41 => go_simp; with_reducible rfl
            try simp only [Act.put, List.setIfInBounds_toArray, List.set_cons_zero, List.set_cons_succ]
            refine region_take 2 66 (v := ?vy42) rfl rfl (by kernel_rfl) (by kernel_rfl) (by kernel_rfl) (fun _ _ _ h => h) (by rfl) (fun w' hS => ?hy42) ?ry42
            case hy42 => go_simp; with_reducible rfl
            try simp only [Act.put, List.setIfInBounds_toArray, List.set_cons_zero, List.set_cons_succ]
            refine region_take 3 67 (v := ?vy43) rfl rfl (by kernel_rfl) (by kernel_rfl) (by kernel_rfl) (fun _ _ _ h => h) (by rfl) (fun w' hS => ?hy43) ?ry43
            case hy43 => go_simp; with_reducible rfl
            try simp only [Act.put, List.setIfInBounds_toArray, List.set_cons_zero, List.set_cons_succ]
            refine region_take 4 68 (v := ?vy44) rfl rfl (by kernel_rfl) (by kernel_rfl) (by kernel_rfl) (fun _ _ _ h => h) (by rfl) (fun w' hS => ?hy44) ?ry44
            case hy44 => go_simp; with_reducible rfl
            try simp only [Act.put, List.setIfInBounds_toArray, List.set_cons_zero, List.set_cons_succ]
            refine region_take 5 69 (v := ?vy45) rfl rfl (by kernel_rfl) (by kernel_rfl) (by kernel_rfl) (fun _ _ _ h => h) (by rfl) (fun w' hS => ?hy45) ?ry45
            case hy45 => go_simp; with_reducible rfl
            try simp only [Act.put, List.setIfInBounds_toArray, List.set_cons_zero, List.set_cons_succ]
            refine region_take 6 70 (v := ?vy46) rfl rfl (by kernel_rfl) (by kernel_rfl) (by kernel_rfl) (fun _ _ _ h => h) (by rfl) (fun w' hS => ?hy46) ?ry46
            case hy46 => go_simp; with_reducible rfl
            try simp only [Act.put, List.setIfInBounds_toArray, List.set_cons_zero, List.set_cons_succ]
            refine region_take 7 71 (v := ?vy47) rfl rfl (by kernel_rfl) (by kernel_rfl) (by kernel_rfl) (fun _ _ _ h => h) (by rfl) (fun w' hS => ?hy47) ?ry47
            case hy47 => go_simp; with_reducible rfl
            try simp only [Act.put, List.setIfInBounds_toArray, List.set_cons_zero, List.set_cons_succ]
            refine region_take 8 72 (v := ?vy48) rfl rfl (by kernel_rfl) (by kernel_rfl) (by kernel_rfl) (fun _ _ _ h => h) (by rfl) (fun w' hS => ?hy48) ?ry48
            case hy48 => go_simp; with_reducible rfl
            try simp only [Act.put, List.setIfInBounds_toArray, List.set_cons_zero, List.set_cons_succ]
            refine region_take 9 73 (v := ?vy49) rfl rfl (by kernel_rfl) (by kernel_rfl) (by kernel_rfl) (fun _ _ _ h => h) (by rfl) (fun w' hS => ?hy49) ?ry49
            case hy49 => go_simp; with_reducible rfl
            try simp only [Act.put, List.setIfInBounds_toArray, List.set_cons_zero, List.set_cons_succ]
            refine region_take 10 74 (v := ?vy410) rfl rfl (by kernel_rfl) (by kernel_rfl) (by kernel_rfl) (fun _ _ _ h => h) (by rfl) (fun w' hS => ?hy410) ?ry410
            case hy410 => go_simp; with_reducible rfl
            try simp only [Act.put, List.setIfInBounds_toArray, List.set_cons_zero, List.set_cons_succ]
            refine wpAnyH_ready (rs := [11]) (by kernel_rfl) (by simp) (AllReadyH.cons rfl (fun K hK => ?_) AllReadyH.nil)
            go_simp
            refine HPut.out.mono ?_
            rintro e wu ⟨rfl, a5, c5, hW4, hE4, hf4⟩
            refine hK.out _ _ (hE4) (fun hHeld => ?_)
            clear hK K hHeld
            refine region_now (hE4) ?_
            try simp only [Act.put, List.setIfInBounds_toArray, List.set_cons_zero, List.set_cons_succ]
            refine region_take 12 10 (v := ?vy412) rfl rfl (by kernel_rfl) (by kernel_rfl) (by kernel_rfl) (fun _ _ _ h => h) (by rfl) (fun w' hS => ?hy412) ?ry412
            case hy412 => go_simp; with_reducible rfl
            try simp only [Act.put, List.setIfInBounds_toArray, List.set_cons_zero, List.set_cons_succ]
            refine wpAnyH_done (by kernel_rfl) ?_ _
            clear cn0 cn1 HPut HP'
            have hPn' : Pure wr wn.drew := hPn.drew
            have hsz1 := hPn'.size
            have hsz2 := hE4.size
            have hown4 := own_ext (own_ext hown hPn' (fun _ _ => id)) hE4 (fun g hg e => by
              obtain ⟨y, hy, hyg⟩ := own_blk hg
              obtain ⟨d1, d2⟩ := hdis y hy
              rw [← hyg] at e
              exact not_wrs d1 d2 e)
            have hPu : Pure w wu := ext_new (hP.pure hPn') hE4 (by omega) hfa
            have hWlt := hW.lt
            have hW4lt := hW4.lt
            have hfalt : ∀ g, fa = some g → g.block < wr.heap.size := by
              intro g hg
              obtain ⟨_, _, hh, _, _, _, h4⟩ := own_form hown
              cases hh
              exact (h4 g hg).2.1
            have hnfr : ∀ g, na = some g → wr.heap.size ≤ g.block := by
              intro g hg
              obtain ⟨_, _, hh, _, _, _, h4⟩ := own_form hOn
              cases hh
              have e : wr.drew.heap.size ≤ g.block := (h4 g hg).1
              exact e
            have hnnil := own_form' hOn
            have hnle : na = none → q.length = 0 ∧ nc = 0 := by
              intro h
              obtain ⟨_, _, hh, h1, _, h3, _⟩ := own_form hOn
              cases hh
              have := h3 h
              omega
            have hrown : RowOf wu na (q.map Value.bool) := ((own_row hOn).ext (Ext.refl (fun _ => False) wn).drew (fun _ _ => id)).ext hE4 (fun g hg => by
              have := hnfr g hg
              exact not_wrs (by omega) (fun g' hg' => by have := hWlt g' hg'; omega))
            have hf4' : ∀ g', a5 = some g' → a = some g' ∨ wr.heap.size ≤ g'.block := by
              intro g' hg'
              rcases hf4 g' hg' with e | e
              · exact Or.inl e
              · exact Or.inr (Nat.le_trans hsz1 e)
            have hdis4 : ∀ g, fa = some g → g.block ≠ b ∧ ∀ g', a5 = some g' → g.block ≠ g'.block := by
              intro g hg
              refine ⟨(hdis g hg).1, fun g' hg' => ?_⟩
              rcases hf4' g' hg' with e | e
              · exact (hdis g hg).2 g' e
              · have := hfalt g hg; omega
            have hfa5 : ∀ g, a5 = some g → w.heap.size ≤ g.block := by
              intro g hg
              rcases hf4' g hg with e | e
              · exact hfa g e
              · have := hP.size; omega
            have hszP := hPu.size
            have hbl4 := hW4.blk.lt
            clear hown hdis hfa hfalt hWlt hW hP hPn hPn' hE4 hf4 hf4' hOn hnfr hnnil h0 h1 hEn
            go_wp2_with (at_builtin; refine wpList_append_fresh rfl (.tmp 88) (.tmp 89) 39 rfl w.heap.size 4 (.bool false) 1 1 Try.underlying39 infoBool rfl (by decide) _ bs.length (bs.map Value.bool) rfl hown4 na q.length nc (q.map Value.bool) rfl hnle (by simp) hrown (bool_one q) (bs.length + q.length) rfl (bs.map Value.bool ++ q.map Value.bool) rfl (by omega) (by unfold maxLen; omega) hszP ?_)
            intro f5 g5 w7 hO5 hg5 hfr5
            have hg5' := ext_of_grown hg5
            have hP5 : Pure w w7 := Ext.own hPu hown4 hg5
            have hW5 := hW4.ext hg5' (fun e => by
              obtain ⟨y, hy, hyg⟩ := own_blk e
              exact (hdis4 y hy).1 hyg) (fun g hg e => by
              obtain ⟨y, hy, hyg⟩ := own_blk e
              exact (hdis4 y hy).2 g hg hyg)
            have hdis5 : ∀ g, f5 = some g → g.block ≠ b ∧ ∀ g', a5 = some g' → g.block ≠ g'.block := by
              intro g hg
              rcases hfr5 g hg with e | e
              · obtain ⟨y, hy, hyg⟩ := own_blk e
                rw [← hyg]; exact hdis4 y hy
              · exact ⟨by omega, fun g' hg' => by have := hW4lt g' hg'; omega⟩
            obtain ⟨nb, hnb⟩ : ∃ nb, nb = bs ++ q := ⟨_, rfl⟩
            have hnl : bs.length + q.length = nb.length := by rw [hnb]; simp
            have hnm : bs.map Value.bool ++ q.map Value.bool = nb.map Value.bool := by rw [hnb]; simp
            have hal2 : nb.length ≤ 40 * (k + 1) := by omega
            rw [hnl, hnm] at hO5
            rw [← hnb] at hW5
            rw [hnl]
            clear hg5 hg5' hfr5 hdis4 hW4 hown4 hPu hrown hnle hnb hnl hnm
            have hle5 := own_form hO5
            obtain ⟨_, _, hh5, hle5, hmost5, hnil5, hlt5⟩ := hle5
            cases hh5
            have hrow5 := own_row hO5
            have hPl := pack_length high nb
            have hPl' : (pack high nb).length ≤ 1000 := by omega
            have HPl := Lib.hid hPl
            clear hPl
            have HLen := Lib.hid (len_any b high nb a5 c5 w7.drew (hW5.pure ((Ext.refl _ w7).drew)))
            have HByt := Lib.hid (bytes_any b high nb a5 c5 w7.drew (hW5.pure ((Ext.refl _ w7).drew)) (by omega))
            go_wp2_with fail
            refine region_start (fun _ => False) (by kernel_rfl) ?_
            try simp only [Act.put, List.setIfInBounds_toArray, List.set_cons_zero, List.set_cons_succ]
            refine region_take 0 91 (v := ?vz50) rfl rfl (by kernel_rfl) (by kernel_rfl) (by kernel_rfl) (fun _ _ _ h => h) (by rfl) (fun w' hS => ?hz50) ?rz50
            case hz50 => go_simp; with_reducible rfl
            try simp only [Act.put, List.setIfInBounds_toArray, List.set_cons_zero, List.set_cons_succ]
            refine region_take 2 93 (v := ?vz52) rfl rfl (by kernel_rfl) (by kernel_rfl) (by kernel_rfl) (fun _ _ _ h => h) (by rfl) (fun w' hS => ?hz52) ?rz52
            case hz52 => go_simp; with_reducible rfl
            try simp only [Act.put, List.setIfInBounds_toArray, List.set_cons_zero, List.set_cons_succ]
            refine region_take 3 94 (v := ?vz53) rfl rfl (by kernel_rfl) (by kernel_rfl) (by kernel_rfl) (fun _ _ _ h => h) (by rfl) (fun w' hS => ?hz53) ?rz53
            case hz53 => go_simp; with_reducible rfl
            try simp only [Act.put, List.setIfInBounds_toArray, List.set_cons_zero, List.set_cons_succ]
            refine wpAnyH_ready (rs := [1]) (by kernel_rfl) (by simp) (AllReadyH.cons rfl (fun K hK => ?_) AllReadyH.nil)
            go_simp
            refine HLen.out.mono ?_
            rintro e wp ⟨rfl, hwp⟩
            obtain rfl := hwp.symm
            refine hK.out _ _ (Ext.refl _ _) (fun hHeld => ?_)
            clear hK K hHeld
            refine region_now (Ext.refl _ _) ?_
            try simp only [Act.put, List.setIfInBounds_toArray, List.set_cons_zero, List.set_cons_succ]
            refine region_take 4 95 (v := ?vz54) rfl rfl (by kernel_rfl) (by kernel_rfl) (by kernel_rfl) (fun _ _ _ h => h) (by rfl) (fun w' hS => ?hz54) ?rz54
            case hz54 => go_simp; with_reducible rfl
            try simp only [Act.put, List.setIfInBounds_toArray, List.set_cons_zero, List.set_cons_succ]
            refine region_take 5 96 (v := ?vz55) rfl rfl (by kernel_rfl) (by kernel_rfl) (by kernel_rfl) (fun _ _ _ h => h) (by rfl) (fun w' hS => ?hz55) ?rz55
            case hz55 => go_simp; with_reducible rfl
            try simp only [Act.put, List.setIfInBounds_toArray, List.set_cons_zero, List.set_cons_succ]
            refine region_take 6 97 (v := ?vz56) rfl rfl (by kernel_rfl) (by kernel_rfl) (by kernel_rfl) (fun _ _ _ h => h) (by rfl) (fun w' hS => ?hz56) ?rz56
            case hz56 => go_simp; with_reducible rfl
            try simp only [Act.put, List.setIfInBounds_toArray, List.set_cons_zero, List.set_cons_succ]
            refine region_take 9 100 (v := ?vz59) rfl rfl (by kernel_rfl) (by kernel_rfl) (by kernel_rfl) (fun _ _ _ h => h) (by rfl) (fun w' hS => ?hz59) ?rz59
            case hz59 => go_simp; with_reducible rfl
            try simp only [Act.put, List.setIfInBounds_toArray, List.set_cons_zero, List.set_cons_succ]
            refine region_take 10 101 (v := ?vz510) rfl rfl (by kernel_rfl) (by kernel_rfl) (by kernel_rfl) (fun _ _ _ h => h) (by rfl) (fun w' hS => ?hz510) ?rz510
            case hz510 => go_simp; with_reducible rfl
            try simp only [Act.put, List.setIfInBounds_toArray, List.set_cons_zero, List.set_cons_succ]
            refine wpAnyH_ready (rs := [7]) (by kernel_rfl) (by simp) (AllReadyH.cons rfl (fun K hK => ?_) AllReadyH.nil)
            go_simp
            refine HByt.out.mono ?_
            rintro e wq ⟨ra, rc, rfl, hN⟩
            refine hK.out _ _ (hN.ext) (fun hHeld => ?_)
            clear hK K hHeld
            refine region_now (hN.ext) ?_
            try simp only [Act.put, List.setIfInBounds_toArray, List.set_cons_zero, List.set_cons_succ]
            have hN2 := hN.bytes
            have hN3 := hN.nil
            have cv8 := fun w' (hS : Ext (fun _ => False) wq w') => conv_str w' ra rc _ _ rfl hN3 (hN2.pure hS)
            refine region_take 8 99 (v := ?vz58) rfl rfl (by kernel_rfl) (by kernel_rfl) (by kernel_rfl) (fun _ _ _ h => h) (by rfl) (fun w' hS => ?hz58) ?rz58
            case hz58 => go_simp; with_reducible rfl
            try simp only [Act.put, List.setIfInBounds_toArray, List.set_cons_zero, List.set_cons_succ]
            refine wpAnyH_ready (rs := [11]) (by kernel_rfl) (by simp) (AllReadyH.cons rfl (fun K hK => ?_) AllReadyH.nil)
            go_simp
            refine (refbytes_any high f5 g5 nb wq (hrow5.ext ((Ext.refl (fun _ => False) w7).drew.pure hN.ext) (fun _ _ => id)) (by omega)).mono ?_
            rintro e wt ⟨ta, tc, rfl, hO6, hE6⟩
            refine hK.out _ _ (hE6) (fun hHeld => ?_)
            clear hK K hHeld
            refine region_now (hE6) ?_
            try simp only [Act.put, List.setIfInBounds_toArray, List.set_cons_zero, List.set_cons_succ]
            clear cv8
            have hO6' := own_row hO6
            have cv12 := fun w' (hS : Ext (fun _ => False) wt w') => conv_str w' ta tc _ _ rfl (own_form' hO6) (Bytes.pure hO6' hS)
            refine region_take 12 103 (v := ?vz512) rfl rfl (by kernel_rfl) (by kernel_rfl) (by kernel_rfl) (fun _ _ _ h => h) (by rfl) (fun w' hS => ?hz512) ?rz512
            case hz512 => go_simp; with_reducible rfl
            try simp only [Act.put, List.setIfInBounds_toArray, List.set_cons_zero, List.set_cons_succ]
            refine region_take 13 104 (v := ?vz513) rfl rfl (by kernel_rfl) (by kernel_rfl) (by kernel_rfl) (fun _ _ _ h => h) (by rfl) (fun w' hS => ?hz513) ?rz513
            case hz513 => go_simp; with_reducible rfl
            try simp only [Act.put, List.setIfInBounds_toArray, List.set_cons_zero, List.set_cons_succ]
            refine region_take 14 105 (v := ?vz514) rfl rfl (by kernel_rfl) (by kernel_rfl) (by kernel_rfl) (fun _ _ _ h => h) (by rfl) (fun w' hS => ?hz514) ?rz514
            case hz514 => go_simp; with_reducible rfl
            try simp only [Act.put, List.setIfInBounds_toArray, List.set_cons_zero, List.set_cons_succ]
            refine wpAnyH_done (by kernel_rfl) ?_ _
            have hPz : Pure w7 wt := ((Ext.refl (fun _ => False) w7).drew.pure hN.ext).pure hE6
            have hW6 := hW5.pure hPz
            have hO6 := own_ext hO5 hPz (fun _ _ => id)
            have hP6 := hP5.pure hPz
            go_wp2_with fail
            go_roundw
            case rel => exact ⟨k + 1, nb, a5, c5, f5, g5, by omega, by omega, by go_num, rfl, hO6, hW6, hP6, hfa5, hdis5, by omega⟩
            case measure => simp [intOf]; omega
          | false =>
            obtain ⟨q, hq⟩ : ∃ q, q = putB high p := ⟨_, rfl⟩
            have hql : q.length ≤ 32 := by rw [hq]; exact putB_len high p
            have cn0 := fun w' (hS : Ext (fun _ => False) wr.drew w') => (hP.pure ((Ext.refl _ wr).drew.pure hS)).cell_some h0 id
            have cn1 := fun w' (hS : Ext (fun _ => False) wr.drew w') => (hP.pure ((Ext.refl _ wr).drew.pure hS)).cell_some h1 id
            have HN0 := numb_any high p wr.drew hinP
            rw [hok, ← hq] at HN0
            have HN := Lib.hid HN0
            have HP0 := fun wx (hx : WrIs wx b high bs a c) => putb_any b high bs a c p wx hx (by omega) hinP
            rw [hok, ← hq] at HP0
            simp only [Bool.false_eq_true, if_false, if_true] at HP0
            have HP' := Lib.hid HP0
            have hok' := Lib.hid hok
            clear hok hq HN0 HP0
            go_wp2_with fail
            clear g0 g1
            refine region_start (fun _ => False) (by kernel_rfl) ?_
            try simp only [Act.put, List.setIfInBounds_toArray, List.set_cons_zero, List.set_cons_succ]
            refine region_take 0 50 (v := ?vx60) rfl rfl (by kernel_rfl) (by kernel_rfl) (by kernel_rfl) (fun _ _ _ h => h) (by rfl) (fun w' hS => ?hx60) ?rx60
            case hx60 => go_simp; with_reducible rfl
            try simp only [Act.put, List.setIfInBounds_toArray, List.set_cons_zero, List.set_cons_succ]
            refine region_take 1 51 (v := ?vx61) rfl rfl (by kernel_rfl) (by kernel_rfl) (by kernel_rfl) (fun _ _ _ h => h) (by rfl) (fun w' hS => ?hx61) ?rx61
            case hx61 => go_simp; with_reducible rfl
            try simp only [Act.put, List.setIfInBounds_toArray, List.set_cons_zero, List.set_cons_succ]
            refine region_take 2 52 (v := ?vx62) rfl rfl (by kernel_rfl) (by kernel_rfl) (by kernel_rfl) (fun _ _ _ h => h) (by rfl) (fun w' hS => ?hx62) ?rx62
            case hx62 => go_simp; with_reducible rfl
            try simp only [Act.put, List.setIfInBounds_toArray, List.set_cons_zero, List.set_cons_succ]
            refine region_take 3 53 (v := ?vx63) rfl rfl (by kernel_rfl) (by kernel_rfl) (by kernel_rfl) (fun _ _ _ h => h) (by rfl) (fun w' hS => ?hx63) ?rx63
            case hx63 => go_simp; with_reducible rfl
            try simp only [Act.put, List.setIfInBounds_toArray, List.set_cons_zero, List.set_cons_succ]
            refine region_take 4 54 (v := ?vx64) rfl rfl (by kernel_rfl) (by kernel_rfl) (by kernel_rfl) (fun _ _ _ h => h) (by rfl) (fun w' hS => ?hx64) ?rx64
            case hx64 => go_simp; with_reducible rfl
            try simp only [Act.put, List.setIfInBounds_toArray, List.set_cons_zero, List.set_cons_succ]
            refine region_take 5 55 (v := ?vx65) rfl rfl (by kernel_rfl) (by kernel_rfl) (by kernel_rfl) (fun _ _ _ h => h) (by rfl) (fun w' hS => ?hx65) ?rx65
            case hx65 => go_simp; with_reducible rfl
            try simp only [Act.put, List.setIfInBounds_toArray, List.set_cons_zero, List.set_cons_succ]
            refine region_take 6 56 (v := ?vx66) rfl rfl (by kernel_rfl) (by kernel_rfl) (by kernel_rfl) (fun _ _ _ h => h) (by rfl) (fun w' hS => ?hx66) ?rx66
            case hx66 => go_simp; with_reducible rfl
            try simp only [Act.put, List.setIfInBounds_toArray, List.set_cons_zero, List.set_cons_succ]
            refine region_take 7 57 (v := ?vx67) rfl rfl (by kernel_rfl) (by kernel_rfl) (by kernel_rfl) (fun _ _ _ h => h) (by rfl) (fun w' hS => ?hx67) ?rx67
            case hx67 => go_simp; with_reducible rfl
            try simp only [Act.put, List.setIfInBounds_toArray, List.set_cons_zero, List.set_cons_succ]
            refine region_take 8 58 (v := ?vx68) rfl rfl (by kernel_rfl) (by kernel_rfl) (by kernel_rfl) (fun _ _ _ h => h) (by rfl) (fun w' hS => ?hx68) ?rx68
            case hx68 => go_simp; with_reducible rfl
            try simp only [Act.put, List.setIfInBounds_toArray, List.set_cons_zero, List.set_cons_succ]
            refine region_take 9 59 (v := ?vx69) rfl rfl (by kernel_rfl) (by kernel_rfl) (by kernel_rfl) (fun _ _ _ h => h) (by rfl) (fun w' hS => ?hx69) ?rx69
            case hx69 => go_simp; with_reducible rfl
            try simp only [Act.put, List.setIfInBounds_toArray, List.set_cons_zero, List.set_cons_succ]
            refine region_take 10 60 (v := ?vx610) rfl rfl (by kernel_rfl) (by kernel_rfl) (by kernel_rfl) (fun _ _ _ h => h) (by rfl) (fun w' hS => ?hx610) ?rx610
            case hx610 => go_simp; with_reducible rfl
            try simp only [Act.put, List.setIfInBounds_toArray, List.set_cons_zero, List.set_cons_succ]
            refine wpAnyH_ready (rs := [11]) (by kernel_rfl) (by simp) (AllReadyH.cons rfl (fun K hK => ?_) AllReadyH.nil)
            go_simp
            refine HN.out.mono ?_
            rintro e wn ⟨na, nc, rfl, hOn, hEn⟩
            refine hK.out _ _ (hEn) (fun hHeld => ?_)
            clear hK K hHeld
            refine region_now (hEn) ?_
            try simp only [Act.put, List.setIfInBounds_toArray, List.set_cons_zero, List.set_cons_succ]
            refine region_take 12 49 (v := ?vx612) rfl rfl (by kernel_rfl) (by kernel_rfl) (by kernel_rfl) (fun _ _ _ h => h) (by rfl) (fun w' hS => ?hx612) ?rx612
            case hx612 => go_simp; with_reducible rfl
            try simp only [Act.put, List.setIfInBounds_toArray, List.set_cons_zero, List.set_cons_succ]
            refine region_take 13 62 (v := ?vx613) rfl rfl (by kernel_rfl) (by kernel_rfl) (by kernel_rfl) (fun _ _ _ h => h) (by rfl) (fun w' hS => ?hx613) ?rx613
            case hx613 => go_simp; with_reducible rfl
            try simp only [Act.put, List.setIfInBounds_toArray, List.set_cons_zero, List.set_cons_succ]
            refine region_take 14 63 (v := ?vx614) rfl rfl (by kernel_rfl) (by kernel_rfl) (by kernel_rfl) (fun _ _ _ h => h) (by rfl) (fun w' hS => ?hx614) ?rx614
            case hx614 => go_simp; with_reducible rfl
            try simp only [Act.put, List.setIfInBounds_toArray, List.set_cons_zero, List.set_cons_succ]
            refine region_take 15 8 (v := ?vx615) rfl rfl (by kernel_rfl) (by kernel_rfl) (by kernel_rfl) (fun _ _ _ h => h) (by rfl) (fun w' hS => ?hx615) ?rx615
            case hx615 => go_simp; with_reducible rfl
            try simp only [Act.put, List.setIfInBounds_toArray, List.set_cons_zero, List.set_cons_succ]
            refine region_take 16 9 (v := ?vx616) rfl rfl (by kernel_rfl) (by kernel_rfl) (by kernel_rfl) (fun _ _ _ h => h) (by rfl) (fun w' hS => ?hx616) ?rx616
            case hx616 => go_simp; with_reducible rfl
            try simp only [Act.put, List.setIfInBounds_toArray, List.set_cons_zero, List.set_cons_succ]
            refine wpAnyH_done (by kernel_rfl) ?_ _
            have hPn : Pure wr wn := (Ext.refl (fun _ => False) wr).drew.pure hEn
            clear cn0 cn1 HN
            have cn0 := fun w' (hS : Ext (WrS b a) wn.drew w') => hS.cell_some ((hP.pure hPn).drew.cell_some h0 id) hnw
            have cn1 := fun w' (hS : Ext (WrS b a) wn.drew w') => hS.cell_some ((hP.pure hPn).drew.cell_some h1 id) hnw
            have HPut := Lib.hid (HP'.out wn.drew ((hW.pure hPn).pure ((Ext.refl _ wn).drew)))
            go_wp2_with fail
            refine region_start (WrS b a) (by kernel_rfl) ?_
            try simp only [Act.put, List.setIfInBounds_toArray, List.set_cons_zero, List.set_cons_succ]
            refine region_take 0 64 (v := ?vy60) rfl rfl (by kernel_rfl) (by kernel_rfl) (by kernel_rfl) (fun _ _ _ h => h) (by rfl) (fun w' hS => ?hy60) ?ry60
            case hy60 => go_simp; with_reducible rfl
            try simp only [Act.put, List.setIfInBounds_toArray, List.set_cons_zero, List.set_cons_succ]
            refine region_take 1 65 (v := ?vy61) rfl rfl (by kernel_rfl) (by kernel_rfl) (by kernel_rfl) (fun _ _ _ h => h) (by rfl) (fun w' hS => ?hy61) ?ry61
            case hy61 => go_simp; with_reducible rfl
            try simp only [Act.put, List.setIfInBounds_toArray, List.set_cons_zero, List.set_cons_succ]
            refine region_take 2 66 (v := ?vy62) rfl rfl (by kernel_rfl) (by kernel_rfl) (by kernel_rfl) (fun _ _ _ h => h) (by rfl) (fun w' hS => ?hy62) ?ry62
            case hy62 => go_simp; with_reducible rfl
            try simp only [Act.put, List.setIfInBounds_toArray, List.set_cons_zero, List.set_cons_succ]
            refine region_take 3 67 (v := ?vy63) rfl rfl (by kernel_rfl) (by kernel_rfl) (by kernel_rfl) (fun _ _ _ h => h) (by rfl) (fun w' hS => ?hy63) ?ry63
            case hy63 => go_simp; with_reducible rfl
            try simp only [Act.put, List.setIfInBounds_toArray, List.set_cons_zero, List.set_cons_succ]
            refine region_take 4 68 (v := ?vy64) rfl rfl (by kernel_rfl) (by kernel_rfl) (by kernel_rfl) (fun _ _ _ h => h) (by rfl) (fun w' hS => ?hy64) ?ry64
            case hy64 => go_simp; with_reducible rfl
            try simp only [Act.put, List.setIfInBounds_toArray, List.set_cons_zero, List.set_cons_succ]
            refine region_take 5 69 (v := ?vy65) rfl rfl (by kernel_rfl) (by kernel_rfl) (by kernel_rfl) (fun _ _ _ h => h) (by rfl) (fun w' hS => ?hy65) ?ry65
            case hy65 => go_simp; with_reducible rfl
            try simp only [Act.put, List.setIfInBounds_toArray, List.set_cons_zero, List.set_cons_succ]
            refine region_take 6 70 (v := ?vy66) rfl rfl (by kernel_rfl) (by kernel_rfl) (by kernel_rfl) (fun _ _ _ h => h) (by rfl) (fun w' hS => ?hy66) ?ry66
            case hy66 => go_simp; with_reducible rfl
            try simp only [Act.put, List.setIfInBounds_toArray, List.set_cons_zero, List.set_cons_succ]
            refine region_take 7 71 (v := ?vy67) rfl rfl (by kernel_rfl) (by kernel_rfl) (by kernel_rfl) (fun _ _ _ h => h) (by rfl) (fun w' hS => ?hy67) ?ry67
            case hy67 => go_simp; with_reducible rfl
            try simp only [Act.put, List.setIfInBounds_toArray, List.set_cons_zero, List.set_cons_succ]
            refine region_take 8 72 (v := ?vy68) rfl rfl (by kernel_rfl) (by kernel_rfl) (by kernel_rfl) (fun _ _ _ h => h) (by rfl) (fun w' hS => ?hy68) ?ry68
            case hy68 => go_simp; with_reducible rfl
            try simp only [Act.put, List.setIfInBounds_toArray, List.set_cons_zero, List.set_cons_succ]
            refine region_take 9 73 (v := ?vy69) rfl rfl (by kernel_rfl) (by kernel_rfl) (by kernel_rfl) (fun _ _ _ h => h) (by rfl) (fun w' hS => ?hy69) ?ry69
            case hy69 => go_simp; with_reducible rfl
            try simp only [Act.put, List.setIfInBounds_toArray, List.set_cons_zero, List.set_cons_succ]
            refine region_take 10 74 (v := ?vy610) rfl rfl (by kernel_rfl) (by kernel_rfl) (by kernel_rfl) (fun _ _ _ h => h) (by rfl) (fun w' hS => ?hy610) ?ry610
            case hy610 => go_simp; with_reducible rfl
            try simp only [Act.put, List.setIfInBounds_toArray, List.set_cons_zero, List.set_cons_succ]
            refine wpAnyH_ready (rs := [11]) (by kernel_rfl) (by simp) (AllReadyH.cons rfl (fun K hK => ?_) AllReadyH.nil)
            go_simp
            refine HPut.out.mono ?_
            rintro e wu ⟨rfl, a5, c5, hW4, hE4, hf4⟩
            refine hK.out _ _ (hE4) (fun hHeld => ?_)
            clear hK K hHeld
            refine region_now (hE4) ?_
            try simp only [Act.put, List.setIfInBounds_toArray, List.set_cons_zero, List.set_cons_succ]
            refine region_take 12 10 (v := ?vy612) rfl rfl (by kernel_rfl) (by kernel_rfl) (by kernel_rfl) (fun _ _ _ h => h) (by rfl) (fun w' hS => ?hy612) ?ry612
            case hy612 => go_simp; with_reducible rfl
            try simp only [Act.put, List.setIfInBounds_toArray, List.set_cons_zero, List.set_cons_succ]
            refine wpAnyH_done (by kernel_rfl) ?_ _
            clear cn0 cn1 HPut HP'
            have hPn' : Pure wr wn.drew := hPn.drew
            have hsz1 := hPn'.size
            have hsz2 := hE4.size
            have hown4 := own_ext (own_ext hown hPn' (fun _ _ => id)) hE4 (fun g hg e => by
              obtain ⟨y, hy, hyg⟩ := own_blk hg
              obtain ⟨d1, d2⟩ := hdis y hy
              rw [← hyg] at e
              exact not_wrs d1 d2 e)
            have hPu : Pure w wu := ext_new (hP.pure hPn') hE4 (by omega) hfa
            have hWlt := hW.lt
            have hW4lt := hW4.lt
            have hfalt : ∀ g, fa = some g → g.block < wr.heap.size := by
              intro g hg
              obtain ⟨_, _, hh, _, _, _, h4⟩ := own_form hown
              cases hh
              exact (h4 g hg).2.1
            have hnfr : ∀ g, na = some g → wr.heap.size ≤ g.block := by
              intro g hg
              obtain ⟨_, _, hh, _, _, _, h4⟩ := own_form hOn
              cases hh
              have e : wr.drew.heap.size ≤ g.block := (h4 g hg).1
              exact e
            have hnnil := own_form' hOn
            have hnle : na = none → q.length = 0 ∧ nc = 0 := by
              intro h
              obtain ⟨_, _, hh, h1, _, h3, _⟩ := own_form hOn
              cases hh
              have := h3 h
              omega
            have hrown : RowOf wu na (q.map Value.bool) := ((own_row hOn).ext (Ext.refl (fun _ => False) wn).drew (fun _ _ => id)).ext hE4 (fun g hg => by
              have := hnfr g hg
              exact not_wrs (by omega) (fun g' hg' => by have := hWlt g' hg'; omega))
            have hf4' : ∀ g', a5 = some g' → a = some g' ∨ wr.heap.size ≤ g'.block := by
              intro g' hg'
              rcases hf4 g' hg' with e | e
              · exact Or.inl e
              · exact Or.inr (Nat.le_trans hsz1 e)
            have hdis4 : ∀ g, fa = some g → g.block ≠ b ∧ ∀ g', a5 = some g' → g.block ≠ g'.block := by
              intro g hg
              refine ⟨(hdis g hg).1, fun g' hg' => ?_⟩
              rcases hf4' g' hg' with e | e
              · exact (hdis g hg).2 g' e
              · have := hfalt g hg; omega
            have hfa5 : ∀ g, a5 = some g → w.heap.size ≤ g.block := by
              intro g hg
              rcases hf4' g hg with e | e
              · exact hfa g e
              · have := hP.size; omega
            have hszP := hPu.size
            have hbl4 := hW4.blk.lt
            clear hown hdis hfa hfalt hWlt hW hP hPn hPn' hE4 hf4 hf4' hOn hnfr hnnil h0 h1 hEn
            go_wp2_with (at_builtin; refine wpList_append_fresh rfl (.tmp 88) (.tmp 89) 39 rfl w.heap.size 4 (.bool false) 1 1 Try.underlying39 infoBool rfl (by decide) _ bs.length (bs.map Value.bool) rfl hown4 na q.length nc (q.map Value.bool) rfl hnle (by simp) hrown (bool_one q) (bs.length + q.length) rfl (bs.map Value.bool ++ q.map Value.bool) rfl (by omega) (by unfold maxLen; omega) hszP ?_)
            intro f5 g5 w7 hO5 hg5 hfr5
            have hg5' := ext_of_grown hg5
            have hP5 : Pure w w7 := Ext.own hPu hown4 hg5
            have hW5 := hW4.ext hg5' (fun e => by
              obtain ⟨y, hy, hyg⟩ := own_blk e
              exact (hdis4 y hy).1 hyg) (fun g hg e => by
              obtain ⟨y, hy, hyg⟩ := own_blk e
              exact (hdis4 y hy).2 g hg hyg)
            have hdis5 : ∀ g, f5 = some g → g.block ≠ b ∧ ∀ g', a5 = some g' → g.block ≠ g'.block := by
              intro g hg
              rcases hfr5 g hg with e | e
              · obtain ⟨y, hy, hyg⟩ := own_blk e
                rw [← hyg]; exact hdis4 y hy
              · exact ⟨by omega, fun g' hg' => by have := hW4lt g' hg'; omega⟩
            obtain ⟨nb, hnb⟩ : ∃ nb, nb = bs ++ q := ⟨_, rfl⟩
            have hnl : bs.length + q.length = nb.length := by rw [hnb]; simp
            have hnm : bs.map Value.bool ++ q.map Value.bool = nb.map Value.bool := by rw [hnb]; simp
            have hal2 : nb.length ≤ 40 * (k + 1) := by omega
            rw [hnl, hnm] at hO5
            rw [← hnb] at hW5
            rw [hnl]
            clear hg5 hg5' hfr5 hdis4 hW4 hown4 hPu hrown hnle hnb hnl hnm
            have hle5 := own_form hO5
            obtain ⟨_, _, hh5, hle5, hmost5, hnil5, hlt5⟩ := hle5
            cases hh5
            have hrow5 := own_row hO5
            have hPl := pack_length high nb
            have hPl' : (pack high nb).length ≤ 1000 := by omega
            have HPl := Lib.hid hPl
            clear hPl
            have HLen := Lib.hid (len_any b high nb a5 c5 w7.drew (hW5.pure ((Ext.refl _ w7).drew)))
            have HByt := Lib.hid (bytes_any b high nb a5 c5 w7.drew (hW5.pure ((Ext.refl _ w7).drew)) (by omega))
            go_wp2_with fail
            refine region_start (fun _ => False) (by kernel_rfl) ?_
            try simp only [Act.put, List.setIfInBounds_toArray, List.set_cons_zero, List.set_cons_succ]
            refine region_take 0 91 (v := ?vz70) rfl rfl (by kernel_rfl) (by kernel_rfl) (by kernel_rfl) (fun _ _ _ h => h) (by rfl) (fun w' hS => ?hz70) ?rz70
            case hz70 => go_simp; with_reducible rfl
            try simp only [Act.put, List.setIfInBounds_toArray, List.set_cons_zero, List.set_cons_succ]
            refine region_take 2 93 (v := ?vz72) rfl rfl (by kernel_rfl) (by kernel_rfl) (by kernel_rfl) (fun _ _ _ h => h) (by rfl) (fun w' hS => ?hz72) ?rz72
            case hz72 => go_simp; with_reducible rfl
            try simp only [Act.put, List.setIfInBounds_toArray, List.set_cons_zero, List.set_cons_succ]
            refine region_take 3 94 (v := ?vz73) rfl rfl (by kernel_rfl) (by kernel_rfl) (by kernel_rfl) (fun _ _ _ h => h) (by rfl) (fun w' hS => ?hz73) ?rz73
            case hz73 => go_simp; with_reducible rfl
            try simp only [Act.put, List.setIfInBounds_toArray, List.set_cons_zero, List.set_cons_succ]
            refine wpAnyH_ready (rs := [1]) (by kernel_rfl) (by simp) (AllReadyH.cons rfl (fun K hK => ?_) AllReadyH.nil)
            go_simp
            refine HLen.out.mono ?_
            rintro e wp ⟨rfl, hwp⟩
            obtain rfl := hwp.symm
            refine hK.out _ _ (Ext.refl _ _) (fun hHeld => ?_)
            clear hK K hHeld
            refine region_now (Ext.refl _ _) ?_
            try simp only [Act.put, List.setIfInBounds_toArray, List.set_cons_zero, List.set_cons_succ]
            refine region_take 4 95 (v := ?vz74) rfl rfl (by kernel_rfl) (by kernel_rfl) (by kernel_rfl) (fun _ _ _ h => h) (by rfl) (fun w' hS => ?hz74) ?rz74
            case hz74 => go_simp; with_reducible rfl
            try simp only [Act.put, List.setIfInBounds_toArray, List.set_cons_zero, List.set_cons_succ]
            refine region_take 5 96 (v := ?vz75) rfl rfl (by kernel_rfl) (by kernel_rfl) (by kernel_rfl) (fun _ _ _ h => h) (by rfl) (fun w' hS => ?hz75) ?rz75
            case hz75 => go_simp; with_reducible rfl
            try simp only [Act.put, List.setIfInBounds_toArray, List.set_cons_zero, List.set_cons_succ]
            refine region_take 6 97 (v := ?vz76) rfl rfl (by kernel_rfl) (by kernel_rfl) (by kernel_rfl) (fun _ _ _ h => h) (by rfl) (fun w' hS => ?hz76) ?rz76
            case hz76 => go_simp; with_reducible rfl
            try simp only [Act.put, List.setIfInBounds_toArray, List.set_cons_zero, List.set_cons_succ]
            refine region_take 9 100 (v := ?vz79) rfl rfl (by kernel_rfl) (by kernel_rfl) (by kernel_rfl) (fun _ _ _ h => h) (by rfl) (fun w' hS => ?hz79) ?rz79
            case hz79 => go_simp; with_reducible rfl
            try simp only [Act.put, List.setIfInBounds_toArray, List.set_cons_zero, List.set_cons_succ]
            refine region_take 10 101 (v := ?vz710) rfl rfl (by kernel_rfl) (by kernel_rfl) (by kernel_rfl) (fun _ _ _ h => h) (by rfl) (fun w' hS => ?hz710) ?rz710
            case hz710 => go_simp; with_reducible rfl
            try simp only [Act.put, List.setIfInBounds_toArray, List.set_cons_zero, List.set_cons_succ]
            refine wpAnyH_ready (rs := [7]) (by kernel_rfl) (by simp) (AllReadyH.cons rfl (fun K hK => ?_) AllReadyH.nil)
            go_simp
            refine HByt.out.mono ?_
            rintro e wq ⟨ra, rc, rfl, hN⟩
            refine hK.out _ _ (hN.ext) (fun hHeld => ?_)
            clear hK K hHeld
            refine region_now (hN.ext) ?_
            try simp only [Act.put, List.setIfInBounds_toArray, List.set_cons_zero, List.set_cons_succ]
            have hN2 := hN.bytes
            have hN3 := hN.nil
            have cv8 := fun w' (hS : Ext (fun _ => False) wq w') => conv_str w' ra rc _ _ rfl hN3 (hN2.pure hS)
            refine region_take 8 99 (v := ?vz78) rfl rfl (by kernel_rfl) (by kernel_rfl) (by kernel_rfl) (fun _ _ _ h => h) (by rfl) (fun w' hS => ?hz78) ?rz78
            case hz78 => go_simp; with_reducible rfl
            try simp only [Act.put, List.setIfInBounds_toArray, List.set_cons_zero, List.set_cons_succ]
            refine wpAnyH_ready (rs := [11]) (by kernel_rfl) (by simp) (AllReadyH.cons rfl (fun K hK => ?_) AllReadyH.nil)
            go_simp
            refine (refbytes_any high f5 g5 nb wq (hrow5.ext ((Ext.refl (fun _ => False) w7).drew.pure hN.ext) (fun _ _ => id)) (by omega)).mono ?_
            rintro e wt ⟨ta, tc, rfl, hO6, hE6⟩
            refine hK.out _ _ (hE6) (fun hHeld => ?_)
            clear hK K hHeld
            refine region_now (hE6) ?_
            try simp only [Act.put, List.setIfInBounds_toArray, List.set_cons_zero, List.set_cons_succ]
            clear cv8
            have hO6' := own_row hO6
            have cv12 := fun w' (hS : Ext (fun _ => False) wt w') => conv_str w' ta tc _ _ rfl (own_form' hO6) (Bytes.pure hO6' hS)
            refine region_take 12 103 (v := ?vz712) rfl rfl (by kernel_rfl) (by kernel_rfl) (by kernel_rfl) (fun _ _ _ h => h) (by rfl) (fun w' hS => ?hz712) ?rz712
            case hz712 => go_simp; with_reducible rfl
            try simp only [Act.put, List.setIfInBounds_toArray, List.set_cons_zero, List.set_cons_succ]
            refine region_take 13 104 (v := ?vz713) rfl rfl (by kernel_rfl) (by kernel_rfl) (by kernel_rfl) (fun _ _ _ h => h) (by rfl) (fun w' hS => ?hz713) ?rz713
            case hz713 => go_simp; with_reducible rfl
            try simp only [Act.put, List.setIfInBounds_toArray, List.set_cons_zero, List.set_cons_succ]
            refine region_take 14 105 (v := ?vz714) rfl rfl (by kernel_rfl) (by kernel_rfl) (by kernel_rfl) (fun _ _ _ h => h) (by rfl) (fun w' hS => ?hz714) ?rz714
            case hz714 => go_simp; with_reducible rfl
            try simp only [Act.put, List.setIfInBounds_toArray, List.set_cons_zero, List.set_cons_succ]
            refine wpAnyH_done (by kernel_rfl) ?_ _
            have hPz : Pure w7 wt := ((Ext.refl (fun _ => False) w7).drew.pure hN.ext).pure hE6
            have hW6 := hW5.pure hPz
            have hO6 := own_ext hO5 hPz (fun _ _ => id)
            have hP6 := hP5.pure hPz
            go_wp2_with fail
            go_roundw
            case rel => exact ⟨k + 1, nb, a5, c5, f5, g5, by omega, by omega, by go_num, rfl, hO6, hW6, hP6, hfa5, hdis5, by omega⟩
            case measure => simp [intOf]; omega
      · have hfin : ¬ ((k : Int) < 60) := by omega
        clear hlt60
        go_wp2_with fail
        go_ret
        exact ⟨rfl, hP.below⟩
    · have hfin : ¬ ((k : Int) < (l.length : Int)) := by omega
      clear hlt
      go_wp2_with fail
      go_ret
      exact ⟨rfl, hP.below⟩

theorem lifted (os : Os) (started : os.Started) (H : Type) (enc : TypeId × Value → H) :
    ReturnsInHanded {} Try.checked os 5 .any (Rows.bitsPutsSpec.pre6 enc Try.prog Try.f5 Rows.bitsPutsRow.domain false) (Rows.bitsPutsSpec.post enc Try.prog Try.f5 false true false false) := by
  refine returnsInHanded_of_change (C := Try.checked) own started (by kernel_rfl) Try.func5
    (ChangeSpec.witness6 (enc := enc) (C := Try.checked) false ⟨#[], #[.bool false, .slice none 0 0], []⟩ 8 (by kernel_rfl) (by kernel_rfl) (by kernel_rfl) (by kernel_rfl)) ?_
  intro W base args ds gs before hval0 hW hcnd _
  have hval : ∀ (j : Nat) t v, Try.f5.params[j]? = some t → args[j]? = some v → Value.okWide Try.prog W .any base t v := hval0
  have hW' := hW
  obtain ⟨p, q, hA0, hV, rfl, hfz, hnd⟩ := hW
  have hA : DataW.TrodAll enc Try.prog W 0 (fun _ => true) true Try.f5.params.toList args.toList ds p := hA0
  rw [Try.params5] at hA hval
  obtain ⟨v0, vs0, d0, ds0, p0, q0, hargs, rfl, rfl, h0, r0⟩ := trodAll_cons hA
  obtain ⟨v1, vs1, d1, ds1, p1, q1, rfl, rfl, rfl, h1, r1⟩ := trodAll_cons r0
  obtain ⟨rfl, rfl, rfl⟩ := trodAll_nil r1
  obtain rfl : args = #[v0, v1] := by cases args; simp_all
  obtain ⟨rfl, rfl⟩ := trodVars_none hV
  obtain ⟨x, rfl, rfl, rfl⟩ := open_bool Try.underlying4 (hval 0 4 v0 rfl rfl) h0
  have k1 := h1
  have lt1 : ∀ x ∈ p1, x.block < W.heap.size := by obtain ⟨m, hm⟩ := k1; exact DataW.trod_lt m _ _ _ hm
  obtain ⟨a, cap, l, rfl, hl, hrow, hin⟩ := open_parts (hval 1 22 v1 rfl rfl) h1
  clear hA0 hval0
  refine (walk x a cap l W hl hrow hin).mono fun e W' ⟨he, bel⟩ => ?_
  subst he
  exact ⟨_, rfl, _, _, _, [], _, [], hW', trodAll_mk1 (shut_bool Try.underlying4 _), (trodAll_cons_mk (shut_bool Try.underlying4 _) (trodAll_cons_mk (Below.trod laidOut (by kernel_rfl) (of_decide_eq_true (by kernel_rfl)) k1 bel lt1) trodAll_mk0)), rfl, bel.frame _, fun h => by cases h⟩

theorem proved : Rows.BitsPutsSaid :=
  OpenClaim.holds_of_wide 5 Try.f5 rfl rfl rfl rfl rfl rfl rfl ⟨rfl, rfl, rfl, rfl, rfl⟩ rfl rfl rfl rfl rfl (by kernel_rfl) Try.func5 (by kernel_rfl)
    (of_decide_eq_true (by kernel_rfl)) (by unfold Func.isWrapper; first | (rw [if_pos (by decide +kernel)]; kernel_rfl) | (rw [if_neg (by decide +kernel)]; exact ⟨rfl, rfl⟩))
    (fun os started H enc _ => lifted os started H enc)
#print axioms proved
end Go.Proofs.Ytcjfmgaelpkndaa.bitsPuts
