/-
  May a dictionary's names be? (both)
-/
import Derived.Test.YtnpiemcfbnpfdaaNumChk
import Derived.Deep.QuietTactic
import Derived.BigQuiet
namespace Go.Proofs.Ytnpiemcfbnpfdaa
open Go.RowKit
set_option linter.unusedVariables false
set_option linter.unusedSimpArgs false

theorem Kids.cells {W : World} {d : Nat} {l : List V} {a : Option Addr} {rows : List (List Value)} (h : Kids W d l a rows) (k : Nat) (u : V) (hk : l[k]? = some u) :
    ∃ b o a' c', a = some ⟨b, o, none⟩ ∧ W.cell? ⟨b, o + k * 4, none⟩ = some (.int .i64 u.kind) ∧ W.cell? ⟨b, o + k * 4 + 1, none⟩ = some (.int .i64 u.n) ∧ W.cell? ⟨b, o + k * 4 + 2, none⟩ = some (.string u.s) ∧ W.cell? ⟨b, o + k * 4 + 3, none⟩ = some (.slice a' u.l.length c') := by
  obtain ⟨b, o, r, ha, hr, _, hL⟩ := h.at k u hk
  cases d with
  | zero => exact hL.elim
  | succ d =>
    obtain ⟨a', c', _, rfl, _⟩ := hL.kids
    exact ⟨b, o, a', c', ha, hr 0 _ rfl, hr 1 _ rfl, hr 2 _ rfl, hr 3 _ rfl⟩
def kindAt (l : List V) (i : Nat) : Int := (l[i]?.map V.kind).getD 0
def keyAt (l : List V) (i : Nat) : ByteArray := (l[i]?.map V.s).getD ⟨#[]⟩
def lessB (a b : ByteArray) : Bool := Op.bytesLess a.toList b.toList
def namesB (l : List V) : Bool := (List.range (l.length / 2)).all fun j => kindAt l (2 * j) == 5
def orderB (l : List V) : Bool := (List.range (l.length / 2 - 1)).all fun j => lessB (keyAt l (2 * j)) (keyAt l (2 * j + 2))
def dictE (l : List V) : Int := if l.length % 2 = 1 then 2 else if namesB l = true then (if orderB l = true then 0 else 16) else 2
theorem namesB_true {l : List V} : namesB l = true ↔ ∀ j, j < l.length / 2 → kindAt l (2 * j) = 5 := by simp [namesB]
theorem orderB_true {l : List V} : orderB l = true ↔ ∀ j, j < l.length / 2 - 1 → lessB (keyAt l (2 * j)) (keyAt l (2 * j + 2)) = true := by simp [orderB]
theorem kindAt_some {l : List V} {i : Nat} {u : V} (h : l[i]? = some u) : kindAt l i = u.kind := by simp [kindAt, h]
theorem keyAt_some {l : List V} {i : Nat} {u : V} (h : l[i]? = some u) : keyAt l i = u.s := by simp [keyAt, h]
set_option maxHeartbeats 1000000 in
set_option maxRecDepth 100000 in
theorem dict_any {d : Nat} {l : List V} {a : Option Addr} {rows : List (List Value)} (k0 n0 : Int) (s0 : ByteArray) (c : Nat) (w : World) (hK : Kids w d l a rows) (hl : l.length ≤ 1000000) :
    Calls Try.prog 81 #[.agg #[.int .i64 k0, .int .i64 n0, .string s0, .slice a l.length c]] w (IntTo (dictE l) w) := by
  obtain ⟨E, hE⟩ : ∃ E, E = dictE l := ⟨_, rfl⟩
  rw [← hE]
  unfold dictE at hE
  obtain ⟨n, hn⟩ : ∃ n, n = l.length := ⟨_, rfl⟩
  rw [← hn] at hE hl ⊢
  obtain ⟨w1, hw1⟩ : ∃ w1, w1 = w.alloc (.cells #[.int .i64 k0, .int .i64 n0, .string s0, .slice a n c] 62) := ⟨_, rfl⟩
  have hBx : BlockIs w1 w.heap.size [.int .i64 k0, .int .i64 n0, .string s0, .slice a n c] 62 := hw1 ▸ BlockIs.new w _ _
  have hP1 : Pure w w1 := hw1 ▸ ext_alloc w _
  have hK1 := hK.pure hP1
  obtain ⟨tb, htb⟩ : ∃ tb, tb = w.heap.size := ⟨_, rfl⟩
  rw [← htb] at hBx
  have HE := Lib.hid hE
  have HN := Lib.hid hn
  have HW1 := Lib.hid hw1
  have HTb := Lib.hid htb
  clear hE hn hw1 htb hK
  have c3 : w1.cell? ⟨tb, 3, none⟩ = some (.slice a n c) := hBx.cell 3
  by_cases hodd : n % 2 = 1
  · have HEE : Hid (E = 2) := Lib.hid (by rw [HE.out, if_pos hodd])
    have ho : (n : Int) % 2 = 1 := by omega
    clear hodd
    go_enter Try.func81, Try.ntmps81
    go_wp2_with fail
    go_ret
    exact ⟨by rw [HEE.out]; rfl, by rw [← HW1.out]; exact hP1⟩
  · have ho : (n : Int) % 2 = 0 := by omega
    have HEE : Hid (E = if namesB l = true then (if orderB l = true then 0 else 16) else 2) := Lib.hid (by rw [HE.out, if_neg hodd])
    clear HE
    go_enter Try.func81, Try.ntmps81
    go_wp2_with fail
    rw [← HW1.out, ← HTb.out]
    go_loop [3] (fun i => ∃ j : Nat, 2 * j ≤ n ∧ i = .int .i64 ((2 * j : Nat) : Int) ∧ Hid (∀ i, i < j → kindAt l (2 * i) = 5)) (fun i => n - (intOf i).toNat)
    case atStart => exact ⟨0, by omega, rfl, Lib.hid (fun i hi => by omega)⟩
    case round =>
      obtain ⟨j, hj, rfl, HA⟩ := hrel
      obtain ⟨q, hq⟩ : ∃ q, q = 2 * j := ⟨_, rfl⟩
      rw [← hq] at hj ⊢
      have HQ := Lib.hid hq
      clear hq
      by_cases hlt : q < n
      · have hki : (q : Int) < (n : Int) := by omega
        obtain ⟨u, hu⟩ : ∃ u, l[q]? = some u := ⟨_, List.getElem?_eq_getElem (by rw [← HN.out]; exact hlt)⟩
        obtain ⟨b, o, a', c', rfl, e0, e1, e2, e3⟩ := hK1.cells q u hu
        have hk0 := kindAt_some hu
        generalize u.kind = kk at *
        by_cases h5 : kk = 5
        · subst h5
          have HA2 : Hid (∀ i, i < j + 1 → kindAt l (2 * i) = 5) := Lib.hid (fun i hi => by
            by_cases e : i = j
            · rw [e, ← HQ.out]; exact hk0
            · exact HA.out i (by omega))
          have hq2 : q + 2 ≤ n := by have := HQ.out; omega
          clear hk0 hu
          go_wp2_with fail
          go_round
          case rel => exact ⟨j + 1, by have := HQ.out; omega, by rw [show 2 * (j + 1) = q + 2 from by have := HQ.out; omega]; go_num, HA2⟩
          case measure => simp [intOf]; omega
        · have HEE2 : Hid (E = 2) := Lib.hid (by
            rw [HEE.out, if_neg]
            intro h
            have := namesB_true.1 h j (by have := HQ.out; rw [← HN.out]; omega)
            rw [← HQ.out, hk0] at this
            exact h5 this)
          have h5' : (kk != 5) = true := by simpa using h5
          clear hk0 hu h5
          go_wp2_with fail
          go_ret
          exact ⟨by rw [HEE2.out]; rfl, hP1⟩
      · have hki : ¬ (q : Int) < (n : Int) := by omega
        have HEE2 : Hid (E = if orderB l = true then 0 else 16) := Lib.hid (by
          rw [HEE.out, if_pos]
          exact namesB_true.2 (fun i hi => HA.out i (by have := HQ.out; rw [← HN.out] at hi; omega)))
        clear HEE HA
        go_wp2_with fail
        go_loopw [4] (fun i W => ∃ j : Nat, 1 ≤ j ∧ (2 * j ≤ n ∨ j = 1) ∧ i = .int .i64 ((2 * j : Nat) : Int) ∧ Hid (∀ i, i + 1 < j → lessB (keyAt l (2 * i)) (keyAt l (2 * i + 2)) = true) ∧ Pure w1 W) (fun i _ => n - (intOf i).toNat)
        case atStart => exact ⟨1, by omega, Or.inr rfl, rfl, Lib.hid (fun i hi => by omega), Ext.refl _ _⟩
        case round =>
          obtain ⟨j, hj1, hj, rfl, HA, hE⟩ := hrel
          obtain ⟨q, hq⟩ : ∃ q, q = 2 * j := ⟨_, rfl⟩
          rw [← hq] at hj ⊢
          have hq2 : 2 ≤ q := by omega
          have hq3 : q ≤ 1000000 := by omega
          have HQ := Lib.hid hq
          clear hq
          have c3' : wr.cell? ⟨tb, 3, none⟩ = some (.slice a n c) := (hBx.ext hE id).cell 3
          by_cases hlt : q < n
          · have hki : (q : Int) < (n : Int) := by omega
            obtain ⟨p, hp⟩ : ∃ p, p + 2 = q := ⟨q - 2, by omega⟩
            have hpn : (p : Int) < (n : Int) := by omega
            have hqp : (q : Int) - 2 = (p : Int) := by omega
            have hqw : IntKind.i64.wrap (p : Int) = (p : Int) := IntWalk.i64_in _ (by omega)
            have hq0 : (0 : Int) ≤ (p : Int) := by omega
            obtain ⟨u, hu⟩ : ∃ u, l[q]? = some u := ⟨_, List.getElem?_eq_getElem (by rw [← HN.out]; exact hlt)⟩
            obtain ⟨t, ht⟩ : ∃ t, l[p]? = some t := ⟨_, List.getElem?_eq_getElem (by rw [← HN.out]; omega)⟩
            obtain ⟨b, o, a', c', rfl, e0, e1, e2, e3⟩ := (hK1.pure hE).cells q u hu
            obtain ⟨b', o', a'', c'', hbb, f0, f1, f2, f3⟩ := (hK1.pure hE).cells p t ht
            cases hbb
            have hk0 := keyAt_some hu
            have hk1 := keyAt_some ht
            obtain ⟨B, hB⟩ : ∃ B, B = Op.bytesLess t.s.toList u.s.toList := ⟨_, rfl⟩
            have hB' : Op.bytesLess t.s.toList u.s.toList = B := hB.symm
            have hlB : lessB (keyAt l p) (keyAt l q) = B := by rw [hk0, hk1, lessB, hB']
            have hpj : p = 2 * (j - 1) := by have := HQ.out; omega
            have HPJ := Lib.hid (And.intro hpj hp)
            have HLB := Lib.hid hlB
            have HHK := Lib.hid hK1
            generalize t.s = ts at *
            generalize u.s = us at *
            have hrun : ∀ W, (binOp .geq 9 (.string ts) (.string us)).run Try.prog W = .ok (.bool (!B)) W := fun W => by
              simp only [binOp]
              show Sem.run _ (Op.stringOp .geq ts us) W = _
              simp [Op.stringOp, hB']
            clear hk0 hk1 hu ht hlB hpj hB hp e0 e1 e3 f0 f1 f3 hK1
            cases B with
            | true =>
              have HA2 : Hid (∀ i, i + 1 < j + 1 → lessB (keyAt l (2 * i)) (keyAt l (2 * i + 2)) = true) := Lib.hid (fun i hi => by
                by_cases e : i + 1 = j
                · have h1 := HPJ.out.1
                  have h2 := HPJ.out.2
                  rw [show 2 * i = p from by omega, show p + 2 = q from h2]
                  exact HLB.out
                · exact HA.out i (by omega))
              go_wp2_with fail
              go_quiet (fail)
              go_wp2_with fail
              go_roundw
              case rel => exact ⟨j + 1, by omega, by have := HQ.out; omega, by rw [show 2 * (j + 1) = q + 2 from by have := HQ.out; omega]; go_num, HA2, hE.drewN _⟩
              case measure => simp [intOf]; omega
            | false =>
              have HEE3 : Hid (E = 16) := Lib.hid (by
                rw [HEE2.out, if_neg]
                intro h
                have h1 := HPJ.out.1
                have h2 := HPJ.out.2
                have := orderB_true.1 h (j - 1) (by have := HQ.out; rw [← HN.out]; omega)
                rw [show 2 * (j - 1) = p from by omega, show p + 2 = q from h2, HLB.out] at this
                cases this)
              go_wp2_with fail
              go_quiet (fail)
              go_wp2_with fail
              go_ret
              exact ⟨by rw [HEE3.out]; rfl, hP1.pure (hE.drewN _)⟩
          · have hki : ¬ (q : Int) < (n : Int) := by omega
            have HEE3 : Hid (E = 0) := Lib.hid (by
              rw [HEE2.out, if_pos]
              exact orderB_true.2 (fun i hi => HA.out i (by have := HQ.out; rw [← HN.out] at hi; omega)))
            go_wp2_with fail
            go_ret
            exact ⟨by rw [HEE3.out]; rfl, hP1.pure hE⟩
end Go.Proofs.Ytnpiemcfbnpfdaa
