import Derived.Test.YtipmbcalnnomjaaGreatCmpTu
import Derived.Maps.OwnOps
import Derived.Maps.Views
import Derived.Test.YtipmbcalnnomjaaGreatRegListTu
import Derived.Test.YtipmbcalnnomjaaGreatSqTu
set_option linter.unusedVariables false
set_option linter.unusedSimpArgs false
set_option maxRecDepth 100000
namespace Go.Proofs.YtipmbcalnnomjaaGreat
open Go.RowKit
mutual
def V.nums : V → List Int
 | .mk _ n _ l => n :: numsL l
def numsL : List V → List Int
 | [] => []
 | v :: l => v.nums ++ numsL l
end
theorem nums_eq (v : V) : v.nums = v.n :: numsL v.l := by cases v; rw [V.nums]; rfl
theorem nums_mem {l : List V} {v : V} (h : v ∈ l) : ∀ x ∈ v.nums, x ∈ numsL l := by
 induction l with
 | nil => cases h
 | cons u l ih =>
   intro x hx
   rw [numsL, List.mem_append]
   rcases List.mem_cons.1 h with rfl | h
   ·exact Or.inl hx
   ·exact Or.inr (ih h x hx)
mutual
theorem V.nums_len : ∀ v : V, v.nums.length = v.size
 | .mk k n s l => by
   have := numsL_len l
   simp only [V.nums, V.size, List.length_cons]; omega
theorem numsL_len : ∀ l : List V, (numsL l).length = sizeL l
 | [] => by simp [numsL, sizeL]
 | v :: l => by
   have := V.nums_len v
   have := numsL_len l
   rw [numsL, sizeL, List.length_append]; omega
end
def InL (L : List Int) (v : V) : Prop := ∀ x ∈ v.nums, x ∈ L
theorem InL.down {L : List Int} {v u : V} (h : InL L v) (hu : u ∈ v.l) : InL L u := fun x hx => h x (by rw [nums_eq]; exact List.mem_cons_of_mem _ (nums_mem hu x hx))
theorem InL.n {L : List Int} {v : V} (h : InL L v) : v.n ∈ L := h _ (by rw [nums_eq]; exact List.mem_cons_self)
theorem nodup_len : ∀ (S L : List Int), S.Nodup → (∀ x ∈ S, x ∈ L) → S.length ≤ L.length
 | [], _, _, _ => Nat.zero_le _
 | x :: S, L, hn, hs => by
   obtain ⟨h1, h2⟩ := List.nodup_cons.1 hn
   have hx := hs x List.mem_cons_self
   have := nodup_len S (L.erase x) h2 (fun y hy => (List.mem_erase_of_ne (by rintro rfl; exact h1 hy)).2 (hs y (List.mem_cons_of_mem _ hy)))
   rw [List.length_erase_of_mem hx] at this
   have := List.length_pos_of_mem hx
   rw [List.length_cons]; omega
mutual
def V.more : V → List Int → List Int
 | .mk k n _ l, S => if k = 8 ∧ S.contains n = false then S ++ [n] else if (k == 6 || k == 7) = true then moreL l S else S
def moreL : List V → List Int → List Int
 | [], S => S
 | v :: l, S => moreL l (v.more S)
end
theorem more_eq (v : V) (S : List Int) : v.more S = if v.kind = 8 ∧ S.contains v.n = false then S ++ [v.n] else if v.holds = true then moreL v.l S else S := by cases v; rw [V.more]; rfl
mutual
theorem V.more_len : ∀ (v : V) (S : List Int), (v.more S).length ≤ S.length + v.size
 | .mk k n s l, S => by
   have := moreL_len l S
   rw [V.more, V.size]
   split
   ·rw [List.length_append]; simp
   ·split
    ·omega
    ·omega
theorem moreL_len : ∀ (l : List V) (S : List Int), (moreL l S).length ≤ S.length + sizeL l
 | [], S => by rw [moreL]; omega
 | v :: l, S => by
   have := V.more_len v S
   have := moreL_len l (v.more S)
   rw [moreL, sizeL]; omega
end
def seeF (S : List Int) (v : V) : List Int × Bool := (if v.kind = 8 ∧ S.contains v.n = false then S ++ [v.n] else S, true)
mutual
theorem V.walk_more : ∀ (v : V) (S : List Int), v.walk seeF S = (v.more S, true)
 | .mk k n s l, S => by
   have ih := fun T => walkL_more l T
   rw [walk_eq, more_eq, if_pos (show (seeF S (V.mk k n s l)).2 = true from rfl)]
   by_cases h : (V.mk k n s l).kind = 8 ∧ S.contains (V.mk k n s l).n = false
   ·have hh : (V.mk k n s l).holds = false := by simp [V.holds, h.1]
    rw [hh, if_neg (by simp), if_pos h]
    simp only [seeF]
    rw [if_pos h]
   ·have e : (seeF S (V.mk k n s l)).1 = S := by simp only [seeF]; rw [if_neg h]
    rw [e, if_neg h]
    split
    ·exact ih S
    ·rfl
theorem walkL_more : ∀ (l : List V) (S : List Int), walkL seeF l S = (moreL l S, true)
 | [], S => by rw [walkL, moreL]
 | v :: l, S => by
   rw [walkL, moreL, V.walk_more v S, if_pos rfl]
   exact walkL_more l (v.more S)
end
def intsV (to : List Int) : List Value := to.map (fun x => Value.int .i64 x)
theorem intsV_len (S : List Int) : (intsV S).length = S.length := by rw [intsV, List.length_map]
theorem intsV_snoc (S : List Int) (x : Int) : intsV (S ++ [x]) = intsV S ++ [.int .i64 x] := by simp [intsV]
theorem intsV_get {S : List Int} {k : Nat} (h : k < S.length) : (intsV S)[k]? = some (.int .i64 S[k]) := by rw [intsV, List.getElem?_map, List.getElem?_eq_getElem h]; rfl
theorem infoI : (Tryz.prog.info? 3).map (fun i => (i.zero, i.size, i.bytes)) = some (some (.int .i64 0), 1, 8) := by kernel_rfl
theorem own_map_ext {H : Type} {P : Program} {k : TypeId} {R : Value → Option (DataW H × List MemPlace)} {b n : Nat} {D : DataW H} {S : Nat → Prop} {w w' : World} (h : w.ownsMap P k R b n D) (e : Ext S w w') (hn : ¬ S b) : w'.ownsMap P k R b n D := by
 have hlt := h.lt
 obtain ⟨es, clock, hb, F, hs, hD⟩ := h
 exact ⟨es, clock, (e.block b hlt hn).trans hb, F, hs, hD⟩
structure WalkerOk {Γ σ : Type} (ok : V → Prop) (view : Γ → σ) (S : Γ → Nat → Prop) (I : Γ → World → Prop) (f : σ → V → σ × Bool) (g : Nat) (caps : Array Value) (w0 : World) : Prop where
 down : ∀ v u, ok v → u ∈ v.l → ok u
 goes : ∀ args w, (callFunc g args).run Tryz.prog w = .ok (.enter g args) w
 base : ∀ γ W, I γ W → Pure w0 W
 below : ∀ γ W k, I γ W → S γ k → k < W.heap.size
 keep : ∀ γ W W', I γ W → Pure W W' → I γ W'
 see : ∀ d v cs γ W, Lies w0 (d + 1) v cs → v.size ≤ 100000 → ok v → I γ W → Calls Tryz.prog g (#[.agg cs.toArray] ++ caps) W (fun e W' => ∃ γ', e = .returned (.bool (f (view γ) v).2) ∧ view γ' = (f (view γ) v).1 ∧ Step S I γ W γ' W')
theorem WalkerOk.pure {Γ σ : Type} {ok : V → Prop} {view : Γ → σ} {S : Γ → Nat → Prop} {I : Γ → World → Prop} {f : σ → V → σ × Bool} {g : Nat} {caps : Array Value} {w0 : World} (h : WalkerOk ok view S I f g caps w0) {γ : Γ} {W W' : World} (hI : I γ W) (hP : Pure W W') : Step S I γ W γ W' :=
 ⟨hP.mono (fun _ _ e => e.elim), h.keep _ _ _ hI hP, fun k hs => Or.inl hs⟩
set_option maxHeartbeats 1000000 in
theorem walk_ok {Γ σ : Type} {ok : V → Prop} {view : Γ → σ} {S : Γ → Nat → Prop} {I : Γ → World → Prop} {f : σ → V → σ × Bool} {g : Nat} {caps : Array Value} {w0 : World} (hWk : Hid (WalkerOk ok view S I f g caps w0)) (hg : ∀ args w, (callFunc g args).run Tryz.prog w = .ok (.enter g args) w) : ∀ (d : Nat) (v : V) (cs : List Value) (γ : Γ) (w : World), Lies w0 d v cs → v.size ≤ 100000 → ok v → I γ w →
 Calls Tryz.prog 93 #[.agg cs.toArray, .func (.func g) #[] caps] w (WalkTo view S I (v.walk f (view γ)) γ w)
 | 0, _, _, _, _, h, _, _, _ => h.elim
 | d + 1, v, cs, γ, w, h, hsz, hok, hI => by
   have IH := walk_ok hWk hg d
   have hL0 := h
   obtain ⟨w1, hw1⟩ : ∃ w1, w1 = w.alloc (.cells cs.toArray 48) := ⟨_, rfl⟩
   have hBx : BlockIs w1 w.heap.size cs 48 := hw1 ▸ BlockIs.new w _ _
   have hP1 : Pure w w1 := hw1 ▸ ext_alloc w _
   have hst0 := hWk.out.pure hI hP1
   have hSee := qh (hWk.out.see d v cs γ w1 h hsz hok hst0.inv)
   have hbel := hWk.out.below _ _ w.heap.size hI
   obtain ⟨tb, htb⟩ : ∃ tb, tb = w.heap.size := ⟨_, rfl⟩
   rw [← htb] at hBx hbel
   have hns : ¬ S γ tb := fun hs => by have := hbel hs; omega
   have htb1 : tb < w1.heap.size := hBx.lt
   have he := walk_eq f v (view γ)
   obtain ⟨R, hR⟩ : ∃ R, R = v.walk f (view γ) := ⟨_, rfl⟩
   rw [← hR] at he ⊢
   have h4 := h.len
   have HRg := hBx.range
   have HTb := qh htb
   have HW1 := qh hw1
   have HE := qh he
   have HI := qh IH
   have HL0 := qh hL0
   have HSt0 := qh hst0
   have HNs := qh hns
   have HSz := qh hsz
   have HOk := qh hok
   clear hR he IH hL0 h hst0 hns hbel hw1 htb htb1 hsz hok hI hP1
   go_enter Tryz.func93, Tryz.ntmps93
   go_wp2_with (refine wpList_load_mid rfl 48 (.tmp 2) rfl tb 0 (by rw [HTb.out]; rfl) cs _ (by rw [← HW1.out]; exact HRg) Tryz.underlying48 rfl (by rw [h4]; kernel_rfl) ?_)
   rw [← HW1.out, ← HTb.out]
   refine hSee.out.mono ?_
   rintro e w2 ⟨γ2, rfl, hv2, hst2⟩
   have hst := HSt0.out.trans hst2
   have hB2 := hBx.ext hst2.ext HNs.out
   have HF := qh hv2
   have HSt := qh hst
   clear hSee hv2 hst hst2 hBx HRg HNs HSt0
   obtain ⟨B, hB⟩ : ∃ B, B = (f (view γ) v).2 := ⟨_, rfl⟩
   rw [← hB]
   have HE1 : Hid (R = if B = true then (if v.holds = true then walkL f v.l (view γ2) else (view γ2, true)) else (view γ2, false)) := qh (by rw [HE.out, hB, HF.out])
   clear hB HE HF
   obtain ⟨a, c, rows, rfl, hlc, hcm, hnil, hK, hs⟩ := HL0.out.kids
   have hho := holds_iff (v := v)
   obtain ⟨n, hn⟩ : ∃ n, n = v.l.length := ⟨_, rfl⟩
   obtain ⟨l, hl⟩ : ∃ l, l = v.l := ⟨_, rfl⟩
   have HDn : Hid (∀ u ∈ l, ok u) := qh (fun u hu => hWk.out.down v u HOk.out (hl ▸ hu))
   have hszl : sizeL l ≤ 100000 := by have := size_eq v; rw [hl]; have := HSz.out; omega
   have hlen : n ≤ sizeL l := by
    rw [hn, ← hl]
    clear HE1 HDn hK hn hl hszl
    induction l with
    | nil => simp [sizeL]
    | cons u l ih => rw [sizeL, List.length_cons]; have := size_eq u; omega
   rw [← hl] at HE1 hn hK
   rw [← hl, ← hn] at hlc hB2
   obtain ⟨H, hH⟩ : ∃ H, H = v.holds := ⟨_, rfl⟩
   rw [← hH] at HE1 hho
   generalize v.kind = k at *
   have HN := qh hn
   have HSl := qh hszl
   have hn1 : n ≤ 100000 := by omega
   clear hn hl hH hszl hlen HL0 HSz HOk hs
   cases B with
   | false =>
     have HR : Hid (R = (view γ2, false)) := qh (by rw [HE1.out]; rfl)
     clear HE1 HI hho hK
     go_wp2_with fail
     go_ret
     exact ⟨γ2, by rw [HR.out]; rfl, by rw [HR.out], HSt.out⟩
   | true =>
     cases H with
     | false =>
       have HR : Hid (R = (view γ2, true)) := qh (by rw [HE1.out]; rfl)
       have h67 : ¬ (k = 6 ∨ k = 7) := fun e => by have := hho.2 e; cases this
       have h6 : (k != 6) = true := by simp; exact fun e => h67 (Or.inl e)
       have h7 : (k != 7) = true := by simp; exact fun e => h67 (Or.inr e)
       have c0 : w2.cell? ⟨tb, 0, none⟩ = some (.int .i64 k) := hB2.cell 0
       clear HE1 HI hho hK h67
       go_wp2_with fail
       go_ret
       exact ⟨γ2, by rw [HR.out]; rfl, by rw [HR.out], HSt.out⟩
     | true =>
       have HR : Hid (R = walkL f l (view γ2)) := qh (by rw [HE1.out]; rfl)
       have h67 := hho.1 rfl
       have c0 : w2.cell? ⟨tb, 0, none⟩ = some (.int .i64 k) := hB2.cell 0
       have c3 : w2.cell? ⟨tb, 3, none⟩ = some (.slice a n c) := hB2.cell 3
       clear HE1 hho
       rcases h67 with rfl | rfl
       all_goals
        go_wp2_with fail
        go_loopw [6, 22] (fun _ i W => ∃ (k : Nat) (γk : Γ), k ≤ n ∧ i = .int .i64 k ∧ walkL f (l.take k) (view γ2) = (view γk, true) ∧ Step S I γ w γk W) (fun _ i _ => n - (intOf i).toNat)
        case atStart => exact ⟨0, γ2, Nat.zero_le _, rfl, by rw [List.take_zero, walkL], HSt.out⟩
        case round =>
         obtain ⟨k, γk, hk, rfl, hwk, hStk⟩ := hrel
         by_cases hlt : k < n
         ·have hki : (k : Int) < (n : Int) := by omega
          obtain ⟨u, hu⟩ : ∃ u, l[k]? = some u := ⟨_, List.getElem?_eq_getElem (by rw [← HN.out]; exact hlt)⟩
          have hP0 := hWk.out.base _ _ hStk.inv
          obtain ⟨b, o, r, rfl, hr0, hr4, hL⟩ := hK.at k u hu
          have hr : wr.rangeAt b (o + k * 4) r := fun j v hv => hP0.cell_some (hr0 j v hv) id
          have hus : u.size ≤ 100000 := Nat.le_trans (size_mem (List.mem_of_getElem? hu)) HSl.out
          have hwk1 : walkL f (l.take (k + 1)) (view γ2) = u.walk f (view γk) := by
           obtain ⟨hkl, rfl⟩ := List.getElem?_eq_some_iff.1 hu
           rw [List.take_succ_eq_append_getElem hkl, walkL_snoc, hwk, if_pos rfl]
          obtain ⟨hth, hB3, hP2⟩ := put_new (W := wr) _ rfl (d := d) (v := u) (cs := r) (by exact hL.pure hP0)
          have hone := hL.one
          obtain ⟨w3, hw3⟩ : ∃ z, z = (wr.alloc (.cells zeroCs.toArray 48)).setCells wr.heap.size 0 r := ⟨_, rfl⟩
          rw [← hw3] at hB3 hP2
          have hR3 := hB3.range
          have hSt3 := hStk.trans (hWk.out.pure hStk.inv hP2)
          obtain ⟨F, hF⟩ : ∃ F, F = u.walk f (view γk) := ⟨_, rfl⟩
          have HC0 := HI.out u r γk w3 hL hus (HDn.out u (List.mem_of_getElem? hu)) hSt3.inv
          rw [← hF] at HC0 hwk1
          have HC := qh HC0
          have HW3 := qh hw3
          have HOne := qh hone
          have hsr : r.toArray.size = 4 := by rw [List.size_toArray]; exact hr4
          have HTh := qh (show (wr.alloc (.cells #[.int .i64 0, .int .i64 0, .string ⟨#[]⟩, .slice none 0 0] 48)).there wr.heap.size 0 r.toArray.size by rw [hsr]; exact hth)
          have HSi : Hid ((Tryz.prog.info? 48).map (·.size) = some r.toArray.size) := qh (by rw [hsr]; kernel_rfl)
          have HR4 := qh hr4
          have HK1 := qh hwk1
          have HS3 := qh hSt3
          clear hu hL HC0 hF hus hw3 hone hth hr4 hB3 hsr hr0 hP0 hwk hwk1 hStk hSt3 hP2 hK HI
          go_wp2_with (first
           | (refine wpList_load_mid rfl 48 (.tmp 24) rfl b (o + k * 4) rfl r _ hr Tryz.underlying48 rfl (by rw [HR4.out]; kernel_rfl) ?_)
           | (refine wpList_store_mid rfl 48 (.tmp 6) (.tmp 25) rfl wr.heap.size 0 r.toArray rfl rfl HTh.out HSi.out HOne.out ?_; rw [show (wr.alloc (.cells #[.int .i64 0, .int .i64 0, .string ⟨#[]⟩, .slice none 0 0] 48)).setCells wr.heap.size 0 r.toArray.toList = w3 from HW3.out.symm])
           | (refine wpList_load_mid rfl 48 (.tmp 6) rfl wr.heap.size 0 rfl r _ hR3 Tryz.underlying48 rfl (by rw [HR4.out]; kernel_rfl) ?_))
          refine HC.out.mono ?_
          rintro e w4 ⟨γ4, rfl, hv4, hst4⟩
          clear HC
          have hSt4 := HS3.out.trans hst4
          obtain ⟨F1, F2⟩ := F
          cases F2 with
          | true =>
            go_wp2_with fail
            go_roundw
            case rel => exact ⟨k + 1, γ4, by omega, by go_num, by rw [HK1.out, hv4], hSt4⟩
            case measure => simp [intOf]; omega
          | false =>
            have HB2 : Hid (R = (view γ4, false)) := qh (by
             rw [HR.out, ← List.take_append_drop (k + 1) l, walkL_stop _ _ _ _ (by rw [HK1.out]), HK1.out, hv4])
            go_wp2_with fail
            go_ret
            exact ⟨γ4, by rw [HB2.out]; rfl, by rw [HB2.out], hSt4⟩
         ·have hki : ¬ (k : Int) < (n : Int) := by omega
          have HB2 : Hid (R = (view γk, true)) := qh (by rw [HR.out, ← hwk, List.take_of_length_le (by rw [← HN.out]; omega)])
          clear hwk HR
          have HS := qh hStk
          clear hStk
          go_wp2_with fail
          go_ret
          exact ⟨γk, by rw [HB2.out]; rfl, by rw [HB2.out], HS.out⟩
end Go.Proofs.YtipmbcalnnomjaaGreat
namespace Go.Proofs.YtipmbcalnnomjaaGreat
open Go.RowKit Go.Maps
structure RefsG where
 S : List Int
 a : Option Addr
 c : Nat
 D : DataW Unit
def RefsS (ts B : Nat) (γ : RefsG) (k : Nat) : Prop := k = ts ∨ k = B ∨ ∃ x, γ.a = some x ∧ x.block = k
structure RefsI (w0 : World) (L : List Int) (tm ts B R : Nat) (γ : RefsG) (W : World) : Prop where
 base : Pure w0 W
 mp : BlockIs W tm [.map (some B)] 161
 sl : BlockIs W ts [.slice γ.a γ.S.length γ.c] 25
 own : W.ownsMap Tryz.prog 3 (plainElem Tryz.prog 4) B γ.S.length γ.D
 row : W.ownsRow R 3 1 (.slice γ.a γ.S.length γ.c) γ.S.length (intsV γ.S)
 is : IsMap γ.D
 look : ∀ x, γ.D.atKey (.int .i64 x) (.lit (.bool false)) = .lit (.bool (γ.S.contains x))
 rs : R ≤ W.heap.size
 nodup : γ.S.Nodup
 sub : ∀ x ∈ γ.S, x ∈ L
def SeeTo (w0 : World) (L : List Int) (tm ts B R : Nat) (F : List Int × Bool) (γ : RefsG) (W : World) (e : Ending) (W' : World) : Prop := ∃ γ', e = .returned (.bool F.2) ∧ γ'.S = F.1 ∧ Step (RefsS ts B) (RefsI w0 L tm ts B R) γ W γ' W'
theorem lawInt : Keyed Tryz.prog 3 := int_keyed Tryz.underlying3
theorem zeroB (w : World) : (zeroValue 4).run Tryz.prog w = .ok (.bool false) w := by kernel_rfl
theorem plainElem_bool_inv {v : Value} {z : DataW Unit × List MemPlace} (h : plainElem Tryz.prog 4 v = some z) : ∃ x, v = .bool x ∧ z = (.lit (.bool x), []) := by
 unfold plainElem at h
 rw [Tryz.underlying4] at h
 cases v <;> simp at h
 exact ⟨_, rfl, h.symm⟩
theorem look_bool {W : World} {B n : Nat} {D : DataW Unit} (h : W.ownsMap Tryz.prog 3 (plainElem Tryz.prog 4) B n D) {x : Int} (hw : (Lit.int .i64 x).wf = true) {y : Bool} (hy : D.atKey (.int .i64 x) (.lit (.bool false)) = .lit (.bool y)) :
 (Instr.lookup 161 (.map (some B)) (.int .i64 x) false).run Tryz.prog W = .ok (.bool y) W := by
 obtain ⟨v, ps, hrun, hv⟩ := h.lookup lawInt Tryz.underlying161 (zeroB W) (plainElem_bool Tryz.underlying4 false) (keyOf_int_mk Tryz.underlying3 hw)
 obtain ⟨z, rfl, hz⟩ := plainElem_bool_inv hv
 rw [hy] at hz
 cases hz
 exact hrun
theorem at_snoc {D : DataW Unit} {S : List Int} (hD : IsMap D) (h : ∀ x, D.atKey (.int .i64 x) (.lit (.bool false)) = .lit (.bool (S.contains x))) (y : Int) :
 ∀ x, (D.put (.int .i64 y) (.lit (.bool true))).atKey (.int .i64 x) (.lit (.bool false)) = .lit (.bool ((S ++ [y]).contains x)) := by
 intro x
 by_cases e : x = y
 ·subst e
  rw [atKey_put_same hD (k := .int .i64 x) trivial]
  simp
 ·rw [atKey_put_other (fun e' => e (by cases e'; rfl)), h]
  congr 2
  simp [e]
set_option maxHeartbeats 2000000 in
theorem see_any {w0 : World} {L : List Int} {tm ts B R : Nat} (hL : ∀ x ∈ L, (Lit.int .i64 x).wf = true) (hl : L.length ≤ 100000) (hts : w0.heap.size ≤ ts) (hBs : w0.heap.size ≤ B) (htm : w0.heap.size ≤ tm) (hne : tm ≠ ts ∧ tm ≠ B ∧ ts ≠ B) (htR : tm < R) (hsR : ts < R) (hBR : B < R) (d : Nat) (v : V) (cs : List Value) (γ : RefsG) (W : World) (h : Lies w0 (d + 1) v cs) (hok : InL L v) (hI : RefsI w0 L tm ts B R γ W) :
 Calls Tryz.prog 94 #[.agg cs.toArray, .pointer (some ⟨tm, 0, none⟩), .pointer (some ⟨ts, 0, none⟩)] W (SeeTo w0 L tm ts B R (seeF γ.S v) γ W) := by
 obtain ⟨a, c, rows, rfl, hlc, hcm, hnil, hK, hs⟩ := h.kids
 have hnL := hok.n
 have hwf := hL _ hnL
 have hSl : γ.S.length ≤ 100000 := Nat.le_trans (nodup_len _ _ hI.nodup hI.sub) hl
 obtain ⟨k, hk⟩ : ∃ z, z = v.kind := ⟨_, rfl⟩
 obtain ⟨x, hx⟩ : ∃ z, z = v.n := ⟨_, rfl⟩
 have hsee : seeF γ.S v = (if k = 8 ∧ γ.S.contains x = false then γ.S ++ [x] else γ.S, true) := by rw [hk, hx]; rfl
 rw [hsee]
 rw [← hx] at hnL hwf
 rw [← hk, ← hx]
 generalize v.s = s at *
 generalize v.l.length = n at *
 clear hsee hk hx hK hlc h hok hL
 obtain ⟨w1, hw1⟩ : ∃ z, z = W.alloc (.cells #[.int .i64 k, .int .i64 x, .string s, .slice a n c] 48) := ⟨_, rfl⟩
 have hP1 : Pure W w1 := hw1 ▸ ext_alloc W _
 have HB1 : Hid (BlockIs w1 W.heap.size [.int .i64 k, .int .i64 x, .string s, .slice a n c] 48) := qh (hw1 ▸ BlockIs.new W _ _)
 have hBW : B < W.heap.size := hI.own.lt
 have hst : Step (RefsS ts B) (RefsI w0 L tm ts B R) γ W γ w1 := ⟨hP1.mono (fun _ _ e => e.elim), ⟨hI.base.pure hP1, hI.mp.ext hP1 id, hI.sl.ext hP1 id, own_map_ext hI.own hP1 id, own_ext hI.row hP1 (fun _ _ => id), hI.is, hI.look, Nat.le_trans hI.rs hP1.size, hI.nodup, hI.sub⟩, fun _ h => Or.inl h⟩
 by_cases h8 : k = 8
 ·subst h8
  have h1 := hst.inv
  have cm : w1.cell? ⟨tm, 0, none⟩ = some (.map (some B)) := h1.mp.cell 0
  obtain ⟨y, hy⟩ : ∃ z, z = γ.S.contains x := ⟨_, rfl⟩
  have hrun := look_bool h1.own hwf (by rw [h1.look x, ← hy])
  rw [← hy]
  rw [hw1] at cm hrun
  have HY := qh hy
  have HW1 := qh hw1
  have HSt := qh hst
  have HI := qh h1
  clear hy h1 hst hI hP1 hw1
  cases y with
  | true =>
    go_enter Tryz.func94, Tryz.ntmps94
    go_wp2_with fail
    go_ret
    refine ⟨γ, rfl, rfl, ?_⟩
    rw [← HW1.out]
    exact HSt.out
  | false =>
    obtain ⟨S, aS, cS, D⟩ := γ
    simp only at HY HSt HI hSl ⊢
    obtain ⟨m, hm⟩ : ∃ z, z = S.length := ⟨_, rfl⟩
    have HM := qh hm
    rw [← hm] at hSl
    clear hm
    have HOw : Hid (w1.ownsMap Tryz.prog 3 (plainElem Tryz.prog 4) B m D) := qh (by rw [HM.out]; exact HI.out.own)
    have HRw : Hid (w1.ownsRow R 3 1 (.slice aS m cS) m (intsV S)) := qh (by rw [HM.out]; exact HI.out.row)
    have HSl : Hid (BlockIs w1 ts [.slice aS m cS] 25) := qh (by rw [HM.out]; exact HI.out.sl)
    have hRB := HI.out.rs
    go_enter Tryz.func94, Tryz.ntmps94
    have hBt : B ≠ ts := fun e => hne.2.2 e.symm
    go_wp2_with (first
     | (at_mapUpdate; rw [← HW1.out]; refine wpList_mapUpdate_own _ rfl (.tmp 15) (.tmp 17) (.const (.bool true)) 161 rfl 3 4 lawInt Tryz.underlying161 _ B m D rfl HOw.out (by unfold maxLen; omega) _ _ _ rfl rfl (keyOf_int_mk Tryz.underlying3 hwf) _ [] (plainElem_bool Tryz.underlying4 true) ?_; intro w2 hO2 hg2; have hS2 : BlockIs w2 ts [.slice aS m cS] 25 := HSl.out.ext (ext_of_grown hg2) (fun e => hBt (Option.some.inj e)); have cX2 : w2.cell? ⟨W.heap.size, 1, none⟩ = some (.int .i64 x) := (HB1.out.ext (ext_of_grown hg2) (fun e => by have := Option.some.inj e; omega)).cell 1; have cS2 : w2.cell? ⟨ts, 0, none⟩ = some (.slice aS m cS) := hS2.cell 0; have hR2 : w2.ownsRow R 3 1 (.slice aS m cS) m (intsV S) := own_ext HRw.out (ext_of_grown hg2) (fun g hg e => by have := (HRw.out.lt g hg).1; have := Option.some.inj e; omega); have hz2 := hg2.size; have hRs2 : R ≤ w2.heap.size := by omega)
     | (at_builtin; refine wpList_append_fresh rfl (.tmp 18) (.tmp 21) 25 rfl R 3 (.int .i64 0) 1 8 Tryz.underlying25 infoI rfl (by decide) (.slice aS m cS) m (intsV S) rfl (hR2.alloc _) (some ⟨w2.heap.size, 0, none⟩) 1 1 [.int .i64 x] rfl (fun e => by cases e) rfl (row_at _ rfl rfl) (fun u hu => by simp at hu; subst hu; rfl) (m + 1) rfl (intsV S ++ [.int .i64 x]) rfl (by omega) (by unfold maxLen; omega) (by simp; omega) ?_; intro a3 c3 w3 hO3 hg3 hf3; have hS3 : BlockIs w3 ts [.slice aS m cS] 25 := (hS2.alloc _).ext (ext_of_grown hg3) (fun e => by have := (hR2.lt ts e).1; omega); have cS3 : w3.cell? ⟨ts, 0, none⟩ = some (.slice aS m cS) := hS3.cell 0; have fS3 : w3.frozen? ⟨ts, 0, none⟩ = false := hS3.free 0))
    go_ret
    have hM2 : BlockIs w2 tm [.map (some B)] 161 := HI.out.mp.ext (ext_of_grown hg2) (fun e => hne.2.1 (Option.some.inj e).symm)
    have hM3 := (hM2.alloc (.cells #[.int .i64 x] 3)).ext (ext_of_grown hg3) (fun e => by have := (hR2.lt tm e).1; omega)
    have hO3m := own_map_ext (own_map_ext hO2 (ext_alloc w2 (.cells #[.int .i64 x] 3)) id) (ext_of_grown hg3) (fun e => by have := (hR2.lt B e).1; omega)
    have hX4 : Ext (fun k => k = ts) w3 (w3.setCell ⟨ts, 0, none⟩ (.slice a3 (m + 1) c3)) := Ext.setCell (S := fun k => k = ts) (Ext.refl _ _) (p := ⟨ts, 0, none⟩) (fun _ => rfl) _
    have hXa : Ext (RefsS ts B ⟨S, aS, cS, D⟩) w1 w2 := (ext_of_grown hg2).mono (fun i _ e => Or.inr (Or.inl (Option.some.inj e).symm))
    have hXb : Ext (RefsS ts B ⟨S, aS, cS, D⟩) w1 w3 := (hXa.pure (ext_alloc w2 (.cells #[.int .i64 x] 3))).trans (ext_of_grown hg3) (fun i _ e => by
     cases aS with
     | none => cases e
     | some y => exact Or.inr (Or.inr ⟨y, rfl, Option.some.inj e⟩))
    have hXc := hXb.trans hX4 (fun i _ e => Or.inl e)
    have hXW := HSt.out.ext.trans hXc (fun i _ e => e)
    have hE : S.length + 1 = (S ++ [x]).length := by simp
    have hm1 : m + 1 = (S ++ [x]).length := by rw [← hE, HM.out]
    refine ⟨⟨S ++ [x], a3, c3, D.put (.int .i64 x) (.lit (.bool true))⟩, rfl, rfl, hXW, ⟨HI.out.base.trans hXc (fun i hi e => ?_), hM3.ext hX4 hne.1, ?_, ?_, ?_, HI.out.is.put _ _, at_snoc HI.out.is HI.out.look x, ?_, ?_, ?_⟩, ?_⟩
    ·rcases e with e | e | ⟨y, hy, e⟩
     ·omega
     ·omega
     ·have := (HRw.out.lt y.block (by simp only at hy; rw [hy]; rfl)).1
      omega
    ·rw [← hm1]; exact hS3.set 0 _
    ·rw [← hm1]; exact own_map_ext hO3m hX4 hBt
    ·rw [← hm1, intsV_snoc]; exact own_ext hO3 hX4 (fun g hg e => by have := (hO3.lt g hg).1; omega)
    ·have h3 := hg3.size
     have h4 := hX4.size
     rw [World.size_alloc] at h3
     omega
    ·rw [List.nodup_append]
     refine ⟨HI.out.nodup, by simp, fun y hy z hz e => ?_⟩
     simp at hz
     subst hz e
     have hc := HY.out
     simp at hc
     exact hc hy
    ·intro y hy
     rcases List.mem_append.1 hy with hy | hy
     ·exact HI.out.sub y hy
     ·simp at hy; rw [hy]; exact hnL
    ·intro g hg
     rcases hg with hg | hg | ⟨y, hy, hg⟩
     ·exact Or.inl (Or.inl hg)
     ·exact Or.inl (Or.inr (Or.inl hg))
     ·rcases hf3 y hy with h | h
      ·cases aS with
       | none => cases h
       | some z => exact Or.inl (Or.inr (Or.inr ⟨z, rfl, (Option.some.inj h).trans hg⟩))
      ·refine Or.inr ?_
       have h1 : W.heap.size ≤ w1.heap.size := by rw [HW1.out, World.size_alloc]; omega
       rw [World.size_alloc] at h
       omega
 ·have h8' : (k == 8) = false := by simpa using h8
  have HSt := qh hst
  have HW1 := qh hw1
  clear hst hI hP1 hw1
  go_enter Tryz.func94, Tryz.ntmps94
  go_wp2_with fail
  go_ret
  refine ⟨γ, rfl, by first | rfl | rw [if_neg (by simp [h8])], ?_⟩
  rw [← HW1.out]
  exact HSt.out
end Go.Proofs.YtipmbcalnnomjaaGreat
namespace Go.Proofs.YtipmbcalnnomjaaGreat
open Go.RowKit
def NumsTo (S : List Int) (w : World) (e : Ending) (w' : World) : Prop :=
 ∃ a c, e = .returned (.slice a S.length c) ∧ S.length ≤ c ∧ c ≤ maxLen ∧ (a = none → c = 0) ∧ RowOf w' a (intsV S) ∧ Pure w w'
theorem nums_own {w w' : World} {R n c : Nat} {a : Option Addr} {M : List Int} {xs : List Value} (h : w'.ownsRow R 3 1 (.slice a n c) n xs) (hM : intsV M = xs) (hn : M.length = n) (hP : Pure w w') : NumsTo M w (.returned (.slice a n c)) w' := by
 subst hM hn
 obtain ⟨a', c', he, h1, h2, h3, _⟩ := own_form h
 cases he
 exact ⟨a, c, rfl, h1, h2, h3, own_row h, hP⟩
end Go.Proofs.YtipmbcalnnomjaaGreat
namespace Go.Proofs.YtipmbcalnnomjaaGreat
open Go.RowKit Go.Maps
theorem see_walker {w0 : World} {L : List Int} {tm ts B R : Nat} (hL : ∀ x ∈ L, (Lit.int .i64 x).wf = true) (hl : L.length ≤ 100000) (hts : w0.heap.size ≤ ts) (hBs : w0.heap.size ≤ B) (htm : w0.heap.size ≤ tm) (hne : tm ≠ ts ∧ tm ≠ B ∧ ts ≠ B) (htR : tm < R) (hsR : ts < R) (hBR : B < R) :
 WalkerOk (InL L) RefsG.S (RefsS ts B) (RefsI w0 L tm ts B R) seeF 94 #[.pointer (some ⟨tm, 0, none⟩), .pointer (some ⟨ts, 0, none⟩)] w0 where
 goes := fun args w => by rfl
 down := fun v u h hu => h.down hu
 base := fun γ W h => h.base
 below := fun γ W k h hk => by
  have hr := h.rs
  rcases hk with hk | hk | ⟨x, hx, hk⟩
  ·omega
  ·omega
  ·have := (h.row.lt x.block (by rw [hx]; rfl)).2
   omega
 keep := fun γ W W' h hP => ⟨h.base.pure hP, h.mp.ext hP id, h.sl.ext hP id, own_map_ext h.own hP id, own_ext h.row hP (fun _ _ => id), h.is, h.look, Nat.le_trans h.rs hP.size, h.nodup, h.sub⟩
 see := fun d v cs γ W hL0 hs hok hI => see_any hL hl hts hBs htm hne htR hsR hBR d v cs γ W hL0 hok hI
set_option maxHeartbeats 2000000 in
theorem refs_any (d : Nat) (v : V) (cs : List Value) (w : World) (h : Lies w d v cs) (hsz : v.size ≤ 100000) (hwf : ∀ x ∈ v.nums, (Lit.int .i64 x).wf = true) :
 Calls Tryz.prog 61 #[.agg cs.toArray] w (NumsTo (v.more []) w) := by
 have h4 := h.len
 have hmm := @run_makeMap Tryz.prog
 obtain ⟨w1, hw1⟩ : ∃ z, z = w.alloc (.cells cs.toArray 48) := ⟨_, rfl⟩
 obtain ⟨w2, hw2⟩ : ∃ z, z = w1.alloc (.cells #[.slice none 0 0] 25) := ⟨_, rfl⟩
 obtain ⟨w3, hw3⟩ : ∃ z, z = w2.alloc (.map #[] 0) := ⟨_, rfl⟩
 obtain ⟨w4, hw4⟩ : ∃ z, z = w3.alloc (.cells #[.map (some (w.heap.size + 1 + 1))] 161) := ⟨_, rfl⟩
 have hs1 : w1.heap.size = w.heap.size + 1 := by rw [hw1, World.size_alloc]
 have hs2 : w2.heap.size = w.heap.size + 1 + 1 := by rw [hw2, World.size_alloc, hs1]
 have hs3 : w3.heap.size = w.heap.size + 1 + 1 + 1 := by rw [hw3, World.size_alloc, hs2]
 have hs4 : w4.heap.size = w.heap.size + 1 + 1 + 1 + 1 := by rw [hw4, World.size_alloc, hs3]
 have hP1 : Pure w w1 := hw1 ▸ ext_alloc w _
 have hP2 : Pure w1 w2 := hw2 ▸ ext_alloc w1 _
 have hP3 : Pure w2 w3 := hw3 ▸ ext_alloc w2 _
 have hP4 : Pure w3 w4 := hw4 ▸ ext_alloc w3 _
 have hB1 : BlockIs w1 w.heap.size cs 48 := hw1 ▸ BlockIs.new w _ _
 have hB2 : BlockIs w2 (w.heap.size + 1) [.slice none 0 0] 25 := by rw [← hs1, hw2]; exact BlockIs.new w1 _ _
 have hO3 : w3.ownsMap Tryz.prog 3 (plainElem (H := Unit) Tryz.prog 4) (w.heap.size + 1 + 1) 0 (.map []) := by rw [← hs2, hw3]; exact World.ownsMap_made _ _ _ _
 have hB4 : BlockIs w4 (w.heap.size + 1 + 1 + 1) [.map (some (w.heap.size + 1 + 1))] 161 := by rw [← hs3, hw4]; exact BlockIs.new w3 _ _
 have hP : Pure w w4 := ((hP1.pure hP2).pure hP3).pure hP4
 have hI : RefsI w v.nums (w.heap.size + 1 + 1 + 1) (w.heap.size + 1) (w.heap.size + 1 + 1) (w.heap.size + 1 + 1 + 1 + 1) ⟨[], none, 0, .map []⟩ w4 :=
  ⟨hP, hB4, (hB2.ext hP3 id).ext hP4 id, own_map_ext hO3 hP4 id, World.ownsRow_nil _ _ _ _, isMap_empty, fun x => by kernel_rfl, by rw [hs4]; exact Nat.le_refl _, List.nodup_nil, fun x hx => by cases hx⟩
 have hWk := see_walker (w0 := w) (L := v.nums) (tm := w.heap.size + 1 + 1 + 1) (ts := w.heap.size + 1) (B := w.heap.size + 1 + 1) (R := w.heap.size + 1 + 1 + 1 + 1) hwf (by rw [V.nums_len]; exact hsz) (by omega) (by omega) (by omega) ⟨by omega, by omega, by omega⟩ (by omega) (by omega) (by omega)
 have HC := qh (walk_ok (qh hWk) hWk.goes d v cs _ w4 h hsz (fun x hx => hx) hI)
 have HW : Hid ((((w.alloc (.cells cs.toArray 48)).alloc (.cells #[.slice none 0 0] 25)).alloc (.map #[] 0)).alloc (.cells #[.map (some (w.heap.size + 1 + 1))] 161) = w4) := qh (by rw [hw4, hw3, hw2, hw1])
 have hRv : ((((w.alloc (.cells cs.toArray 48)).alloc (.cells #[.slice none 0 0] 25)).alloc (.map #[] 0)).alloc (.cells #[.map (some (w.heap.size + 1 + 1))] 161)).rangeAt w.heap.size 0 cs := by
  rw [HW.out]; exact (((hB1.ext hP2 id).ext hP3 id).ext hP4 id).range
 have HP := qh hP
 clear hw1 hw2 hw3 hw4 hs1 hs2 hs3 hs4 hP1 hP2 hP3 hP4 hB1 hB2 hO3 hB4 hP hI hWk hwf h
 go_enter Tryz.func61, Tryz.ntmps61
 go_wp2_with (refine wpList_load_mid rfl 48 (.tmp 1) rfl w.heap.size 0 rfl cs _ hRv Tryz.underlying48 rfl (by rw [h4]; kernel_rfl) ?_)
 rw [HW.out]
 refine HC.out.mono ?_
 rintro e w5 ⟨γ, rfl, hv, hst⟩
 have hv2 : γ.S = v.more [] := by rw [hv]; exact congrArg Prod.fst (V.walk_more v [])
 have c3 : w5.cell? ⟨w.heap.size + 1, 0, none⟩ = some (.slice γ.a γ.S.length γ.c) := hst.inv.sl.cell 0
 have HRow := qh hst.inv.row
 have HBs := qh hst.inv.base
 have HV := qh hv2
 obtain ⟨n, hn⟩ : ∃ z, z = γ.S.length := ⟨_, rfl⟩
 rw [← hn] at c3
 have HN := qh hn
 clear hv hv2 hst hn HC
 go_wp2_with fail
 go_ret
 exact nums_own (M := v.more []) (by have := HRow.out; rw [← HN.out] at this; exact this) (by rw [HV.out]) (by rw [← HV.out, HN.out]) HBs.out
end Go.Proofs.YtipmbcalnnomjaaGreat
namespace Go.Proofs.YtipmbcalnnomjaaGreat
open Go.RowKit
