/-
  Walked: both Checks.
-/
import Derived.Test.YtiakphjkcpbccaaFirst
namespace Go.Proofs.Ytiakphjkcpbccaa
open Go.RowKit
set_option linter.unusedVariables false

theorem enters {P : Program} {f : FuncId} {fn : Func} {c : Code} (hf : P.funcs[f]? = some fn) (hname : (fn.name == "runtime.NumGoroutine") = false) (hb : fn.body = some c) (args : Array Value) (w : World) : (callFunc f args).run P w = .ok (.enter f args) w := by
  have h1 : fn.name ≠ "runtime.NumGoroutine" := by simpa using hname
  simp [callFunc, go_sem, hf, h1, hb]
/-- which error a value has -/
def V.checkE (v : V) : Int := if v.depth ≤ 64 then v.first else 15
set_option maxHeartbeats 1000000 in
set_option maxRecDepth 100000 in
theorem refcheck_any (d : Nat) (v : V) (cs : List Value) (w : World) (h : Lies w d v cs) (hsz : v.size ≤ 100000) :
    Calls Try.prog 12 #[.agg cs.toArray] w (IntTo v.checkE w) := by
  have h4 := h.len
  have HDe := Lib.hid (fun W (hP : Pure w W) => refdepth_any d v cs W (h.pure hP) hsz)
  have HFi := Lib.hid (fun W (hP : Pure w W) => reffirst_any d v cs W (h.pure hP) hsz)
  obtain ⟨w1, hw1⟩ : ∃ w1, w1 = w.alloc (.cells cs.toArray 24) := ⟨_, rfl⟩
  have hBx : BlockIs w1 w.heap.size cs 24 := hw1 ▸ BlockIs.new w _ _
  have hP1 : Pure w w1 := hw1 ▸ ext_alloc w _
  obtain ⟨tb, htb⟩ : ∃ tb, tb = w.heap.size := ⟨_, rfl⟩
  rw [← htb] at hBx
  have hR := hBx.range
  have HW1 := Lib.hid hw1
  have HTb := Lib.hid htb
  have hds := V.depth_size v
  obtain ⟨D, hD⟩ : ∃ D, D = v.depth := ⟨_, rfl⟩
  obtain ⟨F, hF⟩ : ∃ F, F = v.first := ⟨_, rfl⟩
  obtain ⟨E, hE⟩ : ∃ E, E = v.checkE := ⟨_, rfl⟩
  rw [← hE]
  unfold V.checkE at hE
  rw [← hD, ← hF] at hE
  rw [← hD] at HDe hds
  rw [← hF] at HFi
  have hD1 : D ≤ 100000 := by omega
  have HE := Lib.hid hE
  clear hD hF hE hw1 htb h hsz hds
  go_enter Try.func12, Try.ntmps12
  go_wp2_with (refine wpList_load_mid rfl 24 (.tmp 1) rfl tb 0 (by rw [HTb.out]; rfl) cs _ (by rw [← HW1.out]; exact hR) Try.underlying24 rfl (by rw [h4]; kernel_rfl) ?_)
  rw [← HW1.out, ← HTb.out]
  refine (HDe.out w1 hP1).mono ?_
  rintro e w2 ⟨rfl, hP2⟩
  have hR2 := (hBx.ext hP2 id).range
  by_cases hd : D ≤ 64
  · have hdi : ¬ (64 : Int) < (D : Int) := by omega
    have HB : Hid (E = F) := Lib.hid (by rw [HE.out, if_pos hd])
    clear HE hd
    go_wp2_with (refine wpList_load_mid rfl 24 (.tmp 1) rfl tb 0 rfl cs _ hR2 Try.underlying24 rfl (by rw [h4]; kernel_rfl) ?_)
    refine (HFi.out w2 (hP1.pure hP2)).mono ?_
    rintro e w3 ⟨rfl, hP3⟩
    go_wp2_with fail
    go_ret
    exact ⟨by rw [HB.out]; rfl, (hP1.pure hP2).pure hP3⟩
  · have hdi : (64 : Int) < (D : Int) := by omega
    have HB : Hid (E = 15) := Lib.hid (by rw [HE.out, if_neg hd])
    clear HE hd
    go_wp2_with fail
    go_ret
    exact ⟨by rw [HB.out]; rfl, hP1.pure hP2⟩
/-- the step of the program's Check -/
def ownF (_ : Int) (v : V) : Int × Bool := (ownE v.kind v.n v.s v.l, decide (ownE v.kind v.n v.s v.l = 0))
mutual
theorem V.walk_own : ∀ (v : V) (x : Int), v.walk ownF x = (v.first, decide (v.first = 0))
  | .mk k n s l, x => by
    rw [V.walk, V.first]
    have hL := walkL_own l
    have e : ownF x (.mk k n s l) = (ownE k n s l, decide (ownE k n s l = 0)) := rfl
    rw [e]
    simp only [decide_eq_true_eq]
    by_cases h : ownE k n s l = 0
    · rw [if_pos h, if_pos h]
      by_cases h67 : (k == 6 || k == 7) = true
      · rw [if_pos h67, if_pos h67, h, hL]
      · rw [if_neg h67, if_neg h67, h]; rfl
    · rw [if_neg h, if_neg h]; simp [h]
theorem walkL_own : ∀ (l : List V), walkL ownF l 0 = (firstL l, decide (firstL l = 0))
  | [] => by rw [walkL, firstL]; rfl
  | v :: l => by
    rw [walkL, firstL, V.walk_own v]
    have hL := walkL_own l
    simp only [decide_eq_true_eq]
    by_cases h : v.first = 0
    · rw [if_pos h, if_pos h, h, hL]
    · rw [if_neg h, if_neg h]; simp [h]
end
set_option maxHeartbeats 1000000 in
set_option maxRecDepth 100000 in
theorem check1_any (d : Nat) (v : V) (cs : List Value) (p : Nat) (x : Int) (w : World) (h : Lies w (d + 1) v cs) (hsz : v.size ≤ 100000) (hx : BlockIs w p [.int .i64 x] 26) :
    Calls Try.prog 38 #[.agg cs.toArray, .pointer (some ⟨p, 0, none⟩)] w (fun e W' => e = .returned (.bool (ownF x v).2) ∧ BlockIs W' p [.int .i64 (ownF x v).1] 26 ∧ Ext (fun k => k = p) w W') := by
  have h4 := h.len
  have hszl : sizeL v.l ≤ 100000 := by have := size_eq v; omega
  have hlen : v.l.length ≤ sizeL v.l := length_sizeL _
  have HOw := Lib.hid (fun W (hP : Pure w W) => own_lies W (h.pure hP) (by omega))
  obtain ⟨w1, hw1⟩ : ∃ w1, w1 = w.alloc (.cells cs.toArray 24) := ⟨_, rfl⟩
  have hBx : BlockIs w1 w.heap.size cs 24 := hw1 ▸ BlockIs.new w _ _
  have hP1 : Pure w w1 := hw1 ▸ ext_alloc w _
  have hpb := hx.lt
  have hx1 := hx.ext hP1 id
  obtain ⟨tb, htb⟩ : ∃ tb, tb = w.heap.size := ⟨_, rfl⟩
  rw [← htb] at hBx
  have hne : p ≠ tb := by omega
  have hR := hBx.range
  have HW1 := Lib.hid hw1
  have HTb := Lib.hid htb
  unfold ownF
  obtain ⟨E, hE⟩ : ∃ E, E = ownE v.kind v.n v.s v.l := ⟨_, rfl⟩
  rw [← hE] at HOw ⊢
  clear hE hw1 htb h hsz hszl hlen hx hpb
  go_enter Try.func38, Try.ntmps38
  go_wp2_with (refine wpList_load_mid rfl 24 (.tmp 2) rfl tb 0 (by rw [HTb.out]; rfl) cs _ (by rw [← HW1.out]; exact hR) Try.underlying24 rfl (by rw [h4]; kernel_rfl) ?_)
  rw [← HW1.out, ← HTb.out]
  refine (HOw.out w1 hP1).mono ?_
  rintro e w2 ⟨rfl, hP2⟩
  have hx2 := hx1.ext hP2 id
  have c0 : w2.cell? ⟨p, 0, none⟩ = some (.int .i64 x) := hx2.cell 0
  have f0 : w2.frozen? ⟨p, 0, none⟩ = false := hx2.free 0
  have hx3 := hx2.set 0 (.int .i64 E)
  have hE3 := ((hP1.pure hP2).mono (T := fun k => k = p) (fun _ _ e => e.elim)).setCell (p := ⟨p, 0, none⟩) (fun _ => rfl) (.int .i64 E)
  have HX3 := Lib.hid hx3
  have HE3 := Lib.hid hE3
  clear hx3 hE3 hx2 hx1
  by_cases h0 : E = 0
  · have h0' : (E == 0) = true := by simp [h0]
    have HB : Hid (decide (E = 0) = true) := Lib.hid (by simp [h0])
    go_wp2_with fail
    go_ret
    exact ⟨by rw [HB.out]; rfl, by subst h0; exact HX3.out, by subst h0; exact HE3.out⟩
  · have h0' : (E == 0) = false := by simp [h0]
    have HB : Hid (decide (E = 0) = false) := Lib.hid (by simp [h0])
    go_wp2_with fail
    go_ret
    exact ⟨by rw [HB.out]; rfl, HX3.out, HE3.out⟩
def CheckI (w0 : World) (p : Nat) (x : Int) (W : World) : Prop := Pure w0 W ∧ w0.heap.size ≤ p ∧ BlockIs W p [.int .i64 x] 26
theorem check_walker (w0 : World) (p : Nat) : Walker (fun x : Int => x) (fun _ k => k = p) (CheckI w0 p) ownF 38 #[.pointer (some ⟨p, 0, none⟩)] w0 where
  goes := enters Try.func38 (by decide +kernel) rfl
  base := fun _ _ h => h.1
  below := fun _ _ k h e => e ▸ h.2.2.lt
  keep := fun _ _ _ h hP => ⟨h.1.pure hP, h.2.1, h.2.2.ext hP id⟩
  see := fun d v cs x W hL hs h => by
    refine (check1_any d v cs p x W (hL.pure h.1) hs h.2.2).mono ?_
    rintro e W' ⟨rfl, hb, hE⟩
    exact ⟨(ownF x v).1, rfl, rfl, hE, ⟨h.1.trans hE (fun k hk e => by have := h.2.1; omega), h.2.1, hb⟩, fun k hk => Or.inl hk⟩
set_option maxHeartbeats 1000000 in
set_option maxRecDepth 100000 in
theorem check_any (d : Nat) (v : V) (cs : List Value) (w : World) (h : Lies w d v cs) (hsz : v.size ≤ 100000) :
    Calls Try.prog 11 #[.agg cs.toArray] w (IntTo v.checkE w) := by
  have h4 := h.len
  have HDe := Lib.hid (fun W (hP : Pure w W) => depth_any d v cs W (h.pure hP) hsz)
  have HWa := Lib.hid (fun W p (hI : CheckI w p 0 W) => walk_any (Lib.hid (check_walker w p)) (check_walker w p).goes d v cs 0 W h hsz hI)
  obtain ⟨w1, hw1⟩ : ∃ w1, w1 = w.alloc (.cells cs.toArray 24) := ⟨_, rfl⟩
  have hBx : BlockIs w1 w.heap.size cs 24 := hw1 ▸ BlockIs.new w _ _
  have hP1 : Pure w w1 := hw1 ▸ ext_alloc w _
  have hs0 : w.heap.size ≤ w1.heap.size := hP1.size
  obtain ⟨tb, htb⟩ : ∃ tb, tb = w.heap.size := ⟨_, rfl⟩
  rw [← htb] at hBx
  have hR := hBx.range
  have HW1 := Lib.hid hw1
  have HTb := Lib.hid htb
  have hds := V.depth_size v
  have hwo := V.walk_own v 0
  obtain ⟨D, hD⟩ : ∃ D, D = v.depth := ⟨_, rfl⟩
  obtain ⟨F, hF⟩ : ∃ F, F = v.first := ⟨_, rfl⟩
  obtain ⟨E, hE⟩ : ∃ E, E = v.checkE := ⟨_, rfl⟩
  rw [← hE]
  unfold V.checkE at hE
  rw [← hD, ← hF] at hE
  rw [← hD] at HDe hds
  rw [← hF] at hwo
  rw [hwo] at HWa
  have hD1 : D ≤ 100000 := by omega
  have HE := Lib.hid hE
  have hsb : tb ≤ w1.heap.size := by rw [htb]; exact hs0
  clear hD hF hE hw1 htb h hsz hds hwo hs0
  go_enter Try.func11, Try.ntmps11
  go_wp2_with (refine wpList_load_mid rfl 24 (.tmp 1) rfl tb 0 (by rw [HTb.out]; rfl) cs _ (by rw [← HW1.out]; exact hR) Try.underlying24 rfl (by rw [h4]; kernel_rfl) ?_)
  rw [← HW1.out, ← HTb.out]
  refine (HDe.out w1 hP1).mono ?_
  rintro e w2 ⟨rfl, hP2⟩
  have hR2 := (hBx.ext hP2 id).range
  by_cases hd : D ≤ 64
  · have hdi : ¬ (64 : Int) < (D : Int) := by omega
    have HB : Hid (E = F) := Lib.hid (by rw [HE.out, if_pos hd])
    clear HE hd
    have hP12 := hP1.pure hP2
    have hsw : w.heap.size ≤ w2.heap.size := hP12.size
    obtain ⟨w3, hw3⟩ : ∃ w3, w3 = w2.alloc (.cells [.int .i64 0].toArray 26) := ⟨_, rfl⟩
    have hBp : BlockIs w3 w2.heap.size [.int .i64 0] 26 := hw3 ▸ BlockIs.new w2 _ _
    have hP3 : Pure w2 w3 := hw3 ▸ ext_alloc w2 _
    have hR3 := ((hBx.ext hP2 id).ext hP3 id).range
    have HW3 := Lib.hid hw3
    have HWB := Lib.hid (HWa.out w3 w2.heap.size ⟨hP12.pure hP3, hsw, hBp⟩)
    clear hw3 HWa
    go_wp2_with (refine wpList_load_mid rfl 24 (.tmp 1) rfl tb 0 rfl cs _ (by first | exact hR3 | (rw [← HW3.out]; exact hR3)) Try.underlying24 rfl (by rw [h4]; kernel_rfl) ?_)
    rw [← HW3.out]
    refine HWB.out.mono ?_
    rintro e w4 ⟨x4, rfl, hv4, hst4⟩
    have hv : x4 = F := hv4
    obtain ⟨h4a, h4b, h4c⟩ := hst4.inv
    have c0 : w4.cell? ⟨w2.heap.size, 0, none⟩ = some (.int .i64 F) := hv ▸ h4c.cell 0
    clear hv hv4 hst4 h4c HWB hBp
    go_wp2_with fail
    go_ret
    exact ⟨by rw [HB.out]; rfl, h4a⟩
  · have hdi : (64 : Int) < (D : Int) := by omega
    have HB : Hid (E = 15) := Lib.hid (by rw [HE.out, if_neg hd])
    clear HE hd HWa
    go_wp2_with fail
    go_ret
    exact ⟨by rw [HB.out]; rfl, hP1.pure hP2⟩
end Go.Proofs.Ytiakphjkcpbccaa
