import Derived.Test.YtomcdhljjmnahaaGreatAddPa
import Derived.Test.YtomcdhljjmnahaaGreatSqPa
set_option linter.unusedVariables false
set_option linter.unusedSimpArgs false
set_option maxRecDepth 100000
namespace Go.Proofs.YtomcdhljjmnahaaGreat
open Go.RowKit
def BoolTo (b : Bool) (w : World) (e : Ending) (w' : World) : Prop := e = .returned (.bool b) ∧ Pure w w'
theorem any_take_s {α : Type} (p : α → Bool) (ls : List α) (k : Nat) (hk : k < ls.length) : (ls.take (k + 1)).any p = ((ls.take k).any p || p ls[k]) := by
 rw [List.take_add_one, List.getElem?_eq_getElem hk, List.any_append]; simp
theorem enters1 {P : Program} {f : FuncId} {fn : Func} {c : Code} (hf : P.funcs[f]? = some fn) (hname : (fn.name == "runtime.NumGoroutine") = false) (hb : fn.body = some c) (args : Array Value) (w : World) : (callFunc f args).run P w = .ok (.enter f args) w := by
 have h1 : fn.name ≠ "runtime.NumGoroutine" := by simpa using hname
 simp [callFunc, go_sem, hf, h1, hb]
def IdxTo (b : Bool) (w : World) (e : Ending) (w' : World) : Prop := ∃ r : Int, e = .returned (.int .i64 r) ∧ decide (0 ≤ r) = b ∧ Pure w w'
set_option maxHeartbeats 1000000 in
theorem index_gen (g : Nat) (caps : Array Value) (q : Int → Bool) (ad : Option Addr) (cap : Nat) (ls : List Int) (w : World) (hr : RowOf w ad (ls.map zV)) (hl : ls.length ≤ 1000000000)
 (HQ : Hid (∀ x W, Pure w W → x ∈ ls → Calls Tryz.prog g (#[.int .i64 x] ++ caps) W (BoolTo (q x) W))) (hg : ∀ args w, (callFunc g args).run Tryz.prog w = .ok (.enter g args) w) :
 Calls Tryz.prog 79 #[.slice ad ls.length cap, .func (.func g) #[] caps] w (IdxTo (ls.any q) w) := by
 go_enter Tryz.func79, Tryz.ntmps79
 go_wp2_with fail
 go_loopw [8, 5] (fun i _ W => ∃ k : Nat, k ≤ ls.length ∧ i = .int .i64 k ∧ Hid ((ls.take k).any q = false) ∧ Pure w W) (fun i _ _ => ls.length - (intOf i).toNat)
 case atStart => exact ⟨0, Nat.zero_le _, rfl, qh rfl, Ext.refl _ _⟩
 case round =>
  obtain ⟨k, hk, rfl, HNo, hP⟩ := hrel
  by_cases hlt : k < ls.length
  ·have hki : (k : Int) < (ls.length : Int) := by omega
   have hk0 : (0 : Int) ≤ (k : Int) := by omega
   obtain ⟨b, o, rfl, h0⟩ := zV_at (hr.ext hP (fun _ _ => id)) k hlt
   have HB := qh (HQ.out ls[k] wr hP (List.getElem_mem hlt))
   have HT := qh (any_take_s q ls k hlt)
   have HA := qh (fun h : q ls[k] = true => List.any_eq_true.2 ⟨_, List.getElem_mem hlt, h⟩)
   cases hb : q ls[k] with
   | true =>
     rw [hb] at HB HA
     generalize ls[k] = x at *
     clear hb
     go_wp2_with fail
     refine HB.out.mono ?_
     rintro e w2 ⟨rfl, hP2⟩
     go_wp2_with fail
     go_ret
     exact ⟨k, rfl, by rw [HA.out trivial]; simp, hP.pure hP2⟩
   | false =>
     rw [hb, HNo.out] at HT
     have HB' := qh (hb ▸ HB.out)
     clear HB
     generalize ls[k] = x at *
     clear hb HA
     go_wp2_with fail
     refine HB'.out.mono ?_
     rintro e w2 ⟨rfl, hP2⟩
     go_wp2_with fail
     go_roundw
     case rel => exact ⟨k + 1, by omega, by go_num, HT, hP.pure hP2⟩
     case measure => simp [intOf]; omega
  ·have hki : ¬ (k : Int) < (ls.length : Int) := by omega
   have HN2 : Hid (ls.any q = false) := qh (by have := HNo.out; rwa [List.take_of_length_le (by omega)] at this)
   go_wp2_with fail
   go_ret
   exact ⟨-1, rfl, by rw [HN2.out]; rfl, hP⟩
theorem contains_gen (g : Nat) (caps : Array Value) (q : Int → Bool) (ad : Option Addr) (cap : Nat) (ls : List Int) (w : World) (hr : RowOf w ad (ls.map zV)) (hl : ls.length ≤ 1000000000)
 (HQ : Hid (∀ x W, Pure w W → x ∈ ls → Calls Tryz.prog g (#[.int .i64 x] ++ caps) W (BoolTo (q x) W))) (hg : ∀ args w, (callFunc g args).run Tryz.prog w = .ok (.enter g args) w) :
 Calls Tryz.prog 35 #[.slice ad ls.length cap, .func (.func g) #[] caps] w (BoolTo (ls.any q) w) := by
 have HI := qh (index_gen g caps q ad cap ls w hr hl HQ hg)
 clear hg HQ
 go_enter Tryz.func35, Tryz.ntmps35
 go_wp2_with fail
 refine HI.out.mono ?_
 rintro e w2 ⟨r, rfl, hd, hP⟩
 have HD := qh hd
 clear hd
 go_wp2_with fail
 go_ret
 exact ⟨by rw [← HD.out]; rfl, hP⟩
