import Derived.Test.YtipmbcalnnomjaaGreatBaseTu
import Derived.Deep.RegionHeld3
import Derived.Test.YtipmbcalnnomjaaGreatOwnTu
import Derived.Test.YtipmbcalnnomjaaGreatSqTu
set_option linter.unusedVariables false
set_option linter.unusedSimpArgs false
namespace Go.Proofs.YtipmbcalnnomjaaGreat
open Go.RowKit
theorem wpAnyH_strong {P : Program} {md : Region.Mode} {ops : Array Oper} {Q : Exit → Act → World → Prop} {S S' : World → Prop} (h : ∀ w, S' w → S w) :
 ∀ (fuel : Nat) (listed : Array Bool) (a : Act) (w : World), wpAnyH P md ops Q S' fuel listed a w → wpAnyH P md ops Q S fuel listed a w
 | 0, _, _, _, H => H
 | fuel + 1, _, _, _, H => ⟨H.1, fun i hi => wpOp_mono (fun a' w' h' => ⟨h _ h'.1, wpAnyH_strong h fuel _ a' w' h'.2⟩) (H.2 i hi)⟩
theorem region_start {P : Program} {ops : Array Oper} {Q : Exit → Act → World → Prop} {id : Nat} {a : Act} {w : World} (T : Nat → Prop) (hm : P.follows .mixedOrders = true)
 (h : wpAnyH P .any ops Q (Ext T w.drew) ops.size (Array.replicate ops.size false) a w.drew) : (Code.region id ops true).wp P Q a w :=
 wp_region_held hm h
theorem region_now {P : Program} {md : Region.Mode} {ops : Array Oper} {Q : Exit → Act → World → Prop} {T : Nat → Prop} {w0 w : World} {fuel : Nat} {listed : Array Bool} {a : Act}
 (hw : Ext T w0 w) (h : wpAnyH P md ops Q (Ext T w) fuel listed a w) : wpAnyH P md ops Q (Ext T w0) fuel listed a w :=
 wpAnyH_strong (fun _ h' => hw.trans h' (fun _ _ e => e)) _ _ _ _ h
theorem region_take {P : Program} {md : Region.Mode} {ops : Array Oper} {Q : Exit → Act → World → Prop} {T : Nat → Prop} {w : World} (i d : Nat) {oi : Oper} {v : Value} {fuel : Nat} {listed : Array Bool} {a : Act} (hi : ops[i]? = some oi) (hd : oi.dst = some d)
 (hs : Region.noSelect ops = true) (hf : Region.free md ops listed i = true) (hr : (Region.ready md ops listed).contains i = true)
 (hQ : ∀ c a w, Q (.panic c) (a.put (some d) v) w → Q (.panic c) a w) (hw : Region.wanted oi (yielded ops a.tmps) = true) (hv : ∀ w', Ext T w w' → (execOp a.eval oi).run P w' = .ok (.value v) w')
 (h : wpAnyH P md ops Q (Ext T w) fuel (listed.setIfInBounds i true) (a.put (some d) v) w) : wpAnyH P md ops Q (Ext T w) (fuel + 1) listed a w := by
 rw [← hd] at hQ h
 exact wpAnyH_take hi hs hf hr hQ (Or.inl ⟨hw, hv⟩) (Ext.refl _ _) h
theorem region_skip {P : Program} {md : Region.Mode} {ops : Array Oper} {Q : Exit → Act → World → Prop} {T : Nat → Prop} {w : World} (i d : Nat) {oi : Oper} {fuel : Nat} {listed : Array Bool} {a : Act} (hi : ops[i]? = some oi) (hd : oi.dst = some d)
 (hs : Region.noSelect ops = true) (hf : Region.free md ops listed i = true) (hr : (Region.ready md ops listed).contains i = true)
 (hQ : ∀ c a w, Q (.panic c) (a.put (some d) undef) w → Q (.panic c) a w) (hw : Region.wanted oi (yielded ops a.tmps) = false)
 (h : wpAnyH P md ops Q (Ext T w) fuel (listed.setIfInBounds i true) (a.put (some d) undef) w) : wpAnyH P md ops Q (Ext T w) (fuel + 1) listed a w := by
 rw [← hd] at hQ h
 exact wpAnyH_take hi hs hf hr hQ (Or.inr ⟨hw, rfl⟩) (Ext.refl _ _) h
def normalOnly (K : Act → World → Prop) : Exit → Act → World → Prop
 | .normal, a, w => K a w
 | _, _, _ => False
theorem normalOnly_out {K : Act → World → Prop} (h : LetsOut (normalOnly K)) : False := by obtain ⟨a, w, h⟩ := h; exact h
theorem step_of_list {P : Program} {ops : Array Oper} {o : Oper} {a : Act} {w : World} {K : Act → World → Prop} {Q : Exit → Act → World → Prop}
 (h : wpList P ops (normalOnly K) [o] a w) : if Region.wanted o (yielded ops a.tmps) = true then Oper.wp P o a w K Q else K (a.put o.dst undef) w := by
 unfold wpList at h
 split at h
 ·rename_i hw
  rw [if_pos hw]
  rcases h with h | ⟨_, h⟩
  ·unfold Oper.wp at *
   generalize (execOp a.eval o).run P w = r at *
   cases r with
   | ok n w' =>
     cases n <;> simp only [Oper.upon] at h ⊢ <;>
      first
       | exact h
       | exact h.elim
       | exact (normalOnly_out h).elim
       | exact Calls.mono h (fun e w'' he => by cases e <;> first | exact he | exact he.elim | exact (normalOnly_out he).elim)
       | exact Rows.mono h (fun _ _ he => he)
   | halt x w' => cases x <;> simp only [Oper.upon] at h ⊢ <;> first | exact h.elim | exact (normalOnly_out h).elim | exact h
  ·exact (normalOnly_out h).elim
 ·rename_i hw
  rw [if_neg hw]
  exact h
