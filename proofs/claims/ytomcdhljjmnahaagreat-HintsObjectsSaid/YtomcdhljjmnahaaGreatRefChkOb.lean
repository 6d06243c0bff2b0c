/-
  Walked: the reference's shared, sum and Check (printed by mkrchk.py).
-/
import Derived.Test.YtomcdhljjmnahaaGreatChkHOb
import Derived.Test.YtomcdhljjmnahaaGreatRefOwnOb
import Derived.Test.YtomcdhljjmnahaaGreatLibPDOb
import Derived.Test.YtomcdhljjmnahaaGreatLibSCOb
namespace Go.Proofs.YtomcdhljjmnahaaGreat
open Go.RowKit
set_option linter.unusedVariables false
set_option linter.unusedSimpArgs false

set_option maxRecDepth 100000 in
theorem rshared_any (h : HT) (pa la : Option Addr) (pc lc : Nat) (w : World) :
    Calls Tryz.prog 29 #[.agg (hC h pa pc la lc).toArray] w fun e w' => e = .returned (S27.tblV h.so h.sa h.sf la h.sh.length lc) ∧ Pure w w' := by
  obtain ⟨fo, fa, ps, so, sa, sf, sh⟩ := h
  unfold hC S27.tblV
  simp only
  generalize ps.length = pn
  generalize sh.length = sn
  go_enter Tryz.func29, Tryz.ntmps29
  go_wp2_with fail
  refine bodyPost_ret (v := .agg #[.int .i64 so, .int .i64 sa, .int .i64 sf, .slice la sn lc]) (by simp [results, Tryz.results29, go_sem]) rfl ⟨rfl, ?_⟩
  repeat (first | exact Ext.refl _ _ | refine Ext.setCell ?_ (fun e => by simp at e) _ | refine Ext.alloc ?_ _)
end Go.Proofs.YtomcdhljjmnahaaGreat
