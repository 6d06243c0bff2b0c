import Derived.Test.YtipmbcalnnomjaaGreatShareOfTu
import Derived.Test.YtipmbcalnnomjaaGreatClosTu
import Derived.Test.YtipmbcalnnomjaaGreatPagesPlTu
import Derived.Deep.OwnRows
import Derived.Test.YtipmbcalnnomjaaGreatSqTu
set_option linter.unusedVariables false
set_option linter.unusedSimpArgs false
set_option maxRecDepth 100000
namespace Go.Proofs.YtipmbcalnnomjaaGreat
open Go.RowKit Go.Maps
theorem rows_bad (d : Nat) (l : List Ob) (oa : Option Addr) (oc : Nat) (rws : List (List Value)) (root E : Int) (w : World) (hD : DocOk w d l oa rws root) (hds : ∀ u ∈ l, u.data.size ≤ maxLen) (hE : docE l root = E) (h0 : E ≠ 0) :
 Calls Tryz.prog 71 #[.agg #[.slice oa l.length oc, .int .i64 root]] w (fun e w' => e = .returned (.tuple #[.slice none 0 0, .int .i64 E]) ∧ Pure w w') := by
 have HDo := qh (fun W (hP : Pure w W) => (hE ▸ doc_any d l oa oc rws root W (hD.pure hP) hds : Calls Tryz.prog 13 #[.agg #[.slice oa l.length oc, .int .i64 root]] W (IntTo E W)))
 obtain ⟨n, hn⟩ : ∃ z, z = l.length := ⟨_, rfl⟩
 rw [← hn] at HDo ⊢
 obtain ⟨w1, hw1⟩ : ∃ z, z = w.alloc (.cells #[.slice oa n oc, .int .i64 root] 24) := ⟨_, rfl⟩
 have HP1 : Hid (Pure w w1) := qh (by rw [hw1]; exact ext_alloc w _)
 have HW1 := qh hw1.symm
 have hb : (E != 0) = true := by simpa using h0
 clear hw1 hn hD hds hE
 go_enter Tryz.func71, Tryz.ntmps71
 go_wp2_with fail
 rw [HW1.out]
 refine (HDo.out w1 HP1.out).mono ?_
 rintro e w2 ⟨rfl, hP2⟩
 go_wp2_with fail
 go_ret2
 exact ⟨rfl, HP1.out.pure hP2⟩
set_option maxHeartbeats 2000000 in
theorem split_bad (d : Nat) (l : List Ob) (oa : Option Addr) (oc : Nat) (rws : List (List Value)) (root E : Int) (w : World) (hD : DocOk w d l oa rws root) (hds : ∀ u ∈ l, u.data.size ≤ maxLen) (hE : docE l root = E) (h0 : E ≠ 0) :
 Calls Tryz.prog 38 #[.agg #[.slice oa l.length oc, .int .i64 root]] w (fun e w' => e = .returned (.tuple #[.agg #[.slice none 0 0, .slice none 0 0, .slice none 0 0, .slice none 0 0, .slice none 0 0], .int .i64 E]) ∧ Pure w w') := by
 have HDo := qh (fun W (hP : Pure w W) => rows_bad d l oa oc rws root E W (hD.pure hP) hds hE h0)
 obtain ⟨n, hn⟩ : ∃ z, z = l.length := ⟨_, rfl⟩
 rw [← hn] at HDo ⊢
 obtain ⟨w1, hw1⟩ : ∃ z, z = (w.alloc (.cells #[.slice oa n oc, .int .i64 root] 24)).alloc (.cells #[.slice none 0 0, .slice none 0 0, .slice none 0 0, .slice none 0 0, .slice none 0 0] 36) := ⟨_, rfl⟩
 have HP1 : Hid (Pure w w1) := qh (by rw [hw1]; exact (ext_alloc w _).pure (ext_alloc _ _))
 have HB1 : Hid (BlockIs w1 (w.heap.size + 1) [.slice none 0 0, .slice none 0 0, .slice none 0 0, .slice none 0 0, .slice none 0 0] 36) := qh (by
  have := BlockIs.new (w.alloc (.cells #[.slice oa n oc, .int .i64 root] 24)) [.slice none 0 0, .slice none 0 0, .slice none 0 0, .slice none 0 0, .slice none 0 0] 36
  rw [World.size_alloc] at this
  rw [hw1]; exact this)
 have HW1 := qh hw1.symm
 obtain ⟨R, hR⟩ : ∃ z, z = w.heap.size := ⟨_, rfl⟩
 rw [← hR] at HB1
 have HR := qh hR.symm
 have hb : (E != 0) = true := by simpa using h0
 clear hw1 hn hD hds hE hR
 go_enter Tryz.func38, Tryz.ntmps38
 go_wp2_with fail
 rw [HW1.out, HR.out]
 refine (HDo.out w1 HP1.out).mono ?_
 rintro e w2 ⟨rfl, hP2⟩
 have HB2 := qh (HB1.out.ext hP2 id)
 have HP2 := qh (HP1.out.pure hP2)
 have HTh : Hid (w2.there (R + 1) 0 (#[Value.slice none 0 0, .slice none 0 0, .slice none 0 0, .slice none 0 0, .slice none 0 0] : Array Value).size) := qh (HB2.out.there 5 rfl)
 have HSi : Hid ((Tryz.prog.info? 36).map (·.size) = some (#[Value.slice none 0 0, .slice none 0 0, .slice none 0 0, .slice none 0 0, .slice none 0 0] : Array Value).size) := qh sizeSP
 have HOn : Hid (((#[Value.slice none 0 0, .slice none 0 0, .slice none 0 0, .slice none 0 0, .slice none 0 0] : Array Value).all fun u => u.oneCell') = true) := qh (all_oneCell_toArray (by intro u hu; simp only [List.mem_cons, List.not_mem_nil, or_false] at hu; rcases hu with rfl | rfl | rfl | rfl | rfl <;> rfl))
 clear hP2
 go_wp2_with (with_reducible refine at_store 36 (.tmp 2) (.tmp 15) ?_; refine wpList_store_mid rfl 36 (.tmp 2) (.tmp 15) rfl (R + 1) 0 #[.slice none 0 0, .slice none 0 0, .slice none 0 0, .slice none 0 0, .slice none 0 0] rfl rfl HTh.out HSi.out HOn.out ?_)
 have hB := HB2.out.setAll [.slice none 0 0, .slice none 0 0, .slice none 0 0, .slice none 0 0, .slice none 0 0] rfl
 refine bodyPost_ret (results_row2 rfl _ _ (R + 1) _ [.slice none 0 0, .slice none 0 0, .slice none 0 0, .slice none 0 0, .slice none 0 0] _ rfl hB Tryz.underlying36 rfl sizeSP) rfl ?_
 exact ⟨rfl, Ext.setCells _ 0 _ HP2.out (b := R + 1) (fun h => by have := HR.out; omega)⟩
theorem split_none (w : World) : Calls Tryz.prog 38 #[.agg #[.slice none 0 0, .int .i64 0]] w (fun e w' => e = .returned (.tuple #[.agg #[.slice none 0 0, .slice none 0 0, .slice none 0 0, .slice none 0 0, .slice none 0 0], .int .i64 23]) ∧ Pure w w') :=
 split_bad 3 [] none 0 [] 0 23 w ⟨⟨rfl, fun r hr => (by cases hr), fun i u hu => (by simp at hu), fun i o r ho => (by cases ho)⟩, by decide, fun u hu => (by cases hu), fun u hu => (by cases hu), by decide⟩ (fun u hu => by cases hu) (by decide +kernel) (by decide)
end Go.Proofs.YtipmbcalnnomjaaGreat
namespace Go.Proofs.YtipmbcalnnomjaaGreat
open Go.RowKit
section
variable {l : List Ob} {root : Int} {T : Tr} {Rs : List (Int × List Int × V)}
end
end Go.Proofs.YtipmbcalnnomjaaGreat
namespace Go.Proofs.YtipmbcalnnomjaaGreat
open Go.RowKit Go.Maps
section
variable {d : Nat} {l : List Ob} {oa : Option Addr} {oc : Nat} {rows : List (List Value)} {root : Int} {w : World} {T : Tr} {n0 : Int} {kids : List Int} {q : Int} {Rs : List (Int × List Int × V)}
end
end Go.Proofs.YtipmbcalnnomjaaGreat
namespace Go.Proofs.YtipmbcalnnomjaaGreat
open Go.RowKit
theorem PAt.opened {p : PartsP} {a0 a1 a2 a3 a4 : Option Addr} {n0 n1 n2 n3 n4 c0 c1 c2 c3 c4 : Nat} {W : World} (h : PAt p (.slice a0 n0 c0) (.slice a1 n1 c1) (.slice a2 n2 c2) (.slice a3 n3 c3) (.slice a4 n4 c4) W) :
 (n0 = p.tree.length ∧ CRow.ok W ⟨a0, c0, p.tree⟩) ∧ (n1 = p.first.length ∧ CRow.ok W ⟨a1, c1, p.first⟩) ∧ (∃ rs : List CRow, n2 = rs.length ∧ lsR rs = p.own ∧ Rws W a2 rs ∧ ∀ q ∈ rs, q.ok W) ∧ (n3 = p.shared.length ∧ CRow.ok W ⟨a3, c3, p.shared⟩) ∧ (n4 = p.others.length ∧ CRow.ok W ⟨a4, c4, p.others⟩) := by
 obtain ⟨⟨ta, tc, tl⟩, ⟨fa, fc, fl⟩, ⟨sa, sc, sl⟩, ⟨ha, hc, hl⟩, a, c, rs, H, e0, e1, e2, e3, e4⟩ := h
 obtain rfl : tl = p.tree := H.lt
 obtain rfl : fl = p.first := H.lf
 obtain rfl : sl = p.shared := H.ls
 obtain rfl : hl = p.others := H.lh
 cases e0
 cases e1
 cases e2
 cases e3
 cases e4
 exact ⟨⟨rfl, H.t⟩, ⟨rfl, H.f⟩, ⟨rs, rfl, H.lo, H.o, H.oq⟩, ⟨rfl, H.s⟩, ⟨rfl, H.h⟩⟩
theorem CRow.ok.app {a : Option Addr} {c n : Nat} {l : List Int} {W : World} (h : CRow.ok W ⟨a, c, l⟩) (hn : n = l.length) : (a = none → n = 0 ∧ c = 0) ∧ (intsV l).length = n * 1 ∧ (∀ u ∈ intsV l, u.oneCell' = true) := by
 refine ⟨fun e => ?_, by rw [intsV_len, hn]; omega, fun u hu => ?_⟩
 ·have h1 := h.2.1 e
  have h2 := h.2.2
  simp only at h1 h2
  exact ⟨by omega, h1⟩
 ·obtain ⟨x, _, rfl⟩ := List.mem_map.1 hu
  rfl
theorem rep_ints (n : Nat) (T : TypeId) (w : World) : w.alloc (.cells (madeCells #[.int .i64 0] n) T) = w.alloc (.cells (intsV (List.replicate n 0)).toArray T) := by
 refine congrArg (fun c => w.alloc (.cells c T)) ?_
 apply Array.ext'
 apply List.ext_getElem?
 intro j
 by_cases hj : j < n
 ·simp [madeCells, intsV, hj, Nat.mod_one]
 ·rw [List.getElem?_eq_none (by simp [madeCells]; omega), List.getElem?_eq_none (by simp [intsV]; omega)]
