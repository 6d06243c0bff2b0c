import Derived.Test.YtomcdhljjmnahaaGreatWorksHPa
import Derived.Test.YtomcdhljjmnahaaGreatLibPEPa
import Derived.Test.YtomcdhljjmnahaaGreatLibBBPa
import Derived.Test.YtomcdhljjmnahaaGreatSqPa
set_option linter.unusedVariables false
set_option linter.unusedSimpArgs false
set_option maxRecDepth 100000
namespace Go.Proofs.YtomcdhljjmnahaaGreat
open Go.ChangeShapes Go.WideShapes Go.ChangeAt Go.RowKit C26
theorem open_l {H : Type} {enc : TypeId × Value → H} {W : World} {v : Value} {d : DataW H} {p : List MemPlace} {base : Nat}
 (hv : Value.okWide Tryz.prog W .any base 40 v) (h : DataW.Trod enc Tryz.prog W 0 (fun _ => true) true 40 v d p) :
 ∃ l : LT, v = .agg (lC l).toArray := by
 obtain ⟨cs, rfl, hcs⟩ := okWide_struct Tryz.underlying40 hv
 have s4 : Tryz.prog.cellsOf 40 = 7 := by kernel_rfl
 have s0 : Tryz.prog.cellsOf 3 = 1 := by kernel_rfl
 rw [s4] at hcs
 obtain ⟨l, rfl⟩ : ∃ l : List Value, cs = l.toArray := ⟨cs.toList, by simp⟩
 simp only [List.size_toArray] at hcs
 match l, hcs with
 | [c0, c1, c2, c3, c4, c5, c6], _ =>
   obtain ⟨fuel, hf⟩ := h
   obtain ⟨xs, n, _, hx, _, hlen, hfs⟩ := DataW.trod_struct Tryz.underlying40 hf
   have h0 := hfs 0 _ rfl
   have h1 := hfs 1 _ rfl
   have h2 := hfs 2 _ rfl
   have h3 := hfs 3 _ rfl
   have h4 := hfs 4 _ rfl
   have h5 := hfs 5 _ rfl
   have h6 := hfs 6 _ rfl
   simp only [Value.cells, s0, List.drop, List.take] at h0 h1 h2 h3 h4 h5 h6
   match xs, hlen with
   | [y0, y1, y2, y3, y4, y5, y6], _ =>
     simp only [List.getElem?_cons_zero, List.getElem?_cons_succ] at h0 h1 h2 h3 h4 h5 h6
     obtain ⟨x0, e0, _, _⟩ := DataW.trod_int Tryz.underlying3 h0
     obtain ⟨x1, e1, _, _⟩ := DataW.trod_int Tryz.underlying3 h1
     obtain ⟨x2, e2, _, _⟩ := DataW.trod_int Tryz.underlying3 h2
     obtain ⟨x3, e3, _, _⟩ := DataW.trod_int Tryz.underlying3 h3
     obtain ⟨x4, e4, _, _⟩ := DataW.trod_int Tryz.underlying3 h4
     obtain ⟨x5, e5, _, _⟩ := DataW.trod_int Tryz.underlying3 h5
     obtain ⟨x6, e6, _, _⟩ := DataW.trod_int Tryz.underlying3 h6
     cases e0
     cases e1
     cases e2
     cases e3
     cases e4
     cases e5
     cases e6
     exact ⟨⟨x0, x1, x2, x3, x4, x5, x6⟩, rfl⟩
