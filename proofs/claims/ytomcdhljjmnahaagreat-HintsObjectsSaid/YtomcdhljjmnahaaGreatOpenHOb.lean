/-
  What came in: hints, and a file's dictionary.
-/
import Derived.Test.YtomcdhljjmnahaaGreatWorksHOb
import Derived.Test.YtomcdhljjmnahaaGreatLibPEOb
import Derived.Test.YtomcdhljjmnahaaGreatLibBBOb
namespace Go.Proofs.YtomcdhljjmnahaaGreat
open Go.ChangeShapes Go.WideShapes Go.ChangeAt Go.RowKit C26
set_option linter.unusedVariables false
set_option linter.unusedSimpArgs false

theorem open_hints_trod {H : Type} {enc : TypeId × Value → H} {W : World} {fuel : Nat} {cs : List Value} {x : DataW H × List MemPlace}
    (hf : DataW.trod enc Tryz.prog W 0 (fun _ => true) true fuel 22 cs = some x) :
    ∃ (a : Option Addr) (c : Nat) (ps : List PH), cs = [.slice a ps.length c] ∧ ps.length ≤ c ∧ c ≤ maxLen ∧ (a = none → c = 0) ∧ P26.Hints W a ps := by
  have s3 : Tryz.prog.cellsOf 53 = 3 := by kernel_rfl
  have s0 : Tryz.prog.cellsOf 3 = 1 := by kernel_rfl
  have s1 : Tryz.prog.cellsOf 23 = 1 := by kernel_rfl
  obtain ⟨a, c, rows, hcs, hl, hm, hn, hq, hrow⟩ := open_rows (size := 3) (Q := fun cs (q : PH) => cs = P26.cellsP q ∧ RowOf W q.sa (q.sh.map P26.numV) ∧ (q.sh.length ≤ q.sc ∧ q.sc ≤ maxLen ∧ (q.sa = none → q.sc = 0))) Tryz.underlying22 s3 (by decide) (fun n cs y hy hlen => by
    match cs, hlen with
    | [c0, c1, c2], _ =>
      obtain ⟨xs, n', _, hx, _, hlen, hfs⟩ := DataW.trod_struct Tryz.underlying53 hy
      have h0 : DataW.trod enc Tryz.prog W 0 (fun _ => true) true n' 3 (([c0, c1, c2].drop 0).take (Tryz.prog.cellsOf 3)) = xs[0]? := hfs 0 _ rfl
      have h1 : DataW.trod enc Tryz.prog W 0 (fun _ => true) true n' 3 (([c0, c1, c2].drop 1).take (Tryz.prog.cellsOf 3)) = xs[1]? := hfs 1 _ rfl
      have h2 : DataW.trod enc Tryz.prog W 0 (fun _ => true) true n' 23 (([c0, c1, c2].drop 2).take (Tryz.prog.cellsOf 23)) = xs[2]? := hfs 2 _ rfl
      rw [s0] at h0 h1
      rw [s1] at h2
      simp only [List.drop, List.take] at h0 h1 h2
      match xs, hlen with
      | [y0, y1, y2], _ =>
        simp only [List.getElem?_cons_zero, List.getElem?_cons_succ] at h0 h1 h2
        obtain ⟨o, e0, _, _⟩ := DataW.trod_int Tryz.underlying3 h0
        obtain ⟨l, e1, _, _⟩ := DataW.trod_int Tryz.underlying3 h1
        cases e0
        cases e1
        obtain ⟨la, c, rows, hcs, hl, hm, hn, hq, hrow⟩ := open_rows (size := 1) (Q := fun cs (q : Int) => cs = [P26.numV q]) Tryz.underlying23 s0 (by decide) (fun n cs y hy hlen => by
          match cs, hlen with
          | [z], _ =>
            obtain ⟨x, e, _, _⟩ := DataW.trod_int Tryz.underlying3 hy
            cases e
            exact ⟨x, rfl⟩) h2
        cases hcs
        exact ⟨⟨o, l, la, c, rows.map (·.2)⟩, by simp [P26.cellsP], row_of_rows (fun r hr => (hq r hr).2) hrow, by simpa using hl, hm, hn⟩) hf
  have hmap : rows.flatMap (·.1) = (rows.map (·.2)).flatMap P26.cellsP := by
    clear hl hrow hf hcs
    induction rows with
    | nil => rfl
    | cons r rows ih => rw [List.flatMap_cons, List.map_cons, List.flatMap_cons, ih (fun r hr => hq r (by simp [hr])), (hq r (by simp)).2.1]
  refine ⟨a, c, rows.map (·.2), by rw [hcs, List.length_map], by rw [List.length_map]; exact hl, hm, hn, ⟨hmap ▸ hrow, fun p hp => ?_, fun p hp => ?_⟩⟩
  · obtain ⟨r, hr, rfl⟩ := List.mem_map.1 hp
    exact (hq r hr).2.2.1
  · obtain ⟨r, hr, rfl⟩ := List.mem_map.1 hp
    exact (hq r hr).2.2.2
/-- hints as they came in -/
structure HRaw (W : World) (h : HT) (pa : Option Addr) (pc : Nat) (la : Option Addr) (lc : Nat) : Prop where
  pages : P26.Hints W pa h.ps
  share : RowOf W la (h.sh.map zV)
  pcap : h.ps.length ≤ pc ∧ pc ≤ maxLen
  lcap : h.sh.length ≤ lc ∧ lc ≤ maxLen
  lnil : la = none → lc = 0
theorem HRaw.pure {W W' : World} {h : HT} {pa la : Option Addr} {pc lc : Nat} (H : HRaw W h pa pc la lc) (hP : Pure W W') : HRaw W' h pa pc la lc := ⟨H.pages.pure hP, H.share.ext hP (fun _ _ => id), H.pcap, H.lcap, H.lnil⟩
theorem fewH_in {h : HT} (hf : fewH h = true) : P26.Mod h.ps ∧ h.sh.length ≤ 100 := by
  unfold fewH P26.fewB at hf
  simp only [Bool.and_eq_true, decide_eq_true_eq, List.all_eq_true] at hf
  exact ⟨⟨hf.1.1, fun p hp => by have := hf.1.2 p hp; omega⟩, hf.2⟩
theorem HRaw.mem {W : World} {h : HT} {pa la : Option Addr} {pc lc : Nat} (H : HRaw W h pa pc la lc) (hf : fewH h = true) : HMem W h pa pc la lc :=
  ⟨H.pages, H.share, by have := (fewH_in hf).1.pages; omega, by have := (fewH_in hf).2; omega, ⟨H.lcap.1, Nat.zero_le _⟩, H.lnil⟩
set_option maxRecDepth 100000 in
theorem open_h {H : Type} {enc : TypeId × Value → H} {W : World} {v : Value} {d : DataW H} {p : List MemPlace} {base : Nat}
    (hv : Value.okWide Tryz.prog W .any base 25 v) (h : DataW.Trod enc Tryz.prog W 0 (fun _ => true) true 25 v d p) :
    ∃ (h : HT) (pa la : Option Addr) (pc lc : Nat), v = .agg (hC h pa pc la lc).toArray ∧ HRaw W h pa pc la lc := by
  obtain ⟨cs, rfl, hcs⟩ := okWide_struct Tryz.underlying25 hv
  have s4 : Tryz.prog.cellsOf 25 = 7 := by kernel_rfl
  have s0 : Tryz.prog.cellsOf 3 = 1 := by kernel_rfl
  have s1 : Tryz.prog.cellsOf 23 = 1 := by kernel_rfl
  have s2 : Tryz.prog.cellsOf 22 = 1 := by kernel_rfl
  rw [s4] at hcs
  obtain ⟨l, rfl⟩ : ∃ l : List Value, cs = l.toArray := ⟨cs.toList, by simp⟩
  simp only [List.size_toArray] at hcs
  match l, hcs with
  | [c0, c1, c2, c3, c4, c5, c6], _ =>
    obtain ⟨fuel, hf⟩ := h
    obtain ⟨xs, n, _, hx, _, hlen, hfs⟩ := DataW.trod_struct Tryz.underlying25 hf
    have h0 := hfs 0 _ rfl
    have h1 := hfs 1 _ rfl
    have h2 := hfs 2 _ rfl
    have h3 := hfs 3 _ rfl
    have h4 := hfs 4 _ rfl
    have h5 := hfs 5 _ rfl
    have h6 := hfs 6 _ rfl
    simp only [Value.cells, s0, s1, s2, List.drop, List.take] at h0 h1 h2 h3 h4 h5 h6
    match xs, hlen with
    | [y0, y1, y2, y3, y4, y5, y6], _ =>
      simp only [List.getElem?_cons_zero, List.getElem?_cons_succ] at h0 h1 h2 h3 h4 h5 h6
      obtain ⟨fo, e0, _, _⟩ := DataW.trod_int Tryz.underlying3 h0
      obtain ⟨fa, e1, _, _⟩ := DataW.trod_int Tryz.underlying3 h1
      obtain ⟨so, e3, _, _⟩ := DataW.trod_int Tryz.underlying3 h3
      obtain ⟨sa, e4, _, _⟩ := DataW.trod_int Tryz.underlying3 h4
      obtain ⟨sf, e5, _, _⟩ := DataW.trod_int Tryz.underlying3 h5
      cases e0
      cases e1
      cases e3
      cases e4
      cases e5
      obtain ⟨pa, pc, ps, hp1, hp2, hp3, hp4, hp5⟩ := open_hints_trod h2
      obtain ⟨la, c, rows, hcs, hl, hm, hnil, hq, hrow⟩ := open_rows (size := 1) (Q := fun cs (q : Int) => cs = [zV q]) Tryz.underlying23 s0 (by decide) (fun n cs y hy hlen => by
        match cs, hlen with
        | [z], _ =>
          obtain ⟨x, e, _, _⟩ := DataW.trod_int Tryz.underlying3 hy
          cases e
          exact ⟨x, rfl⟩) h6
      cases hcs
      cases hp1
      exact ⟨⟨fo, fa, ps, so, sa, sf, rows.map (·.2)⟩, pa, la, pc, c, by simp [hC], ⟨hp5, row_of_rows (fun r hr => (hq r hr).2) hrow, ⟨hp2, hp3⟩, ⟨by simpa using hl, hm⟩, hnil⟩⟩
end Go.Proofs.YtomcdhljjmnahaaGreat
