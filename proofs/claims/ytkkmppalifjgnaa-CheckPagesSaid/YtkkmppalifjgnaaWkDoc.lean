/-
  Walked: check.Doc.
  Walked: the law's small Doc.
  Plain: the law's Docs.
-/
import Derived.Test.YtkkmppalifjgnaaStrayD
import Derived.Test.YtkkmppalifjgnaaMakes
namespace Go.Proofs.Ytkkmppalifjgnaa
open Go.RowKit Go.Maps
set_option linter.unusedVariables false
set_option linter.unusedSimpArgs false

theorem walkP_wf {w0 : World} {d : Nat} {l : List Ob} {oa : Option Addr} {rows : List (List Value)} {root : Int} (h : DocOk w0 d l oa rows root) : (walkP l root).1.Ok l := by
  unfold walkP
  split
  · split
    · rename_i u m hm
      exact (belP_ok l root 64 0 false ⟨[], []⟩ _ u m (Tr.ok_nil l) hm).1
    · exact Tr.ok_nil l
  · exact Tr.ok_nil l
theorem Tr.Ok.wfs {l : List Ob} {t : Tr} (h : t.Ok l) (hl : l.length ≤ 5000) (x : Int) (hx : t.has x) : (Lit.int .i64 x).wf = true := by
  have := h.lo x hx
  unfold Lit.wf
  simp [IntKind.min, IntKind.max, IntKind.bits, IntKind.signed]
  omega
set_option maxHeartbeats 2000000 in
set_option maxRecDepth 100000 in
theorem doc_any (d : Nat) (l : List Ob) (oa : Option Addr) (oc : Nat) (rows : List (List Value)) (root : Int) (w : World) (hD : DocOk w d l oa rows root) (hds : ∀ u ∈ l, u.data.size ≤ maxLen) :
    Calls Try.prog 11 #[.agg #[.slice oa l.length oc, .int .i64 root]] w (IntTo (docE l root) w) := by
  have HO := Lib.hid (fun W (hP : Pure w W) => objects_any d l oa oc rows root W (hD.pure hP) hds)
  have HWk := Lib.hid (fun W (hP : Pure w W) => walk_docs d l oa oc rows root W (hD.pure hP))
  have HSt := Lib.hid (fun W (hP : Pure w W) => stray_docs d l oa oc rows root (walkP l root).1 (w := W) (hD := hD.pure hP))
  have HWf := Lib.hid (fun x hx => (walkP_wf hD).wfs hD.len x hx)
  obtain ⟨F, hF⟩ : ∃ z, z = docE l root := ⟨_, rfl⟩
  rw [← hF]
  unfold docE at hF
  obtain ⟨n, hn⟩ : ∃ z, z = l.length := ⟨_, rfl⟩
  rw [← hn] at hF HO HWk HSt ⊢
  have hn5 : n ≤ 5000 := by rw [hn]; exact hD.len
  obtain ⟨O, hO⟩ : ∃ z, z = objsE n l := ⟨_, rfl⟩
  obtain ⟨Q, hQ⟩ : ∃ z, z = walkP l root := ⟨_, rfl⟩
  rw [← hO] at hF HO
  rw [← hQ] at hF HWk HSt HWf
  have HF := Lib.hid hF
  clear hF hO hQ hn hD hds
  obtain ⟨t, E⟩ := Q
  go_enter Try.func11, Try.ntmps11
  by_cases hlong : 4094 < n
  · have hli : (4094 : Int) < (n : Int) := by omega
    have HFr : Hid (F = 3) := Lib.hid (by rw [HF.out, if_pos hlong])
    go_wp2_with fail
    go_ret
    exact ⟨by rw [HFr.out]; rfl, ext_alloc w _⟩
  · have hli : ¬ (4094 : Int) < (n : Int) := by omega
    have HF2 := Lib.hid (HF.out.trans (if_neg hlong))
    clear hlong HF
    go_wp2_with fail
    refine (HO.out _ (ext_alloc w _)).mono ?_
    rintro e w2 ⟨rfl, hP⟩
    have hB := BlockIs.new w [.slice oa n oc, .int .i64 root] 24
    have hB := hB.ext hP id
    have hP2 := (ext_alloc w (.cells #[.slice oa n oc, .int .i64 root] 24)).pure hP
    have HB := Lib.hid hB
    have HP := Lib.hid hP2
    have hlt : w.heap.size < w2.heap.size := hB.lt
    have c0 : w2.cell? ⟨w.heap.size, 0, none⟩ = some (.slice oa n oc) := hB.cell 0
    have c1 : w2.cell? ⟨w.heap.size, 1, none⟩ = some (.int .i64 root) := hB.cell 1
    clear hP hP2 hB HO
    by_cases hO0 : O = 0
    · subst hO0
      have HF3 : Hid (F = if E ≠ 0 then E else if strayP l root t then 26 else 0) := Lib.hid HF2.out
      clear HF2
      go_wp2_with fail
      refine (HWk.out w2 HP.out).mono ?_
      rintro e w3 ⟨a1, x1, a2, x2, rfl, hP3, hr1, hr2, hl1, hl2, hn1, hn2, hc1, hm1, hc2, hm2⟩
      have hP4 := hP3.pure (ext_alloc w3 (.cells #[.slice a1 t.nodes.length x1, .slice a2 t.pages.length x2] 31))
      have HSt2 := Lib.hid (HSt.out _ (HP.out.pure hP4) a1 a2 x1 x2 (hr1.ext (ext_alloc w3 _) (fun _ _ => id)) (hr2.ext (ext_alloc w3 _) (fun _ _ => id)) hn1 hn2 hc1 hc2 hl1 hl2 (fun x hx => HWf.out x (Or.inl hx)) (fun x hx => HWf.out x (Or.inr hx)))
      have hB := HB.out.ext hP3 id
      have hlt : w.heap.size < w3.heap.size := hB.lt
      have d0 : w3.cell? ⟨w.heap.size, 0, none⟩ = some (.slice oa n oc) := hB.cell 0
      have d1 : w3.cell? ⟨w.heap.size, 1, none⟩ = some (.int .i64 root) := hB.cell 1
      have HP4 := Lib.hid (HP.out.pure hP4)
      obtain ⟨an, han⟩ : ∃ z, z = t.nodes.length := ⟨_, rfl⟩
      obtain ⟨bn, hbn⟩ : ∃ z, z = t.pages.length := ⟨_, rfl⟩
      rw [← han, ← hbn] at HSt2 HP4
      rw [← han, ← hbn]
      obtain ⟨S, hS⟩ : ∃ z, z = strayP l root t := ⟨_, rfl⟩
      rw [← hS] at HF3 HSt2
      clear hP3 hP4 hr1 hr2 hB han hbn hS HSt HWk HWf hl1 hl2 hn1 hn2 hc1 hm1 hc2 hm2 HB HP c0 c1
      by_cases hE : E = 0
      · subst hE
        have HF4 : Hid (F = if S then 26 else 0) := Lib.hid HF3.out
        clear HF3
        go_wp2_with fail
        refine HSt2.out.mono ?_
        rintro e w5 ⟨rfl, hP5⟩
        have HP5 := Lib.hid (HP4.out.pure hP5)
        clear hP5 d0 d1
        cases S with
        | true =>
          have HFr : Hid (F = 26) := Lib.hid HF4.out
          go_wp2_with fail
          go_ret
          exact ⟨by rw [HFr.out]; rfl, HP5.out⟩
        | false =>
          have HFr : Hid (F = 0) := Lib.hid HF4.out
          go_wp2_with fail
          go_ret
          exact ⟨by rw [HFr.out]; rfl, HP5.out⟩
      · have hEb : (E == 0) = false := by simpa using hE
        have HFr : Hid (F = E) := Lib.hid (HF3.out.trans (if_pos hE))
        clear HF3 HSt2
        go_wp2_with fail
        go_ret
        exact ⟨by rw [HFr.out]; rfl, HP4.out⟩
    · have hOb : (O != 0) = true := by simpa using hO0
      have HFr : Hid (F = O) := Lib.hid (HF2.out.trans (if_pos hO0))
      clear HF2
      go_wp2_with fail
      go_ret
      exact ⟨by rw [HFr.out]; rfl, HP.out⟩
end Go.Proofs.Ytkkmppalifjgnaa
namespace Go.Proofs.Ytkkmppalifjgnaa
open Go.RowKit Go.Maps
set_option linter.unusedVariables false
set_option linter.unusedSimpArgs false

def smRootL : List V := [nameV ⟨#[84, 121, 112, 101]⟩, nameV ⟨#[67, 97, 116, 97, 108, 111, 103]⟩, nameV ⟨#[80, 97, 103, 101, 115]⟩, refV 2]
def smNodeL : List V := [nameV ⟨#[84, 121, 112, 101]⟩, nameV ⟨#[80, 97, 103, 101, 115]⟩, nameV ⟨#[75, 105, 100, 115]⟩, .mk 6 0 ⟨#[]⟩ [refV 3], nameV ⟨#[67, 111, 117, 110, 116]⟩, intV 1]
def smPageL : List V := [nameV ⟨#[84, 121, 112, 101]⟩, nameV ⟨#[80, 97, 103, 101]⟩, nameV ⟨#[80, 97, 114, 101, 110, 116]⟩, refV 2]
def smallL : List Ob := [⟨dictL smRootL emptyD, false, ⟨#[]⟩⟩, ⟨dictL smNodeL emptyD, false, ⟨#[]⟩⟩, ⟨dictL smPageL emptyD, false, ⟨#[]⟩⟩]
theorem row_small {W W' : World} {tb : Nat} {cs : List Value} {T : TypeId} (hB : BlockIs W tb cs T) (hl : cs.length < 4) (hE : Ext (fun k => k = tb) W W') {a : Option Addr} {xs : List Value} (h : RowOf W a xs) (hx : xs = [] ∨ 4 ≤ xs.length) : RowOf W' a xs := by
  intro i u hu
  obtain ⟨b, o, ha, hc⟩ := h i u hu
  have h4 : 4 ≤ xs.length := by
    rcases hx with rfl | h4
    · simp at hu
    · exact h4
  obtain ⟨b', o', ha', hc3⟩ := h 3 xs[3] (List.getElem?_eq_getElem (by omega))
  rw [ha] at ha'
  cases ha'
  refine ⟨b, o, ha, hE.cell_some hc (fun e => ?_)⟩
  have e2 : b = tb := e
  subst e2
  rw [hB.cell (o + 3), List.getElem?_eq_none (by omega)] at hc3
  cases hc3
theorem Lies.small {W W' : World} {tb : Nat} {cs0 : List Value} {T : TypeId} (hB : BlockIs W tb cs0 T) (hl : cs0.length < 4) (hE : Ext (fun k => k = tb) W W') : ∀ {d : Nat} {v : V} {cs : List Value}, Lies W d v cs → Lies W' d v cs
  | 0, _, _, h => h
  | d + 1, v, cs, h => by
    obtain ⟨a, c, rows, h1, h2, h3, h4, h5, h6, h7, h8, h9⟩ := h
    refine ⟨a, c, rows, h1, h2, h3, row_small hB hl hE h4 ?_, h5, h6, h7, fun i u r hu hr => Lies.small hB hl hE (h8 i u r hu hr), h9⟩
    cases rows with
    | nil => exact Or.inl rfl
    | cons r rows => exact Or.inr (by rw [List.flatMap_cons, List.length_append, show (id r).length = 4 from h3 r List.mem_cons_self]; omega)
theorem OKids.small {W W' : World} {tb : Nat} {cs0 : List Value} {T : TypeId} (hB : BlockIs W tb cs0 T) (hl : cs0.length < 4) (hE : Ext (fun k => k = tb) W W') {d : Nat} {l : List Ob} {a : Option Addr} {rows : List (List Value)} (h : OKids W d l a rows) : OKids W' d l a rows := by
  refine ⟨h.len, h.six, row_small hB hl hE h.row ?_, fun i o r ho hr => ?_⟩
  · have h6 := h.six
    cases rows with
    | nil => exact Or.inl rfl
    | cons r rows => exact Or.inr (by rw [List.flatMap_cons, List.length_append, show (id r).length = 6 from h6 r List.mem_cons_self]; omega)
  · obtain ⟨cs, h1, h2⟩ := h.lies i o r ho hr
    exact ⟨cs, h1, h2.small hB hl hE⟩
def SmallTo (w : World) (e : Ending) (w' : World) : Prop := ∃ b rows, e = .returned (.agg #[.slice (some ⟨b, 0, none⟩) 3 3, .int .i64 1]) ∧ OKids w' 4 smallL (some ⟨b, 0, none⟩) rows ∧ Pure w w'
theorem size24d : (Try.prog.info? 24).map (·.size) = some 2 := by kernel_rfl
theorem one2d (a : Option Addr) (m c : Nat) (x : Int) : ((#[Value.slice a m c, .int .i64 x] : Array Value).all fun u => u.oneCell') = true := all_oneCell_toArray (by intro u hu; simp only [List.mem_cons, List.not_mem_nil, or_false] at hu; rcases hu with rfl | rfl <;> rfl)
theorem row_of_blk {W : World} {b : Nat} {cs : List Value} {T : TypeId} (h : BlockIs W b cs T) : RowOf W (some ⟨b, 0, none⟩) cs := fun i u hu => ⟨b, 0, rfl, by rw [Nat.zero_add, h.cell i]; exact hu⟩
theorem name_lies (W : World) (d : Nat) (s : ByteArray) (hs : s.size ≤ maxLen) : Lies W (d + 1) (nameV s) [.int .i64 5, .int .i64 0, .string s, .slice none 0 0] := Lies.leaf W d 5 0 s hs
theorem ref_lies (W : World) (d : Nat) (n : Int) : Lies W (d + 1) (refV n) [.int .i64 8, .int .i64 n, .string ⟨#[]⟩, .slice none 0 0] := Lies.leaf W d 8 n ⟨#[]⟩ (by decide)
theorem int_lies (W : World) (d : Nat) (n : Int) : Lies W (d + 1) (intV n) [.int .i64 2, .int .i64 n, .string ⟨#[]⟩, .slice none 0 0] := Lies.leaf W d 2 n ⟨#[]⟩ (by decide)
/-- DictOf of cells that were laid behind a world -/
theorem dictof_lies {W W5 : World} (d : Nat) (l : List V) (xs : List Value) (n : Nat) (h5 : W5 = W.alloc (.cells xs.toArray 41)) (hf : Fit W5 (d + 1) l xs) (hn : n = l.length) (hl : n ≤ 80000) :
    Calls Try.prog 50 #[.slice (some ⟨W.heap.size, 0, none⟩) n n] W5 (fun e w' => ∃ k m s a q c, e = .returned (.agg #[.int .i64 k, .int .i64 m, .string s, .slice a q c]) ∧ Lies w' (d + 2) (dictL l emptyD) [.int .i64 k, .int .i64 m, .string s, .slice a q c] ∧ Pure W w') := by
  refine (dictof_any d l xs _ n n W5 hf (by rw [h5]; exact row_at xs rfl rfl) hn hl).mono ?_
  rintro e w' ⟨cs, rfl, hT, hP, _⟩
  have hL := hT.lies hP
  obtain ⟨a, c, _, hcs, _⟩ := hT.parts
  subst hcs
  exact ⟨_, _, _, _, _, _, rfl, hL, by rw [h5] at hP; exact (ext_alloc W _).pure hP⟩
set_option maxHeartbeats 4000000 in
set_option maxRecDepth 100000 in
theorem small_any (w : World) : Calls Try.prog 21 #[] w (SmallTo w) := by
  obtain ⟨w0, hw0⟩ : ∃ z, z = w.alloc (.cells #[.slice none 0 0, .int .i64 0] 24) := ⟨_, rfl⟩
  have hB0 : BlockIs w0 w.heap.size [.slice none 0 0, .int .i64 0] 24 := by rw [hw0]; exact BlockIs.new w _ _
  have hP00 : Pure w w0 := by rw [hw0]; exact ext_alloc w _
  obtain ⟨tb, htb⟩ : ∃ z, z = w.heap.size := ⟨_, rfl⟩
  have HW0 := Lib.hid hw0
  have HTb := Lib.hid htb
  rw [← htb] at hB0
  clear hw0 htb
  go_enter Try.func21, Try.ntmps21
  go_wp2_with fail
  rw [← HW0.out, ← HTb.out]
  have HP0 : Hid (Pure w0 w0) := Lib.hid (Ext.refl _ _)
  refine (name_any ⟨#[84, 121, 112, 101]⟩ w0).mono ?_
  rintro e w1 ⟨rfl, hQ⟩
  have HP0' := Lib.hid (HP0.out.pure hQ)
  clear HP0
  have HP0 := HP0'
  clear HP0'
  clear hQ
  go_wp2_with fail
  refine (name_any ⟨#[67, 97, 116, 97, 108, 111, 103]⟩ w1).mono ?_
  rintro e w2 ⟨rfl, hQ⟩
  have HP0' := Lib.hid (HP0.out.pure hQ)
  clear HP0
  have HP0 := HP0'
  clear HP0'
  clear hQ
  go_wp2_with fail
  refine (name_any ⟨#[80, 97, 103, 101, 115]⟩ w2).mono ?_
  rintro e w3 ⟨rfl, hQ⟩
  have HP0' := Lib.hid (HP0.out.pure hQ)
  clear HP0
  have HP0 := HP0'
  clear HP0'
  clear hQ
  go_wp2_with fail
  refine (ref_any 2 w3).mono ?_
  rintro e w4 ⟨rfl, hQ⟩
  have HP0' := Lib.hid (HP0.out.pure hQ)
  clear HP0
  have HP0 := HP0'
  clear HP0'
  clear hQ
  go_wp2_with fail
  obtain ⟨xs, hxs⟩ : ∃ z, z = ([.int .i64 5, .int .i64 0, .string ⟨#[84, 121, 112, 101]⟩, .slice none 0 0, .int .i64 5, .int .i64 0, .string ⟨#[67, 97, 116, 97, 108, 111, 103]⟩, .slice none 0 0, .int .i64 5, .int .i64 0, .string ⟨#[80, 97, 103, 101, 115]⟩, .slice none 0 0, .int .i64 8, .int .i64 2, .string ⟨#[]⟩, .slice none 0 0] : List Value) := ⟨_, rfl⟩
  have hDo := dictof_lies (W := w4) 0 smRootL xs 4 rfl (by
    rw [hxs]
    exact (Fit.single (name_lies _ 0 ⟨#[84, 121, 112, 101]⟩ (by decide))).append ((Fit.single (name_lies _ 0 ⟨#[67, 97, 116, 97, 108, 111, 103]⟩ (by decide))).append ((Fit.single (name_lies _ 0 ⟨#[80, 97, 103, 101, 115]⟩ (by decide))).append (Fit.single (ref_lies _ 0 2))))) rfl (by decide)
  rw [hxs] at hDo
  refine hDo.mono ?_
  rintro e w5 ⟨vkr, vnr, vsr, var, vmr, vcr, rfl, hL, hQ⟩
  have HP0' := Lib.hid (HP0.out.pure hQ)
  clear HP0
  have HP0 := HP0'
  clear HP0'
  have HLr := Lib.hid hL
  clear hxs xs hDo hQ hL
  go_wp2_with fail
  obtain ⟨w6, hwn⟩ : ∃ z, z = w5.alloc (.cells #[.int .i64 vkr, .int .i64 vnr, .string vsr, .slice var vmr vcr] 41) := ⟨_, rfl⟩
  have HBr : Hid (BlockIs w6 w5.heap.size [.int .i64 vkr, .int .i64 vnr, .string vsr, .slice var vmr vcr] 41) := Lib.hid (by rw [hwn]; exact BlockIs.new _ _ _)
  have hQ : Pure w5 w6 := by rw [hwn]; exact ext_alloc _ _
  obtain ⟨br, hbn⟩ : ∃ z, z = w5.heap.size := ⟨_, rfl⟩
  rw [← hbn] at HBr
  rw [← hwn, ← hbn]
  have HP0' := Lib.hid (HP0.out.pure hQ)
  have HLr' := Lib.hid (HLr.out.pure hQ)
  clear HP0
  have HP0 := HP0'
  clear HP0'
  clear HLr
  have HLr := HLr'
  clear HLr'
  clear hwn hbn hQ
  refine (name_any ⟨#[84, 121, 112, 101]⟩ w6).mono ?_
  rintro e w7 ⟨rfl, hQ⟩
  have HP0' := Lib.hid (HP0.out.pure hQ)
  have HLr' := Lib.hid (HLr.out.pure hQ)
  have HBr' := Lib.hid (HBr.out.ext hQ id)
  clear HP0
  have HP0 := HP0'
  clear HP0'
  clear HLr
  have HLr := HLr'
  clear HLr'
  clear HBr
  have HBr := HBr'
  clear HBr'
  clear hQ
  go_wp2_with fail
  refine (name_any ⟨#[80, 97, 103, 101, 115]⟩ w7).mono ?_
  rintro e w8 ⟨rfl, hQ⟩
  have HP0' := Lib.hid (HP0.out.pure hQ)
  have HLr' := Lib.hid (HLr.out.pure hQ)
  have HBr' := Lib.hid (HBr.out.ext hQ id)
  clear HP0
  have HP0 := HP0'
  clear HP0'
  clear HLr
  have HLr := HLr'
  clear HLr'
  clear HBr
  have HBr := HBr'
  clear HBr'
  clear hQ
  go_wp2_with fail
  refine (name_any ⟨#[75, 105, 100, 115]⟩ w8).mono ?_
  rintro e w9 ⟨rfl, hQ⟩
  have HP0' := Lib.hid (HP0.out.pure hQ)
  have HLr' := Lib.hid (HLr.out.pure hQ)
  have HBr' := Lib.hid (HBr.out.ext hQ id)
  clear HP0
  have HP0 := HP0'
  clear HP0'
  clear HLr
  have HLr := HLr'
  clear HLr'
  clear HBr
  have HBr := HBr'
  clear HBr'
  clear hQ
  go_wp2_with fail
  refine (ref_any 3 w9).mono ?_
  rintro e w10 ⟨rfl, hQ⟩
  have HP0' := Lib.hid (HP0.out.pure hQ)
  have HLr' := Lib.hid (HLr.out.pure hQ)
  have HBr' := Lib.hid (HBr.out.ext hQ id)
  clear HP0
  have HP0 := HP0'
  clear HP0'
  clear HLr
  have HLr := HLr'
  clear HLr'
  clear HBr
  have HBr := HBr'
  clear HBr'
  clear hQ
  go_wp2_with fail
  obtain ⟨w11, hwn⟩ : ∃ z, z = w10.alloc (.cells #[.int .i64 8, .int .i64 3, .string ⟨#[]⟩, .slice none 0 0] 41) := ⟨_, rfl⟩
  have HBk : Hid (BlockIs w11 w10.heap.size [.int .i64 8, .int .i64 3, .string ⟨#[]⟩, .slice none 0 0] 41) := Lib.hid (by rw [hwn]; exact BlockIs.new _ _ _)
  have hQ : Pure w10 w11 := by rw [hwn]; exact ext_alloc _ _
  obtain ⟨bk, hbn⟩ : ∃ z, z = w10.heap.size := ⟨_, rfl⟩
  rw [← hbn] at HBk
  rw [← hwn, ← hbn]
  have HP0' := Lib.hid (HP0.out.pure hQ)
  have HLr' := Lib.hid (HLr.out.pure hQ)
  have HBr' := Lib.hid (HBr.out.ext hQ id)
  clear HP0
  have HP0 := HP0'
  clear HP0'
  clear HLr
  have HLr := HLr'
  clear HLr'
  clear HBr
  have HBr := HBr'
  clear HBr'
  clear hwn hbn hQ
  refine (name_any ⟨#[67, 111, 117, 110, 116]⟩ w11).mono ?_
  rintro e w12 ⟨rfl, hQ⟩
  have HP0' := Lib.hid (HP0.out.pure hQ)
  have HLr' := Lib.hid (HLr.out.pure hQ)
  have HBr' := Lib.hid (HBr.out.ext hQ id)
  have HBk' := Lib.hid (HBk.out.ext hQ id)
  clear HP0
  have HP0 := HP0'
  clear HP0'
  clear HLr
  have HLr := HLr'
  clear HLr'
  clear HBr
  have HBr := HBr'
  clear HBr'
  clear HBk
  have HBk := HBk'
  clear HBk'
  clear hQ
  go_wp2_with fail
  refine (int_any 1 w12).mono ?_
  rintro e w13 ⟨rfl, hQ⟩
  have HP0' := Lib.hid (HP0.out.pure hQ)
  have HLr' := Lib.hid (HLr.out.pure hQ)
  have HBr' := Lib.hid (HBr.out.ext hQ id)
  have HBk' := Lib.hid (HBk.out.ext hQ id)
  clear HP0
  have HP0 := HP0'
  clear HP0'
  clear HLr
  have HLr := HLr'
  clear HLr'
  clear HBr
  have HBr := HBr'
  clear HBr'
  clear HBk
  have HBk := HBk'
  clear HBk'
  clear hQ
  go_wp2_with fail
  obtain ⟨xs, hxs⟩ : ∃ z, z = ([.int .i64 5, .int .i64 0, .string ⟨#[84, 121, 112, 101]⟩, .slice none 0 0, .int .i64 5, .int .i64 0, .string ⟨#[80, 97, 103, 101, 115]⟩, .slice none 0 0, .int .i64 5, .int .i64 0, .string ⟨#[75, 105, 100, 115]⟩, .slice none 0 0, .int .i64 6, .int .i64 0, .string ⟨#[]⟩, .slice (some ⟨bk, 0, none⟩) 1 1, .int .i64 5, .int .i64 0, .string ⟨#[67, 111, 117, 110, 116]⟩, .slice none 0 0, .int .i64 2, .int .i64 1, .string ⟨#[]⟩, .slice none 0 0] : List Value) := ⟨_, rfl⟩
  have hDo := dictof_lies (W := w13) 1 smNodeL xs 6 rfl (by
    rw [hxs]
    exact (Fit.single (name_lies _ 1 ⟨#[84, 121, 112, 101]⟩ (by decide))).append ((Fit.single (name_lies _ 1 ⟨#[80, 97, 103, 101, 115]⟩ (by decide))).append ((Fit.single (name_lies _ 1 ⟨#[75, 105, 100, 115]⟩ (by decide))).append ((Fit.single (Fit.lies (l := [refV 3]) (Fit.single (ref_lies _ 0 3)) (row_of_blk (HBk.out.alloc _)) 6 0 ⟨#[]⟩ 1 (Nat.le_refl _) (by decide) (fun h => by cases h) (by decide))).append ((Fit.single (name_lies _ 1 ⟨#[67, 111, 117, 110, 116]⟩ (by decide))).append (Fit.single (int_lies _ 1 1))))))) rfl (by decide)
  rw [hxs] at hDo
  refine hDo.mono ?_
  rintro e w14 ⟨vkn, vnn, vsn, van, vmn, vcn, rfl, hL, hQ⟩
  have HP0' := Lib.hid (HP0.out.pure hQ)
  have HLr' := Lib.hid (HLr.out.pure hQ)
  have HBr' := Lib.hid (HBr.out.ext hQ id)
  have HBk' := Lib.hid (HBk.out.ext hQ id)
  clear HP0
  have HP0 := HP0'
  clear HP0'
  clear HLr
  have HLr := HLr'
  clear HLr'
  clear HBr
  have HBr := HBr'
  clear HBr'
  clear HBk
  have HBk := HBk'
  clear HBk'
  have HLn := Lib.hid hL
  clear hxs xs hDo hQ hL
  go_wp2_with fail
  obtain ⟨w15, hwn⟩ : ∃ z, z = w14.alloc (.cells #[.int .i64 vkn, .int .i64 vnn, .string vsn, .slice van vmn vcn] 41) := ⟨_, rfl⟩
  have HBn : Hid (BlockIs w15 w14.heap.size [.int .i64 vkn, .int .i64 vnn, .string vsn, .slice van vmn vcn] 41) := Lib.hid (by rw [hwn]; exact BlockIs.new _ _ _)
  have hQ : Pure w14 w15 := by rw [hwn]; exact ext_alloc _ _
  obtain ⟨bn, hbn⟩ : ∃ z, z = w14.heap.size := ⟨_, rfl⟩
  rw [← hbn] at HBn
  rw [← hwn, ← hbn]
  have HP0' := Lib.hid (HP0.out.pure hQ)
  have HLr' := Lib.hid (HLr.out.pure hQ)
  have HBr' := Lib.hid (HBr.out.ext hQ id)
  have HBk' := Lib.hid (HBk.out.ext hQ id)
  have HLn' := Lib.hid (HLn.out.pure hQ)
  clear HP0
  have HP0 := HP0'
  clear HP0'
  clear HLr
  have HLr := HLr'
  clear HLr'
  clear HBr
  have HBr := HBr'
  clear HBr'
  clear HBk
  have HBk := HBk'
  clear HBk'
  clear HLn
  have HLn := HLn'
  clear HLn'
  clear hwn hbn hQ
  refine (name_any ⟨#[84, 121, 112, 101]⟩ w15).mono ?_
  rintro e w16 ⟨rfl, hQ⟩
  have HP0' := Lib.hid (HP0.out.pure hQ)
  have HLr' := Lib.hid (HLr.out.pure hQ)
  have HBr' := Lib.hid (HBr.out.ext hQ id)
  have HBk' := Lib.hid (HBk.out.ext hQ id)
  have HLn' := Lib.hid (HLn.out.pure hQ)
  have HBn' := Lib.hid (HBn.out.ext hQ id)
  clear HP0
  have HP0 := HP0'
  clear HP0'
  clear HLr
  have HLr := HLr'
  clear HLr'
  clear HBr
  have HBr := HBr'
  clear HBr'
  clear HBk
  have HBk := HBk'
  clear HBk'
  clear HLn
  have HLn := HLn'
  clear HLn'
  clear HBn
  have HBn := HBn'
  clear HBn'
  clear hQ
  go_wp2_with fail
  refine (name_any ⟨#[80, 97, 103, 101]⟩ w16).mono ?_
  rintro e w17 ⟨rfl, hQ⟩
  have HP0' := Lib.hid (HP0.out.pure hQ)
  have HLr' := Lib.hid (HLr.out.pure hQ)
  have HBr' := Lib.hid (HBr.out.ext hQ id)
  have HBk' := Lib.hid (HBk.out.ext hQ id)
  have HLn' := Lib.hid (HLn.out.pure hQ)
  have HBn' := Lib.hid (HBn.out.ext hQ id)
  clear HP0
  have HP0 := HP0'
  clear HP0'
  clear HLr
  have HLr := HLr'
  clear HLr'
  clear HBr
  have HBr := HBr'
  clear HBr'
  clear HBk
  have HBk := HBk'
  clear HBk'
  clear HLn
  have HLn := HLn'
  clear HLn'
  clear HBn
  have HBn := HBn'
  clear HBn'
  clear hQ
  go_wp2_with fail
  refine (name_any ⟨#[80, 97, 114, 101, 110, 116]⟩ w17).mono ?_
  rintro e w18 ⟨rfl, hQ⟩
  have HP0' := Lib.hid (HP0.out.pure hQ)
  have HLr' := Lib.hid (HLr.out.pure hQ)
  have HBr' := Lib.hid (HBr.out.ext hQ id)
  have HBk' := Lib.hid (HBk.out.ext hQ id)
  have HLn' := Lib.hid (HLn.out.pure hQ)
  have HBn' := Lib.hid (HBn.out.ext hQ id)
  clear HP0
  have HP0 := HP0'
  clear HP0'
  clear HLr
  have HLr := HLr'
  clear HLr'
  clear HBr
  have HBr := HBr'
  clear HBr'
  clear HBk
  have HBk := HBk'
  clear HBk'
  clear HLn
  have HLn := HLn'
  clear HLn'
  clear HBn
  have HBn := HBn'
  clear HBn'
  clear hQ
  go_wp2_with fail
  refine (ref_any 2 w18).mono ?_
  rintro e w19 ⟨rfl, hQ⟩
  have HP0' := Lib.hid (HP0.out.pure hQ)
  have HLr' := Lib.hid (HLr.out.pure hQ)
  have HBr' := Lib.hid (HBr.out.ext hQ id)
  have HBk' := Lib.hid (HBk.out.ext hQ id)
  have HLn' := Lib.hid (HLn.out.pure hQ)
  have HBn' := Lib.hid (HBn.out.ext hQ id)
  clear HP0
  have HP0 := HP0'
  clear HP0'
  clear HLr
  have HLr := HLr'
  clear HLr'
  clear HBr
  have HBr := HBr'
  clear HBr'
  clear HBk
  have HBk := HBk'
  clear HBk'
  clear HLn
  have HLn := HLn'
  clear HLn'
  clear HBn
  have HBn := HBn'
  clear HBn'
  clear hQ
  go_wp2_with fail
  obtain ⟨xs, hxs⟩ : ∃ z, z = ([.int .i64 5, .int .i64 0, .string ⟨#[84, 121, 112, 101]⟩, .slice none 0 0, .int .i64 5, .int .i64 0, .string ⟨#[80, 97, 103, 101]⟩, .slice none 0 0, .int .i64 5, .int .i64 0, .string ⟨#[80, 97, 114, 101, 110, 116]⟩, .slice none 0 0, .int .i64 8, .int .i64 2, .string ⟨#[]⟩, .slice none 0 0] : List Value) := ⟨_, rfl⟩
  have hDo := dictof_lies (W := w19) 0 smPageL xs 4 rfl (by
    rw [hxs]
    exact (Fit.single (name_lies _ 0 ⟨#[84, 121, 112, 101]⟩ (by decide))).append ((Fit.single (name_lies _ 0 ⟨#[80, 97, 103, 101]⟩ (by decide))).append ((Fit.single (name_lies _ 0 ⟨#[80, 97, 114, 101, 110, 116]⟩ (by decide))).append (Fit.single (ref_lies _ 0 2))))) rfl (by decide)
  rw [hxs] at hDo
  refine hDo.mono ?_
  rintro e w20 ⟨vkp, vnp, vsp, vap, vmp, vcp, rfl, hL, hQ⟩
  have HP0' := Lib.hid (HP0.out.pure hQ)
  have HLr' := Lib.hid (HLr.out.pure hQ)
  have HBr' := Lib.hid (HBr.out.ext hQ id)
  have HBk' := Lib.hid (HBk.out.ext hQ id)
  have HLn' := Lib.hid (HLn.out.pure hQ)
  have HBn' := Lib.hid (HBn.out.ext hQ id)
  clear HP0
  have HP0 := HP0'
  clear HP0'
  clear HLr
  have HLr := HLr'
  clear HLr'
  clear HBr
  have HBr := HBr'
  clear HBr'
  clear HBk
  have HBk := HBk'
  clear HBk'
  clear HLn
  have HLn := HLn'
  clear HLn'
  clear HBn
  have HBn := HBn'
  clear HBn'
  have HLp := Lib.hid hL
  clear hxs xs hDo hQ hL
  have cr0 : w20.cell? ⟨br, 0, none⟩ = some (.int .i64 vkr) := HBr.out.cell 0
  have cr1 : w20.cell? ⟨br, 1, none⟩ = some (.int .i64 vnr) := HBr.out.cell 1
  have cr2 : w20.cell? ⟨br, 2, none⟩ = some (.string vsr) := HBr.out.cell 2
  have cr3 : w20.cell? ⟨br, 3, none⟩ = some (.slice var vmr vcr) := HBr.out.cell 3
  have cn0 : w20.cell? ⟨bn, 0, none⟩ = some (.int .i64 vkn) := HBn.out.cell 0
  have cn1 : w20.cell? ⟨bn, 1, none⟩ = some (.int .i64 vnn) := HBn.out.cell 1
  have cn2 : w20.cell? ⟨bn, 2, none⟩ = some (.string vsn) := HBn.out.cell 2
  have cn3 : w20.cell? ⟨bn, 3, none⟩ = some (.slice van vmn vcn) := HBn.out.cell 3
  have hlr : br < w20.heap.size := HBr.out.lt
  have hln : bn < w20.heap.size := HBn.out.lt
  obtain ⟨wA, hwA⟩ : ∃ z, z = (w20.alloc (.cells #[.int .i64 vkp, .int .i64 vnp, .string vsp, .slice vap vmp vcp] 41)).alloc (.cells #[.int .i64 vkr, .int .i64 vnr, .string vsr, .slice var vmr vcr, .bool false, .string ⟨#[]⟩, .int .i64 vkn, .int .i64 vnn, .string vsn, .slice van vmn vcn, .bool false, .string ⟨#[]⟩, .int .i64 vkp, .int .i64 vnp, .string vsp, .slice vap vmp vcp, .bool false, .string ⟨#[]⟩] 43) := ⟨_, rfl⟩
  obtain ⟨bo, hbo⟩ : ∃ z, z = w20.heap.size + 1 := ⟨_, rfl⟩
  have hQ : Pure w20 wA := by rw [hwA]; exact (ext_alloc _ _).pure (ext_alloc _ _)
  have hBo : BlockIs wA bo [.int .i64 vkr, .int .i64 vnr, .string vsr, .slice var vmr vcr, .bool false, .string ⟨#[]⟩, .int .i64 vkn, .int .i64 vnn, .string vsn, .slice van vmn vcn, .bool false, .string ⟨#[]⟩, .int .i64 vkp, .int .i64 vnp, .string vsp, .slice vap vmp vcp, .bool false, .string ⟨#[]⟩] 43 := by
    have h := BlockIs.new (w20.alloc (.cells #[.int .i64 vkp, .int .i64 vnp, .string vsp, .slice vap vmp vcp] 41)) [.int .i64 vkr, .int .i64 vnr, .string vsr, .slice var vmr vcr, .bool false, .string ⟨#[]⟩, .int .i64 vkn, .int .i64 vnn, .string vsn, .slice van vmn vcn, .bool false, .string ⟨#[]⟩, .int .i64 vkp, .int .i64 vnp, .string vsp, .slice vap vmp vcp, .bool false, .string ⟨#[]⟩] 43
    rw [World.size_alloc, ← hbo] at h
    rw [hwA]; exact h
  have hB0e := hB0.ext HP0.out id
  have hBA := hB0e.ext hQ id
  have HWA : Hid ((w20.alloc (.cells #[.int .i64 vkp, .int .i64 vnp, .string vsp, .slice vap vmp vcp] 41)).alloc (.cells #[.int .i64 vkr, .int .i64 vnr, .string vsr, .slice var vmr vcr, .bool false, .string ⟨#[]⟩, .int .i64 vkn, .int .i64 vnn, .string vsn, .slice van vmn vcn, .bool false, .string ⟨#[]⟩, .int .i64 vkp, .int .i64 vnp, .string vsp, .slice vap vmp vcp, .bool false, .string ⟨#[]⟩] 43) = wA) := Lib.hid hwA.symm
  have HBo : Hid (bo = w20.heap.size + 1) := Lib.hid hbo
  have HTh : Hid (wA.there tb 0 (#[.slice (some ⟨bo, 0, none⟩) 3 3, .int .i64 1] : Array Value).size) := Lib.hid (hBA.there 2 rfl)
  have HSi : Hid ((Try.prog.info? 24).map (·.size) = some (#[.slice (some ⟨bo, 0, none⟩) 3 3, .int .i64 1] : Array Value).size) := Lib.hid size24d
  have HOn : Hid (((#[.slice (some ⟨bo, 0, none⟩) 3 3, .int .i64 1] : Array Value).all fun u => u.oneCell') = true) := Lib.hid (one2d _ _ _ _)
  have HB9 := Lib.hid (hBA.setAll [.slice (some ⟨bo, 0, none⟩) 3 3, .int .i64 1] rfl)
  have HX9 : Hid (Ext (fun k => k = tb) wA (wA.setCells tb 0 [.slice (some ⟨bo, 0, none⟩) 3 3, .int .i64 1])) := Lib.hid (Ext.setCells _ 0 _ (Ext.refl _ _) (fun _ => rfl))
  have HPA : Hid (Pure w wA) := Lib.hid ((hP00.pure HP0.out).pure hQ)
  have HBoo := Lib.hid hBo
  have HBAo := Lib.hid hBA
  have HLt : Hid (tb < bo) := Lib.hid (by rw [hbo]; have := hB0e.lt; omega)
  have hlr := HLr.out.pure hQ
  have hln := HLn.out.pure hQ
  have hlp := HLp.out.pure hQ
  have HOK : Hid (OKids wA 4 smallL (some ⟨bo, 0, none⟩) [[.int .i64 vkr, .int .i64 vnr, .string vsr, .slice var vmr vcr, .bool false, .string ⟨#[]⟩], [.int .i64 vkn, .int .i64 vnn, .string vsn, .slice van vmn vcn, .bool false, .string ⟨#[]⟩], [.int .i64 vkp, .int .i64 vnp, .string vsp, .slice vap vmp vcp, .bool false, .string ⟨#[]⟩]]) := Lib.hid ⟨rfl, by
    intro r hr
    simp only [List.mem_cons, List.not_mem_nil, or_false] at hr
    rcases hr with rfl | rfl | rfl <;> rfl, row_of_blk hBo, by
    intro i o r ho hr
    match i, ho, hr with
    | 0, ho, hr => cases ho; cases hr; exact ⟨_, rfl, hlr.mono (by decide)⟩
    | 1, ho, hr => cases ho; cases hr; exact ⟨_, rfl, hln.mono (by decide)⟩
    | 2, ho, hr => cases ho; cases hr; exact ⟨_, rfl, hlp.mono (by decide)⟩
    | i + 3, ho, hr => simp [smallL] at ho⟩
  clear hB0 hB0e hBo hBA hwA hbo hQ HBr HBn HBk HP0 HLr HLn HLp hP00 hlr hln hlp
  go_wp2_with (with_reducible refine at_store 24 (.tmp 0) (.tmp 48) ?_; rw [HWA.out, ← HBo.out]; refine wpList_store_mid rfl 24 (.tmp 0) (.tmp 48) rfl tb 0 #[.slice (some ⟨bo, 0, none⟩) 3 3, .int .i64 1] rfl rfl HTh.out HSi.out HOn.out ?_)
  refine bodyPost_ret (results_row1 rfl _ _ tb _ [.slice (some ⟨bo, 0, none⟩) 3 3, .int .i64 1] _ rfl HB9.out Try.underlying24 rfl size24d) rfl ?_
  have hX := HX9.out
  have htb := HTb.out
  exact ⟨bo, [[.int .i64 vkr, .int .i64 vnr, .string vsr, .slice var vmr vcr, .bool false, .string ⟨#[]⟩], [.int .i64 vkn, .int .i64 vnn, .string vsn, .slice van vmn vcn, .bool false, .string ⟨#[]⟩], [.int .i64 vkp, .int .i64 vnp, .string vsp, .slice vap vmp vcp, .bool false, .string ⟨#[]⟩]], rfl, OKids.small HBAo.out (by decide) hX HOK.out, HPA.out.trans hX (fun i hi e => by omega)⟩
end Go.Proofs.Ytkkmppalifjgnaa
namespace Go.Proofs.Ytkkmppalifjgnaa
open Go.RowKit Go.Maps
set_option linter.unusedVariables false
set_option linter.unusedSimpArgs false

def strayL : List Ob := smallL ++ [⟨refV 3, false, ⟨#[]⟩⟩]
theorem wk_nodes : (walkP smallL 1).1.nodes = [2] := by decide +kernel
theorem wk_pages : (walkP smallL 1).1.pages = [3] := by decide +kernel
theorem wk_err : (walkP smallL 1).2 = 0 := by decide +kernel
theorem wk_doc : docE smallL 1 = 0 := by decide +kernel
theorem wk_none : docE [] 0 = 23 := by decide +kernel
theorem wk_stray : strayP smallL 1 ⟨[2], [3]⟩ = false := by decide +kernel
theorem wk_stray2 : strayP strayL 1 ⟨[2], [3]⟩ = true := by decide +kernel
theorem wk_doc2 : docE strayL 1 = 26 := by decide +kernel
theorem wk_size : strayL.all (fun u => decide (u.v.size ≤ 100000) && u.v.nums.all (fun x => (Lit.int .i64 x).wf) && decide (u.data.size ≤ maxLen)) = true := by decide +kernel
end Go.Proofs.Ytkkmppalifjgnaa
