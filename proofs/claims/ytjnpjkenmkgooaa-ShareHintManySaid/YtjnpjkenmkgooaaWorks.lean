/-
  Walked: works() returns true, and writes nothing that was there.
-/
import Derived.Test.YtjnpjkenmkgooaaHelp
import Derived.Test.YtjnpjkenmkgooaaBack
import Derived.Test.YtjnpjkenmkgooaaRefDec
namespace Go.Proofs.Ytjnpjkenmkgooaa
open Go.RowKit C27
set_option linter.unusedVariables false

/-- what is told of a table's bytes -/
def TabTo (o a f : Nat) (ls : List Nat) (m : Nat) (w : World) (e : Ending) (w' : World) : Prop := ∃ (la : Option Addr) (lc : Nat), e = .returned (.tuple #[.agg #[.int .i64 o, .int .i64 a, .int .i64 f, .slice la ls.length lc], .int .i64 m, .int .i64 0]) ∧ RowOf w' la (ls.map intV) ∧ (la = none → lc = 0) ∧ ls.length ≤ lc ∧ Pure w w'
theorem tabTo_of {o a f : Nat} {ls : List Nat} {groups : Nat} {signed : List Bool} {behind : List UInt8} {w : World} (hok : okT o a f (ls.map (fun x : Nat => (x : Int))) = true) (hg : groups ≤ 32) {e : Ending} {w' : World} (h : DecRes (bitsOf true (pack true (tabB o a f ls groups signed) ++ behind)) w e w') : TabTo o a f ls (pack true (tabB o a f ls groups signed)).length w e w' := by
  obtain ⟨r, la, lc, he, hT, hR, hn, hl, hP⟩ := h
  obtain rfl := dec_tab hok hg hT
  exact ⟨la, lc, he, hR, hn, hl, hP⟩
theorem decode_tab {o a f : Nat} {ls : List Nat} {groups : Nat} {signed : List Bool} (behind : List UInt8) (bd : Option Addr) (bc : Nat) (bl : List UInt8) (hbl : bl = pack true (tabB o a f ls groups signed) ++ behind) (w : World) (hok : okT o a f (ls.map (fun x : Nat => (x : Int))) = true) (hg : groups ≤ 32) (hb : Bytes w bd bl) (hnil : bd = none → bc = 0) (hle : bl.length ≤ bc) (hl : bl.length ≤ 10000000) :
    Calls Try.prog 13 #[.slice bd bl.length bc] w (TabTo o a f ls (pack true (tabB o a f ls groups signed)).length w) :=
  (decode_any bd bc bl w hb hnil hle hl).mono fun e w' h => tabTo_of (behind := behind) hok hg (by rw [← hbl]; exact h)
theorem refdecode_tab {o a f : Nat} {ls : List Nat} {groups : Nat} {signed : List Bool} (behind : List UInt8) (bd : Option Addr) (bc : Nat) (bl : List UInt8) (hbl : bl = pack true (tabB o a f ls groups signed) ++ behind) (w : World) (hok : okT o a f (ls.map (fun x : Nat => (x : Int))) = true) (hg : groups ≤ 32) (hb : Bytes w bd bl) (hnil : bd = none → bc = 0) (hle : bl.length ≤ bc) (hl : bl.length ≤ 10000000) :
    Calls Try.prog 14 #[.slice bd bl.length bc] w (TabTo o a f ls (pack true (tabB o a f ls groups signed)).length w) :=
  (refdecode_any bd bc bl w hb hnil hle hl).mono fun e w' h => tabTo_of (behind := behind) hok hg (by rw [← hbl]; exact h)
/-- a row of naturals is one of integers -/
def ints (ls : List Nat) : List Int := ls.map (fun x : Nat => (x : Int))
theorem ints_len (ls : List Nat) : (ints ls).length = ls.length := by simp [ints]
theorem row_ints {w : World} {a : Option Addr} {ls : List Nat} (h : RowOf w a (ls.map intV)) : RowOf w a ((ints ls).map numV) := by
  rw [ints, List.map_map]; exact h
theorem w_ok : okT 4 9 1 [7, 8] = true := by decide
theorem w_len : (pack true (tabB 4 9 1 [7, 8] 0 [])).length = 26 := by rw [pack_length]; decide +kernel
theorem w_enc : encB 4 9 1 [7, 8] = pack true (tabB 4 9 1 [7, 8] 0 []) := if_pos w_ok
theorem w_encE : encE 4 9 1 [7, 8] = 0 := if_pos w_ok
set_option maxRecDepth 100000 in
theorem works_any (w : World) : Calls Try.prog 8 #[] w fun e w' => e = .returned (.bool true) ∧ Pure w w' := by
  have HE := Lib.hid (fun (W : World) b (hb : b = W.heap.size) => encode_any 4 9 1 (some ⟨b, 0, none⟩) 2 [7, 8] (W.alloc (.cells #[.int .i64 7, .int .i64 8] 3)) (row_at [.int .i64 7, .int .i64 8] hb.symm rfl) (by decide))
  go_enter Try.func8, Try.ntmps8
  go_wp2_with fail
  refine (HE.out w _ rfl).mono ?_
  rintro e w1 ⟨ra, rc, rfl, hN⟩
  rw [w_enc, w_encE, w_len]
  rw [w_enc] at hN
  have hP1 := (ext_alloc w (.cells #[.int .i64 7, .int .i64 8] 3)).pure hN.ext
  have hD := decode_tab (o := 4) (a := 9) (f := 1) (ls := [7, 8]) (groups := 0) (signed := []) [] ra rc _ (List.append_nil _).symm w1 w_ok (by decide) hN.bytes hN.nil hN.le (by rw [w_len]; decide)
  rw [w_len] at hD
  clear HE
  go_wp2_with fail
  refine hD.mono ?_
  rintro e w2 ⟨la, lc, rfl, hR, hnl, hll, hP⟩
  have hP2 := hP1.pure hP
  clear hP1 hP hD hN
  go_wp2_with fail
  refine (of_any ((4 : Nat) : Int) ((9 : Nat) : Int) ((1 : Nat) : Int) la ([7, 8] : List Nat).length lc _).mono ?_
  rintro e w3 ⟨rfl, hP3⟩
  go_wp2_with fail
  have hR3 : RowOf (w3.alloc (.cells #[.int .i64 7, .int .i64 8] 3)) la (([7, 8] : List Int).map numV) := ((hR.ext (ext_alloc w2 _) (fun _ _ => id)).ext hP3 (fun _ _ => id)).ext (ext_alloc w3 _) (fun _ _ => id)
  have hS := refsame_any 4 9 1 la lc [7, 8] 4 9 1 (some ⟨w3.heap.size, 0, none⟩) 2 [7, 8] (w3.alloc (.cells #[.int .i64 7, .int .i64 8] 3)) hR3 (row_at ([7, 8].map numV) rfl rfl) (by decide) (by decide)
  rw [alike_refl] at hS
  refine hS.mono ?_
  rintro e w4 ⟨rfl, hP4⟩
  go_wp2_with fail
  go_ret
  exact ⟨rfl, (((hP2.alloc _).pure hP3).alloc _).pure hP4⟩
end Go.Proofs.Ytjnpjkenmkgooaa
