import Derived.Test.YtomcdhljjmnahaaGreatHMemPa
import Derived.Test.YtomcdhljjmnahaaGreatLibVBPa
import Derived.Lib.BufferRead
import Derived.Lib.AtoiErrMem
import Derived.Test.YtomcdhljjmnahaaGreatSqPa
set_option linter.unusedVariables false
set_option linter.unusedSimpArgs false
namespace Go.Proofs.YtomcdhljjmnahaaGreat
open Go.RowKit
def strOf (l : List UInt8) : ByteArray := ⟨l.toArray⟩
theorem strOf_size (l : List UInt8) : (strOf l).size = l.length := by simp [strOf, ByteArray.size]
theorem strOf_list (l : List UInt8) : (strOf l).data.toList = l := by simp [strOf]
theorem conv_txt (w : World) (ad : Option Addr) (c : Nat) (l : List UInt8) (h : Bytes w ad l) : (convert 59 9 (.slice ad l.length c)).run Tryz.prog w = .ok (.string (strOf l)) w := by
 cases l with
 | nil =>
   have hz : ((convert 59 9 (.slice ad 0 c)).run Tryz.prog w) = .ok (.string ⟨#[]⟩) w := by
    cases ad with
    | none => exact Lib.run_convert_nil_bytes w _ _ 5 c Tryz.underlying59 Tryz.underlying5 Tryz.underlying9
    | some a => exact run_convert_bytes_back w _ _ 5 a c [] Tryz.underlying59 Tryz.underlying5 Tryz.underlying9 (fun j hj => by simp at hj)
   exact hz
 | cons x l =>
   obtain ⟨b, o, rfl, _⟩ := h.at 0 (by simp)
   refine run_convert_bytes_back w _ _ 5 ⟨b, o, none⟩ c (x :: l) Tryz.underlying59 Tryz.underlying5 Tryz.underlying9 (fun j hj => ?_)
   obtain ⟨b', o', e, hc⟩ := h.at j hj
   cases e
   rw [addr_add]
   exact hc
theorem conv_bytes (w : World) (s : ByteArray) : (convert 9 59 (.string s)).run Tryz.prog w = .ok (.slice (some ⟨w.heap.size, 0, none⟩) s.size (grownCap w s.size 0 5)) (Lib.bytesWorld w 5 s) :=
 Lib.run_convert_string_bytes w _ _ 5 s Tryz.underlying9 Tryz.underlying59 Tryz.underlying5
theorem conv_pure (w : World) (s : ByteArray) : Pure w (Lib.bytesWorld w 5 s) := Ext.of_below (Lib.bytesWorld_below w _ s)
theorem conv_is (w : World) (s : ByteArray) : Bytes (Lib.bytesWorld w 5 s) (some ⟨w.heap.size, 0, none⟩) s.data.toList := fun i v hv => by
 have hi : i < s.data.toList.length := by have := (List.getElem?_eq_some_iff.1 hv).1; rwa [List.length_map] at this
 have hs : i < s.size := by rw [Array.length_toList] at hi; exact hi
 refine ⟨_, _, rfl, ?_⟩
 rw [Nat.zero_add, Lib.bytesWorld_cell w _ s i hs, ← hv, List.getElem?_map, List.getElem?_eq_getElem hi]
 simp only [List.getD, List.getElem?_eq_getElem hi, Option.getD_some, Option.map_some]
 rfl
theorem conv_cap (w : World) (n : Nat) : n ≤ grownCap w n 0 5 :=
 grownCap_ge w n 0 _
structure Ob where
 v : V11.V
 st : Bool
 data : ByteArray
def nullO : Ob := ⟨.mk 0 0 ⟨#[]⟩ [], false, ⟨#[]⟩⟩
def ObjIs (W : World) (d : Nat) (o : Ob) (cs : List Value) : Prop := ∃ vs, cs = vs ++ [.bool o.st, .string o.data] ∧ V11.Lies W d o.v vs
theorem ObjIs.pure {W W' : World} {d : Nat} {o : Ob} {cs : List Value} (h : ObjIs W d o cs) (hP : Pure W W') : ObjIs W' d o cs := by
 obtain ⟨vs, h1, h2⟩ := h
 exact ⟨vs, h1, h2.pure hP⟩
theorem ObjIs.len {W : World} {d : Nat} {o : Ob} {cs : List Value} (h : ObjIs W d o cs) : cs.length = 6 := by
 obtain ⟨vs, rfl, h2⟩ := h
 rw [List.length_append, h2.len]; rfl
theorem size42 : (Tryz.prog.info? 32).map (·.size) = some 6 := by kernel_rfl
theorem sz42 {cs : List Value} (h : cs.length = 6) : (Tryz.prog.info? 32).map (·.size) = some cs.length := by rw [h]; exact size42
theorem null_lies (W : World) : V11.Lies W 2 nullO.v [.int .i64 0, .int .i64 0, .string ⟨#[]⟩, .slice none 0 0] :=
 (V11.Top.leaf W W 1 0 0 ⟨#[]⟩ (by decide)).lies (Ext.refl _ _)
example (key : ByteArray) (n : Int) : V11.emptyD.put key (V11.intV n) = .mk 7 0 ⟨#[]⟩ [.mk 5 0 key [], V11.intV n] := rfl
