/-
  From a row of numbers that came in to bytes.
-/
import Derived.Test.YtclnicnieapojaaWorks
import Derived.Test.YtclnicnieapojaaRows
import Derived.ProofKit
import Derived.OpenShut
import Derived.ShutString
import Derived.ChangeOld
import Derived.Below
namespace Go.Proofs.Ytclnicnieapojaa
open Go.ChangeShapes Go.WideShapes Go.ChangeAt Go.RowKit
set_option linter.unusedVariables false

theorem own : ownKnob Try.prog.godebug = none := by kernel_rfl
theorem laidOut : laidOutB Try.prog = true := by kernel_rfl

def toByte (n : Int) : UInt8 := UInt8.ofNat n.toNat
theorem toByte_toNat {n : Int} (h : (Lit.int .u8 n).wf = true) : ((toByte n).toNat : Int) = n := by
  have hx : 0 ≤ n ∧ n ≤ 255 := by simpa [Lit.wf, IntKind.min, IntKind.max, IntKind.signed, IntKind.bits] using h
  obtain ⟨m, rfl⟩ := Int.eq_ofNat_of_zero_le hx.1
  unfold toByte
  rw [Int.toNat_natCast, UInt8.toNat_ofNat']
  omega
theorem addr_of_cell {w : World} {x : Addr} {i : Nat} {v : Value} (h : w.cell? (x.add i) = some v) (h0 : x.spot = none) : ∃ b o, x = ⟨b, o, none⟩ ∧ w.cell? ⟨b, o + i, none⟩ = some v := by
  obtain ⟨b, o, s⟩ := x
  simp only at h0
  subst h0
  refine ⟨b, o, rfl, ?_⟩
  unfold Addr.add at h
  split at h
  · next e => subst e; exact h
  · exact h
theorem spot_none {w : World} {x : Addr} {v : Value} (h : w.cell? x = some v) : x.spot = none := by
  unfold World.cell? at h
  split at h
  · split at h
    · cases h
    · next hs => simpa using hs
  · cases h

/-- a slice of bytes that came in, known as bytes -/
theorem open_bytes_core {H : Type} {enc : TypeId × Value → H} {W : World} {T : TypeId} {cs : List Value} {x : DataW H × List MemPlace} {fuel base : Nat} {held : Bool}
    (hT : Try.prog.underlying T = some (.slice 5)) (hf : DataW.trod enc Try.prog W base (fun _ => true) held fuel T cs = some x) :
    ∃ (a : Option Addr) (cap : Nat) (l : List UInt8), cs = [.slice a l.length cap] ∧ l.length ≤ cap ∧ cap ≤ maxLen ∧ (a = none → cap = 0) ∧ Bytes W a l := by
  rcases open_ints hT Try.underlying5 (by kernel_rfl) hf with ⟨rfl, _⟩ | ⟨x, len, cap, zs, rfl, _, hl, hm, hz, _, hcell, hwz⟩
  · exact ⟨none, 0, [], rfl, by simp, by simp, fun _ => rfl, fun i hi => by simp at hi⟩
  · have hz' : zs.length = cap := by simpa using hz
    have hlen : ((zs.take len).map toByte).length = len := by simp; omega
    refine ⟨some x, cap, (zs.take len).map toByte, by rw [hlen], by rw [hlen]; exact hl, hm, (fun h => by cases h), fun i hi => ?_⟩
    rw [hlen] at hi
    have hc0 := hcell 0 (by omega)
    have hci := hcell i (by omega)
    obtain ⟨b, o, rfl, hc⟩ := addr_of_cell hci (by simpa [Addr.add] using spot_none hc0)
    refine ⟨b, o, rfl, hc.trans ?_⟩
    have hw := hwz _ (List.getElem_mem (show i < zs.length by omega))
    unfold byV
    have e : ((zs.take len).map toByte).getD i 0 = toByte zs[i] := by simp [List.getD_eq_getElem?_getD, hi, List.getElem?_eq_getElem (show i < zs.length by omega)]
    rw [e, toByte_toNat hw]
    simp [List.getD_eq_getElem?_getD, List.getElem?_eq_getElem (show i < zs.length by omega)]
theorem open_bytes {H : Type} {enc : TypeId × Value → H} {W : World} {T : TypeId} {v : Value} {d : DataW H} {p : List MemPlace} {base : Nat}
    (hv : Value.okWide Try.prog W .any base T v) (hT : Try.prog.underlying T = some (.slice 5)) (h : DataW.Trod enc Try.prog W 0 (fun _ => true) true T v d p) :
    ∃ (a : Option Addr) (cap : Nat) (l : List UInt8), v = .slice a l.length cap ∧ l.length ≤ cap ∧ cap ≤ maxLen ∧ (a = none → cap = 0) ∧ Bytes W a l := by
  obtain ⟨a, len, cap, rfl⟩ := okWide_slice hT hv
  obtain ⟨fuel, hf⟩ := h
  obtain ⟨a', cap', l, hcs, h⟩ := open_bytes_core hT hf
  simp [Value.cells] at hcs
  obtain ⟨rfl, rfl, rfl⟩ := hcs
  exact ⟨a, cap, l, rfl, h⟩
end Go.Proofs.Ytclnicnieapojaa
