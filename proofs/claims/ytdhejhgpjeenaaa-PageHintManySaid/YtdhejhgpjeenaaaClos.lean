/-
  Walked: what Encode asks of one page (its closures).
-/
import Derived.Test.YtdhejhgpjeenaaaHints
namespace Go.Proofs.Ytdhejhgpjeenaaa
open Go.RowKit
set_option linter.unusedVariables false

def pageV (o l : Int) (sa : Option Addr) (n sc : Nat) : Value := .agg #[.int .i64 o, .int .i64 l, .slice sa n sc]
def GotInt (x : Int) (w : World) (e : Ending) (w' : World) : Prop := e = .returned (.int .i64 x) ∧ Pure w w'
theorem objects_any (o l : Int) (sa : Option Addr) (n sc : Nat) (w : World) : Calls Try.prog 18 #[pageV o l sa n sc] w (GotInt o w) := by
  unfold pageV
  go_enter Try.func18, Try.ntmps18
  go_wp2_with fail
  go_ret
  exact ⟨rfl, (Ext.refl _ _).alloc _⟩
theorem length_any (o l : Int) (sa : Option Addr) (n sc : Nat) (w : World) : Calls Try.prog 19 #[pageV o l sa n sc] w (GotInt l w) := by
  unfold pageV
  go_enter Try.func19, Try.ntmps19
  go_wp2_with fail
  go_ret
  exact ⟨rfl, (Ext.refl _ _).alloc _⟩
theorem count_any (o l : Int) (sa : Option Addr) (n sc : Nat) (w : World) (hn : n ≤ 1000000000) : Calls Try.prog 20 #[pageV o l sa n sc] w (GotInt n w) := by
  unfold pageV
  go_enter Try.func20, Try.ntmps20
  go_wp2_with fail
  go_ret
  exact ⟨rfl, (Ext.refl _ _).alloc _⟩
theorem above_obj_any (o l : Int) (sa : Option Addr) (n sc : Nat) (lo : Int) (b : Nat) (w : World) (hc : w.cell? ⟨b, 0, none⟩ = some (.int .i64 lo)) (h : lo ≤ o) (h0 : 0 ≤ lo) (h1 : o ≤ 2147483647) : Calls Try.prog 30 #[pageV o l sa n sc, .pointer (some ⟨b, 0, none⟩)] w (GotInt (o - lo) w) := by
  unfold pageV
  have hb : b < w.heap.size := World.block_lt_of_cell? w ⟨b, 0, none⟩ hc
  go_enter Try.func30, Try.ntmps30
  go_wp2_with fail
  go_ret
  exact ⟨rfl, (Ext.refl _ _).alloc _⟩
theorem above_len_any (o l : Int) (sa : Option Addr) (n sc : Nat) (lo : Int) (b : Nat) (w : World) (hc : w.cell? ⟨b, 0, none⟩ = some (.int .i64 lo)) (h : lo ≤ l) (h0 : 0 ≤ lo) (h1 : l ≤ 2147483647) : Calls Try.prog 31 #[pageV o l sa n sc, .pointer (some ⟨b, 0, none⟩)] w (GotInt (l - lo) w) := by
  unfold pageV
  have hb : b < w.heap.size := World.block_lt_of_cell? w ⟨b, 0, none⟩ hc
  go_enter Try.func31, Try.ntmps31
  go_wp2_with fail
  go_ret
  exact ⟨rfl, (Ext.refl _ _).alloc _⟩
theorem id_any (x : Int) (w : World) : Calls Try.prog 33 #[.int .i64 x] w (GotInt x w) := by
  go_enter Try.func33, Try.ntmps33
  go_wp2_with fail
  go_ret
  exact ⟨rfl, Ext.refl _ _⟩
end Go.Proofs.Ytdhejhgpjeenaaa
