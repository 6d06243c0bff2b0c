import Derived.Test.YtnpiemcfbnpfdaaGreatCmpSr
import Derived.Laws.Strings
import Derived.Test.YtnpiemcfbnpfdaaGreatRegListSr
import Derived.Test.YtnpiemcfbnpfdaaGreatSqSr
set_option linter.unusedVariables false
set_option linter.unusedSimpArgs false
namespace Go.Proofs.YtnpiemcfbnpfdaaGreat
open Go.RowKit
theorem Lies.form {W : World} {d : Nat} {v : V} {cs : List Value} (h : Lies W d v cs) : ∃ (k n : Int) (s : ByteArray) (a : Option Addr) (m c : Nat), cs = [.int .i64 k, .int .i64 n, .string s, .slice a m c] := by
 cases d with
 | zero => exact h.elim
 | succ d => obtain ⟨a, c, rows, rfl, _⟩ := h; exact ⟨_, _, _, _, _, _, rfl⟩
