import Derived.Test.YtipmbcalnnomjaaGreatViewPlTu
import Derived.Test.YtipmbcalnnomjaaGreatOrderOfTu
import Derived.Test.YtipmbcalnnomjaaGreatTurnPlTu
import Derived.Test.YtipmbcalnnomjaaGreatSqTu
set_option linter.unusedVariables false
set_option linter.unusedSimpArgs false
namespace Go.Proofs.YtipmbcalnnomjaaGreat
open Go.RowKit
section
variable {p : PartsP} {n : Nat}
theorem turned_main (T : Int → Ob) {main head first : List Int} {i : Nat} {x : Int} (h : main[i]? = some x) : (turnedP T main head first)[i]? = some (T x) := by
 have hi := (List.getElem?_eq_some_iff.1 h).1
 unfold turnedP
 simp only [List.append_assoc]
 rw [List.getElem?_append_left (by rw [List.length_map]; exact hi), List.getElem?_map, h]
 rfl
theorem turned_head (T : Int → Ob) {main head first : List Int} {i : Nat} {x : Int} (h : head[i]? = some x) : (turnedP T main head first)[main.length + 1 + i]? = some (T x) := by
 have hi := (List.getElem?_eq_some_iff.1 h).1
 unfold turnedP
 simp only [List.append_assoc]
 rw [List.getElem?_append_right (by rw [List.length_map]; omega), List.length_map, show main.length + 1 + i - main.length = i + 1 by omega, List.singleton_append, List.getElem?_cons_succ]
 rw [List.getElem?_append_left (by rw [List.length_map]; exact hi), List.getElem?_map, h]
 rfl
theorem turned_first (T : Int → Ob) {main head first : List Int} {i : Nat} {x : Int} (h : first[i]? = some x) : (turnedP T main head first)[main.length + 1 + head.length + 1 + i]? = some (T x) := by
 unfold turnedP
 simp only [List.append_assoc]
 rw [List.getElem?_append_right (by rw [List.length_map]; omega), List.length_map, show main.length + 1 + head.length + 1 + i - main.length = (head.length + 1 + i) + 1 by omega, List.singleton_append, List.getElem?_cons_succ]
 rw [List.getElem?_append_right (by rw [List.length_map]; omega), List.length_map, show head.length + 1 + i - head.length = i + 1 by omega, List.singleton_append, List.getElem?_cons_succ, List.getElem?_map, h]
 rfl
theorem turned_lin (T : Int → Ob) (main head first : List Int) : (turnedP T main head first)[main.length]? = some noOb := by
 unfold turnedP
 simp only [List.append_assoc]
 rw [List.getElem?_append_right (by rw [List.length_map]; omega), List.length_map, Nat.sub_self]
 rfl
theorem turned_hint (T : Int → Ob) (main head first : List Int) : (turnedP T main head first)[main.length + 1 + head.length]? = some noOb := by
 unfold turnedP
 simp only [List.append_assoc]
 rw [List.getElem?_append_right (by rw [List.length_map]; omega), List.length_map, show main.length + 1 + head.length - main.length = head.length + 1 by omega, List.singleton_append, List.getElem?_cons_succ]
 rw [List.getElem?_append_right (by rw [List.length_map]; omega), List.length_map, Nat.sub_self]
 rfl
end
