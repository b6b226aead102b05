/- Texts held against each other, as the walks read it. -/
import Derived.Test.YtlifdmehejehjaaDoorProg
import Derived.WalkKit
import Derived.Laws.Strings
import Derived.WideShapes
import Derived.WalkLawsBesides
namespace Go.Proofs.YtlifdmehejehjaaDoor
open Go.RowKit
theorem sL_inj {a b : ByteArray} : a.toList = b.toList ↔ a = b := by
  rw [ByteArray.toList_eq, ByteArray.toList_eq]
  exact ⟨Go.WideShapes.bytes_inj, fun h => by rw [h]⟩
theorem sL_no {a b : ByteArray} (h : ¬ a = b) : (a.toList == b.toList) = false := by
  rw [beq_eq_false_iff_ne]; exact fun h' => h (sL_inj.1 h')
theorem sL_yes (a : ByteArray) : (a.toList == a.toList) = true := by simp
theorem strEmpty_no {t : ByteArray} (h : ¬ t = ⟨#[]⟩) : (t.toList == []) = false := by
  have h1 := sL_no h
  simpa using h1
theorem strNe (a b : ByteArray) (w : World) : (binOp .neq 9 (.string a) (.string b)).run Tryd.prog w = .ok (.bool (!decide (a = b))) w := by
  go_simp
  by_cases h : a = b
  · subst h; simp
  · rw [sL_no h]; simp [h]
theorem strEq (a b : ByteArray) (w : World) : (binOp .eql 9 (.string a) (.string b)).run Tryd.prog w = .ok (.bool (decide (a = b))) w := by
  go_simp
  by_cases h : a = b
  · subst h; simp
  · rw [sL_no h]; simp [h]
end Go.Proofs.YtlifdmehejehjaaDoor
