/- How the program compares two groups, and two fields. Conditions: none. -/
import Derived.Test.YtbegoaakgbclkaaDoorRows
import Derived.Test.YtbegoaakgbclkaaDoorPlain
import Derived.Laws.StructEq
namespace Go.Proofs.YtbegoaakgbclkaaDoor
set_option linter.unusedSimpArgs false
set_option linter.unusedVariables false
open Go.ChangeShapes Go.WideShapes Go.ChangeAt Go.RowKit

def gEq (c k a t c' k' a' t' : Int) : Bool := c == c' && (k == k' && (a == a' && t == t'))
theorem gEq_same (c k a t : Int) : gEq c k a t c k a t = true := by simp [gEq]
theorem gEq_true {c k a t c' k' a' t' : Int} : gEq c k a t c' k' a' t' = true ↔ c = c' ∧ k = k' ∧ a = a' ∧ t = t' := by simp [gEq]
end Go.Proofs.YtbegoaakgbclkaaDoor
