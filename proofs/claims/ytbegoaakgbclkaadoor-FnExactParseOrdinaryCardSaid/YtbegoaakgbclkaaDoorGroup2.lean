/- Contracts of the functions on groups and of some on fields. Conditions: as each theorem says. -/
import Derived.Test.YtbegoaakgbclkaaDoorRows
import Derived.Test.YtbegoaakgbclkaaDoorGroup
import Derived.Test.YtbegoaakgbclkaaDoorEq
import Derived.Deep.Cut
namespace Go.Proofs.YtbegoaakgbclkaaDoor
set_option linter.unusedSimpArgs false
set_option linter.unusedVariables false
open Go.ChangeShapes Go.WideShapes Go.ChangeAt Go.RowKit

theorem join_ne {k a t k' a' t' : Int} (he : ¬ (k = k' ∧ a = a' ∧ t = t')) : (k == k' && (a == a' && t == t')) = false := by
  rw [← Bool.not_eq_true]; simpa using he
theorem groupOk_count' {c k a t : Int} (h : groupOk c k a t = true) : 1 ≤ c ∧ c ≤ 6 := by
  unfold groupOk at h
  simp only [Bool.and_eq_true] at h
  exact inB_true.1 h.1
end Go.Proofs.YtbegoaakgbclkaaDoor
