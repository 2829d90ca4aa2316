/- Contracts of the functions on fields and groups. Conditions: as each theorem says. -/
import Derived.Test.YtbegoaakgbclkaaDoorRows
import Derived.Test.YtbegoaakgbclkaaDoorTinct
namespace Go.Proofs.YtbegoaakgbclkaaDoor
set_option linter.unusedSimpArgs false
set_option linter.unusedVariables false
open Go.ChangeShapes Go.WideShapes Go.ChangeAt Go.RowKit

theorem impl_isLine (n : Int) (w : World) : Calls Tryd.prog 26 #[.int .i64 n] w fun e w' => e = .returned (.bool (inB 0 n 4)) ∧ w = w' := by
  go_enter Tryd.func26, Tryd.ntmps26
  go_wp2_with (go_at_call 25; refine (impl_inside _ _ _ _).mono ?_; rintro e w' ⟨rfl, rfl⟩)
  go_ret
  exact ⟨rfl, rfl⟩
end Go.Proofs.YtbegoaakgbclkaaDoor
