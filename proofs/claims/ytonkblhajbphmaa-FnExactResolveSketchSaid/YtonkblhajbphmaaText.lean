/- Contracts of the functions on texts of ordinaries and findings. Conditions: as each theorem says. -/
import Derived.Test.YtonkblhajbphmaaRows
import Derived.Test.YtonkblhajbphmaaGroup2
import Derived.Deep.RegionHeld3
import Derived.Deep.QuietTactic
import Derived.BigQuiet
import Derived.Deep.RegionWith
namespace Go.Proofs.Ytonkblhajbphmaa
set_option linter.unusedSimpArgs false
set_option linter.unusedVariables false
open Go.ChangeShapes Go.WideShapes Go.ChangeAt Go.RowKit

def wline (s : ByteArray) (l : Int) : ByteArray := if l = 0 then s else (s ++ ⟨#[32]⟩) ++ lw l
theorem sz1 (b : UInt8) : (⟨#[b]⟩ : ByteArray).size = 1 := rfl
theorem sz2 (b c : UInt8) : (⟨#[b, c]⟩ : ByteArray).size = 2 := rfl
theorem impl_isOrdinary (o l t : Int) (w : World) : Calls Try.prog 69 #[.int .i64 o, .int .i64 l, .int .i64 t] w fun e w' => e = .returned (.bool (ordOk o l t)) ∧ w = w' := by
  go_enter Try.func69, Try.ntmps69
  go_wp2_with (first | (go_at_call 37; refine (impl_inside _ _ _ _).mono ?_; rintro e w' ⟨rfl, rfl⟩) | (go_at_call 81; refine (impl_isLine _ _).mono ?_; rintro e w' ⟨rfl, rfl⟩) | (go_at_call 74; refine (impl_IsTincture _ _).mono ?_; rintro e w' ⟨rfl, rfl⟩))
  all_goals go_ret
  all_goals exact ⟨by unfold ordOk; simp_all, rfl⟩
end Go.Proofs.Ytonkblhajbphmaa
