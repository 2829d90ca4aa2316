/- Contracts of the functions on tinctures. Conditions: as each theorem says. -/
import Derived.Test.YtfpjomichfpejaaRows
import Derived.Test.YtfpjomichfpejaaPlain
namespace Go.Proofs.Ytfpjomichfpejaa
set_option linter.unusedSimpArgs false
set_option linter.unusedVariables false
open Go.ChangeShapes Go.WideShapes Go.ChangeAt Go.RowKit

theorem impl_inside (n lo hi : Int) (w : World) : Calls Try.prog 77 #[.int .i64 n, .int .i64 lo, .int .i64 hi] w fun e w' => e = .returned (.bool (inB lo n hi)) ∧ w = w' := by
  unfold inB
  go_enter Try.func77, Try.ntmps77
  go_wp2
  all_goals go_ret
  · exact ⟨by simp [*], rfl⟩
  · exact ⟨by simp [*]; omega, rfl⟩
theorem spec_l1In (n lo hi : Int) (w : World) : Calls Try.prog 71 #[.int .i64 n, .int .i64 lo, .int .i64 hi] w fun e w' => e = .returned (.bool (inB lo n hi)) ∧ w = w' := by
  unfold inB
  go_enter Try.func71, Try.ntmps71
  go_wp2
  all_goals go_ret
  · exact ⟨by simp [*], rfl⟩
  · exact ⟨by simp [*]; omega, rfl⟩
theorem impl_IsTincture (n : Int) (w : World) : Calls Try.prog 69 #[.int .i64 n] w fun e w' => e = .returned (.bool (inB 1 n 9)) ∧ w = w' := by
  go_enter Try.func69, Try.ntmps69
  go_wp2_with (go_at_call 77; refine (impl_inside _ _ _ _).mono ?_; rintro e w' ⟨rfl, rfl⟩)
  go_ret
  exact ⟨rfl, rfl⟩
theorem spec_l2Good (n : Int) (w : World) : Calls Try.prog 67 #[.int .i64 n] w fun e w' => e = .returned (.bool (inB 1 n 9)) ∧ w = w' := by
  go_enter Try.func67, Try.ntmps67
  go_wp2_with (go_at_call 71; refine (spec_l1In _ _ _ _).mono ?_; rintro e w' ⟨rfl, rfl⟩)
  go_ret
  exact ⟨rfl, rfl⟩
theorem impl_class (x : Int) (w : World) : Calls Try.prog 92 #[.int .i64 x] w fun e w' => e = .returned (.int .i64 (tcl x)) ∧ w = w' := by
  unfold tcl
  go_enter Try.func92, Try.ntmps92
  go_wp2
  all_goals go_ret
  all_goals exact ⟨ret_int (by simp [*]; try omega), rfl⟩
theorem spec_l2Class (x : Int) (w : World) : Calls Try.prog 87 #[.int .i64 x] w fun e w' => e = .returned (.int .i64 (tcl x)) ∧ w = w' := by
  unfold tcl
  go_enter Try.func87, Try.ntmps87
  go_wp2
  all_goals go_ret
  all_goals exact ⟨ret_int (by simp [*]; try omega), rfl⟩
theorem impl_clash (a b : Int) (w : World) : Calls Try.prog 85 #[.int .i64 a, .int .i64 b] w fun e w' => e = .returned (.bool (tclash a b)) ∧ w = w' := by
  unfold tclash
  cases h : (a == b)
  · cases h1 : (tcl a == tcl b)
    all_goals
      go_enter Try.func85, Try.ntmps85
      go_wp2_with (go_at_call 92; refine (impl_class _ _).mono ?_; rintro e w' ⟨rfl, rfl⟩)
      go_ret
      exact ⟨by simp [*], rfl⟩
  · go_enter Try.func85, Try.ntmps85
    go_wp2_with (go_at_call 92; refine (impl_class _ _).mono ?_; rintro e w' ⟨rfl, rfl⟩)
    go_ret
    exact ⟨by simp [*], rfl⟩
theorem spec_l2Clash (a b : Int) (w : World) : Calls Try.prog 74 #[.int .i64 a, .int .i64 b] w fun e w' => e = .returned (.bool (tclash a b)) ∧ w = w' := by
  unfold tclash
  cases h : (a == b)
  · cases h1 : (tcl a == tcl b)
    all_goals
      go_enter Try.func74, Try.ntmps74
      go_wp2_with (go_at_call 87; refine (spec_l2Class _ _).mono ?_; rintro e w' ⟨rfl, rfl⟩)
      go_ret
      exact ⟨by simp [*], rfl⟩
  · go_enter Try.func74, Try.ntmps74
    go_wp2_with (go_at_call 87; refine (spec_l2Class _ _).mono ?_; rintro e w' ⟨rfl, rfl⟩)
    go_ret
    exact ⟨by simp [*], rfl⟩
end Go.Proofs.Ytfpjomichfpejaa
