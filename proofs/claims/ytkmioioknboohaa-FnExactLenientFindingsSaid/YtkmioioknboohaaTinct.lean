/- Contracts of the functions on tinctures. Conditions: as each theorem says. -/
import Derived.Test.YtkmioioknboohaaRows
import Derived.Test.YtkmioioknboohaaPlain
namespace Go.Proofs.Ytkmioioknboohaa
set_option linter.unusedSimpArgs false
set_option linter.unusedVariables false
open Go.ChangeShapes Go.WideShapes Go.ChangeAt Go.RowKit

theorem impl_inside (n lo hi : Int) (w : World) : Calls Try.prog 80 #[.int .i64 n, .int .i64 lo, .int .i64 hi] w fun e w' => e = .returned (.bool (inB lo n hi)) ∧ w = w' := by
  unfold inB
  go_enter Try.func80, Try.ntmps80
  go_wp2
  all_goals go_ret
  · exact ⟨by simp [*], rfl⟩
  · exact ⟨by simp [*]; omega, rfl⟩
theorem spec_l1In (n lo hi : Int) (w : World) : Calls Try.prog 64 #[.int .i64 n, .int .i64 lo, .int .i64 hi] w fun e w' => e = .returned (.bool (inB lo n hi)) ∧ w = w' := by
  unfold inB
  go_enter Try.func64, Try.ntmps64
  go_wp2
  all_goals go_ret
  · exact ⟨by simp [*], rfl⟩
  · exact ⟨by simp [*]; omega, rfl⟩
theorem impl_IsTincture (n : Int) (w : World) : Calls Try.prog 79 #[.int .i64 n] w fun e w' => e = .returned (.bool (inB 1 n 9)) ∧ w = w' := by
  go_enter Try.func79, Try.ntmps79
  go_wp2_with (go_at_call 80; refine (impl_inside _ _ _ _).mono ?_; rintro e w' ⟨rfl, rfl⟩)
  go_ret
  exact ⟨rfl, rfl⟩
theorem spec_l2Good (n : Int) (w : World) : Calls Try.prog 68 #[.int .i64 n] w fun e w' => e = .returned (.bool (inB 1 n 9)) ∧ w = w' := by
  go_enter Try.func68, Try.ntmps68
  go_wp2_with (go_at_call 64; refine (spec_l1In _ _ _ _).mono ?_; rintro e w' ⟨rfl, rfl⟩)
  go_ret
  exact ⟨rfl, rfl⟩
theorem impl_class (x : Int) (w : World) : Calls Try.prog 91 #[.int .i64 x] w fun e w' => e = .returned (.int .i64 (tcl x)) ∧ w = w' := by
  unfold tcl
  go_enter Try.func91, Try.ntmps91
  go_wp2
  all_goals go_ret
  all_goals exact ⟨ret_int (by simp [*]; try omega), rfl⟩
theorem spec_l2Class (x : Int) (w : World) : Calls Try.prog 88 #[.int .i64 x] w fun e w' => e = .returned (.int .i64 (tcl x)) ∧ w = w' := by
  unfold tcl
  go_enter Try.func88, Try.ntmps88
  go_wp2
  all_goals go_ret
  all_goals exact ⟨ret_int (by simp [*]; try omega), rfl⟩
theorem impl_clash (a b : Int) (w : World) : Calls Try.prog 75 #[.int .i64 a, .int .i64 b] w fun e w' => e = .returned (.bool (tclash a b)) ∧ w = w' := by
  unfold tclash
  cases h : (a == b)
  · cases h1 : (tcl a == tcl b)
    all_goals
      go_enter Try.func75, Try.ntmps75
      go_wp2_with (go_at_call 91; refine (impl_class _ _).mono ?_; rintro e w' ⟨rfl, rfl⟩)
      go_ret
      exact ⟨by simp [*], rfl⟩
  · go_enter Try.func75, Try.ntmps75
    go_wp2_with (go_at_call 91; refine (impl_class _ _).mono ?_; rintro e w' ⟨rfl, rfl⟩)
    go_ret
    exact ⟨by simp [*], rfl⟩
theorem spec_l2Clash (a b : Int) (w : World) : Calls Try.prog 70 #[.int .i64 a, .int .i64 b] w fun e w' => e = .returned (.bool (tclash a b)) ∧ w = w' := by
  unfold tclash
  cases h : (a == b)
  · cases h1 : (tcl a == tcl b)
    all_goals
      go_enter Try.func70, Try.ntmps70
      go_wp2_with (go_at_call 88; refine (spec_l2Class _ _).mono ?_; rintro e w' ⟨rfl, rfl⟩)
      go_ret
      exact ⟨by simp [*], rfl⟩
  · go_enter Try.func70, Try.ntmps70
    go_wp2_with (go_at_call 88; refine (spec_l2Class _ _).mono ?_; rintro e w' ⟨rfl, rfl⟩)
    go_ret
    exact ⟨by simp [*], rfl⟩
end Go.Proofs.Ytkmioioknboohaa
