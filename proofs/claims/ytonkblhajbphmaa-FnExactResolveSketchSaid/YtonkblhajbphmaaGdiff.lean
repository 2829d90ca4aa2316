/- Groups compared: none, or valid; differences. Conditions: as each theorem says. -/
import Derived.Test.YtonkblhajbphmaaRows
import Derived.Test.YtonkblhajbphmaaGroup2
import Derived.Test.YtonkblhajbphmaaPlainArms
import Derived.Test.YtonkblhajbphmaaMild
namespace Go.Proofs.Ytonkblhajbphmaa
set_option linter.unusedSimpArgs false
set_option linter.unusedVariables false
open Go.ChangeShapes Go.WideShapes Go.ChangeAt Go.RowKit

theorem gEq_zero (c k a t : Int) : gEq c k a t 0 0 0 0 = gZero c k a t := rfl
theorem spec_l4None (c k a t : Int) (w : World) : Calls Try.prog 63 #[.agg #[.int .i64 c, .int .i64 k, .int .i64 a, .int .i64 t]] w fun e w' => e = .returned (.bool (gZero c k a t)) ∧ Below w.heap.size w w' := by
  have he0 := eqg_group
  have he1 := eql_group
  go_enter Try.func63, Try.ntmps63
  go_wp2
  go_ret
  exact ⟨rfl, (by repeat (first | (with_reducible exact Below.refl _ _) | (with_reducible assumption) | (with_reducible refine balloc ?_ _) | (with_reducible refine bdrew ?_) | (with_reducible refine bdrewN ?_ _) | (with_reducible refine bset ?_ (by first | omega | (simp; done) | (simp; omega)) _) | (with_reducible refine bstep ?_ (by assumption))))⟩
theorem impl_isGroup (c k a t : Int) (w : World) : Calls Try.prog 68 #[.agg #[.int .i64 c, .int .i64 k, .int .i64 a, .int .i64 t]] w fun e w' => e = .returned (.bool (gFine c k a t)) ∧ Below w.heap.size w w' := by
  have he0 := eqg_group
  have he1 := eql_group
  cases hz : gEq c k a t 0 0 0 0
  all_goals
    go_enter Try.func68, Try.ntmps68
    go_wp2_with (go_at_call 82; refine (impl_IsValidGroup _ _ _ _ _).mono ?_; rintro e w1 ⟨rfl, hb1⟩)
    go_ret
    exact ⟨by simp [gFine, ← gEq_zero, hz], (by repeat (first | (with_reducible exact Below.refl _ _) | (with_reducible assumption) | (with_reducible refine balloc ?_ _) | (with_reducible refine bdrew ?_) | (with_reducible refine bdrewN ?_ _) | (with_reducible refine bset ?_ (by first | omega | (simp; done) | (simp; omega)) _) | (with_reducible refine bstep ?_ (by assumption))))⟩
theorem impl_number (b : Bool) (w : World) : Calls Try.prog 70 #[.bool b] w fun e w' => e = .returned (.int .i64 (b2i b)) ∧ w = w' := by
  cases b
  all_goals
    go_enter Try.func70, Try.ntmps70
    go_wp2
    go_ret
    exact ⟨rfl, rfl⟩
/-! ### differences -/
def gdL (c k a t c' k' a' t' : Int) : Int := if gZero c k a t != gZero c' k' a' t' then 2 else b2i (c != c') + (if k != k' then 2 else b2i (a != a')) + b2i (t != t')
def gdV (c k a t c' k' a' t' : Int) : Int := if gFine c k a t && gFine c' k' a' t' then gdL c k a t c' k' a' t' else 0
theorem b2i_range (b : Bool) : 0 ≤ b2i b ∧ b2i b ≤ 1 := by cases b <;> decide
theorem gdL_same (c k a t : Int) : gdL c k a t c k a t = 0 := by simp [gdL, b2i]
theorem gdL_zero {c k a t c' k' a' t' : Int} (h : gEq c k a t c' k' a' t' = false) (hz : (gZero c k a t || gZero c' k' a' t') = true) : gdL c k a t c' k' a' t' = 2 := by
  unfold gdL
  have hne : (gZero c k a t != gZero c' k' a' t') = true := by
    rw [bne_iff_ne]
    intro e
    rw [← e, Bool.or_self] at hz
    rw [hz] at e
    obtain ⟨rfl, rfl, rfl, rfl⟩ := gZero_true.1 hz
    obtain ⟨rfl, rfl, rfl, rfl⟩ := gZero_true.1 e.symm
    rw [gEq_same] at h
    cases h
  rw [hne]
  rfl
theorem gdL_full {c k a t c' k' a' t' : Int} (h : gZero c k a t = false) (h' : gZero c' k' a' t' = false) : gdL c k a t c' k' a' t' = b2i (c != c') + (if k != k' then 2 else b2i (a != a')) + b2i (t != t') := by
  unfold gdL
  rw [h, h']
  rfl
end Go.Proofs.Ytonkblhajbphmaa
