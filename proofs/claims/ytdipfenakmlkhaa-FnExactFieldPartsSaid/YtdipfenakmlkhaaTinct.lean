/- Contracts of the functions on tinctures. Conditions: as each theorem says. -/
import Derived.Test.YtdipfenakmlkhaaRows
import Derived.Test.YtdipfenakmlkhaaPlain
namespace Go.Proofs.Ytdipfenakmlkhaa
set_option linter.unusedSimpArgs false
set_option linter.unusedVariables false
open Go.ChangeShapes Go.WideShapes Go.ChangeAt Go.RowKit

theorem impl_inside (n lo hi : Int) (w : World) : Calls Try.prog 51 #[.int .i64 n, .int .i64 lo, .int .i64 hi] w fun e w' => e = .returned (.bool (inB lo n hi)) ∧ w = w' := by
  unfold inB
  go_enter Try.func51, Try.ntmps51
  go_wp2
  all_goals go_ret
  · exact ⟨by simp [*], rfl⟩
  · exact ⟨by simp [*]; omega, rfl⟩
theorem spec_l1In (n lo hi : Int) (w : World) : Calls Try.prog 55 #[.int .i64 n, .int .i64 lo, .int .i64 hi] w fun e w' => e = .returned (.bool (inB lo n hi)) ∧ w = w' := by
  unfold inB
  go_enter Try.func55, Try.ntmps55
  go_wp2
  all_goals go_ret
  · exact ⟨by simp [*], rfl⟩
  · exact ⟨by simp [*]; omega, rfl⟩
theorem impl_IsTincture (n : Int) (w : World) : Calls Try.prog 53 #[.int .i64 n] w fun e w' => e = .returned (.bool (inB 1 n 9)) ∧ w = w' := by
  go_enter Try.func53, Try.ntmps53
  go_wp2_with (go_at_call 51; refine (impl_inside _ _ _ _).mono ?_; rintro e w' ⟨rfl, rfl⟩)
  go_ret
  exact ⟨rfl, rfl⟩
theorem spec_l2Good (n : Int) (w : World) : Calls Try.prog 57 #[.int .i64 n] w fun e w' => e = .returned (.bool (inB 1 n 9)) ∧ w = w' := by
  go_enter Try.func57, Try.ntmps57
  go_wp2_with (go_at_call 55; refine (spec_l1In _ _ _ _).mono ?_; rintro e w' ⟨rfl, rfl⟩)
  go_ret
  exact ⟨rfl, rfl⟩
theorem impl_tincture (x : Int) (h : inB 1 x 9 = true) (w : World) : Calls Try.prog 70 #[.int .i64 x] w fun e w' => e = .returned (.string (tw x)) ∧ Below w.heap.size w w' := by
  have hx := tw_at x h
  simp only [twords, List.map_cons, List.map_nil] at hx
  obtain ⟨h1, h2⟩ := inB_true.1 h
  clear h
  go_enter Try.func70, Try.ntmps70
  go_wp2
  go_ret
  exact ⟨rfl, (by repeat (first | (with_reducible exact Below.refl _ _) | (with_reducible assumption) | (with_reducible refine balloc ?_ _) | (with_reducible refine bdrew ?_) | (with_reducible refine bdrewN ?_ _) | (with_reducible refine bset ?_ (by first | omega | (simp; done) | (simp; omega)) _) | (with_reducible refine bstep ?_ (by assumption))))⟩
theorem spec_l2Word (x : Int) (h : inB 1 x 9 = true) (w : World) : Calls Try.prog 59 #[.int .i64 x] w fun e w' => e = .returned (.string (tw x)) ∧ Below w.heap.size w w' := by
  have hx := tw_at x h
  simp only [twords, List.map_cons, List.map_nil] at hx
  obtain ⟨h1, h2⟩ := inB_true.1 h
  clear h
  go_enter Try.func59, Try.ntmps59
  go_wp2
  go_ret
  exact ⟨rfl, (by repeat (first | (with_reducible exact Below.refl _ _) | (with_reducible assumption) | (with_reducible refine balloc ?_ _) | (with_reducible refine bdrew ?_) | (with_reducible refine bdrewN ?_ _) | (with_reducible refine bset ?_ (by first | omega | (simp; done) | (simp; omega)) _) | (with_reducible refine bstep ?_ (by assumption))))⟩
theorem impl_class (x : Int) (w : World) : Calls Try.prog 87 #[.int .i64 x] w fun e w' => e = .returned (.int .i64 (tcl x)) ∧ w = w' := by
  unfold tcl
  go_enter Try.func87, Try.ntmps87
  go_wp2
  all_goals go_ret
  all_goals exact ⟨ret_int (by simp [*]; try omega), rfl⟩
theorem spec_l2Class (x : Int) (w : World) : Calls Try.prog 86 #[.int .i64 x] w fun e w' => e = .returned (.int .i64 (tcl x)) ∧ w = w' := by
  unfold tcl
  go_enter Try.func86, Try.ntmps86
  go_wp2
  all_goals go_ret
  all_goals exact ⟨ret_int (by simp [*]; try omega), rfl⟩
theorem impl_clash (a b : Int) (w : World) : Calls Try.prog 74 #[.int .i64 a, .int .i64 b] w fun e w' => e = .returned (.bool (tclash a b)) ∧ w = w' := by
  unfold tclash
  cases h : (a == b)
  · cases h1 : (tcl a == tcl b)
    all_goals
      go_enter Try.func74, Try.ntmps74
      go_wp2_with (go_at_call 87; refine (impl_class _ _).mono ?_; rintro e w' ⟨rfl, rfl⟩)
      go_ret
      exact ⟨by simp [*], rfl⟩
  · go_enter Try.func74, Try.ntmps74
    go_wp2_with (go_at_call 87; refine (impl_class _ _).mono ?_; rintro e w' ⟨rfl, rfl⟩)
    go_ret
    exact ⟨by simp [*], rfl⟩
theorem spec_l2Clash (a b : Int) (w : World) : Calls Try.prog 73 #[.int .i64 a, .int .i64 b] w fun e w' => e = .returned (.bool (tclash a b)) ∧ w = w' := by
  unfold tclash
  cases h : (a == b)
  · cases h1 : (tcl a == tcl b)
    all_goals
      go_enter Try.func73, Try.ntmps73
      go_wp2_with (go_at_call 86; refine (spec_l2Class _ _).mono ?_; rintro e w' ⟨rfl, rfl⟩)
      go_ret
      exact ⟨by simp [*], rfl⟩
  · go_enter Try.func73, Try.ntmps73
    go_wp2_with (go_at_call 86; refine (spec_l2Class _ _).mono ?_; rintro e w' ⟨rfl, rfl⟩)
    go_ret
    exact ⟨by simp [*], rfl⟩
theorem impl_tinctureWords (w : World) : Calls Try.prog 62 #[] w fun e w' => e = .returned (.slice (some ⟨w.heap.size, 0, none⟩) 9 9) ∧ w.alloc (.cells twArr 9) = w' := by
  go_enter Try.func62, Try.ntmps62
  go_wp2
  go_ret
  exact ⟨rfl, rfl⟩
end Go.Proofs.Ytdipfenakmlkhaa
