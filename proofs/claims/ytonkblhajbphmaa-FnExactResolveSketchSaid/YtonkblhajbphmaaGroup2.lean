/- Contracts of the functions on groups and of some on fields. Conditions: as each theorem says. -/
import Derived.Test.YtonkblhajbphmaaRows
import Derived.Test.YtonkblhajbphmaaGroup
import Derived.Test.YtonkblhajbphmaaEq
import Derived.Deep.Cut
namespace Go.Proofs.Ytonkblhajbphmaa
set_option linter.unusedSimpArgs false
set_option linter.unusedVariables false
open Go.ChangeShapes Go.WideShapes Go.ChangeAt Go.RowKit

theorem laws_toGroup (a b c d : Int) (w : World) : Calls Try.prog 43 #[.agg #[.int .i64 a, .int .i64 b, .int .i64 c, .int .i64 d]] w fun e w' => e = .returned (.agg #[.int .i64 a, .int .i64 b, .int .i64 c, .int .i64 d]) ∧ Below w.heap.size w w' := by
  go_enter Try.func43, Try.ntmps43
  go_wp2
  go_returns
  exact ⟨rfl, (by repeat (first | (with_reducible exact Below.refl _ _) | (with_reducible assumption) | (with_reducible refine balloc ?_ _) | (with_reducible refine bdrew ?_) | (with_reducible refine bdrewN ?_ _) | (with_reducible refine bset ?_ (by first | omega | (simp; done) | (simp; omega)) _) | (with_reducible refine bstep ?_ (by assumption))))⟩
theorem laws_eqGroup (a b c d : Int) (w : World) : Calls Try.prog 32 #[.agg #[.int .i64 a, .int .i64 b, .int .i64 c, .int .i64 d], .agg #[.int .i64 a, .int .i64 b, .int .i64 c, .int .i64 d]] w fun e w' => e = .returned (.bool true) ∧ Below w.heap.size w w' := by
  go_enter Try.func32, Try.ntmps32
  go_wp2
  go_ret
  exact ⟨rfl, (by repeat (first | (with_reducible exact Below.refl _ _) | (with_reducible assumption) | (with_reducible refine balloc ?_ _) | (with_reducible refine bdrew ?_) | (with_reducible refine bdrewN ?_ _) | (with_reducible refine bset ?_ (by first | omega | (simp; done) | (simp; omega)) _) | (with_reducible refine bstep ?_ (by assumption))))⟩
theorem impl_IsValidGroup (c k a t : Int) (w : World) : Calls Try.prog 82 #[.agg #[.int .i64 c, .int .i64 k, .int .i64 a, .int .i64 t]] w fun e w' => e = .returned (.bool (groupOk c k a t)) ∧ Below w.heap.size w w' := by
  cases h2 : inB 1 k 8
  · go_enter Try.func82, Try.ntmps82
    go_wp2_with (first | (go_at_call 37; refine (impl_inside _ _ _ _).mono ?_; rintro e w' ⟨rfl, rfl⟩) | (go_at_call 85; refine (impl_isKind _ _).mono ?_; rintro e w' ⟨rfl, rfl⟩) | (go_at_call 74; refine (impl_IsTincture _ _).mono ?_; rintro e w' ⟨rfl, rfl⟩))
    all_goals go_ret
    all_goals exact ⟨by unfold groupOk; simp_all <;> (intro hh; omega), (by repeat (first | (with_reducible exact Below.refl _ _) | (with_reducible assumption) | (with_reducible refine balloc ?_ _) | (with_reducible refine bdrew ?_) | (with_reducible refine bdrewN ?_ _) | (with_reducible refine bset ?_ (by first | omega | (simp; done) | (simp; omega)) _) | (with_reducible refine bstep ?_ (by assumption))))⟩
  · by_cases hk : k ≤ 3
    · have hl : (att k).length = 2 := by rw [att_len k h2, if_pos hk]
      go_enter Try.func82, Try.ntmps82
      go_wp2_with (first | (go_at_call 37; refine (impl_inside _ _ _ _).mono ?_; rintro e w' ⟨rfl, rfl⟩) | (go_at_call 85; refine (impl_isKind _ _).mono ?_; rintro e w' ⟨rfl, rfl⟩) | (go_at_call 74; refine (impl_IsTincture _ _).mono ?_; rintro e w' ⟨rfl, rfl⟩) | (go_at_call 86; refine (impl_attitudes _ _).mono ?_; rintro e w' ⟨rfl, rfl⟩))
      all_goals go_ret
      all_goals exact ⟨by unfold groupOk; simp_all <;> (intro hh; omega), (by repeat (first | (with_reducible exact Below.refl _ _) | (with_reducible assumption) | (with_reducible refine balloc ?_ _) | (with_reducible refine bdrew ?_) | (with_reducible refine bdrewN ?_ _) | (with_reducible refine bset ?_ (by first | omega | (simp; done) | (simp; omega)) _) | (with_reducible refine bstep ?_ (by assumption))))⟩
    · have hl : (att k).length = 0 := by rw [att_len k h2, if_neg hk]
      go_enter Try.func82, Try.ntmps82
      go_wp2_with (first | (go_at_call 37; refine (impl_inside _ _ _ _).mono ?_; rintro e w' ⟨rfl, rfl⟩) | (go_at_call 85; refine (impl_isKind _ _).mono ?_; rintro e w' ⟨rfl, rfl⟩) | (go_at_call 74; refine (impl_IsTincture _ _).mono ?_; rintro e w' ⟨rfl, rfl⟩) | (go_at_call 86; refine (impl_attitudes _ _).mono ?_; rintro e w' ⟨rfl, rfl⟩))
      all_goals go_ret
      all_goals exact ⟨by unfold groupOk; simp_all <;> (intro hh; omega), (by repeat (first | (with_reducible exact Below.refl _ _) | (with_reducible assumption) | (with_reducible refine balloc ?_ _) | (with_reducible refine bdrew ?_) | (with_reducible refine bdrewN ?_ _) | (with_reducible refine bset ?_ (by first | omega | (simp; done) | (simp; omega)) _) | (with_reducible refine bstep ?_ (by assumption))))⟩
theorem spec_l4Group (c k a t : Int) (w : World) : Calls Try.prog 64 #[.agg #[.int .i64 c, .int .i64 k, .int .i64 a, .int .i64 t]] w fun e w' => e = .returned (.bool (groupOk c k a t)) ∧ Below w.heap.size w w' := by
  go_enter Try.func64, Try.ntmps64
  go_wp2_with (first | (go_at_call 34; refine (spec_l1In _ _ _ _).mono ?_; rintro e w' ⟨rfl, rfl⟩) | (go_at_call 79; refine (spec_l4Kind _ _).mono ?_; rintro e w' ⟨rfl, rfl⟩) | (go_at_call 66; refine (spec_l2Good _ _).mono ?_; rintro e w' ⟨rfl, rfl⟩) | (go_at_call 80; refine (spec_l4Beast _ _).mono ?_; rintro e w' ⟨rfl, rfl⟩))
  all_goals go_ret
  all_goals exact ⟨by unfold groupOk; simp_all <;> (intro hh; omega), (by repeat (first | (with_reducible exact Below.refl _ _) | (with_reducible assumption) | (with_reducible refine balloc ?_ _) | (with_reducible refine bdrew ?_) | (with_reducible refine bdrewN ?_ _) | (with_reducible refine bset ?_ (by first | omega | (simp; done) | (simp; omega)) _) | (with_reducible refine bstep ?_ (by assumption))))⟩
theorem join_ne {k a t k' a' t' : Int} (he : ¬ (k = k' ∧ a = a' ∧ t = t')) : (k == k' && (a == a' && t == t')) = false := by
  rw [← Bool.not_eq_true]; simpa using he
theorem groupOk_count' {c k a t : Int} (h : groupOk c k a t = true) : 1 ≤ c ∧ c ≤ 6 := by
  unfold groupOk at h
  simp only [Bool.and_eq_true] at h
  exact inB_true.1 h.1
end Go.Proofs.Ytonkblhajbphmaa
