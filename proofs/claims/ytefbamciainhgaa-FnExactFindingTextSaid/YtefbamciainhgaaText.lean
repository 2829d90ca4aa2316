/- Contracts of the functions on texts of ordinaries and findings. Conditions: as each theorem says. -/
import Derived.Test.YtefbamciainhgaaRows
import Derived.Test.YtefbamciainhgaaGroup2
import Derived.Deep.RegionHeld3
import Derived.Deep.QuietTactic
import Derived.BigQuiet
import Derived.Deep.RegionWith
namespace Go.Proofs.Ytefbamciainhgaa
set_option linter.unusedSimpArgs false
set_option linter.unusedVariables false
open Go.ChangeShapes Go.WideShapes Go.ChangeAt Go.RowKit

def wline (s : ByteArray) (l : Int) : ByteArray := if l = 0 then s else (s ++ ⟨#[32]⟩) ++ lw l
theorem sz1 (b : UInt8) : (⟨#[b]⟩ : ByteArray).size = 1 := rfl
theorem sz2 (b c : UInt8) : (⟨#[b, c]⟩ : ByteArray).size = 2 := rfl
theorem impl_isOrdinary (o l t : Int) (w : World) : Calls Try.prog 102 #[.int .i64 o, .int .i64 l, .int .i64 t] w fun e w' => e = .returned (.bool (ordOk o l t)) ∧ w = w' := by
  go_enter Try.func102, Try.ntmps102
  go_wp2_with (first | (go_at_call 81; refine (impl_inside _ _ _ _).mono ?_; rintro e w' ⟨rfl, rfl⟩) | (go_at_call 114; refine (impl_isLine _ _).mono ?_; rintro e w' ⟨rfl, rfl⟩) | (go_at_call 82; refine (impl_IsTincture _ _).mono ?_; rintro e w' ⟨rfl, rfl⟩))
  all_goals go_ret
  all_goals exact ⟨by unfold ordOk; simp_all, rfl⟩
theorem impl_isFinding (p u l : Int) (w : World) : Calls Try.prog 46 #[.agg #[.int .i64 p, .int .i64 u, .int .i64 l]] w fun e w' => e = .returned (.bool (findOk p u l)) ∧ Below w.heap.size w w' := by
  go_enter Try.func46, Try.ntmps46
  go_wp2_with (first | (go_at_call 81; refine (impl_inside _ _ _ _).mono ?_; rintro e w' ⟨rfl, rfl⟩) | (go_at_call 82; refine (impl_IsTincture _ _).mono ?_; rintro e w' ⟨rfl, rfl⟩) | (go_at_call 83; refine (impl_clash _ _ _).mono ?_; rintro e w' ⟨rfl, rfl⟩))
  all_goals go_ret
  all_goals exact ⟨by unfold findOk; simp_all, (by repeat (first | (with_reducible exact Below.refl _ _) | (with_reducible assumption) | (with_reducible refine balloc ?_ _) | (with_reducible refine bdrew ?_) | (with_reducible refine bdrewN ?_ _) | (with_reducible refine bset ?_ (by first | omega | (simp; done) | (simp; omega)) _) | (with_reducible refine bstep ?_ (by assumption))))⟩
theorem spec_l8Good (p u l : Int) (w : World) : Calls Try.prog 43 #[.agg #[.int .i64 p, .int .i64 u, .int .i64 l]] w fun e w' => e = .returned (.bool (findOk p u l)) ∧ Below w.heap.size w w' := by
  go_enter Try.func43, Try.ntmps43
  go_wp2_with (first | (go_at_call 78; refine (spec_l1In _ _ _ _).mono ?_; rintro e w' ⟨rfl, rfl⟩) | (go_at_call 79; refine (spec_l2Good _ _).mono ?_; rintro e w' ⟨rfl, rfl⟩) | (go_at_call 80; refine (spec_l2Clash _ _ _).mono ?_; rintro e w' ⟨rfl, rfl⟩))
  all_goals go_ret
  all_goals exact ⟨by unfold findOk; simp_all, (by repeat (first | (with_reducible exact Below.refl _ _) | (with_reducible assumption) | (with_reducible refine balloc ?_ _) | (with_reducible refine bdrew ?_) | (with_reducible refine bdrewN ?_ _) | (with_reducible refine bset ?_ (by first | omega | (simp; done) | (simp; omega)) _) | (with_reducible refine bstep ?_ (by assumption))))⟩
end Go.Proofs.Ytefbamciainhgaa
