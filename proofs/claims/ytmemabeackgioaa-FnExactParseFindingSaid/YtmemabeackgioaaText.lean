/- Contracts of the functions on texts of ordinaries and findings. Conditions: as each theorem says. -/
import Derived.Test.YtmemabeackgioaaRows
import Derived.Test.YtmemabeackgioaaGroup2
import Derived.Deep.RegionHeld3
import Derived.Deep.QuietTactic
import Derived.BigQuiet
import Derived.Deep.RegionWith
namespace Go.Proofs.Ytmemabeackgioaa
set_option linter.unusedSimpArgs false
set_option linter.unusedVariables false
open Go.ChangeShapes Go.WideShapes Go.ChangeAt Go.RowKit

def wline (s : ByteArray) (l : Int) : ByteArray := if l = 0 then s else (s ++ ⟨#[32]⟩) ++ lw l
theorem sz1 (b : UInt8) : (⟨#[b]⟩ : ByteArray).size = 1 := rfl
theorem sz2 (b c : UInt8) : (⟨#[b, c]⟩ : ByteArray).size = 2 := rfl
theorem impl_isFinding (p u l : Int) (w : World) : Calls Try.prog 85 #[.agg #[.int .i64 p, .int .i64 u, .int .i64 l]] w fun e w' => e = .returned (.bool (findOk p u l)) ∧ Below w.heap.size w w' := by
  go_enter Try.func85, Try.ntmps85
  go_wp2_with (first | (go_at_call 74; refine (impl_inside _ _ _ _).mono ?_; rintro e w' ⟨rfl, rfl⟩) | (go_at_call 40; refine (impl_IsTincture _ _).mono ?_; rintro e w' ⟨rfl, rfl⟩) | (go_at_call 73; refine (impl_clash _ _ _).mono ?_; rintro e w' ⟨rfl, rfl⟩))
  all_goals go_ret
  all_goals exact ⟨by unfold findOk; simp_all, (by repeat (first | (with_reducible exact Below.refl _ _) | (with_reducible assumption) | (with_reducible refine balloc ?_ _) | (with_reducible refine bdrew ?_) | (with_reducible refine bdrewN ?_ _) | (with_reducible refine bset ?_ (by first | omega | (simp; done) | (simp; omega)) _) | (with_reducible refine bstep ?_ (by assumption))))⟩
theorem spec_l8Good (p u l : Int) (w : World) : Calls Try.prog 82 #[.agg #[.int .i64 p, .int .i64 u, .int .i64 l]] w fun e w' => e = .returned (.bool (findOk p u l)) ∧ Below w.heap.size w w' := by
  go_enter Try.func82, Try.ntmps82
  go_wp2_with (first | (go_at_call 86; refine (spec_l1In _ _ _ _).mono ?_; rintro e w' ⟨rfl, rfl⟩) | (go_at_call 50; refine (spec_l2Good _ _).mono ?_; rintro e w' ⟨rfl, rfl⟩) | (go_at_call 51; refine (spec_l2Clash _ _ _).mono ?_; rintro e w' ⟨rfl, rfl⟩))
  all_goals go_ret
  all_goals exact ⟨by unfold findOk; simp_all, (by repeat (first | (with_reducible exact Below.refl _ _) | (with_reducible assumption) | (with_reducible refine balloc ?_ _) | (with_reducible refine bdrew ?_) | (with_reducible refine bdrewN ?_ _) | (with_reducible refine bset ?_ (by first | omega | (simp; done) | (simp; omega)) _) | (with_reducible refine bstep ?_ (by assumption))))⟩
end Go.Proofs.Ytmemabeackgioaa
