/- FormatInt. Conditions: as each theorem says. -/
import Derived.Test.YtbaekalebodhaaaDoorRows
import Derived.Test.YtbaekalebodhaaaDoorDoor
namespace Go.Proofs.YtbaekalebodhaaaDoor
set_option linter.unusedSimpArgs false
set_option linter.unusedVariables false
open Go.ChangeShapes Go.WideShapes Go.ChangeAt Go.RowKit Go.Joins

theorem spec_FormatInt (n : Int) (w : World) : Calls Tryd.prog 13 #[.int .i64 n] w fun e w' => e = .returned (.tuple #[.string (fmtV n), .bool (okN n)]) ∧ Below w.heap.size w w' := by
  by_cases h : okN n = true
  · have hb : -999999 ≤ n ∧ n ≤ 999999 := by simpa [okN, inB] using h
    have HN : Hid (∀ w, Calls Tryd.prog 28 #[.int .i64 n] w fun e w' => e = .returned (.string (numS n)) ∧ Below w.heap.size w w') := Lib.hid (fun w => spec_l1Num n w (by omega) (by omega))
    have HV : Hid (fmtV n = numS n) := Lib.hid (by unfold fmtV; rw [h]; rfl)
    have h' : inB (-999999) n 999999 = true := h
    clear hb
    go_enter Tryd.func13, Tryd.ntmps13
    go_wp2_with (first | (go_at_call 27; refine (spec_l1In _ _ _ _).mono ?_; rintro e w' ⟨rfl, rfl⟩) | (go_at_call 28; refine (HN.out _).mono ?_; rintro e w1 ⟨rfl, hb1⟩))
    all_goals go_ret2
    all_goals first | (rw [h, HV.out]; exact ⟨rfl, by assumption⟩) | skip
  · have HV : Hid (fmtV n = ⟨#[]⟩) := Lib.hid (by unfold fmtV; rw [if_neg h])
    have h : okN n = false := by simpa using h
    have h' : inB (-999999) n 999999 = false := h
    go_enter Tryd.func13, Tryd.ntmps13
    go_wp2_with (go_at_call 27; refine (spec_l1In _ _ _ _).mono ?_; rintro e w' ⟨rfl, rfl⟩)
    go_ret2
    rw [h, HV.out]
    exact ⟨rfl, Below.refl _ _⟩
theorem impl_FormatInt (n : Int) (w : World) (ht : Tab w) : Calls Tryd.prog 12 #[.int .i64 n] w fun e w' => e = .returned (.tuple #[.string (fmtV n), .bool (okN n)]) ∧ Below w.heap.size w w' := by
  by_cases h : okN n = true
  · have HN := Lib.hid (strconv_Itoa_b n h w ht)
    have HV : Hid (fmtV n = numS n) := Lib.hid (by unfold fmtV; rw [h]; rfl)
    have h' : inB (-999999) n 999999 = true := h
    clear ht
    go_enter Tryd.func12, Tryd.ntmps12
    go_wp2_with (first | (go_at_call 23; refine (impl_inside _ _ _ _).mono ?_; rintro e w' ⟨rfl, rfl⟩) | (go_at_call 24; refine (HN.out).mono ?_; rintro e w1 ⟨rfl, hb1⟩))
    all_goals go_ret2
    all_goals first | (rw [h, HV.out]; exact ⟨rfl, by assumption⟩) | skip
  · have HV : Hid (fmtV n = ⟨#[]⟩) := Lib.hid (by unfold fmtV; rw [if_neg h])
    have h : okN n = false := by simpa using h
    have h' : inB (-999999) n 999999 = false := h
    clear ht
    go_enter Tryd.func12, Tryd.ntmps12
    go_wp2_with (go_at_call 23; refine (impl_inside _ _ _ _).mono ?_; rintro e w' ⟨rfl, rfl⟩)
    go_ret2
    rw [h, HV.out]
    exact ⟨rfl, Below.refl _ _⟩
end Go.Proofs.YtbaekalebodhaaaDoor
