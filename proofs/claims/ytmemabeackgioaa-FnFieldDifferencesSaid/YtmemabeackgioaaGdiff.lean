/- Groups compared: none, or valid; differences. Conditions: as each theorem says. -/
import Derived.Test.YtmemabeackgioaaRows
import Derived.Test.YtmemabeackgioaaGroup2
import Derived.Test.YtmemabeackgioaaPlainArms
import Derived.Test.YtmemabeackgioaaMild
namespace Go.Proofs.Ytmemabeackgioaa
set_option linter.unusedSimpArgs false
set_option linter.unusedVariables false
open Go.ChangeShapes Go.WideShapes Go.ChangeAt Go.RowKit

theorem gEq_zero (c k a t : Int) : gEq c k a t 0 0 0 0 = gZero c k a t := rfl
theorem spec_l4None (c k a t : Int) (w : World) : Calls Try.prog 55 #[.agg #[.int .i64 c, .int .i64 k, .int .i64 a, .int .i64 t]] w fun e w' => e = .returned (.bool (gZero c k a t)) ∧ Below w.heap.size w w' := by
  have he0 := eqg_group
  have he1 := eql_group
  go_enter Try.func55, Try.ntmps55
  go_wp2
  go_ret
  exact ⟨rfl, (by repeat (first | (with_reducible exact Below.refl _ _) | (with_reducible assumption) | (with_reducible refine balloc ?_ _) | (with_reducible refine bdrew ?_) | (with_reducible refine bdrewN ?_ _) | (with_reducible refine bset ?_ (by first | omega | (simp; done) | (simp; omega)) _) | (with_reducible refine bstep ?_ (by assumption))))⟩
theorem impl_isGroup (c k a t : Int) (w : World) : Calls Try.prog 58 #[.agg #[.int .i64 c, .int .i64 k, .int .i64 a, .int .i64 t]] w fun e w' => e = .returned (.bool (gFine c k a t)) ∧ Below w.heap.size w w' := by
  have he0 := eqg_group
  have he1 := eql_group
  cases hz : gEq c k a t 0 0 0 0
  all_goals
    go_enter Try.func58, Try.ntmps58
    go_wp2_with (go_at_call 92; refine (impl_IsValidGroup _ _ _ _ _).mono ?_; rintro e w1 ⟨rfl, hb1⟩)
    go_ret
    exact ⟨by simp [gFine, ← gEq_zero, hz], (by repeat (first | (with_reducible exact Below.refl _ _) | (with_reducible assumption) | (with_reducible refine balloc ?_ _) | (with_reducible refine bdrew ?_) | (with_reducible refine bdrewN ?_ _) | (with_reducible refine bset ?_ (by first | omega | (simp; done) | (simp; omega)) _) | (with_reducible refine bstep ?_ (by assumption))))⟩
theorem impl_number (b : Bool) (w : World) : Calls Try.prog 63 #[.bool b] w fun e w' => e = .returned (.int .i64 (b2i b)) ∧ w = w' := by
  cases b
  all_goals
    go_enter Try.func63, Try.ntmps63
    go_wp2
    go_ret
    exact ⟨rfl, rfl⟩
/-! ### differences -/
def gdL (c k a t c' k' a' t' : Int) : Int := if gZero c k a t != gZero c' k' a' t' then 2 else b2i (c != c') + (if k != k' then 2 else b2i (a != a')) + b2i (t != t')
def gdV (c k a t c' k' a' t' : Int) : Int := if gFine c k a t && gFine c' k' a' t' then gdL c k a t c' k' a' t' else 0
theorem b2i_range (b : Bool) : 0 ≤ b2i b ∧ b2i b ≤ 1 := by cases b <;> decide
theorem gdL_same (c k a t : Int) : gdL c k a t c k a t = 0 := by simp [gdL, b2i]
theorem gdL_zero {c k a t c' k' a' t' : Int} (h : gEq c k a t c' k' a' t' = false) (hz : (gZero c k a t || gZero c' k' a' t') = true) : gdL c k a t c' k' a' t' = 2 := by
  unfold gdL
  have hne : (gZero c k a t != gZero c' k' a' t') = true := by
    rw [bne_iff_ne]
    intro e
    rw [← e, Bool.or_self] at hz
    rw [hz] at e
    obtain ⟨rfl, rfl, rfl, rfl⟩ := gZero_true.1 hz
    obtain ⟨rfl, rfl, rfl, rfl⟩ := gZero_true.1 e.symm
    rw [gEq_same] at h
    cases h
  rw [hne]
  rfl
theorem gdL_full {c k a t c' k' a' t' : Int} (h : gZero c k a t = false) (h' : gZero c' k' a' t' = false) : gdL c k a t c' k' a' t' = b2i (c != c') + (if k != k' then 2 else b2i (a != a')) + b2i (t != t') := by
  unfold gdL
  rw [h, h']
  rfl
set_option maxHeartbeats 1000000 in
theorem impl_groupDifferences (c k a t c' k' a' t' : Int) (w : World) : Calls Try.prog 59 #[.agg #[.int .i64 c, .int .i64 k, .int .i64 a, .int .i64 t], .agg #[.int .i64 c', .int .i64 k', .int .i64 a', .int .i64 t']] w fun e w' =>
    e = .returned (.int .i64 (gdL c k a t c' k' a' t')) ∧ Below w.heap.size w w' := by
  have he0 := eqg_group
  have he1 := eql_group
  cases h0 : gEq c k a t c' k' a' t'
  · cases h1 : gEq c k a t 0 0 0 0
    · cases h2 : gEq c' k' a' t' 0 0 0 0
      · have HF := Lib.hid (gdL_full h1 h2)
        go_enter Try.func59, Try.ntmps59
        go_upto_region 5 with (fail)
        go_quiet ((go_at_call 63; exact Calls.quiet_of_same ((impl_number _ _).mono fun _ _ h => ⟨h.1, h.2.symm⟩)))
        have r1 := b2i_range (c != c')
        have r2 := b2i_range (t != t')
        have r3 := b2i_range (a != a')
        by_cases hk : k = k'
        · subst hk
          go_wp2_with (go_at_call 63; refine (impl_number _ _).mono ?_; rintro e w' ⟨rfl, rfl⟩)
          go_ret
          exact ⟨ret_int (by rw [HF.out]; simp; omega), (by repeat (first | (with_reducible exact Below.refl _ _) | (with_reducible assumption) | (with_reducible refine balloc ?_ _) | (with_reducible refine bdrew ?_) | (with_reducible refine bdrewN ?_ _) | (with_reducible refine bset ?_ (by first | omega | (simp; done) | (simp; omega)) _) | (with_reducible refine bstep ?_ (by assumption))))⟩
        · have hk' : (k != k') = true := by simpa using hk
          go_wp2_with (go_at_call 63; refine (impl_number _ _).mono ?_; rintro e w' ⟨rfl, rfl⟩)
          go_ret
          exact ⟨ret_int (by rw [HF.out, hk']; simp; omega), (by repeat (first | (with_reducible exact Below.refl _ _) | (with_reducible assumption) | (with_reducible refine balloc ?_ _) | (with_reducible refine bdrew ?_) | (with_reducible refine bdrewN ?_ _) | (with_reducible refine bset ?_ (by first | omega | (simp; done) | (simp; omega)) _) | (with_reducible refine bstep ?_ (by assumption))))⟩
      · have HF := Lib.hid (gdL_zero h0 (by rw [show gZero c' k' a' t' = true from h2]; simp))
        go_enter Try.func59, Try.ntmps59
        go_wp2
        go_ret
        exact ⟨ret_int HF.out.symm, (by repeat (first | (with_reducible exact Below.refl _ _) | (with_reducible assumption) | (with_reducible refine balloc ?_ _) | (with_reducible refine bdrew ?_) | (with_reducible refine bdrewN ?_ _) | (with_reducible refine bset ?_ (by first | omega | (simp; done) | (simp; omega)) _) | (with_reducible refine bstep ?_ (by assumption))))⟩
    · have HF := Lib.hid (gdL_zero h0 (by rw [show gZero c k a t = true from h1]; simp))
      go_enter Try.func59, Try.ntmps59
      go_wp2
      go_ret
      exact ⟨ret_int HF.out.symm, (by repeat (first | (with_reducible exact Below.refl _ _) | (with_reducible assumption) | (with_reducible refine balloc ?_ _) | (with_reducible refine bdrew ?_) | (with_reducible refine bdrewN ?_ _) | (with_reducible refine bset ?_ (by first | omega | (simp; done) | (simp; omega)) _) | (with_reducible refine bstep ?_ (by assumption))))⟩
  · obtain ⟨rfl, rfl, rfl, rfl⟩ := gEq_true.1 h0
    have HF := Lib.hid (gdL_same c k a t)
    go_enter Try.func59, Try.ntmps59
    go_wp2
    go_ret
    exact ⟨ret_int HF.out.symm, (by repeat (first | (with_reducible exact Below.refl _ _) | (with_reducible assumption) | (with_reducible refine balloc ?_ _) | (with_reducible refine bdrew ?_) | (with_reducible refine bdrewN ?_ _) | (with_reducible refine bset ?_ (by first | omega | (simp; done) | (simp; omega)) _) | (with_reducible refine bstep ?_ (by assumption))))⟩
set_option maxHeartbeats 1000000 in
theorem spec_l4Differences (c k a t c' k' a' t' : Int) (w : World) : Calls Try.prog 57 #[.agg #[.int .i64 c, .int .i64 k, .int .i64 a, .int .i64 t], .agg #[.int .i64 c', .int .i64 k', .int .i64 a', .int .i64 t']] w fun e w' =>
    e = .returned (.int .i64 (gdL c k a t c' k' a' t')) ∧ Below w.heap.size w w' := by
  have HF : Hid (gdL c k a t c' k' a' t' = if gZero c k a t != gZero c' k' a' t' then 2 else b2i (c != c') + (if k != k' then 2 else b2i (a != a')) + b2i (t != t')) := rfl
  cases hz : (gZero c k a t != gZero c' k' a' t')
  all_goals
    go_enter Try.func57, Try.ntmps57
    go_upto_region 1 with (fail)
    obtain ⟨B1, B2⟩ := blk_two w 41 41 #[.int .i64 c, .int .i64 k, .int .i64 a, .int .i64 t] #[.int .i64 c', .int .i64 k', .int .i64 a', .int .i64 t']
    have hW : Below w.heap.size w ((w.alloc (.cells #[.int .i64 c, .int .i64 k, .int .i64 a, .int .i64 t] 41)).alloc (.cells #[.int .i64 c', .int .i64 k', .int .i64 a', .int .i64 t'] 41)) := (by repeat (first | (with_reducible exact Below.refl _ _) | (with_reducible assumption) | (with_reducible refine balloc ?_ _) | (with_reducible refine bdrew ?_) | (with_reducible refine bdrewN ?_ _) | (with_reducible refine bset ?_ (by first | omega | (simp; done) | (simp; omega)) _) | (with_reducible refine bstep ?_ (by assumption))))
    generalize ((w.alloc (.cells #[.int .i64 c, .int .i64 k, .int .i64 a, .int .i64 t] 41)).alloc (.cells #[.int .i64 c', .int .i64 k', .int .i64 a', .int .i64 t'] 41)) = W at *
    refine wp_region_mild0 [true, true, true, true, true] (by kernel_rfl) (by kernel_rfl) ?_
    refine wpMildL_take rfl ⟨_, mild_load _ _ rfl _ rfl _ _ _ (fun w' h => B1.below h) Try.underlying41 rfl (by kernel_rfl), ?_⟩
    simp only [Act.put, List.setIfInBounds_toArray, List.set_cons_zero, List.set_cons_succ]
    refine wpMildL_take rfl ?_
    apply Exists.intro
    refine ⟨fun w' hw' => ?_, ?_⟩
    · go_simp
      exact spec_l4None _ _ _ _ _
    simp only [Act.put, List.setIfInBounds_toArray, List.set_cons_zero, List.set_cons_succ]
    refine wpMildL_take rfl ⟨_, mild_load _ _ rfl _ rfl _ _ _ (fun w' h => B2.below h) Try.underlying41 rfl (by kernel_rfl), ?_⟩
    simp only [Act.put, List.setIfInBounds_toArray, List.set_cons_zero, List.set_cons_succ]
    refine wpMildL_take rfl ?_
    apply Exists.intro
    refine ⟨fun w' hw' => ?_, ?_⟩
    · go_simp
      exact spec_l4None _ _ _ _ _
    simp only [Act.put, List.setIfInBounds_toArray, List.set_cons_zero, List.set_cons_succ]
    refine wpMildL_take rfl ?_
    apply Exists.intro
    refine ⟨fun w' hw' => ?_, ?_⟩
    · go_simp
      with_reducible rfl
    simp only [Act.put, List.setIfInBounds_toArray, List.set_cons_zero, List.set_cons_succ]
    refine wpMildL_nil ?_
    intro w1 hb1
    obtain ⟨c1, z1⟩ := (B1.below hb1).facts
    obtain ⟨c2, z2⟩ := (B2.below hb1).facts
    have hW1 := bstep hW hb1
    clear hb1 B1 B2
    go_wp2
    all_goals go_ret
    all_goals exact ⟨ret_int (by rw [HF.out, hz]; simp_all [b2i]), hW1⟩
theorem impl_GroupDifferences (c k a t c' k' a' t' : Int) (w : World) : Calls Try.prog 26 #[.agg #[.int .i64 c, .int .i64 k, .int .i64 a, .int .i64 t], .agg #[.int .i64 c', .int .i64 k', .int .i64 a', .int .i64 t']] w fun e w' =>
    e = .returned (.tuple #[.int .i64 (gdV c k a t c' k' a' t'), .bool (gFine c k a t && gFine c' k' a' t')]) ∧ Below w.heap.size w w' := by
  unfold gdV
  cases h1 : gFine c k a t
  · go_enter Try.func26, Try.ntmps26
    go_wp2_with (go_at_call 58; refine (impl_isGroup _ _ _ _ _).mono ?_; rintro e w1 ⟨rfl, hb1⟩)
    go_ret2
    exact ⟨by simp, (by repeat (first | (with_reducible exact Below.refl _ _) | (with_reducible assumption) | (with_reducible refine balloc ?_ _) | (with_reducible refine bdrew ?_) | (with_reducible refine bdrewN ?_ _) | (with_reducible refine bset ?_ (by first | omega | (simp; done) | (simp; omega)) _) | (with_reducible refine bstep ?_ (by assumption))))⟩
  · cases h2 : gFine c' k' a' t'
    · go_enter Try.func26, Try.ntmps26
      go_wp2_with fail
      refine (impl_isGroup _ _ _ _ _).mono ?_
      rintro e w1 ⟨rfl, hb1⟩
      obtain ⟨A1, A2⟩ := blk_new2 hb1
      obtain ⟨c1, z1⟩ := A1.facts
      obtain ⟨c2, z2⟩ := A2.facts
      go_wp2_with (go_at_call 58; refine (impl_isGroup _ _ _ _ _).mono ?_; rintro e w2 ⟨rfl, hb2⟩)
      go_ret2
      exact ⟨by simp, (by repeat (first | (with_reducible exact Below.refl _ _) | (with_reducible assumption) | (with_reducible refine balloc ?_ _) | (with_reducible refine bdrew ?_) | (with_reducible refine bdrewN ?_ _) | (with_reducible refine bset ?_ (by first | omega | (simp; done) | (simp; omega)) _) | (with_reducible refine bstep ?_ (by assumption))))⟩
    · go_enter Try.func26, Try.ntmps26
      go_wp2_with fail
      refine (impl_isGroup _ _ _ _ _).mono ?_
      rintro e w1 ⟨rfl, hb1⟩
      obtain ⟨A1, A2⟩ := blk_new2 hb1
      obtain ⟨c1, z1⟩ := A1.facts
      obtain ⟨c2, z2⟩ := A2.facts
      go_wp2_with fail
      refine (impl_isGroup _ _ _ _ _).mono ?_
      rintro e w2 ⟨rfl, hb2⟩
      obtain ⟨d1, y1⟩ := (A1.below hb2).facts
      obtain ⟨d2, y2⟩ := (A2.below hb2).facts
      clear c1 c2
      go_wp2_with (go_at_call 59; refine (impl_groupDifferences _ _ _ _ _ _ _ _ _).mono ?_; rintro e w3 ⟨rfl, hb3⟩)
      go_ret2
      exact ⟨by simp, (by repeat (first | (with_reducible exact Below.refl _ _) | (with_reducible assumption) | (with_reducible refine balloc ?_ _) | (with_reducible refine bdrew ?_) | (with_reducible refine bdrewN ?_ _) | (with_reducible refine bset ?_ (by first | omega | (simp; done) | (simp; omega)) _) | (with_reducible refine bstep ?_ (by assumption))))⟩
set_option maxHeartbeats 1000000 in
theorem spec_GroupDifferences (c k a t c' k' a' t' : Int) (w : World) : Calls Try.prog 24 #[.agg #[.int .i64 c, .int .i64 k, .int .i64 a, .int .i64 t], .agg #[.int .i64 c', .int .i64 k', .int .i64 a', .int .i64 t']] w fun e w' =>
    e = .returned (.tuple #[.int .i64 (gdV c k a t c' k' a' t'), .bool (gFine c k a t && gFine c' k' a' t')]) ∧ Below w.heap.size w w' := by
  unfold gdV gFine
  cases h1 : gZero c k a t <;> cases h2 : groupOk c k a t <;> cases h3 : gZero c' k' a' t' <;> cases h4 : groupOk c' k' a' t'
  all_goals
    go_enter Try.func24, Try.ntmps24
    go_wp2_with fail
    refine (spec_l4None _ _ _ _ _).mono ?_
    rintro e w1 ⟨rfl, hb1⟩
    obtain ⟨A1, A2⟩ := blk_new2 hb1
    obtain ⟨c1, z1⟩ := A1.facts
    obtain ⟨c2, z2⟩ := A2.facts
    have hW : Below w.heap.size w w1 := (by repeat (first | (with_reducible exact Below.refl _ _) | (with_reducible assumption) | (with_reducible refine balloc ?_ _) | (with_reducible refine bdrew ?_) | (with_reducible refine bdrewN ?_ _) | (with_reducible refine bset ?_ (by first | omega | (simp; done) | (simp; omega)) _) | (with_reducible refine bstep ?_ (by assumption))))
    clear hb1
    go_wp2_with fail
    try (refine (spec_l4Group _ _ _ _ _).mono ?_
         rintro e w2 ⟨rfl, hb2⟩
         replace A1 := A1.below hb2
         replace A2 := A2.below hb2
         obtain ⟨d1, y1⟩ := A1.facts
         obtain ⟨d2, y2⟩ := A2.facts
         replace hW := bstep hW hb2
         clear hb2 c1 c2
         go_wp2_with fail)
    try (refine (spec_l4None _ _ _ _ _).mono ?_
         rintro e w3 ⟨rfl, hb3⟩
         replace A1 := A1.below hb3
         replace A2 := A2.below hb3
         obtain ⟨e1, x1⟩ := A1.facts
         obtain ⟨e2, x2⟩ := A2.facts
         replace hW := bstep hW hb3
         clear hb3
         go_wp2_with fail)
    try (refine (spec_l4Group _ _ _ _ _).mono ?_
         rintro e w4 ⟨rfl, hb4⟩
         replace A1 := A1.below hb4
         replace A2 := A2.below hb4
         obtain ⟨f1, v1⟩ := A1.facts
         obtain ⟨f2, v2⟩ := A2.facts
         replace hW := bstep hW hb4
         clear hb4
         go_wp2_with fail)
    try (refine (spec_l4Differences _ _ _ _ _ _ _ _ _).mono ?_
         rintro e w5 ⟨rfl, hb5⟩
         replace hW := bstep hW hb5
         go_wp2)
    go_ret2
    exact ⟨by simp, hW⟩
end Go.Proofs.Ytmemabeackgioaa
