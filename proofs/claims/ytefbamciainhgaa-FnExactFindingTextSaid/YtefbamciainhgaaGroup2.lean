/- Contracts of the functions on groups and of some on fields. Conditions: as each theorem says. -/
import Derived.Test.YtefbamciainhgaaRows
import Derived.Test.YtefbamciainhgaaGroup
import Derived.Test.YtefbamciainhgaaEq
import Derived.Deep.Cut
namespace Go.Proofs.Ytefbamciainhgaa
set_option linter.unusedSimpArgs false
set_option linter.unusedVariables false
open Go.ChangeShapes Go.WideShapes Go.ChangeAt Go.RowKit

theorem laws_toGroup (a b c d : Int) (w : World) : Calls Try.prog 20 #[.agg #[.int .i64 a, .int .i64 b, .int .i64 c, .int .i64 d]] w fun e w' => e = .returned (.agg #[.int .i64 a, .int .i64 b, .int .i64 c, .int .i64 d]) ∧ Below w.heap.size w w' := by
  go_enter Try.func20, Try.ntmps20
  go_wp2
  go_returns
  exact ⟨rfl, (by repeat (first | (with_reducible exact Below.refl _ _) | (with_reducible assumption) | (with_reducible refine balloc ?_ _) | (with_reducible refine bdrew ?_) | (with_reducible refine bdrewN ?_ _) | (with_reducible refine bset ?_ (by first | omega | (simp; done) | (simp; omega)) _) | (with_reducible refine bstep ?_ (by assumption))))⟩
theorem laws_toFinding (a b c : Int) (w : World) : Calls Try.prog 12 #[.agg #[.int .i64 a, .int .i64 b, .int .i64 c]] w fun e w' => e = .returned (.agg #[.int .i64 a, .int .i64 b, .int .i64 c]) ∧ Below w.heap.size w w' := by
  go_enter Try.func12, Try.ntmps12
  go_wp2
  go_returns
  exact ⟨rfl, (by repeat (first | (with_reducible exact Below.refl _ _) | (with_reducible assumption) | (with_reducible refine balloc ?_ _) | (with_reducible refine bdrew ?_) | (with_reducible refine bdrewN ?_ _) | (with_reducible refine bset ?_ (by first | omega | (simp; done) | (simp; omega)) _) | (with_reducible refine bstep ?_ (by assumption))))⟩
theorem laws_eqGroup (a b c d : Int) (w : World) : Calls Try.prog 22 #[.agg #[.int .i64 a, .int .i64 b, .int .i64 c, .int .i64 d], .agg #[.int .i64 a, .int .i64 b, .int .i64 c, .int .i64 d]] w fun e w' => e = .returned (.bool true) ∧ Below w.heap.size w w' := by
  go_enter Try.func22, Try.ntmps22
  go_wp2
  go_ret
  exact ⟨rfl, (by repeat (first | (with_reducible exact Below.refl _ _) | (with_reducible assumption) | (with_reducible refine balloc ?_ _) | (with_reducible refine bdrew ?_) | (with_reducible refine bdrewN ?_ _) | (with_reducible refine bset ?_ (by first | omega | (simp; done) | (simp; omega)) _) | (with_reducible refine bstep ?_ (by assumption))))⟩
theorem impl_IsValidGroup (c k a t : Int) (w : World) : Calls Try.prog 54 #[.agg #[.int .i64 c, .int .i64 k, .int .i64 a, .int .i64 t]] w fun e w' => e = .returned (.bool (groupOk c k a t)) ∧ Below w.heap.size w w' := by
  cases h2 : inB 1 k 8
  · go_enter Try.func54, Try.ntmps54
    go_wp2_with (first | (go_at_call 81; refine (impl_inside _ _ _ _).mono ?_; rintro e w' ⟨rfl, rfl⟩) | (go_at_call 50; refine (impl_isKind _ _).mono ?_; rintro e w' ⟨rfl, rfl⟩) | (go_at_call 82; refine (impl_IsTincture _ _).mono ?_; rintro e w' ⟨rfl, rfl⟩))
    all_goals go_ret
    all_goals exact ⟨by unfold groupOk; simp_all <;> (intro hh; omega), (by repeat (first | (with_reducible exact Below.refl _ _) | (with_reducible assumption) | (with_reducible refine balloc ?_ _) | (with_reducible refine bdrew ?_) | (with_reducible refine bdrewN ?_ _) | (with_reducible refine bset ?_ (by first | omega | (simp; done) | (simp; omega)) _) | (with_reducible refine bstep ?_ (by assumption))))⟩
  · by_cases hk : k ≤ 3
    · have hl : (att k).length = 2 := by rw [att_len k h2, if_pos hk]
      go_enter Try.func54, Try.ntmps54
      go_wp2_with (first | (go_at_call 81; refine (impl_inside _ _ _ _).mono ?_; rintro e w' ⟨rfl, rfl⟩) | (go_at_call 50; refine (impl_isKind _ _).mono ?_; rintro e w' ⟨rfl, rfl⟩) | (go_at_call 82; refine (impl_IsTincture _ _).mono ?_; rintro e w' ⟨rfl, rfl⟩) | (go_at_call 51; refine (impl_attitudes _ _).mono ?_; rintro e w' ⟨rfl, rfl⟩))
      all_goals go_ret
      all_goals exact ⟨by unfold groupOk; simp_all <;> (intro hh; omega), (by repeat (first | (with_reducible exact Below.refl _ _) | (with_reducible assumption) | (with_reducible refine balloc ?_ _) | (with_reducible refine bdrew ?_) | (with_reducible refine bdrewN ?_ _) | (with_reducible refine bset ?_ (by first | omega | (simp; done) | (simp; omega)) _) | (with_reducible refine bstep ?_ (by assumption))))⟩
    · have hl : (att k).length = 0 := by rw [att_len k h2, if_neg hk]
      go_enter Try.func54, Try.ntmps54
      go_wp2_with (first | (go_at_call 81; refine (impl_inside _ _ _ _).mono ?_; rintro e w' ⟨rfl, rfl⟩) | (go_at_call 50; refine (impl_isKind _ _).mono ?_; rintro e w' ⟨rfl, rfl⟩) | (go_at_call 82; refine (impl_IsTincture _ _).mono ?_; rintro e w' ⟨rfl, rfl⟩) | (go_at_call 51; refine (impl_attitudes _ _).mono ?_; rintro e w' ⟨rfl, rfl⟩))
      all_goals go_ret
      all_goals exact ⟨by unfold groupOk; simp_all <;> (intro hh; omega), (by repeat (first | (with_reducible exact Below.refl _ _) | (with_reducible assumption) | (with_reducible refine balloc ?_ _) | (with_reducible refine bdrew ?_) | (with_reducible refine bdrewN ?_ _) | (with_reducible refine bset ?_ (by first | omega | (simp; done) | (simp; omega)) _) | (with_reducible refine bstep ?_ (by assumption))))⟩
theorem spec_l4Group (c k a t : Int) (w : World) : Calls Try.prog 53 #[.agg #[.int .i64 c, .int .i64 k, .int .i64 a, .int .i64 t]] w fun e w' => e = .returned (.bool (groupOk c k a t)) ∧ Below w.heap.size w w' := by
  go_enter Try.func53, Try.ntmps53
  go_wp2_with (first | (go_at_call 78; refine (spec_l1In _ _ _ _).mono ?_; rintro e w' ⟨rfl, rfl⟩) | (go_at_call 48; refine (spec_l4Kind _ _).mono ?_; rintro e w' ⟨rfl, rfl⟩) | (go_at_call 79; refine (spec_l2Good _ _).mono ?_; rintro e w' ⟨rfl, rfl⟩) | (go_at_call 85; refine (spec_l4Beast _ _).mono ?_; rintro e w' ⟨rfl, rfl⟩))
  all_goals go_ret
  all_goals exact ⟨by unfold groupOk; simp_all <;> (intro hh; omega), (by repeat (first | (with_reducible exact Below.refl _ _) | (with_reducible assumption) | (with_reducible refine balloc ?_ _) | (with_reducible refine bdrew ?_) | (with_reducible refine bdrewN ?_ _) | (with_reducible refine bset ?_ (by first | omega | (simp; done) | (simp; omega)) _) | (with_reducible refine bstep ?_ (by assumption))))⟩
theorem join_ne {k a t k' a' t' : Int} (he : ¬ (k = k' ∧ a = a' ∧ t = t')) : (k == k' && (a == a' && t == t')) = false := by
  rw [← Bool.not_eq_true]; simpa using he
theorem groupOk_count' {c k a t : Int} (h : groupOk c k a t = true) : 1 ≤ c ∧ c ≤ 6 := by
  unfold groupOk at h
  simp only [Bool.and_eq_true] at h
  exact inB_true.1 h.1
set_option maxHeartbeats 1000000 in
theorem impl_JoinGroups (c k a t c' k' a' t' : Int) (w : World) : Calls Try.prog 21 #[.agg #[.int .i64 c, .int .i64 k, .int .i64 a, .int .i64 t], .agg #[.int .i64 c', .int .i64 k', .int .i64 a', .int .i64 t']] w fun e w' =>
    e = .returned (.tuple #[.agg #[.int .i64 (okI (joinOk c k a t c' k' a' t') (c + c')), .int .i64 (okI (joinOk c k a t c' k' a' t') k), .int .i64 (okI (joinOk c k a t c' k' a' t') a), .int .i64 (okI (joinOk c k a t c' k' a' t') t)], .bool (joinOk c k a t c' k' a' t')]) ∧ Below w.heap.size w w' := by
  have he0 := eqg_group
  have he1 := neq_group
  cases h1 : groupOk c k a t
  · go_enter Try.func21, Try.ntmps21
    go_wp2_with (go_at_call 54; refine (impl_IsValidGroup _ _ _ _ _).mono ?_; rintro e w1 ⟨rfl, hb1⟩; obtain ⟨A1, A2, A3⟩ := blk_new3 hb1; obtain ⟨c1, f1, z1⟩ := A1.all; obtain ⟨c2, f2, z2⟩ := A2.all; obtain ⟨c3, f3, z3⟩ := A3.all)
    refine bodyPost_ret (v := .tuple #[.agg #[.int .i64 0, .int .i64 0, .int .i64 0, .int .i64 0], .bool false]) (by simp [results, Try.results21, go_sem, c3, f3, z3]) rfl ?_
    exact ⟨by simp [joinOk, okI, h1], (by repeat (first | (with_reducible exact Below.refl _ _) | (with_reducible assumption) | (with_reducible refine balloc ?_ _) | (with_reducible refine bdrew ?_) | (with_reducible refine bdrewN ?_ _) | (with_reducible refine bset ?_ (by first | omega | (simp; done) | (simp; omega)) _) | (with_reducible refine bstep ?_ (by assumption))))⟩
  · cases h2 : groupOk c' k' a' t'
    · go_enter Try.func21, Try.ntmps21
      go_wp2_with fail
      refine (impl_IsValidGroup _ _ _ _ _).mono ?_
      rintro e w1 ⟨rfl, hb1⟩
      obtain ⟨A1, A2, A3⟩ := blk_new3 hb1
      obtain ⟨c1, f1, z1⟩ := A1.all
      obtain ⟨c2, f2, z2⟩ := A2.all
      obtain ⟨c3, f3, z3⟩ := A3.all
      go_wp2_with fail
      refine (impl_IsValidGroup _ _ _ _ _).mono ?_
      rintro e w2 ⟨rfl, hb2⟩
      obtain ⟨d1, g1, y1⟩ := (A1.below hb2).all
      obtain ⟨d2, g2, y2⟩ := (A2.below hb2).all
      obtain ⟨d3, g3, y3⟩ := (A3.below hb2).all
      clear c1 c2 c3 f1 f2 f3
      go_wp2
      refine bodyPost_ret (v := .tuple #[.agg #[.int .i64 0, .int .i64 0, .int .i64 0, .int .i64 0], .bool false]) (by simp [results, Try.results21, go_sem, d3, g3, y3]) rfl ?_
      exact ⟨by simp [joinOk, okI, h2], (by repeat (first | (with_reducible exact Below.refl _ _) | (with_reducible assumption) | (with_reducible refine balloc ?_ _) | (with_reducible refine bdrew ?_) | (with_reducible refine bdrewN ?_ _) | (with_reducible refine bset ?_ (by first | omega | (simp; done) | (simp; omega)) _) | (with_reducible refine bstep ?_ (by assumption))))⟩
    · obtain ⟨n1, n2⟩ := groupOk_count' h1
      obtain ⟨n3, n4⟩ := groupOk_count' h2
      go_enter Try.func21, Try.ntmps21
      go_wp2_with fail
      refine (impl_IsValidGroup _ _ _ _ _).mono ?_
      rintro e w1 ⟨rfl, hb1⟩
      obtain ⟨A1, A2, A3⟩ := blk_new3 hb1
      obtain ⟨c1, f1, z1⟩ := A1.all
      obtain ⟨c2, f2, z2⟩ := A2.all
      obtain ⟨c3, f3, z3⟩ := A3.all
      go_wp2_with fail
      refine (impl_IsValidGroup _ _ _ _ _).mono ?_
      rintro e w2 ⟨rfl, hb2⟩
      obtain ⟨d1, g1, y1⟩ := (A1.below hb2).all
      obtain ⟨d2, g2, y2⟩ := (A2.below hb2).all
      obtain ⟨d3, g3, y3⟩ := (A3.below hb2).all
      clear c1 c2 c3 f1 f2 f3
      go_upto_region 6 with (fail)
      have B1 : Blk (((w2.setCell ⟨w.heap.size, 0, none⟩ (.int .i64 0)).setCell ⟨w.heap.size + 1, 0, none⟩ (.int .i64 0)).alloc (.cells #[.int .i64 (c + c'), .int .i64 k, .int .i64 a, .int .i64 t] 37)) w.heap.size 37 #[.int .i64 0, .int .i64 k, .int .i64 a, .int .i64 t] := by
        simpa using ((((A1.below hb2).set_ 0 (.int .i64 0)).far (p := ⟨w.heap.size + 1, 0, none⟩) (by simp) (.int .i64 0)).alloc _)
      have B2 : Blk (((w2.setCell ⟨w.heap.size, 0, none⟩ (.int .i64 0)).setCell ⟨w.heap.size + 1, 0, none⟩ (.int .i64 0)).alloc (.cells #[.int .i64 (c + c'), .int .i64 k, .int .i64 a, .int .i64 t] 37)) (w.heap.size + 1) 37 #[.int .i64 0, .int .i64 k', .int .i64 a', .int .i64 t'] := by
        simpa using ((((A2.below hb2).far (p := ⟨w.heap.size, 0, none⟩) (by simp) (.int .i64 0)).set_ 0 (.int .i64 0)).alloc _)
      have B3 : Blk (((w2.setCell ⟨w.heap.size, 0, none⟩ (.int .i64 0)).setCell ⟨w.heap.size + 1, 0, none⟩ (.int .i64 0)).alloc (.cells #[.int .i64 (c + c'), .int .i64 k, .int .i64 a, .int .i64 t] 37)) (w.heap.size + 1 + 1) 37 #[.int .i64 0, .int .i64 0, .int .i64 0, .int .i64 0] :=
        (((A3.below hb2).far (p := ⟨w.heap.size, 0, none⟩) (by simp <;> omega) (.int .i64 0)).far (p := ⟨w.heap.size + 1, 0, none⟩) (by simp <;> omega) (.int .i64 0)).alloc _
      have S : Blk (((w2.setCell ⟨w.heap.size, 0, none⟩ (.int .i64 0)).setCell ⟨w.heap.size + 1, 0, none⟩ (.int .i64 0)).alloc (.cells #[.int .i64 (c + c'), .int .i64 k, .int .i64 a, .int .i64 t] 37)) w2.heap.size 37 #[.int .i64 (c + c'), .int .i64 k, .int .i64 a, .int .i64 t] := by
        have := Blk.new ((w2.setCell ⟨w.heap.size, 0, none⟩ (.int .i64 0)).setCell ⟨w.heap.size + 1, 0, none⟩ (.int .i64 0)) 37 #[.int .i64 (c + c'), .int .i64 k, .int .i64 a, .int .i64 t]
        simpa using this
      have hbw : Below w.heap.size w (((w2.setCell ⟨w.heap.size, 0, none⟩ (.int .i64 0)).setCell ⟨w.heap.size + 1, 0, none⟩ (.int .i64 0)).alloc (.cells #[.int .i64 (c + c'), .int .i64 k, .int .i64 a, .int .i64 t] 37)) := (by repeat (first | (with_reducible exact Below.refl _ _) | (with_reducible assumption) | (with_reducible refine balloc ?_ _) | (with_reducible refine bdrew ?_) | (with_reducible refine bdrewN ?_ _) | (with_reducible refine bset ?_ (by first | omega | (simp; done) | (simp; omega)) _) | (with_reducible refine bstep ?_ (by assumption))))
      clear d1 d2 d3 g1 g2 g3
      generalize (((w2.setCell ⟨w.heap.size, 0, none⟩ (.int .i64 0)).setCell ⟨w.heap.size + 1, 0, none⟩ (.int .i64 0)).alloc (.cells #[.int .i64 (c + c'), .int .i64 k, .int .i64 a, .int .i64 t] 37)) = W at *
      obtain ⟨d1, y1'⟩ := B1.facts
      obtain ⟨d2, y2'⟩ := B2.facts
      obtain ⟨d3, g3, y3'⟩ := B3.all
      obtain ⟨d4, y4'⟩ := S.facts
      by_cases he : k = k' ∧ a = a' ∧ t = t'
      · obtain ⟨rfl, rfl, rfl⟩ := he
        have hsame := gEq_same 0 k a t
        go_wp2_with fail
        refine (impl_IsValidGroup _ _ _ _ _).mono ?_
        rintro e w3 ⟨rfl, hb3⟩
        obtain ⟨r1, r2, r3⟩ := (B3.below hb3).all
        obtain ⟨s1, s2, s3⟩ := (S.below hb3).all
        clear d1 d2 d3 d4 g3
        have hbw3 := bstep hbw hb3
        cases h3 : groupOk (c + c') k a t
        · go_wp2
          refine bodyPost_ret (v := .tuple #[.agg #[.int .i64 0, .int .i64 0, .int .i64 0, .int .i64 0], .bool false]) (by simp [results, Try.results21, go_sem, r1, r2, r3]) rfl ?_
          exact ⟨by simp [joinOk, okI, h3], (by repeat (first | (with_reducible exact Below.refl _ _) | (with_reducible assumption) | (with_reducible refine balloc ?_ _) | (with_reducible refine bdrew ?_) | (with_reducible refine bdrewN ?_ _) | (with_reducible refine bset ?_ (by first | omega | (simp; done) | (simp; omega)) _) | (with_reducible refine bstep ?_ (by assumption))))⟩
        · go_wp2
          refine bodyPost_ret (v := .tuple #[.agg #[.int .i64 (c + c'), .int .i64 k, .int .i64 a, .int .i64 t], .bool true]) (by simp [results, Try.results21, go_sem, r1, r2, r3, s1, s2, s3]) rfl ?_
          exact ⟨by simp [joinOk, okI, h1, h2, h3], (by repeat (first | (with_reducible exact Below.refl _ _) | (with_reducible assumption) | (with_reducible refine balloc ?_ _) | (with_reducible refine bdrew ?_) | (with_reducible refine bdrewN ?_ _) | (with_reducible refine bset ?_ (by first | omega | (simp; done) | (simp; omega)) _) | (with_reducible refine bstep ?_ (by assumption))))⟩
      · have he' : gEq 0 k a t 0 k' a' t' = false := by
          rw [← Bool.not_eq_true, gEq_true]; simpa using he
        go_wp2
        refine bodyPost_ret (v := .tuple #[.agg #[.int .i64 0, .int .i64 0, .int .i64 0, .int .i64 0], .bool false]) (by simp [results, Try.results21, go_sem, d3, g3, y3']) rfl ?_
        exact ⟨by simp only [joinOk, h1, h2, join_ne he]; rfl, (by repeat (first | (with_reducible exact Below.refl _ _) | (with_reducible assumption) | (with_reducible refine balloc ?_ _) | (with_reducible refine bdrew ?_) | (with_reducible refine bdrewN ?_ _) | (with_reducible refine bset ?_ (by first | omega | (simp; done) | (simp; omega)) _) | (with_reducible refine bstep ?_ (by assumption))))⟩
set_option maxHeartbeats 1000000 in
theorem spec_JoinGroups (c k a t c' k' a' t' : Int) (w : World) : Calls Try.prog 19 #[.agg #[.int .i64 c, .int .i64 k, .int .i64 a, .int .i64 t], .agg #[.int .i64 c', .int .i64 k', .int .i64 a', .int .i64 t']] w fun e w' =>
    e = .returned (.tuple #[.agg #[.int .i64 (okI (joinOk c k a t c' k' a' t') (c + c')), .int .i64 (okI (joinOk c k a t c' k' a' t') k), .int .i64 (okI (joinOk c k a t c' k' a' t') a), .int .i64 (okI (joinOk c k a t c' k' a' t') t)], .bool (joinOk c k a t c' k' a' t')]) ∧ Below w.heap.size w w' := by
  cases h1 : groupOk c k a t
  · go_enter Try.func19, Try.ntmps19
    go_upto_region 2 with (fail)
    have B1 : Blk ((((w.alloc (.cells #[.int .i64 c, .int .i64 k, .int .i64 a, .int .i64 t] 37)).alloc (.cells #[.int .i64 c', .int .i64 k', .int .i64 a', .int .i64 t'] 37)).alloc (.cells #[.int .i64 0, .int .i64 0, .int .i64 0, .int .i64 0] 37)).alloc (.cells #[.int .i64 (wrap64 (c + c')), .int .i64 k, .int .i64 a, .int .i64 t] 37)) w.heap.size 37 #[.int .i64 c, .int .i64 k, .int .i64 a, .int .i64 t] := (((Blk.new w _ _).alloc _).alloc _).alloc _
    have B2 : Blk ((((w.alloc (.cells #[.int .i64 c, .int .i64 k, .int .i64 a, .int .i64 t] 37)).alloc (.cells #[.int .i64 c', .int .i64 k', .int .i64 a', .int .i64 t'] 37)).alloc (.cells #[.int .i64 0, .int .i64 0, .int .i64 0, .int .i64 0] 37)).alloc (.cells #[.int .i64 (wrap64 (c + c')), .int .i64 k, .int .i64 a, .int .i64 t] 37)) (w.heap.size + 1) 37 #[.int .i64 c', .int .i64 k', .int .i64 a', .int .i64 t'] := by
      have := ((Blk.new (w.alloc (.cells #[.int .i64 c, .int .i64 k, .int .i64 a, .int .i64 t] 37)) 37 #[.int .i64 c', .int .i64 k', .int .i64 a', .int .i64 t']).alloc (.cells #[.int .i64 0, .int .i64 0, .int .i64 0, .int .i64 0] 37)).alloc (.cells #[.int .i64 (wrap64 (c + c')), .int .i64 k, .int .i64 a, .int .i64 t] 37)
      simpa using this
    have B3 : Blk ((((w.alloc (.cells #[.int .i64 c, .int .i64 k, .int .i64 a, .int .i64 t] 37)).alloc (.cells #[.int .i64 c', .int .i64 k', .int .i64 a', .int .i64 t'] 37)).alloc (.cells #[.int .i64 0, .int .i64 0, .int .i64 0, .int .i64 0] 37)).alloc (.cells #[.int .i64 (wrap64 (c + c')), .int .i64 k, .int .i64 a, .int .i64 t] 37)) (w.heap.size + 1 + 1) 37 #[.int .i64 0, .int .i64 0, .int .i64 0, .int .i64 0] := by
      have := (Blk.new ((w.alloc (.cells #[.int .i64 c, .int .i64 k, .int .i64 a, .int .i64 t] 37)).alloc (.cells #[.int .i64 c', .int .i64 k', .int .i64 a', .int .i64 t'] 37)) 37 #[.int .i64 0, .int .i64 0, .int .i64 0, .int .i64 0]).alloc (.cells #[.int .i64 (wrap64 (c + c')), .int .i64 k, .int .i64 a, .int .i64 t] 37)
      simpa using this
    have B4 : Blk ((((w.alloc (.cells #[.int .i64 c, .int .i64 k, .int .i64 a, .int .i64 t] 37)).alloc (.cells #[.int .i64 c', .int .i64 k', .int .i64 a', .int .i64 t'] 37)).alloc (.cells #[.int .i64 0, .int .i64 0, .int .i64 0, .int .i64 0] 37)).alloc (.cells #[.int .i64 (wrap64 (c + c')), .int .i64 k, .int .i64 a, .int .i64 t] 37)) (w.heap.size + 1 + 1 + 1) 37 #[.int .i64 (wrap64 (c + c')), .int .i64 k, .int .i64 a, .int .i64 t] := by
      have := Blk.new (((w.alloc (.cells #[.int .i64 c, .int .i64 k, .int .i64 a, .int .i64 t] 37)).alloc (.cells #[.int .i64 c', .int .i64 k', .int .i64 a', .int .i64 t'] 37)).alloc (.cells #[.int .i64 0, .int .i64 0, .int .i64 0, .int .i64 0] 37)) 37 #[.int .i64 (wrap64 (c + c')), .int .i64 k, .int .i64 a, .int .i64 t]
      simpa using this
    have hbw : Below w.heap.size w ((((w.alloc (.cells #[.int .i64 c, .int .i64 k, .int .i64 a, .int .i64 t] 37)).alloc (.cells #[.int .i64 c', .int .i64 k', .int .i64 a', .int .i64 t'] 37)).alloc (.cells #[.int .i64 0, .int .i64 0, .int .i64 0, .int .i64 0] 37)).alloc (.cells #[.int .i64 (wrap64 (c + c')), .int .i64 k, .int .i64 a, .int .i64 t] 37)) := (by repeat (first | (with_reducible exact Below.refl _ _) | (with_reducible assumption) | (with_reducible refine balloc ?_ _) | (with_reducible refine bdrew ?_) | (with_reducible refine bdrewN ?_ _) | (with_reducible refine bset ?_ (by first | omega | (simp; done) | (simp; omega)) _) | (with_reducible refine bstep ?_ (by assumption))))
    generalize ((((w.alloc (.cells #[.int .i64 c, .int .i64 k, .int .i64 a, .int .i64 t] 37)).alloc (.cells #[.int .i64 c', .int .i64 k', .int .i64 a', .int .i64 t'] 37)).alloc (.cells #[.int .i64 0, .int .i64 0, .int .i64 0, .int .i64 0] 37)).alloc (.cells #[.int .i64 (wrap64 (c + c')), .int .i64 k, .int .i64 a, .int .i64 t] 37)) = W at *
    obtain ⟨d1, y1⟩ := B1.facts
    go_wp2_with fail
    refine (spec_l4Group _ _ _ _ _).mono ?_
    rintro e w1 ⟨rfl, hb1⟩
    obtain ⟨e1, x1⟩ := (B1.below hb1).facts
    obtain ⟨e2, x2⟩ := (B2.below hb1).facts
    obtain ⟨e3, g3, x3⟩ := (B3.below hb1).all
    have hbw1 := bstep hbw hb1
    clear d1
    go_wp2
    refine bodyPost_ret (v := .tuple #[.agg #[.int .i64 0, .int .i64 0, .int .i64 0, .int .i64 0], .bool false]) (by simp [results, Try.results19, go_sem, e3, g3, x3]) rfl ?_
    exact ⟨by simp [joinOk, okI, h1], (by repeat (first | (with_reducible exact Below.refl _ _) | (with_reducible assumption) | (with_reducible refine balloc ?_ _) | (with_reducible refine bdrew ?_) | (with_reducible refine bdrewN ?_ _) | (with_reducible refine bset ?_ (by first | omega | (simp; done) | (simp; omega)) _) | (with_reducible refine bstep ?_ (by assumption))))⟩
  · cases h2 : groupOk c' k' a' t'
    · go_enter Try.func19, Try.ntmps19
      go_upto_region 2 with (fail)
      have B1 : Blk ((((w.alloc (.cells #[.int .i64 c, .int .i64 k, .int .i64 a, .int .i64 t] 37)).alloc (.cells #[.int .i64 c', .int .i64 k', .int .i64 a', .int .i64 t'] 37)).alloc (.cells #[.int .i64 0, .int .i64 0, .int .i64 0, .int .i64 0] 37)).alloc (.cells #[.int .i64 (wrap64 (c + c')), .int .i64 k, .int .i64 a, .int .i64 t] 37)) w.heap.size 37 #[.int .i64 c, .int .i64 k, .int .i64 a, .int .i64 t] := (((Blk.new w _ _).alloc _).alloc _).alloc _
      have B2 : Blk ((((w.alloc (.cells #[.int .i64 c, .int .i64 k, .int .i64 a, .int .i64 t] 37)).alloc (.cells #[.int .i64 c', .int .i64 k', .int .i64 a', .int .i64 t'] 37)).alloc (.cells #[.int .i64 0, .int .i64 0, .int .i64 0, .int .i64 0] 37)).alloc (.cells #[.int .i64 (wrap64 (c + c')), .int .i64 k, .int .i64 a, .int .i64 t] 37)) (w.heap.size + 1) 37 #[.int .i64 c', .int .i64 k', .int .i64 a', .int .i64 t'] := by
        have := ((Blk.new (w.alloc (.cells #[.int .i64 c, .int .i64 k, .int .i64 a, .int .i64 t] 37)) 37 #[.int .i64 c', .int .i64 k', .int .i64 a', .int .i64 t']).alloc (.cells #[.int .i64 0, .int .i64 0, .int .i64 0, .int .i64 0] 37)).alloc (.cells #[.int .i64 (wrap64 (c + c')), .int .i64 k, .int .i64 a, .int .i64 t] 37)
        simpa using this
      have B3 : Blk ((((w.alloc (.cells #[.int .i64 c, .int .i64 k, .int .i64 a, .int .i64 t] 37)).alloc (.cells #[.int .i64 c', .int .i64 k', .int .i64 a', .int .i64 t'] 37)).alloc (.cells #[.int .i64 0, .int .i64 0, .int .i64 0, .int .i64 0] 37)).alloc (.cells #[.int .i64 (wrap64 (c + c')), .int .i64 k, .int .i64 a, .int .i64 t] 37)) (w.heap.size + 1 + 1) 37 #[.int .i64 0, .int .i64 0, .int .i64 0, .int .i64 0] := by
        have := (Blk.new ((w.alloc (.cells #[.int .i64 c, .int .i64 k, .int .i64 a, .int .i64 t] 37)).alloc (.cells #[.int .i64 c', .int .i64 k', .int .i64 a', .int .i64 t'] 37)) 37 #[.int .i64 0, .int .i64 0, .int .i64 0, .int .i64 0]).alloc (.cells #[.int .i64 (wrap64 (c + c')), .int .i64 k, .int .i64 a, .int .i64 t] 37)
        simpa using this
      have B4 : Blk ((((w.alloc (.cells #[.int .i64 c, .int .i64 k, .int .i64 a, .int .i64 t] 37)).alloc (.cells #[.int .i64 c', .int .i64 k', .int .i64 a', .int .i64 t'] 37)).alloc (.cells #[.int .i64 0, .int .i64 0, .int .i64 0, .int .i64 0] 37)).alloc (.cells #[.int .i64 (wrap64 (c + c')), .int .i64 k, .int .i64 a, .int .i64 t] 37)) (w.heap.size + 1 + 1 + 1) 37 #[.int .i64 (wrap64 (c + c')), .int .i64 k, .int .i64 a, .int .i64 t] := by
        have := Blk.new (((w.alloc (.cells #[.int .i64 c, .int .i64 k, .int .i64 a, .int .i64 t] 37)).alloc (.cells #[.int .i64 c', .int .i64 k', .int .i64 a', .int .i64 t'] 37)).alloc (.cells #[.int .i64 0, .int .i64 0, .int .i64 0, .int .i64 0] 37)) 37 #[.int .i64 (wrap64 (c + c')), .int .i64 k, .int .i64 a, .int .i64 t]
        simpa using this
      have hbw : Below w.heap.size w ((((w.alloc (.cells #[.int .i64 c, .int .i64 k, .int .i64 a, .int .i64 t] 37)).alloc (.cells #[.int .i64 c', .int .i64 k', .int .i64 a', .int .i64 t'] 37)).alloc (.cells #[.int .i64 0, .int .i64 0, .int .i64 0, .int .i64 0] 37)).alloc (.cells #[.int .i64 (wrap64 (c + c')), .int .i64 k, .int .i64 a, .int .i64 t] 37)) := (by repeat (first | (with_reducible exact Below.refl _ _) | (with_reducible assumption) | (with_reducible refine balloc ?_ _) | (with_reducible refine bdrew ?_) | (with_reducible refine bdrewN ?_ _) | (with_reducible refine bset ?_ (by first | omega | (simp; done) | (simp; omega)) _) | (with_reducible refine bstep ?_ (by assumption))))
      generalize ((((w.alloc (.cells #[.int .i64 c, .int .i64 k, .int .i64 a, .int .i64 t] 37)).alloc (.cells #[.int .i64 c', .int .i64 k', .int .i64 a', .int .i64 t'] 37)).alloc (.cells #[.int .i64 0, .int .i64 0, .int .i64 0, .int .i64 0] 37)).alloc (.cells #[.int .i64 (wrap64 (c + c')), .int .i64 k, .int .i64 a, .int .i64 t] 37)) = W at *
      obtain ⟨d1, y1⟩ := B1.facts
      go_wp2_with fail
      refine (spec_l4Group _ _ _ _ _).mono ?_
      rintro e w1 ⟨rfl, hb1⟩
      obtain ⟨e1, x1⟩ := (B1.below hb1).facts
      obtain ⟨e2, x2⟩ := (B2.below hb1).facts
      obtain ⟨e3, g3, x3⟩ := (B3.below hb1).all
      have hbw1 := bstep hbw hb1
      clear d1
      go_wp2_with fail
      refine (spec_l4Group _ _ _ _ _).mono ?_
      rintro e w2 ⟨rfl, hb2⟩
      obtain ⟨f1, u1⟩ := ((B1.below hb1).below hb2).facts
      obtain ⟨f2, u2⟩ := ((B2.below hb1).below hb2).facts
      obtain ⟨f3, h3, u3⟩ := ((B3.below hb1).below hb2).all
      obtain ⟨f4, u4⟩ := ((B4.below hb1).below hb2).facts
      have hbw2 := bstep hbw1 hb2
      clear e1 e2 e3 g3
      go_wp2
      refine bodyPost_ret (v := .tuple #[.agg #[.int .i64 0, .int .i64 0, .int .i64 0, .int .i64 0], .bool false]) (by simp [results, Try.results19, go_sem, f3, h3, u3]) rfl ?_
      exact ⟨by simp [joinOk, okI, h2], (by repeat (first | (with_reducible exact Below.refl _ _) | (with_reducible assumption) | (with_reducible refine balloc ?_ _) | (with_reducible refine bdrew ?_) | (with_reducible refine bdrewN ?_ _) | (with_reducible refine bset ?_ (by first | omega | (simp; done) | (simp; omega)) _) | (with_reducible refine bstep ?_ (by assumption))))⟩
    · obtain ⟨n1, n2⟩ := groupOk_count' h1
      obtain ⟨n3, n4⟩ := groupOk_count' h2
      by_cases he : k = k' ∧ a = a' ∧ t = t'
      · have q1 : (k != k') = false := by simp [he.1]
        have q2 : (a != a') = false := by simp [he.2.1]
        have q3 : (t != t') = false := by simp [he.2.2]
        have HE := Lib.hid he
        clear he
        go_enter Try.func19, Try.ntmps19
        go_upto_region 2 with (fail)
        have B1 : Blk ((((w.alloc (.cells #[.int .i64 c, .int .i64 k, .int .i64 a, .int .i64 t] 37)).alloc (.cells #[.int .i64 c', .int .i64 k', .int .i64 a', .int .i64 t'] 37)).alloc (.cells #[.int .i64 0, .int .i64 0, .int .i64 0, .int .i64 0] 37)).alloc (.cells #[.int .i64 (c + c'), .int .i64 k, .int .i64 a, .int .i64 t] 37)) w.heap.size 37 #[.int .i64 c, .int .i64 k, .int .i64 a, .int .i64 t] := (((Blk.new w _ _).alloc _).alloc _).alloc _
        have B2 : Blk ((((w.alloc (.cells #[.int .i64 c, .int .i64 k, .int .i64 a, .int .i64 t] 37)).alloc (.cells #[.int .i64 c', .int .i64 k', .int .i64 a', .int .i64 t'] 37)).alloc (.cells #[.int .i64 0, .int .i64 0, .int .i64 0, .int .i64 0] 37)).alloc (.cells #[.int .i64 (c + c'), .int .i64 k, .int .i64 a, .int .i64 t] 37)) (w.heap.size + 1) 37 #[.int .i64 c', .int .i64 k', .int .i64 a', .int .i64 t'] := by
          have := ((Blk.new (w.alloc (.cells #[.int .i64 c, .int .i64 k, .int .i64 a, .int .i64 t] 37)) 37 #[.int .i64 c', .int .i64 k', .int .i64 a', .int .i64 t']).alloc (.cells #[.int .i64 0, .int .i64 0, .int .i64 0, .int .i64 0] 37)).alloc (.cells #[.int .i64 (c + c'), .int .i64 k, .int .i64 a, .int .i64 t] 37)
          simpa using this
        have B3 : Blk ((((w.alloc (.cells #[.int .i64 c, .int .i64 k, .int .i64 a, .int .i64 t] 37)).alloc (.cells #[.int .i64 c', .int .i64 k', .int .i64 a', .int .i64 t'] 37)).alloc (.cells #[.int .i64 0, .int .i64 0, .int .i64 0, .int .i64 0] 37)).alloc (.cells #[.int .i64 (c + c'), .int .i64 k, .int .i64 a, .int .i64 t] 37)) (w.heap.size + 1 + 1) 37 #[.int .i64 0, .int .i64 0, .int .i64 0, .int .i64 0] := by
          have := (Blk.new ((w.alloc (.cells #[.int .i64 c, .int .i64 k, .int .i64 a, .int .i64 t] 37)).alloc (.cells #[.int .i64 c', .int .i64 k', .int .i64 a', .int .i64 t'] 37)) 37 #[.int .i64 0, .int .i64 0, .int .i64 0, .int .i64 0]).alloc (.cells #[.int .i64 (c + c'), .int .i64 k, .int .i64 a, .int .i64 t] 37)
          simpa using this
        have B4 : Blk ((((w.alloc (.cells #[.int .i64 c, .int .i64 k, .int .i64 a, .int .i64 t] 37)).alloc (.cells #[.int .i64 c', .int .i64 k', .int .i64 a', .int .i64 t'] 37)).alloc (.cells #[.int .i64 0, .int .i64 0, .int .i64 0, .int .i64 0] 37)).alloc (.cells #[.int .i64 (c + c'), .int .i64 k, .int .i64 a, .int .i64 t] 37)) (w.heap.size + 1 + 1 + 1) 37 #[.int .i64 (c + c'), .int .i64 k, .int .i64 a, .int .i64 t] := by
          have := Blk.new (((w.alloc (.cells #[.int .i64 c, .int .i64 k, .int .i64 a, .int .i64 t] 37)).alloc (.cells #[.int .i64 c', .int .i64 k', .int .i64 a', .int .i64 t'] 37)).alloc (.cells #[.int .i64 0, .int .i64 0, .int .i64 0, .int .i64 0] 37)) 37 #[.int .i64 (c + c'), .int .i64 k, .int .i64 a, .int .i64 t]
          simpa using this
        have hbw : Below w.heap.size w ((((w.alloc (.cells #[.int .i64 c, .int .i64 k, .int .i64 a, .int .i64 t] 37)).alloc (.cells #[.int .i64 c', .int .i64 k', .int .i64 a', .int .i64 t'] 37)).alloc (.cells #[.int .i64 0, .int .i64 0, .int .i64 0, .int .i64 0] 37)).alloc (.cells #[.int .i64 (c + c'), .int .i64 k, .int .i64 a, .int .i64 t] 37)) := (by repeat (first | (with_reducible exact Below.refl _ _) | (with_reducible assumption) | (with_reducible refine balloc ?_ _) | (with_reducible refine bdrew ?_) | (with_reducible refine bdrewN ?_ _) | (with_reducible refine bset ?_ (by first | omega | (simp; done) | (simp; omega)) _) | (with_reducible refine bstep ?_ (by assumption))))
        generalize ((((w.alloc (.cells #[.int .i64 c, .int .i64 k, .int .i64 a, .int .i64 t] 37)).alloc (.cells #[.int .i64 c', .int .i64 k', .int .i64 a', .int .i64 t'] 37)).alloc (.cells #[.int .i64 0, .int .i64 0, .int .i64 0, .int .i64 0] 37)).alloc (.cells #[.int .i64 (c + c'), .int .i64 k, .int .i64 a, .int .i64 t] 37)) = W at *
        obtain ⟨d1, y1⟩ := B1.facts
        go_wp2_with fail
        refine (spec_l4Group _ _ _ _ _).mono ?_
        rintro e w1 ⟨rfl, hb1⟩
        obtain ⟨e1, x1⟩ := (B1.below hb1).facts
        obtain ⟨e2, x2⟩ := (B2.below hb1).facts
        obtain ⟨e3, g3, x3⟩ := (B3.below hb1).all
        have hbw1 := bstep hbw hb1
        clear d1
        go_wp2_with fail
        refine (spec_l4Group _ _ _ _ _).mono ?_
        rintro e w2 ⟨rfl, hb2⟩
        obtain ⟨f1, u1⟩ := ((B1.below hb1).below hb2).facts
        obtain ⟨f2, u2⟩ := ((B2.below hb1).below hb2).facts
        obtain ⟨f3, h3, u3⟩ := ((B3.below hb1).below hb2).all
        obtain ⟨f4, u4⟩ := ((B4.below hb1).below hb2).facts
        have hbw2 := bstep hbw1 hb2
        clear e1 e2 e3 g3
        go_wp2_with fail
        refine (spec_l4Group _ _ _ _ _).mono ?_
        rintro e w3 ⟨rfl, hb3⟩
        obtain ⟨r1, r2, r3⟩ := (((B3.below hb1).below hb2).below hb3).all
        obtain ⟨s1, s2⟩ := (((B4.below hb1).below hb2).below hb3).facts
        clear f1 f2 f3 f4 h3
        have hbw3 := bstep hbw2 hb3
        cases h4 : groupOk (c + c') k a t
        · go_wp2
          refine bodyPost_ret (v := .tuple #[.agg #[.int .i64 0, .int .i64 0, .int .i64 0, .int .i64 0], .bool false]) (by simp [results, Try.results19, go_sem, r1, r2, r3]) rfl ?_
          exact ⟨by obtain ⟨rfl, rfl, rfl⟩ := HE.out; simp [joinOk, okI, h4], (by repeat (first | (with_reducible exact Below.refl _ _) | (with_reducible assumption) | (with_reducible refine balloc ?_ _) | (with_reducible refine bdrew ?_) | (with_reducible refine bdrewN ?_ _) | (with_reducible refine bset ?_ (by first | omega | (simp; done) | (simp; omega)) _) | (with_reducible refine bstep ?_ (by assumption))))⟩
        · go_wp2
          refine bodyPost_ret (v := .tuple #[.agg #[.int .i64 (c + c'), .int .i64 k, .int .i64 a, .int .i64 t], .bool true]) (by simp [results, Try.results19, go_sem, r1, r2, r3, s1, s2]) rfl ?_
          exact ⟨by obtain ⟨rfl, rfl, rfl⟩ := HE.out; simp [joinOk, okI, h1, h2, h4], (by repeat (first | (with_reducible exact Below.refl _ _) | (with_reducible assumption) | (with_reducible refine balloc ?_ _) | (with_reducible refine bdrew ?_) | (with_reducible refine bdrewN ?_ _) | (with_reducible refine bset ?_ (by first | omega | (simp; done) | (simp; omega)) _) | (with_reducible refine bstep ?_ (by assumption))))⟩
      · have HJ := Lib.hid (join_ne he)
        go_enter Try.func19, Try.ntmps19
        go_upto_region 2 with (fail)
        have B1 : Blk ((((w.alloc (.cells #[.int .i64 c, .int .i64 k, .int .i64 a, .int .i64 t] 37)).alloc (.cells #[.int .i64 c', .int .i64 k', .int .i64 a', .int .i64 t'] 37)).alloc (.cells #[.int .i64 0, .int .i64 0, .int .i64 0, .int .i64 0] 37)).alloc (.cells #[.int .i64 (c + c'), .int .i64 k, .int .i64 a, .int .i64 t] 37)) w.heap.size 37 #[.int .i64 c, .int .i64 k, .int .i64 a, .int .i64 t] := (((Blk.new w _ _).alloc _).alloc _).alloc _
        have B2 : Blk ((((w.alloc (.cells #[.int .i64 c, .int .i64 k, .int .i64 a, .int .i64 t] 37)).alloc (.cells #[.int .i64 c', .int .i64 k', .int .i64 a', .int .i64 t'] 37)).alloc (.cells #[.int .i64 0, .int .i64 0, .int .i64 0, .int .i64 0] 37)).alloc (.cells #[.int .i64 (c + c'), .int .i64 k, .int .i64 a, .int .i64 t] 37)) (w.heap.size + 1) 37 #[.int .i64 c', .int .i64 k', .int .i64 a', .int .i64 t'] := by
          have := ((Blk.new (w.alloc (.cells #[.int .i64 c, .int .i64 k, .int .i64 a, .int .i64 t] 37)) 37 #[.int .i64 c', .int .i64 k', .int .i64 a', .int .i64 t']).alloc (.cells #[.int .i64 0, .int .i64 0, .int .i64 0, .int .i64 0] 37)).alloc (.cells #[.int .i64 (c + c'), .int .i64 k, .int .i64 a, .int .i64 t] 37)
          simpa using this
        have B3 : Blk ((((w.alloc (.cells #[.int .i64 c, .int .i64 k, .int .i64 a, .int .i64 t] 37)).alloc (.cells #[.int .i64 c', .int .i64 k', .int .i64 a', .int .i64 t'] 37)).alloc (.cells #[.int .i64 0, .int .i64 0, .int .i64 0, .int .i64 0] 37)).alloc (.cells #[.int .i64 (c + c'), .int .i64 k, .int .i64 a, .int .i64 t] 37)) (w.heap.size + 1 + 1) 37 #[.int .i64 0, .int .i64 0, .int .i64 0, .int .i64 0] := by
          have := (Blk.new ((w.alloc (.cells #[.int .i64 c, .int .i64 k, .int .i64 a, .int .i64 t] 37)).alloc (.cells #[.int .i64 c', .int .i64 k', .int .i64 a', .int .i64 t'] 37)) 37 #[.int .i64 0, .int .i64 0, .int .i64 0, .int .i64 0]).alloc (.cells #[.int .i64 (c + c'), .int .i64 k, .int .i64 a, .int .i64 t] 37)
          simpa using this
        have B4 : Blk ((((w.alloc (.cells #[.int .i64 c, .int .i64 k, .int .i64 a, .int .i64 t] 37)).alloc (.cells #[.int .i64 c', .int .i64 k', .int .i64 a', .int .i64 t'] 37)).alloc (.cells #[.int .i64 0, .int .i64 0, .int .i64 0, .int .i64 0] 37)).alloc (.cells #[.int .i64 (c + c'), .int .i64 k, .int .i64 a, .int .i64 t] 37)) (w.heap.size + 1 + 1 + 1) 37 #[.int .i64 (c + c'), .int .i64 k, .int .i64 a, .int .i64 t] := by
          have := Blk.new (((w.alloc (.cells #[.int .i64 c, .int .i64 k, .int .i64 a, .int .i64 t] 37)).alloc (.cells #[.int .i64 c', .int .i64 k', .int .i64 a', .int .i64 t'] 37)).alloc (.cells #[.int .i64 0, .int .i64 0, .int .i64 0, .int .i64 0] 37)) 37 #[.int .i64 (c + c'), .int .i64 k, .int .i64 a, .int .i64 t]
          simpa using this
        have hbw : Below w.heap.size w ((((w.alloc (.cells #[.int .i64 c, .int .i64 k, .int .i64 a, .int .i64 t] 37)).alloc (.cells #[.int .i64 c', .int .i64 k', .int .i64 a', .int .i64 t'] 37)).alloc (.cells #[.int .i64 0, .int .i64 0, .int .i64 0, .int .i64 0] 37)).alloc (.cells #[.int .i64 (c + c'), .int .i64 k, .int .i64 a, .int .i64 t] 37)) := (by repeat (first | (with_reducible exact Below.refl _ _) | (with_reducible assumption) | (with_reducible refine balloc ?_ _) | (with_reducible refine bdrew ?_) | (with_reducible refine bdrewN ?_ _) | (with_reducible refine bset ?_ (by first | omega | (simp; done) | (simp; omega)) _) | (with_reducible refine bstep ?_ (by assumption))))
        generalize ((((w.alloc (.cells #[.int .i64 c, .int .i64 k, .int .i64 a, .int .i64 t] 37)).alloc (.cells #[.int .i64 c', .int .i64 k', .int .i64 a', .int .i64 t'] 37)).alloc (.cells #[.int .i64 0, .int .i64 0, .int .i64 0, .int .i64 0] 37)).alloc (.cells #[.int .i64 (c + c'), .int .i64 k, .int .i64 a, .int .i64 t] 37)) = W at *
        obtain ⟨d1, y1⟩ := B1.facts
        go_wp2_with fail
        refine (spec_l4Group _ _ _ _ _).mono ?_
        rintro e w1 ⟨rfl, hb1⟩
        obtain ⟨e1, x1⟩ := (B1.below hb1).facts
        obtain ⟨e2, x2⟩ := (B2.below hb1).facts
        obtain ⟨e3, g3, x3⟩ := (B3.below hb1).all
        have hbw1 := bstep hbw hb1
        clear d1
        go_wp2_with fail
        refine (spec_l4Group _ _ _ _ _).mono ?_
        rintro e w2 ⟨rfl, hb2⟩
        obtain ⟨f1, u1⟩ := ((B1.below hb1).below hb2).facts
        obtain ⟨f2, u2⟩ := ((B2.below hb1).below hb2).facts
        obtain ⟨f3, h3, u3⟩ := ((B3.below hb1).below hb2).all
        obtain ⟨f4, u4⟩ := ((B4.below hb1).below hb2).facts
        have hbw2 := bstep hbw1 hb2
        clear e1 e2 e3 g3
        by_cases p1 : k = k'
        · subst p1
          by_cases p2 : a = a'
          · subst p2
            have p3 : (t != t') = true := by simpa using he
            go_wp2
            refine bodyPost_ret (v := .tuple #[.agg #[.int .i64 0, .int .i64 0, .int .i64 0, .int .i64 0], .bool false]) (by simp [results, Try.results19, go_sem, f3, h3, u3]) rfl ?_
            exact ⟨by simp only [joinOk, h1, h2, HJ.out]; rfl, (by repeat (first | (with_reducible exact Below.refl _ _) | (with_reducible assumption) | (with_reducible refine balloc ?_ _) | (with_reducible refine bdrew ?_) | (with_reducible refine bdrewN ?_ _) | (with_reducible refine bset ?_ (by first | omega | (simp; done) | (simp; omega)) _) | (with_reducible refine bstep ?_ (by assumption))))⟩
          · have p3 : (a != a') = true := by simpa using p2
            go_wp2
            refine bodyPost_ret (v := .tuple #[.agg #[.int .i64 0, .int .i64 0, .int .i64 0, .int .i64 0], .bool false]) (by simp [results, Try.results19, go_sem, f3, h3, u3]) rfl ?_
            exact ⟨by simp only [joinOk, h1, h2, HJ.out]; rfl, (by repeat (first | (with_reducible exact Below.refl _ _) | (with_reducible assumption) | (with_reducible refine balloc ?_ _) | (with_reducible refine bdrew ?_) | (with_reducible refine bdrewN ?_ _) | (with_reducible refine bset ?_ (by first | omega | (simp; done) | (simp; omega)) _) | (with_reducible refine bstep ?_ (by assumption))))⟩
        · have p3 : (k != k') = true := by simpa using p1
          go_wp2
          refine bodyPost_ret (v := .tuple #[.agg #[.int .i64 0, .int .i64 0, .int .i64 0, .int .i64 0], .bool false]) (by simp [results, Try.results19, go_sem, f3, h3, u3]) rfl ?_
          exact ⟨by simp only [joinOk, h1, h2, HJ.out]; rfl, (by repeat (first | (with_reducible exact Below.refl _ _) | (with_reducible assumption) | (with_reducible refine balloc ?_ _) | (with_reducible refine bdrew ?_) | (with_reducible refine bdrewN ?_ _) | (with_reducible refine bset ?_ (by first | omega | (simp; done) | (simp; omega)) _) | (with_reducible refine bstep ?_ (by assumption))))⟩
end Go.Proofs.Ytefbamciainhgaa
