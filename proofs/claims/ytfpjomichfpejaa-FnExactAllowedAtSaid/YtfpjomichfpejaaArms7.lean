/- The tinctures that are allowed at a place. Conditions: as each theorem says. -/
import Derived.Test.YtfpjomichfpejaaRows
import Derived.Test.YtfpjomichfpejaaArms6
namespace Go.Proofs.Ytfpjomichfpejaa
set_option linter.unusedSimpArgs false
set_option linter.unusedVariables false
open Go.ChangeShapes Go.WideShapes Go.ChangeAt Go.RowKit

/-- The list that is laid, beside the list that is read. -/
def LS (w : World) (B : Nat) (vb : Value) (ys : List Int) (v : Value) (xs : List Int) (W : World) : Prop := Ints W B v xs ∧ (∃ Bb, Ints W Bb vb ys) ∧ (vb.ownBlock = none ∨ ∃ g, vb.ownBlock = some g ∧ g < B) ∧ Below w.heap.size w W ∧ w.heap.size ≤ B ∧ B ≤ W.heap.size
section
variable {w W W' : World} {B : Nat} {vb v v' : Value} {ys xs : List Int} {y : Int}
theorem LS.apart (h : LS w B vb ys v xs W) : vb.ownBlock = none ∨ vb.ownBlock ≠ v.ownBlock := by
  rcases h.2.2.1 with e | ⟨g, e, hg⟩
  · exact .inl e
  · rw [e]
    exact .inr (own_ne h.1 hg)
theorem LS.app (h : LS w B vb ys v xs W) (hi : Ints W' B v' (xs ++ [y])) (hg : W.grownBy W' v.ownBlock) : LS w B vb ys v' (xs ++ [y]) W' := by
  obtain ⟨Bb, hb⟩ := h.2.1
  exact ⟨hi, ⟨Bb, hb.kept hg h.apart⟩, h.2.2.1, grown_below h.2.2.2.1 hg (fun q hq => Nat.le_trans h.2.2.2.2.1 (h.1.lt q hq).1), h.2.2.2.2.1, Nat.le_trans h.2.2.2.2.2 hg.size⟩
theorem LS.reads (h : LS w B vb ys v xs W) : ∃ A c, vb = .slice A ys.length c ∧ Hid (Reads W A ys) := by
  obtain ⟨Bb, hb⟩ := h.2.1
  exact hb.reads
theorem LS.start {w1 : World} {Bb : Nat} (hb : Ints W Bb vb ys) (hw : Below w.heap.size w W) : LS w W.heap.size vb ys (.slice (some ⟨W.heap.size, 0, none⟩) 0 0) [] (W.alloc (.cells #[] 3)) := by
  refine ⟨ints_lit W [] #[] 0 rfl rfl (by decide), ⟨Bb, hb.below (balloc (Below.refl _ _) _)⟩, ?_, balloc hw _, hw.size, by simp⟩
  cases e : vb.ownBlock with
  | none => exact .inl rfl
  | some g => exact .inr ⟨g, rfl, (hb.lt g e).2⟩
end
/-- The loop. -/
theorem allow_step {ys : List Int} {k : Nat} {b : Bool} (he : brk ((k : Int) + 1) ys = b) : freeTo ys (k + 1) = if b then freeTo ys k else freeTo ys k ++ [(k : Int) + 1] := by rw [freeTo_succ, he]
set_option maxHeartbeats 1000000 in
theorem impl_AllowedAt_no (a : AV) (p : Int) (w : World) (h : (a.ok && a.there p) = false) : Calls Try.prog 43 #[.agg #[.int .i64 a.f.d, .int .i64 a.f.l, .int .i64 a.f.a, .int .i64 a.f.b, .int .i64 a.o, .int .i64 a.l, .int .i64 a.t, .int .i64 a.on.c, .int .i64 a.on.k, .int .i64 a.on.a, .int .i64 a.on.t, .int .i64 a.ar.c, .int .i64 a.ar.k, .int .i64 a.ar.a, .int .i64 a.ar.t], .int .i64 p] w (RetInts false [] w) := by
  cases h0 : a.ok
  · clear h
    go_enter Try.func43, Try.ntmps43
    go_upto_region 1 with (fail)
    have B := Blk.new w 32 #[Value.int .i64 a.f.d, Value.int .i64 a.f.l, Value.int .i64 a.f.a, Value.int .i64 a.f.b, Value.int .i64 a.o, Value.int .i64 a.l, Value.int .i64 a.t, Value.int .i64 a.on.c, Value.int .i64 a.on.k, Value.int .i64 a.on.a, Value.int .i64 a.on.t, Value.int .i64 a.ar.c, Value.int .i64 a.ar.k, Value.int .i64 a.ar.a, Value.int .i64 a.ar.t]
    have hW : Below w.heap.size w (w.alloc (.cells #[Value.int .i64 a.f.d, Value.int .i64 a.f.l, Value.int .i64 a.f.a, Value.int .i64 a.f.b, Value.int .i64 a.o, Value.int .i64 a.l, Value.int .i64 a.t, Value.int .i64 a.on.c, Value.int .i64 a.on.k, Value.int .i64 a.on.a, Value.int .i64 a.on.t, Value.int .i64 a.ar.c, Value.int .i64 a.ar.k, Value.int .i64 a.ar.a, Value.int .i64 a.ar.t] 32)) := (by repeat (first | (with_reducible exact Below.refl _ _) | (with_reducible assumption) | (with_reducible refine balloc ?_ _) | (with_reducible refine bdrew ?_) | (with_reducible refine bdrewN ?_ _) | (with_reducible refine bset ?_ (by first | omega | (simp; done) | (simp; omega)) _) | (with_reducible refine bstep ?_ (by assumption))))
    generalize w.alloc (.cells #[Value.int .i64 a.f.d, Value.int .i64 a.f.l, Value.int .i64 a.f.a, Value.int .i64 a.f.b, Value.int .i64 a.o, Value.int .i64 a.l, Value.int .i64 a.t, Value.int .i64 a.on.c, Value.int .i64 a.on.k, Value.int .i64 a.on.a, Value.int .i64 a.on.t, Value.int .i64 a.ar.c, Value.int .i64 a.ar.k, Value.int .i64 a.ar.a, Value.int .i64 a.ar.t] 32) = W at *
    obtain ⟨c1, z1⟩ := B.facts
    go_wp2_with (first | ((with_reducible refine wp_ldA' ?_ B ?_); (focus (refine ⟨rfl, ⟨_, rfl, ?_⟩, rfl⟩; simp [go_sem]; done))) | (go_at_call 17; refine (impl_IsValidArms a _).mono ?_; rintro e w1 ⟨rfl, hb1⟩; clear c1 z1; replace B := B.below hb1; obtain ⟨c1, z1⟩ := B.facts; replace hW := bstep hW hb1; clear hb1))
    go_ret2
    exact ⟨_, rfl, Ints.nil _ _, hW⟩
  · rw [h0, Bool.true_and] at h
    unfold AV.there at h
    simp only [Bool.or_eq_false_iff, Bool.and_eq_false_iff] at h
    obtain ⟨h1, h2, h3⟩ := h
    have he0 := eqg_group
    have he1 := neq_group
    have H1 := Lib.hid h1
    have H2 := Lib.hid h2
    have H3 := Lib.hid h3
    clear h1 h2 h3
    go_enter Try.func43, Try.ntmps43
    go_upto_region 1 with (fail)
    have B := Blk.new w 32 #[Value.int .i64 a.f.d, Value.int .i64 a.f.l, Value.int .i64 a.f.a, Value.int .i64 a.f.b, Value.int .i64 a.o, Value.int .i64 a.l, Value.int .i64 a.t, Value.int .i64 a.on.c, Value.int .i64 a.on.k, Value.int .i64 a.on.a, Value.int .i64 a.on.t, Value.int .i64 a.ar.c, Value.int .i64 a.ar.k, Value.int .i64 a.ar.a, Value.int .i64 a.ar.t]
    have hW : Below w.heap.size w (w.alloc (.cells #[Value.int .i64 a.f.d, Value.int .i64 a.f.l, Value.int .i64 a.f.a, Value.int .i64 a.f.b, Value.int .i64 a.o, Value.int .i64 a.l, Value.int .i64 a.t, Value.int .i64 a.on.c, Value.int .i64 a.on.k, Value.int .i64 a.on.a, Value.int .i64 a.on.t, Value.int .i64 a.ar.c, Value.int .i64 a.ar.k, Value.int .i64 a.ar.a, Value.int .i64 a.ar.t] 32)) := (by repeat (first | (with_reducible exact Below.refl _ _) | (with_reducible assumption) | (with_reducible refine balloc ?_ _) | (with_reducible refine bdrew ?_) | (with_reducible refine bdrewN ?_ _) | (with_reducible refine bset ?_ (by first | omega | (simp; done) | (simp; omega)) _) | (with_reducible refine bstep ?_ (by assumption))))
    generalize w.alloc (.cells #[Value.int .i64 a.f.d, Value.int .i64 a.f.l, Value.int .i64 a.f.a, Value.int .i64 a.f.b, Value.int .i64 a.o, Value.int .i64 a.l, Value.int .i64 a.t, Value.int .i64 a.on.c, Value.int .i64 a.on.k, Value.int .i64 a.on.a, Value.int .i64 a.on.t, Value.int .i64 a.ar.c, Value.int .i64 a.ar.k, Value.int .i64 a.ar.a, Value.int .i64 a.ar.t] 32) = W at *
    obtain ⟨c1, z1⟩ := B.facts
    go_upto_region 3 with (first | ((with_reducible refine wp_ldA' ?_ B ?_); (focus (refine ⟨rfl, ⟨_, rfl, ?_⟩, rfl⟩; simp [go_sem]; done))) | (go_at_call 17; refine (impl_IsValidArms a _).mono ?_; rintro e w1 ⟨rfl, hb1⟩; clear c1 z1; replace B := B.below hb1; obtain ⟨c1, z1⟩ := B.facts; replace hW := bstep hW hb1; clear hb1))
    go_upto_region 5 with (go_at_call 75; refine (impl_Field_tinctures _ _ _ _ _).mono ?_; rintro e w2 ⟨vb, rfl, hi, hb2⟩)
    clear hi c1 z1
    replace B := B.below hb2
    obtain ⟨c1, z1⟩ := B.facts
    replace hW := bstep hW hb2
    clear hb2
    by_cases p1 : p = 1
    · subst p1
      have o0 : (a.o != 0) = false := by rcases H1.out with h | h; cases h; exact h
      go_wp2
      go_ret2
      exact ⟨_, rfl, Ints.nil _ _, hW⟩
    have q1 : (p == 1) = false := by simpa using p1
    by_cases p2 : p = 2
    · subst p2
      have o0 : (!gEq a.on.c a.on.k a.on.a a.on.t 0 0 0 0) = false := by rcases H2.out with h | h; cases h; exact h
      go_wp2
      go_ret2
      exact ⟨_, rfl, Ints.nil _ _, hW⟩
    have q2 : (p == 2) = false := by simpa using p2
    by_cases p3 : p = 3
    · subst p3
      have o0 : (!gEq a.ar.c a.ar.k a.ar.a a.ar.t 0 0 0 0) = false := by rcases H3.out with h | h; cases h; exact h
      go_wp2
      go_ret2
      exact ⟨_, rfl, Ints.nil _ _, hW⟩
    have q3 : (p == 3) = false := by simpa using p3
    clear p1 p2 p3
    go_wp2
    go_ret2
    exact ⟨_, rfl, Ints.nil _ _, hW⟩
set_option maxHeartbeats 1000000 in
theorem impl_AllowedAt_1 (a : AV) (w : World) (h0 : a.ok = true) (h1 : (a.o != 0) = true) : Calls Try.prog 43 #[.agg #[.int .i64 a.f.d, .int .i64 a.f.l, .int .i64 a.f.a, .int .i64 a.f.b, .int .i64 a.o, .int .i64 a.l, .int .i64 a.t, .int .i64 a.on.c, .int .i64 a.on.k, .int .i64 a.on.a, .int .i64 a.on.t, .int .i64 a.ar.c, .int .i64 a.ar.k, .int .i64 a.ar.a, .int .i64 a.ar.t], .int .i64 1] w (RetInts true (freeTo (a.under 1) 9) w) := by
  have he0 := eqg_group
  have he1 := neq_group
  go_enter Try.func43, Try.ntmps43
  go_upto_region 1 with (fail)
  have B := Blk.new w 32 #[Value.int .i64 a.f.d, Value.int .i64 a.f.l, Value.int .i64 a.f.a, Value.int .i64 a.f.b, Value.int .i64 a.o, Value.int .i64 a.l, Value.int .i64 a.t, Value.int .i64 a.on.c, Value.int .i64 a.on.k, Value.int .i64 a.on.a, Value.int .i64 a.on.t, Value.int .i64 a.ar.c, Value.int .i64 a.ar.k, Value.int .i64 a.ar.a, Value.int .i64 a.ar.t]
  have hW : Below w.heap.size w (w.alloc (.cells #[Value.int .i64 a.f.d, Value.int .i64 a.f.l, Value.int .i64 a.f.a, Value.int .i64 a.f.b, Value.int .i64 a.o, Value.int .i64 a.l, Value.int .i64 a.t, Value.int .i64 a.on.c, Value.int .i64 a.on.k, Value.int .i64 a.on.a, Value.int .i64 a.on.t, Value.int .i64 a.ar.c, Value.int .i64 a.ar.k, Value.int .i64 a.ar.a, Value.int .i64 a.ar.t] 32)) := (by repeat (first | (with_reducible exact Below.refl _ _) | (with_reducible assumption) | (with_reducible refine balloc ?_ _) | (with_reducible refine bdrew ?_) | (with_reducible refine bdrewN ?_ _) | (with_reducible refine bset ?_ (by first | omega | (simp; done) | (simp; omega)) _) | (with_reducible refine bstep ?_ (by assumption))))
  generalize w.alloc (.cells #[Value.int .i64 a.f.d, Value.int .i64 a.f.l, Value.int .i64 a.f.a, Value.int .i64 a.f.b, Value.int .i64 a.o, Value.int .i64 a.l, Value.int .i64 a.t, Value.int .i64 a.on.c, Value.int .i64 a.on.k, Value.int .i64 a.on.a, Value.int .i64 a.on.t, Value.int .i64 a.ar.c, Value.int .i64 a.ar.k, Value.int .i64 a.ar.a, Value.int .i64 a.ar.t] 32) = W at *
  obtain ⟨c1, z1⟩ := B.facts
  go_upto_region 3 with (first | ((with_reducible refine wp_ldA' ?_ B ?_); (focus (refine ⟨rfl, ⟨_, rfl, ?_⟩, rfl⟩; simp [go_sem]; done))) | (go_at_call 17; refine (impl_IsValidArms a _).mono ?_; rintro e w1 ⟨rfl, hb1⟩; clear c1 z1; replace B := B.below hb1; obtain ⟨c1, z1⟩ := B.facts; replace hW := bstep hW hb1; clear hb1))
  go_upto_region 5 with (go_at_call 75; refine (impl_Field_tinctures _ _ _ _ _).mono ?_; rintro e w2 ⟨vb, rfl, hi, hb2⟩)
  replace hW := bstep hW hb2
  replace B := B.below hb2
  clear c1 z1
  obtain ⟨c1, z1⟩ := B.facts
  have HU : Hid ((∃ Bb, Ints w2 Bb vb (a.under 1)) ∧ Below w.heap.size w w2) := ⟨⟨_, hi⟩, hW⟩
  clear hi hb2 hW
  go_upto_region 9 with fail
  obtain ⟨Bb, hbb⟩ := HU.out.1
  have HS0 := Lib.hid (LS.start (w1 := w) hbb HU.out.2)
  have hul : (a.under 1).length ≤ 2 := under_len a _
  clear hbb HU
  go_wp2
  go_loopw [7, 8] (fun v x wr => ∃ k : Nat, k ≤ 9 ∧ x = .int .i64 ((k : Int) + 1) ∧ Hid (LS w w2.heap.size vb (a.under 1) v (freeTo (a.under 1) k) wr)) (fun _ x _ => 10 - (intOf x).toNat)
  case atStart => exact ⟨0, Nat.zero_le _, rfl, HS0⟩
  case round =>
    obtain ⟨k, hk, rfl, hi⟩ := hrel
    clear HS0
    by_cases hlt : k < 9
    · have hl := freeTo_len (a.under 1) k
      obtain ⟨A, c, rfl, HR⟩ := hi.out.reads
      have hzz := hi.out.2.2.2.2.2
      cases he : brk ((k : Int) + 1) (a.under 1)
      · have HS := Lib.hid (allow_step he)
        go_wp2_with (first | (go_at_call 76; refine (impl_breaks _ _ _ (a.under 1) _ _ rfl (by unfold maxLen; omega) HR.out).mono ?_; rintro e w' ⟨rfl, rfl⟩) | (at_builtin; refine wp_append3 rfl _ _ rfl _ _ _ _ rfl rfl hi.out.1 hzz (by omega) ?_; intro v' w1 hi1 hg1 hat1))
        have HN := Lib.hid (hi.out.app hi1 hg1)
        clear hi1 hg1 hat1
        go_roundw
        case rel => exact ⟨k + 1, by omega, by go_num, by rw [HS.out]; exact HN⟩
        case measure => simp [intOf]; omega
      · have HS := Lib.hid (allow_step he)
        go_wp2_with (go_at_call 76; refine (impl_breaks _ _ _ (a.under 1) _ _ rfl (by unfold maxLen; omega) HR.out).mono ?_; rintro e w' ⟨rfl, rfl⟩)
        go_roundw
        case rel => exact ⟨k + 1, by omega, by go_num, by rw [HS.out]; exact hi⟩
        case measure => simp [intOf]; omega
    · obtain rfl : k = 9 := by omega
      go_wp2
      go_ret2
      exact ⟨_, rfl, hi.out.1.base hi.out.2.2.2.2.1, hi.out.2.2.2.1⟩
set_option maxHeartbeats 1000000 in
theorem impl_AllowedAt_2 (a : AV) (w : World) (h0 : a.ok = true) (h1 : (!gEq a.on.c a.on.k a.on.a a.on.t 0 0 0 0) = true) : Calls Try.prog 43 #[.agg #[.int .i64 a.f.d, .int .i64 a.f.l, .int .i64 a.f.a, .int .i64 a.f.b, .int .i64 a.o, .int .i64 a.l, .int .i64 a.t, .int .i64 a.on.c, .int .i64 a.on.k, .int .i64 a.on.a, .int .i64 a.on.t, .int .i64 a.ar.c, .int .i64 a.ar.k, .int .i64 a.ar.a, .int .i64 a.ar.t], .int .i64 2] w (RetInts true (freeTo (a.under 2) 9) w) := by
  have he0 := eqg_group
  have he1 := neq_group
  go_enter Try.func43, Try.ntmps43
  go_upto_region 1 with (fail)
  have B := Blk.new w 32 #[Value.int .i64 a.f.d, Value.int .i64 a.f.l, Value.int .i64 a.f.a, Value.int .i64 a.f.b, Value.int .i64 a.o, Value.int .i64 a.l, Value.int .i64 a.t, Value.int .i64 a.on.c, Value.int .i64 a.on.k, Value.int .i64 a.on.a, Value.int .i64 a.on.t, Value.int .i64 a.ar.c, Value.int .i64 a.ar.k, Value.int .i64 a.ar.a, Value.int .i64 a.ar.t]
  have hW : Below w.heap.size w (w.alloc (.cells #[Value.int .i64 a.f.d, Value.int .i64 a.f.l, Value.int .i64 a.f.a, Value.int .i64 a.f.b, Value.int .i64 a.o, Value.int .i64 a.l, Value.int .i64 a.t, Value.int .i64 a.on.c, Value.int .i64 a.on.k, Value.int .i64 a.on.a, Value.int .i64 a.on.t, Value.int .i64 a.ar.c, Value.int .i64 a.ar.k, Value.int .i64 a.ar.a, Value.int .i64 a.ar.t] 32)) := (by repeat (first | (with_reducible exact Below.refl _ _) | (with_reducible assumption) | (with_reducible refine balloc ?_ _) | (with_reducible refine bdrew ?_) | (with_reducible refine bdrewN ?_ _) | (with_reducible refine bset ?_ (by first | omega | (simp; done) | (simp; omega)) _) | (with_reducible refine bstep ?_ (by assumption))))
  generalize w.alloc (.cells #[Value.int .i64 a.f.d, Value.int .i64 a.f.l, Value.int .i64 a.f.a, Value.int .i64 a.f.b, Value.int .i64 a.o, Value.int .i64 a.l, Value.int .i64 a.t, Value.int .i64 a.on.c, Value.int .i64 a.on.k, Value.int .i64 a.on.a, Value.int .i64 a.on.t, Value.int .i64 a.ar.c, Value.int .i64 a.ar.k, Value.int .i64 a.ar.a, Value.int .i64 a.ar.t] 32) = W at *
  obtain ⟨c1, z1⟩ := B.facts
  go_upto_region 3 with (first | ((with_reducible refine wp_ldA' ?_ B ?_); (focus (refine ⟨rfl, ⟨_, rfl, ?_⟩, rfl⟩; simp [go_sem]; done))) | (go_at_call 17; refine (impl_IsValidArms a _).mono ?_; rintro e w1 ⟨rfl, hb1⟩; clear c1 z1; replace B := B.below hb1; obtain ⟨c1, z1⟩ := B.facts; replace hW := bstep hW hb1; clear hb1))
  go_upto_region 5 with (go_at_call 75; refine (impl_Field_tinctures _ _ _ _ _).mono ?_; rintro e w2 ⟨v0, rfl, hi, hb2⟩)
  replace hW := bstep hW hb2
  replace B := B.below hb2
  clear c1 z1
  obtain ⟨c1, z1⟩ := B.facts
  clear hi hb2
  go_upto_region 9 with fail
  have HU : Hid ((∃ Bb, Ints (w2.alloc (.cells #[.int .i64 a.t] 3)) Bb (.slice (some ⟨w2.heap.size, 0, none⟩) 1 1) (a.under 2)) ∧ Below w.heap.size w (w2.alloc (.cells #[.int .i64 a.t] 3))) := ⟨⟨_, ints_lit w2 [a.t] #[.int .i64 a.t] 1 rfl rfl (by simp [maxLen])⟩, balloc hW _⟩
  generalize hvb : Value.slice (some ⟨w2.heap.size, 0, none⟩) 1 1 = vb' at *
  clear hvb hW B c1 z1
  generalize w2.alloc (.cells #[.int .i64 a.t] 3) = w3 at *
  obtain ⟨Bb, hbb⟩ := HU.out.1
  have HS0 := Lib.hid (LS.start (w1 := w) hbb HU.out.2)
  have hul : (a.under 2).length ≤ 2 := under_len a _
  clear hbb HU
  go_wp2
  go_loopw [7, 8] (fun v x wr => ∃ k : Nat, k ≤ 9 ∧ x = .int .i64 ((k : Int) + 1) ∧ Hid (LS w w3.heap.size vb' (a.under 2) v (freeTo (a.under 2) k) wr)) (fun _ x _ => 10 - (intOf x).toNat)
  case atStart => exact ⟨0, Nat.zero_le _, rfl, HS0⟩
  case round =>
    obtain ⟨k, hk, rfl, hi⟩ := hrel
    clear HS0
    by_cases hlt : k < 9
    · have hl := freeTo_len (a.under 2) k
      obtain ⟨A, c, rfl, HR⟩ := hi.out.reads
      have hzz := hi.out.2.2.2.2.2
      cases he : brk ((k : Int) + 1) (a.under 2)
      · have HS := Lib.hid (allow_step he)
        go_wp2_with (first | (go_at_call 76; refine (impl_breaks _ _ _ (a.under 2) _ _ rfl (by unfold maxLen; omega) HR.out).mono ?_; rintro e w' ⟨rfl, rfl⟩) | (at_builtin; refine wp_append3 rfl _ _ rfl _ _ _ _ rfl rfl hi.out.1 hzz (by omega) ?_; intro v' w1 hi1 hg1 hat1))
        have HN := Lib.hid (hi.out.app hi1 hg1)
        clear hi1 hg1 hat1
        go_roundw
        case rel => exact ⟨k + 1, by omega, by go_num, by rw [HS.out]; exact HN⟩
        case measure => simp [intOf]; omega
      · have HS := Lib.hid (allow_step he)
        go_wp2_with (go_at_call 76; refine (impl_breaks _ _ _ (a.under 2) _ _ rfl (by unfold maxLen; omega) HR.out).mono ?_; rintro e w' ⟨rfl, rfl⟩)
        go_roundw
        case rel => exact ⟨k + 1, by omega, by go_num, by rw [HS.out]; exact hi⟩
        case measure => simp [intOf]; omega
    · obtain rfl : k = 9 := by omega
      go_wp2
      go_ret2
      exact ⟨_, rfl, hi.out.1.base hi.out.2.2.2.2.1, hi.out.2.2.2.1⟩
set_option maxHeartbeats 1000000 in
theorem impl_AllowedAt_3 (a : AV) (w : World) (h0 : a.ok = true) (h1 : (!gEq a.ar.c a.ar.k a.ar.a a.ar.t 0 0 0 0) = true) : Calls Try.prog 43 #[.agg #[.int .i64 a.f.d, .int .i64 a.f.l, .int .i64 a.f.a, .int .i64 a.f.b, .int .i64 a.o, .int .i64 a.l, .int .i64 a.t, .int .i64 a.on.c, .int .i64 a.on.k, .int .i64 a.on.a, .int .i64 a.on.t, .int .i64 a.ar.c, .int .i64 a.ar.k, .int .i64 a.ar.a, .int .i64 a.ar.t], .int .i64 3] w (RetInts true (freeTo (a.under 3) 9) w) := by
  have he0 := eqg_group
  have he1 := neq_group
  go_enter Try.func43, Try.ntmps43
  go_upto_region 1 with (fail)
  have B := Blk.new w 32 #[Value.int .i64 a.f.d, Value.int .i64 a.f.l, Value.int .i64 a.f.a, Value.int .i64 a.f.b, Value.int .i64 a.o, Value.int .i64 a.l, Value.int .i64 a.t, Value.int .i64 a.on.c, Value.int .i64 a.on.k, Value.int .i64 a.on.a, Value.int .i64 a.on.t, Value.int .i64 a.ar.c, Value.int .i64 a.ar.k, Value.int .i64 a.ar.a, Value.int .i64 a.ar.t]
  have hW : Below w.heap.size w (w.alloc (.cells #[Value.int .i64 a.f.d, Value.int .i64 a.f.l, Value.int .i64 a.f.a, Value.int .i64 a.f.b, Value.int .i64 a.o, Value.int .i64 a.l, Value.int .i64 a.t, Value.int .i64 a.on.c, Value.int .i64 a.on.k, Value.int .i64 a.on.a, Value.int .i64 a.on.t, Value.int .i64 a.ar.c, Value.int .i64 a.ar.k, Value.int .i64 a.ar.a, Value.int .i64 a.ar.t] 32)) := (by repeat (first | (with_reducible exact Below.refl _ _) | (with_reducible assumption) | (with_reducible refine balloc ?_ _) | (with_reducible refine bdrew ?_) | (with_reducible refine bdrewN ?_ _) | (with_reducible refine bset ?_ (by first | omega | (simp; done) | (simp; omega)) _) | (with_reducible refine bstep ?_ (by assumption))))
  generalize w.alloc (.cells #[Value.int .i64 a.f.d, Value.int .i64 a.f.l, Value.int .i64 a.f.a, Value.int .i64 a.f.b, Value.int .i64 a.o, Value.int .i64 a.l, Value.int .i64 a.t, Value.int .i64 a.on.c, Value.int .i64 a.on.k, Value.int .i64 a.on.a, Value.int .i64 a.on.t, Value.int .i64 a.ar.c, Value.int .i64 a.ar.k, Value.int .i64 a.ar.a, Value.int .i64 a.ar.t] 32) = W at *
  obtain ⟨c1, z1⟩ := B.facts
  go_upto_region 3 with (first | ((with_reducible refine wp_ldA' ?_ B ?_); (focus (refine ⟨rfl, ⟨_, rfl, ?_⟩, rfl⟩; simp [go_sem]; done))) | (go_at_call 17; refine (impl_IsValidArms a _).mono ?_; rintro e w1 ⟨rfl, hb1⟩; clear c1 z1; replace B := B.below hb1; obtain ⟨c1, z1⟩ := B.facts; replace hW := bstep hW hb1; clear hb1))
  go_upto_region 5 with (go_at_call 75; refine (impl_Field_tinctures _ _ _ _ _).mono ?_; rintro e w2 ⟨vb, rfl, hi, hb2⟩)
  replace hW := bstep hW hb2
  replace B := B.below hb2
  clear c1 z1
  obtain ⟨c1, z1⟩ := B.facts
  have HU : Hid ((∃ Bb, Ints w2 Bb vb (a.under 3)) ∧ Below w.heap.size w w2) := ⟨⟨_, hi⟩, hW⟩
  clear hi hb2 hW
  go_upto_region 9 with fail
  obtain ⟨Bb, hbb⟩ := HU.out.1
  have HS0 := Lib.hid (LS.start (w1 := w) hbb HU.out.2)
  have hul : (a.under 3).length ≤ 2 := under_len a _
  clear hbb HU
  go_wp2
  go_loopw [7, 8] (fun v x wr => ∃ k : Nat, k ≤ 9 ∧ x = .int .i64 ((k : Int) + 1) ∧ Hid (LS w w2.heap.size vb (a.under 3) v (freeTo (a.under 3) k) wr)) (fun _ x _ => 10 - (intOf x).toNat)
  case atStart => exact ⟨0, Nat.zero_le _, rfl, HS0⟩
  case round =>
    obtain ⟨k, hk, rfl, hi⟩ := hrel
    clear HS0
    by_cases hlt : k < 9
    · have hl := freeTo_len (a.under 3) k
      obtain ⟨A, c, rfl, HR⟩ := hi.out.reads
      have hzz := hi.out.2.2.2.2.2
      cases he : brk ((k : Int) + 1) (a.under 3)
      · have HS := Lib.hid (allow_step he)
        go_wp2_with (first | (go_at_call 76; refine (impl_breaks _ _ _ (a.under 3) _ _ rfl (by unfold maxLen; omega) HR.out).mono ?_; rintro e w' ⟨rfl, rfl⟩) | (at_builtin; refine wp_append3 rfl _ _ rfl _ _ _ _ rfl rfl hi.out.1 hzz (by omega) ?_; intro v' w1 hi1 hg1 hat1))
        have HN := Lib.hid (hi.out.app hi1 hg1)
        clear hi1 hg1 hat1
        go_roundw
        case rel => exact ⟨k + 1, by omega, by go_num, by rw [HS.out]; exact HN⟩
        case measure => simp [intOf]; omega
      · have HS := Lib.hid (allow_step he)
        go_wp2_with (go_at_call 76; refine (impl_breaks _ _ _ (a.under 3) _ _ rfl (by unfold maxLen; omega) HR.out).mono ?_; rintro e w' ⟨rfl, rfl⟩)
        go_roundw
        case rel => exact ⟨k + 1, by omega, by go_num, by rw [HS.out]; exact hi⟩
        case measure => simp [intOf]; omega
    · obtain rfl : k = 9 := by omega
      go_wp2
      go_ret2
      exact ⟨_, rfl, hi.out.1.base hi.out.2.2.2.2.1, hi.out.2.2.2.1⟩
theorem impl_AllowedAt (a : AV) (p : Int) (w : World) : Calls Try.prog 43 #[.agg #[.int .i64 a.f.d, .int .i64 a.f.l, .int .i64 a.f.a, .int .i64 a.f.b, .int .i64 a.o, .int .i64 a.l, .int .i64 a.t, .int .i64 a.on.c, .int .i64 a.on.k, .int .i64 a.on.a, .int .i64 a.on.t, .int .i64 a.ar.c, .int .i64 a.ar.k, .int .i64 a.ar.a, .int .i64 a.ar.t], .int .i64 p] w (RetInts (a.ok && a.there p) (a.alV p) w) := by
  unfold AV.alV
  cases h : (a.ok && a.there p)
  · exact impl_AllowedAt_no a p w h
  · rw [Bool.and_eq_true] at h
    obtain ⟨h0, h1⟩ := h
    unfold AV.there at h1
    simp only [Bool.or_eq_true, Bool.and_eq_true, beq_iff_eq] at h1
    rcases h1 with ⟨rfl, h2⟩ | ⟨rfl, h2⟩ | ⟨rfl, h2⟩
    · exact impl_AllowedAt_1 a w h0 h2
    · exact impl_AllowedAt_2 a w h0 h2
    · exact impl_AllowedAt_3 a w h0 h2
theorem some_neq {a b : Nat} (h : a ≠ b) : some a ≠ some b := fun e => h (by injection e)
theorem brk_one (x y : Int) : brk x [y] = tclash x y := by simp [brk]
theorem on_ord {a : AV} (h : a.ok = true) (h1 : gZero a.on.c a.on.k a.on.a a.on.t = false) : ¬ a.o = 0 := fun e => by
  unfold AV.ok GV.zero at h
  rw [e, h1] at h
  simp at h
set_option maxHeartbeats 1000000 in
theorem spec_AllowedAt_no (a : AV) (p : Int) (w : World) (h : (a.ok && a.there p) = false) : Calls Try.prog 42 #[.agg #[.int .i64 a.f.d, .int .i64 a.f.l, .int .i64 a.f.a, .int .i64 a.f.b, .int .i64 a.o, .int .i64 a.l, .int .i64 a.t, .int .i64 a.on.c, .int .i64 a.on.k, .int .i64 a.on.a, .int .i64 a.on.t, .int .i64 a.ar.c, .int .i64 a.ar.k, .int .i64 a.ar.a, .int .i64 a.ar.t], .int .i64 p] w (RetInts false [] w) := by
  cases h0 : a.ok
  · clear h
    go_enter Try.func42, Try.ntmps42
    go_upto_region 1 with (fail)
    have B := Blk.new w 32 #[Value.int .i64 a.f.d, Value.int .i64 a.f.l, Value.int .i64 a.f.a, Value.int .i64 a.f.b, Value.int .i64 a.o, Value.int .i64 a.l, Value.int .i64 a.t, Value.int .i64 a.on.c, Value.int .i64 a.on.k, Value.int .i64 a.on.a, Value.int .i64 a.on.t, Value.int .i64 a.ar.c, Value.int .i64 a.ar.k, Value.int .i64 a.ar.a, Value.int .i64 a.ar.t]
    have hW : Below w.heap.size w (w.alloc (.cells #[Value.int .i64 a.f.d, Value.int .i64 a.f.l, Value.int .i64 a.f.a, Value.int .i64 a.f.b, Value.int .i64 a.o, Value.int .i64 a.l, Value.int .i64 a.t, Value.int .i64 a.on.c, Value.int .i64 a.on.k, Value.int .i64 a.on.a, Value.int .i64 a.on.t, Value.int .i64 a.ar.c, Value.int .i64 a.ar.k, Value.int .i64 a.ar.a, Value.int .i64 a.ar.t] 32)) := (by repeat (first | (with_reducible exact Below.refl _ _) | (with_reducible assumption) | (with_reducible refine balloc ?_ _) | (with_reducible refine bdrew ?_) | (with_reducible refine bdrewN ?_ _) | (with_reducible refine bset ?_ (by first | omega | (simp; done) | (simp; omega)) _) | (with_reducible refine bstep ?_ (by assumption))))
    generalize w.alloc (.cells #[Value.int .i64 a.f.d, Value.int .i64 a.f.l, Value.int .i64 a.f.a, Value.int .i64 a.f.b, Value.int .i64 a.o, Value.int .i64 a.l, Value.int .i64 a.t, Value.int .i64 a.on.c, Value.int .i64 a.on.k, Value.int .i64 a.on.a, Value.int .i64 a.on.t, Value.int .i64 a.ar.c, Value.int .i64 a.ar.k, Value.int .i64 a.ar.a, Value.int .i64 a.ar.t] 32) = W at *
    obtain ⟨c1, z1⟩ := B.facts
    go_upto_region 2 with fail
    have H : Hid (TS a w (.slice (some ⟨W.heap.size, 0, none⟩) 0 0) [] (W.alloc (.cells #[] 3))) := ⟨(ints_lit W [] #[] 0 rfl rfl (by decide)).base hW.size, some_neq (by show w.heap.size ≠ W.heap.size; omega), B.alloc _, balloc hW _⟩
    clear B c1 z1
    generalize Value.slice (some ⟨W.heap.size, 0, none⟩) 0 0 = v0 at *
    generalize W.alloc (.cells #[] 3) = W1 at *
    obtain ⟨c1, z1⟩ := H.out.facts
    go_wp2_with (first | ((with_reducible refine wp_ldA' ?_ H.out.2.2.1 ?_); (focus (refine ⟨rfl, ⟨_, rfl, ?_⟩, rfl⟩; simp [go_sem]; done))) | (go_at_call 49; refine (spec_l5Good a _).mono ?_; rintro e w1 ⟨rfl, hb1⟩; replace H := Lib.hid (H.out.below hb1); clear c1 z1 hb1; obtain ⟨c1, z1⟩ := H.out.facts))
    go_ret2
    exact ⟨_, rfl, H.out.1, H.out.2.2.2⟩
  · rw [h0, Bool.true_and] at h
    unfold AV.there at h
    simp only [Bool.or_eq_false_iff, Bool.and_eq_false_iff] at h
    obtain ⟨h1, h2, h3⟩ := h
    have H1 := Lib.hid h1
    have H2 := Lib.hid h2
    have H3 := Lib.hid h3
    clear h1 h2 h3
    cases hp : inB 1 p 3
    · go_enter Try.func42, Try.ntmps42
      go_upto_region 1 with (fail)
      have B := Blk.new w 32 #[Value.int .i64 a.f.d, Value.int .i64 a.f.l, Value.int .i64 a.f.a, Value.int .i64 a.f.b, Value.int .i64 a.o, Value.int .i64 a.l, Value.int .i64 a.t, Value.int .i64 a.on.c, Value.int .i64 a.on.k, Value.int .i64 a.on.a, Value.int .i64 a.on.t, Value.int .i64 a.ar.c, Value.int .i64 a.ar.k, Value.int .i64 a.ar.a, Value.int .i64 a.ar.t]
      have hW : Below w.heap.size w (w.alloc (.cells #[Value.int .i64 a.f.d, Value.int .i64 a.f.l, Value.int .i64 a.f.a, Value.int .i64 a.f.b, Value.int .i64 a.o, Value.int .i64 a.l, Value.int .i64 a.t, Value.int .i64 a.on.c, Value.int .i64 a.on.k, Value.int .i64 a.on.a, Value.int .i64 a.on.t, Value.int .i64 a.ar.c, Value.int .i64 a.ar.k, Value.int .i64 a.ar.a, Value.int .i64 a.ar.t] 32)) := (by repeat (first | (with_reducible exact Below.refl _ _) | (with_reducible assumption) | (with_reducible refine balloc ?_ _) | (with_reducible refine bdrew ?_) | (with_reducible refine bdrewN ?_ _) | (with_reducible refine bset ?_ (by first | omega | (simp; done) | (simp; omega)) _) | (with_reducible refine bstep ?_ (by assumption))))
      generalize w.alloc (.cells #[Value.int .i64 a.f.d, Value.int .i64 a.f.l, Value.int .i64 a.f.a, Value.int .i64 a.f.b, Value.int .i64 a.o, Value.int .i64 a.l, Value.int .i64 a.t, Value.int .i64 a.on.c, Value.int .i64 a.on.k, Value.int .i64 a.on.a, Value.int .i64 a.on.t, Value.int .i64 a.ar.c, Value.int .i64 a.ar.k, Value.int .i64 a.ar.a, Value.int .i64 a.ar.t] 32) = W at *
      obtain ⟨c1, z1⟩ := B.facts
      go_upto_region 2 with fail
      have H : Hid (TS a w (.slice (some ⟨W.heap.size, 0, none⟩) 0 0) [] (W.alloc (.cells #[] 3))) := ⟨(ints_lit W [] #[] 0 rfl rfl (by decide)).base hW.size, some_neq (by show w.heap.size ≠ W.heap.size; omega), B.alloc _, balloc hW _⟩
      clear B c1 z1
      generalize Value.slice (some ⟨W.heap.size, 0, none⟩) 0 0 = v0 at *
      generalize W.alloc (.cells #[] 3) = W1 at *
      obtain ⟨c1, z1⟩ := H.out.facts
      go_wp2_with (first | ((with_reducible refine wp_ldA' ?_ H.out.2.2.1 ?_); (focus (refine ⟨rfl, ⟨_, rfl, ?_⟩, rfl⟩; simp [go_sem]; done))) | (go_at_call 49; refine (spec_l5Good a _).mono ?_; rintro e w1 ⟨rfl, hb1⟩; replace H := Lib.hid (H.out.below hb1); clear c1 z1 hb1; obtain ⟨c1, z1⟩ := H.out.facts) | (go_at_call 71; refine (spec_l1In _ _ _ _).mono ?_; rintro e w' ⟨rfl, rfl⟩))
      go_ret2
      exact ⟨_, rfl, H.out.1, H.out.2.2.2⟩
    have hp' := inB_true.1 hp
    by_cases ho : a.o = 0
    · by_cases p3 : p = 3
      · subst p3
        have o0 : gZero a.ar.c a.ar.k a.ar.a a.ar.t = true := by rcases H3.out with h | h; cases h; simpa using h
        clear ho
        go_enter Try.func42, Try.ntmps42
        go_upto_region 1 with (fail)
        have B := Blk.new w 32 #[Value.int .i64 a.f.d, Value.int .i64 a.f.l, Value.int .i64 a.f.a, Value.int .i64 a.f.b, Value.int .i64 a.o, Value.int .i64 a.l, Value.int .i64 a.t, Value.int .i64 a.on.c, Value.int .i64 a.on.k, Value.int .i64 a.on.a, Value.int .i64 a.on.t, Value.int .i64 a.ar.c, Value.int .i64 a.ar.k, Value.int .i64 a.ar.a, Value.int .i64 a.ar.t]
        have hW : Below w.heap.size w (w.alloc (.cells #[Value.int .i64 a.f.d, Value.int .i64 a.f.l, Value.int .i64 a.f.a, Value.int .i64 a.f.b, Value.int .i64 a.o, Value.int .i64 a.l, Value.int .i64 a.t, Value.int .i64 a.on.c, Value.int .i64 a.on.k, Value.int .i64 a.on.a, Value.int .i64 a.on.t, Value.int .i64 a.ar.c, Value.int .i64 a.ar.k, Value.int .i64 a.ar.a, Value.int .i64 a.ar.t] 32)) := (by repeat (first | (with_reducible exact Below.refl _ _) | (with_reducible assumption) | (with_reducible refine balloc ?_ _) | (with_reducible refine bdrew ?_) | (with_reducible refine bdrewN ?_ _) | (with_reducible refine bset ?_ (by first | omega | (simp; done) | (simp; omega)) _) | (with_reducible refine bstep ?_ (by assumption))))
        generalize w.alloc (.cells #[Value.int .i64 a.f.d, Value.int .i64 a.f.l, Value.int .i64 a.f.a, Value.int .i64 a.f.b, Value.int .i64 a.o, Value.int .i64 a.l, Value.int .i64 a.t, Value.int .i64 a.on.c, Value.int .i64 a.on.k, Value.int .i64 a.on.a, Value.int .i64 a.on.t, Value.int .i64 a.ar.c, Value.int .i64 a.ar.k, Value.int .i64 a.ar.a, Value.int .i64 a.ar.t] 32) = W at *
        obtain ⟨c1, z1⟩ := B.facts
        go_upto_region 2 with fail
        have H : Hid (TS a w (.slice (some ⟨W.heap.size, 0, none⟩) 0 0) [] (W.alloc (.cells #[] 3))) := ⟨(ints_lit W [] #[] 0 rfl rfl (by decide)).base hW.size, some_neq (by show w.heap.size ≠ W.heap.size; omega), B.alloc _, balloc hW _⟩
        clear B c1 z1
        generalize Value.slice (some ⟨W.heap.size, 0, none⟩) 0 0 = v0 at *
        generalize W.alloc (.cells #[] 3) = W1 at *
        obtain ⟨c1, z1⟩ := H.out.facts
        go_wp2_with (first | ((with_reducible refine wp_ldA' ?_ H.out.2.2.1 ?_); (focus (refine ⟨rfl, ⟨_, rfl, ?_⟩, rfl⟩; simp [go_sem]; done))) | (go_at_call 49; refine (spec_l5Good a _).mono ?_; rintro e w1 ⟨rfl, hb1⟩; replace H := Lib.hid (H.out.below hb1); clear c1 z1 hb1; obtain ⟨c1, z1⟩ := H.out.facts) | (go_at_call 71; refine (spec_l1In _ _ _ _).mono ?_; rintro e w' ⟨rfl, rfl⟩) | (go_at_call 72; refine (spec_l4None _ _ _ _ _).mono ?_; rintro e w1 ⟨rfl, hb1⟩; replace H := Lib.hid (H.out.below hb1); clear c1 z1 hb1; obtain ⟨c1, z1⟩ := H.out.facts))
        go_ret2
        exact ⟨_, rfl, H.out.1, H.out.2.2.2⟩
      · have q3 : (p != 3) = true := by simpa using p3
        have o0 : (a.o == 0) = true := by simpa using ho
        clear p3 ho hp'
        go_enter Try.func42, Try.ntmps42
        go_upto_region 1 with (fail)
        have B := Blk.new w 32 #[Value.int .i64 a.f.d, Value.int .i64 a.f.l, Value.int .i64 a.f.a, Value.int .i64 a.f.b, Value.int .i64 a.o, Value.int .i64 a.l, Value.int .i64 a.t, Value.int .i64 a.on.c, Value.int .i64 a.on.k, Value.int .i64 a.on.a, Value.int .i64 a.on.t, Value.int .i64 a.ar.c, Value.int .i64 a.ar.k, Value.int .i64 a.ar.a, Value.int .i64 a.ar.t]
        have hW : Below w.heap.size w (w.alloc (.cells #[Value.int .i64 a.f.d, Value.int .i64 a.f.l, Value.int .i64 a.f.a, Value.int .i64 a.f.b, Value.int .i64 a.o, Value.int .i64 a.l, Value.int .i64 a.t, Value.int .i64 a.on.c, Value.int .i64 a.on.k, Value.int .i64 a.on.a, Value.int .i64 a.on.t, Value.int .i64 a.ar.c, Value.int .i64 a.ar.k, Value.int .i64 a.ar.a, Value.int .i64 a.ar.t] 32)) := (by repeat (first | (with_reducible exact Below.refl _ _) | (with_reducible assumption) | (with_reducible refine balloc ?_ _) | (with_reducible refine bdrew ?_) | (with_reducible refine bdrewN ?_ _) | (with_reducible refine bset ?_ (by first | omega | (simp; done) | (simp; omega)) _) | (with_reducible refine bstep ?_ (by assumption))))
        generalize w.alloc (.cells #[Value.int .i64 a.f.d, Value.int .i64 a.f.l, Value.int .i64 a.f.a, Value.int .i64 a.f.b, Value.int .i64 a.o, Value.int .i64 a.l, Value.int .i64 a.t, Value.int .i64 a.on.c, Value.int .i64 a.on.k, Value.int .i64 a.on.a, Value.int .i64 a.on.t, Value.int .i64 a.ar.c, Value.int .i64 a.ar.k, Value.int .i64 a.ar.a, Value.int .i64 a.ar.t] 32) = W at *
        obtain ⟨c1, z1⟩ := B.facts
        go_upto_region 2 with fail
        have H : Hid (TS a w (.slice (some ⟨W.heap.size, 0, none⟩) 0 0) [] (W.alloc (.cells #[] 3))) := ⟨(ints_lit W [] #[] 0 rfl rfl (by decide)).base hW.size, some_neq (by show w.heap.size ≠ W.heap.size; omega), B.alloc _, balloc hW _⟩
        clear B c1 z1
        generalize Value.slice (some ⟨W.heap.size, 0, none⟩) 0 0 = v0 at *
        generalize W.alloc (.cells #[] 3) = W1 at *
        obtain ⟨c1, z1⟩ := H.out.facts
        go_wp2_with (first | ((with_reducible refine wp_ldA' ?_ H.out.2.2.1 ?_); (focus (refine ⟨rfl, ⟨_, rfl, ?_⟩, rfl⟩; simp [go_sem]; done))) | (go_at_call 49; refine (spec_l5Good a _).mono ?_; rintro e w1 ⟨rfl, hb1⟩; replace H := Lib.hid (H.out.below hb1); clear c1 z1 hb1; obtain ⟨c1, z1⟩ := H.out.facts) | (go_at_call 71; refine (spec_l1In _ _ _ _).mono ?_; rintro e w' ⟨rfl, rfl⟩) | (go_at_call 72; refine (spec_l4None _ _ _ _ _).mono ?_; rintro e w1 ⟨rfl, hb1⟩; replace H := Lib.hid (H.out.below hb1); clear c1 z1 hb1; obtain ⟨c1, z1⟩ := H.out.facts))
        go_ret2
        exact ⟨_, rfl, H.out.1, H.out.2.2.2⟩
    · have o0 : (a.o == 0) = false := by simpa using ho
      have p1 : p = 2 ∨ p = 3 := by
        rcases H1.out with h | h
        · have : ¬ p = 1 := by simpa using h
          omega
        · exact absurd (by simpa using h) ho
      clear ho hp'
      rcases p1 with rfl | rfl
      · have g0 : gZero a.on.c a.on.k a.on.a a.on.t = true := by rcases H2.out with h | h; cases h; simpa using h
        go_enter Try.func42, Try.ntmps42
        go_upto_region 1 with (fail)
        have B := Blk.new w 32 #[Value.int .i64 a.f.d, Value.int .i64 a.f.l, Value.int .i64 a.f.a, Value.int .i64 a.f.b, Value.int .i64 a.o, Value.int .i64 a.l, Value.int .i64 a.t, Value.int .i64 a.on.c, Value.int .i64 a.on.k, Value.int .i64 a.on.a, Value.int .i64 a.on.t, Value.int .i64 a.ar.c, Value.int .i64 a.ar.k, Value.int .i64 a.ar.a, Value.int .i64 a.ar.t]
        have hW : Below w.heap.size w (w.alloc (.cells #[Value.int .i64 a.f.d, Value.int .i64 a.f.l, Value.int .i64 a.f.a, Value.int .i64 a.f.b, Value.int .i64 a.o, Value.int .i64 a.l, Value.int .i64 a.t, Value.int .i64 a.on.c, Value.int .i64 a.on.k, Value.int .i64 a.on.a, Value.int .i64 a.on.t, Value.int .i64 a.ar.c, Value.int .i64 a.ar.k, Value.int .i64 a.ar.a, Value.int .i64 a.ar.t] 32)) := (by repeat (first | (with_reducible exact Below.refl _ _) | (with_reducible assumption) | (with_reducible refine balloc ?_ _) | (with_reducible refine bdrew ?_) | (with_reducible refine bdrewN ?_ _) | (with_reducible refine bset ?_ (by first | omega | (simp; done) | (simp; omega)) _) | (with_reducible refine bstep ?_ (by assumption))))
        generalize w.alloc (.cells #[Value.int .i64 a.f.d, Value.int .i64 a.f.l, Value.int .i64 a.f.a, Value.int .i64 a.f.b, Value.int .i64 a.o, Value.int .i64 a.l, Value.int .i64 a.t, Value.int .i64 a.on.c, Value.int .i64 a.on.k, Value.int .i64 a.on.a, Value.int .i64 a.on.t, Value.int .i64 a.ar.c, Value.int .i64 a.ar.k, Value.int .i64 a.ar.a, Value.int .i64 a.ar.t] 32) = W at *
        obtain ⟨c1, z1⟩ := B.facts
        go_upto_region 2 with fail
        have H : Hid (TS a w (.slice (some ⟨W.heap.size, 0, none⟩) 0 0) [] (W.alloc (.cells #[] 3))) := ⟨(ints_lit W [] #[] 0 rfl rfl (by decide)).base hW.size, some_neq (by show w.heap.size ≠ W.heap.size; omega), B.alloc _, balloc hW _⟩
        clear B c1 z1
        generalize Value.slice (some ⟨W.heap.size, 0, none⟩) 0 0 = v0 at *
        generalize W.alloc (.cells #[] 3) = W1 at *
        obtain ⟨c1, z1⟩ := H.out.facts
        go_wp2_with (first | ((with_reducible refine wp_ldA' ?_ H.out.2.2.1 ?_); (focus (refine ⟨rfl, ⟨_, rfl, ?_⟩, rfl⟩; simp [go_sem]; done))) | (go_at_call 49; refine (spec_l5Good a _).mono ?_; rintro e w1 ⟨rfl, hb1⟩; replace H := Lib.hid (H.out.below hb1); clear c1 z1 hb1; obtain ⟨c1, z1⟩ := H.out.facts) | (go_at_call 71; refine (spec_l1In _ _ _ _).mono ?_; rintro e w' ⟨rfl, rfl⟩) | (go_at_call 72; refine (spec_l4None _ _ _ _ _).mono ?_; rintro e w1 ⟨rfl, hb1⟩; replace H := Lib.hid (H.out.below hb1); clear c1 z1 hb1; obtain ⟨c1, z1⟩ := H.out.facts))
        go_ret2
        exact ⟨_, rfl, H.out.1, H.out.2.2.2⟩
      · have g0 : gZero a.ar.c a.ar.k a.ar.a a.ar.t = true := by rcases H3.out with h | h; cases h; simpa using h
        go_enter Try.func42, Try.ntmps42
        go_upto_region 1 with (fail)
        have B := Blk.new w 32 #[Value.int .i64 a.f.d, Value.int .i64 a.f.l, Value.int .i64 a.f.a, Value.int .i64 a.f.b, Value.int .i64 a.o, Value.int .i64 a.l, Value.int .i64 a.t, Value.int .i64 a.on.c, Value.int .i64 a.on.k, Value.int .i64 a.on.a, Value.int .i64 a.on.t, Value.int .i64 a.ar.c, Value.int .i64 a.ar.k, Value.int .i64 a.ar.a, Value.int .i64 a.ar.t]
        have hW : Below w.heap.size w (w.alloc (.cells #[Value.int .i64 a.f.d, Value.int .i64 a.f.l, Value.int .i64 a.f.a, Value.int .i64 a.f.b, Value.int .i64 a.o, Value.int .i64 a.l, Value.int .i64 a.t, Value.int .i64 a.on.c, Value.int .i64 a.on.k, Value.int .i64 a.on.a, Value.int .i64 a.on.t, Value.int .i64 a.ar.c, Value.int .i64 a.ar.k, Value.int .i64 a.ar.a, Value.int .i64 a.ar.t] 32)) := (by repeat (first | (with_reducible exact Below.refl _ _) | (with_reducible assumption) | (with_reducible refine balloc ?_ _) | (with_reducible refine bdrew ?_) | (with_reducible refine bdrewN ?_ _) | (with_reducible refine bset ?_ (by first | omega | (simp; done) | (simp; omega)) _) | (with_reducible refine bstep ?_ (by assumption))))
        generalize w.alloc (.cells #[Value.int .i64 a.f.d, Value.int .i64 a.f.l, Value.int .i64 a.f.a, Value.int .i64 a.f.b, Value.int .i64 a.o, Value.int .i64 a.l, Value.int .i64 a.t, Value.int .i64 a.on.c, Value.int .i64 a.on.k, Value.int .i64 a.on.a, Value.int .i64 a.on.t, Value.int .i64 a.ar.c, Value.int .i64 a.ar.k, Value.int .i64 a.ar.a, Value.int .i64 a.ar.t] 32) = W at *
        obtain ⟨c1, z1⟩ := B.facts
        go_upto_region 2 with fail
        have H : Hid (TS a w (.slice (some ⟨W.heap.size, 0, none⟩) 0 0) [] (W.alloc (.cells #[] 3))) := ⟨(ints_lit W [] #[] 0 rfl rfl (by decide)).base hW.size, some_neq (by show w.heap.size ≠ W.heap.size; omega), B.alloc _, balloc hW _⟩
        clear B c1 z1
        generalize Value.slice (some ⟨W.heap.size, 0, none⟩) 0 0 = v0 at *
        generalize W.alloc (.cells #[] 3) = W1 at *
        obtain ⟨c1, z1⟩ := H.out.facts
        go_wp2_with (first | ((with_reducible refine wp_ldA' ?_ H.out.2.2.1 ?_); (focus (refine ⟨rfl, ⟨_, rfl, ?_⟩, rfl⟩; simp [go_sem]; done))) | (go_at_call 49; refine (spec_l5Good a _).mono ?_; rintro e w1 ⟨rfl, hb1⟩; replace H := Lib.hid (H.out.below hb1); clear c1 z1 hb1; obtain ⟨c1, z1⟩ := H.out.facts) | (go_at_call 71; refine (spec_l1In _ _ _ _).mono ?_; rintro e w' ⟨rfl, rfl⟩) | (go_at_call 72; refine (spec_l4None _ _ _ _ _).mono ?_; rintro e w1 ⟨rfl, hb1⟩; replace H := Lib.hid (H.out.below hb1); clear c1 z1 hb1; obtain ⟨c1, z1⟩ := H.out.facts))
        go_ret2
        exact ⟨_, rfl, H.out.1, H.out.2.2.2⟩
set_option maxHeartbeats 1000000 in
theorem spec_AllowedAt_1 (a : AV) (w : World) (h0 : a.ok = true) (h1 : (a.o == 0) = false) : Calls Try.prog 42 #[.agg #[.int .i64 a.f.d, .int .i64 a.f.l, .int .i64 a.f.a, .int .i64 a.f.b, .int .i64 a.o, .int .i64 a.l, .int .i64 a.t, .int .i64 a.on.c, .int .i64 a.on.k, .int .i64 a.on.a, .int .i64 a.on.t, .int .i64 a.ar.c, .int .i64 a.ar.k, .int .i64 a.ar.a, .int .i64 a.ar.t], .int .i64 1] w (RetInts true (freeTo (a.under 1) 9) w) := by
  have hp : inB 1 1 3 = true := by decide
  go_enter Try.func42, Try.ntmps42
  go_upto_region 1 with (fail)
  have B := Blk.new w 32 #[Value.int .i64 a.f.d, Value.int .i64 a.f.l, Value.int .i64 a.f.a, Value.int .i64 a.f.b, Value.int .i64 a.o, Value.int .i64 a.l, Value.int .i64 a.t, Value.int .i64 a.on.c, Value.int .i64 a.on.k, Value.int .i64 a.on.a, Value.int .i64 a.on.t, Value.int .i64 a.ar.c, Value.int .i64 a.ar.k, Value.int .i64 a.ar.a, Value.int .i64 a.ar.t]
  have hW : Below w.heap.size w (w.alloc (.cells #[Value.int .i64 a.f.d, Value.int .i64 a.f.l, Value.int .i64 a.f.a, Value.int .i64 a.f.b, Value.int .i64 a.o, Value.int .i64 a.l, Value.int .i64 a.t, Value.int .i64 a.on.c, Value.int .i64 a.on.k, Value.int .i64 a.on.a, Value.int .i64 a.on.t, Value.int .i64 a.ar.c, Value.int .i64 a.ar.k, Value.int .i64 a.ar.a, Value.int .i64 a.ar.t] 32)) := (by repeat (first | (with_reducible exact Below.refl _ _) | (with_reducible assumption) | (with_reducible refine balloc ?_ _) | (with_reducible refine bdrew ?_) | (with_reducible refine bdrewN ?_ _) | (with_reducible refine bset ?_ (by first | omega | (simp; done) | (simp; omega)) _) | (with_reducible refine bstep ?_ (by assumption))))
  generalize w.alloc (.cells #[Value.int .i64 a.f.d, Value.int .i64 a.f.l, Value.int .i64 a.f.a, Value.int .i64 a.f.b, Value.int .i64 a.o, Value.int .i64 a.l, Value.int .i64 a.t, Value.int .i64 a.on.c, Value.int .i64 a.on.k, Value.int .i64 a.on.a, Value.int .i64 a.on.t, Value.int .i64 a.ar.c, Value.int .i64 a.ar.k, Value.int .i64 a.ar.a, Value.int .i64 a.ar.t] 32) = W at *
  obtain ⟨c1, z1⟩ := B.facts
  go_upto_region 2 with fail
  have H : Hid (TS a w (.slice (some ⟨W.heap.size, 0, none⟩) 0 0) [] (W.alloc (.cells #[] 3))) := ⟨(ints_lit W [] #[] 0 rfl rfl (by decide)).base hW.size, some_neq (by show w.heap.size ≠ W.heap.size; omega), B.alloc _, balloc hW _⟩
  clear B c1 z1
  generalize Value.slice (some ⟨W.heap.size, 0, none⟩) 0 0 = v0 at *
  generalize W.alloc (.cells #[] 3) = W1 at *
  obtain ⟨c1, z1⟩ := H.out.facts
  go_upto_region 6 with (first | ((with_reducible refine wp_ldA' ?_ H.out.2.2.1 ?_); (focus (refine ⟨rfl, ⟨_, rfl, ?_⟩, rfl⟩; simp [go_sem]; done))) | (go_at_call 49; refine (spec_l5Good a _).mono ?_; rintro e w1 ⟨rfl, hb1⟩; replace H := Lib.hid (H.out.below hb1); clear c1 z1 hb1; obtain ⟨c1, z1⟩ := H.out.facts) | (go_at_call 71; refine (spec_l1In _ _ _ _).mono ?_; rintro e w' ⟨rfl, rfl⟩) | (go_at_call 72; refine (spec_l4None _ _ _ _ _).mono ?_; rintro e w1 ⟨rfl, hb1⟩; replace H := Lib.hid (H.out.below hb1); clear c1 z1 hb1; obtain ⟨c1, z1⟩ := H.out.facts))
  have HH := H
  clear H c1 z1
  go_wp2
  go_loopw [6, 7] (fun v x wr => ∃ k : Nat, k ≤ 9 ∧ x = .int .i64 ((k : Int) + 1) ∧ Hid (TS a w v (freeTo (a.under 1) k) wr)) (fun _ x _ => 10 - (intOf x).toNat)
  case atStart => exact ⟨0, Nat.zero_le _, rfl, HH⟩
  case round =>
    obtain ⟨k, hk, rfl, H⟩ := hrel
    clear HH
    by_cases hlt : k < 9
    · have hl := freeTo_len (a.under 1) k
      obtain ⟨c1, z1⟩ := H.out.facts
      cases he : brk ((k : Int) + 1) (ftL a.f.d a.f.a a.f.b)
      · have HS := Lib.hid (allow_step (ys := a.under 1) he)
        go_wp2_with (first | (go_at_call 73; refine (spec_l8OnField _ _ _ _ _ _).mono ?_; rintro e w1 ⟨rfl, hb1⟩; replace H := Lib.hid (H.out.below hb1); clear c1 z1 hb1; obtain ⟨c1, z1⟩ := H.out.facts) | (at_builtin; have hzz := H.out.2.2.2.size; refine wp_append3 rfl _ _ rfl _ _ _ _ rfl rfl H.out.1 hzz (by omega) ?_; intro v' w3 hi3 hg3 hat3))
        have HN := Lib.hid (H.out.app hi3 hg3 hat3)
        clear hi3 hg3 hat3
        go_roundw
        case rel => exact ⟨k + 1, by omega, by go_num, by rw [HS.out]; exact HN⟩
        case measure => simp [intOf]; omega
      · have HS := Lib.hid (allow_step (ys := a.under 1) he)
        go_wp2_with (first | (go_at_call 73; refine (spec_l8OnField _ _ _ _ _ _).mono ?_; rintro e w1 ⟨rfl, hb1⟩; replace H := Lib.hid (H.out.below hb1); clear c1 z1 hb1; obtain ⟨c1, z1⟩ := H.out.facts) | (go_at_call 74; refine (spec_l2Clash _ _ _).mono ?_; rintro e w' ⟨rfl, rfl⟩))
        go_roundw
        case rel => exact ⟨k + 1, by omega, by go_num, by rw [HS.out]; exact H⟩
        case measure => simp [intOf]; omega
    · obtain rfl : k = 9 := by omega
      go_wp2
      go_ret2
      exact ⟨_, rfl, H.out.1, H.out.2.2.2⟩
set_option maxHeartbeats 1000000 in
theorem spec_AllowedAt_2 (a : AV) (w : World) (h0 : a.ok = true) (h2 : (a.o == 0) = false) (h1 : gZero a.on.c a.on.k a.on.a a.on.t = false) : Calls Try.prog 42 #[.agg #[.int .i64 a.f.d, .int .i64 a.f.l, .int .i64 a.f.a, .int .i64 a.f.b, .int .i64 a.o, .int .i64 a.l, .int .i64 a.t, .int .i64 a.on.c, .int .i64 a.on.k, .int .i64 a.on.a, .int .i64 a.on.t, .int .i64 a.ar.c, .int .i64 a.ar.k, .int .i64 a.ar.a, .int .i64 a.ar.t], .int .i64 2] w (RetInts true (freeTo (a.under 2) 9) w) := by
  have hp : inB 1 2 3 = true := by decide
  go_enter Try.func42, Try.ntmps42
  go_upto_region 1 with (fail)
  have B := Blk.new w 32 #[Value.int .i64 a.f.d, Value.int .i64 a.f.l, Value.int .i64 a.f.a, Value.int .i64 a.f.b, Value.int .i64 a.o, Value.int .i64 a.l, Value.int .i64 a.t, Value.int .i64 a.on.c, Value.int .i64 a.on.k, Value.int .i64 a.on.a, Value.int .i64 a.on.t, Value.int .i64 a.ar.c, Value.int .i64 a.ar.k, Value.int .i64 a.ar.a, Value.int .i64 a.ar.t]
  have hW : Below w.heap.size w (w.alloc (.cells #[Value.int .i64 a.f.d, Value.int .i64 a.f.l, Value.int .i64 a.f.a, Value.int .i64 a.f.b, Value.int .i64 a.o, Value.int .i64 a.l, Value.int .i64 a.t, Value.int .i64 a.on.c, Value.int .i64 a.on.k, Value.int .i64 a.on.a, Value.int .i64 a.on.t, Value.int .i64 a.ar.c, Value.int .i64 a.ar.k, Value.int .i64 a.ar.a, Value.int .i64 a.ar.t] 32)) := (by repeat (first | (with_reducible exact Below.refl _ _) | (with_reducible assumption) | (with_reducible refine balloc ?_ _) | (with_reducible refine bdrew ?_) | (with_reducible refine bdrewN ?_ _) | (with_reducible refine bset ?_ (by first | omega | (simp; done) | (simp; omega)) _) | (with_reducible refine bstep ?_ (by assumption))))
  generalize w.alloc (.cells #[Value.int .i64 a.f.d, Value.int .i64 a.f.l, Value.int .i64 a.f.a, Value.int .i64 a.f.b, Value.int .i64 a.o, Value.int .i64 a.l, Value.int .i64 a.t, Value.int .i64 a.on.c, Value.int .i64 a.on.k, Value.int .i64 a.on.a, Value.int .i64 a.on.t, Value.int .i64 a.ar.c, Value.int .i64 a.ar.k, Value.int .i64 a.ar.a, Value.int .i64 a.ar.t] 32) = W at *
  obtain ⟨c1, z1⟩ := B.facts
  go_upto_region 2 with fail
  have H : Hid (TS a w (.slice (some ⟨W.heap.size, 0, none⟩) 0 0) [] (W.alloc (.cells #[] 3))) := ⟨(ints_lit W [] #[] 0 rfl rfl (by decide)).base hW.size, some_neq (by show w.heap.size ≠ W.heap.size; omega), B.alloc _, balloc hW _⟩
  clear B c1 z1
  generalize Value.slice (some ⟨W.heap.size, 0, none⟩) 0 0 = v0 at *
  generalize W.alloc (.cells #[] 3) = W1 at *
  obtain ⟨c1, z1⟩ := H.out.facts
  go_upto_region 6 with (first | ((with_reducible refine wp_ldA' ?_ H.out.2.2.1 ?_); (focus (refine ⟨rfl, ⟨_, rfl, ?_⟩, rfl⟩; simp [go_sem]; done))) | (go_at_call 49; refine (spec_l5Good a _).mono ?_; rintro e w1 ⟨rfl, hb1⟩; replace H := Lib.hid (H.out.below hb1); clear c1 z1 hb1; obtain ⟨c1, z1⟩ := H.out.facts) | (go_at_call 71; refine (spec_l1In _ _ _ _).mono ?_; rintro e w' ⟨rfl, rfl⟩) | (go_at_call 72; refine (spec_l4None _ _ _ _ _).mono ?_; rintro e w1 ⟨rfl, hb1⟩; replace H := Lib.hid (H.out.below hb1); clear c1 z1 hb1; obtain ⟨c1, z1⟩ := H.out.facts))
  have HH := H
  clear H c1 z1
  go_wp2
  go_loopw [6, 7] (fun v x wr => ∃ k : Nat, k ≤ 9 ∧ x = .int .i64 ((k : Int) + 1) ∧ Hid (TS a w v (freeTo (a.under 2) k) wr)) (fun _ x _ => 10 - (intOf x).toNat)
  case atStart => exact ⟨0, Nat.zero_le _, rfl, HH⟩
  case round =>
    obtain ⟨k, hk, rfl, H⟩ := hrel
    clear HH
    by_cases hlt : k < 9
    · have hl := freeTo_len (a.under 2) k
      obtain ⟨c1, z1⟩ := H.out.facts
      cases he : tclash ((k : Int) + 1) a.t
      · have HS := Lib.hid (allow_step (ys := a.under 2) (show brk _ [a.t] = _ by rw [brk_one, he]))
        go_wp2_with (first | (go_at_call 73; refine (spec_l8OnField _ _ _ _ _ _).mono ?_; rintro e w1 ⟨rfl, hb1⟩; replace H := Lib.hid (H.out.below hb1); clear c1 z1 hb1; obtain ⟨c1, z1⟩ := H.out.facts) | (go_at_call 74; refine (spec_l2Clash _ _ _).mono ?_; rintro e w' ⟨rfl, rfl⟩) | (at_builtin; have hzz := H.out.2.2.2.size; refine wp_append3 rfl _ _ rfl _ _ _ _ rfl rfl H.out.1 hzz (by omega) ?_; intro v' w3 hi3 hg3 hat3))
        have HN := Lib.hid (H.out.app hi3 hg3 hat3)
        clear hi3 hg3 hat3
        go_roundw
        case rel => exact ⟨k + 1, by omega, by go_num, by rw [HS.out]; exact HN⟩
        case measure => simp [intOf]; omega
      · have HS := Lib.hid (allow_step (ys := a.under 2) (show brk _ [a.t] = _ by rw [brk_one, he]))
        go_wp2_with (first | (go_at_call 73; refine (spec_l8OnField _ _ _ _ _ _).mono ?_; rintro e w1 ⟨rfl, hb1⟩; replace H := Lib.hid (H.out.below hb1); clear c1 z1 hb1; obtain ⟨c1, z1⟩ := H.out.facts) | (go_at_call 74; refine (spec_l2Clash _ _ _).mono ?_; rintro e w' ⟨rfl, rfl⟩))
        go_roundw
        case rel => exact ⟨k + 1, by omega, by go_num, by rw [HS.out]; exact H⟩
        case measure => simp [intOf]; omega
    · obtain rfl : k = 9 := by omega
      go_wp2
      go_ret2
      exact ⟨_, rfl, H.out.1, H.out.2.2.2⟩
set_option maxHeartbeats 1000000 in
theorem spec_AllowedAt_3 (a : AV) (w : World) (h0 : a.ok = true) (h1 : gZero a.ar.c a.ar.k a.ar.a a.ar.t = false) : Calls Try.prog 42 #[.agg #[.int .i64 a.f.d, .int .i64 a.f.l, .int .i64 a.f.a, .int .i64 a.f.b, .int .i64 a.o, .int .i64 a.l, .int .i64 a.t, .int .i64 a.on.c, .int .i64 a.on.k, .int .i64 a.on.a, .int .i64 a.on.t, .int .i64 a.ar.c, .int .i64 a.ar.k, .int .i64 a.ar.a, .int .i64 a.ar.t], .int .i64 3] w (RetInts true (freeTo (a.under 3) 9) w) := by
  have hp : inB 1 3 3 = true := by decide
  go_enter Try.func42, Try.ntmps42
  go_upto_region 1 with (fail)
  have B := Blk.new w 32 #[Value.int .i64 a.f.d, Value.int .i64 a.f.l, Value.int .i64 a.f.a, Value.int .i64 a.f.b, Value.int .i64 a.o, Value.int .i64 a.l, Value.int .i64 a.t, Value.int .i64 a.on.c, Value.int .i64 a.on.k, Value.int .i64 a.on.a, Value.int .i64 a.on.t, Value.int .i64 a.ar.c, Value.int .i64 a.ar.k, Value.int .i64 a.ar.a, Value.int .i64 a.ar.t]
  have hW : Below w.heap.size w (w.alloc (.cells #[Value.int .i64 a.f.d, Value.int .i64 a.f.l, Value.int .i64 a.f.a, Value.int .i64 a.f.b, Value.int .i64 a.o, Value.int .i64 a.l, Value.int .i64 a.t, Value.int .i64 a.on.c, Value.int .i64 a.on.k, Value.int .i64 a.on.a, Value.int .i64 a.on.t, Value.int .i64 a.ar.c, Value.int .i64 a.ar.k, Value.int .i64 a.ar.a, Value.int .i64 a.ar.t] 32)) := (by repeat (first | (with_reducible exact Below.refl _ _) | (with_reducible assumption) | (with_reducible refine balloc ?_ _) | (with_reducible refine bdrew ?_) | (with_reducible refine bdrewN ?_ _) | (with_reducible refine bset ?_ (by first | omega | (simp; done) | (simp; omega)) _) | (with_reducible refine bstep ?_ (by assumption))))
  generalize w.alloc (.cells #[Value.int .i64 a.f.d, Value.int .i64 a.f.l, Value.int .i64 a.f.a, Value.int .i64 a.f.b, Value.int .i64 a.o, Value.int .i64 a.l, Value.int .i64 a.t, Value.int .i64 a.on.c, Value.int .i64 a.on.k, Value.int .i64 a.on.a, Value.int .i64 a.on.t, Value.int .i64 a.ar.c, Value.int .i64 a.ar.k, Value.int .i64 a.ar.a, Value.int .i64 a.ar.t] 32) = W at *
  obtain ⟨c1, z1⟩ := B.facts
  go_upto_region 2 with fail
  have H : Hid (TS a w (.slice (some ⟨W.heap.size, 0, none⟩) 0 0) [] (W.alloc (.cells #[] 3))) := ⟨(ints_lit W [] #[] 0 rfl rfl (by decide)).base hW.size, some_neq (by show w.heap.size ≠ W.heap.size; omega), B.alloc _, balloc hW _⟩
  clear B c1 z1
  generalize Value.slice (some ⟨W.heap.size, 0, none⟩) 0 0 = v0 at *
  generalize W.alloc (.cells #[] 3) = W1 at *
  obtain ⟨c1, z1⟩ := H.out.facts
  go_upto_region 6 with (first | ((with_reducible refine wp_ldA' ?_ H.out.2.2.1 ?_); (focus (refine ⟨rfl, ⟨_, rfl, ?_⟩, rfl⟩; simp [go_sem]; done))) | (go_at_call 49; refine (spec_l5Good a _).mono ?_; rintro e w1 ⟨rfl, hb1⟩; replace H := Lib.hid (H.out.below hb1); clear c1 z1 hb1; obtain ⟨c1, z1⟩ := H.out.facts) | (go_at_call 71; refine (spec_l1In _ _ _ _).mono ?_; rintro e w' ⟨rfl, rfl⟩) | (go_at_call 72; refine (spec_l4None _ _ _ _ _).mono ?_; rintro e w1 ⟨rfl, hb1⟩; replace H := Lib.hid (H.out.below hb1); clear c1 z1 hb1; obtain ⟨c1, z1⟩ := H.out.facts))
  have HH := H
  clear H c1 z1
  go_wp2
  go_loopw [6, 7] (fun v x wr => ∃ k : Nat, k ≤ 9 ∧ x = .int .i64 ((k : Int) + 1) ∧ Hid (TS a w v (freeTo (a.under 3) k) wr)) (fun _ x _ => 10 - (intOf x).toNat)
  case atStart => exact ⟨0, Nat.zero_le _, rfl, HH⟩
  case round =>
    obtain ⟨k, hk, rfl, H⟩ := hrel
    clear HH
    by_cases hlt : k < 9
    · have hl := freeTo_len (a.under 3) k
      obtain ⟨c1, z1⟩ := H.out.facts
      cases he : brk ((k : Int) + 1) (ftL a.f.d a.f.a a.f.b)
      · have HS := Lib.hid (allow_step (ys := a.under 3) he)
        go_wp2_with (first | (go_at_call 73; refine (spec_l8OnField _ _ _ _ _ _).mono ?_; rintro e w1 ⟨rfl, hb1⟩; replace H := Lib.hid (H.out.below hb1); clear c1 z1 hb1; obtain ⟨c1, z1⟩ := H.out.facts) | (at_builtin; have hzz := H.out.2.2.2.size; refine wp_append3 rfl _ _ rfl _ _ _ _ rfl rfl H.out.1 hzz (by omega) ?_; intro v' w3 hi3 hg3 hat3))
        have HN := Lib.hid (H.out.app hi3 hg3 hat3)
        clear hi3 hg3 hat3
        go_roundw
        case rel => exact ⟨k + 1, by omega, by go_num, by rw [HS.out]; exact HN⟩
        case measure => simp [intOf]; omega
      · have HS := Lib.hid (allow_step (ys := a.under 3) he)
        go_wp2_with (first | (go_at_call 73; refine (spec_l8OnField _ _ _ _ _ _).mono ?_; rintro e w1 ⟨rfl, hb1⟩; replace H := Lib.hid (H.out.below hb1); clear c1 z1 hb1; obtain ⟨c1, z1⟩ := H.out.facts) | (go_at_call 74; refine (spec_l2Clash _ _ _).mono ?_; rintro e w' ⟨rfl, rfl⟩))
        go_roundw
        case rel => exact ⟨k + 1, by omega, by go_num, by rw [HS.out]; exact H⟩
        case measure => simp [intOf]; omega
    · obtain rfl : k = 9 := by omega
      go_wp2
      go_ret2
      exact ⟨_, rfl, H.out.1, H.out.2.2.2⟩
theorem spec_AllowedAt (a : AV) (p : Int) (w : World) : Calls Try.prog 42 #[.agg #[.int .i64 a.f.d, .int .i64 a.f.l, .int .i64 a.f.a, .int .i64 a.f.b, .int .i64 a.o, .int .i64 a.l, .int .i64 a.t, .int .i64 a.on.c, .int .i64 a.on.k, .int .i64 a.on.a, .int .i64 a.on.t, .int .i64 a.ar.c, .int .i64 a.ar.k, .int .i64 a.ar.a, .int .i64 a.ar.t], .int .i64 p] w (RetInts (a.ok && a.there p) (a.alV p) w) := by
  unfold AV.alV
  cases h : (a.ok && a.there p)
  · exact spec_AllowedAt_no a p w h
  · rw [Bool.and_eq_true] at h
    obtain ⟨h0, h1⟩ := h
    unfold AV.there at h1
    simp only [Bool.or_eq_true, Bool.and_eq_true, beq_iff_eq] at h1
    rcases h1 with ⟨rfl, h2⟩ | ⟨rfl, h2⟩ | ⟨rfl, h2⟩
    · exact spec_AllowedAt_1 a w h0 (by simpa using h2)
    · have h3 : gZero a.on.c a.on.k a.on.a a.on.t = false := by simpa using h2
      exact spec_AllowedAt_2 a w h0 (by simpa using on_ord h0 h3) h3
    · exact spec_AllowedAt_3 a w h0 (by simpa using h2)
end Go.Proofs.Ytfpjomichfpejaa
