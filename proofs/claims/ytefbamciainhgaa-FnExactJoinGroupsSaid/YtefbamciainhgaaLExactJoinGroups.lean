/- The law FnExactJoinGroups answers true at every input, and its arguments read afterwards as they did. Conditions: none. -/
import Derived.Test.YtefbamciainhgaaRows
import Derived.Test.YtefbamciainhgaaFrame
import Derived.Test.YtefbamciainhgaaGroup2
import Derived.Test.YtefbamciainhgaaMild
namespace Go.Proofs.Ytefbamciainhgaa.fnExactJoinGroups
open Go.ChangeShapes Go.WideShapes Go.ChangeAt Go.RowKit
open Go.ChangeMaps (open_string shut_string)
set_option linter.unusedVariables false

set_option linter.unusedSimpArgs false
set_option maxHeartbeats 1000000 in
theorem walk (a0_0 a0_1 a0_2 a0_3 : Int) (a1_0 a1_1 a1_2 a1_3 : Int) (w : World) (w0_0 : (Lit.int .i64 a0_0).wf = true) (w0_1 : (Lit.int .i64 a0_1).wf = true) (w0_2 : (Lit.int .i64 a0_2).wf = true) (w0_3 : (Lit.int .i64 a0_3).wf = true) (w1_0 : (Lit.int .i64 a1_0).wf = true) (w1_1 : (Lit.int .i64 a1_1).wf = true) (w1_2 : (Lit.int .i64 a1_2).wf = true) (w1_3 : (Lit.int .i64 a1_3).wf = true) :
    Calls Try.prog 5 #[.agg #[.int .i64 a0_0, .int .i64 a0_1, .int .i64 a0_2, .int .i64 a0_3], .agg #[.int .i64 a1_0, .int .i64 a1_1, .int .i64 a1_2, .int .i64 a1_3]] w fun e w' => e = .returned (.bool true) ∧ Below w.heap.size w w' := by
  go_enter Try.func5, Try.ntmps5
  go_upto_region 1 with (fail)
  have BA : Blk ((w.alloc (.cells #[Value.int .i64 a0_0, Value.int .i64 a0_1, Value.int .i64 a0_2, Value.int .i64 a0_3] 36)).alloc (.cells #[Value.int .i64 a1_0, Value.int .i64 a1_1, Value.int .i64 a1_2, Value.int .i64 a1_3] 36)) w.heap.size 36 #[Value.int .i64 a0_0, Value.int .i64 a0_1, Value.int .i64 a0_2, Value.int .i64 a0_3] := (Blk.new w _ _).alloc _
  have BB : Blk ((w.alloc (.cells #[Value.int .i64 a0_0, Value.int .i64 a0_1, Value.int .i64 a0_2, Value.int .i64 a0_3] 36)).alloc (.cells #[Value.int .i64 a1_0, Value.int .i64 a1_1, Value.int .i64 a1_2, Value.int .i64 a1_3] 36)) (w.heap.size + 1) 36 #[Value.int .i64 a1_0, Value.int .i64 a1_1, Value.int .i64 a1_2, Value.int .i64 a1_3] := by
    have := Blk.new (w.alloc (.cells #[Value.int .i64 a0_0, Value.int .i64 a0_1, Value.int .i64 a0_2, Value.int .i64 a0_3] 36)) 36 #[Value.int .i64 a1_0, Value.int .i64 a1_1, Value.int .i64 a1_2, Value.int .i64 a1_3]
    simpa using this
  have hW : Below w.heap.size w ((w.alloc (.cells #[Value.int .i64 a0_0, Value.int .i64 a0_1, Value.int .i64 a0_2, Value.int .i64 a0_3] 36)).alloc (.cells #[Value.int .i64 a1_0, Value.int .i64 a1_1, Value.int .i64 a1_2, Value.int .i64 a1_3] 36)) := (by repeat (first | (with_reducible exact Below.refl _ _) | (with_reducible assumption) | (with_reducible refine balloc ?_ _) | (with_reducible refine bdrew ?_) | (with_reducible refine bdrewN ?_ _) | (with_reducible refine bset ?_ (by first | omega | (simp; done) | (simp; omega)) _) | (with_reducible refine bstep ?_ (by assumption))))
  generalize ((w.alloc (.cells #[Value.int .i64 a0_0, Value.int .i64 a0_1, Value.int .i64 a0_2, Value.int .i64 a0_3] 36)).alloc (.cells #[Value.int .i64 a1_0, Value.int .i64 a1_1, Value.int .i64 a1_2, Value.int .i64 a1_3] 36)) = W at *
  refine wp_region_mild1 [true, true, true, true, true, true, true, true, false, false, true] 8 9 5 _ _ _ _ _ #[.int .i64 0, .int .i64 0, .int .i64 0, .int .i64 0] 37 (by kernel_rfl) (by kernel_rfl) rfl rfl (by decide) (by kernel_rfl) rfl rfl rfl (by kernel_rfl) (fun _ _ => by go_simp) ?_
  refine wpMildL_take rfl ⟨_, mild_load _ _ rfl _ rfl _ _ _ (fun w' h => BA.below h) Try.underlying36 rfl (by kernel_rfl), ?_⟩
  simp only [Act.put, List.setIfInBounds_toArray, List.set_cons_zero, List.set_cons_succ]
  refine wpMildL_take rfl ?_
  apply Exists.intro
  refine ⟨fun w' hw' => ?_, ?_⟩
  · go_simp
    exact laws_toGroup _ _ _ _ _
  simp only [Act.put, List.setIfInBounds_toArray, List.set_cons_zero, List.set_cons_succ]
  refine wpMildL_take rfl ⟨_, mild_load _ _ rfl _ rfl _ _ _ (fun w' h => BB.below h) Try.underlying36 rfl (by kernel_rfl), ?_⟩
  simp only [Act.put, List.setIfInBounds_toArray, List.set_cons_zero, List.set_cons_succ]
  refine wpMildL_take rfl ?_
  apply Exists.intro
  refine ⟨fun w' hw' => ?_, ?_⟩
  · go_simp
    exact laws_toGroup _ _ _ _ _
  simp only [Act.put, List.setIfInBounds_toArray, List.set_cons_zero, List.set_cons_succ]
  refine wpMildL_take rfl ?_
  apply Exists.intro
  refine ⟨fun w' hw' => ?_, ?_⟩
  · go_simp
    exact spec_JoinGroups _ _ _ _ _ _ _ _ _
  simp only [Act.put, List.setIfInBounds_toArray, List.set_cons_zero, List.set_cons_succ]
  refine wpMildL_take rfl ?_
  apply Exists.intro
  refine ⟨fun w' hw' => ?_, ?_⟩
  · go_simp
    with_reducible rfl
  simp only [Act.put, List.setIfInBounds_toArray, List.set_cons_zero, List.set_cons_succ]
  refine wpMildL_take rfl ?_
  apply Exists.intro
  refine ⟨fun w' hw' => ?_, ?_⟩
  · go_simp
    with_reducible rfl
  simp only [Act.put, List.setIfInBounds_toArray, List.set_cons_zero, List.set_cons_succ]
  refine wpMildL_take rfl ?_
  apply Exists.intro
  refine ⟨fun w' hw' => ?_, ?_⟩
  · go_simp
    with_reducible rfl
  simp only [Act.put, List.setIfInBounds_toArray, List.set_cons_zero, List.set_cons_succ]
  refine wpMildL_late ?_
  refine wpMildL_late ?_
  refine wpMildL_take rfl ?_
  apply Exists.intro
  refine ⟨fun w' hw' => ?_, ?_⟩
  · go_simp
    with_reducible rfl
  simp only [Act.put, List.setIfInBounds_toArray, List.set_cons_zero, List.set_cons_succ]
  refine wpMildL_nil ?_
  refine ⟨_, fun g => ⟨rfl, rfl⟩, rfl, by kernel_rfl, fun g w1 hg hb1 hblk => ?_⟩
  simp only [Act.put, List.setIfInBounds_toArray, List.set_cons_zero, List.set_cons_succ]
  have B1 : Blk w1 g 37 _ := hblk
  clear hblk
  replace BA := BA.below hb1
  replace BB := BB.below hb1
  have hW1 := bstep hW hb1
  clear hW hb1 hg
  go_wp2_with fail
  refine wp_region_mild1 [true, true, true, true, true, true, true, true, false, false, true] 8 9 7 _ _ _ _ _ #[.int .i64 0, .int .i64 0, .int .i64 0, .int .i64 0] 37 (by kernel_rfl) (by kernel_rfl) rfl rfl (by decide) (by kernel_rfl) rfl rfl rfl (by kernel_rfl) (fun _ _ => by go_simp) ?_
  refine wpMildL_take rfl ⟨_, mild_load _ _ rfl _ rfl _ _ _ (fun w' h => BA.below h) Try.underlying36 rfl (by kernel_rfl), ?_⟩
  simp only [Act.put, List.setIfInBounds_toArray, List.set_cons_zero, List.set_cons_succ]
  refine wpMildL_take rfl ?_
  apply Exists.intro
  refine ⟨fun w' hw' => ?_, ?_⟩
  · go_simp
    exact laws_toGroup _ _ _ _ _
  simp only [Act.put, List.setIfInBounds_toArray, List.set_cons_zero, List.set_cons_succ]
  refine wpMildL_take rfl ⟨_, mild_load _ _ rfl _ rfl _ _ _ (fun w' h => BB.below h) Try.underlying36 rfl (by kernel_rfl), ?_⟩
  simp only [Act.put, List.setIfInBounds_toArray, List.set_cons_zero, List.set_cons_succ]
  refine wpMildL_take rfl ?_
  apply Exists.intro
  refine ⟨fun w' hw' => ?_, ?_⟩
  · go_simp
    exact laws_toGroup _ _ _ _ _
  simp only [Act.put, List.setIfInBounds_toArray, List.set_cons_zero, List.set_cons_succ]
  refine wpMildL_take rfl ?_
  apply Exists.intro
  refine ⟨fun w' hw' => ?_, ?_⟩
  · go_simp
    exact impl_JoinGroups _ _ _ _ _ _ _ _ _
  simp only [Act.put, List.setIfInBounds_toArray, List.set_cons_zero, List.set_cons_succ]
  refine wpMildL_take rfl ?_
  apply Exists.intro
  refine ⟨fun w' hw' => ?_, ?_⟩
  · go_simp
    with_reducible rfl
  simp only [Act.put, List.setIfInBounds_toArray, List.set_cons_zero, List.set_cons_succ]
  refine wpMildL_take rfl ?_
  apply Exists.intro
  refine ⟨fun w' hw' => ?_, ?_⟩
  · go_simp
    with_reducible rfl
  simp only [Act.put, List.setIfInBounds_toArray, List.set_cons_zero, List.set_cons_succ]
  refine wpMildL_take rfl ?_
  apply Exists.intro
  refine ⟨fun w' hw' => ?_, ?_⟩
  · go_simp
    with_reducible rfl
  simp only [Act.put, List.setIfInBounds_toArray, List.set_cons_zero, List.set_cons_succ]
  refine wpMildL_late ?_
  refine wpMildL_late ?_
  refine wpMildL_take rfl ?_
  apply Exists.intro
  refine ⟨fun w' hw' => ?_, ?_⟩
  · go_simp
    with_reducible rfl
  simp only [Act.put, List.setIfInBounds_toArray, List.set_cons_zero, List.set_cons_succ]
  refine wpMildL_nil ?_
  refine ⟨_, fun g => ⟨rfl, rfl⟩, rfl, by kernel_rfl, fun g2 w2 hg2 hb2 hblk => ?_⟩
  simp only [Act.put, List.setIfInBounds_toArray, List.set_cons_zero, List.set_cons_succ]
  have B2 : Blk w2 g2 37 _ := hblk
  clear hblk
  replace B1 := B1.below hb2
  have hW2 := bstep hW1 hb2
  clear hW1 hb2 hg2 BA BB
  obtain ⟨c1, z1⟩ := B1.facts
  obtain ⟨c2, z2⟩ := B2.facts
  go_wp2_with (go_at_call 22; refine (laws_eqGroup _ _ _ _ _).mono ?_; rintro e w3 ⟨rfl, hb3⟩)
  go_ret
  exact ⟨rfl, bstep hW2 hb3⟩

set_option maxRecDepth 100000 in
theorem lifted (os : Os) (started : os.Started) (H : Type) (enc : TypeId × Value → H) :
    ReturnsInHanded {} Try.checked os 5 .any (Rows.fnExactJoinGroupsSpec.pre6 enc Try.prog Try.f5 Rows.fnExactJoinGroupsRow.domain false) (Rows.fnExactJoinGroupsSpec.post enc Try.prog Try.f5 false true false false) := by
  refine returnsInHanded_of_change (C := Try.checked) own started (by kernel_rfl) Try.func5
    (ChangeSpec.witness6 (enc := enc) (C := Try.checked) false ⟨#[], #[.agg #[.int .i64 0, .int .i64 0, .int .i64 0, .int .i64 0], .agg #[.int .i64 0, .int .i64 0, .int .i64 0, .int .i64 0]], []⟩ 8 (by kernel_rfl) (by kernel_rfl) (by kernel_rfl) (by kernel_rfl)) ?_
  intro W base args ds gs before hval0 hW hcnd _
  have hval : ∀ (j : Nat) t v, Try.f5.params[j]? = some t → args[j]? = some v → Value.okWide Try.prog W .any base t v := hval0
  have hW' := hW
  obtain ⟨p, q, hA0, hV, rfl, hfz, hnd⟩ := hW
  have hA : DataW.TrodAll enc Try.prog W 0 (fun _ => true) true Try.f5.params.toList args.toList ds p := hA0
  rw [Try.params5] at hA hval
  obtain ⟨v0, vs0, d0, ds0, p0, q0, hargs, rfl, rfl, h0, r0⟩ := trodAll_cons hA
  obtain ⟨v1, vs1, d1, ds1, p1, q1, rfl, rfl, rfl, h1, r1⟩ := trodAll_cons r0
  obtain ⟨rfl, rfl, rfl⟩ := trodAll_nil r1
  obtain rfl : args = #[v0, v1] := by cases args; simp_all
  obtain ⟨rfl, rfl⟩ := trodVars_none hV
  have k0 := h0
  have lt0 : ∀ x ∈ p0, x.block < W.heap.size := by obtain ⟨m, hm⟩ := k0; exact DataW.trod_lt m _ _ _ hm
  have k1 := h1
  have lt1 : ∀ x ∈ p1, x.block < W.heap.size := by obtain ⟨m, hm⟩ := k1; exact DataW.trod_lt m _ _ _ hm
  obtain ⟨a0_0, a0_1, a0_2, a0_3, rfl, w0_0, w0_1, w0_2, w0_3⟩ := open_ints4 Try.underlying36 Try.underlying3 Try.underlying3 Try.underlying3 Try.underlying3 (by kernel_rfl) (by kernel_rfl) (hval 0 36 v0 rfl rfl) h0
  obtain ⟨a1_0, a1_1, a1_2, a1_3, rfl, w1_0, w1_1, w1_2, w1_3⟩ := open_ints4 Try.underlying36 Try.underlying3 Try.underlying3 Try.underlying3 Try.underlying3 (by kernel_rfl) (by kernel_rfl) (hval 1 36 v1 rfl rfl) h1
  clear hA0 hval0
  refine (walk a0_0 a0_1 a0_2 a0_3 a1_0 a1_1 a1_2 a1_3 W w0_0 w0_1 w0_2 w0_3 w1_0 w1_1 w1_2 w1_3).mono fun e W' ⟨he, bel⟩ => ?_
  subst he
  exact ⟨_, rfl, _, _, _, [], _, [], hW', trodAll_mk1 (shut_bool Try.underlying4 _), (trodAll_cons_mk (Below.trod laidOut (by kernel_rfl) (of_decide_eq_true (by kernel_rfl)) k0 bel lt0) (trodAll_cons_mk (Below.trod laidOut (by kernel_rfl) (of_decide_eq_true (by kernel_rfl)) k1 bel lt1) trodAll_mk0)), rfl, bel.frame _, fun h => by cases h⟩

theorem over : Rows.fnExactJoinGroupsRow.holds Try.pinned (OpenSpec.ofChange Rows.fnExactJoinGroupsSpec) :=
  OpenClaim.holds_of_wide 5 Try.f5 rfl rfl rfl rfl rfl rfl rfl ⟨rfl, rfl, rfl, rfl, rfl⟩ rfl rfl rfl rfl rfl (by kernel_rfl) Try.func5 (by kernel_rfl)
    (of_decide_eq_true (by kernel_rfl)) (by unfold Func.isWrapper; first | (rw [if_pos (by decide +kernel)]; kernel_rfl) | (rw [if_neg (by decide +kernel)]; exact ⟨rfl, rfl⟩))
    (fun os started H enc _ => lifted os started H enc)

/-- The statement. -/
theorem proved : Rows.FnExactJoinGroupsSaid := over
#print axioms proved
end Go.Proofs.Ytefbamciainhgaa.fnExactJoinGroups
