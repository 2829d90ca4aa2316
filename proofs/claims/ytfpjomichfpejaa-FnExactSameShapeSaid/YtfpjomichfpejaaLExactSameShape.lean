/- The law FnExactSameShape answers true at every input, and its arguments read afterwards as they did. Conditions: none. -/
import Derived.Test.YtfpjomichfpejaaRows
import Derived.Test.YtfpjomichfpejaaFrame
import Derived.Test.YtfpjomichfpejaaArms4
namespace Go.Proofs.Ytfpjomichfpejaa.fnExactSameShape
open Go.ChangeShapes Go.WideShapes Go.ChangeAt Go.RowKit
open Go.ChangeMaps (open_string shut_string)
set_option linter.unusedVariables false

set_option linter.unusedSimpArgs false
set_option maxHeartbeats 2000000 in
theorem walk (a0 : AV) (a1 : AV) (w : World) :
    Calls Try.prog 5 #[.agg #[.int .i64 a0.f.d, .int .i64 a0.f.l, .int .i64 a0.f.a, .int .i64 a0.f.b, .int .i64 a0.o, .int .i64 a0.l, .int .i64 a0.t, .int .i64 a0.on.c, .int .i64 a0.on.k, .int .i64 a0.on.a, .int .i64 a0.on.t, .int .i64 a0.ar.c, .int .i64 a0.ar.k, .int .i64 a0.ar.a, .int .i64 a0.ar.t], .agg #[.int .i64 a1.f.d, .int .i64 a1.f.l, .int .i64 a1.f.a, .int .i64 a1.f.b, .int .i64 a1.o, .int .i64 a1.l, .int .i64 a1.t, .int .i64 a1.on.c, .int .i64 a1.on.k, .int .i64 a1.on.a, .int .i64 a1.on.t, .int .i64 a1.ar.c, .int .i64 a1.ar.k, .int .i64 a1.ar.a, .int .i64 a1.ar.t]] w fun e w' => e = .returned (.bool true) ∧ Below w.heap.size w w' := by
  go_enter Try.func5, Try.ntmps5
  go_upto_region 1 with (fail)
  obtain ⟨BA, BB⟩ := blk_two w 27 27 #[Value.int .i64 a0.f.d, Value.int .i64 a0.f.l, Value.int .i64 a0.f.a, Value.int .i64 a0.f.b, Value.int .i64 a0.o, Value.int .i64 a0.l, Value.int .i64 a0.t, Value.int .i64 a0.on.c, Value.int .i64 a0.on.k, Value.int .i64 a0.on.a, Value.int .i64 a0.on.t, Value.int .i64 a0.ar.c, Value.int .i64 a0.ar.k, Value.int .i64 a0.ar.a, Value.int .i64 a0.ar.t] #[Value.int .i64 a1.f.d, Value.int .i64 a1.f.l, Value.int .i64 a1.f.a, Value.int .i64 a1.f.b, Value.int .i64 a1.o, Value.int .i64 a1.l, Value.int .i64 a1.t, Value.int .i64 a1.on.c, Value.int .i64 a1.on.k, Value.int .i64 a1.on.a, Value.int .i64 a1.on.t, Value.int .i64 a1.ar.c, Value.int .i64 a1.ar.k, Value.int .i64 a1.ar.a, Value.int .i64 a1.ar.t]
  have hW : Below w.heap.size w ((w.alloc (.cells #[Value.int .i64 a0.f.d, Value.int .i64 a0.f.l, Value.int .i64 a0.f.a, Value.int .i64 a0.f.b, Value.int .i64 a0.o, Value.int .i64 a0.l, Value.int .i64 a0.t, Value.int .i64 a0.on.c, Value.int .i64 a0.on.k, Value.int .i64 a0.on.a, Value.int .i64 a0.on.t, Value.int .i64 a0.ar.c, Value.int .i64 a0.ar.k, Value.int .i64 a0.ar.a, Value.int .i64 a0.ar.t] 27)).alloc (.cells #[Value.int .i64 a1.f.d, Value.int .i64 a1.f.l, Value.int .i64 a1.f.a, Value.int .i64 a1.f.b, Value.int .i64 a1.o, Value.int .i64 a1.l, Value.int .i64 a1.t, Value.int .i64 a1.on.c, Value.int .i64 a1.on.k, Value.int .i64 a1.on.a, Value.int .i64 a1.on.t, Value.int .i64 a1.ar.c, Value.int .i64 a1.ar.k, Value.int .i64 a1.ar.a, Value.int .i64 a1.ar.t] 27)) := (by repeat (first | (with_reducible exact Below.refl _ _) | (with_reducible assumption) | (with_reducible refine balloc ?_ _) | (with_reducible refine bdrew ?_) | (with_reducible refine bdrewN ?_ _) | (with_reducible refine bset ?_ (by first | omega | (simp; done) | (simp; omega)) _) | (with_reducible refine bstep ?_ (by assumption))))
  generalize ((w.alloc (.cells #[Value.int .i64 a0.f.d, Value.int .i64 a0.f.l, Value.int .i64 a0.f.a, Value.int .i64 a0.f.b, Value.int .i64 a0.o, Value.int .i64 a0.l, Value.int .i64 a0.t, Value.int .i64 a0.on.c, Value.int .i64 a0.on.k, Value.int .i64 a0.on.a, Value.int .i64 a0.on.t, Value.int .i64 a0.ar.c, Value.int .i64 a0.ar.k, Value.int .i64 a0.ar.a, Value.int .i64 a0.ar.t] 27)).alloc (.cells #[Value.int .i64 a1.f.d, Value.int .i64 a1.f.l, Value.int .i64 a1.f.a, Value.int .i64 a1.f.b, Value.int .i64 a1.o, Value.int .i64 a1.l, Value.int .i64 a1.t, Value.int .i64 a1.on.c, Value.int .i64 a1.on.k, Value.int .i64 a1.on.a, Value.int .i64 a1.on.t, Value.int .i64 a1.ar.c, Value.int .i64 a1.ar.k, Value.int .i64 a1.ar.a, Value.int .i64 a1.ar.t] 27)) = W at *
  refine wp_region_mild0 [true, true, true, true, true, true, true, true, true, true] (by kernel_rfl) (by kernel_rfl) ?_
  refine wpMildL_take rfl ⟨_, mild_load _ _ rfl _ rfl _ _ _ (fun w' h => BA.below h) Try.underlying27 rfl (by kernel_rfl), ?_⟩
  simp only [Act.put, List.setIfInBounds_toArray, List.set_cons_zero, List.set_cons_succ]
  refine wpMildL_take rfl ?_
  apply Exists.intro
  refine ⟨fun w' hw' => ?_, ?_⟩
  · go_simp
    exact laws_toArms a0 _
  simp only [Act.put, List.setIfInBounds_toArray, List.set_cons_zero, List.set_cons_succ]
  refine wpMildL_take rfl ⟨_, mild_load _ _ rfl _ rfl _ _ _ (fun w' h => BB.below h) Try.underlying27 rfl (by kernel_rfl), ?_⟩
  simp only [Act.put, List.setIfInBounds_toArray, List.set_cons_zero, List.set_cons_succ]
  refine wpMildL_take rfl ?_
  apply Exists.intro
  refine ⟨fun w' hw' => ?_, ?_⟩
  · go_simp
    exact laws_toArms a1 _
  simp only [Act.put, List.setIfInBounds_toArray, List.set_cons_zero, List.set_cons_succ]
  refine wpMildL_take rfl ?_
  apply Exists.intro
  refine ⟨fun w' hw' => ?_, ?_⟩
  · go_simp
    exact spec_SameShape a0 a1 _
  simp only [Act.put, List.setIfInBounds_toArray, List.set_cons_zero, List.set_cons_succ]
  refine wpMildL_take rfl ?_
  apply Exists.intro
  refine ⟨fun w' hw' => ?_, ?_⟩
  · go_simp
    with_reducible rfl
  simp only [Act.put, List.setIfInBounds_toArray, List.set_cons_zero, List.set_cons_succ]
  refine wpMildL_take rfl ?_
  apply Exists.intro
  refine ⟨fun w' hw' => ?_, ?_⟩
  · go_simp
    with_reducible rfl
  simp only [Act.put, List.setIfInBounds_toArray, List.set_cons_zero, List.set_cons_succ]
  refine wpMildL_take rfl ?_
  apply Exists.intro
  refine ⟨fun w' hw' => ?_, ?_⟩
  · go_simp
    with_reducible rfl
  simp only [Act.put, List.setIfInBounds_toArray, List.set_cons_zero, List.set_cons_succ]
  refine wpMildL_take rfl ?_
  apply Exists.intro
  refine ⟨fun w' hw' => ?_, ?_⟩
  · go_simp
    with_reducible rfl
  simp only [Act.put, List.setIfInBounds_toArray, List.set_cons_zero, List.set_cons_succ]
  refine wpMildL_take rfl ?_
  apply Exists.intro
  refine ⟨fun w' hw' => ?_, ?_⟩
  · go_simp
    with_reducible rfl
  simp only [Act.put, List.setIfInBounds_toArray, List.set_cons_zero, List.set_cons_succ]
  refine wpMildL_nil ?_
  intro w1 hb1
  replace BA := BA.below hb1
  replace BB := BB.below hb1
  have hW1 := bstep hW hb1
  clear hW hb1
  go_wp2_with fail
  refine wp_region_mild0 [true, true, true, true, true, true, true, true, true, true] (by kernel_rfl) (by kernel_rfl) ?_
  refine wpMildL_take rfl ⟨_, mild_load _ _ rfl _ rfl _ _ _ (fun w' h => BA.below h) Try.underlying27 rfl (by kernel_rfl), ?_⟩
  simp only [Act.put, List.setIfInBounds_toArray, List.set_cons_zero, List.set_cons_succ]
  refine wpMildL_take rfl ?_
  apply Exists.intro
  refine ⟨fun w' hw' => ?_, ?_⟩
  · go_simp
    exact laws_toArms a0 _
  simp only [Act.put, List.setIfInBounds_toArray, List.set_cons_zero, List.set_cons_succ]
  refine wpMildL_take rfl ⟨_, mild_load _ _ rfl _ rfl _ _ _ (fun w' h => BB.below h) Try.underlying27 rfl (by kernel_rfl), ?_⟩
  simp only [Act.put, List.setIfInBounds_toArray, List.set_cons_zero, List.set_cons_succ]
  refine wpMildL_take rfl ?_
  apply Exists.intro
  refine ⟨fun w' hw' => ?_, ?_⟩
  · go_simp
    exact laws_toArms a1 _
  simp only [Act.put, List.setIfInBounds_toArray, List.set_cons_zero, List.set_cons_succ]
  refine wpMildL_take rfl ?_
  apply Exists.intro
  refine ⟨fun w' hw' => ?_, ?_⟩
  · go_simp
    exact impl_SameShape a0 a1 _
  simp only [Act.put, List.setIfInBounds_toArray, List.set_cons_zero, List.set_cons_succ]
  refine wpMildL_take rfl ?_
  apply Exists.intro
  refine ⟨fun w' hw' => ?_, ?_⟩
  · go_simp
    with_reducible rfl
  simp only [Act.put, List.setIfInBounds_toArray, List.set_cons_zero, List.set_cons_succ]
  refine wpMildL_take rfl ?_
  apply Exists.intro
  refine ⟨fun w' hw' => ?_, ?_⟩
  · go_simp
    with_reducible rfl
  simp only [Act.put, List.setIfInBounds_toArray, List.set_cons_zero, List.set_cons_succ]
  refine wpMildL_take rfl ?_
  apply Exists.intro
  refine ⟨fun w' hw' => ?_, ?_⟩
  · go_simp
    with_reducible rfl
  simp only [Act.put, List.setIfInBounds_toArray, List.set_cons_zero, List.set_cons_succ]
  refine wpMildL_take rfl ?_
  apply Exists.intro
  refine ⟨fun w' hw' => ?_, ?_⟩
  · go_simp
    with_reducible rfl
  simp only [Act.put, List.setIfInBounds_toArray, List.set_cons_zero, List.set_cons_succ]
  refine wpMildL_take rfl ?_
  apply Exists.intro
  refine ⟨fun w' hw' => ?_, ?_⟩
  · go_simp
    with_reducible rfl
  simp only [Act.put, List.setIfInBounds_toArray, List.set_cons_zero, List.set_cons_succ]
  refine wpMildL_nil ?_
  intro w2 hb2
  have hW2 := bstep hW1 hb2
  clear hW1 hb2 BA BB
  go_wp2
  go_ret
  exact ⟨rfl, hW2⟩

set_option maxRecDepth 100000 in
theorem lifted (os : Os) (started : os.Started) (H : Type) (enc : TypeId × Value → H) :
    ReturnsInHanded {} Try.checked os 5 .any (Rows.fnExactSameShapeSpec.pre6 enc Try.prog Try.f5 Rows.fnExactSameShapeRow.domain false) (Rows.fnExactSameShapeSpec.post enc Try.prog Try.f5 false true false false) := by
  refine returnsInHanded_of_change (C := Try.checked) own started (by kernel_rfl) Try.func5
    (ChangeSpec.witness6 (enc := enc) (C := Try.checked) false ⟨#[], #[.agg #[.int .i64 0, .int .i64 0, .int .i64 0, .int .i64 0, .int .i64 0, .int .i64 0, .int .i64 0, .int .i64 0, .int .i64 0, .int .i64 0, .int .i64 0, .int .i64 0, .int .i64 0, .int .i64 0, .int .i64 0], .agg #[.int .i64 0, .int .i64 0, .int .i64 0, .int .i64 0, .int .i64 0, .int .i64 0, .int .i64 0, .int .i64 0, .int .i64 0, .int .i64 0, .int .i64 0, .int .i64 0, .int .i64 0, .int .i64 0, .int .i64 0]], []⟩ 8 (by kernel_rfl) (by kernel_rfl) (by kernel_rfl) (by kernel_rfl)) ?_
  intro W base args ds gs before hval0 hW hcnd _
  have hval : ∀ (j : Nat) t v, Try.f5.params[j]? = some t → args[j]? = some v → Value.okWide Try.prog W .any base t v := hval0
  have hW' := hW
  obtain ⟨p, q, hA0, hV, rfl, hfz, hnd⟩ := hW
  have hA : DataW.TrodAll enc Try.prog W 0 (fun _ => true) true Try.f5.params.toList args.toList ds p := hA0
  rw [Try.params5] at hA hval
  obtain ⟨v0, vs0, d0, ds0, p0, q0, hargs, rfl, rfl, h0, r0⟩ := trodAll_cons hA
  obtain ⟨v1, vs1, d1, ds1, p1, q1, rfl, rfl, rfl, h1, r1⟩ := trodAll_cons r0
  obtain ⟨rfl, rfl, rfl⟩ := trodAll_nil r1
  obtain rfl : args = #[v0, v1] := by cases args; simp_all
  obtain ⟨rfl, rfl⟩ := trodVars_none hV
  have k0 := h0
  have lt0 : ∀ x ∈ p0, x.block < W.heap.size := by obtain ⟨m, hm⟩ := k0; exact DataW.trod_lt m _ _ _ hm
  have k1 := h1
  have lt1 : ∀ x ∈ p1, x.block < W.heap.size := by obtain ⟨m, hm⟩ := k1; exact DataW.trod_lt m _ _ _ hm
  obtain ⟨a0_0, a0_1, a0_2, a0_3, a0_4, a0_5, a0_6, a0_7, a0_8, a0_9, a0_10, a0_11, a0_12, a0_13, a0_14, rfl⟩ := open_arms Try.underlying27 Try.underlying23 Try.underlying25 Try.underlying3 (by kernel_rfl) (by kernel_rfl) (by kernel_rfl) (by kernel_rfl) rfl rfl rfl rfl rfl rfl (hval 0 27 v0 rfl rfl) h0
  obtain ⟨a1_0, a1_1, a1_2, a1_3, a1_4, a1_5, a1_6, a1_7, a1_8, a1_9, a1_10, a1_11, a1_12, a1_13, a1_14, rfl⟩ := open_arms Try.underlying27 Try.underlying23 Try.underlying25 Try.underlying3 (by kernel_rfl) (by kernel_rfl) (by kernel_rfl) (by kernel_rfl) rfl rfl rfl rfl rfl rfl (hval 1 27 v1 rfl rfl) h1
  clear hA0 hval0
  refine (walk (⟨⟨a0_0, a0_1, a0_2, a0_3⟩, a0_4, a0_5, a0_6, ⟨a0_7, a0_8, a0_9, a0_10⟩, ⟨a0_11, a0_12, a0_13, a0_14⟩⟩ : AV) (⟨⟨a1_0, a1_1, a1_2, a1_3⟩, a1_4, a1_5, a1_6, ⟨a1_7, a1_8, a1_9, a1_10⟩, ⟨a1_11, a1_12, a1_13, a1_14⟩⟩ : AV) W).mono fun e W' ⟨he, bel⟩ => ?_
  subst he
  exact ⟨_, rfl, _, _, _, [], _, [], hW', trodAll_mk1 (shut_bool Try.underlying4 _), (trodAll_cons_mk (Below.trod laidOut (by kernel_rfl) (of_decide_eq_true (by kernel_rfl)) k0 bel lt0) (trodAll_cons_mk (Below.trod laidOut (by kernel_rfl) (of_decide_eq_true (by kernel_rfl)) k1 bel lt1) trodAll_mk0)), rfl, bel.frame _, fun h => by cases h⟩

theorem over : Rows.fnExactSameShapeRow.holds Try.pinned (OpenSpec.ofChange Rows.fnExactSameShapeSpec) :=
  OpenClaim.holds_of_wide 5 Try.f5 rfl rfl rfl rfl rfl rfl rfl ⟨rfl, rfl, rfl, rfl, rfl⟩ rfl rfl rfl rfl rfl (by kernel_rfl) Try.func5 (by kernel_rfl)
    (of_decide_eq_true (by kernel_rfl)) (by unfold Func.isWrapper; first | (rw [if_pos (by decide +kernel)]; kernel_rfl) | (rw [if_neg (by decide +kernel)]; exact ⟨rfl, rfl⟩))
    (fun os started H enc _ => lifted os started H enc)

/-- The statement. -/
theorem proved : Rows.FnExactSameShapeSaid := over
#print axioms proved
end Go.Proofs.Ytfpjomichfpejaa.fnExactSameShape
