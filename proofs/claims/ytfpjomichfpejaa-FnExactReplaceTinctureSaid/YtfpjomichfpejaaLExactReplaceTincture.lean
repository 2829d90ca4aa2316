/- The law FnExactReplaceTincture answers true at every input, and its arguments read afterwards as they did. Conditions: none. -/
import Derived.Test.YtfpjomichfpejaaRows
import Derived.Test.YtfpjomichfpejaaFrame
import Derived.Test.YtfpjomichfpejaaArms4
namespace Go.Proofs.Ytfpjomichfpejaa.fnExactReplaceTincture
open Go.ChangeShapes Go.WideShapes Go.ChangeAt Go.RowKit
open Go.ChangeMaps (open_string shut_string)
set_option linter.unusedVariables false

set_option linter.unusedSimpArgs false
set_option maxHeartbeats 2000000 in
theorem walk (a0 : AV) (a1 : Int) (a2 : Int) (w : World) (w1 : (Lit.int .i64 a1).wf = true) (w2 : (Lit.int .i64 a2).wf = true) :
    Calls Try.prog 12 #[.agg #[.int .i64 a0.f.d, .int .i64 a0.f.l, .int .i64 a0.f.a, .int .i64 a0.f.b, .int .i64 a0.o, .int .i64 a0.l, .int .i64 a0.t, .int .i64 a0.on.c, .int .i64 a0.on.k, .int .i64 a0.on.a, .int .i64 a0.on.t, .int .i64 a0.ar.c, .int .i64 a0.ar.k, .int .i64 a0.ar.a, .int .i64 a0.ar.t], .int .i64 a1, .int .i64 a2] w fun e w' => e = .returned (.bool true) ∧ Below w.heap.size w w' := by
  go_enter Try.func12, Try.ntmps12
  go_upto_region 1 with (fail)
  have BA := blk_one w 27 #[Value.int .i64 a0.f.d, Value.int .i64 a0.f.l, Value.int .i64 a0.f.a, Value.int .i64 a0.f.b, Value.int .i64 a0.o, Value.int .i64 a0.l, Value.int .i64 a0.t, Value.int .i64 a0.on.c, Value.int .i64 a0.on.k, Value.int .i64 a0.on.a, Value.int .i64 a0.on.t, Value.int .i64 a0.ar.c, Value.int .i64 a0.ar.k, Value.int .i64 a0.ar.a, Value.int .i64 a0.ar.t]
  have hW : Below w.heap.size w (w.alloc (.cells #[Value.int .i64 a0.f.d, Value.int .i64 a0.f.l, Value.int .i64 a0.f.a, Value.int .i64 a0.f.b, Value.int .i64 a0.o, Value.int .i64 a0.l, Value.int .i64 a0.t, Value.int .i64 a0.on.c, Value.int .i64 a0.on.k, Value.int .i64 a0.on.a, Value.int .i64 a0.on.t, Value.int .i64 a0.ar.c, Value.int .i64 a0.ar.k, Value.int .i64 a0.ar.a, Value.int .i64 a0.ar.t] 27)) := (by repeat (first | (with_reducible exact Below.refl _ _) | (with_reducible assumption) | (with_reducible refine balloc ?_ _) | (with_reducible refine bdrew ?_) | (with_reducible refine bdrewN ?_ _) | (with_reducible refine bset ?_ (by first | omega | (simp; done) | (simp; omega)) _) | (with_reducible refine bstep ?_ (by assumption))))
  generalize (w.alloc (.cells #[Value.int .i64 a0.f.d, Value.int .i64 a0.f.l, Value.int .i64 a0.f.a, Value.int .i64 a0.f.b, Value.int .i64 a0.o, Value.int .i64 a0.l, Value.int .i64 a0.t, Value.int .i64 a0.on.c, Value.int .i64 a0.on.k, Value.int .i64 a0.on.a, Value.int .i64 a0.on.t, Value.int .i64 a0.ar.c, Value.int .i64 a0.ar.k, Value.int .i64 a0.ar.a, Value.int .i64 a0.ar.t] 27)) = W at *
  obtain ⟨c0, z0⟩ := BA.facts
  go_wp2_with fail
  refine (laws_toArms a0 _).mono ?_
  rintro e w1 ⟨rfl, hb1⟩
  replace BA := BA.below hb1
  replace hW := bstep hW hb1
  clear c0 z0 hb1
  go_wp2_with fail
  refine (spec_ReplaceTincture a0 a1 a2 _).mono ?_
  rintro e w2 ⟨rfl, hb2⟩
  replace BA := BA.below hb2
  replace hW := bstep hW hb2
  clear hb2
  go_upto_region 2 with ((with_reducible refine' wp_stA' (Blk.new _ _ _) _ _); rotate_left; (focus (refine ⟨rfl, ⟨_, _, rfl, ?_, rfl⟩, rfl, rfl, ?_⟩; (focus (simp [go_sem]; done)); (focus (simp [Value.oneCell']; done)))); intro w3 hg3 B1)
  replace BA := (BA.alloc _).past hg3 (by have := BA.lt; omega)
  replace hW := bgrown (balloc hW _) hg3 (by have := hW.size; omega)
  clear hg3
  obtain ⟨c0, z0⟩ := BA.facts
  go_wp2_with fail
  refine (laws_toArms a0 _).mono ?_
  rintro e w4 ⟨rfl, hb4⟩
  replace B1 := B1.below hb4
  replace hW := bstep hW hb4
  clear c0 z0 hb4 BA
  go_wp2_with fail
  refine (impl_ReplaceTincture a0 a1 a2 _).mono ?_
  rintro e w5 ⟨rfl, hb5⟩
  replace B1 := B1.below hb5
  replace hW := bstep hW hb5
  clear hb5
  go_upto_region 3 with ((with_reducible refine' wp_stA' (Blk.new _ _ _) _ _); rotate_left; (focus (refine ⟨rfl, ⟨_, _, rfl, ?_, rfl⟩, rfl, rfl, ?_⟩; (focus (simp [go_sem]; done)); (focus (simp [Value.oneCell']; done)))); intro w6 hg6 B2)
  replace B1 := (B1.alloc _).past hg6 (by have := B1.lt; omega)
  have hW2 := bgrown (balloc hW _) hg6 (by have := hW.size; omega)
  clear hg6 hW
  go_wp2_with (first | ((with_reducible refine wp_ldA' ?_ B2 ?_); (focus (refine ⟨rfl, ⟨_, rfl, ?_⟩, rfl⟩; simp [go_sem]; done))) | ((with_reducible refine wp_ldA' ?_ B1 ?_); (focus (refine ⟨rfl, ⟨_, rfl, ?_⟩, rfl⟩; simp [go_sem]; done))) | (go_at_call 32; (with_reducible refine (laws_eqArms (a0.replV a1 a2) _).mono ?_); rintro e w3 ⟨rfl, hb3⟩))
  go_ret
  exact ⟨rfl, bstep hW2 hb3⟩

set_option maxRecDepth 100000 in
theorem lifted (os : Os) (started : os.Started) (H : Type) (enc : TypeId × Value → H) :
    ReturnsInHanded {} Try.checked os 12 .any (Rows.fnExactReplaceTinctureSpec.pre6 enc Try.prog Try.f12 Rows.fnExactReplaceTinctureRow.domain false) (Rows.fnExactReplaceTinctureSpec.post enc Try.prog Try.f12 false true false false) := by
  refine returnsInHanded_of_change (C := Try.checked) own started (by kernel_rfl) Try.func12
    (ChangeSpec.witness6 (enc := enc) (C := Try.checked) false ⟨#[], #[.agg #[.int .i64 0, .int .i64 0, .int .i64 0, .int .i64 0, .int .i64 0, .int .i64 0, .int .i64 0, .int .i64 0, .int .i64 0, .int .i64 0, .int .i64 0, .int .i64 0, .int .i64 0, .int .i64 0, .int .i64 0], .int .i64 0, .int .i64 0], []⟩ 8 (by kernel_rfl) (by kernel_rfl) (by kernel_rfl) (by kernel_rfl)) ?_
  intro W base args ds gs before hval0 hW hcnd _
  have hval : ∀ (j : Nat) t v, Try.f12.params[j]? = some t → args[j]? = some v → Value.okWide Try.prog W .any base t v := hval0
  have hW' := hW
  obtain ⟨p, q, hA0, hV, rfl, hfz, hnd⟩ := hW
  have hA : DataW.TrodAll enc Try.prog W 0 (fun _ => true) true Try.f12.params.toList args.toList ds p := hA0
  rw [Try.params12] at hA hval
  obtain ⟨v0, vs0, d0, ds0, p0, q0, hargs, rfl, rfl, h0, r0⟩ := trodAll_cons hA
  obtain ⟨v1, vs1, d1, ds1, p1, q1, rfl, rfl, rfl, h1, r1⟩ := trodAll_cons r0
  obtain ⟨v2, vs2, d2, ds2, p2, q2, rfl, rfl, rfl, h2, r2⟩ := trodAll_cons r1
  obtain ⟨rfl, rfl, rfl⟩ := trodAll_nil r2
  obtain rfl : args = #[v0, v1, v2] := by cases args; simp_all
  obtain ⟨rfl, rfl⟩ := trodVars_none hV
  have k0 := h0
  have lt0 : ∀ x ∈ p0, x.block < W.heap.size := by obtain ⟨m, hm⟩ := k0; exact DataW.trod_lt m _ _ _ hm
  have k1 := h1
  have lt1 : ∀ x ∈ p1, x.block < W.heap.size := by obtain ⟨m, hm⟩ := k1; exact DataW.trod_lt m _ _ _ hm
  have k2 := h2
  have lt2 : ∀ x ∈ p2, x.block < W.heap.size := by obtain ⟨m, hm⟩ := k2; exact DataW.trod_lt m _ _ _ hm
  obtain ⟨a0_0, a0_1, a0_2, a0_3, a0_4, a0_5, a0_6, a0_7, a0_8, a0_9, a0_10, a0_11, a0_12, a0_13, a0_14, rfl⟩ := open_arms Try.underlying27 Try.underlying23 Try.underlying25 Try.underlying3 (by kernel_rfl) (by kernel_rfl) (by kernel_rfl) (by kernel_rfl) rfl rfl rfl rfl rfl rfl (hval 0 27 v0 rfl rfl) h0
  obtain ⟨a1, rfl, rfl, rfl, w1⟩ := open_int Try.underlying3 (hval 1 3 v1 rfl rfl) h1
  obtain ⟨a2, rfl, rfl, rfl, w2⟩ := open_int Try.underlying3 (hval 2 3 v2 rfl rfl) h2
  clear hA0 hval0
  refine (walk (⟨⟨a0_0, a0_1, a0_2, a0_3⟩, a0_4, a0_5, a0_6, ⟨a0_7, a0_8, a0_9, a0_10⟩, ⟨a0_11, a0_12, a0_13, a0_14⟩⟩ : AV) a1 a2 W w1 w2).mono fun e W' ⟨he, bel⟩ => ?_
  subst he
  exact ⟨_, rfl, _, _, _, [], _, [], hW', trodAll_mk1 (shut_bool Try.underlying4 _), (trodAll_cons_mk (Below.trod laidOut (by kernel_rfl) (of_decide_eq_true (by kernel_rfl)) k0 bel lt0) (trodAll_cons_mk (Below.trod laidOut (by kernel_rfl) (of_decide_eq_true (by kernel_rfl)) k1 bel lt1) (trodAll_cons_mk (Below.trod laidOut (by kernel_rfl) (of_decide_eq_true (by kernel_rfl)) k2 bel lt2) trodAll_mk0))), rfl, bel.frame _, fun h => by cases h⟩

theorem over : Rows.fnExactReplaceTinctureRow.holds Try.pinned (OpenSpec.ofChange Rows.fnExactReplaceTinctureSpec) :=
  OpenClaim.holds_of_wide 12 Try.f12 rfl rfl rfl rfl rfl rfl rfl ⟨rfl, rfl, rfl, rfl, rfl⟩ rfl rfl rfl rfl rfl (by kernel_rfl) Try.func12 (by kernel_rfl)
    (of_decide_eq_true (by kernel_rfl)) (by unfold Func.isWrapper; first | (rw [if_pos (by decide +kernel)]; kernel_rfl) | (rw [if_neg (by decide +kernel)]; exact ⟨rfl, rfl⟩))
    (fun os started H enc _ => lifted os started H enc)

/-- The statement. -/
theorem proved : Rows.FnExactReplaceTinctureSaid := over
#print axioms proved
end Go.Proofs.Ytfpjomichfpejaa.fnExactReplaceTincture
