/- The law FnExactLenientFindings answers true at every input, and its arguments read afterwards as they did. Conditions: none. -/
import Derived.Test.YtkmioioknboohaaRows
import Derived.Test.YtkmioioknboohaaFrame
import Derived.Test.YtkmioioknboohaaLenient
namespace Go.Proofs.Ytkmioioknboohaa.fnExactLenientFindings
open Go.ChangeShapes Go.WideShapes Go.ChangeAt Go.RowKit
open Go.ChangeMaps (open_string shut_string)
set_option linter.unusedVariables false

set_option linter.unusedSimpArgs false
set_option maxHeartbeats 1000000 in
theorem walk (a0 : AV) (w : World) :
    Calls Try.prog 5 #[.agg #[.int .i64 a0.f.d, .int .i64 a0.f.l, .int .i64 a0.f.a, .int .i64 a0.f.b, .int .i64 a0.o, .int .i64 a0.l, .int .i64 a0.t, .int .i64 a0.on.c, .int .i64 a0.on.k, .int .i64 a0.on.a, .int .i64 a0.on.t, .int .i64 a0.ar.c, .int .i64 a0.ar.k, .int .i64 a0.ar.a, .int .i64 a0.ar.t]] w fun e w' => e = .returned (.bool true) ∧ Below w.heap.size w w' := by
  go_enter Try.func5, Try.ntmps5
  go_wp2_with fail
  refine (laws_toArms a0 _).mono ?_
  rintro e w0 ⟨rfl, hb0⟩
  have B0 := blk_new hb0
  go_wp2_with fail
  refine (spec_LenientFindings a0 _).mono ?_
  rintro e w1 ⟨v0, rfl, hv0, hb1⟩
  have T1 := bstep (bstep (balloc (Below.refl w.heap.size w) _) hb0) hb1
  have B1 := B0.below hb1
  obtain ⟨c1, z1⟩ := B1.facts
  go_wp2_with fail
  refine (laws_toArms a0 _).mono ?_
  rintro e wa ⟨rfl, hba⟩
  go_wp2_with fail
  refine (impl_LenientFindings a0 _).mono ?_
  rintro e w2 ⟨vg, rfl, hvg, hbi⟩
  have S2 := bstep hba hbi
  have hB : w1.heap.size ≤ wa.heap.size := hba.size
  have B2 := B1.below S2
  have T2 := bstep T1 S2
  have hv2 := hv0.below S2
  have hBw := Nat.le_trans T1.size hB
  go_wp2_with fail
  refine (laws_eqFindingS _ _ _ _ _ _ hvg hv2).mono ?_
  rintro e w3 ⟨rfl, hb3⟩
  have T3 := bstep T2 hb3
  have hg3 := hvg.below hb3
  have hv3 := hv2.below hb3
  go_wp2_with fail
  refine (laws_markFindingS _ _ _ _ _ hg3 (by omega) (by omega) (leV_len a0)).mono ?_
  rintro e w4 ⟨rfl, hm4, hr4⟩
  have T4 := below_own T3 hg3 hBw hr4
  have hv4 := hv3.kept hr4 (own_apart hv0 hvg hB)
  have B4 := (B2.below hb3).grown hr4 (own_ne hvg (Nat.lt_of_lt_of_le z1 hB))
  go_wp2_with fail
  refine (laws_heldFindingS _ _ _ _ _ hm4 (by omega) (by omega) (leV_len a0)).mono ?_
  rintro e w4b ⟨rfl, hbh⟩
  have B5 := B4.below hbh
  obtain ⟨c5, z5⟩ := B5.facts
  go_wp2_with fail
  refine (laws_toArms a0 _).mono ?_
  rintro e wb ⟨rfl, hbb⟩
  go_wp2_with fail
  refine (impl_LenientFindings a0 _).mono ?_
  rintro e w5 ⟨vh, rfl, hvh, hbj⟩
  have S5 := bstep hbb hbj
  have T5 := bstep (bstep T4 hbh) S5
  go_wp2_with fail
  refine (laws_eqFindingS _ _ _ _ _ _ hvh ((hv4.below hbh).below S5)).mono ?_
  rintro e w6 ⟨rfl, hb6⟩
  go_wp2_with fail
  refine (laws_heldFindingS _ _ _ _ _ (((hm4.below hbh).below S5).below hb6) (by omega) (by omega) (leV_len a0)).mono ?_
  rintro e w7 ⟨rfl, hb7⟩
  go_wp2
  go_ret
  exact ⟨rfl, bstep (bstep T5 hb6) hb7⟩

set_option maxRecDepth 100000 in
theorem lifted (os : Os) (started : os.Started) (H : Type) (enc : TypeId × Value → H) :
    ReturnsInHanded {} Try.checked os 5 .any (Rows.fnExactLenientFindingsSpec.pre6 enc Try.prog Try.f5 Rows.fnExactLenientFindingsRow.domain false) (Rows.fnExactLenientFindingsSpec.post enc Try.prog Try.f5 false true false false) := by
  refine returnsInHanded_of_change (C := Try.checked) own started (by kernel_rfl) Try.func5
    (ChangeSpec.witness6 (enc := enc) (C := Try.checked) false ⟨#[], #[.agg #[.int .i64 0, .int .i64 0, .int .i64 0, .int .i64 0, .int .i64 0, .int .i64 0, .int .i64 0, .int .i64 0, .int .i64 0, .int .i64 0, .int .i64 0, .int .i64 0, .int .i64 0, .int .i64 0, .int .i64 0]], []⟩ 8 (by kernel_rfl) (by kernel_rfl) (by kernel_rfl) (by kernel_rfl)) ?_
  intro W base args ds gs before hval0 hW hcnd _
  have hval : ∀ (j : Nat) t v, Try.f5.params[j]? = some t → args[j]? = some v → Value.okWide Try.prog W .any base t v := hval0
  have hW' := hW
  obtain ⟨p, q, hA0, hV, rfl, hfz, hnd⟩ := hW
  have hA : DataW.TrodAll enc Try.prog W 0 (fun _ => true) true Try.f5.params.toList args.toList ds p := hA0
  rw [Try.params5] at hA hval
  obtain ⟨v0, vs0, d0, ds0, p0, q0, hargs, rfl, rfl, h0, r0⟩ := trodAll_cons hA
  obtain ⟨rfl, rfl, rfl⟩ := trodAll_nil r0
  obtain rfl : args = #[v0] := by cases args; simp_all
  obtain ⟨rfl, rfl⟩ := trodVars_none hV
  have k0 := h0
  have lt0 : ∀ x ∈ p0, x.block < W.heap.size := by obtain ⟨m, hm⟩ := k0; exact DataW.trod_lt m _ _ _ hm
  obtain ⟨a0_0, a0_1, a0_2, a0_3, a0_4, a0_5, a0_6, a0_7, a0_8, a0_9, a0_10, a0_11, a0_12, a0_13, a0_14, rfl⟩ := open_arms Try.underlying27 Try.underlying23 Try.underlying25 Try.underlying3 (by kernel_rfl) (by kernel_rfl) (by kernel_rfl) (by kernel_rfl) rfl rfl rfl rfl rfl rfl (hval 0 27 v0 rfl rfl) h0
  clear hA0 hval0
  refine (walk (⟨⟨a0_0, a0_1, a0_2, a0_3⟩, a0_4, a0_5, a0_6, ⟨a0_7, a0_8, a0_9, a0_10⟩, ⟨a0_11, a0_12, a0_13, a0_14⟩⟩ : AV) W).mono fun e W' ⟨he, bel⟩ => ?_
  subst he
  exact ⟨_, rfl, _, _, _, [], _, [], hW', trodAll_mk1 (shut_bool Try.underlying4 _), (trodAll_cons_mk (Below.trod laidOut (by kernel_rfl) (of_decide_eq_true (by kernel_rfl)) k0 bel lt0) trodAll_mk0), rfl, bel.frame _, fun h => by cases h⟩

theorem over : Rows.fnExactLenientFindingsRow.holds Try.pinned (OpenSpec.ofChange Rows.fnExactLenientFindingsSpec) :=
  OpenClaim.holds_of_wide 5 Try.f5 rfl rfl rfl rfl rfl rfl rfl ⟨rfl, rfl, rfl, rfl, rfl⟩ rfl rfl rfl rfl rfl (by kernel_rfl) Try.func5 (by kernel_rfl)
    (of_decide_eq_true (by kernel_rfl)) (by unfold Func.isWrapper; first | (rw [if_pos (by decide +kernel)]; kernel_rfl) | (rw [if_neg (by decide +kernel)]; exact ⟨rfl, rfl⟩))
    (fun os started H enc _ => lifted os started H enc)

/-- The statement. -/
theorem proved : Rows.FnExactLenientFindingsSaid := over
#print axioms proved
end Go.Proofs.Ytkmioioknboohaa.fnExactLenientFindings
