/- The law FnExactAttitudesOf answers true at every input, and its arguments read afterwards as they did. Conditions: none. -/
import Derived.Test.YtefbamciainhgaaRows
import Derived.Test.YtefbamciainhgaaFrame
import Derived.Test.YtefbamciainhgaaOwnS
namespace Go.Proofs.Ytefbamciainhgaa.fnExactAttitudesOf
open Go.ChangeShapes Go.WideShapes Go.ChangeAt Go.RowKit
open Go.ChangeMaps (open_string shut_string)
set_option linter.unusedVariables false

theorem walk (a0 : Int) (w : World) (w0 : (Lit.int .i64 a0).wf = true) :
    Calls Try.prog 4 #[.int .i64 a0] w fun e w' => e = .returned (.bool true) ∧ Below w.heap.size w w' := by
  go_enter Try.func4, Try.ntmps4
  go_wp2_with fail
  refine (spec_AttitudesOf _ _).mono ?_
  rintro e w1 ⟨v0, rfl, hv0, hb1⟩
  have T1 := bstep (Below.refl w.heap.size w) hb1
  go_wp2_with fail
  refine (impl_AttitudesOf _ _).mono ?_
  rintro e w2 ⟨vg, rfl, hvg, hbi⟩
  have S2 := hbi
  have hB : w1.heap.size ≤ w1.heap.size := Nat.le_refl _
  have T2 := bstep T1 S2
  have hv2 := hv0.below S2
  have hBw := Nat.le_trans T1.size hB
  go_wp2_with fail
  refine (laws_eqStringS _ _ _ _ _ _ hvg hv2).mono ?_
  rintro e w3 ⟨rfl, hb3⟩
  have T3 := bstep T2 hb3
  have hg3 := hvg.below hb3
  have hv3 := hv2.below hb3
  go_wp2_with fail
  refine (laws_mark1StringS _ _ _ _ hg3 (attV_len _)).mono ?_
  rintro e w4 ⟨rfl, hm4, hr4⟩
  have T4 := below_own T3 hg3 hBw hr4
  have hv4 := hv3.kept hr4 (own_apart hv0 hvg hB)
  go_wp2_with fail
  refine (laws_held1StringS _ _ _ _ hm4 (attV_len _)).mono ?_
  rintro e w4b ⟨rfl, hbh⟩
  go_wp2_with fail
  refine (impl_AttitudesOf _ _).mono ?_
  rintro e w5 ⟨vh, rfl, hvh, hbj⟩
  have S5 := hbj
  have T5 := bstep (bstep T4 hbh) S5
  go_wp2_with fail
  refine (laws_eqStringS _ _ _ _ _ _ hvh ((hv4.below hbh).below S5)).mono ?_
  rintro e w6 ⟨rfl, hb6⟩
  go_wp2_with fail
  refine (laws_held1StringS _ _ _ _ (((hm4.below hbh).below S5).below hb6) (attV_len _)).mono ?_
  rintro e w7 ⟨rfl, hb7⟩
  go_wp2
  go_ret
  exact ⟨rfl, bstep (bstep T5 hb6) hb7⟩

set_option maxRecDepth 100000 in
theorem lifted (os : Os) (started : os.Started) (H : Type) (enc : TypeId × Value → H) :
    ReturnsInHanded {} Try.checked os 4 .any (Rows.fnExactAttitudesOfSpec.pre6 enc Try.prog Try.f4 Rows.fnExactAttitudesOfRow.domain false) (Rows.fnExactAttitudesOfSpec.post enc Try.prog Try.f4 false true false false) := by
  refine returnsInHanded_of_change (C := Try.checked) own started (by kernel_rfl) Try.func4
    (ChangeSpec.witness6 (enc := enc) (C := Try.checked) false ⟨#[], #[.int .i64 0], []⟩ 8 (by kernel_rfl) (by kernel_rfl) (by kernel_rfl) (by kernel_rfl)) ?_
  intro W base args ds gs before hval0 hW hcnd _
  have hval : ∀ (j : Nat) t v, Try.f4.params[j]? = some t → args[j]? = some v → Value.okWide Try.prog W .any base t v := hval0
  have hW' := hW
  obtain ⟨p, q, hA0, hV, rfl, hfz, hnd⟩ := hW
  have hA : DataW.TrodAll enc Try.prog W 0 (fun _ => true) true Try.f4.params.toList args.toList ds p := hA0
  rw [Try.params4] at hA hval
  obtain ⟨v0, vs0, d0, ds0, p0, q0, hargs, rfl, rfl, h0, r0⟩ := trodAll_cons hA
  obtain ⟨rfl, rfl, rfl⟩ := trodAll_nil r0
  obtain rfl : args = #[v0] := by cases args; simp_all
  obtain ⟨rfl, rfl⟩ := trodVars_none hV
  have k0 := h0
  have lt0 : ∀ x ∈ p0, x.block < W.heap.size := by obtain ⟨m, hm⟩ := k0; exact DataW.trod_lt m _ _ _ hm
  obtain ⟨a0, rfl, rfl, rfl, w0⟩ := open_int Try.underlying3 (hval 0 3 v0 rfl rfl) h0
  clear hA0 hval0
  refine (walk a0 W w0).mono fun e W' ⟨he, bel⟩ => ?_
  subst he
  exact ⟨_, rfl, _, _, _, [], _, [], hW', trodAll_mk1 (shut_bool Try.underlying4 _), (trodAll_cons_mk (Below.trod laidOut (by kernel_rfl) (of_decide_eq_true (by kernel_rfl)) k0 bel lt0) trodAll_mk0), rfl, bel.frame _, fun h => by cases h⟩

theorem over : Rows.fnExactAttitudesOfRow.holds Try.pinned (OpenSpec.ofChange Rows.fnExactAttitudesOfSpec) :=
  OpenClaim.holds_of_wide 4 Try.f4 rfl rfl rfl rfl rfl rfl rfl ⟨rfl, rfl, rfl, rfl, rfl⟩ rfl rfl rfl rfl rfl (by kernel_rfl) Try.func4 (by kernel_rfl)
    (of_decide_eq_true (by kernel_rfl)) (by unfold Func.isWrapper; first | (rw [if_pos (by decide +kernel)]; kernel_rfl) | (rw [if_neg (by decide +kernel)]; exact ⟨rfl, rfl⟩))
    (fun os started H enc _ => lifted os started H enc)

/-- The statement. -/
theorem proved : Rows.FnExactAttitudesOfSaid := over
#print axioms proved
end Go.Proofs.Ytefbamciainhgaa.fnExactAttitudesOf
