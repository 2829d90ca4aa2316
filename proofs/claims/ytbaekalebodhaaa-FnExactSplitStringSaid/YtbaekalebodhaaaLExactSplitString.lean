/- The law FnExactSplitString answers true at every input, and its arguments read afterwards as they did. Conditions: none. -/
import Derived.Test.YtbaekalebodhaaaRows
import Derived.Test.YtbaekalebodhaaaFrame
import Derived.Test.YtbaekalebodhaaaSplit
namespace Go.Proofs.Ytbaekalebodhaaa.fnExactSplitString
open Go.ChangeShapes Go.WideShapes Go.ChangeAt Go.RowKit
open Go.ChangeMaps (open_string shut_string)
set_option linter.unusedVariables false

set_option linter.unusedSimpArgs false
set_option maxHeartbeats 1000000 in
theorem walk (a0 : ByteArray) (a1 : ByteArray) (w : World) (w0 : a0.size ≤ maxLen) (w1 : a1.size ≤ maxLen) :
    Calls Try.prog 3 #[.string a0, .string a1] w fun e w' => e = .returned (.bool true) ∧ Below w.heap.size w w' := by
  unfold maxLen at w0 w1
  by_cases h0 : 1048576 < a0.size
  · go_enter Try.func3, Try.ntmps3
    go_wp2
    go_ret
    exact ⟨rfl, Below.refl _ _⟩
  by_cases h1 : 1048576 < a1.size
  · go_enter Try.func3, Try.ntmps3
    go_wp2
    go_ret
    exact ⟨rfl, Below.refl _ _⟩
  go_enter Try.func3, Try.ntmps3
  go_wp2_with fail
  refine (spec_SplitString a0 a1 _ (by omega) (by omega)).mono ?_
  rintro e w1 ⟨v0, rfl, hv0, hb1⟩
  have T1 := bstep (Below.refl w.heap.size w) hb1
  go_wp2_with fail
  refine (impl_SplitString a0 a1 _ (by omega) (by omega)).mono ?_
  rintro e w2 ⟨vg, rfl, hvg, hbi⟩
  have S2 := hbi
  have hB : w1.heap.size ≤ w1.heap.size := Nat.le_refl _
  have T2 := bstep T1 S2
  have hv2 := hv0.below S2
  have hBw := Nat.le_trans T1.size hB
  go_wp2_with fail
  refine (laws_eqStringS _ _ _ _ _ _ hvg hv2).mono ?_
  rintro e w3 ⟨rfl, hb3⟩
  have T3 := bstep T2 hb3
  have hg3 := hvg.below hb3
  have hv3 := hv2.below hb3
  go_wp2_with fail
  refine (laws_mark1StringS _ _ _ _ hg3 (splitV_len a0 a1)).mono ?_
  rintro e w4 ⟨rfl, hm4, hr4⟩
  have T4 := below_own T3 hg3 hBw hr4
  have hv4 := hv3.kept hr4 (own_apart hv0 hvg hB)
  go_wp2_with fail
  refine (laws_held1StringS _ _ _ _ hm4 (splitV_len a0 a1)).mono ?_
  rintro e w4b ⟨rfl, hbh⟩
  go_wp2_with fail
  refine (impl_SplitString a0 a1 _ (by omega) (by omega)).mono ?_
  rintro e w5 ⟨vh, rfl, hvh, hbj⟩
  have S5 := hbj
  have T5 := bstep (bstep T4 hbh) S5
  go_wp2_with fail
  refine (laws_eqStringS _ _ _ _ _ _ hvh ((hv4.below hbh).below S5)).mono ?_
  rintro e w6 ⟨rfl, hb6⟩
  go_wp2_with fail
  refine (laws_held1StringS _ _ _ _ (((hm4.below hbh).below S5).below hb6) (splitV_len a0 a1)).mono ?_
  rintro e w7 ⟨rfl, hb7⟩
  go_wp2
  go_ret
  exact ⟨rfl, bstep (bstep T5 hb6) hb7⟩

set_option maxRecDepth 100000 in
theorem lifted (os : Os) (started : os.Started) (H : Type) (enc : TypeId × Value → H) :
    ReturnsInHanded {} Try.checked os 3 .any (Rows.fnExactSplitStringSpec.pre6 enc Try.prog Try.f3 Rows.fnExactSplitStringRow.domain false) (Rows.fnExactSplitStringSpec.post enc Try.prog Try.f3 false true false false) := by
  refine returnsInHanded_of_change (C := Try.checked) own started (by kernel_rfl) Try.func3
    (ChangeSpec.witness6 (enc := enc) (C := Try.checked) false ⟨#[], #[.string ByteArray.empty, .string ByteArray.empty], []⟩ 8 (by kernel_rfl) (by kernel_rfl) (by kernel_rfl) (by kernel_rfl)) ?_
  intro W base args ds gs before hval0 hW hcnd _
  have hval : ∀ (j : Nat) t v, Try.f3.params[j]? = some t → args[j]? = some v → Value.okWide Try.prog W .any base t v := hval0
  have hW' := hW
  obtain ⟨p, q, hA0, hV, rfl, hfz, hnd⟩ := hW
  have hA : DataW.TrodAll enc Try.prog W 0 (fun _ => true) true Try.f3.params.toList args.toList ds p := hA0
  rw [Try.params3] at hA hval
  obtain ⟨v0, vs0, d0, ds0, p0, q0, hargs, rfl, rfl, h0, r0⟩ := trodAll_cons hA
  obtain ⟨v1, vs1, d1, ds1, p1, q1, rfl, rfl, rfl, h1, r1⟩ := trodAll_cons r0
  obtain ⟨rfl, rfl, rfl⟩ := trodAll_nil r1
  obtain rfl : args = #[v0, v1] := by cases args; simp_all
  obtain ⟨rfl, rfl⟩ := trodVars_none hV
  have k0 := h0
  have lt0 : ∀ x ∈ p0, x.block < W.heap.size := by obtain ⟨m, hm⟩ := k0; exact DataW.trod_lt m _ _ _ hm
  have k1 := h1
  have lt1 : ∀ x ∈ p1, x.block < W.heap.size := by obtain ⟨m, hm⟩ := k1; exact DataW.trod_lt m _ _ _ hm
  obtain ⟨a0, rfl, rfl, rfl, w0⟩ := open_string Try.underlying9 (hval 0 9 v0 rfl rfl) h0
  obtain ⟨a1, rfl, rfl, rfl, w1⟩ := open_string Try.underlying9 (hval 1 9 v1 rfl rfl) h1
  clear hA0 hval0
  refine (walk a0 a1 W w0 w1).mono fun e W' ⟨he, bel⟩ => ?_
  subst he
  exact ⟨_, rfl, _, _, _, [], _, [], hW', trodAll_mk1 (shut_bool Try.underlying4 _), (trodAll_cons_mk (Below.trod laidOut (by kernel_rfl) (of_decide_eq_true (by kernel_rfl)) k0 bel lt0) (trodAll_cons_mk (Below.trod laidOut (by kernel_rfl) (of_decide_eq_true (by kernel_rfl)) k1 bel lt1) trodAll_mk0)), rfl, bel.frame _, fun h => by cases h⟩

theorem over : Rows.fnExactSplitStringRow.holds Try.pinned (OpenSpec.ofChange Rows.fnExactSplitStringSpec) :=
  OpenClaim.holds_of_wide 3 Try.f3 rfl rfl rfl rfl rfl rfl rfl ⟨rfl, rfl, rfl, rfl, rfl⟩ rfl rfl rfl rfl rfl (by kernel_rfl) Try.func3 (by kernel_rfl)
    (of_decide_eq_true (by kernel_rfl)) (by unfold Func.isWrapper; first | (rw [if_pos (by decide +kernel)]; kernel_rfl) | (rw [if_neg (by decide +kernel)]; exact ⟨rfl, rfl⟩))
    (fun os started H enc _ => lifted os started H enc)

/-- The statement. -/
theorem proved : Rows.FnExactSplitStringSaid := over
#print axioms proved
end Go.Proofs.Ytbaekalebodhaaa.fnExactSplitString
