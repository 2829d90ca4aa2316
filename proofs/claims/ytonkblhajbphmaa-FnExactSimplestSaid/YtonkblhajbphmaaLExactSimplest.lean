/- The law FnExactSimplest answers true at every input, and its arguments read afterwards as they did. Conditions: none. -/
import Derived.Test.YtonkblhajbphmaaRows
import Derived.Test.YtonkblhajbphmaaOpenA
namespace Go.Proofs.Ytonkblhajbphmaa.fnExactSimplest
open Go.ChangeShapes Go.WideShapes Go.ChangeAt Go.RowKit
open Go.ChangeMaps (open_string shut_string)
set_option linter.unusedVariables false

set_option linter.unusedSimpArgs false
set_option maxHeartbeats 1000000 in
theorem walk (a0 : Option Addr) (len0 cap0 : Nat) (z0 : List AV) (w : World) (m0 : len0 ≤ maxLen) (n0 : z0.length = len0) (s0 : ReadsA w a0 z0) :
    Calls Try.prog 4 #[.slice a0 len0 cap0] w fun e w' => e = .returned (.bool true) ∧ Below w.heap.size w w' := by
  by_cases hbig : len0 ≤ 1048576
  · have hlx : z0.length ≤ 1048576 := by omega
    have hs0 := laws_szArmsS a0 len0 cap0 m0
    rw [if_pos hbig] at hs0
    have HS := Lib.hid hs0
    have HX := Lib.hid hlx
    have HN := Lib.hid n0
    have HR := Lib.hid s0
    have hb0 : ¬ (1048576 - (len0 : Int) < 0) := by omega
    clear hs0 hlx n0 s0 m0
    generalize hL : (1048576 - (len0 : Int)) = L at *
    clear hL hbig
    go_enter Try.func4, Try.ntmps4
    go_wp2_with fail
    refine (HS.out _).mono ?_
    rintro e w' ⟨rfl, rfl⟩
    go_wp2_with fail
    refine (laws_toArmsS _ _ _ z0 HN.out.symm _ HR.out HX.out).mono ?_
    rintro e w1 ⟨vs, rfl, hs, hb1⟩
    go_wp2_with fail
    refine (spec_Simplest _ z0 _ _ hs).mono ?_
    rintro e w2 ⟨rfl, hb2⟩
    have T2 := bstep hb1 hb2
    clear hs hb1 hb2
    go_wp2_with fail
    refine (laws_toArmsS _ _ _ z0 HN.out.symm _ (HR.out.below T2) HX.out).mono ?_
    rintro e w3 ⟨vx, rfl, hx, hb3⟩
    have T3 := bstep T2 hb3
    clear T2 hb3
    go_wp2_with fail
    refine (impl_Simplest _ z0 _ _ hx).mono ?_
    rintro e w4 ⟨rfl, hb4⟩
    have T4 := bstep T3 hb4
    have hx4 := hx.below hb4
    clear hx T3 hb4
    go_wp2_with fail
    refine (laws_toArmsS _ _ _ z0 HN.out.symm _ (HR.out.below T4) HX.out).mono ?_
    rintro e w5 ⟨vt, rfl, ht, hb5⟩
    have T5 := bstep T4 hb5
    have hx5 := hx4.below hb5
    go_wp2_with fail
    refine (laws_eqArmsS _ _ z0 _ _ _ hx5 ht).mono ?_
    rintro e w6 ⟨rfl, hb6⟩
    go_wp2
    go_ret
    exact ⟨rfl, bstep T5 hb6⟩
  · have hs0 := laws_szArmsS a0 len0 cap0 m0
    rw [if_neg hbig] at hs0
    have HS := Lib.hid hs0
    clear hs0 n0 s0 m0 hbig
    go_enter Try.func4, Try.ntmps4
    go_wp2_with fail
    refine (HS.out _).mono ?_
    rintro e w' ⟨rfl, rfl⟩
    go_wp2
    go_ret
    exact ⟨rfl, Below.refl _ _⟩

set_option maxRecDepth 100000 in
theorem lifted (os : Os) (started : os.Started) (H : Type) (enc : TypeId × Value → H) :
    ReturnsInHanded {} Try.checked os 4 .any (Rows.fnExactSimplestSpec.pre6 enc Try.prog Try.f4 Rows.fnExactSimplestRow.domain false) (Rows.fnExactSimplestSpec.post enc Try.prog Try.f4 false true false false) := by
  refine returnsInHanded_of_change (C := Try.checked) own started (by kernel_rfl) Try.func4
    (ChangeSpec.witness6 (enc := enc) (C := Try.checked) false ⟨#[], #[.slice none 0 0], []⟩ 8 (by kernel_rfl) (by kernel_rfl) (by kernel_rfl) (by kernel_rfl)) ?_
  intro W base args ds gs before hval0 hW hcnd _
  have hval : ∀ (j : Nat) t v, Try.f4.params[j]? = some t → args[j]? = some v → Value.okWide Try.prog W .any base t v := hval0
  have hW' := hW
  obtain ⟨p, q, hA0, hV, rfl, hfz, hnd⟩ := hW
  have hA : DataW.TrodAll enc Try.prog W 0 (fun _ => true) true Try.f4.params.toList args.toList ds p := hA0
  rw [Try.params4] at hA hval
  obtain ⟨v0, vs0, d0, ds0, p0, q0, hargs, rfl, rfl, h0, r0⟩ := trodAll_cons hA
  obtain ⟨rfl, rfl, rfl⟩ := trodAll_nil r0
  obtain rfl : args = #[v0] := by cases args; simp_all
  obtain ⟨rfl, rfl⟩ := trodVars_none hV
  have k0 := h0
  have lt0 : ∀ x ∈ p0, x.block < W.heap.size := by obtain ⟨m, hm⟩ := k0; exact DataW.trod_lt m _ _ _ hm
  obtain ⟨a0, len0, cap0, rfl⟩ := okWide_slice Try.underlying45 (hval 0 45 v0 rfl rfl)
  obtain ⟨m0, z0, n0, s0⟩ := open_armsS h0
  clear hA0 hval0
  refine (walk a0 len0 cap0 z0 W m0 n0 s0).mono fun e W' ⟨he, bel⟩ => ?_
  subst he
  exact ⟨_, rfl, _, _, _, [], _, [], hW', trodAll_mk1 (shut_bool Try.underlying4 _), (trodAll_cons_mk (Below.trod laidOut (by kernel_rfl) (of_decide_eq_true (by kernel_rfl)) k0 bel lt0) trodAll_mk0), rfl, bel.frame _, fun h => by cases h⟩

theorem over : Rows.fnExactSimplestRow.holds Try.pinned (OpenSpec.ofChange Rows.fnExactSimplestSpec) :=
  OpenClaim.holds_of_wide 4 Try.f4 rfl rfl rfl rfl rfl rfl rfl ⟨rfl, rfl, rfl, rfl, rfl⟩ rfl rfl rfl rfl rfl (by kernel_rfl) Try.func4 (by kernel_rfl)
    (of_decide_eq_true (by kernel_rfl)) (by unfold Func.isWrapper; first | (rw [if_pos (by decide +kernel)]; kernel_rfl) | (rw [if_neg (by decide +kernel)]; exact ⟨rfl, rfl⟩))
    (fun os started H enc _ => lifted os started H enc)

/-- The statement. -/
theorem proved : Rows.FnExactSimplestSaid := over
#print axioms proved
end Go.Proofs.Ytonkblhajbphmaa.fnExactSimplest
