/- The law FnExactFirstOf answers true at every input, and its arguments read afterwards as they did. Conditions: none. -/
import Derived.Test.YtmemabeackgioaaRows
import Derived.Test.YtmemabeackgioaaFrame
import Derived.Test.YtmemabeackgioaaTlist
namespace Go.Proofs.Ytmemabeackgioaa.fnExactFirstOf
open Go.ChangeShapes Go.WideShapes Go.ChangeAt Go.RowKit
open Go.ChangeMaps (open_string shut_string)
set_option linter.unusedVariables false

set_option linter.unusedSimpArgs false
set_option maxHeartbeats 1000000 in
theorem walk (a0 : Option Addr) (len0 cap0 : Nat) (z0 : List Int) (w : World) (w0 : IsRow .i64 w a0 len0 cap0 z0) :
    Calls Try.prog 8 #[.slice a0 len0 cap0] w fun e w' => e = .returned (.bool true) ∧ Below w.heap.size w w' := by
  obtain ⟨hl0, hz0, hr0⟩ := reads_arg w0
  by_cases hbig : len0 ≤ 1048576
  · have hb0 : ¬ (1048576 : Int) < (len0 : Int) := by omega
    generalize hxs : z0.take len0 = xs at *
    have hlx : xs.length ≤ 1048576 := by omega
    have HX := Lib.hid hlx
    have HN := Lib.hid hz0
    have HR := Lib.hid hr0
    have HF := Lib.hid (foV_len xs hlx)
    clear hxs hl0 hr0 w0 hz0 hlx
    go_enter Try.func8, Try.ntmps8
    go_wp2_with fail
    refine (laws_toIntS _ _ _ xs HN.out.symm _ HR.out HX.out).mono ?_
    rintro e w1 ⟨vs, rfl, hs, hb1⟩
    obtain ⟨As, cs, rfl, hrs⟩ := own_reads hs
    go_wp2_with fail
    refine (spec_FirstOf _ _ _ xs _ rfl HX.out hrs.out).mono ?_
    rintro e w2 ⟨v0, rfl, h0, hb2⟩
    have T2 := bstep hb1 hb2
    clear hs hrs
    go_wp2_with fail
    refine (laws_toIntS _ _ _ xs HN.out.symm _ (HR.out.below T2) HX.out).mono ?_
    rintro e w3 ⟨vx, rfl, hx, hb3⟩
    obtain ⟨Ax, cx, rfl, hrx⟩ := own_reads hx
    have T3 := bstep T2 hb3
    have h03 := h0.below hb3
    go_wp2_with fail
    refine (impl_FirstOf _ _ _ xs _ rfl HX.out hrx.out).mono ?_
    rintro e w4 ⟨vg, rfl, hg, hb4⟩
    have T4 := bstep T3 hb4
    have h04 := h03.below hb4
    have hx4 := hx.below hb4
    have apx0 := own_apart h0 hx (Nat.le_refl _)
    have apgx := own_apart hx hg (Nat.le_refl _)
    have ap0g := own_apart h03 hg (Nat.le_refl _)
    go_wp2_with fail
    refine (laws_eqIntS _ _ _ _ _ _ hg h04).mono ?_
    rintro e w5 ⟨rfl, hb5⟩
    have T5 := bstep T4 hb5
    have h05 := h04.below hb5
    have hx5 := hx4.below hb5
    have hg5 := hg.below hb5
    go_wp2_with fail
    refine (laws_toIntS _ _ _ xs HN.out.symm _ (HR.out.below T5) HX.out).mono ?_
    rintro e w6 ⟨vt, rfl, ht, hb6⟩
    have T6 := bstep T5 hb6
    have h06 := h05.below hb6
    have hx6 := hx5.below hb6
    have hg6 := hg5.below hb6
    go_wp2_with fail
    refine (laws_eqIntS _ _ _ _ _ _ hx6 ht).mono ?_
    rintro e w7 ⟨rfl, hb7⟩
    have T7 := bstep T6 hb7
    have h07 := h06.below hb7
    have hx7 := hx6.below hb7
    have hg7 := hg6.below hb7
    go_wp2_with fail
    refine (laws_markIntS _ _ _ _ _ hx7 (by omega) (by omega) HX.out).mono ?_
    rintro e w8 ⟨rfl, hm8, hr8⟩
    have T8 := below_own T7 hx7 T2.size hr8
    have h08 := h07.kept hr8 apx0
    have hg8 := hg7.kept hr8 (apart_symm apgx)
    go_wp2_with fail
    refine (laws_eqIntS _ _ _ _ _ _ hg8 h08).mono ?_
    rintro e w9 ⟨rfl, hb9⟩
    have T9 := bstep T8 hb9
    have h09 := h08.below hb9
    have hg9 := hg8.below hb9
    go_wp2_with fail
    refine (laws_markIntS _ _ _ _ _ hg9 (by omega) (by omega) HF.out).mono ?_
    rintro e wa ⟨rfl, hma, hra⟩
    have Ta := below_own T9 hg9 T3.size hra
    have h0a := h09.kept hra ap0g
    go_wp2_with fail
    refine (laws_heldIntS _ _ _ _ _ hma (by omega) (by omega) HF.out).mono ?_
    rintro e wb ⟨rfl, hbb⟩
    have Tb := bstep Ta hbb
    have h0b := h0a.below hbb
    have hmb := hma.below hbb
    go_wp2_with fail
    refine (laws_toIntS _ _ _ xs HN.out.symm _ (HR.out.below Tb) HX.out).mono ?_
    rintro e wc ⟨vy, rfl, hy, hbc⟩
    obtain ⟨Ay, cy, rfl, hry⟩ := own_reads hy
    have Tc := bstep Tb hbc
    go_wp2_with fail
    refine (impl_FirstOf _ _ _ xs _ rfl HX.out hry.out).mono ?_
    rintro e wd ⟨vh, rfl, hh, hbd⟩
    have Td := bstep Tc hbd
    have h0d := (h0b.below hbc).below hbd
    have hmd := (hmb.below hbc).below hbd
    go_wp2_with fail
    refine (laws_eqIntS _ _ _ _ _ _ hh h0d).mono ?_
    rintro e we ⟨rfl, hbe⟩
    have Te := bstep Td hbe
    go_wp2_with fail
    refine (laws_heldIntS _ _ _ _ _ (hmd.below hbe) (by omega) (by omega) HF.out).mono ?_
    rintro e wf ⟨rfl, hbf⟩
    have Tf := bstep Te hbf
    go_wp2
    go_ret
    exact ⟨rfl, Tf⟩
  · have hb0 : (1048576 : Int) < (len0 : Int) := by omega
    clear w0 hl0 hz0 hr0
    go_enter Try.func8, Try.ntmps8
    go_wp2
    go_ret
    exact ⟨rfl, Below.refl _ _⟩

set_option maxRecDepth 100000 in
theorem lifted (os : Os) (started : os.Started) (H : Type) (enc : TypeId × Value → H) :
    ReturnsInHanded {} Try.checked os 8 .any (Rows.fnExactFirstOfSpec.pre6 enc Try.prog Try.f8 Rows.fnExactFirstOfRow.domain false) (Rows.fnExactFirstOfSpec.post enc Try.prog Try.f8 false true false false) := by
  refine returnsInHanded_of_change (C := Try.checked) own started (by kernel_rfl) Try.func8
    (ChangeSpec.witness6 (enc := enc) (C := Try.checked) false ⟨#[], #[.slice none 0 0], []⟩ 8 (by kernel_rfl) (by kernel_rfl) (by kernel_rfl) (by kernel_rfl)) ?_
  intro W base args ds gs before hval0 hW hcnd _
  have hval : ∀ (j : Nat) t v, Try.f8.params[j]? = some t → args[j]? = some v → Value.okWide Try.prog W .any base t v := hval0
  have hW' := hW
  obtain ⟨p, q, hA0, hV, rfl, hfz, hnd⟩ := hW
  have hA : DataW.TrodAll enc Try.prog W 0 (fun _ => true) true Try.f8.params.toList args.toList ds p := hA0
  rw [Try.params8] at hA hval
  obtain ⟨v0, vs0, d0, ds0, p0, q0, hargs, rfl, rfl, h0, r0⟩ := trodAll_cons hA
  obtain ⟨rfl, rfl, rfl⟩ := trodAll_nil r0
  obtain rfl : args = #[v0] := by cases args; simp_all
  obtain ⟨rfl, rfl⟩ := trodVars_none hV
  have k0 := h0
  have lt0 : ∀ x ∈ p0, x.block < W.heap.size := by obtain ⟨m, hm⟩ := k0; exact DataW.trod_lt m _ _ _ hm
  obtain ⟨a0, len0, cap0, rfl⟩ := okWide_slice Try.underlying22 (hval 0 22 v0 rfl rfl)
  obtain ⟨z0, w0⟩ : ∃ zs, IsRow .i64 W a0 len0 cap0 zs := by
    obtain ⟨fuel, hf⟩ := h0
    rcases open_ints Try.underlying22 Try.underlying3 (by kernel_rfl) hf with ⟨hcs, _⟩ | ⟨x, l, c, zs, hcs, _, hl, hm, hz, _, hcell, hwz⟩
    · simp [Value.cells] at hcs
      obtain ⟨rfl, rfl, rfl⟩ := hcs
      exact ⟨[], .inl ⟨rfl, rfl, rfl, rfl⟩⟩
    · simp [Value.cells] at hcs
      obtain ⟨rfl, rfl, rfl⟩ := hcs
      exact ⟨zs, .inr ⟨_, rfl, hl, hm, by simpa using hz, hcell, hwz⟩⟩
  clear hA0 hval0
  refine (walk a0 len0 cap0 z0 W w0).mono fun e W' ⟨he, bel⟩ => ?_
  subst he
  exact ⟨_, rfl, _, _, _, [], _, [], hW', trodAll_mk1 (shut_bool Try.underlying4 _), (trodAll_cons_mk (Below.trod laidOut (by kernel_rfl) (of_decide_eq_true (by kernel_rfl)) k0 bel lt0) trodAll_mk0), rfl, bel.frame _, fun h => by cases h⟩

theorem over : Rows.fnExactFirstOfRow.holds Try.pinned (OpenSpec.ofChange Rows.fnExactFirstOfSpec) :=
  OpenClaim.holds_of_wide 8 Try.f8 rfl rfl rfl rfl rfl rfl rfl ⟨rfl, rfl, rfl, rfl, rfl⟩ rfl rfl rfl rfl rfl (by kernel_rfl) Try.func8 (by kernel_rfl)
    (of_decide_eq_true (by kernel_rfl)) (by unfold Func.isWrapper; first | (rw [if_pos (by decide +kernel)]; kernel_rfl) | (rw [if_neg (by decide +kernel)]; exact ⟨rfl, rfl⟩))
    (fun os started H enc _ => lifted os started H enc)

/-- The statement. -/
theorem proved : Rows.FnExactFirstOfSaid := over
#print axioms proved
end Go.Proofs.Ytmemabeackgioaa.fnExactFirstOf
