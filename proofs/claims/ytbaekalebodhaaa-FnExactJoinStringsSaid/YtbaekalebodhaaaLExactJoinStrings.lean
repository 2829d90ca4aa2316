/- The law FnExactJoinStrings answers true at every input, and its arguments read afterwards as they did. Conditions: none. -/
import Derived.Test.YtbaekalebodhaaaRows
import Derived.Test.YtbaekalebodhaaaFrame
import Derived.Test.YtbaekalebodhaaaJoin2
namespace Go.Proofs.Ytbaekalebodhaaa.fnExactJoinStrings
open Go.ChangeShapes Go.WideShapes Go.ChangeAt Go.RowKit
open Go.ChangeMaps (open_string shut_string)
set_option linter.unusedVariables false

set_option linter.unusedSimpArgs false
set_option maxHeartbeats 2000000 in
theorem walk (a0 : Option Addr) (len0 cap0 : Nat) (z0 : List ByteArray) (a1 : ByteArray) (w : World) (w0 : IsRowS w a0 len0 cap0 z0) (w1 : a1.size ≤ maxLen) :
    Calls Try.prog 4 #[.slice a0 len0 cap0, .string a1] w fun e w' => e = .returned (.bool true) ∧ Below w.heap.size w w' := by
  obtain ⟨hm, hlen, hr, hs⟩ := readsS_arg w0
  generalize z0.take len0 = xs at *
  subst hlen
  have HR := Lib.hid hr
  have HS := Lib.hid hs
  clear hr hs w0
  by_cases hp : 1048576 < a1.size
  · unfold maxLen at w1
    go_enter Try.func4, Try.ntmps4
    go_wp2
    go_ret
    exact ⟨rfl, Below.refl _ _⟩
  unfold maxLen at w1
  have HM := Lib.hid hm
  clear hm
  go_enter Try.func4, Try.ntmps4
  go_wp2_with fail
  refine (laws_szStringS a0 _ cap0 xs rfl _ HR.out HM.out HS.out).mono ?_
  rintro e w' ⟨n, rfl, hn, rfl⟩
  by_cases hneg : n < 0
  · go_wp2
    go_ret
    exact ⟨rfl, Below.refl _ _⟩
  have hsum : xs.length + sumS xs ≤ 1048576 := by have := hn (by omega); omega
  have HSUM := Lib.hid hsum
  clear hn hsum
  go_wp2_with fail
  refine (laws_toStringS a0 _ cap0 xs rfl _ HR.out (by have := HSUM.out; omega)).mono ?_
  rintro e w1' ⟨v1, rfl, hi1, hb1⟩
  go_wp2_with fail
  refine (spec_JoinStrings v1 xs a1 _ _ hi1 HSUM.out (by omega)).mono ?_
  rintro e w2' ⟨rfl, hb2⟩
  have HB2 := Lib.hid (bstep hb1 hb2)
  have HR2 := Lib.hid (HR.out.below HB2.out)
  clear hi1 hb1 hb2
  go_wp2_with fail
  refine (laws_toStringS a0 _ cap0 xs rfl _ HR2.out (by have := HSUM.out; omega)).mono ?_
  rintro e w3' ⟨v2, rfl, hi2, hb3⟩
  have HI2 := Lib.hid hi2
  have HB3 := Lib.hid (bstep HB2.out hb3)
  have HR3 := Lib.hid (HR2.out.below hb3)
  clear hi2 hb3 HB2 HR2
  go_wp2_with fail
  refine (impl_JoinStrings v2 xs a1 _ _ HI2.out HSUM.out (by omega)).mono ?_
  rintro e w4' ⟨rfl, hb4⟩
  have HI3 := Lib.hid (HI2.out.below hb4)
  have HB4 := Lib.hid (bstep HB3.out hb4)
  have HR4 := Lib.hid (HR3.out.below hb4)
  clear hb4 HB3 HR3 HI2
  go_wp2_with fail
  refine (laws_toStringS a0 _ cap0 xs rfl _ HR4.out (by have := HSUM.out; omega)).mono ?_
  rintro e w5' ⟨v3, rfl, hi5, hb5⟩
  have HI5 := Lib.hid hi5
  have HI4 := Lib.hid (HI3.out.below hb5)
  have HB5 := Lib.hid (bstep HB4.out hb5)
  clear hi5 hb5 HB4 HI3
  go_wp2_with fail
  refine (laws_eqStringS _ _ _ _ _ _ HI4.out HI5.out).mono ?_
  rintro e w6' ⟨rfl, hb6⟩
  go_wp2
  go_ret
  exact ⟨rfl, bstep HB5.out hb6⟩

set_option maxRecDepth 100000 in
theorem lifted (os : Os) (started : os.Started) (H : Type) (enc : TypeId × Value → H) :
    ReturnsInHanded {} Try.checked os 4 .any (Rows.fnExactJoinStringsSpec.pre6 enc Try.prog Try.f4 Rows.fnExactJoinStringsRow.domain false) (Rows.fnExactJoinStringsSpec.post enc Try.prog Try.f4 false true false false) := by
  refine returnsInHanded_of_change (C := Try.checked) own started (by kernel_rfl) Try.func4
    (ChangeSpec.witness6 (enc := enc) (C := Try.checked) false ⟨#[], #[.slice none 0 0, .string ByteArray.empty], []⟩ 8 (by kernel_rfl) (by kernel_rfl) (by kernel_rfl) (by kernel_rfl)) ?_
  intro W base args ds gs before hval0 hW hcnd _
  have hval : ∀ (j : Nat) t v, Try.f4.params[j]? = some t → args[j]? = some v → Value.okWide Try.prog W .any base t v := hval0
  have hW' := hW
  obtain ⟨p, q, hA0, hV, rfl, hfz, hnd⟩ := hW
  have hA : DataW.TrodAll enc Try.prog W 0 (fun _ => true) true Try.f4.params.toList args.toList ds p := hA0
  rw [Try.params4] at hA hval
  obtain ⟨v0, vs0, d0, ds0, p0, q0, hargs, rfl, rfl, h0, r0⟩ := trodAll_cons hA
  obtain ⟨v1, vs1, d1, ds1, p1, q1, rfl, rfl, rfl, h1, r1⟩ := trodAll_cons r0
  obtain ⟨rfl, rfl, rfl⟩ := trodAll_nil r1
  obtain rfl : args = #[v0, v1] := by cases args; simp_all
  obtain ⟨rfl, rfl⟩ := trodVars_none hV
  have k0 := h0
  have lt0 : ∀ x ∈ p0, x.block < W.heap.size := by obtain ⟨m, hm⟩ := k0; exact DataW.trod_lt m _ _ _ hm
  have k1 := h1
  have lt1 : ∀ x ∈ p1, x.block < W.heap.size := by obtain ⟨m, hm⟩ := k1; exact DataW.trod_lt m _ _ _ hm
  obtain ⟨a0, len0, cap0, rfl⟩ := okWide_slice Try.underlying22 (hval 0 22 v0 rfl rfl)
  obtain ⟨z0, w0⟩ : ∃ zs, IsRowS W a0 len0 cap0 zs := by
    obtain ⟨fuel, hf⟩ := h0
    rcases open_strings Try.underlying22 Try.underlying9 (by kernel_rfl) hf with ⟨hcs, _⟩ | ⟨x, l, c, zs, hcs, _, hl, hm, hz, _, hcell, hwz⟩
    · simp [Value.cells] at hcs
      obtain ⟨rfl, rfl, rfl⟩ := hcs
      exact ⟨[], .inl ⟨rfl, rfl, rfl, rfl⟩⟩
    · simp [Value.cells] at hcs
      obtain ⟨rfl, rfl, rfl⟩ := hcs
      exact ⟨zs, .inr ⟨_, rfl, hl, hm, by simpa using hz, hcell, hwz⟩⟩
  obtain ⟨a1, rfl, rfl, rfl, w1⟩ := open_string Try.underlying9 (hval 1 9 v1 rfl rfl) h1
  clear hA0 hval0
  refine (walk a0 len0 cap0 z0 a1 W w0 w1).mono fun e W' ⟨he, bel⟩ => ?_
  subst he
  exact ⟨_, rfl, _, _, _, [], _, [], hW', trodAll_mk1 (shut_bool Try.underlying4 _), (trodAll_cons_mk (Below.trod laidOut (by kernel_rfl) (of_decide_eq_true (by kernel_rfl)) k0 bel lt0) (trodAll_cons_mk (Below.trod laidOut (by kernel_rfl) (of_decide_eq_true (by kernel_rfl)) k1 bel lt1) trodAll_mk0)), rfl, bel.frame _, fun h => by cases h⟩

theorem over : Rows.fnExactJoinStringsRow.holds Try.pinned (OpenSpec.ofChange Rows.fnExactJoinStringsSpec) :=
  OpenClaim.holds_of_wide 4 Try.f4 rfl rfl rfl rfl rfl rfl rfl ⟨rfl, rfl, rfl, rfl, rfl⟩ rfl rfl rfl rfl rfl (by kernel_rfl) Try.func4 (by kernel_rfl)
    (of_decide_eq_true (by kernel_rfl)) (by unfold Func.isWrapper; first | (rw [if_pos (by decide +kernel)]; kernel_rfl) | (rw [if_neg (by decide +kernel)]; exact ⟨rfl, rfl⟩))
    (fun os started H enc _ => lifted os started H enc)

/-- The statement. -/
theorem proved : Rows.FnExactJoinStringsSaid := over
#print axioms proved
end Go.Proofs.Ytbaekalebodhaaa.fnExactJoinStrings
