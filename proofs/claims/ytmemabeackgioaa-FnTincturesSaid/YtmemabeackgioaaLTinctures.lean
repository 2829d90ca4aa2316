/- The law FnTinctures answers true at every input, and its arguments read afterwards as they did. Conditions: none. -/
import Derived.Test.YtmemabeackgioaaRows
import Derived.Test.YtmemabeackgioaaFrame
import Derived.Test.YtmemabeackgioaaVcode
import Derived.Test.YtmemabeackgioaaDraw3
namespace Go.Proofs.Ytmemabeackgioaa.fnTinctures
open Go.ChangeShapes Go.WideShapes Go.ChangeAt Go.RowKit
open Go.ChangeMaps (open_string shut_string)
set_option linter.unusedVariables false

set_option linter.unusedSimpArgs false
theorem pt_tw {x : Int} (h : inB 1 x 9 = true) : pt (twV x) = x := by
  unfold twV
  rw [h]
  rcases nine h with rfl | rfl | rfl | rfl | rfl | rfl | rfl | rfl | rfl <;> kernel_rfl
theorem impl_Parse_tw {x : Int} (h : inB 1 x 9 = true) (w : World) : Calls Try.prog 37 #[.string (twV x)] w fun e w' => e = .returned (.tuple #[.int .i64 x, .bool true]) ∧ Below w.heap.size w w' := by
  have h1 := (inB_true.1 h).1
  have h2 := impl_ParseTincture (twV x) w
  rw [pt_tw h] at h2
  have e : decide (0 < x) = true := by simp; omega
  rw [e] at h2
  exact h2
theorem tclashV_comm (x y : Int) : tclashV y x = tclashV x y := by
  unfold tclashV
  rw [tclash_comm, Bool.and_comm (inB 1 y 9)]
theorem impl_Clash_c (y x : Int) (w : World) : Calls Try.prog 38 #[.int .i64 y, .int .i64 x] w fun e w' => e = .returned (.tuple #[.bool (tclashV x y), .bool (inB 1 x 9 && inB 1 y 9)]) ∧ w = w' := by
  have h := impl_Clash y x w
  rw [tclashV_comm, Bool.and_comm] at h
  exact h
theorem against_has {x y : Int} (h : inB 1 x 9 = true) (h' : inB 1 y 9 = true) : hasI (againstV x) y = !tclash x y := by
  rcases nine h with rfl | rfl | rfl | rfl | rfl | rfl | rfl | rfl | rfl <;> rcases nine h' with rfl | rfl | rfl | rfl | rfl | rfl | rfl | rfl | rfl <;> kernel_rfl
theorem con_zero {x y : Int} (h : inB 1 x 9 = true) (h' : inB 1 y 9 = true) : (conV x y == 0) = tclash x y := by
  rcases nine h with rfl | rfl | rfl | rfl | rfl | rfl | rfl | rfl | rfl <;> rcases nine h' with rfl | rfl | rfl | rfl | rfl | rfl | rfl | rfl | rfl <;> kernel_rfl
set_option maxHeartbeats 4000000 in
theorem walk (a0 : Option Addr) (len0 cap0 : Nat) (z0 : List Int) (w : World) (w0 : IsRow .u8 w a0 len0 cap0 z0) :
    Calls Try.prog 10 #[.slice a0 len0 cap0] w fun e w' => e = .returned (.bool true) ∧ Below w.heap.size w w' := by
  by_cases hbig : 65536 < len0
  · go_enter Try.func10, Try.ntmps10
    go_wp2_with (go_at_call 32; refine (laws_vBig _ _ _ _).mono ?_; rintro e w' ⟨rfl, rfl⟩)
    go_ret
    exact ⟨rfl, Below.refl _ _⟩
  have HC := Lib.hid (code_arg w0 (by omega))
  clear w0
  go_enter Try.func10, Try.ntmps10
  go_wp2_with (go_at_call 32; refine (laws_vBig _ _ _ _).mono ?_; rintro e w' ⟨rfl, rfl⟩)
  refine (spec_DrawClash a0 len0 cap0 _ HC.out).mono ?_
  rintro e w1 ⟨x, y, rfl, _, _, _, _, hb1⟩
  have HB1 := Lib.hid hb1
  clear hb1 hbig HC
  cases h1 : inB 1 x 9
  · go_wp2_with (first | (go_at_call 36; refine (impl_TinctureWord _ _).mono ?_; rintro e w2 ⟨rfl, hb2⟩) | (go_at_call 37; refine (impl_ParseTincture _ _).mono ?_; rintro e w3 ⟨rfl, hb3⟩))
    refine (impl_Clash x y _).mono ?_
    rintro e w' ⟨rfl, rfl⟩
    go_wp2_with fail
    refine (impl_Clash_c y x _).mono ?_
    rintro e w' ⟨rfl, rfl⟩
    generalize pt (twV x) = q at *
    go_wp2_with (first | (go_at_call 39; refine (spec_Clash _ _ _).mono ?_; rintro e w' ⟨rfl, rfl⟩) | (go_at_call 40; refine (impl_IsTincture _ _).mono ?_; rintro e w' ⟨rfl, rfl⟩) | (go_at_call 41; refine (impl_TincturesAgainst _ _).mono ?_; rintro e w4 ⟨v, rfl, hi, hb4⟩) | (go_at_call 23; refine (impl_ContrastOf _ _ _).mono ?_; rintro e w5 ⟨rfl, hb5⟩))
    go_ret
    exact ⟨by simp [h1], bstep (bstep (bstep (bstep HB1.out hb2) hb3) hb4) hb5⟩
  cases h2 : inB 1 y 9
  · go_wp2_with (first | (go_at_call 36; refine (impl_TinctureWord _ _).mono ?_; rintro e w2 ⟨rfl, hb2⟩) | (go_at_call 37; refine (impl_Parse_tw h1 _).mono ?_; rintro e w3 ⟨rfl, hb3⟩))
    refine (impl_Clash x y _).mono ?_
    rintro e w' ⟨rfl, rfl⟩
    go_wp2_with fail
    refine (impl_Clash_c y x _).mono ?_
    rintro e w' ⟨rfl, rfl⟩
    go_wp2_with (first | (go_at_call 39; refine (spec_Clash _ _ _).mono ?_; rintro e w' ⟨rfl, rfl⟩) | (go_at_call 40; refine (impl_IsTincture _ _).mono ?_; rintro e w' ⟨rfl, rfl⟩) | (go_at_call 41; refine (impl_TincturesAgainst _ _).mono ?_; rintro e w4 ⟨v, rfl, hi, hb4⟩) | (go_at_call 23; refine (impl_ContrastOf _ _ _).mono ?_; rintro e w5 ⟨rfl, hb5⟩))
    go_ret
    exact ⟨by simp [h1, h2], bstep (bstep (bstep (bstep HB1.out hb2) hb3) hb4) hb5⟩
  have e1 := against_has h1 h2
  have e2 := con_zero h1 h2
  have e3 : tclashV x y = tclash x y := by unfold tclashV; rw [h1, h2]; rfl
  have hal := againstV_len x
  cases ht : tclash x y
  all_goals
    rw [ht] at e1 e2 e3
    go_wp2_with (first | (go_at_call 36; refine (impl_TinctureWord _ _).mono ?_; rintro e w2 ⟨rfl, hb2⟩) | (go_at_call 37; refine (impl_Parse_tw h1 _).mono ?_; rintro e w3 ⟨rfl, hb3⟩))
    refine (impl_Clash x y _).mono ?_
    rintro e w' ⟨rfl, rfl⟩
    go_wp2_with fail
    refine (impl_Clash_c y x _).mono ?_
    rintro e w' ⟨rfl, rfl⟩
    go_wp2_with (first | (go_at_call 39; refine (spec_Clash _ _ _).mono ?_; rintro e w' ⟨rfl, rfl⟩) | (go_at_call 40; refine (impl_IsTincture _ _).mono ?_; rintro e w' ⟨rfl, rfl⟩) | (go_at_call 41; refine (impl_TincturesAgainst _ _).mono ?_; rintro e w4 ⟨v, rfl, hi, hb4⟩; obtain ⟨A, c, rfl, HR⟩ := own_reads hi; clear hi) | (go_at_call 23; refine (impl_ContrastOf _ _ _).mono ?_; rintro e w5 ⟨rfl, hb5⟩) | (go_at_call 42; refine (laws_vHas _ _ _ (againstV x) _ _ rfl (by unfold maxLen; omega) (HR.out.below hb5)).mono ?_; rintro e w' ⟨rfl, rfl⟩))
    go_ret
    exact ⟨by simp, bstep (bstep (bstep (bstep HB1.out hb2) hb3) hb4) hb5⟩

set_option maxRecDepth 100000 in
theorem lifted (os : Os) (started : os.Started) (H : Type) (enc : TypeId × Value → H) :
    ReturnsInHanded {} Try.checked os 10 .any (Rows.fnTincturesSpec.pre6 enc Try.prog Try.f10 Rows.fnTincturesRow.domain false) (Rows.fnTincturesSpec.post enc Try.prog Try.f10 false true false false) := by
  refine returnsInHanded_of_change (C := Try.checked) own started (by kernel_rfl) Try.func10
    (ChangeSpec.witness6 (enc := enc) (C := Try.checked) false ⟨#[], #[.slice none 0 0], []⟩ 8 (by kernel_rfl) (by kernel_rfl) (by kernel_rfl) (by kernel_rfl)) ?_
  intro W base args ds gs before hval0 hW hcnd _
  have hval : ∀ (j : Nat) t v, Try.f10.params[j]? = some t → args[j]? = some v → Value.okWide Try.prog W .any base t v := hval0
  have hW' := hW
  obtain ⟨p, q, hA0, hV, rfl, hfz, hnd⟩ := hW
  have hA : DataW.TrodAll enc Try.prog W 0 (fun _ => true) true Try.f10.params.toList args.toList ds p := hA0
  rw [Try.params10] at hA hval
  obtain ⟨v0, vs0, d0, ds0, p0, q0, hargs, rfl, rfl, h0, r0⟩ := trodAll_cons hA
  obtain ⟨rfl, rfl, rfl⟩ := trodAll_nil r0
  obtain rfl : args = #[v0] := by cases args; simp_all
  obtain ⟨rfl, rfl⟩ := trodVars_none hV
  have k0 := h0
  have lt0 : ∀ x ∈ p0, x.block < W.heap.size := by obtain ⟨m, hm⟩ := k0; exact DataW.trod_lt m _ _ _ hm
  obtain ⟨a0, len0, cap0, rfl⟩ := okWide_slice Try.underlying50 (hval 0 50 v0 rfl rfl)
  obtain ⟨z0, w0⟩ : ∃ zs, IsRow .u8 W a0 len0 cap0 zs := by
    obtain ⟨fuel, hf⟩ := h0
    rcases open_ints Try.underlying50 Try.underlying5 (by kernel_rfl) hf with ⟨hcs, _⟩ | ⟨x, l, c, zs, hcs, _, hl, hm, hz, _, hcell, hwz⟩
    · simp [Value.cells] at hcs
      obtain ⟨rfl, rfl, rfl⟩ := hcs
      exact ⟨[], .inl ⟨rfl, rfl, rfl, rfl⟩⟩
    · simp [Value.cells] at hcs
      obtain ⟨rfl, rfl, rfl⟩ := hcs
      exact ⟨zs, .inr ⟨_, rfl, hl, hm, by simpa using hz, hcell, hwz⟩⟩
  clear hA0 hval0
  refine (walk a0 len0 cap0 z0 W w0).mono fun e W' ⟨he, bel⟩ => ?_
  subst he
  exact ⟨_, rfl, _, _, _, [], _, [], hW', trodAll_mk1 (shut_bool Try.underlying4 _), (trodAll_cons_mk (Below.trod laidOut (by kernel_rfl) (of_decide_eq_true (by kernel_rfl)) k0 bel lt0) trodAll_mk0), rfl, bel.frame _, fun h => by cases h⟩

theorem over : Rows.fnTincturesRow.holds Try.pinned (OpenSpec.ofChange Rows.fnTincturesSpec) :=
  OpenClaim.holds_of_wide 10 Try.f10 rfl rfl rfl rfl rfl rfl rfl ⟨rfl, rfl, rfl, rfl, rfl⟩ rfl rfl rfl rfl rfl (by kernel_rfl) Try.func10 (by kernel_rfl)
    (of_decide_eq_true (by kernel_rfl)) (by unfold Func.isWrapper; first | (rw [if_pos (by decide +kernel)]; kernel_rfl) | (rw [if_neg (by decide +kernel)]; exact ⟨rfl, rfl⟩))
    (fun os started H enc _ => lifted os started H enc)

/-- The statement. -/
theorem proved : Rows.FnTincturesSaid := over
#print axioms proved
end Go.Proofs.Ytmemabeackgioaa.fnTinctures
