/- The law FnTinctureLists answers true at every input, and its arguments read afterwards as they did. Conditions: none. -/
import Derived.Test.YtmemabeackgioaaRows
import Derived.Test.YtmemabeackgioaaFrame
import Derived.Test.YtmemabeackgioaaTplain
import Derived.Test.YtmemabeackgioaaDraw4
namespace Go.Proofs.Ytmemabeackgioaa.fnTinctureLists
open Go.ChangeShapes Go.WideShapes Go.ChangeAt Go.RowKit
open Go.ChangeMaps (open_string shut_string)
set_option linter.unusedVariables false

set_option linter.unusedSimpArgs false
set_option maxHeartbeats 4000000 in
theorem walk (a0 : Option Addr) (len0 cap0 : Nat) (z0 : List Int) (w : World) (w0 : IsRow .u8 w a0 len0 cap0 z0) :
    Calls Try.prog 9 #[.slice a0 len0 cap0] w fun e w' => e = .returned (.bool true) ∧ Below w.heap.size w w' := by
  by_cases hbig : 65536 < len0
  · go_enter Try.func9, Try.ntmps9
    go_wp2_with (go_at_call 32; refine (laws_vBig _ _ _ _).mono ?_; rintro e w' ⟨rfl, rfl⟩)
    go_ret
    exact ⟨rfl, Below.refl _ _⟩
  have HC := Lib.hid (code_arg w0 (by omega))
  clear w0
  go_enter Try.func9, Try.ntmps9
  go_wp2_with (go_at_call 32; refine (laws_vBig _ _ _ _).mono ?_; rintro e w' ⟨rfl, rfl⟩)
  refine (spec_DrawCountTinctures a0 len0 cap0 _ HC.out).mono ?_
  rintro e w1 ⟨v, xs, rfl, hi, hl, hb1⟩
  obtain ⟨A, c, rfl, HR⟩ := own_reads hi
  have HB1 := Lib.hid hb1
  clear hb1 hbig HC hi
  go_wp2_with fail
  refine (impl_CountTinctures A _ c xs _ rfl (by omega) HR.out).mono ?_
  rintro e w2 ⟨vc, rfl, hic, hb2⟩
  have HR2 := Lib.hid (HR.out.below hb2)
  have HIC := Lib.hid hic
  have HB2 := Lib.hid (bstep HB1.out hb2)
  clear hic hb2 HR HB1
  go_wp2_with fail
  refine (impl_FirstOf A _ c xs _ rfl (by omega) HR2.out).mono ?_
  rintro e w3 ⟨vf, rfl, hif, hb3⟩
  have HR3 := Lib.hid (HR2.out.below hb3)
  have HIC3 := Lib.hid (HIC.out.below hb3)
  have HIF := Lib.hid hif
  have HB3 := Lib.hid (bstep HB2.out hb3)
  clear hif hb3 HR2 HIC HB2
  go_wp2_with fail
  refine (spec_CountTinctures A _ c xs _ rfl (by omega) HR3.out).mono ?_
  rintro e w4 ⟨vw, rfl, hiw, hb4⟩
  have HR4 := Lib.hid (HR3.out.below hb4)
  have HIC4 := Lib.hid (HIC3.out.below hb4)
  have HIF4 := Lib.hid (HIF.out.below hb4)
  have HIW := Lib.hid hiw
  have HB4 := Lib.hid (bstep HB3.out hb4)
  clear hiw hb4 HR3 HIC3 HIF HB3
  cases ha : areT xs
  · have HF : Hid (foV xs = []) := by show _ = _; unfold foV; rw [ha]; rfl
    obtain ⟨AF, cF, rfl, HRF⟩ := own_reads HIF4.out
    rw [HF.out]
    go_wp2_with (go_at_call 34; refine (laws_vInts _ _ _ _ _ _ HIC4.out HIW.out).mono ?_; rintro e w5 ⟨rfl, hb5⟩)
    go_ret
    exact ⟨by simp, bstep HB4.out hb5⟩
  have ha' := ha
  unfold areT at ha'
  rw [Bool.and_eq_true] at ha'
  have HALL := Lib.hid ha'.2
  clear ha'
  have HCV : Hid (ctV xs = cntL xs) := by show _ = _; unfold ctV; rw [ha]; rfl
  have HFV : Hid (foV xs = fstL [] xs) := by show _ = _; unfold foV; rw [ha]; rfl
  go_wp2_with (go_at_call 34; refine (laws_vInts _ _ _ _ _ _ HIC4.out HIW.out).mono ?_; rintro e w5 ⟨rfl, hb5⟩)
  have HIC5 : Hid (Ints w5 w1.heap.size vc (cntL xs)) := by have := HIC4.out.below hb5; rw [HCV.out] at this; exact this
  have HIF5 : Hid (Ints w5 w2.heap.size vf (fstL [] xs)) := by have := HIF4.out.below hb5; rw [HFV.out] at this; exact this
  have HR5 := Lib.hid (HR4.out.below hb5)
  have HB5 := Lib.hid (bstep HB4.out hb5)
  clear hb5 HR4 HIC4 HIF4 HIW HB4
  obtain ⟨AC, cC, rfl, HRC⟩ := own_reads HIC5.out
  obtain ⟨AF, cF, rfl, HRF⟩ := own_reads HIF5.out
  have hlc : (cntL xs).length = 9 := by simp [cntL]
  have hr0 : ∀ k, 0 ≤ (cntL xs).getD k 0 ∧ (cntL xs).getD k 0 ≤ 100 := fun k => by
    rw [cntL_getD]
    have := cntOne_range xs k
    split <;> omega
  have HRR := Lib.hid hr0
  have HLC := Lib.hid hlc
  clear hr0
  rw [hlc]
  clear hlc
  go_wp2
  go_loop [10, 11, 12] (fun s d i => ∃ k : Nat, k ≤ 9 ∧ i = .int .i64 k ∧ s = .int .i64 (sumTo (cntL xs) k) ∧ d = .int .i64 (posTo (cntL xs) k)) (fun _ _ i => 9 - (intOf i).toNat)
  case atStart => exact ⟨0, by omega, rfl, rfl, rfl⟩
  case round =>
    obtain ⟨k, hk, rfl, rfl, rfl⟩ := hrel
    by_cases hlt : k < 9
    · obtain ⟨ad, rfl, hx, hc⟩ := HRC.out k (by rw [HLC.out]; exact hlt)
      have s1 := sumTo_range (cntL xs) HRR.out k
      have s2 := posTo_range (cntL xs) k
      have s3 := HRR.out k
      have HS : Hid (sumTo (cntL xs) (k + 1) = sumTo (cntL xs) k + (cntL xs).getD k 0) := rfl
      have HP : Hid (posTo (cntL xs) (k + 1) = posTo (cntL xs) k + (if 0 < (cntL xs).getD k 0 then 1 else 0)) := rfl
      generalize sumTo (cntL xs) k = s at *
      generalize posTo (cntL xs) k = d at *
      generalize (cntL xs).getD k 0 = y at *
      by_cases hp : 0 < y
      · rw [if_pos hp] at HP
        go_wp2
        go_round
        case rel => exact ⟨k + 1, by omega, by go_num, by rw [HS.out], by rw [HP.out]⟩
        case measure => simp [intOf]; omega
      · rw [if_neg hp] at HP
        go_wp2
        go_round
        case rel => exact ⟨k + 1, by omega, by go_num, by rw [HS.out], by rw [HP.out]; simp⟩
        case measure => simp [intOf]; omega
    · obtain rfl : k = 9 := by omega
      go_wp2
      have e1 := sum_len xs HALL.out
      have e2 : posTo (cntL xs) 9 = ((fstL [] xs).length : Int) := by rw [pos_dis, fst_dis xs [] HALL.out rfl]; rfl
      rw [e1, e2]
      clear e1 e2
      have hf := fstL_len [] xs
      by_cases h0 : xs.length = 0
      · rw [h0]
        go_quiet (fail)
        go_wp2
        go_ret
        exact ⟨by simp, below_drewN HB5.out _⟩
      · obtain ⟨q1, q2⟩ := fst_first xs (by omega)
        obtain ⟨ad1, rfl, hx1, hc1⟩ := HR5.out 0 (by omega)
        obtain ⟨ad2, rfl, hx2, hc2⟩ := HRF.out 0 q2
        rw [q1] at hc2
        generalize xs.getD 0 0 = y at *
        have n0 : ((xs.length : Int) == 0) = false := by rw [beq_eq_false_iff_ne]; omega
        have n1 : (xs.length == 0) = false := by rw [beq_eq_false_iff_ne]; omega
        have n2 : 0 < xs.length := by omega
        have n3 : (0 : Int) < xs.length := by omega
        have n4 : (0 : Int) < (fstL [] xs).length := by omega
        clear q1
        have hc1' : w5.cell? ad1 = some (.int .i64 y) := by simpa [Addr.add] using hc1
        have hc2' : w5.cell? ad2 = some (.int .i64 y) := by simpa [Addr.add] using hc2
        go_quiet (fail)
        go_wp2
        go_ret
        exact ⟨by simp, below_drewN HB5.out _⟩

set_option maxRecDepth 100000 in
theorem lifted (os : Os) (started : os.Started) (H : Type) (enc : TypeId × Value → H) :
    ReturnsInHanded {} Try.checked os 9 .any (Rows.fnTinctureListsSpec.pre6 enc Try.prog Try.f9 Rows.fnTinctureListsRow.domain false) (Rows.fnTinctureListsSpec.post enc Try.prog Try.f9 false true false false) := by
  refine returnsInHanded_of_change (C := Try.checked) own started (by kernel_rfl) Try.func9
    (ChangeSpec.witness6 (enc := enc) (C := Try.checked) false ⟨#[], #[.slice none 0 0], []⟩ 8 (by kernel_rfl) (by kernel_rfl) (by kernel_rfl) (by kernel_rfl)) ?_
  intro W base args ds gs before hval0 hW hcnd _
  have hval : ∀ (j : Nat) t v, Try.f9.params[j]? = some t → args[j]? = some v → Value.okWide Try.prog W .any base t v := hval0
  have hW' := hW
  obtain ⟨p, q, hA0, hV, rfl, hfz, hnd⟩ := hW
  have hA : DataW.TrodAll enc Try.prog W 0 (fun _ => true) true Try.f9.params.toList args.toList ds p := hA0
  rw [Try.params9] at hA hval
  obtain ⟨v0, vs0, d0, ds0, p0, q0, hargs, rfl, rfl, h0, r0⟩ := trodAll_cons hA
  obtain ⟨rfl, rfl, rfl⟩ := trodAll_nil r0
  obtain rfl : args = #[v0] := by cases args; simp_all
  obtain ⟨rfl, rfl⟩ := trodVars_none hV
  have k0 := h0
  have lt0 : ∀ x ∈ p0, x.block < W.heap.size := by obtain ⟨m, hm⟩ := k0; exact DataW.trod_lt m _ _ _ hm
  obtain ⟨a0, len0, cap0, rfl⟩ := okWide_slice Try.underlying50 (hval 0 50 v0 rfl rfl)
  obtain ⟨z0, w0⟩ : ∃ zs, IsRow .u8 W a0 len0 cap0 zs := by
    obtain ⟨fuel, hf⟩ := h0
    rcases open_ints Try.underlying50 Try.underlying5 (by kernel_rfl) hf with ⟨hcs, _⟩ | ⟨x, l, c, zs, hcs, _, hl, hm, hz, _, hcell, hwz⟩
    · simp [Value.cells] at hcs
      obtain ⟨rfl, rfl, rfl⟩ := hcs
      exact ⟨[], .inl ⟨rfl, rfl, rfl, rfl⟩⟩
    · simp [Value.cells] at hcs
      obtain ⟨rfl, rfl, rfl⟩ := hcs
      exact ⟨zs, .inr ⟨_, rfl, hl, hm, by simpa using hz, hcell, hwz⟩⟩
  clear hA0 hval0
  refine (walk a0 len0 cap0 z0 W w0).mono fun e W' ⟨he, bel⟩ => ?_
  subst he
  exact ⟨_, rfl, _, _, _, [], _, [], hW', trodAll_mk1 (shut_bool Try.underlying4 _), (trodAll_cons_mk (Below.trod laidOut (by kernel_rfl) (of_decide_eq_true (by kernel_rfl)) k0 bel lt0) trodAll_mk0), rfl, bel.frame _, fun h => by cases h⟩

theorem over : Rows.fnTinctureListsRow.holds Try.pinned (OpenSpec.ofChange Rows.fnTinctureListsSpec) :=
  OpenClaim.holds_of_wide 9 Try.f9 rfl rfl rfl rfl rfl rfl rfl ⟨rfl, rfl, rfl, rfl, rfl⟩ rfl rfl rfl rfl rfl (by kernel_rfl) Try.func9 (by kernel_rfl)
    (of_decide_eq_true (by kernel_rfl)) (by unfold Func.isWrapper; first | (rw [if_pos (by decide +kernel)]; kernel_rfl) | (rw [if_neg (by decide +kernel)]; exact ⟨rfl, rfl⟩))
    (fun os started H enc _ => lifted os started H enc)

/-- The statement. -/
theorem proved : Rows.FnTinctureListsSaid := over
#print axioms proved
end Go.Proofs.Ytmemabeackgioaa.fnTinctureLists
