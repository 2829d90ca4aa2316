/- The law FnFieldDifferences answers true at every input, and its arguments read afterwards as they did. Conditions: none. -/
import Derived.Test.YtmemabeackgioaaRows
import Derived.Test.YtmemabeackgioaaFrame
import Derived.Test.YtmemabeackgioaaVcode
import Derived.Test.YtmemabeackgioaaDraw3
import Derived.Test.YtmemabeackgioaaSame
import Derived.Test.YtmemabeackgioaaEq3
namespace Go.Proofs.Ytmemabeackgioaa.fnFieldDifferences
open Go.ChangeShapes Go.WideShapes Go.ChangeAt Go.RowKit
open Go.ChangeMaps (open_string shut_string)
set_option linter.unusedVariables false

set_option linter.unusedSimpArgs false
theorem fd_comm (d l a b d' l' a' b' : Int) : fdV d' l' a' b' d l a b = fdV d l a b d' l' a' b' := by
  unfold fdV fdL sameI
  have e1 : (d' != d) = (d != d') := by rw [Bool.eq_iff_iff]; simp; omega
  have e2 : (l' != l) = (l != l') := by rw [Bool.eq_iff_iff]; simp; omega
  have e3 : decide (ftL d' a' b' = ftL d a b) = decide (ftL d a b = ftL d' a' b') := by simp [eq_comm]
  rw [e1, e2, e3, Bool.and_comm]
theorem b2i_zero (b : Bool) : (b2i b = 0) = (b = false) := by cases b <;> simp [b2i]
theorem fd_zero {d l a b d' l' a' b' : Int} (h : fieldOk d l a b = true) (h' : fieldOk d' l' a' b' = true) : (fdV d l a b d' l' a' b' == 0) = gEq d l a b d' l' a' b' := by
  have e : fdV d l a b d' l' a' b' = fdL d l a b d' l' a' b' := by unfold fdV; rw [h, h']; rfl
  rw [e, Bool.eq_iff_iff, gEq_true]
  have r1 := b2i_range (d != d')
  have r2 := b2i_range (l != l')
  have r3 := b2i_range (!(sameI (ftL d a b) (ftL d' a' b')))
  have k : fdL d l a b d' l' a' b' = 0 ↔ d = d' ∧ l = l' ∧ ftL d a b = ftL d' a' b' := by
    have : fdL d l a b d' l' a' b' = b2i (d != d') + b2i (l != l') + b2i (!(sameI (ftL d a b) (ftL d' a' b'))) := rfl
    rw [this]
    have q1 : b2i (d != d') = 0 ↔ d = d' := by rw [b2i_zero]; simp
    have q2 : b2i (l != l') = 0 ↔ l = l' := by rw [b2i_zero]; simp
    have q3 : b2i (!(sameI (ftL d a b) (ftL d' a' b'))) = 0 ↔ ftL d a b = ftL d' a' b' := by rw [b2i_zero]; simp [sameI]
    constructor
    · intro hs
      exact ⟨q1.1 (by omega), q2.1 (by omega), q3.1 (by omega)⟩
    · rintro ⟨h1, h2, h3⟩
      rw [q1.2 h1, q2.2 h2, q3.2 h3]
      rfl
  have hb : d = 0 → b = 0 := fun e => by
    subst e
    simp [fieldOk] at h
    omega
  have hb' : d' = 0 → b' = 0 := fun e => by
    subst e
    simp [fieldOk] at h'
    omega
  simp only [beq_iff_eq]
  rw [k]
  constructor
  · rintro ⟨rfl, rfl, h3⟩
    refine ⟨rfl, rfl, ?_⟩
    unfold ftL at h3
    by_cases h0 : d = 0
    · rw [if_pos h0, if_pos h0] at h3
      have := hb h0
      have := hb' h0
      simp at h3
      omega
    · rw [if_neg h0, if_neg h0] at h3
      simp at h3
      omega
  · rintro ⟨rfl, rfl, rfl, rfl⟩
    exact ⟨rfl, rfl, rfl⟩
theorem impl_FD_c (d l a b d' l' a' b' : Int) (w : World) : Calls Try.prog 29 #[.agg #[.int .i64 d', .int .i64 l', .int .i64 a', .int .i64 b'], .agg #[.int .i64 d, .int .i64 l, .int .i64 a, .int .i64 b]] w fun e w' =>
    e = .returned (.tuple #[.int .i64 (fdV d l a b d' l' a' b'), .bool (fieldOk d l a b && fieldOk d' l' a' b')]) ∧ Below w.heap.size w w' := by
  have h := impl_FieldDifferences d' l' a' b' d l a b w
  rw [fd_comm, Bool.and_comm] at h
  exact h
set_option maxHeartbeats 4000000 in
theorem walk (a0 : Option Addr) (len0 cap0 : Nat) (z0 : List Int) (w : World) (w0 : IsRow .u8 w a0 len0 cap0 z0) :
    Calls Try.prog 11 #[.slice a0 len0 cap0] w fun e w' => e = .returned (.bool true) ∧ Below w.heap.size w w' := by
  by_cases hbig : 65536 < len0
  · go_enter Try.func11, Try.ntmps11
    go_wp2_with (go_at_call 32; refine (laws_vBig _ _ _ _).mono ?_; rintro e w' ⟨rfl, rfl⟩)
    go_ret
    exact ⟨rfl, Below.refl _ _⟩
  have HC := Lib.hid (code_arg w0 (by omega))
  clear w0
  go_enter Try.func11, Try.ntmps11
  go_wp2_with (go_at_call 32; refine (laws_vBig _ _ _ _).mono ?_; rintro e w' ⟨rfl, rfl⟩)
  refine (spec_DrawFieldDifferences a0 len0 cap0 _ HC.out).mono ?_
  rintro e w1 ⟨d, l, a, b, d', l', a', b', rfl, _, _, hb1⟩
  have HB1 := Lib.hid hb1
  clear hb1 hbig HC
  go_upto_region 4 with fail
  obtain ⟨BA, BB⟩ := blk_two w1 47 47 #[.int .i64 d, .int .i64 l, .int .i64 a, .int .i64 b] #[.int .i64 d', .int .i64 l', .int .i64 a', .int .i64 b']
  have hW := balloc (balloc HB1.out (.cells #[.int .i64 d, .int .i64 l, .int .i64 a, .int .i64 b] 47)) (.cells #[.int .i64 d', .int .i64 l', .int .i64 a', .int .i64 b'] 47)
  clear HB1
  generalize ((w1.alloc (.cells #[.int .i64 d, .int .i64 l, .int .i64 a, .int .i64 b] 47)).alloc (.cells #[.int .i64 d', .int .i64 l', .int .i64 a', .int .i64 b'] 47)) = W at *
  obtain ⟨c1, z1⟩ := BA.facts
  obtain ⟨c2, z2⟩ := BB.facts
  go_wp2_with fail
  refine (impl_FieldDifferences d l a b d' l' a' b' _).mono ?_
  rintro e w2 ⟨rfl, hb2⟩
  replace BA := BA.below hb2
  replace BB := BB.below hb2
  replace hW := bstep hW hb2
  clear c1 z1 c2 z2 hb2
  obtain ⟨c1, z1⟩ := BA.facts
  obtain ⟨c2, z2⟩ := BB.facts
  go_wp2_with fail
  refine (impl_FD_c d l a b d' l' a' b' _).mono ?_
  rintro e w3 ⟨rfl, hb3⟩
  replace BA := BA.below hb3
  replace BB := BB.below hb3
  replace hW := bstep hW hb3
  clear c1 z1 c2 z2 hb3
  obtain ⟨c1, z1⟩ := BA.facts
  obtain ⟨c2, z2⟩ := BB.facts
  go_wp2_with fail
  refine (spec_FieldDifferences d l a b d' l' a' b' _).mono ?_
  rintro e w4 ⟨rfl, hb4⟩
  replace BA := BA.below hb4
  replace BB := BB.below hb4
  replace hW := bstep hW hb4
  clear c1 z1 c2 z2 hb4
  obtain ⟨c1, z1⟩ := BA.facts
  obtain ⟨c2, z2⟩ := BB.facts
  have he0 := eqg_field
  have he1 := eql_field
  cases h1 : fieldOk d l a b
  · go_wp2
    go_ret
    exact ⟨by simp, hW⟩
  cases h2 : fieldOk d' l' a' b'
  · go_wp2
    go_ret
    exact ⟨by simp, hW⟩
  have e1 := fd_zero h1 h2
  go_wp2
  go_ret
  exact ⟨by simp, hW⟩

set_option maxRecDepth 100000 in
theorem lifted (os : Os) (started : os.Started) (H : Type) (enc : TypeId × Value → H) :
    ReturnsInHanded {} Try.checked os 11 .any (Rows.fnFieldDifferencesSpec.pre6 enc Try.prog Try.f11 Rows.fnFieldDifferencesRow.domain false) (Rows.fnFieldDifferencesSpec.post enc Try.prog Try.f11 false true false false) := by
  refine returnsInHanded_of_change (C := Try.checked) own started (by kernel_rfl) Try.func11
    (ChangeSpec.witness6 (enc := enc) (C := Try.checked) false ⟨#[], #[.slice none 0 0], []⟩ 8 (by kernel_rfl) (by kernel_rfl) (by kernel_rfl) (by kernel_rfl)) ?_
  intro W base args ds gs before hval0 hW hcnd _
  have hval : ∀ (j : Nat) t v, Try.f11.params[j]? = some t → args[j]? = some v → Value.okWide Try.prog W .any base t v := hval0
  have hW' := hW
  obtain ⟨p, q, hA0, hV, rfl, hfz, hnd⟩ := hW
  have hA : DataW.TrodAll enc Try.prog W 0 (fun _ => true) true Try.f11.params.toList args.toList ds p := hA0
  rw [Try.params11] at hA hval
  obtain ⟨v0, vs0, d0, ds0, p0, q0, hargs, rfl, rfl, h0, r0⟩ := trodAll_cons hA
  obtain ⟨rfl, rfl, rfl⟩ := trodAll_nil r0
  obtain rfl : args = #[v0] := by cases args; simp_all
  obtain ⟨rfl, rfl⟩ := trodVars_none hV
  have k0 := h0
  have lt0 : ∀ x ∈ p0, x.block < W.heap.size := by obtain ⟨m, hm⟩ := k0; exact DataW.trod_lt m _ _ _ hm
  obtain ⟨a0, len0, cap0, rfl⟩ := okWide_slice Try.underlying50 (hval 0 50 v0 rfl rfl)
  obtain ⟨z0, w0⟩ : ∃ zs, IsRow .u8 W a0 len0 cap0 zs := by
    obtain ⟨fuel, hf⟩ := h0
    rcases open_ints Try.underlying50 Try.underlying5 (by kernel_rfl) hf with ⟨hcs, _⟩ | ⟨x, l, c, zs, hcs, _, hl, hm, hz, _, hcell, hwz⟩
    · simp [Value.cells] at hcs
      obtain ⟨rfl, rfl, rfl⟩ := hcs
      exact ⟨[], .inl ⟨rfl, rfl, rfl, rfl⟩⟩
    · simp [Value.cells] at hcs
      obtain ⟨rfl, rfl, rfl⟩ := hcs
      exact ⟨zs, .inr ⟨_, rfl, hl, hm, by simpa using hz, hcell, hwz⟩⟩
  clear hA0 hval0
  refine (walk a0 len0 cap0 z0 W w0).mono fun e W' ⟨he, bel⟩ => ?_
  subst he
  exact ⟨_, rfl, _, _, _, [], _, [], hW', trodAll_mk1 (shut_bool Try.underlying4 _), (trodAll_cons_mk (Below.trod laidOut (by kernel_rfl) (of_decide_eq_true (by kernel_rfl)) k0 bel lt0) trodAll_mk0), rfl, bel.frame _, fun h => by cases h⟩

theorem over : Rows.fnFieldDifferencesRow.holds Try.pinned (OpenSpec.ofChange Rows.fnFieldDifferencesSpec) :=
  OpenClaim.holds_of_wide 11 Try.f11 rfl rfl rfl rfl rfl rfl rfl ⟨rfl, rfl, rfl, rfl, rfl⟩ rfl rfl rfl rfl rfl (by kernel_rfl) Try.func11 (by kernel_rfl)
    (of_decide_eq_true (by kernel_rfl)) (by unfold Func.isWrapper; first | (rw [if_pos (by decide +kernel)]; kernel_rfl) | (rw [if_neg (by decide +kernel)]; exact ⟨rfl, rfl⟩))
    (fun os started H enc _ => lifted os started H enc)

/-- The statement. -/
theorem proved : Rows.FnFieldDifferencesSaid := over
#print axioms proved
end Go.Proofs.Ytmemabeackgioaa.fnFieldDifferences
