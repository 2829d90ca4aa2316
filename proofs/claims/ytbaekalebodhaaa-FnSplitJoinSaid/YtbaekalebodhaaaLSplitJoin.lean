/- The law FnSplitJoin answers true at every input, and its arguments read afterwards as they did. Conditions: none. -/
import Derived.Test.YtbaekalebodhaaaRows
import Derived.Test.YtbaekalebodhaaaFrame
import Derived.Test.YtbaekalebodhaaaDrawS2
import Derived.Test.YtbaekalebodhaaaStr
namespace Go.Proofs.Ytbaekalebodhaaa.fnSplitJoin
open Go.ChangeShapes Go.WideShapes Go.ChangeAt Go.RowKit
open Go.ChangeMaps (open_string shut_string)
set_option linter.unusedVariables false

set_option linter.unusedSimpArgs false
theorem code_arg' {w : World} {a : Option Addr} {len cap : Nat} {zs : List Int} (h : IsRow .u8 w a len cap zs) (hl : len ≤ 65536) : Code w a len := by
  refine ⟨hl, fun i hi => ?_⟩
  rcases h with ⟨rfl, rfl, rfl, rfl⟩ | ⟨x, rfl, h1, h2, h3, hc, hw⟩
  · omega
  · have hk : i < zs.length := by omega
    have h4 := hc i hk
    have h5 := World.block_lt_of_cell? _ _ h4
    rw [addD_block] at h5
    have h6 := hw (zs.getD i 0) (by simp [List.getD_eq_getElem?_getD, hk])
    have h7 : 0 ≤ zs.getD i 0 ∧ zs.getD i 0 ≤ 255 := by
      generalize zs.getD i 0 = z at h6
      have e1 : IntKind.u8.min = 0 := rfl
      have e2 : IntKind.u8.max = 255 := rfl
      simp [Lit.wf, e1, e2] at h6
      omega
    exact ⟨x, _, rfl, h5, h4, h7.1, h7.2⟩
theorem laws_vBig' (A : Option Addr) (len cap : Nat) (w : World) : Calls Try.prog 15 #[.slice A len cap] w fun e w' => e = .returned (.bool (decide (65536 < len))) ∧ w = w' := by
  by_cases h : 65536 < len
  all_goals
    go_enter Try.func15, Try.ntmps15
    go_wp2
    go_ret
    exact ⟨by simp [h] <;> omega, rfl⟩
theorem impl_Join_b (v : Value) (xs : List ByteArray) (sep : ByteArray) (w : World) (B : Nat) (hv : Strs w B v xs) (hl : xs.length + sumS xs ≤ 1048576) (hp : sep.size ≤ 1048576) : Calls Try.prog 14 #[v, .string sep] w fun e w' => e = .returned (.tuple #[.string (joinV xs sep), .bool (okJ xs sep)]) ∧ Below w.heap.size w w' := impl_JoinStrings v xs sep w B hv hl hp
theorem spec_Join_b (v : Value) (xs : List ByteArray) (sep : ByteArray) (w : World) (B : Nat) (hv : Strs w B v xs) (hl : xs.length + sumS xs ≤ 1048576) (hp : sep.size ≤ 1048576) : Calls Try.prog 12 #[v, .string sep] w fun e w' => e = .returned (.tuple #[.string (joinV xs sep), .bool (okJ xs sep)]) ∧ Below w.heap.size w w' := spec_JoinStrings v xs sep w B hv hl hp
set_option maxHeartbeats 4000000 in
theorem walk (a0 : Option Addr) (len0 cap0 : Nat) (z0 : List Int) (w : World) (w0 : IsRow .u8 w a0 len0 cap0 z0) :
    Calls Try.prog 5 #[.slice a0 len0 cap0] w fun e w' => e = .returned (.bool true) ∧ Below w.heap.size w w' := by
  by_cases hbig : 65536 < len0
  · go_enter Try.func5, Try.ntmps5
    go_wp2_with (go_at_call 15; refine (laws_vBig' _ _ _ _).mono ?_; rintro e w' ⟨rfl, rfl⟩)
    go_ret
    exact ⟨rfl, Below.refl _ _⟩
  have HC := Lib.hid (code_arg' w0 (by omega))
  clear w0
  go_enter Try.func5, Try.ntmps5
  go_wp2_with (go_at_call 15; refine (laws_vBig' _ _ _ _).mono ?_; rintro e w' ⟨rfl, rfl⟩)
  refine (spec_DrawSplitString a0 len0 cap0 _ HC.out).mono ?_
  rintro e w1 ⟨s, sep, rfl, hs, hp, hb1⟩
  have HB1 := Lib.hid hb1
  have HC1 : Hid (Code w1 a0 len0) := ⟨HC.out.1, fun i hi => by obtain ⟨x, v, h1, h2, h3, h4⟩ := HC.out.2 i hi; exact ⟨x, v, h1, Nat.lt_of_lt_of_le h2 hb1.size, (hb1.cell (p := x.add i) (by rw [addD_block]; exact h2)).trans h3, h4⟩⟩
  clear hb1 hbig HC
  go_wp2_with fail
  refine (impl_SplitString s sep _ (by omega) (by omega)).mono ?_
  rintro e w2 ⟨v, rfl, hi, hb2⟩
  have HI := Lib.hid hi
  have HB2 := Lib.hid (bstep HB1.out hb2)
  have HC2 : Hid (Code w2 a0 len0) := ⟨HC1.out.1, fun i hi => by obtain ⟨x, v, h1, h2, h3, h4⟩ := HC1.out.2 i hi; exact ⟨x, v, h1, Nat.lt_of_lt_of_le h2 hb2.size, (hb2.cell (p := x.add i) (by rw [addD_block]; exact h2)).trans h3, h4⟩⟩
  clear hi hb2 HB1 HC1
  go_wp2_with fail
  refine (spec_DrawJoinStrings a0 len0 cap0 _ HC2.out).mono ?_
  rintro e w3 ⟨vk, xs, mark, rfl, hik, hxs, hm, hb3⟩
  have HIK := Lib.hid hik
  have HXS := Lib.hid hxs
  have HI3 := Lib.hid (HI.out.below hb3)
  have HB3 := Lib.hid (bstep HB2.out hb3)
  have HC3 : Hid (Code w3 a0 len0) := ⟨HC2.out.1, fun i hi => by obtain ⟨x, v, h1, h2, h3, h4⟩ := HC2.out.2 i hi; exact ⟨x, v, h1, Nat.lt_of_lt_of_le h2 hb3.size, (hb3.cell (p := x.add i) (by rw [addD_block]; exact h2)).trans h3, h4⟩⟩
  clear hik hxs hb3 HI HB2 HC2
  go_wp2_with fail
  refine (impl_Join_b vk xs mark _ _ HIK.out HXS.out (by omega)).mono ?_
  rintro e w4 ⟨rfl, hb4⟩
  have HIK4 := Lib.hid (HIK.out.below hb4)
  have HI4 := Lib.hid (HI3.out.below hb4)
  have HB4 := Lib.hid (bstep HB3.out hb4)
  have HC4 : Hid (Code w4 a0 len0) := ⟨HC3.out.1, fun i hi => by obtain ⟨x, v, h1, h2, h3, h4⟩ := HC3.out.2 i hi; exact ⟨x, v, h1, Nat.lt_of_lt_of_le h2 hb4.size, (hb4.cell (p := x.add i) (by rw [addD_block]; exact h2)).trans h3, h4⟩⟩
  clear hb4 HIK HI3 HB3 HC3
  generalize hjv : joinV xs mark = jv at *
  generalize hkj : okJ xs mark = kj at *
  go_wp2_with fail
  refine (spec_Join_b vk xs mark _ _ HIK4.out HXS.out (by omega)).mono ?_
  rintro e w5 ⟨rfl, hb5⟩
  rw [hjv, hkj]
  clear hjv hkj
  have HI5 := Lib.hid (HI4.out.below hb5)
  have HB5 := Lib.hid (bstep HB4.out hb5)
  have HC5 : Hid (Code w5 a0 len0) := ⟨HC4.out.1, fun i hi => by obtain ⟨x, v, h1, h2, h3, h4⟩ := HC4.out.2 i hi; exact ⟨x, v, h1, Nat.lt_of_lt_of_le h2 hb5.size, (hb5.cell (p := x.add i) (by rw [addD_block]; exact h2)).trans h3, h4⟩⟩
  clear hb5 HI4 HB4 HC4 HIK4 HXS
  go_wp2_with fail
  refine (spec_DrawLessString a0 len0 cap0 _ HC5.out).mono ?_
  rintro e w6 ⟨p, q, rfl, hp6, hq6, hb6⟩
  have HI6 := Lib.hid (HI5.out.below hb6)
  have HB6 := Lib.hid (bstep HB5.out hb6)
  have HAS := Lib.hid (less_asym p.toList q.toList)
  clear hb6 HI5 HB5 HC5
  by_cases h1 : sep.size = 1
  · have hok : okSp s sep = true := by unfold okSp; simp [h1]; omega
    have hsv : splitV s sep = splitS s (sep.data.toList.getD 0 0) := by unfold splitV; rw [hok]; rfl
    have HJ := Lib.hid (okJ_split (s := s) h1 (by omega))
    have HJV := Lib.hid (show joinV (splitV s sep) sep = s by rw [hsv]; unfold joinV; rw [HJ.out]; exact split_join s sep _ (sep_one h1))
    have HOK := Lib.hid (show okJ (splitV s sep) sep = true by rw [hsv]; exact HJ.out)
    have HSUM : Hid ((splitV s sep).length + sumS (splitV s sep) ≤ 1048576) := by
      have z := jn_size (splitS s (sep.data.toList.getD 0 0)) sep h1 _ (Nat.le_refl _)
      rw [List.take_length, split_join s sep _ (sep_one h1)] at z
      have y := splitS_len s (sep.data.toList.getD 0 0)
      rw [hsv]
      exact Lib.hid (by omega)
    clear hsv HJ
    have e1 : ((sep.size : Int) != 1) = false := by simp [h1]
    go_wp2_with (first | (go_at_call 20; refine (spec_LessString _ _ _).mono ?_; rintro e w' ⟨rfl, rfl⟩) | (go_at_call 19; refine (impl_LessString _ _ _).mono ?_; rintro e w' ⟨rfl, rfl⟩))
    all_goals first
      | (exfalso
         have z := HAS.out
         simp_all
         done)
      | skip
    all_goals refine (impl_Join_b v (splitV s sep) sep _ _ HI6.out HSUM.out (by omega)).mono ?_
    all_goals rintro e w7 ⟨rfl, hb7⟩
    all_goals rw [HJV.out, HOK.out]
    all_goals have HB7 := Lib.hid (bstep HB6.out hb7)
    all_goals clear hb7 HI6 HSUM HJV HOK HB6
    all_goals go_wp2
    all_goals go_ret
    all_goals exact ⟨rfl, HB7.out⟩
  · have hok : okSp s sep = false := by unfold okSp; simp [h1]
    have hsv : splitV s sep = [] := by unfold splitV; rw [hok]; rfl
    have e1 : ((sep.size : Int) != 1) = true := by simp; omega
    rw [hsv] at HI6
    obtain ⟨A6, c6, hv6, _⟩ := HI6.out.shape
    subst hv6
    clear HI6 hsv
    go_wp2_with (first | (go_at_call 20; refine (spec_LessString _ _ _).mono ?_; rintro e w' ⟨rfl, rfl⟩) | (go_at_call 19; refine (impl_LessString _ _ _).mono ?_; rintro e w' ⟨rfl, rfl⟩))
    all_goals first
      | (exfalso
         have z := HAS.out
         simp_all
         done)
      | skip
    all_goals go_ret
    all_goals exact ⟨rfl, HB6.out⟩

set_option maxRecDepth 100000 in
theorem lifted (os : Os) (started : os.Started) (H : Type) (enc : TypeId × Value → H) :
    ReturnsInHanded {} Try.checked os 5 .any (Rows.fnSplitJoinSpec.pre6 enc Try.prog Try.f5 Rows.fnSplitJoinRow.domain false) (Rows.fnSplitJoinSpec.post enc Try.prog Try.f5 false true false false) := by
  refine returnsInHanded_of_change (C := Try.checked) own started (by kernel_rfl) Try.func5
    (ChangeSpec.witness6 (enc := enc) (C := Try.checked) false ⟨#[], #[.slice none 0 0], []⟩ 8 (by kernel_rfl) (by kernel_rfl) (by kernel_rfl) (by kernel_rfl)) ?_
  intro W base args ds gs before hval0 hW hcnd _
  have hval : ∀ (j : Nat) t v, Try.f5.params[j]? = some t → args[j]? = some v → Value.okWide Try.prog W .any base t v := hval0
  have hW' := hW
  obtain ⟨p, q, hA0, hV, rfl, hfz, hnd⟩ := hW
  have hA : DataW.TrodAll enc Try.prog W 0 (fun _ => true) true Try.f5.params.toList args.toList ds p := hA0
  rw [Try.params5] at hA hval
  obtain ⟨v0, vs0, d0, ds0, p0, q0, hargs, rfl, rfl, h0, r0⟩ := trodAll_cons hA
  obtain ⟨rfl, rfl, rfl⟩ := trodAll_nil r0
  obtain rfl : args = #[v0] := by cases args; simp_all
  obtain ⟨rfl, rfl⟩ := trodVars_none hV
  have k0 := h0
  have lt0 : ∀ x ∈ p0, x.block < W.heap.size := by obtain ⟨m, hm⟩ := k0; exact DataW.trod_lt m _ _ _ hm
  obtain ⟨a0, len0, cap0, rfl⟩ := okWide_slice Try.underlying32 (hval 0 32 v0 rfl rfl)
  obtain ⟨z0, w0⟩ : ∃ zs, IsRow .u8 W a0 len0 cap0 zs := by
    obtain ⟨fuel, hf⟩ := h0
    rcases open_ints Try.underlying32 Try.underlying5 (by kernel_rfl) hf with ⟨hcs, _⟩ | ⟨x, l, c, zs, hcs, _, hl, hm, hz, _, hcell, hwz⟩
    · simp [Value.cells] at hcs
      obtain ⟨rfl, rfl, rfl⟩ := hcs
      exact ⟨[], .inl ⟨rfl, rfl, rfl, rfl⟩⟩
    · simp [Value.cells] at hcs
      obtain ⟨rfl, rfl, rfl⟩ := hcs
      exact ⟨zs, .inr ⟨_, rfl, hl, hm, by simpa using hz, hcell, hwz⟩⟩
  clear hA0 hval0
  refine (walk a0 len0 cap0 z0 W w0).mono fun e W' ⟨he, bel⟩ => ?_
  subst he
  exact ⟨_, rfl, _, _, _, [], _, [], hW', trodAll_mk1 (shut_bool Try.underlying4 _), (trodAll_cons_mk (Below.trod laidOut (by kernel_rfl) (of_decide_eq_true (by kernel_rfl)) k0 bel lt0) trodAll_mk0), rfl, bel.frame _, fun h => by cases h⟩

theorem over : Rows.fnSplitJoinRow.holds Try.pinned (OpenSpec.ofChange Rows.fnSplitJoinSpec) :=
  OpenClaim.holds_of_wide 5 Try.f5 rfl rfl rfl rfl rfl rfl rfl ⟨rfl, rfl, rfl, rfl, rfl⟩ rfl rfl rfl rfl rfl (by kernel_rfl) Try.func5 (by kernel_rfl)
    (of_decide_eq_true (by kernel_rfl)) (by unfold Func.isWrapper; first | (rw [if_pos (by decide +kernel)]; kernel_rfl) | (rw [if_neg (by decide +kernel)]; exact ⟨rfl, rfl⟩))
    (fun os started H enc _ => lifted os started H enc)

/-- The statement. -/
theorem proved : Rows.FnSplitJoinSaid := over
#print axioms proved
end Go.Proofs.Ytbaekalebodhaaa.fnSplitJoin
