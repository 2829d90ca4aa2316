/- Sketches resolved by the program: its readings. Conditions: as each theorem says. -/
import Derived.Test.YtonkblhajbphmaaRows
import Derived.Test.YtonkblhajbphmaaResE
namespace Go.Proofs.Ytonkblhajbphmaa
set_option linter.unusedSimpArgs false
set_option linter.unusedVariables false
open Go.ChangeShapes Go.WideShapes Go.ChangeAt Go.RowKit

theorem slot_rng {s : SV} (h : slotOk s = true) : 1 ≤ s.m ∧ s.m ≤ 5 := by
  unfold slotOk at h
  by_cases h1 : s.m = 1
  · omega
  rw [if_neg h1] at h
  by_cases h3 : s.m = 3
  · omega
  rw [if_neg h3] at h
  simp only [Bool.and_eq_true] at h
  have := inB_true.1 h.1
  omega
section
variable {a : AV} {h vM : Value} {n go gl k : Nat} {w W : World} {M O L : List Int}
theorem RS.stepIn (H : RS a h n go gl w vM M (withZ n O) L W) (hO : O.length = k) (hk : k < n) (t : Int) : RS a h n go gl w vM M (withZ n (O ++ [t])) L (W.setCell ⟨go, k, none⟩ (.int .i64 t)) := by
  have := H.putO (k := k) (y := t)
  rwa [← hO, withZ_set (by omega), hO] at this
theorem withZ_at (hO : O.length = k) (hk : k < n) (t : Int) : (withZ n (O ++ [t])).getD k 0 = t := by
  rw [← withZ_set (by omega), hO]
  have := withZ_len (n := n) (O := O) (by omega)
  simp [List.getD_eq_getElem?_getD, this, hk]
end
set_option maxRecDepth 100000 in
set_option maxHeartbeats 8000000 in
theorem impl_readings (a : AV) (v : Value) (ss : List SV) (w : World) (B : Nat) (hv : Slots w B v ss) (hok : skOk a ss = true) : Calls Try.prog 29 #[.agg #[Value.int .i64 a.f.d, Value.int .i64 a.f.l, Value.int .i64 a.f.a, Value.int .i64 a.f.b, Value.int .i64 a.o, Value.int .i64 a.l, Value.int .i64 a.t, Value.int .i64 a.on.c, Value.int .i64 a.on.k, Value.int .i64 a.on.a, Value.int .i64 a.on.t, Value.int .i64 a.ar.c, Value.int .i64 a.ar.k, Value.int .i64 a.ar.a, Value.int .i64 a.ar.t, v]] w (RetRd a ss w) := by
  obtain ⟨ha, hlen, hslot⟩ := skOk_parts hok
  have hn3 : ss.length ≤ 3 := by rw [hlen]; exact places_len a
  obtain ⟨A, c, rfl, hx⟩ := hv.shape
  have HX := Lib.hid hx
  have HSL := Lib.hid hslot
  have HA := Lib.hid ha
  have HF0 := Lib.hid (ft_pos ha)
  clear hx hslot ha hlen hok hv
  go_enter Try.func29, Try.ntmps29
  go_upto_region 1 with fail
  have B1 := blk_one w 40 #[Value.int .i64 a.f.d, Value.int .i64 a.f.l, Value.int .i64 a.f.a, Value.int .i64 a.f.b, Value.int .i64 a.o, Value.int .i64 a.l, Value.int .i64 a.t, Value.int .i64 a.on.c, Value.int .i64 a.on.k, Value.int .i64 a.on.a, Value.int .i64 a.on.t, Value.int .i64 a.ar.c, Value.int .i64 a.ar.k, Value.int .i64 a.ar.a, Value.int .i64 a.ar.t, .slice A ss.length c]
  have hW : Below w.heap.size w (w.alloc (.cells #[Value.int .i64 a.f.d, Value.int .i64 a.f.l, Value.int .i64 a.f.a, Value.int .i64 a.f.b, Value.int .i64 a.o, Value.int .i64 a.l, Value.int .i64 a.t, Value.int .i64 a.on.c, Value.int .i64 a.on.k, Value.int .i64 a.on.a, Value.int .i64 a.on.t, Value.int .i64 a.ar.c, Value.int .i64 a.ar.k, Value.int .i64 a.ar.a, Value.int .i64 a.ar.t, .slice A ss.length c] 40)) := (by repeat (first | (with_reducible exact Below.refl _ _) | (with_reducible assumption) | (with_reducible refine balloc ?_ _) | (with_reducible refine bdrew ?_) | (with_reducible refine bdrewN ?_ _) | (with_reducible refine bset ?_ (by first | omega | (simp; done) | (simp; omega)) _) | (with_reducible refine bstep ?_ (by assumption))))
  show Code.wp _ _ _ _ (w.alloc (.cells #[Value.int .i64 a.f.d, Value.int .i64 a.f.l, Value.int .i64 a.f.a, Value.int .i64 a.f.b, Value.int .i64 a.o, Value.int .i64 a.l, Value.int .i64 a.t, Value.int .i64 a.on.c, Value.int .i64 a.on.k, Value.int .i64 a.on.a, Value.int .i64 a.on.t, Value.int .i64 a.ar.c, Value.int .i64 a.ar.k, Value.int .i64 a.ar.a, Value.int .i64 a.ar.t, .slice A ss.length c] 40))
  generalize w.alloc (.cells #[Value.int .i64 a.f.d, Value.int .i64 a.f.l, Value.int .i64 a.f.a, Value.int .i64 a.f.b, Value.int .i64 a.o, Value.int .i64 a.l, Value.int .i64 a.t, Value.int .i64 a.on.c, Value.int .i64 a.on.k, Value.int .i64 a.on.a, Value.int .i64 a.on.t, Value.int .i64 a.ar.c, Value.int .i64 a.ar.k, Value.int .i64 a.ar.a, Value.int .i64 a.ar.t, .slice A ss.length c] 40) = W at *
  have CF : Hid (∀ w', Below W.heap.size W w' → RangeX w' ⟨w.heap.size, 0, none⟩ [Value.int .i64 a.f.d, Value.int .i64 a.f.l, Value.int .i64 a.f.a, Value.int .i64 a.f.b]) := fun w' h => Blk.head (R := [.int .i64 a.o, .int .i64 a.l, .int .i64 a.t, .int .i64 a.on.c, .int .i64 a.on.k, .int .i64 a.on.a, .int .i64 a.on.t, .int .i64 a.ar.c, .int .i64 a.ar.k, .int .i64 a.ar.a, .int .i64 a.ar.t, .slice A ss.length c]) (B1.below h)
  have CH : Hid (∀ w', Below W.heap.size W w' → w'.cell? ⟨w.heap.size, 15, none⟩ = some (.slice A ss.length c)) := fun w' h => (B1.below h).cell 15
  have HW := Lib.hid hW
  refine wp_region_mildL (C := fun w' => Below W.heap.size W w') (γ := Value × Nat × Nat)
    (U := fun γ i => if i = 3 then γ.1 else if i = 7 then .slice (some ⟨γ.2.1, 0, none⟩) ss.length ss.length else if i = 11 then .slice (some ⟨γ.2.2, 0, none⟩) ss.length ss.length else if i = 12 then γ.1 else if i = 13 then .slice (some ⟨γ.2.1, 0, none⟩) ss.length ss.length else .slice (some ⟨γ.2.2, 0, none⟩) ss.length ss.length)
    (E := fun L γ w' => ((L 12 = true → L 3 = true) ∧ (L 13 = true → L 7 = true) ∧ (L 14 = true → L 11 = true)) ∧ (L 3 = true → Ints w' w.heap.size γ.1 a.ft) ∧ (L 7 = true → Ints w' w.heap.size (.slice (some ⟨γ.2.1, 0, none⟩) ss.length ss.length) (List.replicate ss.length 0)) ∧ (L 11 = true → Ints w' w.heap.size (.slice (some ⟨γ.2.2, 0, none⟩) ss.length ss.length) (List.replicate ss.length 0)) ∧
      (L 3 = true → L 7 = true → γ.1.ownBlock ≠ some γ.2.1) ∧ (L 3 = true → L 11 = true → γ.1.ownBlock ≠ some γ.2.2) ∧ (L 7 = true → L 11 = true → γ.2.1 ≠ γ.2.2))
    [true, true, true, false, true, true, true, false, true, true, true, false, false, false, false] (undef, 0, 0) (by kernel_rfl) rfl (by kernel_rfl) ⟨rfl, rfl, rfl, Nat.le_refl _, fun _ _ => rfl⟩
    ⟨⟨(fun h => by cases h), (fun h => by cases h), (fun h => by cases h)⟩, (fun h => by cases h), (fun h => by cases h), (fun h => by cases h), (fun h => by cases h), (fun h => by cases h), (fun h => by cases h)⟩
    (fun L g p q h1 hE h2 => ⟨h1.trans (h2.mono h1.size), hE.1, fun h => (hE.2.1 h).below h2, fun h => (hE.2.2.1 h).below h2, fun h => (hE.2.2.2.1 h).below h2, hE.2.2.2.2⟩)
    (fun L L' g p hl hE => by rw [hl 3 (by simp [lidxs]), hl 7 (by simp [lidxs]), hl 11 (by simp [lidxs]), hl 12 (by simp [lidxs]), hl 13 (by simp [lidxs]), hl 14 (by simp [lidxs])]; exact hE) ?_
  refine wpMildL_take rfl ?_
  apply Exists.intro
  refine ⟨fun w' hw' => ?_, ?_⟩
  · go_simp
    with_reducible rfl
  simp only [Act.put, List.setIfInBounds_toArray, List.set_cons_zero, List.set_cons_succ]
  refine wpMildL_take rfl ?_
  apply Exists.intro
  refine ⟨fun w' hw' => ?_, ?_⟩
  · go_simp
    with_reducible rfl
  simp only [Act.put, List.setIfInBounds_toArray, List.set_cons_zero, List.set_cons_succ]
  refine wpMildL_take rfl ⟨_, mild_loadX _ rfl _ rfl _ (fun w' h => CF.out w' h) row_field, ?_⟩
  simp only [Act.put, List.setIfInBounds_toArray, List.set_cons_zero, List.set_cons_succ]
  refine wpMildL_late ?_
  refine wpMildL_take rfl ?_
  apply Exists.intro
  refine ⟨fun w' hw' => ?_, ?_⟩
  · go_simp
    with_reducible rfl
  simp only [Act.put, List.setIfInBounds_toArray, List.set_cons_zero, List.set_cons_succ]
  refine wpMildL_take rfl ?_
  apply Exists.intro
  refine ⟨fun w' hw' => ?_, ?_⟩
  · (have hc := CH.out w' hw'; go_simp; with_reducible rfl)
  simp only [Act.put, List.setIfInBounds_toArray, List.set_cons_zero, List.set_cons_succ]
  refine wpMildL_take rfl ?_
  apply Exists.intro
  refine ⟨fun w' hw' => ?_, ?_⟩
  · go_simp
    with_reducible rfl
  simp only [Act.put, List.setIfInBounds_toArray, List.set_cons_zero, List.set_cons_succ]
  refine wpMildL_late ?_
  refine wpMildL_take rfl ?_
  apply Exists.intro
  refine ⟨fun w' hw' => ?_, ?_⟩
  · go_simp
    with_reducible rfl
  simp only [Act.put, List.setIfInBounds_toArray, List.set_cons_zero, List.set_cons_succ]
  refine wpMildL_take rfl ?_
  apply Exists.intro
  refine ⟨fun w' hw' => ?_, ?_⟩
  · (have hc := CH.out w' hw'; go_simp; with_reducible rfl)
  simp only [Act.put, List.setIfInBounds_toArray, List.set_cons_zero, List.set_cons_succ]
  refine wpMildL_take rfl ?_
  apply Exists.intro
  refine ⟨fun w' hw' => ?_, ?_⟩
  · go_simp
    with_reducible rfl
  simp only [Act.put, List.setIfInBounds_toArray, List.set_cons_zero, List.set_cons_succ]
  refine wpMildL_late ?_
  refine wpMildL_late ?_
  refine wpMildL_late ?_
  refine wpMildL_late ?_
  refine wpMildL_nil ?_
  refine ⟨lateAll_skip (lateAll_skip (lateAll_skip (lateAll_cons (fun L γ W' hC hE hL hdep => ?_) (lateAll_skip (lateAll_skip (lateAll_skip (lateAll_cons (fun L γ W' hC hE hL hdep => ?_) (lateAll_skip (lateAll_skip (lateAll_skip (lateAll_cons (fun L γ W' hC hE hL hdep => ?_) (lateAll_cons (fun L γ W' hC hE hL hdep => ?_) (lateAll_cons (fun L γ W' hC hE hL hdep => ?_) (lateAll_cons (fun L γ W' hC hE hL hdep => ?_) lateAll_nil)))))))))))))), fun L γ W' hall hC hE => ?_⟩
  all_goals simp only [lateputL, Act.put, List.setIfInBounds_toArray, List.set_cons_zero, List.set_cons_succ]
  · have hL12 : L 12 = false := by
      rw [← Bool.not_eq_true]
      intro h
      rw [hE.1.1 h] at hL
      cases hL
    generalize hr : (execOp _ _).run Try.prog W' = r
    refine late_call (w' := W') (f := 59) (args := #[.agg #[.int .i64 a.f.d, .int .i64 a.f.l, .int .i64 a.f.a, .int .i64 a.f.b]]) (by rw [← hr]; go_simp) ((impl_Field_tinctures _ _ _ _ _).mono ?_)
    rintro e w2 ⟨v2, rfl, hi2, hb2⟩
    have hsz : w.heap.size ≤ W'.heap.size := Nat.le_trans HW.out.size hC.size
    refine ⟨_, rfl, (v2, γ.2.1, γ.2.2), rfl, fun j hj hLj => ?_, hC.trans (hb2.mono hC.size), ⟨(fun h => by simp), (fun h => by simpa using hE.1.2.1 (by simpa using h)), (fun h => by simpa using hE.1.2.2 (by simpa using h))⟩, (fun _ => hi2.base hsz), (fun h => (hE.2.2.1 (by simpa using h)).below hb2), (fun h => (hE.2.2.2.1 (by simpa using h)).below hb2), (fun _ h => ?_), (fun _ h => ?_), (fun h h' => hE.2.2.2.2.2.2 (by simpa using h) (by simpa using h'))⟩
    · simp only [lidxs, List.mem_cons, List.not_mem_nil, or_false] at hj
      rcases hj with rfl | rfl | rfl | rfl | rfl | rfl
      · rw [hL] at hLj; cases hLj
      · rfl
      · rfl
      · rw [hL12] at hLj; cases hLj
      · rfl
      · rfl
    · have h1 : γ.2.1 < W'.heap.size := (World.ownsRow.lt (hE.2.2.1 (by simpa using h)) _ rfl).2
      show v2.ownBlock ≠ some γ.2.1
      exact fun e => by
        have h2 : W'.heap.size ≤ γ.2.1 := (World.ownsRow.lt hi2 _ e).1
        omega
    · have h1 : γ.2.2 < W'.heap.size := (World.ownsRow.lt (hE.2.2.2.1 (by simpa using h)) _ rfl).2
      show v2.ownBlock ≠ some γ.2.2
      exact fun e => by
        have h2 : W'.heap.size ≤ γ.2.2 := (World.ownsRow.lt hi2 _ e).1
        omega
  · have hL13 : L 13 = false := by
      rw [← Bool.not_eq_true]
      intro h
      rw [hE.1.2.1 h] at hL
      cases hL
    have hsz : w.heap.size ≤ W'.heap.size := Nat.le_trans HW.out.size hC.size
    refine late_make _ _ ss.length rfl rfl rfl (by omega) fun w2 hi2 hg2 => ?_
    have hb2 : Below W'.heap.size W' w2 := (Below.refl _ _).grown hg2 (Nat.le_refl _) (fun k hk => by cases hk)
    refine ⟨(γ.1, W'.heap.size, γ.2.2), rfl, fun j hj hLj => ?_, hC.trans (hb2.mono hC.size), ⟨(fun h => by simpa using hE.1.1 (by simpa using h)), (fun h => by simp), (fun h => by simpa using hE.1.2.2 (by simpa using h))⟩, (fun h => (hE.2.1 (by simpa using h)).below hb2), (fun _ => hi2.base hsz), (fun h => (hE.2.2.2.1 (by simpa using h)).below hb2), (fun h _ => ?_), (fun h h' => hE.2.2.2.2.2.1 (by simpa using h) (by simpa using h')), (fun _ h => ?_)⟩
    · simp only [lidxs, List.mem_cons, List.not_mem_nil, or_false] at hj
      rcases hj with rfl | rfl | rfl | rfl | rfl | rfl
      · rfl
      · rw [hL] at hLj; cases hLj
      · rfl
      · rfl
      · rw [hL13] at hLj; cases hLj
      · rfl
    · show γ.1.ownBlock ≠ some W'.heap.size
      exact fun e => by
        have h2 : W'.heap.size < W'.heap.size := (World.ownsRow.lt (hE.2.1 (by simpa using h)) _ e).2
        omega
    · have h1 : γ.2.2 < W'.heap.size := (World.ownsRow.lt (hE.2.2.2.1 (by simpa using h)) _ rfl).2
      show W'.heap.size ≠ γ.2.2
      omega
  · have hL14 : L 14 = false := by
      rw [← Bool.not_eq_true]
      intro h
      rw [hE.1.2.2 h] at hL
      cases hL
    have hsz : w.heap.size ≤ W'.heap.size := Nat.le_trans HW.out.size hC.size
    refine late_make _ _ ss.length rfl rfl rfl (by omega) fun w2 hi2 hg2 => ?_
    have hb2 : Below W'.heap.size W' w2 := (Below.refl _ _).grown hg2 (Nat.le_refl _) (fun k hk => by cases hk)
    refine ⟨(γ.1, γ.2.1, W'.heap.size), rfl, fun j hj hLj => ?_, hC.trans (hb2.mono hC.size), ⟨(fun h => by simpa using hE.1.1 (by simpa using h)), (fun h => by simpa using hE.1.2.1 (by simpa using h)), (fun h => by simp)⟩, (fun h => (hE.2.1 (by simpa using h)).below hb2), (fun h => (hE.2.2.1 (by simpa using h)).below hb2), (fun _ => hi2.base hsz), (fun h h' => hE.2.2.2.2.1 (by simpa using h) (by simpa using h')), (fun h _ => ?_), (fun h _ => ?_)⟩
    · simp only [lidxs, List.mem_cons, List.not_mem_nil, or_false] at hj
      rcases hj with rfl | rfl | rfl | rfl | rfl | rfl
      · rfl
      · rfl
      · rw [hL] at hLj; cases hLj
      · rfl
      · rfl
      · rw [hL14] at hLj; cases hLj
    · show γ.1.ownBlock ≠ some W'.heap.size
      exact fun e => by
        have h2 : W'.heap.size < W'.heap.size := (World.ownsRow.lt (hE.2.1 (by simpa using h)) _ e).2
        omega
    · have h1 : γ.2.1 < W'.heap.size := (World.ownsRow.lt (hE.2.2.1 (by simpa using h)) _ rfl).2
      show γ.2.1 ≠ W'.heap.size
      omega
  · have L3 : L 3 = true := hdep 3 (by kernel_rfl)
    generalize hr : (execOp _ _).run Try.prog W' = r
    refine late_value (u := γ.1) (w' := W') (by rw [← hr]; go_simp) ⟨γ, rfl, fun _ _ _ => rfl, hC, ⟨(fun _ => by simp [L3]), (fun h => by simpa using hE.1.2.1 (by simpa using h)), (fun h => by simpa using hE.1.2.2 (by simpa using h))⟩, (fun h => hE.2.1 (by simpa using h)), (fun h => hE.2.2.1 (by simpa using h)), (fun h => hE.2.2.2.1 (by simpa using h)), (fun h h' => hE.2.2.2.2.1 (by simpa using h) (by simpa using h')), (fun h h' => hE.2.2.2.2.2.1 (by simpa using h) (by simpa using h')), (fun h h' => hE.2.2.2.2.2.2 (by simpa using h) (by simpa using h'))⟩
  · have L7 : L 7 = true := hdep 7 (by kernel_rfl)
    generalize hr : (execOp _ _).run Try.prog W' = r
    refine late_value (u := .slice (some ⟨γ.2.1, 0, none⟩) ss.length ss.length) (w' := W') (by rw [← hr]; go_simp) ⟨γ, rfl, fun _ _ _ => rfl, hC, ⟨(fun h => by simpa using hE.1.1 (by simpa using h)), (fun _ => by simp [L7]), (fun h => by simpa using hE.1.2.2 (by simpa using h))⟩, (fun h => hE.2.1 (by simpa using h)), (fun h => hE.2.2.1 (by simpa using h)), (fun h => hE.2.2.2.1 (by simpa using h)), (fun h h' => hE.2.2.2.2.1 (by simpa using h) (by simpa using h')), (fun h h' => hE.2.2.2.2.2.1 (by simpa using h) (by simpa using h')), (fun h h' => hE.2.2.2.2.2.2 (by simpa using h) (by simpa using h'))⟩
  · have L11 : L 11 = true := hdep 11 (by kernel_rfl)
    generalize hr : (execOp _ _).run Try.prog W' = r
    refine late_value (u := .slice (some ⟨γ.2.2, 0, none⟩) ss.length ss.length) (w' := W') (by rw [← hr]; go_simp) ⟨γ, rfl, fun _ _ _ => rfl, hC, ⟨(fun h => by simpa using hE.1.1 (by simpa using h)), (fun h => by simpa using hE.1.2.1 (by simpa using h)), (fun _ => by simp [L11])⟩, (fun h => hE.2.1 (by simpa using h)), (fun h => hE.2.2.1 (by simpa using h)), (fun h => hE.2.2.2.1 (by simpa using h)), (fun h h' => hE.2.2.2.2.1 (by simpa using h) (by simpa using h')), (fun h h' => hE.2.2.2.2.2.1 (by simpa using h) (by simpa using h')), (fun h h' => hE.2.2.2.2.2.2 (by simpa using h) (by simpa using h'))⟩
  · obtain ⟨vM, go, gl⟩ := γ
    have l3 : L 3 = true := hall 3 (by simp)
    have l7 : L 7 = true := hall 7 (by simp)
    have l11 : L 11 = true := hall 11 (by simp)
    have H0 : Hid (RS a (.slice A ss.length c) ss.length go gl w vM a.ft (withZ ss.length []) (List.replicate ss.length 0) W') := by
      obtain ⟨gm, em⟩ := (hE.2.1 l3).own HF0.out.2.1
      exact ⟨hE.2.1 l3, hE.2.2.1 l7, hE.2.2.2.1 l11, ⟨gm, em, fun e => hE.2.2.2.2.1 l3 l7 (by rw [em, e]), fun e => hE.2.2.2.2.2.1 l3 l11 (by rw [em, e])⟩, hE.2.2.2.2.2.2 l7 l11, B1.below hC, bstep HW.out hC⟩
    clear hE hall l3 l7 l11 CF CH HW hW B1 hC
    have HLR : Hid ((List.replicate ss.length (0 : Int)).length = ss.length) := by show _ = _; simp
    generalize List.replicate ss.length (0 : Int) = L0 at *
    have HI0 := Lib.hid (inv_zero (ss := ss) HA.out)
    obtain ⟨c1, y1⟩ := H0.out.facts
    generalize W' = w1 at *
    go_wp2
    go_loopw [5, 27] (fun m i wr => ∃ (k : Nat) (M O Ls : List Int), k ≤ ss.length ∧ i = .int .i64 k ∧ Hid (stK a ss k = some (M, O)) ∧ Hid (StInv ss k M O) ∧ Hid (Ls.length = ss.length) ∧ Hid (RS a (.slice A ss.length c) ss.length go gl w m M (withZ ss.length O) Ls wr)) (fun _ i _ => ss.length - (intOf i).toNat)
    case atStart => exact ⟨0, a.ft, [], L0, Nat.zero_le _, rfl, rfl, HI0, HLR, H0⟩
    case round =>
      obtain ⟨k, M, O, Ls, hk, rfl, hst, hI, hLl, hS⟩ := hrel
      clear c1 y1 H0 HLR HI0
      by_cases hlt : k < ss.length
      · have HLT := Lib.hid hlt
        obtain ⟨c1, y1⟩ := hS.out.facts
        obtain ⟨g, rfl, _, hgl, hc, _⟩ := HX.out k hlt
        have HSK := Lib.hid (HSL.out k hlt)
        have HNEXT : Hid (∀ t, stT a M (ss.getD k SV.z) = some t → stK a ss (k + 1) = some (stM M (ss.getD k SV.z) t, O ++ [t]) ∧ StInv ss (k + 1) (stM M (ss.getD k SV.z) t) (O ++ [t])) := fun t ht => ⟨stK_next hst.out ht, inv_next HA.out hI.out HSK.out ht⟩
        have HSTOP : Hid (stT a M (ss.getD k SV.z) = none → stK a ss ss.length = none) := fun ht => stK_none (stK_stop hst.out ht) hlt
        have CR : RangeX wr ⟨g, k * 2, none⟩ [Value.int .i64 (ss.getD k SV.z).m, Value.int .i64 (ss.getD k SV.z).n] := RangeX.of (range_below hc hS.out.bel)
        generalize ss.getD k SV.z = s at *
        have HM : Hid (0 < M.length ∧ M.length ≤ 5 ∧ O.length = k) := by
          show _ ∧ _
          have h1 := hI.out.some_
          have h2 := hI.out.short
          have h3 := hI.out.len
          omega
        have hk3 : k < 3 := by omega
        obtain ⟨gm, em, _, _⟩ := hS.out.own
        obtain ⟨cm, e1, _, _⟩ := hS.out.m.block em
        obtain ⟨q, hq⟩ : ∃ q, M.length = q + 1 := ⟨M.length - 1, by have := HM.out.1; omega⟩
        rw [hq] at e1
        subst e1
        have hq5 : q < 5 := by have := HM.out.2.1; omega
        have HQ := Lib.hid hq
        obtain ⟨_, zgo, _, zgl⟩ := hS.out.golt
        clear hc em hst hI hq
        go_upto_region 5 with (first | ((with_reducible refine wp_ldX ?_ row_slot CR ?_); (focus (refine ⟨rfl, ⟨_, rfl, ?_⟩⟩; simp [go_sem]; done))) | ((with_reducible refine' wp_stB row_slot (Blk.new _ _ _) _ _); rotate_left; (focus (refine ⟨rfl, ⟨_, _, rfl, ?_, rfl⟩, rfl, rfl, ?_⟩; (focus (simp [go_sem]; done)); (focus (simp [Value.oneCell']; done)))); intro w7 hg7 B7))
        have hS7 := Lib.hid (hS.out.below (bgrown (balloc (Below.refl _ _) _) hg7 (Nat.le_refl _)))
        have hne7 : wr.heap.size ≠ gl := by omega
        clear c1 y1 hg7 CR hS zgo zgl
        generalize wr.heap.size = g7 at *
        have d0 := hS7.out.m.at_ (k := q) (by have := HQ.out; omega)
        have d1 := hS7.out.l.at_ (k := k) (by have := hLl.out; omega)
        have f1 := hS7.out.l.free_ k
        have HY4 : Hid (s.m = 4 → stT a M s = some (M.getD q 0)) := fun h4 => by
          have := stT_4 (a := a) (M := M) h4
          rwa [show M.length - 1 = q by have := HQ.out; omega] at this
        have hS8 := Lib.hid (hS7.out.putL (k := k) (y := M.getD q 0))
        have B8 := B7.past (setCell_grown w7 gl k (.int .i64 (M.getD q 0))) hne7
        generalize M.getD q 0 = y at *
        generalize Ls.getD k 0 = y0 at *
        go_upto_region 6 with fail
        have HL8 : Hid ((Ls.set k y).length = ss.length ∧ (Ls.set k y).getD k 0 = y) := by
          show _ ∧ _
          have h1 := hLl.out
          have h2 := HLT.out
          refine ⟨by simpa using h1, ?_⟩
          simp [List.getD_eq_getElem?_getD, h1, h2]
        generalize Ls.set k y = L8 at *
        clear d0 d1 f1 hS7 B7 hLl
        generalize w7.setCell ⟨gl, k, none⟩ (.int .i64 y) = w8 at *
        have HR := Lib.hid hS8.out.m.reads_
        go_upto_region 7 with (go_at_call 60; refine (impl_firsts _ _ _ M _ HQ.out.symm (by have := HM.out; omega) HR.out).mono ?_; rintro e w9 ⟨vF, rfl, hF, hb9⟩)
        have hS9 := Lib.hid (hS8.out.below hb9)
        have B9 := B8.below hb9
        clear B8 hS8 HR hb9
        obtain ⟨c1, y1⟩ := hS9.out.facts
        obtain ⟨d9, y9⟩ := B9.facts
        have d2 := hS9.out.o.at_ (k := k) (by rw [withZ_len (by have := HM.out; omega)]; exact HLT.out)
        have f2 := hS9.out.o.free_ k
        generalize (withZ ss.length O).getD k 0 = y2 at *
        have hrng := slot_rng HSK.out
        by_cases m5 : s.m = 5
        · have HT := Lib.hid (HNEXT.out 0 (stT_5 (a := a) (M := M) (by omega) (by omega) (by omega) (by omega)))
          have HE : Hid (stM M s 0 = M) := if_pos m5
          have HN := hS9.out
          rw [withZ_skip (n := ss.length) (O := O) (by have := HM.out; have := HLT.out; omega)] at HN
          replace HN := Lib.hid HN
          go_wp2
          go_roundw
          case rel => exact ⟨k + 1, M, O ++ [0], L8, HLT.out, by go_num, by have := HT.out.1; rw [HE.out] at this; exact this, by have := HT.out.2; rw [HE.out] at this; exact this, HL8.out.1, HN⟩
          case measure => have := HLT.out; simp [intOf]; omega
        have b5 : (s.m == 5) = false := by simpa using m5
        by_cases m1 : s.m = 1
        · have HT := Lib.hid (HNEXT.out _ (stT_1 (a := a) (M := M) m1))
          have HP := Lib.hid (hS9.out.stepIn HM.out.2.2 HLT.out s.n)
          have hzz := HP.out.bel.size
          have ZS : Hid (Value.slice (some ⟨w9.heap.size, 0, none⟩) 1 1 = .slice (some ⟨(w9.setCell ⟨go, k, none⟩ (.int .i64 s.n)).heap.size, 0, none⟩) 1 1) := by
            show _ = _
            simp [World.setCell]
          have HE : Hid (stM M s s.n = M ++ [s.n]) := if_neg m5
          go_wp2_with (at_builtin; refine wp_append3 rfl (.tmp 93) (.tmp 98) rfl (.slice (some ⟨gm, 0, none⟩) (q + 1) cm) M s.n _ rfl (by first | exact ZS.out | rfl) HP.out.m hzz (by have := HM.out; omega) ?_; intro v' w10 hi10 hg10 hat10)
          have HN := Lib.hid (HP.out.appM hi10 hg10 hat10)
          go_roundw
          case rel => exact ⟨k + 1, M ++ [s.n], O ++ [s.n], L8, HLT.out, by go_num, by have := HT.out.1; rw [HE.out] at this; exact this, by have := HT.out.2; rw [HE.out] at this; exact this, HL8.out.1, HN⟩
          case measure => have := HLT.out; simp [intOf]; omega
        have b1 : (s.m == 1) = false := by simpa using m1
        by_cases m2 : s.m = 2
        · by_cases hd : a.f.d = 0
          · have HT := Lib.hid (HNEXT.out _ (stT_2 (a := a) (M := M) m2 hd))
            have hd' : (a.f.d != 0) = false := by simpa using hd
            clear hd
            have HP := Lib.hid (hS9.out.stepIn HM.out.2.2 HLT.out a.f.a)
            have hzz := HP.out.bel.size
            have ZS : Hid (Value.slice (some ⟨w9.heap.size, 0, none⟩) 1 1 = .slice (some ⟨(w9.setCell ⟨go, k, none⟩ (.int .i64 a.f.a)).heap.size, 0, none⟩) 1 1) := by
              show _ = _
              simp [World.setCell]
            have HE : Hid (stM M s a.f.a = M ++ [a.f.a]) := if_neg m5
            go_wp2_with (at_builtin; refine wp_append3 rfl (.tmp 93) (.tmp 98) rfl (.slice (some ⟨gm, 0, none⟩) (q + 1) cm) M a.f.a _ rfl (by first | exact ZS.out | rfl) HP.out.m hzz (by have := HM.out; omega) ?_; intro v' w10 hi10 hg10 hat10)
            have HN := Lib.hid (HP.out.appM hi10 hg10 hat10)
            go_roundw
            case rel => exact ⟨k + 1, M ++ [a.f.a], O ++ [a.f.a], L8, HLT.out, by go_num, by have := HT.out.1; rw [HE.out] at this; exact this, by have := HT.out.2; rw [HE.out] at this; exact this, HL8.out.1, HN⟩
            case measure => have := HLT.out; simp [intOf]; omega
          · have HT := Lib.hid (HSTOP.out (stT_2n (a := a) (M := M) m2 hd))
            have hd' : (a.f.d != 0) = true := by simpa using hd
            clear HNEXT
            go_wp2
            go_ret3
            exact ⟨_, _, _, rfl, .inr ⟨rfl, HT.out⟩, hS9.out.bel⟩
        have b2 : (s.m == 2) = false := by simpa using m2
        by_cases m3 : s.m = 3
        · obtain ⟨n1, n3⟩ := slot3 HSK.out m3
          have hfl := fstL_len [] M
          have hml := HM.out.2.1
          simp only [List.length_nil, Nat.zero_add] at hfl
          by_cases hn : s.n ≤ ((fstL [] M).length : Int)
          · have HT := HNEXT.out _ (stT_3 (a := a) m3 hn)
            obtain ⟨y, hy⟩ : ∃ y, y = (fstL [] M).getD (s.n - 1).toNat 0 := ⟨_, rfl⟩
            rw [← hy] at HT
            replace HT := Lib.hid HT
            have hn' : ¬ ((fstL [] M).length : Int) < s.n := by omega
            obtain ⟨gF, eF⟩ := hF.own (by omega)
            obtain ⟨cF, rfl, _, _⟩ := hF.block eF
            have dF := hF.at_ (k := (s.n - 1).toNat) (by omega)
            have dG : w9.cell? ⟨gF, s.n.toNat - 1, none⟩ = some (.int .i64 y) := by { rw [show s.n.toNat - 1 = (s.n - 1).toNat by omega, hy]; exact dF }
            clear dF hF eF hy
            have HP := Lib.hid (hS9.out.stepIn HM.out.2.2 HLT.out y)
            have hzz := HP.out.bel.size
            have ZS : Hid (Value.slice (some ⟨w9.heap.size, 0, none⟩) 1 1 = .slice (some ⟨(w9.setCell ⟨go, k, none⟩ (.int .i64 y)).heap.size, 0, none⟩) 1 1) := by
              show _ = _
              simp [World.setCell]
            have HE : Hid (stM M s y = M ++ [y]) := if_neg m5
            go_wp2_with (at_builtin; refine wp_append3 rfl (.tmp 93) (.tmp 98) rfl (.slice (some ⟨gm, 0, none⟩) (q + 1) cm) M y _ rfl (by first | exact ZS.out | rfl) HP.out.m hzz (by have := HM.out; omega) ?_; intro v' w10 hi10 hg10 hat10)
            have HN := Lib.hid (HP.out.appM hi10 hg10 hat10)
            go_roundw
            case rel => exact ⟨k + 1, M ++ [y], O ++ [y], L8, HLT.out, by go_num, by have := HT.out.1; rw [HE.out] at this; exact this, by have := HT.out.2; rw [HE.out] at this; exact this, HL8.out.1, HN⟩
            case measure => have := HLT.out; simp [intOf]; omega
          · have HT := Lib.hid (HSTOP.out (stT_3n (a := a) m3 hn))
            have hn' : ((fstL [] M).length : Int) < s.n := by omega
            obtain ⟨AF, cF, rfl, _⟩ := hF.shape
            clear HNEXT
            go_wp2
            go_ret3
            exact ⟨_, _, _, rfl, .inr ⟨rfl, HT.out⟩, hS9.out.bel⟩
        have b3 : (s.m == 3) = false := by simpa using m3
        have m4 : s.m = 4 := by omega
        have HT := Lib.hid (HNEXT.out _ (HY4.out m4))
        have d1 := hS9.out.l.at_ (k := k) (by have := HL8.out.1; have := HLT.out; omega)
        rw [HL8.out.2] at d1
        have HP := Lib.hid (hS9.out.stepIn HM.out.2.2 HLT.out y)
        have hzz := HP.out.bel.size
        have ZS : Hid (Value.slice (some ⟨w9.heap.size, 0, none⟩) 1 1 = .slice (some ⟨(w9.setCell ⟨go, k, none⟩ (.int .i64 y)).heap.size, 0, none⟩) 1 1) := by
          show _ = _
          simp [World.setCell]
        have HE : Hid (stM M s y = M ++ [y]) := if_neg m5
        go_wp2_with (at_builtin; refine wp_append3 rfl (.tmp 93) (.tmp 98) rfl (.slice (some ⟨gm, 0, none⟩) (q + 1) cm) M y _ rfl (by first | exact ZS.out | rfl) HP.out.m hzz (by have := HM.out; omega) ?_; intro v' w10 hi10 hg10 hat10)
        have HN := Lib.hid (HP.out.appM hi10 hg10 hat10)
        go_roundw
        case rel => exact ⟨k + 1, M ++ [y], O ++ [y], L8, HLT.out, by go_num, by have := HT.out.1; rw [HE.out] at this; exact this, by have := HT.out.2; rw [HE.out] at this; exact this, HL8.out.1, HN⟩
        case measure => have := HLT.out; simp [intOf]; omega
      · obtain rfl : k = ss.length := by omega
        have hIl := hI.out.len
        rw [withZ_all hIl] at hS
        have HNX := Lib.hid (nx_slots hI.out)
        have HOL := Lib.hid hIl
        have HM := Lib.hid hst.out
        clear hst hI hLl hk hlt hIl
        generalize u5 = vM1 at *
        generalize wr = w2 at *
        obtain ⟨c1, y1⟩ := hS.out.facts
        have H0 : Hid (RS a (.slice A ss.length c) ss.length go gl w vM1 M (nxC (fun i => (ss.getD i SV.z).m == 5) O 0) Ls w2) := hS
        clear hS
        go_wp2
        go_loopw [11] (fun i wr => ∃ j : Nat, j ≤ ss.length - 1 ∧ i = .int .i64 ((ss.length : Int) - 2 - j) ∧ Hid (RS a (.slice A ss.length c) ss.length go gl w vM1 M (nxC (fun i => (ss.getD i SV.z).m == 5) O j) Ls wr)) (fun i _ => (intOf i + 1).toNat)
        case atStart => exact ⟨0, Nat.zero_le _, by go_num, H0⟩
        case round =>
          obtain ⟨j, hj, rfl, hP⟩ := hrel
          clear H0 c1 y1
          by_cases hlt : j + 2 ≤ ss.length
          · have hp : (ss.length : Int) - 2 - j = ((ss.length - 2 - j : Nat) : Int) := by omega
            have HN : Hid ((ss.length : Int) - 2 - ((j + 1 : Nat) : Int) = ((ss.length - 2 - j : Nat) : Int) - 1) := by show _ = _; omega
            have HS : Hid (nxC (fun i => (ss.getD i SV.z).m == 5) O (j + 1) = if ((ss.getD (ss.length - 2 - j) SV.z).m == 5) = true then (nxC (fun i => (ss.getD i SV.z).m == 5) O j).set (ss.length - 2 - j) ((nxC (fun i => (ss.getD i SV.z).m == 5) O j).getD (ss.length - 2 - j + 1) 0) else nxC (fun i => (ss.getD i SV.z).m == 5) O j) := by
              show _ = _
              rw [← HOL.out]
              rfl
            have HLL : Hid ((nxC (fun i => (ss.getD i SV.z).m == 5) O j).length = ss.length) := by
              show _ = _
              rw [nxC_len, HOL.out]
            obtain ⟨g, rfl, _, hgl, hc, _⟩ := HX.out (ss.length - 2 - j) (by omega)
            have dS : wr.cell? ⟨g, (ss.length - 2 - j) * 2, none⟩ = some (.int .i64 (ss.getD (ss.length - 2 - j) SV.z).m) := range_below hc hP.out.bel 0 _ rfl
            have hpl : ss.length - 2 - j + 1 < ss.length := by omega
            have HJ : Hid (j + 1 ≤ ss.length - 1) := by show _ ≤ _; omega
            rw [hp]
            generalize hL2 : nxC (fun i => (ss.getD i SV.z).m == 5) O (j + 1) = L2 at HS
            have HL2 := Lib.hid hL2
            clear hL2 hc
            generalize nxC (fun i => (ss.getD i SV.z).m == 5) O j = L at *
            generalize ss.getD (ss.length - 2 - j) SV.z = s at *
            generalize ss.length - 2 - j = p at *
            have d0 := hP.out.o.at_ (k := p) (by rw [HLL.out]; omega)
            have d1 := hP.out.o.at_ (k := p + 1) (by rw [HLL.out]; omega)
            have f0 := hP.out.o.free_ p
            have HPUT := Lib.hid (hP.out.putO (k := p) (y := L.getD (p + 1) 0))
            obtain ⟨c1, y1⟩ := hP.out.facts
            clear hp
            generalize L.getD p 0 = y at *
            generalize L.getD (p + 1) 0 = z at *
            cases hy : (s.m == 5)
            · rw [hy] at HS
              go_wp2
              go_roundw
              case rel => exact ⟨j + 1, HJ.out, by rw [HN.out], by show RS _ _ _ _ _ _ _ _ _ _ _; rw [HL2.out, HS.out]; exact hP.out⟩
              case measure => first | (simp [intOf]; done) | (simp [intOf]; omega)
            · rw [hy] at HS
              go_wp2
              go_roundw
              case rel => exact ⟨j + 1, HJ.out, by rw [HN.out], by show RS _ _ _ _ _ _ _ _ _ _ _; rw [HL2.out, HS.out]; exact HPUT.out⟩
              case measure => first | (simp [intOf]; done) | (simp [intOf]; omega)
          · obtain rfl : j = ss.length - 1 := by omega
            have hneg : (ss.length : Int) - 2 - ((ss.length - 1 : Nat) : Int) < 0 := by omega
            generalize (ss.length : Int) - 2 - ((ss.length - 1 : Nat) : Int) = z at *
            have HF := hP.out
            rw [← HOL.out, HNX.out, HOL.out] at HF
            replace HF := Lib.hid HF
            clear hP
            go_wp2
            go_ret3
            exact ⟨_, _, _, rfl, .inl ⟨rfl, M, O, HM.out, HOL.out, HF.out.o⟩, HF.out.bel⟩
end Go.Proofs.Ytonkblhajbphmaa
