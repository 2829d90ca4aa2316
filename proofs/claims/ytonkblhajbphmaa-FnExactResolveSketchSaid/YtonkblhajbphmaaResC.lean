/- Sketches resolved by the reference. Conditions: as each theorem says. -/
import Derived.Test.YtonkblhajbphmaaRows
import Derived.Test.YtonkblhajbphmaaResB
namespace Go.Proofs.Ytonkblhajbphmaa
set_option linter.unusedSimpArgs false
set_option linter.unusedVariables false
open Go.ChangeShapes Go.WideShapes Go.ChangeAt Go.RowKit

set_option maxRecDepth 100000 in
set_option maxHeartbeats 4000000 in
theorem spec_l7Resolve (a : AV) (v : Value) (ss : List SV) (w : World) (B : Nat) (hv : Slots w B v ss) (hok : skOk a ss = true) : Calls Try.prog 27 #[.agg #[Value.int .i64 a.f.d, Value.int .i64 a.f.l, Value.int .i64 a.f.a, Value.int .i64 a.f.b, Value.int .i64 a.o, Value.int .i64 a.l, Value.int .i64 a.t, Value.int .i64 a.on.c, Value.int .i64 a.on.k, Value.int .i64 a.on.a, Value.int .i64 a.on.t, Value.int .i64 a.ar.c, Value.int .i64 a.ar.k, Value.int .i64 a.ar.a, Value.int .i64 a.ar.t, v]] w fun e w' => e = .returned (.tuple #[.agg #[.int .i64 (resA a ss).f.d, .int .i64 (resA a ss).f.l, .int .i64 (resA a ss).f.a, .int .i64 (resA a ss).f.b, .int .i64 (resA a ss).o, .int .i64 (resA a ss).l, .int .i64 (resA a ss).t, .int .i64 (resA a ss).on.c, .int .i64 (resA a ss).on.k, .int .i64 (resA a ss).on.a, .int .i64 (resA a ss).on.t, .int .i64 (resA a ss).ar.c, .int .i64 (resA a ss).ar.k, .int .i64 (resA a ss).ar.a, .int .i64 (resA a ss).ar.t], .bool (resB a ss)]) ∧ Below w.heap.size w w' := by
  obtain ⟨ha, hlen, _⟩ := skOk_parts hok
  have h0 := (ok_ord ha).1
  have HLEN := Lib.hid hlen
  clear hlen
  obtain ⟨A, c, rfl, _⟩ := hv.shape
  go_enter Try.func27, Try.ntmps27
  go_upto_region 1 with fail
  obtain ⟨B1, BR⟩ := blk_two w 40 35 #[Value.int .i64 a.f.d, Value.int .i64 a.f.l, Value.int .i64 a.f.a, Value.int .i64 a.f.b, Value.int .i64 a.o, Value.int .i64 a.l, Value.int .i64 a.t, Value.int .i64 a.on.c, Value.int .i64 a.on.k, Value.int .i64 a.on.a, Value.int .i64 a.on.t, Value.int .i64 a.ar.c, Value.int .i64 a.ar.k, Value.int .i64 a.ar.a, Value.int .i64 a.ar.t, .slice A ss.length c] #[Value.int .i64 AV.none.f.d, Value.int .i64 AV.none.f.l, Value.int .i64 AV.none.f.a, Value.int .i64 AV.none.f.b, Value.int .i64 AV.none.o, Value.int .i64 AV.none.l, Value.int .i64 AV.none.t, Value.int .i64 AV.none.on.c, Value.int .i64 AV.none.on.k, Value.int .i64 AV.none.on.a, Value.int .i64 AV.none.on.t, Value.int .i64 AV.none.ar.c, Value.int .i64 AV.none.ar.k, Value.int .i64 AV.none.ar.a, Value.int .i64 AV.none.ar.t]
  have hW : Below w.heap.size w ((w.alloc (.cells #[Value.int .i64 a.f.d, Value.int .i64 a.f.l, Value.int .i64 a.f.a, Value.int .i64 a.f.b, Value.int .i64 a.o, Value.int .i64 a.l, Value.int .i64 a.t, Value.int .i64 a.on.c, Value.int .i64 a.on.k, Value.int .i64 a.on.a, Value.int .i64 a.on.t, Value.int .i64 a.ar.c, Value.int .i64 a.ar.k, Value.int .i64 a.ar.a, Value.int .i64 a.ar.t, .slice A ss.length c] 40)).alloc (.cells #[Value.int .i64 AV.none.f.d, Value.int .i64 AV.none.f.l, Value.int .i64 AV.none.f.a, Value.int .i64 AV.none.f.b, Value.int .i64 AV.none.o, Value.int .i64 AV.none.l, Value.int .i64 AV.none.t, Value.int .i64 AV.none.on.c, Value.int .i64 AV.none.on.k, Value.int .i64 AV.none.on.a, Value.int .i64 AV.none.on.t, Value.int .i64 AV.none.ar.c, Value.int .i64 AV.none.ar.k, Value.int .i64 AV.none.ar.a, Value.int .i64 AV.none.ar.t] 35)) := (by repeat (first | (with_reducible exact Below.refl _ _) | (with_reducible assumption) | (with_reducible refine balloc ?_ _) | (with_reducible refine bdrew ?_) | (with_reducible refine bdrewN ?_ _) | (with_reducible refine bset ?_ (by first | omega | (simp; done) | (simp; omega)) _) | (with_reducible refine bstep ?_ (by assumption))))
  show Code.wp _ _ _ _ ((w.alloc (.cells #[Value.int .i64 a.f.d, Value.int .i64 a.f.l, Value.int .i64 a.f.a, Value.int .i64 a.f.b, Value.int .i64 a.o, Value.int .i64 a.l, Value.int .i64 a.t, Value.int .i64 a.on.c, Value.int .i64 a.on.k, Value.int .i64 a.on.a, Value.int .i64 a.on.t, Value.int .i64 a.ar.c, Value.int .i64 a.ar.k, Value.int .i64 a.ar.a, Value.int .i64 a.ar.t, .slice A ss.length c] 40)).alloc (.cells #[Value.int .i64 AV.none.f.d, Value.int .i64 AV.none.f.l, Value.int .i64 AV.none.f.a, Value.int .i64 AV.none.f.b, Value.int .i64 AV.none.o, Value.int .i64 AV.none.l, Value.int .i64 AV.none.t, Value.int .i64 AV.none.on.c, Value.int .i64 AV.none.on.k, Value.int .i64 AV.none.on.a, Value.int .i64 AV.none.on.t, Value.int .i64 AV.none.ar.c, Value.int .i64 AV.none.ar.k, Value.int .i64 AV.none.ar.a, Value.int .i64 AV.none.ar.t] 35))
  generalize ((w.alloc (.cells #[Value.int .i64 a.f.d, Value.int .i64 a.f.l, Value.int .i64 a.f.a, Value.int .i64 a.f.b, Value.int .i64 a.o, Value.int .i64 a.l, Value.int .i64 a.t, Value.int .i64 a.on.c, Value.int .i64 a.on.k, Value.int .i64 a.on.a, Value.int .i64 a.on.t, Value.int .i64 a.ar.c, Value.int .i64 a.ar.k, Value.int .i64 a.ar.a, Value.int .i64 a.ar.t, .slice A ss.length c] 40)).alloc (.cells #[Value.int .i64 AV.none.f.d, Value.int .i64 AV.none.f.l, Value.int .i64 AV.none.f.a, Value.int .i64 AV.none.f.b, Value.int .i64 AV.none.o, Value.int .i64 AV.none.l, Value.int .i64 AV.none.t, Value.int .i64 AV.none.on.c, Value.int .i64 AV.none.on.k, Value.int .i64 AV.none.on.a, Value.int .i64 AV.none.on.t, Value.int .i64 AV.none.ar.c, Value.int .i64 AV.none.ar.k, Value.int .i64 AV.none.ar.a, Value.int .i64 AV.none.ar.t] 35)) = W at *
  replace hv := hv.below hW
  go_upto_region 2 with (first | ((with_reducible refine wp_ldB ?_ row_sk B1 ?_); (focus (refine ⟨rfl, ⟨_, rfl, ?_⟩, rfl⟩; simp [go_sem]; done))) | (go_at_call 55; refine (spec_l7Stated a _ ss _ _ hv hok).mono ?_; rintro e w1 ⟨vO, b, O, rfl, hO, hq, hb, hb1⟩; replace B1 := B1.below hb1; replace BR := BR.below hb1; replace hW := bstep hW hb1; clear hb1 hv))
  rcases hb with ⟨rfl, M, hst⟩ | ⟨rfl, hst⟩
  rotate_left
  · obtain ⟨e1, e2⟩ := res_stop hst
    have HE := Lib.hid (And.intro e1 e2)
    clear e1 e2 hO hq
    go_wp2_with ((with_reducible refine' wp_stB row_impl BR _ _); rotate_left; (focus (refine ⟨rfl, ⟨_, _, rfl, ?_, rfl⟩, rfl, rfl, ?_⟩; (focus (simp [go_sem]; done)); (focus (simp [Value.oneCell']; done)))); intro w3 hg3 hb3)
    refine ret_rowA2 rfl rfl hb3 rfl rfl rfl ?_
    exact ⟨by rw [HE.out.1, HE.out.2]; rfl, bgrown hW hg3 (by omega)⟩
  have HOL : Hid (O.length = ss.length) := by
    show _ = _
    have hall := (skOk_parts hok).2.2
    have : ∀ k, k ≤ ss.length → ∀ M O, stK a ss k = some (M, O) → O.length = k := by
      intro k
      induction k with
      | zero =>
        intro _ M O h
        simp only [stK] at h
        injection h with h
        injection h with _ h
        rw [← h]
        rfl
      | succ k ih =>
        intro hk M O h
        simp only [stK] at h
        split at h
        · cases h
        · next p hp =>
          split at h
          · cases h
          · injection h with h
            injection h with _ h
            rw [← h]
            have := ih (by omega) p.1 p.2 hp
            simp [this]
    exact this _ (Nat.le_refl _) _ _ hst
  obtain ⟨e1, e2⟩ := res_good hok hst
  have HE := Lib.hid (And.intro e1 e2)
  have HQ := Lib.hid hq
  have HO := Lib.hid hO
  have hO3 : O.length ≤ 3 := by have := HOL.out; have := HLEN.out; have := places_len a; omega
  clear e1 e2 hst hO hq
  go_upto_region 4 with fail
  have hg0 : w.heap.size + 1 ≠ w.heap.size := by omega
  have C1 : Hid (∀ w', w1.grownBy w' (some (w.heap.size + 1)) → RangeX w' ⟨w.heap.size, 0, none⟩ [Value.int .i64 a.f.d, Value.int .i64 a.f.l, Value.int .i64 a.f.a, Value.int .i64 a.f.b, Value.int .i64 a.o, Value.int .i64 a.l, Value.int .i64 a.t, Value.int .i64 a.on.c, Value.int .i64 a.on.k, Value.int .i64 a.on.a, Value.int .i64 a.on.t, Value.int .i64 a.ar.c, Value.int .i64 a.ar.k, Value.int .i64 a.ar.a, Value.int .i64 a.ar.t]) := fun w' h => Blk.head (R := [.slice A ss.length c]) (B1.past h (by omega))
  have HB := Lib.hid BR
  refine wp_region_mildL (C := fun w' => w1.grownBy w' (some (w.heap.size + 1))) (γ := Value) (U := fun v i => if i = 3 then v else if i = 4 then .agg #[.int .i64 (a.fill (nx O)).f.d, .int .i64 (a.fill (nx O)).f.l, .int .i64 (a.fill (nx O)).f.a, .int .i64 (a.fill (nx O)).f.b, .int .i64 (a.fill (nx O)).o, .int .i64 (a.fill (nx O)).l, .int .i64 (a.fill (nx O)).t, .int .i64 (a.fill (nx O)).on.c, .int .i64 (a.fill (nx O)).on.k, .int .i64 (a.fill (nx O)).on.a, .int .i64 (a.fill (nx O)).on.t, .int .i64 (a.fill (nx O)).ar.c, .int .i64 (a.fill (nx O)).ar.k, .int .i64 (a.fill (nx O)).ar.a, .int .i64 (a.fill (nx O)).ar.t] else undef)
    (E := fun L v w' => (L 5 = true → L 4 = true) ∧ (L 3 = true → ∃ B, Ints w' B v (nx O)) ∧ Blk w' (w.heap.size + 1) 35 (if L 5 then #[Value.int .i64 (a.fill (nx O)).f.d, Value.int .i64 (a.fill (nx O)).f.l, Value.int .i64 (a.fill (nx O)).f.a, Value.int .i64 (a.fill (nx O)).f.b, Value.int .i64 (a.fill (nx O)).o, Value.int .i64 (a.fill (nx O)).l, Value.int .i64 (a.fill (nx O)).t, Value.int .i64 (a.fill (nx O)).on.c, Value.int .i64 (a.fill (nx O)).on.k, Value.int .i64 (a.fill (nx O)).on.a, Value.int .i64 (a.fill (nx O)).on.t, Value.int .i64 (a.fill (nx O)).ar.c, Value.int .i64 (a.fill (nx O)).ar.k, Value.int .i64 (a.fill (nx O)).ar.a, Value.int .i64 (a.fill (nx O)).ar.t] else #[Value.int .i64 AV.none.f.d, Value.int .i64 AV.none.f.l, Value.int .i64 AV.none.f.a, Value.int .i64 AV.none.f.b, Value.int .i64 AV.none.o, Value.int .i64 AV.none.l, Value.int .i64 AV.none.t, Value.int .i64 AV.none.on.c, Value.int .i64 AV.none.on.k, Value.int .i64 AV.none.on.a, Value.int .i64 AV.none.on.t, Value.int .i64 AV.none.ar.c, Value.int .i64 AV.none.ar.k, Value.int .i64 AV.none.ar.a, Value.int .i64 AV.none.ar.t]))
    [true, true, true, false, false, false, true] undef (by kernel_rfl) rfl (by kernel_rfl) ⟨rfl, rfl, rfl, Nat.le_refl _, fun _ _ _ => rfl⟩ ⟨(fun h => by cases h), (fun h => by cases h), BR⟩
    (fun L g p q h1 hE h2 => ⟨grown_step h1 h2, hE.1, fun h => (hE.2.1 h).imp fun _ hI => hI.below h2, hE.2.2.below h2⟩)
    (fun L L' g p hl hE => by rw [hl 3 (by simp [lidxs]), hl 4 (by simp [lidxs]), hl 5 (by simp [lidxs])]; exact hE) ?_
  refine wpMildL_take rfl ?_
  apply Exists.intro
  refine ⟨fun w' hw' => ?_, ?_⟩
  · go_simp
    with_reducible rfl
  simp only [Act.put, List.setIfInBounds_toArray, List.set_cons_zero, List.set_cons_succ]
  refine wpMildL_take rfl ⟨_, mild_loadX _ rfl _ rfl _ (fun w' h => C1.out w' h) row_impl, ?_⟩
  simp only [Act.put, List.setIfInBounds_toArray, List.set_cons_zero, List.set_cons_succ]
  refine wpMildL_take rfl ?_
  apply Exists.intro
  refine ⟨fun w' hw' => ?_, ?_⟩
  · go_simp
    with_reducible rfl
  simp only [Act.put, List.setIfInBounds_toArray, List.set_cons_zero, List.set_cons_succ]
  refine wpMildL_late ?_
  refine wpMildL_late ?_
  refine wpMildL_late ?_
  refine wpMildL_take rfl ?_
  apply Exists.intro
  refine ⟨fun w' hw' => ?_, ?_⟩
  · go_simp
    with_reducible rfl
  simp only [Act.put, List.setIfInBounds_toArray, List.set_cons_zero, List.set_cons_succ]
  refine wpMildL_nil ?_
  refine ⟨lateAll_skip (lateAll_skip (lateAll_skip (lateAll_cons (fun L v W' hC hE hL hdep => ?_) (lateAll_cons (fun L v W' hC hE hL hdep => ?_) (lateAll_cons (fun L v W' hC hE hL hdep => ?_) (lateAll_skip lateAll_nil)))))), fun L v W' hall hC hE => ?_⟩
  all_goals simp only [lateputL, Act.put, List.setIfInBounds_toArray, List.set_cons_zero, List.set_cons_succ]
  · have hO' := kept_blk HO.out HB.out (by decide) hC
    generalize hr : (execOp _ _).run Try.prog W' = r
    refine late_call (w' := W') (f := 57) (args := #[vO]) (by rw [← hr]; go_simp) ((spec_l7Next vO O _ _ hO' HQ.out (by omega)).mono ?_)
    rintro e w2 ⟨v2, rfl, hi2, hb2⟩
    refine ⟨_, rfl, v2, rfl, fun j hj hLj => ?_, grown_step hC hb2, (fun h => by simpa using hE.1 (by simpa using h)), fun _ => ⟨_, hi2⟩, ?_⟩
    · simp only [lidxs, List.mem_cons, List.not_mem_nil, or_false] at hj
      rcases hj with rfl | rfl | rfl
      · rw [hL] at hLj; cases hLj
      · rfl
      · rfl
    · simpa using hE.2.2.below hb2
  · have L3 : L 3 = true := hdep 3 (by kernel_rfl)
    have hL5 : L 5 = false := by
      rw [← Bool.not_eq_true]
      intro h
      rw [hE.1 h] at hL
      cases hL
    obtain ⟨Bn, hI⟩ := hE.2.1 L3
    have hIl := hI.len
    obtain ⟨A2, c2, rfl, HR2⟩ := own_reads hI
    generalize hr : (execOp _ _).run Try.prog W' = r
    refine late_call (w' := W') (f := 56) (args := #[.agg #[.int .i64 a.f.d, .int .i64 a.f.l, .int .i64 a.f.a, .int .i64 a.f.b, .int .i64 a.o, .int .i64 a.l, .int .i64 a.t, .int .i64 a.on.c, .int .i64 a.on.k, .int .i64 a.on.a, .int .i64 a.on.t, .int .i64 a.ar.c, .int .i64 a.ar.k, .int .i64 a.ar.a, .int .i64 a.ar.t], .slice A2 (nx O).length c2]) (by rw [← hr]; go_simp) ((spec_l7Fill a A2 _ c2 (nx O) rfl hIl h0 (by rw [nx_len, HOL.out, HLEN.out]; exact Nat.le_refl _) _ HR2.out).mono ?_)
    rintro e w2 ⟨rfl, hb2⟩
    refine ⟨_, rfl, _, rfl, fun _ _ _ => rfl, grown_step hC hb2, (fun _ => by simp), (fun _ => ⟨_, hI.below hb2⟩), ?_⟩
    simpa using hE.2.2.below hb2
  · have L4 : L 4 = true := hdep 4 (by kernel_rfl)
    have hB' := hE.2.2
    rw [hL] at hB'
    simp only [Bool.false_eq_true, if_false] at hB'
    refine late_storeM 35 _ _ rfl (w.heap.size + 1) 0 #[Value.int .i64 (a.fill (nx O)).f.d, Value.int .i64 (a.fill (nx O)).f.l, Value.int .i64 (a.fill (nx O)).f.a, Value.int .i64 (a.fill (nx O)).f.b, Value.int .i64 (a.fill (nx O)).o, Value.int .i64 (a.fill (nx O)).l, Value.int .i64 (a.fill (nx O)).t, Value.int .i64 (a.fill (nx O)).on.c, Value.int .i64 (a.fill (nx O)).on.k, Value.int .i64 (a.fill (nx O)).on.a, Value.int .i64 (a.fill (nx O)).on.t, Value.int .i64 (a.fill (nx O)).ar.c, Value.int .i64 (a.fill (nx O)).ar.k, Value.int .i64 (a.fill (nx O)).ar.a, Value.int .i64 (a.fill (nx O)).ar.t] _ 35 rfl rfl hB' (by simp) (by kernel_rfl) (by simp [Value.oneCell']) fun w2 hg hb2 => ?_
    replace hb2 : Blk w2 (w.heap.size + 1) 35 #[Value.int .i64 (a.fill (nx O)).f.d, Value.int .i64 (a.fill (nx O)).f.l, Value.int .i64 (a.fill (nx O)).f.a, Value.int .i64 (a.fill (nx O)).f.b, Value.int .i64 (a.fill (nx O)).o, Value.int .i64 (a.fill (nx O)).l, Value.int .i64 (a.fill (nx O)).t, Value.int .i64 (a.fill (nx O)).on.c, Value.int .i64 (a.fill (nx O)).on.k, Value.int .i64 (a.fill (nx O)).on.a, Value.int .i64 (a.fill (nx O)).on.t, Value.int .i64 (a.fill (nx O)).ar.c, Value.int .i64 (a.fill (nx O)).ar.k, Value.int .i64 (a.fill (nx O)).ar.a, Value.int .i64 (a.fill (nx O)).ar.t] := hb2
    refine ⟨v, rfl, fun _ _ _ => rfl, grown_two hC hg, (fun _ => by simp [L4]), (fun h => ?_), ?_⟩
    · obtain ⟨Bn, hI⟩ := hE.2.1 (by simpa using h)
      exact ⟨Bn, kept_blk hI hB' (by decide) hg⟩
    · simpa using hb2
  · have hB' := hE.2.2
    rw [hall 5 (by simp)] at hB'
    simp only [if_true] at hB'
    have hF := bgrown hW hC (by omega)
    clear hE hall hC C1 HB BR B1 HO HQ
    go_wp2
    refine ret_rowA2 rfl rfl hB' rfl rfl rfl ?_
    exact ⟨by rw [HE.out.1, HE.out.2]; rfl, hF⟩
set_option maxHeartbeats 1000000 in
theorem spec_ResolveSketch (a : AV) (v : Value) (ss : List SV) (w : World) (B : Nat) (hv : Slots w B v ss) : Calls Try.prog 8 #[.agg #[Value.int .i64 a.f.d, Value.int .i64 a.f.l, Value.int .i64 a.f.a, Value.int .i64 a.f.b, Value.int .i64 a.o, Value.int .i64 a.l, Value.int .i64 a.t, Value.int .i64 a.on.c, Value.int .i64 a.on.k, Value.int .i64 a.on.a, Value.int .i64 a.on.t, Value.int .i64 a.ar.c, Value.int .i64 a.ar.k, Value.int .i64 a.ar.a, Value.int .i64 a.ar.t, v]] w fun e w' => e = .returned (.tuple #[.agg #[.int .i64 (resA a ss).f.d, .int .i64 (resA a ss).f.l, .int .i64 (resA a ss).f.a, .int .i64 (resA a ss).f.b, .int .i64 (resA a ss).o, .int .i64 (resA a ss).l, .int .i64 (resA a ss).t, .int .i64 (resA a ss).on.c, .int .i64 (resA a ss).on.k, .int .i64 (resA a ss).on.a, .int .i64 (resA a ss).on.t, .int .i64 (resA a ss).ar.c, .int .i64 (resA a ss).ar.k, .int .i64 (resA a ss).ar.a, .int .i64 (resA a ss).ar.t], .bool (resB a ss)]) ∧ Below w.heap.size w w' := by
  obtain ⟨A, c, rfl, _⟩ := hv.shape
  cases hok : skOk a ss
  all_goals
    go_enter Try.func8, Try.ntmps8
    go_upto_region 1 with fail
    obtain ⟨B1, BR⟩ := blk_two w 40 35 #[Value.int .i64 a.f.d, Value.int .i64 a.f.l, Value.int .i64 a.f.a, Value.int .i64 a.f.b, Value.int .i64 a.o, Value.int .i64 a.l, Value.int .i64 a.t, Value.int .i64 a.on.c, Value.int .i64 a.on.k, Value.int .i64 a.on.a, Value.int .i64 a.on.t, Value.int .i64 a.ar.c, Value.int .i64 a.ar.k, Value.int .i64 a.ar.a, Value.int .i64 a.ar.t, .slice A ss.length c] #[Value.int .i64 AV.none.f.d, Value.int .i64 AV.none.f.l, Value.int .i64 AV.none.f.a, Value.int .i64 AV.none.f.b, Value.int .i64 AV.none.o, Value.int .i64 AV.none.l, Value.int .i64 AV.none.t, Value.int .i64 AV.none.on.c, Value.int .i64 AV.none.on.k, Value.int .i64 AV.none.on.a, Value.int .i64 AV.none.on.t, Value.int .i64 AV.none.ar.c, Value.int .i64 AV.none.ar.k, Value.int .i64 AV.none.ar.a, Value.int .i64 AV.none.ar.t]
    have hW : Below w.heap.size w ((w.alloc (.cells #[Value.int .i64 a.f.d, Value.int .i64 a.f.l, Value.int .i64 a.f.a, Value.int .i64 a.f.b, Value.int .i64 a.o, Value.int .i64 a.l, Value.int .i64 a.t, Value.int .i64 a.on.c, Value.int .i64 a.on.k, Value.int .i64 a.on.a, Value.int .i64 a.on.t, Value.int .i64 a.ar.c, Value.int .i64 a.ar.k, Value.int .i64 a.ar.a, Value.int .i64 a.ar.t, .slice A ss.length c] 40)).alloc (.cells #[Value.int .i64 AV.none.f.d, Value.int .i64 AV.none.f.l, Value.int .i64 AV.none.f.a, Value.int .i64 AV.none.f.b, Value.int .i64 AV.none.o, Value.int .i64 AV.none.l, Value.int .i64 AV.none.t, Value.int .i64 AV.none.on.c, Value.int .i64 AV.none.on.k, Value.int .i64 AV.none.on.a, Value.int .i64 AV.none.on.t, Value.int .i64 AV.none.ar.c, Value.int .i64 AV.none.ar.k, Value.int .i64 AV.none.ar.a, Value.int .i64 AV.none.ar.t] 35)) := (by repeat (first | (with_reducible exact Below.refl _ _) | (with_reducible assumption) | (with_reducible refine balloc ?_ _) | (with_reducible refine bdrew ?_) | (with_reducible refine bdrewN ?_ _) | (with_reducible refine bset ?_ (by first | omega | (simp; done) | (simp; omega)) _) | (with_reducible refine bstep ?_ (by assumption))))
    show Code.wp _ _ _ _ ((w.alloc (.cells #[Value.int .i64 a.f.d, Value.int .i64 a.f.l, Value.int .i64 a.f.a, Value.int .i64 a.f.b, Value.int .i64 a.o, Value.int .i64 a.l, Value.int .i64 a.t, Value.int .i64 a.on.c, Value.int .i64 a.on.k, Value.int .i64 a.on.a, Value.int .i64 a.on.t, Value.int .i64 a.ar.c, Value.int .i64 a.ar.k, Value.int .i64 a.ar.a, Value.int .i64 a.ar.t, .slice A ss.length c] 40)).alloc (.cells #[Value.int .i64 AV.none.f.d, Value.int .i64 AV.none.f.l, Value.int .i64 AV.none.f.a, Value.int .i64 AV.none.f.b, Value.int .i64 AV.none.o, Value.int .i64 AV.none.l, Value.int .i64 AV.none.t, Value.int .i64 AV.none.on.c, Value.int .i64 AV.none.on.k, Value.int .i64 AV.none.on.a, Value.int .i64 AV.none.on.t, Value.int .i64 AV.none.ar.c, Value.int .i64 AV.none.ar.k, Value.int .i64 AV.none.ar.a, Value.int .i64 AV.none.ar.t] 35))
    generalize ((w.alloc (.cells #[Value.int .i64 a.f.d, Value.int .i64 a.f.l, Value.int .i64 a.f.a, Value.int .i64 a.f.b, Value.int .i64 a.o, Value.int .i64 a.l, Value.int .i64 a.t, Value.int .i64 a.on.c, Value.int .i64 a.on.k, Value.int .i64 a.on.a, Value.int .i64 a.on.t, Value.int .i64 a.ar.c, Value.int .i64 a.ar.k, Value.int .i64 a.ar.a, Value.int .i64 a.ar.t, .slice A ss.length c] 40)).alloc (.cells #[Value.int .i64 AV.none.f.d, Value.int .i64 AV.none.f.l, Value.int .i64 AV.none.f.a, Value.int .i64 AV.none.f.b, Value.int .i64 AV.none.o, Value.int .i64 AV.none.l, Value.int .i64 AV.none.t, Value.int .i64 AV.none.on.c, Value.int .i64 AV.none.on.k, Value.int .i64 AV.none.on.a, Value.int .i64 AV.none.on.t, Value.int .i64 AV.none.ar.c, Value.int .i64 AV.none.ar.k, Value.int .i64 AV.none.ar.a, Value.int .i64 AV.none.ar.t] 35)) = W at *
    replace hv := hv.below hW
  · have HE := Lib.hid (res_bad hok)
    go_wp2_with (first
      | ((with_reducible refine wp_ldB ?_ row_sk B1 ?_); (focus (refine ⟨rfl, ⟨_, rfl, ?_⟩, rfl⟩; simp [go_sem]; done)))
      | (go_at_call 26; refine (spec_l7Good a _ ss _ _ hv).mono ?_; rintro e w1 ⟨rfl, hb1⟩; replace BR := BR.below hb1; replace hW := bstep hW hb1; clear hb1)
      | ((with_reducible refine' wp_stB row_impl BR _ _); rotate_left; (focus (refine ⟨rfl, ⟨_, _, rfl, ?_, rfl⟩, rfl, rfl, ?_⟩; (focus (simp [go_sem]; done)); (focus (simp [Value.oneCell']; done)))); intro w3 hg3 hb3))
    refine ret_rowA2 rfl rfl hb3 rfl rfl rfl ?_
    exact ⟨by rw [HE.out.1, HE.out.2]; rfl, bgrown hW hg3 (by omega)⟩
  · go_wp2_with (first
      | ((with_reducible refine wp_ldB ?_ row_sk B1 ?_); (focus (refine ⟨rfl, ⟨_, rfl, ?_⟩, rfl⟩; simp [go_sem]; done)))
      | (go_at_call 26; refine (spec_l7Good a _ ss _ _ hv).mono ?_; rintro e w1 ⟨rfl, hb1⟩; replace B1 := B1.below hb1; replace BR := BR.below hb1; replace hv := hv.below hb1; replace hW := bstep hW hb1; clear hb1)
      | (go_at_call 27; refine (spec_l7Resolve a _ ss _ _ hv hok).mono ?_; rintro e w2 ⟨rfl, hb2⟩; replace BR := BR.below hb2; replace hW := bstep hW hb2; clear hb2)
      | ((with_reducible refine' wp_stB row_impl BR _ _); rotate_left; (focus (refine ⟨rfl, ⟨_, _, rfl, ?_, rfl⟩, rfl, rfl, ?_⟩; (focus (simp [go_sem]; done)); (focus (simp [Value.oneCell']; done)))); intro w3 hg3 hb3))
    refine ret_rowA2 rfl rfl hb3 rfl rfl rfl ?_
    exact ⟨rfl, bgrown hW hg3 (by omega)⟩
end Go.Proofs.Ytonkblhajbphmaa
