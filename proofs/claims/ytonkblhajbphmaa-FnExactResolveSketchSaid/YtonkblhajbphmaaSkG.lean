/- Sketches: the reference's test. Conditions: as each theorem says. -/
import Derived.Test.YtonkblhajbphmaaRows
import Derived.Test.YtonkblhajbphmaaSkV
namespace Go.Proofs.Ytonkblhajbphmaa
set_option linter.unusedSimpArgs false
set_option linter.unusedVariables false
open Go.ChangeShapes Go.WideShapes Go.ChangeAt Go.RowKit

theorem skOk_all {a : AV} {xs : List SV} (h1 : a.ok = true) (h2 : a.golden = true) (h3 : xs.length = a.places.length) (h4 : ∀ j, j < xs.length → slotOk (xs.getD j SV.z) = true ∧ ¬ (j + 1 = xs.length ∧ (xs.getD j SV.z).m = 5)) : skOk a xs = true := by
  unfold skOk
  rw [h1, h2, h3]
  have e4 : xs.all slotOk = true := by
    rw [List.all_eq_true]
    intro s hs
    obtain ⟨j, hj, rfl⟩ := List.mem_iff_getElem.1 hs
    have := (h4 j hj).1
    simpa [List.getD_eq_getElem?_getD, hj] using this
  have e5 : lastOk xs = true := by
    unfold lastOk
    by_cases h0 : 0 < xs.length
    · have := (h4 (xs.length - 1) (by omega)).2
      have hm : ¬ (xs.getD (xs.length - 1) SV.z).m = 5 := fun e => this ⟨by omega, e⟩
      simp only [Bool.not_eq_true', Bool.and_eq_false_iff]
      exact .inr (by simpa using hm)
    · simp [h0]
  rw [e4, e5]
  simp
theorem skOk_slot {a : AV} {xs : List SV} {k : Nat} (hk : k < xs.length) (h : slotOk (xs.getD k SV.z) = false) : skOk a xs = false := by
  have e4 : xs.all slotOk = false := by
    rw [List.all_eq_false]
    exact ⟨xs[k], List.getElem_mem hk, by simpa [List.getD_eq_getElem?_getD, hk] using h⟩
  unfold skOk
  rw [e4]
  simp
theorem skOk_last {a : AV} {xs : List SV} {k : Nat} (hk : k + 1 = xs.length) (h : (xs.getD k SV.z).m = 5) : skOk a xs = false := by
  have e5 : lastOk xs = false := by
    unfold lastOk
    have e : xs.length - 1 = k := by omega
    rw [e, h]
    simp
    omega
  unfold skOk
  rw [e5]
  simp
theorem oks_slot {xs : List SV} {k : Nat} (h : ∀ j, j < k → slotOk (xs.getD j SV.z) = true ∧ ¬ (j + 1 = xs.length ∧ (xs.getD j SV.z).m = 5)) (h1 : slotOk (xs.getD k SV.z) = true) (h2 : ¬ (k + 1 = xs.length ∧ (xs.getD k SV.z).m = 5)) :
    ∀ j, j < k + 1 → slotOk (xs.getD j SV.z) = true ∧ ¬ (j + 1 = xs.length ∧ (xs.getD j SV.z).m = 5) := fun j hj => by
  rcases Nat.lt_or_ge j k with h3 | h3
  · exact h j h3
  · obtain rfl : j = k := by omega
    exact ⟨h1, h2⟩
set_option maxHeartbeats 2000000 in
theorem spec_l7Good (a : AV) (v : Value) (xs : List SV) (w : World) (B : Nat) (hv : Slots w B v xs) : Calls Try.prog 26 #[.agg #[Value.int .i64 a.f.d, Value.int .i64 a.f.l, Value.int .i64 a.f.a, Value.int .i64 a.f.b, Value.int .i64 a.o, Value.int .i64 a.l, Value.int .i64 a.t, Value.int .i64 a.on.c, Value.int .i64 a.on.k, Value.int .i64 a.on.a, Value.int .i64 a.on.t, Value.int .i64 a.ar.c, Value.int .i64 a.ar.k, Value.int .i64 a.ar.a, Value.int .i64 a.ar.t, v]] w fun e w' => e = .returned (.bool (skOk a xs)) ∧ Below w.heap.size w w' := by
  have he0 := eqg_arms
  have he1 := neq_arms
  have hm := Recs.room hv
  unfold maxLen at hm
  obtain ⟨A, c, rfl, ha⟩ := hv.shape
  have HA := Lib.hid ha
  clear ha hv
  go_enter Try.func26, Try.ntmps26
  go_upto_region 1 with fail
  have B1 := blk_one w 40 #[Value.int .i64 a.f.d, Value.int .i64 a.f.l, Value.int .i64 a.f.a, Value.int .i64 a.f.b, Value.int .i64 a.o, Value.int .i64 a.l, Value.int .i64 a.t, Value.int .i64 a.on.c, Value.int .i64 a.on.k, Value.int .i64 a.on.a, Value.int .i64 a.on.t, Value.int .i64 a.ar.c, Value.int .i64 a.ar.k, Value.int .i64 a.ar.a, Value.int .i64 a.ar.t, .slice A xs.length c]
  have hW : Below w.heap.size w (w.alloc (.cells #[Value.int .i64 a.f.d, Value.int .i64 a.f.l, Value.int .i64 a.f.a, Value.int .i64 a.f.b, Value.int .i64 a.o, Value.int .i64 a.l, Value.int .i64 a.t, Value.int .i64 a.on.c, Value.int .i64 a.on.k, Value.int .i64 a.on.a, Value.int .i64 a.on.t, Value.int .i64 a.ar.c, Value.int .i64 a.ar.k, Value.int .i64 a.ar.a, Value.int .i64 a.ar.t, .slice A xs.length c] 40)) := (by repeat (first | (with_reducible exact Below.refl _ _) | (with_reducible assumption) | (with_reducible refine balloc ?_ _) | (with_reducible refine bdrew ?_) | (with_reducible refine bdrewN ?_ _) | (with_reducible refine bset ?_ (by first | omega | (simp; done) | (simp; omega)) _) | (with_reducible refine bstep ?_ (by assumption))))
  show Code.wp _ _ _ _ (w.alloc (.cells #[Value.int .i64 a.f.d, Value.int .i64 a.f.l, Value.int .i64 a.f.a, Value.int .i64 a.f.b, Value.int .i64 a.o, Value.int .i64 a.l, Value.int .i64 a.t, Value.int .i64 a.on.c, Value.int .i64 a.on.k, Value.int .i64 a.on.a, Value.int .i64 a.on.t, Value.int .i64 a.ar.c, Value.int .i64 a.ar.k, Value.int .i64 a.ar.a, Value.int .i64 a.ar.t, .slice A xs.length c] 40))
  generalize w.alloc (.cells #[Value.int .i64 a.f.d, Value.int .i64 a.f.l, Value.int .i64 a.f.a, Value.int .i64 a.f.b, Value.int .i64 a.o, Value.int .i64 a.l, Value.int .i64 a.t, Value.int .i64 a.on.c, Value.int .i64 a.on.k, Value.int .i64 a.on.a, Value.int .i64 a.on.t, Value.int .i64 a.ar.c, Value.int .i64 a.ar.k, Value.int .i64 a.ar.a, Value.int .i64 a.ar.t, .slice A xs.length c] 40) = W at *
  have C1 : Hid (∀ w', Below W.heap.size W w' → RangeX w' ⟨w.heap.size, 0, none⟩ [Value.int .i64 a.f.d, Value.int .i64 a.f.l, Value.int .i64 a.f.a, Value.int .i64 a.f.b, Value.int .i64 a.o, Value.int .i64 a.l, Value.int .i64 a.t, Value.int .i64 a.on.c, Value.int .i64 a.on.k, Value.int .i64 a.on.a, Value.int .i64 a.on.t, Value.int .i64 a.ar.c, Value.int .i64 a.ar.k, Value.int .i64 a.ar.a, Value.int .i64 a.ar.t]) := fun w' h => Blk.head (R := [.slice A xs.length c]) (B1.below h)
  have C2 : Hid (∀ w', Below W.heap.size W w' → w'.cell? ⟨w.heap.size, 15, none⟩ = some (.slice A xs.length c)) := fun w' h => (B1.below h).cell 15
  cases hok : a.ok
  · have hW0 := hW
    refine wp_region_mild0 [true, true, true, true, true, true, true, true, true, true, true, true, true, true, true, true, true, true, true, true, true] (by kernel_rfl) (by kernel_rfl) ?_
    refine wpMildL_take rfl ?_
    apply Exists.intro
    refine ⟨fun w' hw' => ?_, ?_⟩
    · go_simp
      with_reducible rfl
    simp only [Act.put, List.setIfInBounds_toArray, List.set_cons_zero, List.set_cons_succ]
    refine wpMildL_take rfl ⟨_, mild_loadX _ rfl _ rfl _ (fun w' h => C1.out w' h) row_impl, ?_⟩
    simp only [Act.put, List.setIfInBounds_toArray, List.set_cons_zero, List.set_cons_succ]
    refine wpMildL_take rfl ?_
    apply Exists.intro
    refine ⟨fun w' hw' => ?_, ?_⟩
    · go_simp
      exact spec_l5Good a _
    simp only [Act.put, List.setIfInBounds_toArray, List.set_cons_zero, List.set_cons_succ]
    refine wpMildL_take rfl ?_
    apply Exists.intro
    refine ⟨fun w' hw' => ?_, ?_⟩
    · go_simp
      with_reducible rfl
    simp only [Act.put, List.setIfInBounds_toArray, List.set_cons_zero, List.set_cons_succ]
    refine wpMildL_take rfl ?_
    apply Exists.intro
    refine ⟨fun w' hw' => ?_, ?_⟩
    · go_simp
      with_reducible rfl
    simp only [Act.put, List.setIfInBounds_toArray, List.set_cons_zero, List.set_cons_succ]
    refine wpMildL_skip rfl ?_
    simp only [Act.put, List.setIfInBounds_toArray, List.set_cons_zero, List.set_cons_succ]
    refine wpMildL_skip rfl ?_
    simp only [Act.put, List.setIfInBounds_toArray, List.set_cons_zero, List.set_cons_succ]
    refine wpMildL_skip rfl ?_
    simp only [Act.put, List.setIfInBounds_toArray, List.set_cons_zero, List.set_cons_succ]
    refine wpMildL_skip rfl ?_
    simp only [Act.put, List.setIfInBounds_toArray, List.set_cons_zero, List.set_cons_succ]
    refine wpMildL_skip rfl ?_
    simp only [Act.put, List.setIfInBounds_toArray, List.set_cons_zero, List.set_cons_succ]
    refine wpMildL_skip rfl ?_
    simp only [Act.put, List.setIfInBounds_toArray, List.set_cons_zero, List.set_cons_succ]
    refine wpMildL_take rfl ?_
    apply Exists.intro
    refine ⟨fun w' hw' => ?_, ?_⟩
    · go_simp
      with_reducible rfl
    simp only [Act.put, List.setIfInBounds_toArray, List.set_cons_zero, List.set_cons_succ]
    refine wpMildL_take rfl ?_
    apply Exists.intro
    refine ⟨fun w' hw' => ?_, ?_⟩
    · go_simp
      with_reducible rfl
    simp only [Act.put, List.setIfInBounds_toArray, List.set_cons_zero, List.set_cons_succ]
    refine wpMildL_skip rfl ?_
    simp only [Act.put, List.setIfInBounds_toArray, List.set_cons_zero, List.set_cons_succ]
    refine wpMildL_skip rfl ?_
    simp only [Act.put, List.setIfInBounds_toArray, List.set_cons_zero, List.set_cons_succ]
    refine wpMildL_skip rfl ?_
    simp only [Act.put, List.setIfInBounds_toArray, List.set_cons_zero, List.set_cons_succ]
    refine wpMildL_skip rfl ?_
    simp only [Act.put, List.setIfInBounds_toArray, List.set_cons_zero, List.set_cons_succ]
    refine wpMildL_skip rfl ?_
    simp only [Act.put, List.setIfInBounds_toArray, List.set_cons_zero, List.set_cons_succ]
    refine wpMildL_skip rfl ?_
    simp only [Act.put, List.setIfInBounds_toArray, List.set_cons_zero, List.set_cons_succ]
    refine wpMildL_skip rfl ?_
    simp only [Act.put, List.setIfInBounds_toArray, List.set_cons_zero, List.set_cons_succ]
    refine wpMildL_take rfl ?_
    apply Exists.intro
    refine ⟨fun w' hw' => ?_, ?_⟩
    · go_simp
      with_reducible rfl
    simp only [Act.put, List.setIfInBounds_toArray, List.set_cons_zero, List.set_cons_succ]
    refine wpMildL_nil ?_
    intro w1 hb1
    go_wp2
    go_ret
    exact ⟨by unfold skOk; rw [hok]; rfl, bstep hW hb1⟩
  have h0 := (ok_ord hok).1
  cases hg : a.golden
  · have hq : a.eqb a.bare = false := by rw [eqb_bare]; exact hg
    refine wp_region_mild0 [true, true, true, true, true, true, true, true, true, true, true, true, true, true, true, true, true, true, true, true, true] (by kernel_rfl) (by kernel_rfl) ?_
    refine wpMildL_take rfl ?_
    apply Exists.intro
    refine ⟨fun w' hw' => ?_, ?_⟩
    · go_simp
      with_reducible rfl
    simp only [Act.put, List.setIfInBounds_toArray, List.set_cons_zero, List.set_cons_succ]
    refine wpMildL_take rfl ⟨_, mild_loadX _ rfl _ rfl _ (fun w' h => C1.out w' h) row_impl, ?_⟩
    simp only [Act.put, List.setIfInBounds_toArray, List.set_cons_zero, List.set_cons_succ]
    refine wpMildL_take rfl ?_
    apply Exists.intro
    refine ⟨fun w' hw' => ?_, ?_⟩
    · go_simp
      exact spec_l5Good a _
    simp only [Act.put, List.setIfInBounds_toArray, List.set_cons_zero, List.set_cons_succ]
    refine wpMildL_take rfl ?_
    apply Exists.intro
    refine ⟨fun w' hw' => ?_, ?_⟩
    · go_simp
      with_reducible rfl
    simp only [Act.put, List.setIfInBounds_toArray, List.set_cons_zero, List.set_cons_succ]
    refine wpMildL_take rfl ?_
    apply Exists.intro
    refine ⟨fun w' hw' => ?_, ?_⟩
    · go_simp
      with_reducible rfl
    simp only [Act.put, List.setIfInBounds_toArray, List.set_cons_zero, List.set_cons_succ]
    refine wpMildL_take rfl ?_
    apply Exists.intro
    refine ⟨fun w' hw' => ?_, ?_⟩
    · go_simp
      with_reducible rfl
    simp only [Act.put, List.setIfInBounds_toArray, List.set_cons_zero, List.set_cons_succ]
    refine wpMildL_take rfl ⟨_, mild_loadX _ rfl _ rfl _ (fun w' h => C1.out w' h) row_impl, ?_⟩
    simp only [Act.put, List.setIfInBounds_toArray, List.set_cons_zero, List.set_cons_succ]
    refine wpMildL_take rfl ?_
    apply Exists.intro
    refine ⟨fun w' hw' => ?_, ?_⟩
    · go_simp
      with_reducible rfl
    simp only [Act.put, List.setIfInBounds_toArray, List.set_cons_zero, List.set_cons_succ]
    refine wpMildL_take rfl ⟨_, mild_loadX _ rfl _ rfl _ (fun w' h => C1.out w' h) row_impl, ?_⟩
    simp only [Act.put, List.setIfInBounds_toArray, List.set_cons_zero, List.set_cons_succ]
    refine wpMildL_take rfl ?_
    apply Exists.intro
    refine ⟨fun w' hw' => ?_, ?_⟩
    · go_simp
      exact spec_l7Bare a h0 _
    simp only [Act.put, List.setIfInBounds_toArray, List.set_cons_zero, List.set_cons_succ]
    refine wpMildL_take rfl ?_
    apply Exists.intro
    refine ⟨fun w' hw' => ?_, ?_⟩
    · go_simp
      with_reducible rfl
    simp only [Act.put, List.setIfInBounds_toArray, List.set_cons_zero, List.set_cons_succ]
    refine wpMildL_take rfl ?_
    apply Exists.intro
    refine ⟨fun w' hw' => ?_, ?_⟩
    · go_simp
      with_reducible rfl
    simp only [Act.put, List.setIfInBounds_toArray, List.set_cons_zero, List.set_cons_succ]
    refine wpMildL_take rfl ?_
    apply Exists.intro
    refine ⟨fun w' hw' => ?_, ?_⟩
    · go_simp
      with_reducible rfl
    simp only [Act.put, List.setIfInBounds_toArray, List.set_cons_zero, List.set_cons_succ]
    refine wpMildL_skip rfl ?_
    simp only [Act.put, List.setIfInBounds_toArray, List.set_cons_zero, List.set_cons_succ]
    refine wpMildL_skip rfl ?_
    simp only [Act.put, List.setIfInBounds_toArray, List.set_cons_zero, List.set_cons_succ]
    refine wpMildL_skip rfl ?_
    simp only [Act.put, List.setIfInBounds_toArray, List.set_cons_zero, List.set_cons_succ]
    refine wpMildL_skip rfl ?_
    simp only [Act.put, List.setIfInBounds_toArray, List.set_cons_zero, List.set_cons_succ]
    refine wpMildL_skip rfl ?_
    simp only [Act.put, List.setIfInBounds_toArray, List.set_cons_zero, List.set_cons_succ]
    refine wpMildL_skip rfl ?_
    simp only [Act.put, List.setIfInBounds_toArray, List.set_cons_zero, List.set_cons_succ]
    refine wpMildL_skip rfl ?_
    simp only [Act.put, List.setIfInBounds_toArray, List.set_cons_zero, List.set_cons_succ]
    refine wpMildL_take rfl ?_
    apply Exists.intro
    refine ⟨fun w' hw' => ?_, ?_⟩
    · go_simp
      with_reducible rfl
    simp only [Act.put, List.setIfInBounds_toArray, List.set_cons_zero, List.set_cons_succ]
    refine wpMildL_nil ?_
    intro w1 hb1
    go_wp2
    go_ret
    exact ⟨by unfold skOk; rw [hg]; simp, bstep hW hb1⟩
  have hq : a.eqb a.bare = true := by rw [eqb_bare]; exact hg
  have hp := places_len a
  cases hl : ((xs.length : Int) == (a.places.length : Int))
  · have hl' : (xs.length == a.places.length) = false := by
      have : ¬ (xs.length : Int) = (a.places.length : Int) := by simpa using hl
      simp; omega
    refine wp_region_mild0 [true, true, true, true, true, true, true, true, true, true, true, true, true, true, true, true, true, true, true, true, true] (by kernel_rfl) (by kernel_rfl) ?_
    refine wpMildL_take rfl ?_
    apply Exists.intro
    refine ⟨fun w' hw' => ?_, ?_⟩
    · go_simp
      with_reducible rfl
    simp only [Act.put, List.setIfInBounds_toArray, List.set_cons_zero, List.set_cons_succ]
    refine wpMildL_take rfl ⟨_, mild_loadX _ rfl _ rfl _ (fun w' h => C1.out w' h) row_impl, ?_⟩
    simp only [Act.put, List.setIfInBounds_toArray, List.set_cons_zero, List.set_cons_succ]
    refine wpMildL_take rfl ?_
    apply Exists.intro
    refine ⟨fun w' hw' => ?_, ?_⟩
    · go_simp
      exact spec_l5Good a _
    simp only [Act.put, List.setIfInBounds_toArray, List.set_cons_zero, List.set_cons_succ]
    refine wpMildL_take rfl ?_
    apply Exists.intro
    refine ⟨fun w' hw' => ?_, ?_⟩
    · go_simp
      with_reducible rfl
    simp only [Act.put, List.setIfInBounds_toArray, List.set_cons_zero, List.set_cons_succ]
    refine wpMildL_take rfl ?_
    apply Exists.intro
    refine ⟨fun w' hw' => ?_, ?_⟩
    · go_simp
      with_reducible rfl
    simp only [Act.put, List.setIfInBounds_toArray, List.set_cons_zero, List.set_cons_succ]
    refine wpMildL_take rfl ?_
    apply Exists.intro
    refine ⟨fun w' hw' => ?_, ?_⟩
    · go_simp
      with_reducible rfl
    simp only [Act.put, List.setIfInBounds_toArray, List.set_cons_zero, List.set_cons_succ]
    refine wpMildL_take rfl ⟨_, mild_loadX _ rfl _ rfl _ (fun w' h => C1.out w' h) row_impl, ?_⟩
    simp only [Act.put, List.setIfInBounds_toArray, List.set_cons_zero, List.set_cons_succ]
    refine wpMildL_take rfl ?_
    apply Exists.intro
    refine ⟨fun w' hw' => ?_, ?_⟩
    · go_simp
      with_reducible rfl
    simp only [Act.put, List.setIfInBounds_toArray, List.set_cons_zero, List.set_cons_succ]
    refine wpMildL_take rfl ⟨_, mild_loadX _ rfl _ rfl _ (fun w' h => C1.out w' h) row_impl, ?_⟩
    simp only [Act.put, List.setIfInBounds_toArray, List.set_cons_zero, List.set_cons_succ]
    refine wpMildL_take rfl ?_
    apply Exists.intro
    refine ⟨fun w' hw' => ?_, ?_⟩
    · go_simp
      exact spec_l7Bare a h0 _
    simp only [Act.put, List.setIfInBounds_toArray, List.set_cons_zero, List.set_cons_succ]
    refine wpMildL_take rfl ?_
    apply Exists.intro
    refine ⟨fun w' hw' => ?_, ?_⟩
    · go_simp
      with_reducible rfl
    simp only [Act.put, List.setIfInBounds_toArray, List.set_cons_zero, List.set_cons_succ]
    refine wpMildL_take rfl ?_
    apply Exists.intro
    refine ⟨fun w' hw' => ?_, ?_⟩
    · go_simp
      with_reducible rfl
    simp only [Act.put, List.setIfInBounds_toArray, List.set_cons_zero, List.set_cons_succ]
    refine wpMildL_take rfl ?_
    apply Exists.intro
    refine ⟨fun w' hw' => ?_, ?_⟩
    · go_simp
      with_reducible rfl
    simp only [Act.put, List.setIfInBounds_toArray, List.set_cons_zero, List.set_cons_succ]
    refine wpMildL_take rfl ?_
    apply Exists.intro
    refine ⟨fun w' hw' => ?_, ?_⟩
    · go_simp
      with_reducible rfl
    simp only [Act.put, List.setIfInBounds_toArray, List.set_cons_zero, List.set_cons_succ]
    refine wpMildL_take rfl ?_
    apply Exists.intro
    refine ⟨fun w' hw' => ?_, ?_⟩
    · (have hc := C2.out w' hw'; go_simp; with_reducible rfl)
    simp only [Act.put, List.setIfInBounds_toArray, List.set_cons_zero, List.set_cons_succ]
    refine wpMildL_take rfl ?_
    apply Exists.intro
    refine ⟨fun w' hw' => ?_, ?_⟩
    · go_simp
      with_reducible rfl
    simp only [Act.put, List.setIfInBounds_toArray, List.set_cons_zero, List.set_cons_succ]
    refine wpMildL_take rfl ?_
    apply Exists.intro
    refine ⟨fun w' hw' => ?_, ?_⟩
    · go_simp
      with_reducible rfl
    simp only [Act.put, List.setIfInBounds_toArray, List.set_cons_zero, List.set_cons_succ]
    refine wpMildL_take rfl ⟨_, mild_loadX _ rfl _ rfl _ (fun w' h => C1.out w' h) row_impl, ?_⟩
    simp only [Act.put, List.setIfInBounds_toArray, List.set_cons_zero, List.set_cons_succ]
    refine wpMildL_take rfl ?_
    apply Exists.intro
    refine ⟨fun w' hw' => ?_, ?_⟩
    · go_simp
      exact spec_l7Count a hok _
    simp only [Act.put, List.setIfInBounds_toArray, List.set_cons_zero, List.set_cons_succ]
    refine wpMildL_take rfl ?_
    apply Exists.intro
    refine ⟨fun w' hw' => ?_, ?_⟩
    · go_simp
      with_reducible rfl
    simp only [Act.put, List.setIfInBounds_toArray, List.set_cons_zero, List.set_cons_succ]
    refine wpMildL_take rfl ?_
    apply Exists.intro
    refine ⟨fun w' hw' => ?_, ?_⟩
    · go_simp
      with_reducible rfl
    simp only [Act.put, List.setIfInBounds_toArray, List.set_cons_zero, List.set_cons_succ]
    refine wpMildL_nil ?_
    intro w1 hb1
    go_wp2
    go_ret
    exact ⟨by unfold skOk; rw [hl']; simp, bstep hW hb1⟩
  have hl' : xs.length = a.places.length := by
    have : (xs.length : Int) = (a.places.length : Int) := by simpa using hl
    omega
  have HALL := Lib.hid (fun h4 => skOk_all (a := a) (xs := xs) hok hg hl' h4)
  refine wp_region_mild0 [true, true, true, true, true, true, true, true, true, true, true, true, true, true, true, true, true, true, true, true, true] (by kernel_rfl) (by kernel_rfl) ?_
  refine wpMildL_take rfl ?_
  apply Exists.intro
  refine ⟨fun w' hw' => ?_, ?_⟩
  · go_simp
    with_reducible rfl
  simp only [Act.put, List.setIfInBounds_toArray, List.set_cons_zero, List.set_cons_succ]
  refine wpMildL_take rfl ⟨_, mild_loadX _ rfl _ rfl _ (fun w' h => C1.out w' h) row_impl, ?_⟩
  simp only [Act.put, List.setIfInBounds_toArray, List.set_cons_zero, List.set_cons_succ]
  refine wpMildL_take rfl ?_
  apply Exists.intro
  refine ⟨fun w' hw' => ?_, ?_⟩
  · go_simp
    exact spec_l5Good a _
  simp only [Act.put, List.setIfInBounds_toArray, List.set_cons_zero, List.set_cons_succ]
  refine wpMildL_take rfl ?_
  apply Exists.intro
  refine ⟨fun w' hw' => ?_, ?_⟩
  · go_simp
    with_reducible rfl
  simp only [Act.put, List.setIfInBounds_toArray, List.set_cons_zero, List.set_cons_succ]
  refine wpMildL_take rfl ?_
  apply Exists.intro
  refine ⟨fun w' hw' => ?_, ?_⟩
  · go_simp
    with_reducible rfl
  simp only [Act.put, List.setIfInBounds_toArray, List.set_cons_zero, List.set_cons_succ]
  refine wpMildL_take rfl ?_
  apply Exists.intro
  refine ⟨fun w' hw' => ?_, ?_⟩
  · go_simp
    with_reducible rfl
  simp only [Act.put, List.setIfInBounds_toArray, List.set_cons_zero, List.set_cons_succ]
  refine wpMildL_take rfl ⟨_, mild_loadX _ rfl _ rfl _ (fun w' h => C1.out w' h) row_impl, ?_⟩
  simp only [Act.put, List.setIfInBounds_toArray, List.set_cons_zero, List.set_cons_succ]
  refine wpMildL_take rfl ?_
  apply Exists.intro
  refine ⟨fun w' hw' => ?_, ?_⟩
  · go_simp
    with_reducible rfl
  simp only [Act.put, List.setIfInBounds_toArray, List.set_cons_zero, List.set_cons_succ]
  refine wpMildL_take rfl ⟨_, mild_loadX _ rfl _ rfl _ (fun w' h => C1.out w' h) row_impl, ?_⟩
  simp only [Act.put, List.setIfInBounds_toArray, List.set_cons_zero, List.set_cons_succ]
  refine wpMildL_take rfl ?_
  apply Exists.intro
  refine ⟨fun w' hw' => ?_, ?_⟩
  · go_simp
    exact spec_l7Bare a h0 _
  simp only [Act.put, List.setIfInBounds_toArray, List.set_cons_zero, List.set_cons_succ]
  refine wpMildL_take rfl ?_
  apply Exists.intro
  refine ⟨fun w' hw' => ?_, ?_⟩
  · go_simp
    with_reducible rfl
  simp only [Act.put, List.setIfInBounds_toArray, List.set_cons_zero, List.set_cons_succ]
  refine wpMildL_take rfl ?_
  apply Exists.intro
  refine ⟨fun w' hw' => ?_, ?_⟩
  · go_simp
    with_reducible rfl
  simp only [Act.put, List.setIfInBounds_toArray, List.set_cons_zero, List.set_cons_succ]
  refine wpMildL_take rfl ?_
  apply Exists.intro
  refine ⟨fun w' hw' => ?_, ?_⟩
  · go_simp
    with_reducible rfl
  simp only [Act.put, List.setIfInBounds_toArray, List.set_cons_zero, List.set_cons_succ]
  refine wpMildL_take rfl ?_
  apply Exists.intro
  refine ⟨fun w' hw' => ?_, ?_⟩
  · go_simp
    with_reducible rfl
  simp only [Act.put, List.setIfInBounds_toArray, List.set_cons_zero, List.set_cons_succ]
  refine wpMildL_take rfl ?_
  apply Exists.intro
  refine ⟨fun w' hw' => ?_, ?_⟩
  · (have hc := C2.out w' hw'; go_simp; with_reducible rfl)
  simp only [Act.put, List.setIfInBounds_toArray, List.set_cons_zero, List.set_cons_succ]
  refine wpMildL_take rfl ?_
  apply Exists.intro
  refine ⟨fun w' hw' => ?_, ?_⟩
  · go_simp
    with_reducible rfl
  simp only [Act.put, List.setIfInBounds_toArray, List.set_cons_zero, List.set_cons_succ]
  refine wpMildL_take rfl ?_
  apply Exists.intro
  refine ⟨fun w' hw' => ?_, ?_⟩
  · go_simp
    with_reducible rfl
  simp only [Act.put, List.setIfInBounds_toArray, List.set_cons_zero, List.set_cons_succ]
  refine wpMildL_take rfl ⟨_, mild_loadX _ rfl _ rfl _ (fun w' h => C1.out w' h) row_impl, ?_⟩
  simp only [Act.put, List.setIfInBounds_toArray, List.set_cons_zero, List.set_cons_succ]
  refine wpMildL_take rfl ?_
  apply Exists.intro
  refine ⟨fun w' hw' => ?_, ?_⟩
  · go_simp
    exact spec_l7Count a hok _
  simp only [Act.put, List.setIfInBounds_toArray, List.set_cons_zero, List.set_cons_succ]
  refine wpMildL_take rfl ?_
  apply Exists.intro
  refine ⟨fun w' hw' => ?_, ?_⟩
  · go_simp
    with_reducible rfl
  simp only [Act.put, List.setIfInBounds_toArray, List.set_cons_zero, List.set_cons_succ]
  refine wpMildL_take rfl ?_
  apply Exists.intro
  refine ⟨fun w' hw' => ?_, ?_⟩
  · go_simp
    with_reducible rfl
  simp only [Act.put, List.setIfInBounds_toArray, List.set_cons_zero, List.set_cons_succ]
  refine wpMildL_nil ?_
  intro w1 hb1
  have H0 : Hid (Blk w1 w.heap.size 40 #[Value.int .i64 a.f.d, Value.int .i64 a.f.l, Value.int .i64 a.f.a, Value.int .i64 a.f.b, Value.int .i64 a.o, Value.int .i64 a.l, Value.int .i64 a.t, Value.int .i64 a.on.c, Value.int .i64 a.on.k, Value.int .i64 a.on.a, Value.int .i64 a.on.t, Value.int .i64 a.ar.c, Value.int .i64 a.ar.k, Value.int .i64 a.ar.a, Value.int .i64 a.ar.t, .slice A xs.length c] ∧ Below w.heap.size w w1) := ⟨B1.below hb1, bstep hW hb1⟩
  clear C1 C2 B1 hW hb1 hok h0 hg hq hl hl' hp he0 he1
  go_wp2
  go_loopw [3] (fun i wr => ∃ k : Nat, k ≤ xs.length ∧ i = .int .i64 k ∧ Hid (∀ j, j < k → slotOk (xs.getD j SV.z) = true ∧ ¬ (j + 1 = xs.length ∧ (xs.getD j SV.z).m = 5)) ∧ Hid (Blk wr w.heap.size 40 #[Value.int .i64 a.f.d, Value.int .i64 a.f.l, Value.int .i64 a.f.a, Value.int .i64 a.f.b, Value.int .i64 a.o, Value.int .i64 a.l, Value.int .i64 a.t, Value.int .i64 a.on.c, Value.int .i64 a.on.k, Value.int .i64 a.on.a, Value.int .i64 a.on.t, Value.int .i64 a.ar.c, Value.int .i64 a.ar.k, Value.int .i64 a.ar.a, Value.int .i64 a.ar.t, .slice A xs.length c] ∧ Below w.heap.size w wr)) (fun i _ => xs.length - (intOf i).toNat)
  case atStart => exact ⟨0, Nat.zero_le _, rfl, fun j hj => absurd hj (Nat.not_lt_zero _), H0⟩
  case round =>
    obtain ⟨k, hk, rfl, hal, hb⟩ := hrel
    clear H0
    have c1 : wr.cell? ⟨w.heap.size, 15, none⟩ = some (.slice A xs.length c) := hb.out.1.cell 15
    by_cases hlt : k < xs.length
    · obtain ⟨g, rfl, _, hgl, hc, _⟩ := HA.out k hlt
      have HBAD : Hid (slotOk (xs.getD k SV.z) = false → skOk a xs = false) := skOk_slot hlt
      have HLAST : Hid (k + 1 = xs.length → (xs.getD k SV.z).m = 5 → skOk a xs = false) := skOk_last
      have HST : Hid (slotOk (xs.getD k SV.z) = true → ¬ (k + 1 = xs.length ∧ (xs.getD k SV.z).m = 5) → ∀ j, j < k + 1 → slotOk (xs.getD j SV.z) = true ∧ ¬ (j + 1 = xs.length ∧ (xs.getD j SV.z).m = 5)) := oks_slot hal.out
      have CS : Hid (∀ w', Below wr.heap.size wr w' → w'.rangeAt g (k * 2) (xs.getD k SV.z).row) := fun w' h => range_below hc (bstep hb.out.2 h)
      generalize xs.getD k SV.z = s at *
      have CR : RangeX wr ⟨g, k * 2, none⟩ [Value.int .i64 s.m, Value.int .i64 s.n] := RangeX.of (CS.out wr (Below.refl _ _))
      clear hc hal
      cases hs : slotOk s
      · have HE := Lib.hid (HBAD.out hs)
        go_wp2_with (first | ((with_reducible refine wp_ldX ?_ row_slot CR ?_); (focus (refine ⟨rfl, ⟨_, rfl, ?_⟩⟩; simp [go_sem]; done))) | (go_at_call 54; refine (spec_l7Slot s _).mono ?_; rintro e w2 ⟨rfl, hb2⟩; have hB2 := bstep hb.out.2 hb2; clear hb2 c1 CR))
        go_ret
        exact ⟨by rw [HE.out]; rfl, hB2⟩
      · cases hl : ((k : Int) == (xs.length : Int) - 1)
        · have hne : ¬ (k : Int) = (xs.length : Int) - 1 := by simpa using hl
          have HN := Lib.hid (HST.out hs (fun h => hne (by omega)))
          clear hne
          go_wp2_with (first | ((with_reducible refine wp_ldX ?_ row_slot CR ?_); (focus (refine ⟨rfl, ⟨_, rfl, ?_⟩⟩; simp [go_sem]; done))) | (go_at_call 54; refine (spec_l7Slot s _).mono ?_; rintro e w2 ⟨rfl, hb2⟩; have HB := Lib.hid (And.intro (hb.out.1.below hb2) (bstep hb.out.2 hb2)); clear hb2 c1 CR; have c1 : w2.cell? ⟨w.heap.size, 15, none⟩ = some (.slice (some ⟨g, 0, none⟩) xs.length c) := HB.out.1.cell 15))
          go_roundw
          case rel => exact ⟨k + 1, by omega, by go_num, HN, HB⟩
          case measure => simp [intOf]; omega
        · have heq : (k : Int) = (xs.length : Int) - 1 := by simpa using hl
          have hk1 : k + 1 = xs.length := by omega
          cases h5 : (s.m == 5)
          · have HN := Lib.hid (HST.out hs (fun h => by have := h.2; simp [this] at h5))
            clear heq
            go_wp2_with (first | ((with_reducible refine wp_ldX ?_ row_slot CR ?_); (focus (refine ⟨rfl, ⟨_, rfl, ?_⟩⟩; simp [go_sem]; done))) | (go_at_call 54; refine (spec_l7Slot s _).mono ?_; rintro e w2 ⟨rfl, hb2⟩; have HB := Lib.hid (And.intro (hb.out.1.below hb2) (bstep hb.out.2 hb2)); have d0 : w2.cell? ⟨g, k * 2, none⟩ = some (.int .i64 s.m) := CS.out w2 hb2 0 _ rfl; clear hb2 c1 CR; have c1 : w2.cell? ⟨w.heap.size, 15, none⟩ = some (.slice (some ⟨g, 0, none⟩) xs.length c) := HB.out.1.cell 15))
            go_roundw
            case rel => exact ⟨k + 1, by omega, by go_num, HN, HB⟩
            case measure => simp [intOf]; omega
          · have HE := Lib.hid (HLAST.out hk1 (by simpa using h5))
            clear heq
            go_wp2_with (first | ((with_reducible refine wp_ldX ?_ row_slot CR ?_); (focus (refine ⟨rfl, ⟨_, rfl, ?_⟩⟩; simp [go_sem]; done))) | (go_at_call 54; refine (spec_l7Slot s _).mono ?_; rintro e w2 ⟨rfl, hb2⟩; have HB := Lib.hid (And.intro (hb.out.1.below hb2) (bstep hb.out.2 hb2)); have d0 : w2.cell? ⟨g, k * 2, none⟩ = some (.int .i64 s.m) := CS.out w2 hb2 0 _ rfl; clear hb2 c1 CR; have c1 : w2.cell? ⟨w.heap.size, 15, none⟩ = some (.slice (some ⟨g, 0, none⟩) xs.length c) := HB.out.1.cell 15))
            go_ret
            exact ⟨by rw [HE.out]; rfl, HB.out.2⟩
    · obtain rfl : k = xs.length := by omega
      have HE := Lib.hid (HALL.out hal.out)
      go_wp2
      go_ret
      exact ⟨by rw [HE.out]; rfl, hb.out.2⟩
theorem spec_IsValidSketch (a : AV) (v : Value) (xs : List SV) (w : World) (B : Nat) (hv : Slots w B v xs) : Calls Try.prog 23 #[.agg #[Value.int .i64 a.f.d, Value.int .i64 a.f.l, Value.int .i64 a.f.a, Value.int .i64 a.f.b, Value.int .i64 a.o, Value.int .i64 a.l, Value.int .i64 a.t, Value.int .i64 a.on.c, Value.int .i64 a.on.k, Value.int .i64 a.on.a, Value.int .i64 a.on.t, Value.int .i64 a.ar.c, Value.int .i64 a.ar.k, Value.int .i64 a.ar.a, Value.int .i64 a.ar.t, v]] w fun e w' => e = .returned (.bool (skOk a xs)) ∧ Below w.heap.size w w' := by
  go_enter Try.func23, Try.ntmps23
  go_upto_region 1 with fail
  have B1 := blk_one w 40 #[Value.int .i64 a.f.d, Value.int .i64 a.f.l, Value.int .i64 a.f.a, Value.int .i64 a.f.b, Value.int .i64 a.o, Value.int .i64 a.l, Value.int .i64 a.t, Value.int .i64 a.on.c, Value.int .i64 a.on.k, Value.int .i64 a.on.a, Value.int .i64 a.on.t, Value.int .i64 a.ar.c, Value.int .i64 a.ar.k, Value.int .i64 a.ar.a, Value.int .i64 a.ar.t, v]
  have hW : Below w.heap.size w (w.alloc (.cells #[Value.int .i64 a.f.d, Value.int .i64 a.f.l, Value.int .i64 a.f.a, Value.int .i64 a.f.b, Value.int .i64 a.o, Value.int .i64 a.l, Value.int .i64 a.t, Value.int .i64 a.on.c, Value.int .i64 a.on.k, Value.int .i64 a.on.a, Value.int .i64 a.on.t, Value.int .i64 a.ar.c, Value.int .i64 a.ar.k, Value.int .i64 a.ar.a, Value.int .i64 a.ar.t, v] 40)) := (by repeat (first | (with_reducible exact Below.refl _ _) | (with_reducible assumption) | (with_reducible refine balloc ?_ _) | (with_reducible refine bdrew ?_) | (with_reducible refine bdrewN ?_ _) | (with_reducible refine bset ?_ (by first | omega | (simp; done) | (simp; omega)) _) | (with_reducible refine bstep ?_ (by assumption))))
  show Code.wp _ _ _ _ (w.alloc (.cells #[Value.int .i64 a.f.d, Value.int .i64 a.f.l, Value.int .i64 a.f.a, Value.int .i64 a.f.b, Value.int .i64 a.o, Value.int .i64 a.l, Value.int .i64 a.t, Value.int .i64 a.on.c, Value.int .i64 a.on.k, Value.int .i64 a.on.a, Value.int .i64 a.on.t, Value.int .i64 a.ar.c, Value.int .i64 a.ar.k, Value.int .i64 a.ar.a, Value.int .i64 a.ar.t, v] 40))
  generalize w.alloc (.cells #[Value.int .i64 a.f.d, Value.int .i64 a.f.l, Value.int .i64 a.f.a, Value.int .i64 a.f.b, Value.int .i64 a.o, Value.int .i64 a.l, Value.int .i64 a.t, Value.int .i64 a.on.c, Value.int .i64 a.on.k, Value.int .i64 a.on.a, Value.int .i64 a.on.t, Value.int .i64 a.ar.c, Value.int .i64 a.ar.k, Value.int .i64 a.ar.a, Value.int .i64 a.ar.t, v] 40) = W at *
  replace hv := hv.below hW
  go_wp2_with (first | ((with_reducible refine wp_ldB ?_ row_sk B1 ?_); (focus (refine ⟨rfl, ⟨_, rfl, ?_⟩, rfl⟩; simp [go_sem]; done))) | (go_at_call 26; refine (spec_l7Good a v xs _ _ hv).mono ?_; rintro e w1 ⟨rfl, hb1⟩))
  go_ret
  exact ⟨rfl, bstep hW hb1⟩
end Go.Proofs.Ytonkblhajbphmaa
