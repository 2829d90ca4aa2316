/- Slices of arms, and the simplest of arms. Conditions: as each theorem says. -/
import Derived.Test.YtonkblhajbphmaaRows
import Derived.Test.YtonkblhajbphmaaRecs
namespace Go.Proofs.Ytonkblhajbphmaa
set_option linter.unusedSimpArgs false
set_option linter.unusedVariables false
open Go.ChangeShapes Go.WideShapes Go.ChangeAt Go.RowKit

def AV.row (a : AV) : List Value := [Value.int .i64 a.f.d, Value.int .i64 a.f.l, Value.int .i64 a.f.a, Value.int .i64 a.f.b, Value.int .i64 a.o, Value.int .i64 a.l, Value.int .i64 a.t, Value.int .i64 a.on.c, Value.int .i64 a.on.k, Value.int .i64 a.on.a, Value.int .i64 a.on.t, Value.int .i64 a.ar.c, Value.int .i64 a.ar.k, Value.int .i64 a.ar.a, Value.int .i64 a.ar.t]
theorem AV.row_len (a : AV) : a.row.length = 15 := rfl
/-- Arms that came in, in a slice. -/
def ReadsA (w : World) (A : Option Addr) (xs : List AV) : Prop := ∀ k, k < xs.length → ∃ x : Addr, A = some x ∧ RangeX w (x.add (k * 15)) (xs.getD k AV.none).row
theorem ReadsA.below {w w' : World} {A : Option Addr} {xs : List AV} (h : ReadsA w A xs) (hb : Below w.heap.size w w') : ReadsA w' A xs := fun k hk => by
  obtain ⟨x, hx, hc⟩ := h k hk
  exact ⟨x, hx, hc.below hb⟩
theorem arms_info : (Try.prog.info? 35).map (fun i => (i.zero, i.size, i.bytes)) = some (some (.agg #[Value.int .i64 AV.none.f.d, Value.int .i64 AV.none.f.l, Value.int .i64 AV.none.f.a, Value.int .i64 AV.none.f.b, Value.int .i64 AV.none.o, Value.int .i64 AV.none.l, Value.int .i64 AV.none.t, Value.int .i64 AV.none.on.c, Value.int .i64 AV.none.on.k, Value.int .i64 AV.none.on.a, Value.int .i64 AV.none.on.t, Value.int .i64 AV.none.ar.c, Value.int .i64 AV.none.ar.k, Value.int .i64 AV.none.ar.a, Value.int .i64 AV.none.ar.t]), 15, 120) := by kernel_rfl
theorem row_impl : RowTy Try.prog 35 15 := ⟨⟨_, Try.underlying35, rfl⟩, by kernel_rfl⟩
theorem row_laws : RowTy Try.prog 27 15 := ⟨⟨_, Try.underlying27, rfl⟩, by kernel_rfl⟩
def Armss (w : World) (B : Nat) (v : Value) (xs : List AV) : Prop := Recs 35 15 AV.row w B v xs
theorem Armss.below {w w' : World} {B : Nat} {v : Value} {xs : List AV} (h : Armss w B v xs) (hb : Below w.heap.size w w') : Armss w' B v xs := Recs.below h hb
theorem take_set {α : Type} (d : α) (xs zs : List α) (k : Nat) (h : k < xs.length) (hz : zs.length = xs.length) : (xs.take k ++ zs.drop k).set k (xs.getD k d) = xs.take (k + 1) ++ zs.drop (k + 1) := by
  rw [List.take_succ_eq_append_getElem h, List.drop_eq_getElem_cons (show k < zs.length by omega), List.set_append_right _ _ (by simp; omega)]
  have e : k - (List.take k xs).length = 0 := by simp; omega
  rw [e, List.set_cons_zero, show xs.getD k d = xs[k] by simp [List.getD_eq_getElem?_getD, h], List.append_assoc]
  rfl
theorem laws_szArmsS (A : Option Addr) (n c : Nat) (hn : n ≤ maxLen) (w : World) : Calls Try.prog 13 #[.slice A n c, .int .i64 1048576] w fun e w' => e = .returned (.int .i64 (if n ≤ 1048576 then 1048576 - (n : Int) else -1)) ∧ w' = w := by
  unfold maxLen at hn
  by_cases h : n ≤ 1048576
  · rw [if_pos h]
    have h' : ¬ (1048576 - (n : Int) < 0) := by omega
    go_enter Try.func13, Try.ntmps13
    go_wp2
    go_ret
    exact ⟨rfl, rfl⟩
  · rw [if_neg h]
    have h' : 1048576 - (n : Int) < 0 := by omega
    go_enter Try.func13, Try.ntmps13
    go_wp2
    go_ret
    exact ⟨rfl, rfl⟩
set_option maxRecDepth 100000 in
set_option maxHeartbeats 1000000 in
theorem laws_toArmsS (A : Option Addr) (n c : Nat) (xs : List AV) (hn : n = xs.length) (w : World) (hr : ReadsA w A xs) (hl : xs.length ≤ 1048576) :
    Calls Try.prog 15 #[.slice A n c] w fun e w' => ∃ v, e = .returned v ∧ Armss w' w.heap.size v xs ∧ Below w.heap.size w w' := by
  subst hn
  obtain ⟨i0, hi0, hz0, hz1, hz2⟩ := info_parts arms_info
  have HR := Lib.hid hr
  clear hr
  go_enter Try.func15, Try.ntmps15
  go_wp2_with (refine wpList_make_full _ rfl _ _ 49 rfl w.heap.size 35 i0 _ 15 Try.underlying49 hi0 hz0 hz1 .i64 .i64 _ _ xs.length rfl rfl rfl rfl (by rw [hz2]; omega) (by unfold maxLen; omega) (Nat.le_refl _) ?_; intro w1 hown hg1)
  have HB : Hid (Below w.heap.size w w1) := (Below.refl _ _).grown hg1 (Nat.le_refl _) (fun k hk => by cases hk)
  have H0 : Hid (Armss w1 w.heap.size (.slice (some ⟨w.heap.size, 0, none⟩) xs.length xs.length) (xs.take 0 ++ (List.replicate xs.length AV.none).drop 0)) := by
    have h1 : Recs 35 15 AV.row w1 w.heap.size (.slice (some ⟨w.heap.size, 0, none⟩) xs.length xs.length) (List.replicate xs.length AV.none) := Recs.made w1 AV.none rfl rfl (by decide) hown
    show Recs _ _ _ _ _ _ _
    simpa using h1
  clear hown hg1
  go_loopw [4] (fun i wr => ∃ k : Nat, k ≤ xs.length ∧ i = .int .i64 k ∧ Hid (Armss wr w.heap.size (.slice (some ⟨w.heap.size, 0, none⟩) xs.length xs.length) (xs.take k ++ (List.replicate xs.length AV.none).drop k)) ∧ Hid (Below w.heap.size w wr)) (fun i _ => xs.length - (intOf i).toNat)
  case atStart => exact ⟨0, Nat.zero_le _, rfl, H0, HB⟩
  case round =>
    obtain ⟨k, hk, rfl, hi, hb⟩ := hrel
    clear H0 HB
    by_cases hlt : k < xs.length
    · obtain ⟨x, rfl, hc⟩ := HR.out k hlt
      have hn : (xs.take k ++ (List.replicate xs.length AV.none).drop k).length = xs.length := by simp; omega
      have HN := Lib.hid hn
      have HS := Lib.hid (take_set AV.none xs (List.replicate xs.length AV.none) k hlt (by simp))
      generalize hq : xs.take k ++ (List.replicate xs.length AV.none).drop k = q at *
      generalize hy : xs.getD k AV.none = y at *
      have C1 : RangeX wr (x.add (k * 15)) [Value.int .i64 y.f.d, Value.int .i64 y.f.l, Value.int .i64 y.f.a, Value.int .i64 y.f.b, Value.int .i64 y.o, Value.int .i64 y.l, Value.int .i64 y.t, Value.int .i64 y.on.c, Value.int .i64 y.on.k, Value.int .i64 y.on.a, Value.int .i64 y.on.t, Value.int .i64 y.ar.c, Value.int .i64 y.ar.k, Value.int .i64 y.ar.a, Value.int .i64 y.ar.t] := hc.below hb.out
      clear hc hn hq hy
      go_wp2_with (first
        | ((with_reducible refine wp_ldX ?_ row_laws C1 ?_); (focus (refine ⟨rfl, ⟨_, rfl, ?_⟩⟩; simp [go_sem]; done)))
        | (go_at_call 19; refine (laws_toArms y _).mono ?_; rintro e w1 ⟨rfl, hb1⟩; have hi1 : Recs 35 15 AV.row w1 w.heap.size (.slice (some ⟨w.heap.size, 0, none⟩) q.length xs.length) q := by { rw [HN.out]; exact hi.out.below hb1 }; have HT : w1.there w.heap.size (k * 15) (#[Value.int .i64 y.f.d, Value.int .i64 y.f.l, Value.int .i64 y.f.a, Value.int .i64 y.f.b, Value.int .i64 y.o, Value.int .i64 y.l, Value.int .i64 y.t, Value.int .i64 y.on.c, Value.int .i64 y.on.k, Value.int .i64 y.on.a, Value.int .i64 y.on.t, Value.int .i64 y.ar.c, Value.int .i64 y.ar.k, Value.int .i64 y.ar.a, Value.int .i64 y.ar.t] : Array Value).size := hi1.there AV.row_len (by rw [HN.out]; exact hlt); have HST := Lib.hid (hi1.stored AV.row_len (k := k) (by rw [HN.out]; exact hlt) y); replace hb := Lib.hid (bstep hb.out hb1); clear hb1 hi hi1 C1)
        | ((with_reducible refine wp_stX (ty := 35) (vs := (#[Value.int .i64 y.f.d, Value.int .i64 y.f.l, Value.int .i64 y.f.a, Value.int .i64 y.f.b, Value.int .i64 y.o, Value.int .i64 y.l, Value.int .i64 y.t, Value.int .i64 y.on.c, Value.int .i64 y.on.k, Value.int .i64 y.on.a, Value.int .i64 y.on.t, Value.int .i64 y.ar.c, Value.int .i64 y.ar.k, Value.int .i64 y.ar.a, Value.int .i64 y.ar.t])) ?_ ?_ ?_ HT ?_); (focus (refine ⟨rfl, ⟨_, _, rfl, ?_, rfl⟩⟩; simp [go_sem]; done)); (focus (kernel_rfl)); (focus (simp [Value.oneCell']; done))))
      go_roundw
      case rel =>
        refine ⟨k + 1, by omega, by go_num, ?_, ?_⟩
        · have h3 := HST.out.1
          rw [HS.out, HN.out] at h3
          exact h3
        · exact hb.out.grown HST.out.2 hb.out.size (fun b hb' => by cases hb'; exact Nat.le_refl _)
      case measure => simp [intOf]; omega
    · obtain rfl : k = xs.length := by omega
      go_wp2
      go_ret
      have h6 := hi.out
      refine ⟨_, rfl, ?_, hb.out⟩
      simpa using h6
set_option maxHeartbeats 1000000 in
theorem laws_eqArmsS (v u : Value) (xs : List AV) (w : World) (B B' : Nat) (hv : Armss w B v xs) (hu : Armss w B' u xs) : Calls Try.prog 17 #[v, u] w fun e w' => e = .returned (.bool true) ∧ Below w.heap.size w w' := by
  have hm := Recs.room hv
  unfold maxLen at hm
  obtain ⟨A, c, rfl, ha⟩ := Recs.shape AV.row_len AV.none hv
  obtain ⟨A', c', rfl, ha'⟩ := Recs.shape AV.row_len AV.none hu
  have HA := Lib.hid ha
  have HA' := Lib.hid ha'
  clear ha ha' hv hu
  go_enter Try.func17, Try.ntmps17
  go_wp2
  go_loopw [5] (fun i wr => ∃ k : Nat, k ≤ xs.length ∧ i = .int .i64 k ∧ Hid (Below w.heap.size w wr)) (fun i _ => xs.length - (intOf i).toNat)
  case atStart => exact ⟨0, Nat.zero_le _, rfl, Below.refl _ _⟩
  case round =>
    obtain ⟨k, hk, rfl, hb⟩ := hrel
    by_cases hlt : k < xs.length
    · obtain ⟨g, rfl, _, hg, hc, hf⟩ := HA.out k hlt
      obtain ⟨g', rfl, _, hg', hc', hf'⟩ := HA'.out k hlt
      generalize xs.getD k AV.none = x at *
      have C1 : Hid (∀ w', Below wr.heap.size wr w' → w'.rangeAt g (k * 15) [Value.int .i64 x.f.d, Value.int .i64 x.f.l, Value.int .i64 x.f.a, Value.int .i64 x.f.b, Value.int .i64 x.o, Value.int .i64 x.l, Value.int .i64 x.t, Value.int .i64 x.on.c, Value.int .i64 x.on.k, Value.int .i64 x.on.a, Value.int .i64 x.on.t, Value.int .i64 x.ar.c, Value.int .i64 x.ar.k, Value.int .i64 x.ar.a, Value.int .i64 x.ar.t]) := fun w' h => range_below hc (bstep hb.out h)
      have C2 : Hid (∀ w', Below wr.heap.size wr w' → w'.rangeAt g' (k * 15) [Value.int .i64 x.f.d, Value.int .i64 x.f.l, Value.int .i64 x.f.a, Value.int .i64 x.f.b, Value.int .i64 x.o, Value.int .i64 x.l, Value.int .i64 x.t, Value.int .i64 x.on.c, Value.int .i64 x.on.k, Value.int .i64 x.on.a, Value.int .i64 x.on.t, Value.int .i64 x.ar.c, Value.int .i64 x.ar.k, Value.int .i64 x.ar.a, Value.int .i64 x.ar.t]) := fun w' h => range_below hc' (bstep hb.out h)
      clear hc hc' hf hf'
      go_wp2
      refine wp_region_mild0 [true, true, true, true, true, true, true, true, true, true] (by kernel_rfl) (by kernel_rfl) ?_
      refine wpMildL_take rfl ?_
      apply Exists.intro
      refine ⟨fun w' hw' => ?_, ?_⟩
      · go_simp
        with_reducible rfl
      simp only [Act.put, List.setIfInBounds_toArray, List.set_cons_zero, List.set_cons_succ]
      refine wpMildL_take rfl ?_
      apply Exists.intro
      refine ⟨fun w' hw' => ?_, ?_⟩
      · go_simp
        with_reducible rfl
      simp only [Act.put, List.setIfInBounds_toArray, List.set_cons_zero, List.set_cons_succ]
      refine wpMildL_take rfl ?_
      apply Exists.intro
      refine ⟨fun w' hw' => ?_, ?_⟩
      · go_simp
        with_reducible rfl
      simp only [Act.put, List.setIfInBounds_toArray, List.set_cons_zero, List.set_cons_succ]
      refine wpMildL_take rfl ⟨_, mild_loadR _ _ rfl _ _ rfl _ _ (fun w' h => C1.out w' h) Try.underlying35 rfl (by kernel_rfl), ?_⟩
      simp only [Act.put, List.setIfInBounds_toArray, List.set_cons_zero, List.set_cons_succ]
      refine wpMildL_take rfl ?_
      apply Exists.intro
      refine ⟨fun w' hw' => ?_, ?_⟩
      · go_simp
        with_reducible rfl
      simp only [Act.put, List.setIfInBounds_toArray, List.set_cons_zero, List.set_cons_succ]
      refine wpMildL_take rfl ?_
      apply Exists.intro
      refine ⟨fun w' hw' => ?_, ?_⟩
      · go_simp
        with_reducible rfl
      simp only [Act.put, List.setIfInBounds_toArray, List.set_cons_zero, List.set_cons_succ]
      refine wpMildL_take rfl ?_
      apply Exists.intro
      refine ⟨fun w' hw' => ?_, ?_⟩
      · go_simp
        with_reducible rfl
      simp only [Act.put, List.setIfInBounds_toArray, List.set_cons_zero, List.set_cons_succ]
      refine wpMildL_take rfl ⟨_, mild_loadR _ _ rfl _ _ rfl _ _ (fun w' h => C2.out w' h) Try.underlying35 rfl (by kernel_rfl), ?_⟩
      simp only [Act.put, List.setIfInBounds_toArray, List.set_cons_zero, List.set_cons_succ]
      refine wpMildL_take rfl ?_
      apply Exists.intro
      refine ⟨fun w' hw' => ?_, ?_⟩
      · go_simp
        exact laws_eqArms x _
      simp only [Act.put, List.setIfInBounds_toArray, List.set_cons_zero, List.set_cons_succ]
      refine wpMildL_take rfl ?_
      apply Exists.intro
      refine ⟨fun w' hw' => ?_, ?_⟩
      · go_simp
        with_reducible rfl
      simp only [Act.put, List.setIfInBounds_toArray, List.set_cons_zero, List.set_cons_succ]
      refine wpMildL_nil ?_
      intro w1 hb1
      have HB := Lib.hid (bstep hb.out hb1)
      clear hb1 hb C1 C2
      go_wp2
      go_roundw
      case rel => exact ⟨k + 1, by omega, by go_num, HB⟩
      case measure => simp [intOf]; omega
    · go_wp2
      go_ret
      exact ⟨rfl, hb.out⟩
/-! ### the simplest -/
def AV.less (a b : AV) : Bool := decide (a.layers < b.layers) || (a.layers == b.layers && decide (a.charges < b.charges))
def bestAt (xs : List AV) : Nat → Nat
  | 0 => 0
  | k + 1 => if (xs.getD k AV.none).less (xs.getD (bestAt xs k) AV.none) then k else bestAt xs k
theorem bestAt_le (xs : List AV) (k : Nat) : bestAt xs k ≤ k := by
  induction k with
  | zero => exact Nat.le_refl _
  | succ k ih => unfold bestAt; split <;> omega
theorem bestAt_lt (xs : List AV) (k : Nat) (h : k < xs.length) : bestAt xs k < xs.length := Nat.lt_of_le_of_lt (bestAt_le xs k) h
def simOk (xs : List AV) : Bool := inB 1 xs.length 20 && xs.all AV.ok
def simV (xs : List AV) : Int := if simOk xs then (bestAt xs xs.length : Nat) else 0
theorem simOk_out {xs : List AV} (h : inB 1 xs.length 20 = false) : simOk xs = false := by unfold simOk; rw [h]; rfl
theorem simOk_bad {xs : List AV} {k : Nat} (hk : k < xs.length) (h : (xs.getD k AV.none).ok = false) : simOk xs = false := by
  unfold simOk
  rw [Bool.and_eq_false_iff]
  right
  rw [List.all_eq_false]
  exact ⟨xs[k], List.getElem_mem hk, by simpa [List.getD_eq_getElem?_getD, hk] using h⟩
theorem simOk_in {xs : List AV} (h : inB 1 xs.length 20 = true) (hall : ∀ j, j < xs.length → (xs.getD j AV.none).ok = true) : simOk xs = true := by
  unfold simOk
  rw [h, Bool.true_and, List.all_eq_true]
  intro a ha
  obtain ⟨j, hj, rfl⟩ := List.mem_iff_getElem.1 ha
  simpa [List.getD_eq_getElem?_getD, hj] using hall j hj
theorem oks_step {xs : List AV} {k : Nat} (h : ∀ j, j < k → (xs.getD j AV.none).ok = true) (hk : (xs.getD k AV.none).ok = true) : ∀ j, j < k + 1 → (xs.getD j AV.none).ok = true := fun j hj => by
  rcases Nat.lt_or_ge j k with h1 | h1
  · exact h j h1
  · obtain rfl : j = k := by omega
    exact hk
theorem oks_best {xs : List AV} {k : Nat} (h : ∀ j, j < k → (xs.getD j AV.none).ok = true) (hk : (xs.getD k AV.none).ok = true) : (xs.getD (bestAt xs k) AV.none).ok = true := oks_step h hk _ (by have := bestAt_le xs k; omega)
set_option maxHeartbeats 2000000 in
theorem spec_Simplest (v : Value) (xs : List AV) (w : World) (B : Nat) (hv : Armss w B v xs) : Calls Try.prog 14 #[v] w fun e w' => e = .returned (.tuple #[.int .i64 (simV xs), .bool (simOk xs)]) ∧ Below w.heap.size w w' := by
  have hm := Recs.room hv
  unfold maxLen at hm
  obtain ⟨A, c, rfl, ha⟩ := Recs.shape AV.row_len AV.none hv
  have HA := Lib.hid ha
  clear ha hv
  cases hin : inB 1 xs.length 20
  · go_enter Try.func14, Try.ntmps14
    go_wp2_with (go_at_call 34; refine (spec_l1In _ _ _ _).mono ?_; rintro e w' ⟨rfl, rfl⟩)
    go_ret2
    have := simOk_out hin
    exact ⟨by simp [simV, this], Below.refl _ _⟩
  have HI := Lib.hid hin
  go_enter Try.func14, Try.ntmps14
  go_wp2_with (go_at_call 34; refine (spec_l1In _ _ _ _).mono ?_; rintro e w' ⟨rfl, rfl⟩)
  go_loopw [4, 5] (fun b i wr => ∃ k : Nat, k ≤ xs.length ∧ i = .int .i64 k ∧ b = .int .i64 (bestAt xs k : Nat) ∧ Hid (∀ j, j < k → (xs.getD j AV.none).ok = true) ∧ Hid (Below w.heap.size w wr)) (fun _ i _ => xs.length - (intOf i).toNat)
  case atStart => exact ⟨0, Nat.zero_le _, rfl, rfl, fun j hj => absurd hj (Nat.not_lt_zero _), Below.refl _ _⟩
  case round =>
    obtain ⟨k, hk, rfl, rfl, hok, hb⟩ := hrel
    by_cases hlt : k < xs.length
    · have hbl := bestAt_lt xs k hlt
      obtain ⟨g, rfl, _, hg, hc, hf⟩ := HA.out k hlt
      obtain ⟨g', hg', _, _, hc', _⟩ := HA.out (bestAt xs k) hbl
      obtain rfl : g = g' := by injection hg' with hg'; injection hg'
      clear hg' hf
      have HBAD : Hid ((xs.getD k AV.none).ok = false → simOk xs = false) := simOk_bad hlt
      have HOK : Hid ((xs.getD k AV.none).ok = true → (∀ j, j < k + 1 → (xs.getD j AV.none).ok = true) ∧ (xs.getD (bestAt xs k) AV.none).ok = true) := fun h => ⟨oks_step hok.out h, oks_best hok.out h⟩
      have HST : Hid (bestAt xs (k + 1) = if (xs.getD k AV.none).less (xs.getD (bestAt xs k) AV.none) then k else bestAt xs k) := rfl
      generalize xs.getD (bestAt xs k) AV.none = z at *
      generalize xs.getD k AV.none = y at *
      generalize bestAt xs k = m at *
      have C1 : Hid (∀ w', Below wr.heap.size wr w' → w'.rangeAt g (k * 15) [Value.int .i64 y.f.d, Value.int .i64 y.f.l, Value.int .i64 y.f.a, Value.int .i64 y.f.b, Value.int .i64 y.o, Value.int .i64 y.l, Value.int .i64 y.t, Value.int .i64 y.on.c, Value.int .i64 y.on.k, Value.int .i64 y.on.a, Value.int .i64 y.on.t, Value.int .i64 y.ar.c, Value.int .i64 y.ar.k, Value.int .i64 y.ar.a, Value.int .i64 y.ar.t]) := fun w' h => range_below hc (bstep hb.out h)
      have C2 : Hid (∀ w', Below wr.heap.size wr w' → w'.rangeAt g (m * 15) [Value.int .i64 z.f.d, Value.int .i64 z.f.l, Value.int .i64 z.f.a, Value.int .i64 z.f.b, Value.int .i64 z.o, Value.int .i64 z.l, Value.int .i64 z.t, Value.int .i64 z.on.c, Value.int .i64 z.on.k, Value.int .i64 z.on.a, Value.int .i64 z.on.t, Value.int .i64 z.ar.c, Value.int .i64 z.ar.k, Value.int .i64 z.ar.a, Value.int .i64 z.ar.t]) := fun w' h => range_below hc' (bstep hb.out h)
      clear hc hc' hok
      go_upto_region 7 with fail
      refine wp_region_mild2 [true, true, true, true, true, true, true, true, false, false, false, false] 8 9 10 11 6 7 _ _ _ _ _ _ _ _ _ _ (#[Value.int .i64 0, Value.int .i64 0, Value.int .i64 0, Value.int .i64 0, Value.int .i64 0, Value.int .i64 0, Value.int .i64 0, Value.int .i64 0, Value.int .i64 0, Value.int .i64 0, Value.int .i64 0, Value.int .i64 0, Value.int .i64 0, Value.int .i64 0, Value.int .i64 0] : Array Value) (#[Value.int .i64 0, Value.int .i64 0, Value.int .i64 0, Value.int .i64 0, Value.int .i64 0, Value.int .i64 0, Value.int .i64 0, Value.int .i64 0, Value.int .i64 0, Value.int .i64 0, Value.int .i64 0, Value.int .i64 0, Value.int .i64 0, Value.int .i64 0, Value.int .i64 0] : Array Value) 35 35 (by kernel_rfl) (by kernel_rfl) rfl rfl rfl rfl (by decide) (by kernel_rfl) (by kernel_rfl) rfl rfl rfl rfl rfl rfl (by kernel_rfl) (by kernel_rfl) (fun _ _ => by go_simp) (fun _ _ => by go_simp) ?_
      refine wpMildL_take rfl ?_
      apply Exists.intro
      refine ⟨fun w' hw' => ?_, ?_⟩
      · go_simp
        with_reducible rfl
      simp only [Act.put, List.setIfInBounds_toArray, List.set_cons_zero, List.set_cons_succ]
      refine wpMildL_take rfl ?_
      apply Exists.intro
      refine ⟨fun w' hw' => ?_, ?_⟩
      · go_simp
        with_reducible rfl
      simp only [Act.put, List.setIfInBounds_toArray, List.set_cons_zero, List.set_cons_succ]
      refine wpMildL_take rfl ?_
      apply Exists.intro
      refine ⟨fun w' hw' => ?_, ?_⟩
      · go_simp
        with_reducible rfl
      simp only [Act.put, List.setIfInBounds_toArray, List.set_cons_zero, List.set_cons_succ]
      refine wpMildL_take rfl ⟨_, mild_loadR _ _ rfl _ _ rfl _ _ (fun w' h => C1.out w' h) Try.underlying35 rfl (by kernel_rfl), ?_⟩
      simp only [Act.put, List.setIfInBounds_toArray, List.set_cons_zero, List.set_cons_succ]
      refine wpMildL_take rfl ?_
      apply Exists.intro
      refine ⟨fun w' hw' => ?_, ?_⟩
      · go_simp
        with_reducible rfl
      simp only [Act.put, List.setIfInBounds_toArray, List.set_cons_zero, List.set_cons_succ]
      refine wpMildL_take rfl ?_
      apply Exists.intro
      refine ⟨fun w' hw' => ?_, ?_⟩
      · go_simp
        with_reducible rfl
      simp only [Act.put, List.setIfInBounds_toArray, List.set_cons_zero, List.set_cons_succ]
      refine wpMildL_take rfl ?_
      apply Exists.intro
      refine ⟨fun w' hw' => ?_, ?_⟩
      · go_simp
        with_reducible rfl
      simp only [Act.put, List.setIfInBounds_toArray, List.set_cons_zero, List.set_cons_succ]
      refine wpMildL_take rfl ⟨_, mild_loadR _ _ rfl _ _ rfl _ _ (fun w' h => C2.out w' h) Try.underlying35 rfl (by kernel_rfl), ?_⟩
      simp only [Act.put, List.setIfInBounds_toArray, List.set_cons_zero, List.set_cons_succ]
      refine wpMildL_late ?_
      refine wpMildL_late ?_
      refine wpMildL_late ?_
      refine wpMildL_late ?_
      refine wpMildL_nil ?_
      refine ⟨(#[Value.int .i64 y.f.d, Value.int .i64 y.f.l, Value.int .i64 y.f.a, Value.int .i64 y.f.b, Value.int .i64 y.o, Value.int .i64 y.l, Value.int .i64 y.t, Value.int .i64 y.on.c, Value.int .i64 y.on.k, Value.int .i64 y.on.a, Value.int .i64 y.on.t, Value.int .i64 y.ar.c, Value.int .i64 y.ar.k, Value.int .i64 y.ar.a, Value.int .i64 y.ar.t], #[Value.int .i64 z.f.d, Value.int .i64 z.f.l, Value.int .i64 z.f.a, Value.int .i64 z.f.b, Value.int .i64 z.o, Value.int .i64 z.l, Value.int .i64 z.t, Value.int .i64 z.on.c, Value.int .i64 z.on.k, Value.int .i64 z.on.a, Value.int .i64 z.on.t, Value.int .i64 z.ar.c, Value.int .i64 z.ar.k, Value.int .i64 z.ar.a, Value.int .i64 z.ar.t]), fun g1 g2 => ⟨⟨rfl, rfl⟩, ⟨rfl, rfl⟩⟩, ⟨rfl, by simp [Value.oneCell']⟩, ⟨rfl, by simp [Value.oneCell']⟩, fun g1 g2 W h1 h2 hne hb1 B1 B2 => ?_⟩
      simp only [Act.put, List.setIfInBounds_toArray, List.set_cons_zero, List.set_cons_succ] at B1 B2 ⊢
      have hW := bstep hb.out hb1
      clear hb hb1 C1 C2 hne h1 h2
      have HW := Lib.hid hW
      cases hy : y.ok
      · have HE := Lib.hid (HBAD.out hy)
        go_wp2_with (first | ((with_reducible refine wp_ldA' ?_ B1 ?_); (focus (refine ⟨rfl, ⟨_, rfl, ?_⟩, rfl⟩; simp [go_sem]; done))) | (go_at_call 35; (with_reducible refine (spec_l5Good y _).mono ?_); rintro e w1 ⟨rfl, hb1⟩; replace B1 := B1.below hb1; replace B2 := B2.below hb1; replace hW := bstep hW hb1; clear hb1))
        go_ret2
        exact ⟨by simp [simV, HE.out], hW⟩
      · obtain ⟨hok', hz⟩ := HOK.out hy
        have HOKS := Lib.hid hok'
        clear hok' HBAD HOK
        go_upto_region 10 with (first | ((with_reducible refine wp_ldA' ?_ B1 ?_); (focus (refine ⟨rfl, ⟨_, rfl, ?_⟩, rfl⟩; simp [go_sem]; done))) | (go_at_call 35; (with_reducible refine (spec_l5Good y _).mono ?_); rintro e w1 ⟨rfl, hb1⟩; replace B1 := B1.below hb1; replace B2 := B2.below hb1; replace hW := bstep hW hb1; clear hb1))
        refine wp_region_mild0 [true, true, true, true, true, true] (by kernel_rfl) (by kernel_rfl) ?_
        refine wpMildL_take rfl ⟨_, mild_load _ _ rfl _ rfl _ _ _ (fun w' h => B1.below h) Try.underlying35 rfl (by kernel_rfl), ?_⟩
        simp only [Act.put, List.setIfInBounds_toArray, List.set_cons_zero, List.set_cons_succ]
        refine wpMildL_take rfl ?_
        apply Exists.intro
        refine ⟨fun w' hw' => ?_, ?_⟩
        · go_simp
          exact spec_l5Layers y hy _
        simp only [Act.put, List.setIfInBounds_toArray, List.set_cons_zero, List.set_cons_succ]
        refine wpMildL_take rfl ⟨_, mild_load _ _ rfl _ rfl _ _ _ (fun w' h => B2.below h) Try.underlying35 rfl (by kernel_rfl), ?_⟩
        simp only [Act.put, List.setIfInBounds_toArray, List.set_cons_zero, List.set_cons_succ]
        refine wpMildL_take rfl ?_
        apply Exists.intro
        refine ⟨fun w' hw' => ?_, ?_⟩
        · go_simp
          exact spec_l5Layers z hz _
        simp only [Act.put, List.setIfInBounds_toArray, List.set_cons_zero, List.set_cons_succ]
        refine wpMildL_take rfl ?_
        apply Exists.intro
        refine ⟨fun w' hw' => ?_, ?_⟩
        · go_simp
          with_reducible rfl
        simp only [Act.put, List.setIfInBounds_toArray, List.set_cons_zero, List.set_cons_succ]
        refine wpMildL_take rfl ?_
        apply Exists.intro
        refine ⟨fun w' hw' => ?_, ?_⟩
        · go_simp
          with_reducible rfl
        simp only [Act.put, List.setIfInBounds_toArray, List.set_cons_zero, List.set_cons_succ]
        refine wpMildL_nil ?_
        intro w2 hb2
        replace B1 := B1.below hb2
        replace B2 := B2.below hb2
        replace hW := bstep hW hb2
        obtain ⟨q1, q2, q3, q4⟩ := ok_count hy
        obtain ⟨r1, r2, r3, r4⟩ := ok_count hz
        have HB := Lib.hid hW
        obtain ⟨c1, _⟩ := B1.facts
        obtain ⟨c2, _⟩ := B2.facts
        have HL : Hid (y.less z = (decide (y.layers < z.layers) || (y.layers == z.layers && decide (y.on.c + y.ar.c < z.on.c + z.ar.c)))) := rfl
        clear hb2 HW hW hy hz B1 B2
        generalize y.layers = ly at *
        generalize z.layers = lz at *
        cases e1 : decide (ly < lz) <;> cases e2 : (ly == lz) <;> cases e3 : decide (y.on.c + y.ar.c < z.on.c + z.ar.c)
        all_goals
          have HX := Lib.hid HST.out
          rw [HL.out] at HX
          simp only [e1, e2, e3, Bool.or_false, Bool.or_true, Bool.true_or, Bool.false_or, Bool.and_true, Bool.and_false, Bool.true_and, Bool.false_and, if_true, if_false, Bool.false_eq_true] at HX
          go_wp2
          go_roundw
          case rel => exact ⟨k + 1, by omega, by go_num, by rw [HX.out], HOKS, HB⟩
          case measure => simp [intOf]; omega
    · obtain rfl : k = xs.length := by omega
      go_wp2
      go_ret2
      have := simOk_in HI.out hok.out
      exact ⟨by simp [simV, this], hb.out⟩
set_option maxHeartbeats 2000000 in
theorem impl_Simplest (v : Value) (xs : List AV) (w : World) (B : Nat) (hv : Armss w B v xs) : Calls Try.prog 16 #[v] w fun e w' => e = .returned (.tuple #[.int .i64 (simV xs), .bool (simOk xs)]) ∧ Below w.heap.size w w' := by
  have hm := Recs.room hv
  unfold maxLen at hm
  obtain ⟨A, c, rfl, ha⟩ := Recs.shape AV.row_len AV.none hv
  have HA := Lib.hid ha
  clear ha hv
  cases hin : inB 1 xs.length 20
  · go_enter Try.func16, Try.ntmps16
    go_wp2_with (go_at_call 37; refine (impl_inside _ _ _ _).mono ?_; rintro e w' ⟨rfl, rfl⟩)
    go_ret2
    have := simOk_out hin
    exact ⟨by simp [simV, this], Below.refl _ _⟩
  have HI := Lib.hid hin
  go_enter Try.func16, Try.ntmps16
  go_wp2_with (go_at_call 37; refine (impl_inside _ _ _ _).mono ?_; rintro e w' ⟨rfl, rfl⟩)
  go_loopw [4, 14] (fun b i wr => ∃ k : Nat, k ≤ xs.length ∧ i = .int .i64 k ∧ b = .int .i64 (bestAt xs k : Nat) ∧ Hid (∀ j, j < k → (xs.getD j AV.none).ok = true) ∧ Hid (Below w.heap.size w wr)) (fun _ i _ => xs.length - (intOf i).toNat)
  case atStart => exact ⟨0, Nat.zero_le _, rfl, rfl, fun j hj => absurd hj (Nat.not_lt_zero _), Below.refl _ _⟩
  case round =>
    obtain ⟨k, hk, rfl, rfl, hok, hb⟩ := hrel
    by_cases hlt : k < xs.length
    · have hbl := bestAt_lt xs k hlt
      obtain ⟨g, rfl, _, hg, hc, hf⟩ := HA.out k hlt
      obtain ⟨g', hg', _, _, hc', _⟩ := HA.out (bestAt xs k) hbl
      obtain rfl : g = g' := by injection hg' with hg'; injection hg'
      clear hg' hf
      have HBAD : Hid ((xs.getD k AV.none).ok = false → simOk xs = false) := simOk_bad hlt
      have HOK : Hid ((xs.getD k AV.none).ok = true → (∀ j, j < k + 1 → (xs.getD j AV.none).ok = true) ∧ (xs.getD (bestAt xs k) AV.none).ok = true) := fun h => ⟨oks_step hok.out h, oks_best hok.out h⟩
      have HST : Hid (bestAt xs (k + 1) = if (xs.getD k AV.none).less (xs.getD (bestAt xs k) AV.none) then k else bestAt xs k) := rfl
      generalize xs.getD (bestAt xs k) AV.none = z at *
      generalize xs.getD k AV.none = y at *
      generalize bestAt xs k = m at *
      have C1 : RangeX wr ⟨g, k * 15, none⟩ [Value.int .i64 y.f.d, Value.int .i64 y.f.l, Value.int .i64 y.f.a, Value.int .i64 y.f.b, Value.int .i64 y.o, Value.int .i64 y.l, Value.int .i64 y.t, Value.int .i64 y.on.c, Value.int .i64 y.on.k, Value.int .i64 y.on.a, Value.int .i64 y.on.t, Value.int .i64 y.ar.c, Value.int .i64 y.ar.k, Value.int .i64 y.ar.a, Value.int .i64 y.ar.t] := RangeX.of (range_below hc hb.out)
      have C2 : RangeX wr ⟨g, m * 15, none⟩ [Value.int .i64 z.f.d, Value.int .i64 z.f.l, Value.int .i64 z.f.a, Value.int .i64 z.f.b, Value.int .i64 z.o, Value.int .i64 z.l, Value.int .i64 z.t, Value.int .i64 z.on.c, Value.int .i64 z.on.k, Value.int .i64 z.on.a, Value.int .i64 z.on.t, Value.int .i64 z.ar.c, Value.int .i64 z.ar.k, Value.int .i64 z.ar.a, Value.int .i64 z.ar.t] := RangeX.of (range_below hc' hb.out)
      clear hc hc' hok
      go_upto_region 7 with (first | ((with_reducible refine wp_ldX ?_ row_impl C1 ?_); (focus (refine ⟨rfl, ⟨_, rfl, ?_⟩⟩; simp [go_sem]; done))) | ((with_reducible refine' wp_stA' (Blk.new _ _ _) _ _); rotate_left; (focus (refine ⟨rfl, ⟨_, _, rfl, ?_, rfl⟩, rfl, rfl, ?_⟩; (focus (simp [go_sem]; done)); (focus (simp [Value.oneCell']; done)))); intro w1 hg1 B1))
      have hb1 : Below wr.heap.size wr w1 := bgrown (balloc (Below.refl _ _) _) hg1 (Nat.le_refl _)
      have hW := bstep hb.out hb1
      replace C2 := C2.below hb1
      clear hb hb1 hg1 C1
      generalize wr.heap.size = b1 at *
      cases hy : y.ok
      · have HE := Lib.hid (HBAD.out hy)
        go_wp2_with (first | ((with_reducible refine wp_ldA' ?_ B1 ?_); (focus (refine ⟨rfl, ⟨_, rfl, ?_⟩, rfl⟩; simp [go_sem]; done))) | (go_at_call 38; (with_reducible refine (impl_IsValidArms y _).mono ?_); rintro e w1 ⟨rfl, hb1⟩; replace B1 := B1.below hb1; replace hW := bstep hW hb1; clear hb1))
        go_ret2
        exact ⟨by simp [simV, HE.out], hW⟩
      · obtain ⟨hok', hz⟩ := HOK.out hy
        have HOKS := Lib.hid hok'
        clear hok' HBAD HOK
        go_upto_region 9 with (first | ((with_reducible refine wp_ldA' ?_ B1 ?_); (focus (refine ⟨rfl, ⟨_, rfl, ?_⟩, rfl⟩; simp [go_sem]; done))) | (go_at_call 38; (with_reducible refine (impl_IsValidArms y _).mono ?_); rintro e w2 ⟨rfl, hb2⟩; replace B1 := B1.below hb2; replace C2 := C2.below hb2; replace hW := bstep hW hb2; clear hb2))
        go_upto_region 10 with (first | ((with_reducible refine wp_ldX ?_ row_impl C2 ?_); (focus (refine ⟨rfl, ⟨_, rfl, ?_⟩⟩; simp [go_sem]; done))) | ((with_reducible refine' wp_stA' (Blk.new _ _ _) _ _); rotate_left; (focus (refine ⟨rfl, ⟨_, _, rfl, ?_, rfl⟩, rfl, rfl, ?_⟩; (focus (simp [go_sem]; done)); (focus (simp [Value.oneCell']; done)))); intro w3 hg3 B2))
        replace B1 := (B1.alloc _).past hg3 (by have := B1.lt; omega)
        replace hW := bgrown (balloc hW _) hg3 (by have := hW.size; omega)
        clear hg3 C2
        generalize w2.heap.size = b2 at *
        have HL : Hid (y.less z = (decide (y.layers < z.layers) || (y.layers == z.layers && decide (y.charges < z.charges)))) := rfl
        cases e1 : decide (y.layers < z.layers)
        · cases e2 : (y.layers == z.layers)
          · have HX := Lib.hid HST.out
            rw [HL.out] at HX
            simp only [e1, e2, Bool.or_false, Bool.or_true, Bool.true_or, Bool.false_or, Bool.and_true, Bool.and_false, Bool.true_and, Bool.false_and, if_true, if_false, Bool.false_eq_true] at HX
            refine wp_region_mild0 [true, true, true, true, true, true, true, true, true, true, true, true, true, true, true, true, true, true, true] (by kernel_rfl) (by kernel_rfl) ?_
            refine wpMildL_take rfl ⟨_, mild_load _ _ rfl _ rfl _ _ _ (fun w' h => B1.below h) Try.underlying35 rfl (by kernel_rfl), ?_⟩
            simp only [Act.put, List.setIfInBounds_toArray, List.set_cons_zero, List.set_cons_succ]
            refine wpMildL_take rfl ?_
            apply Exists.intro
            refine ⟨fun w' hw' => ?_, ?_⟩
            · go_simp
              exact impl_Arms_layers y _
            simp only [Act.put, List.setIfInBounds_toArray, List.set_cons_zero, List.set_cons_succ]
            refine wpMildL_take rfl ⟨_, mild_load _ _ rfl _ rfl _ _ _ (fun w' h => B2.below h) Try.underlying35 rfl (by kernel_rfl), ?_⟩
            simp only [Act.put, List.setIfInBounds_toArray, List.set_cons_zero, List.set_cons_succ]
            refine wpMildL_take rfl ?_
            apply Exists.intro
            refine ⟨fun w' hw' => ?_, ?_⟩
            · go_simp
              exact impl_Arms_layers z _
            simp only [Act.put, List.setIfInBounds_toArray, List.set_cons_zero, List.set_cons_succ]
            refine wpMildL_take rfl ?_
            apply Exists.intro
            refine ⟨fun w' hw' => ?_, ?_⟩
            · go_simp
              with_reducible rfl
            simp only [Act.put, List.setIfInBounds_toArray, List.set_cons_zero, List.set_cons_succ]
            refine wpMildL_take rfl ?_
            apply Exists.intro
            refine ⟨fun w' hw' => ?_, ?_⟩
            · go_simp
              with_reducible rfl
            simp only [Act.put, List.setIfInBounds_toArray, List.set_cons_zero, List.set_cons_succ]
            refine wpMildL_take rfl ⟨_, mild_load _ _ rfl _ rfl _ _ _ (fun w' h => B1.below h) Try.underlying35 rfl (by kernel_rfl), ?_⟩
            simp only [Act.put, List.setIfInBounds_toArray, List.set_cons_zero, List.set_cons_succ]
            refine wpMildL_take rfl ?_
            apply Exists.intro
            refine ⟨fun w' hw' => ?_, ?_⟩
            · go_simp
              exact impl_Arms_layers y _
            simp only [Act.put, List.setIfInBounds_toArray, List.set_cons_zero, List.set_cons_succ]
            refine wpMildL_take rfl ⟨_, mild_load _ _ rfl _ rfl _ _ _ (fun w' h => B2.below h) Try.underlying35 rfl (by kernel_rfl), ?_⟩
            simp only [Act.put, List.setIfInBounds_toArray, List.set_cons_zero, List.set_cons_succ]
            refine wpMildL_take rfl ?_
            apply Exists.intro
            refine ⟨fun w' hw' => ?_, ?_⟩
            · go_simp
              exact impl_Arms_layers z _
            simp only [Act.put, List.setIfInBounds_toArray, List.set_cons_zero, List.set_cons_succ]
            refine wpMildL_take rfl ?_
            apply Exists.intro
            refine ⟨fun w' hw' => ?_, ?_⟩
            · go_simp
              with_reducible rfl
            simp only [Act.put, List.setIfInBounds_toArray, List.set_cons_zero, List.set_cons_succ]
            refine wpMildL_take rfl ?_
            apply Exists.intro
            refine ⟨fun w' hw' => ?_, ?_⟩
            · go_simp
              with_reducible rfl
            simp only [Act.put, List.setIfInBounds_toArray, List.set_cons_zero, List.set_cons_succ]
            refine wpMildL_skip rfl ?_
            simp only [Act.put, List.setIfInBounds_toArray, List.set_cons_zero, List.set_cons_succ]
            refine wpMildL_skip rfl ?_
            simp only [Act.put, List.setIfInBounds_toArray, List.set_cons_zero, List.set_cons_succ]
            refine wpMildL_skip rfl ?_
            simp only [Act.put, List.setIfInBounds_toArray, List.set_cons_zero, List.set_cons_succ]
            refine wpMildL_skip rfl ?_
            simp only [Act.put, List.setIfInBounds_toArray, List.set_cons_zero, List.set_cons_succ]
            refine wpMildL_skip rfl ?_
            simp only [Act.put, List.setIfInBounds_toArray, List.set_cons_zero, List.set_cons_succ]
            refine wpMildL_take rfl ?_
            apply Exists.intro
            refine ⟨fun w' hw' => ?_, ?_⟩
            · go_simp
              with_reducible rfl
            simp only [Act.put, List.setIfInBounds_toArray, List.set_cons_zero, List.set_cons_succ]
            refine wpMildL_take rfl ?_
            apply Exists.intro
            refine ⟨fun w' hw' => ?_, ?_⟩
            · go_simp
              with_reducible rfl
            simp only [Act.put, List.setIfInBounds_toArray, List.set_cons_zero, List.set_cons_succ]
            refine wpMildL_nil ?_
            intro w4 hb4
            have HB := Lib.hid (bstep hW hb4)
            clear hW hb4 B1 B2 hy hz e1 e2
            go_wp2
            go_roundw
            case rel => exact ⟨k + 1, by omega, by go_num, by rw [HX.out], HOKS, HB⟩
            case measure => simp [intOf]; omega
          · cases e3 : decide (y.charges < z.charges)
            all_goals
              have HX := Lib.hid HST.out
              rw [HL.out] at HX
              simp only [e1, e2, e3, Bool.or_false, Bool.or_true, Bool.true_or, Bool.false_or, Bool.and_true, Bool.and_false, Bool.true_and, Bool.false_and, if_true, if_false, Bool.false_eq_true] at HX
              refine wp_region_mild0 [true, true, true, true, true, true, true, true, true, true, true, true, true, true, true, true, true, true, true] (by kernel_rfl) (by kernel_rfl) ?_
              refine wpMildL_take rfl ⟨_, mild_load _ _ rfl _ rfl _ _ _ (fun w' h => B1.below h) Try.underlying35 rfl (by kernel_rfl), ?_⟩
              simp only [Act.put, List.setIfInBounds_toArray, List.set_cons_zero, List.set_cons_succ]
              refine wpMildL_take rfl ?_
              apply Exists.intro
              refine ⟨fun w' hw' => ?_, ?_⟩
              · go_simp
                exact impl_Arms_layers y _
              simp only [Act.put, List.setIfInBounds_toArray, List.set_cons_zero, List.set_cons_succ]
              refine wpMildL_take rfl ⟨_, mild_load _ _ rfl _ rfl _ _ _ (fun w' h => B2.below h) Try.underlying35 rfl (by kernel_rfl), ?_⟩
              simp only [Act.put, List.setIfInBounds_toArray, List.set_cons_zero, List.set_cons_succ]
              refine wpMildL_take rfl ?_
              apply Exists.intro
              refine ⟨fun w' hw' => ?_, ?_⟩
              · go_simp
                exact impl_Arms_layers z _
              simp only [Act.put, List.setIfInBounds_toArray, List.set_cons_zero, List.set_cons_succ]
              refine wpMildL_take rfl ?_
              apply Exists.intro
              refine ⟨fun w' hw' => ?_, ?_⟩
              · go_simp
                with_reducible rfl
              simp only [Act.put, List.setIfInBounds_toArray, List.set_cons_zero, List.set_cons_succ]
              refine wpMildL_take rfl ?_
              apply Exists.intro
              refine ⟨fun w' hw' => ?_, ?_⟩
              · go_simp
                with_reducible rfl
              simp only [Act.put, List.setIfInBounds_toArray, List.set_cons_zero, List.set_cons_succ]
              refine wpMildL_take rfl ⟨_, mild_load _ _ rfl _ rfl _ _ _ (fun w' h => B1.below h) Try.underlying35 rfl (by kernel_rfl), ?_⟩
              simp only [Act.put, List.setIfInBounds_toArray, List.set_cons_zero, List.set_cons_succ]
              refine wpMildL_take rfl ?_
              apply Exists.intro
              refine ⟨fun w' hw' => ?_, ?_⟩
              · go_simp
                exact impl_Arms_layers y _
              simp only [Act.put, List.setIfInBounds_toArray, List.set_cons_zero, List.set_cons_succ]
              refine wpMildL_take rfl ⟨_, mild_load _ _ rfl _ rfl _ _ _ (fun w' h => B2.below h) Try.underlying35 rfl (by kernel_rfl), ?_⟩
              simp only [Act.put, List.setIfInBounds_toArray, List.set_cons_zero, List.set_cons_succ]
              refine wpMildL_take rfl ?_
              apply Exists.intro
              refine ⟨fun w' hw' => ?_, ?_⟩
              · go_simp
                exact impl_Arms_layers z _
              simp only [Act.put, List.setIfInBounds_toArray, List.set_cons_zero, List.set_cons_succ]
              refine wpMildL_take rfl ?_
              apply Exists.intro
              refine ⟨fun w' hw' => ?_, ?_⟩
              · go_simp
                with_reducible rfl
              simp only [Act.put, List.setIfInBounds_toArray, List.set_cons_zero, List.set_cons_succ]
              refine wpMildL_take rfl ?_
              apply Exists.intro
              refine ⟨fun w' hw' => ?_, ?_⟩
              · go_simp
                with_reducible rfl
              simp only [Act.put, List.setIfInBounds_toArray, List.set_cons_zero, List.set_cons_succ]
              refine wpMildL_take rfl ⟨_, mild_load _ _ rfl _ rfl _ _ _ (fun w' h => B1.below h) Try.underlying35 rfl (by kernel_rfl), ?_⟩
              simp only [Act.put, List.setIfInBounds_toArray, List.set_cons_zero, List.set_cons_succ]
              refine wpMildL_take rfl ?_
              apply Exists.intro
              refine ⟨fun w' hw' => ?_, ?_⟩
              · go_simp
                exact impl_Arms_charges y hy _
              simp only [Act.put, List.setIfInBounds_toArray, List.set_cons_zero, List.set_cons_succ]
              refine wpMildL_take rfl ⟨_, mild_load _ _ rfl _ rfl _ _ _ (fun w' h => B2.below h) Try.underlying35 rfl (by kernel_rfl), ?_⟩
              simp only [Act.put, List.setIfInBounds_toArray, List.set_cons_zero, List.set_cons_succ]
              refine wpMildL_take rfl ?_
              apply Exists.intro
              refine ⟨fun w' hw' => ?_, ?_⟩
              · go_simp
                exact impl_Arms_charges z hz _
              simp only [Act.put, List.setIfInBounds_toArray, List.set_cons_zero, List.set_cons_succ]
              refine wpMildL_take rfl ?_
              apply Exists.intro
              refine ⟨fun w' hw' => ?_, ?_⟩
              · go_simp
                with_reducible rfl
              simp only [Act.put, List.setIfInBounds_toArray, List.set_cons_zero, List.set_cons_succ]
              refine wpMildL_take rfl ?_
              apply Exists.intro
              refine ⟨fun w' hw' => ?_, ?_⟩
              · go_simp
                with_reducible rfl
              simp only [Act.put, List.setIfInBounds_toArray, List.set_cons_zero, List.set_cons_succ]
              refine wpMildL_take rfl ?_
              apply Exists.intro
              refine ⟨fun w' hw' => ?_, ?_⟩
              · go_simp
                with_reducible rfl
              simp only [Act.put, List.setIfInBounds_toArray, List.set_cons_zero, List.set_cons_succ]
              refine wpMildL_nil ?_
              intro w4 hb4
              have HB := Lib.hid (bstep hW hb4)
              clear hW hb4 B1 B2 hy hz e1 e2 e3
              go_wp2
              go_roundw
              case rel => exact ⟨k + 1, by omega, by go_num, by rw [HX.out], HOKS, HB⟩
              case measure => simp [intOf]; omega
        · have HX := Lib.hid HST.out
          rw [HL.out] at HX
          simp only [e1, Bool.or_false, Bool.or_true, Bool.true_or, Bool.false_or, Bool.and_true, Bool.and_false, Bool.true_and, Bool.false_and, if_true, if_false, Bool.false_eq_true] at HX
          refine wp_region_mild0 [true, true, true, true, true, true, true, true, true, true, true, true, true, true, true, true, true, true, true] (by kernel_rfl) (by kernel_rfl) ?_
          refine wpMildL_take rfl ⟨_, mild_load _ _ rfl _ rfl _ _ _ (fun w' h => B1.below h) Try.underlying35 rfl (by kernel_rfl), ?_⟩
          simp only [Act.put, List.setIfInBounds_toArray, List.set_cons_zero, List.set_cons_succ]
          refine wpMildL_take rfl ?_
          apply Exists.intro
          refine ⟨fun w' hw' => ?_, ?_⟩
          · go_simp
            exact impl_Arms_layers y _
          simp only [Act.put, List.setIfInBounds_toArray, List.set_cons_zero, List.set_cons_succ]
          refine wpMildL_take rfl ⟨_, mild_load _ _ rfl _ rfl _ _ _ (fun w' h => B2.below h) Try.underlying35 rfl (by kernel_rfl), ?_⟩
          simp only [Act.put, List.setIfInBounds_toArray, List.set_cons_zero, List.set_cons_succ]
          refine wpMildL_take rfl ?_
          apply Exists.intro
          refine ⟨fun w' hw' => ?_, ?_⟩
          · go_simp
            exact impl_Arms_layers z _
          simp only [Act.put, List.setIfInBounds_toArray, List.set_cons_zero, List.set_cons_succ]
          refine wpMildL_take rfl ?_
          apply Exists.intro
          refine ⟨fun w' hw' => ?_, ?_⟩
          · go_simp
            with_reducible rfl
          simp only [Act.put, List.setIfInBounds_toArray, List.set_cons_zero, List.set_cons_succ]
          refine wpMildL_take rfl ?_
          apply Exists.intro
          refine ⟨fun w' hw' => ?_, ?_⟩
          · go_simp
            with_reducible rfl
          simp only [Act.put, List.setIfInBounds_toArray, List.set_cons_zero, List.set_cons_succ]
          refine wpMildL_skip rfl ?_
          simp only [Act.put, List.setIfInBounds_toArray, List.set_cons_zero, List.set_cons_succ]
          refine wpMildL_skip rfl ?_
          simp only [Act.put, List.setIfInBounds_toArray, List.set_cons_zero, List.set_cons_succ]
          refine wpMildL_skip rfl ?_
          simp only [Act.put, List.setIfInBounds_toArray, List.set_cons_zero, List.set_cons_succ]
          refine wpMildL_skip rfl ?_
          simp only [Act.put, List.setIfInBounds_toArray, List.set_cons_zero, List.set_cons_succ]
          refine wpMildL_skip rfl ?_
          simp only [Act.put, List.setIfInBounds_toArray, List.set_cons_zero, List.set_cons_succ]
          refine wpMildL_skip rfl ?_
          simp only [Act.put, List.setIfInBounds_toArray, List.set_cons_zero, List.set_cons_succ]
          refine wpMildL_skip rfl ?_
          simp only [Act.put, List.setIfInBounds_toArray, List.set_cons_zero, List.set_cons_succ]
          refine wpMildL_skip rfl ?_
          simp only [Act.put, List.setIfInBounds_toArray, List.set_cons_zero, List.set_cons_succ]
          refine wpMildL_skip rfl ?_
          simp only [Act.put, List.setIfInBounds_toArray, List.set_cons_zero, List.set_cons_succ]
          refine wpMildL_skip rfl ?_
          simp only [Act.put, List.setIfInBounds_toArray, List.set_cons_zero, List.set_cons_succ]
          refine wpMildL_skip rfl ?_
          simp only [Act.put, List.setIfInBounds_toArray, List.set_cons_zero, List.set_cons_succ]
          refine wpMildL_skip rfl ?_
          simp only [Act.put, List.setIfInBounds_toArray, List.set_cons_zero, List.set_cons_succ]
          refine wpMildL_take rfl ?_
          apply Exists.intro
          refine ⟨fun w' hw' => ?_, ?_⟩
          · go_simp
            with_reducible rfl
          simp only [Act.put, List.setIfInBounds_toArray, List.set_cons_zero, List.set_cons_succ]
          refine wpMildL_nil ?_
          intro w4 hb4
          have HB := Lib.hid (bstep hW hb4)
          clear hW hb4 B1 B2 hy hz e1
          go_wp2
          go_roundw
          case rel => exact ⟨k + 1, by omega, by go_num, by rw [HX.out], HOKS, HB⟩
          case measure => simp [intOf]; omega
    · obtain rfl : k = xs.length := by omega
      go_wp2
      go_ret2
      have := simOk_in HI.out hok.out
      exact ⟨by simp [simV, this], hb.out⟩
end Go.Proofs.Ytonkblhajbphmaa
