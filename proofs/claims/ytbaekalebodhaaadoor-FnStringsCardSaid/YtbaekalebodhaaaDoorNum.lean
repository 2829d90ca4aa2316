/- The text of a number. Conditions: as each theorem says. -/
import Derived.Test.YtbaekalebodhaaaDoorRows
import Derived.Test.YtbaekalebodhaaaDoorTinct
import Derived.Test.YtbaekalebodhaaaDoorMild
import Derived.Test.YtbaekalebodhaaaDoorShelf
import Derived.Lib.ItoaLen
import Derived.Deep.Cut
namespace Go.Proofs.YtbaekalebodhaaaDoor
set_option linter.unusedSimpArgs false
set_option linter.unusedVariables false
open Go.ChangeShapes Go.WideShapes Go.ChangeAt Go.RowKit

def numS (n : Int) : ByteArray := ⟨(Lib.itoa n).toArray⟩
theorem digit_piece {n : Nat} (h : n < 10) : (⟨#[48, 49, 50, 51, 52, 53, 54, 55, 56, 57]⟩ : ByteArray).extract n (n + 1) = ⟨(Lib.decDigits n).toArray⟩ := by
  rw [Lib.decDigits_one h]
  match n, h with
  | 0, _ | 1, _ | 2, _ | 3, _ | 4, _ | 5, _ | 6, _ | 7, _ | 8, _ | 9, _ => rfl
theorem numS_small {n : Nat} (h : n < 10) : (⟨#[48, 49, 50, 51, 52, 53, 54, 55, 56, 57]⟩ : ByteArray).extract n (n + 1) = numS (n : Int) := by
  rw [digit_piece h]
  unfold numS
  rw [Lib.itoa_nonneg]
theorem numS_big {n : Nat} (h : ¬ n < 10) : numS ((n / 10 : Nat) : Int) ++ (⟨#[48, 49, 50, 51, 52, 53, 54, 55, 56, 57]⟩ : ByteArray).extract (n % 10) (n % 10 + 1) = numS (n : Int) := by
  rw [digit_piece (Nat.mod_lt _ (by decide))]
  unfold numS
  rw [Lib.itoa_nonneg, Lib.itoa_nonneg, Lib.decDigits_one (Nat.mod_lt _ (by decide))]
  conv => rhs; rw [Lib.decDigits, dif_neg h]
  apply ByteArray.ext
  simp
theorem numS_neg {n : Int} (h : n < 0) : (⟨#[45]⟩ : ByteArray) ++ numS (-n) = numS n := by
  obtain ⟨k, rfl⟩ : ∃ k : Nat, n = -(k : Int) := ⟨n.natAbs, by omega⟩
  unfold numS
  rw [Int.neg_neg, Lib.itoa_nonneg, Lib.itoa_neg k (by omega)]
  apply ByteArray.ext
  simp
theorem numS_size {n : Int} (h0 : -1000000000000000000 < n) (h1 : n < 1000000000000000000) : (numS n).size ≤ 21 := by
  have := Lib.itoa_length_le n (by omega) (by omega)
  simpa [numS, ByteArray.size] using this
theorem spec_num_nn (k : Nat) : ∀ (n : Nat) (w : World), n < 10 ^ k → k ≤ 18 → Calls Tryd.prog 28 #[.int .i64 (n : Int)] w fun e w' => e = .returned (.string (numS (n : Int))) ∧ Below w.heap.size w w' := by
  induction k with
  | zero =>
    intro n w h _
    have h0 : n = 0 := by omega
    subst h0
    go_enter Tryd.func28, Tryd.ntmps28
    go_wp2_with fail
    go_ret
    exact ⟨by unfold numS; rw [Lib.itoa_nonneg, Lib.decDigits_one (by decide)]; rfl, Below.refl _ _⟩
  | succ k ih =>
    intro n w h hk
    by_cases h9 : n < 10
    · go_enter Tryd.func28, Tryd.ntmps28
      go_wp2_with fail
      go_ret
      refine ⟨?_, Below.refl _ _⟩
      show Ending.returned (Value.string _) = _
      rw [numS_small h9]
    · have hb : n < 1000000000000000000 := Nat.lt_of_lt_of_le h (Nat.pow_le_pow_right (by decide) hk)
      have hq : ∀ w, Calls Tryd.prog 28 #[.int .i64 (IntKind.i64.wrap ((n : Int) / 10))] w fun e w' => e = .returned (.string (numS ((n / 10 : Nat) : Int))) ∧ Below w.heap.size w w' := by
        intro w
        rw [IntWalk.i64_in _ (by omega)]
        exact ih _ _ (Nat.div_lt_of_lt_mul (by rw [Nat.pow_succ, Nat.mul_comm] at h; exact h)) (by omega)
      have HQ := Lib.hid hq
      have HM : Hid ((n : Int).tmod 10 = ((n % 10 : Nat) : Int)) := Lib.hid rfl
      have HW : Hid (IntKind.i64.wrap (((n % 10 : Nat) : Int) + 1) = ((n % 10 + 1 : Nat) : Int)) := Lib.hid (by rw [IntWalk.i64_in _ (by omega)]; omega)
      have HS : Hid ((numS ((n : Int) / 10)).size ≤ 21) := Lib.hid (numS_size (by omega) (by omega))
      clear hq ih hb h
      go_enter Tryd.func28, Tryd.ntmps28
      go_upto_region 5 with (fail)
      refine wp_region_mild0 [true, true, true, true, true, true, true, true, true, true, true] (by kernel_rfl) (by kernel_rfl) ?_
      refine wpMildL_take rfl ?_
      apply Exists.intro
      refine ⟨fun w' hw' => ?_, ?_⟩
      · go_simp
        with_reducible rfl
      simp only [Act.put, List.setIfInBounds_toArray, List.set_cons_zero, List.set_cons_succ]
      refine wpMildL_take rfl ?_
      apply Exists.intro
      refine ⟨fun w' hw' => ?_, ?_⟩
      · go_simp
        with_reducible rfl
      simp only [Act.put, List.setIfInBounds_toArray, List.set_cons_zero, List.set_cons_succ]
      refine wpMildL_take rfl ?_
      apply Exists.intro
      refine ⟨fun w' hw' => ?_, ?_⟩
      · go_simp
        exact HQ.out _
      simp only [Act.put, List.setIfInBounds_toArray, List.set_cons_zero, List.set_cons_succ]
      refine wpMildL_take rfl ?_
      apply Exists.intro
      refine ⟨fun w' hw' => ?_, ?_⟩
      · go_simp
        with_reducible rfl
      simp only [Act.put, List.setIfInBounds_toArray, List.set_cons_zero, List.set_cons_succ]
      refine wpMildL_take rfl ?_
      apply Exists.intro
      refine ⟨fun w' hw' => ?_, ?_⟩
      · go_simp
        with_reducible rfl
      simp only [Act.put, List.setIfInBounds_toArray, List.set_cons_zero, List.set_cons_succ]
      refine wpMildL_take rfl ?_
      apply Exists.intro
      refine ⟨fun w' hw' => ?_, ?_⟩
      · go_simp
        with_reducible rfl
      simp only [Act.put, List.setIfInBounds_toArray, List.set_cons_zero, List.set_cons_succ]
      refine wpMildL_take rfl ?_
      apply Exists.intro
      refine ⟨fun w' hw' => ?_, ?_⟩
      · go_simp
        with_reducible rfl
      simp only [Act.put, List.setIfInBounds_toArray, List.set_cons_zero, List.set_cons_succ]
      refine wpMildL_take rfl ?_
      apply Exists.intro
      refine ⟨fun w' hw' => ?_, ?_⟩
      · go_simp
        with_reducible rfl
      simp only [Act.put, List.setIfInBounds_toArray, List.set_cons_zero, List.set_cons_succ]
      refine wpMildL_take rfl ?_
      apply Exists.intro
      refine ⟨fun w' hw' => ?_, ?_⟩
      · (go_simp; rw [HM.out, HW.out, if_pos (by omega), if_pos (by omega)]; exact ⟨rfl, rfl⟩)
      simp only [Act.put, List.setIfInBounds_toArray, List.set_cons_zero, List.set_cons_succ]
      refine wpMildL_take rfl ?_
      apply Exists.intro
      refine ⟨fun w' hw' => ?_, ?_⟩
      · (go_simp; rw [if_neg (by have := HS.out; omega)]; exact ⟨rfl, rfl⟩)
      simp only [Act.put, List.setIfInBounds_toArray, List.set_cons_zero, List.set_cons_succ]
      refine wpMildL_take rfl ?_
      apply Exists.intro
      refine ⟨fun w' hw' => ?_, ?_⟩
      · go_simp
        with_reducible rfl
      simp only [Act.put, List.setIfInBounds_toArray, List.set_cons_zero, List.set_cons_succ]
      refine wpMildL_nil ?_
      intro w1 hb1
      go_wp2
      go_ret
      refine ⟨?_, hb1⟩
      show Ending.returned (Value.string _) = _
      rw [← numS_big h9]
      rfl
theorem spec_l1Num (n : Int) (w : World) (h0 : -1000000000000000000 < n) (h1 : n < 1000000000000000000) : Calls Tryd.prog 28 #[.int .i64 n] w fun e w' => e = .returned (.string (numS n)) ∧ Below w.heap.size w w' := by
  have p18 : (10 : Nat) ^ 18 = 1000000000000000000 := by decide
  by_cases hn : n < 0
  · have hq : ∀ w, Calls Tryd.prog 28 #[.int .i64 (-n)] w fun e w' => e = .returned (.string (numS (-n))) ∧ Below w.heap.size w w' := by
      intro w
      obtain ⟨k, rfl⟩ : ∃ k : Nat, n = -(k : Int) := ⟨n.natAbs, by omega⟩
      simp only [Int.neg_neg]
      exact spec_num_nn 18 k _ (by rw [p18]; omega) (by decide)
    have HN := Lib.hid (numS_neg hn)
    have HQ := Lib.hid hq
    have hs : (numS (-n)).size ≤ 21 := numS_size (by omega) (by omega)
    clear hq
    go_enter Tryd.func28, Tryd.ntmps28
    go_wp2_with (go_at_call 28; refine (HQ.out _).mono ?_; rintro e w1 ⟨rfl, hb1⟩)
    go_ret
    refine ⟨?_, by assumption⟩
    show Ending.returned (Value.string _) = _
    rw [← HN.out]
  · obtain ⟨k, rfl⟩ : ∃ k : Nat, n = (k : Int) := ⟨n.toNat, by omega⟩
    exact spec_num_nn 18 k _ (by rw [p18]; omega) (by decide)
end Go.Proofs.YtbaekalebodhaaaDoor
