/- Counts and different ones: plain laws. Conditions: as each theorem says. -/
import Derived.Test.YtmemabeackgioaaRows
import Derived.Test.YtmemabeackgioaaTlist
import Derived.Test.YtmemabeackgioaaVcode
namespace Go.Proofs.Ytmemabeackgioaa
set_option linter.unusedSimpArgs false
set_option linter.unusedVariables false
open Go.ChangeShapes Go.WideShapes Go.ChangeAt Go.RowKit

def sumTo (l : List Int) : Nat → Int
  | 0 => 0
  | k + 1 => sumTo l k + l.getD k 0
def posTo (l : List Int) : Nat → Int
  | 0 => 0
  | k + 1 => posTo l k + (if 0 < l.getD k 0 then 1 else 0)
theorem sumTo_range (l : List Int) (h : ∀ k, 0 ≤ l.getD k 0 ∧ l.getD k 0 ≤ 100) (k : Nat) : 0 ≤ sumTo l k ∧ sumTo l k ≤ 100 * k := by
  induction k with
  | zero => simp [sumTo]
  | succ k ih =>
    have := h k
    simp only [sumTo]
    omega
theorem posTo_range (l : List Int) (k : Nat) : 0 ≤ posTo l k ∧ posTo l k ≤ k := by
  induction k with
  | zero => simp [posTo]
  | succ k ih =>
    simp only [posTo]
    split <;> omega
theorem cntL_getD (xs : List Int) (j : Nat) : (cntL xs).getD j 0 = if j < 9 then cntOne xs j else 0 := by
  unfold cntL
  by_cases h : j < 9
  · simp [List.getD_eq_getElem?_getD, h]
  · rw [if_neg h, List.getD_eq_getElem?_getD, List.getElem?_eq_none (by simp; omega)]
    rfl
theorem cntOne_range (xs : List Int) (j : Nat) : 0 ≤ cntOne xs j ∧ cntOne xs j ≤ xs.length := by
  unfold cntOne
  have := List.length_filter_le (fun x => x == (j : Int) + 1) xs
  omega
theorem cntOne_cons (x : Int) (xs : List Int) (j : Nat) : cntOne (x :: xs) j = (if x = (j : Int) + 1 then 1 else 0) + cntOne xs j := by
  unfold cntOne
  by_cases h : x = (j : Int) + 1
  · simp [List.filter_cons, h]
    omega
  · have h' : (x == (j : Int) + 1) = false := by simpa using h
    simp [List.filter_cons, h', h]
theorem sum9 (xs : List Int) : sumTo (cntL xs) 9 = cntOne xs 0 + cntOne xs 1 + cntOne xs 2 + cntOne xs 3 + cntOne xs 4 + cntOne xs 5 + cntOne xs 6 + cntOne xs 7 + cntOne xs 8 := by
  simp only [sumTo, cntL_getD, Nat.reduceLT, if_true, Int.zero_add]
theorem sum_len (xs : List Int) (h : xs.all (fun x => inB 1 x 9) = true) : sumTo (cntL xs) 9 = xs.length := by
  rw [sum9]
  induction xs with
  | nil => rfl
  | cons x xs ih =>
    simp only [List.all_cons, Bool.and_eq_true] at h
    have := ih h.2
    simp only [cntOne_cons, List.length_cons]
    rcases nine h.1 with rfl | rfl | rfl | rfl | rfl | rfl | rfl | rfl | rfl <;> simp <;> omega
def dis1 (ys : List Int) (j : Int) : Int := if hasI ys j then 1 else 0
def dis (ys : List Int) : Int := dis1 ys 1 + dis1 ys 2 + dis1 ys 3 + dis1 ys 4 + dis1 ys 5 + dis1 ys 6 + dis1 ys 7 + dis1 ys 8 + dis1 ys 9
theorem hasI_app (ys zs : List Int) (j : Int) : hasI (ys ++ zs) j = (hasI ys j || hasI zs j) := by simp [hasI]
theorem hasI_one (x j : Int) : hasI [x] j = (x == j) := by simp [hasI]
theorem cnt_pos (xs : List Int) (j : Nat) : (if 0 < cntOne xs j then (1 : Int) else 0) = dis1 xs ((j : Int) + 1) := by
  unfold dis1 cntOne hasI
  by_cases h : xs.any (fun x => x == (j : Int) + 1) = true
  · rw [if_pos h, if_pos]
    rw [List.any_eq_true] at h
    obtain ⟨x, hx, he⟩ := h
    have : x ∈ xs.filter fun x => x == (j : Int) + 1 := List.mem_filter.2 ⟨hx, he⟩
    have := List.length_pos_of_mem this
    omega
  · rw [if_neg h, if_neg]
    have : xs.filter (fun x => x == (j : Int) + 1) = [] := by
      rw [List.filter_eq_nil_iff]
      intro x hx he
      exact h (List.any_eq_true.2 ⟨x, hx, he⟩)
    rw [this]
    simp
theorem pos_dis (xs : List Int) : posTo (cntL xs) 9 = dis xs := by
  simp only [posTo, cntL_getD]
  simp only [Nat.reduceLT, if_true, cnt_pos]
  unfold dis
  simp
theorem dis_new (acc : List Int) (x : Int) (h : inB 1 x 9 = true) (hn : hasI acc x = false) : dis (acc ++ [x]) = dis acc + 1 := by
  unfold dis dis1
  simp only [hasI_app, hasI_one]
  rcases nine h with rfl | rfl | rfl | rfl | rfl | rfl | rfl | rfl | rfl <;> simp [hn] <;> omega
theorem dis_old (acc xs : List Int) (x : Int) (hn : hasI acc x = true) : dis (acc ++ x :: xs) = dis (acc ++ xs) := by
  have e : ∀ j, hasI (acc ++ x :: xs) j = hasI (acc ++ xs) j := fun j => by
    rw [hasI_app, hasI_app]
    show (hasI acc j || (x == j || hasI xs j)) = _
    by_cases hj : x = j
    · subst hj
      simp [hn]
    · have : (x == j) = false := by simpa using hj
      simp [this]
  unfold dis dis1
  simp only [e]
theorem fst_dis (xs acc : List Int) (h : xs.all (fun x => inB 1 x 9) = true) (ha : (acc.length : Int) = dis acc) : ((fstL acc xs).length : Int) = dis (acc ++ xs) := by
  induction xs generalizing acc with
  | nil => simpa [fstL] using ha
  | cons x xs ih =>
    simp only [List.all_cons, Bool.and_eq_true] at h
    unfold fstL
    cases hx : hasI acc x
    · simp only [Bool.false_eq_true, if_false]
      rw [ih _ h.2 (by rw [dis_new acc x h.1 hx, ← ha]; simp)]
      simp
    · simp only [if_true]
      rw [ih _ h.2 ha, dis_old acc xs x hx]
theorem fst_head (xs acc : List Int) (h : acc ≠ []) : (fstL acc xs).getD 0 0 = acc.getD 0 0 := by
  induction xs generalizing acc with
  | nil => rfl
  | cons x xs ih =>
    unfold fstL
    split
    · exact ih acc h
    · rw [ih _ (by simp)]
      cases acc with
      | nil => exact absurd rfl h
      | cons a l => rfl
theorem fst_first (xs : List Int) (h : 0 < xs.length) : (fstL [] xs).getD 0 0 = xs.getD 0 0 ∧ 0 < (fstL [] xs).length := by
  cases xs with
  | nil => simp at h
  | cons x xs =>
    have e : fstL [] (x :: xs) = fstL [x] xs := by rw [fstL]; rfl
    rw [e]
    refine ⟨by rw [fst_head xs [x] (by simp)]; rfl, ?_⟩
    have : ∀ (l acc : List Int), acc.length ≤ (fstL acc l).length := by
      intro l
      induction l with
      | nil => intro acc; exact Nat.le_refl _
      | cons y l ih =>
        intro acc
        unfold fstL
        split
        · exact ih acc
        · exact Nat.le_trans (by simp) (ih _)
    exact Nat.lt_of_lt_of_le (by simp) (this xs [x])
theorem laws_vInts (v u : Value) (xs : List Int) (w : World) (B B' : Nat) (hv : Ints w B v xs) (hu : Ints w B' u xs) : Calls Try.prog 34 #[v, u] w fun e w' => e = .returned (.bool true) ∧ Below w.heap.size w w' := by
  have hm := hv.len
  unfold maxLen at hm
  obtain ⟨A, c, rfl, ha⟩ := hv.shape
  obtain ⟨A', c', rfl, ha'⟩ := hu.shape
  have HA := Lib.hid ha
  have HA' := Lib.hid ha'
  clear ha ha' hv hu
  go_enter Try.func34, Try.ntmps34
  go_wp2
  go_loopw [5] (fun i wr => ∃ k : Nat, k ≤ xs.length ∧ i = .int .i64 k ∧ Below w.heap.size w wr) (fun i _ => xs.length - (intOf i).toNat)
  case atStart => exact ⟨0, Nat.zero_le _, rfl, Below.refl _ _⟩
  case round =>
    obtain ⟨k, hk, rfl, hb⟩ := hrel
    by_cases hlt : k < xs.length
    · obtain ⟨g, rfl, _, hg, hc, hf⟩ := HA.out k hlt
      obtain ⟨g', rfl, _, hg', hc', hf'⟩ := HA'.out k hlt
      have c1 := (hb.cell (p := ⟨g, k, none⟩) hg).trans hc
      have c2 := (hb.cell (p := ⟨g', k, none⟩) hg').trans hc'
      clear hc hc' hf hf'
      generalize xs.getD k 0 = x at *
      go_wp2
      go_quiet (fail)
      go_wp2
      go_roundw
      case rel => exact ⟨k + 1, by omega, by go_num, below_drewN hb _⟩
      case measure => simp [intOf]; omega
    · go_wp2
      go_ret
      exact ⟨rfl, hb⟩
end Go.Proofs.Ytmemabeackgioaa
