/- Lists of tinctures: counted, and the different ones. Conditions: as each theorem says. -/
import Derived.Test.YtmemabeackgioaaRows
import Derived.Test.YtmemabeackgioaaCons
namespace Go.Proofs.Ytmemabeackgioaa
set_option linter.unusedSimpArgs false
set_option linter.unusedVariables false
open Go.ChangeShapes Go.WideShapes Go.ChangeAt Go.RowKit

def areT (xs : List Int) : Bool := decide (xs.length ≤ 40) && xs.all (fun x => inB 1 x 9)
theorem all_step (p : Int → Bool) (xs : List Int) (k : Nat) (h : k < xs.length) : (xs.drop k).all p = (p (xs.getD k 0) && (xs.drop (k + 1)).all p) := by
  have e : xs.getD k 0 = xs[k] := by simp [List.getD_eq_getElem?_getD, h]
  rw [List.drop_eq_getElem_cons h, e]
  rfl
set_option maxHeartbeats 400000 in
theorem spec_l2List (A : Option Addr) (n c : Nat) (xs : List Int) (w : World) (hn : n = xs.length) (hl : xs.length ≤ maxLen) (hr : Reads w A xs) :
    Calls Try.prog 46 #[.slice A n c] w fun e w' => e = .returned (.bool (areT xs)) ∧ w = w' := by
  subst hn
  unfold maxLen at hl
  have HR := Lib.hid hr
  clear hr
  have HT : Hid (xs.length ≤ 40 → areT xs = (xs.drop 0).all (fun x => inB 1 x 9)) := fun h => by simp [areT, h]
  have HF : Hid (¬ xs.length ≤ 40 → areT xs = false) := fun h => by simp [areT, h]
  go_enter Try.func46, Try.ntmps46
  go_wp2
  by_cases h40 : xs.length ≤ 40
  · go_loop [3] (fun i => ∃ k : Nat, k ≤ xs.length ∧ i = .int .i64 k ∧ Hid (areT xs = (xs.drop k).all (fun x => inB 1 x 9))) (fun i => xs.length - (intOf i).toNat)
    case atStart => exact ⟨0, Nat.zero_le _, rfl, HT.out h40⟩
    case round =>
      obtain ⟨k, hk, rfl, hi⟩ := hrel
      by_cases hlt : k < xs.length
      · obtain ⟨ad, rfl, hx, hc⟩ := HR.out k hlt
        have HS := Lib.hid (all_step (fun x => inB 1 x 9) xs k hlt)
        generalize xs.getD k 0 = y at *
        have hk40 : (k : Int) ≤ 40 := by omega
        cases he : inB 1 y 9
        · go_wp2_with (go_at_call 50; refine (spec_l2Good _ _).mono ?_; rintro e w' ⟨rfl, rfl⟩)
          go_ret
          exact ⟨by rw [hi.out, HS.out, he]; rfl, rfl⟩
        · go_wp2_with (go_at_call 50; refine (spec_l2Good _ _).mono ?_; rintro e w' ⟨rfl, rfl⟩)
          go_round
          case rel => exact ⟨k + 1, by omega, by go_num, by rw [hi.out, HS.out, he]; rfl⟩
          case measure => simp [intOf]; omega
      · have h3 : (xs.length : Int) ≤ 40 := by omega
        go_wp2
        go_ret
        exact ⟨by rw [hi.out, List.drop_of_length_le (by omega)]; rfl, rfl⟩
  · have h41 : ¬ (xs.length : Int) ≤ 40 := by omega
    have hcap : 41 ≤ xs.length := by omega
    go_loop [3] (fun i => ∃ k : Nat, k ≤ 41 ∧ i = .int .i64 k) (fun i => 41 - (intOf i).toNat)
    case atStart => exact ⟨0, Nat.zero_le _, rfl⟩
    case round =>
      obtain ⟨k, hk, rfl⟩ := hrel
      by_cases hlt : k < 41
      · obtain ⟨ad, rfl, hx, hc⟩ := HR.out k (by omega)
        generalize xs.getD k 0 = y at *
        have hk40 : (k : Int) ≤ 40 := by omega
        have hkl : k < xs.length := by omega
        cases he : inB 1 y 9
        · go_wp2_with (go_at_call 50; refine (spec_l2Good _ _).mono ?_; rintro e w' ⟨rfl, rfl⟩)
          go_ret
          exact ⟨by rw [HF.out h40]; rfl, rfl⟩
        · go_wp2_with (go_at_call 50; refine (spec_l2Good _ _).mono ?_; rintro e w' ⟨rfl, rfl⟩)
          go_round
          case rel => exact ⟨k + 1, by omega, by go_num⟩
          case measure => simp [intOf]; omega
      · obtain rfl : k = 41 := by omega
        go_wp2
        all_goals go_ret
        all_goals exact ⟨by rw [HF.out h40]; rfl, rfl⟩
/-- The place of the first number that is no tincture, counted from i; or -1. -/
def idxN : List Int → Nat → Int
  | [], _ => -1
  | a :: l, i => if inB 1 a 9 then idxN l (i + 1) else (i : Int)
theorem idxN_step (xs : List Int) (k : Nat) (h : k < xs.length) : idxN (xs.drop k) k = if inB 1 (xs.getD k 0) 9 then idxN (xs.drop (k + 1)) (k + 1) else (k : Int) := by
  have e : xs.getD k 0 = xs[k] := by simp [List.getD_eq_getElem?_getD, h]
  rw [List.drop_eq_getElem_cons h, e]
  rfl
theorem idxN_all (xs : List Int) (k : Nat) : decide (0 ≤ idxN xs k) = !(xs.all fun x => inB 1 x 9) := by
  induction xs generalizing k with
  | nil => rfl
  | cons a l ih =>
    unfold idxN
    cases h : inB 1 a 9
    · simp [h]
    · simp only [if_true]
      rw [ih]
      simp [h]
theorem idxN_range (xs : List Int) (k : Nat) : -1 ≤ idxN xs k ∧ idxN xs k < (k : Int) + xs.length := by
  induction xs generalizing k with
  | nil => simp [idxN]; omega
  | cons a l ih =>
    have := ih (k + 1)
    unfold idxN
    split <;> simp <;> omega
theorem impl_areT1 (x : Int) (w : World) : Calls Try.prog 81 #[.int .i64 x] w fun e w' => e = .returned (.bool (!(inB 1 x 9))) ∧ w = w' := by
  go_enter Try.func81, Try.ntmps81
  go_wp2_with (go_at_call 40; refine (impl_IsTincture _ _).mono ?_; rintro e w' ⟨rfl, rfl⟩)
  go_ret
  exact ⟨rfl, rfl⟩
theorem slices_IndexFuncT (A : Option Addr) (n c : Nat) (xs : List Int) (w : World) (hn : n = xs.length) (hl : xs.length ≤ maxLen) (hr : Reads w A xs) :
    Calls Try.prog 103 #[.slice A n c, .func (.func 81) #[] #[]] w fun e w' => e = .returned (.int .i64 (idxN xs 0)) ∧ w = w' := by
  subst hn
  unfold maxLen at hl
  have HR := Lib.hid hr
  clear hr
  go_enter Try.func103, Try.ntmps103
  go_wp2
  go_loop [8] (fun i => ∃ k : Nat, k ≤ xs.length ∧ i = .int .i64 k ∧ Hid (idxN xs 0 = idxN (xs.drop k) k)) (fun i => xs.length - (intOf i).toNat)
  case atStart => exact ⟨0, Nat.zero_le _, rfl, rfl⟩
  case round =>
    obtain ⟨k, hk, rfl, hi⟩ := hrel
    by_cases hlt : k < xs.length
    · obtain ⟨ad, rfl, hx, hc⟩ := HR.out k hlt
      have HS := Lib.hid (idxN_step xs k hlt)
      generalize xs.getD k 0 = y at *
      cases he : inB 1 y 9
      · go_wp2_with (go_at_call 81; refine (impl_areT1 _ _).mono ?_; rintro e w' ⟨rfl, rfl⟩)
        go_ret
        exact ⟨ret_int (by rw [hi.out, HS.out, he]; rfl), rfl⟩
      · go_wp2_with (go_at_call 81; refine (impl_areT1 _ _).mono ?_; rintro e w' ⟨rfl, rfl⟩)
        go_round
        case rel => exact ⟨k + 1, by omega, by go_num, by rw [hi.out, HS.out, he]; rfl⟩
        case measure => simp [intOf]; omega
    · go_wp2
      go_ret
      exact ⟨ret_int (by rw [hi.out, List.drop_of_length_le (by omega)]; rfl), rfl⟩
theorem slices_ContainsFuncT (A : Option Addr) (n c : Nat) (xs : List Int) (w : World) (hn : n = xs.length) (hl : xs.length ≤ maxLen) (hr : Reads w A xs) :
    Calls Try.prog 80 #[.slice A n c, .func (.func 81) #[] #[]] w fun e w' => e = .returned (.bool (!(xs.all fun x => inB 1 x 9))) ∧ w = w' := by
  have hh := Lib.hid (idxN_all xs 0)
  have HR := Lib.hid hr
  have hg := (idxN_range xs 0).1
  have HN := Lib.hid hn
  have HL := Lib.hid hl
  clear hr hn hl
  go_enter Try.func80, Try.ntmps80
  go_wp2_with (go_at_call 103; refine (slices_IndexFuncT _ _ _ _ _ HN.out HL.out HR.out).mono ?_; rintro e w' ⟨rfl, rfl⟩)
  go_ret
  exact ⟨by rw [← hh.out]; rfl, rfl⟩
theorem impl_areTinctures (A : Option Addr) (n c : Nat) (xs : List Int) (w : World) (hn : n = xs.length) (hl : xs.length ≤ maxLen) (hr : Reads w A xs) :
    Calls Try.prog 47 #[.slice A n c] w fun e w' => e = .returned (.bool (areT xs)) ∧ w = w' := by
  subst hn
  have HR := Lib.hid hr
  have HL := Lib.hid hl
  clear hr hl
  by_cases h40 : xs.length ≤ 40
  · have HT : Hid (areT xs = xs.all (fun x => inB 1 x 9)) := by show _ = _; simp [areT, h40]
    have h3 : (xs.length : Int) ≤ 40 := by omega
    go_enter Try.func47, Try.ntmps47
    go_wp2_with (go_at_call 80; refine (slices_ContainsFuncT _ _ _ _ _ rfl HL.out HR.out).mono ?_; rintro e w' ⟨rfl, rfl⟩)
    go_ret
    exact ⟨by rw [HT.out]; simp, rfl⟩
  · have HT : Hid (areT xs = false) := by show _ = _; simp [areT, h40]
    have h3 : ¬ (xs.length : Int) ≤ 40 := by omega
    go_enter Try.func47, Try.ntmps47
    go_wp2
    go_ret
    exact ⟨by rw [HT.out]; simp, rfl⟩
/-! ### the different ones -/
def fstL : List Int → List Int → List Int
  | acc, [] => acc
  | acc, x :: l => fstL (if hasI acc x then acc else acc ++ [x]) l
theorem fstL_step (acc xs : List Int) (k : Nat) (h : k < xs.length) : fstL acc (xs.drop k) = fstL (if hasI acc (xs.getD k 0) then acc else acc ++ [xs.getD k 0]) (xs.drop (k + 1)) := by
  have e : xs.getD k 0 = xs[k] := by simp [List.getD_eq_getElem?_getD, h]
  rw [List.drop_eq_getElem_cons h, e]
  rfl
theorem fstL_len (acc xs : List Int) : (fstL acc xs).length ≤ acc.length + xs.length := by
  induction xs generalizing acc with
  | nil => simp [fstL]
  | cons x l ih =>
    unfold fstL
    refine Nat.le_trans (ih _) ?_
    split <;> simp <;> omega
def foV (xs : List Int) : List Int := if areT xs then fstL [] xs else []
theorem foV_len (xs : List Int) (h : xs.length ≤ 1048576) : (foV xs).length ≤ 1048576 := by
  unfold foV
  split
  · have := fstL_len [] xs
    simp at this
    omega
  · simp
theorem apart_symm {a b : Option Nat} (h : a = none ∨ a ≠ b) : b = none ∨ b ≠ a := by
  cases b with
  | none => exact .inl rfl
  | some k =>
    refine .inr fun e => ?_
    rcases h with h | h
    · rw [h] at e; cases e
    · exact h e.symm
theorem ctV_len' (xs : List Int) : xs.length ≤ 1048576 → (if areT xs then fstL [] xs else []).length ≤ 1048576 := foV_len xs
/-! ### counts -/
def cntOne (l : List Int) (j : Nat) : Int := ((l.filter fun x => x == (j : Int) + 1).length : Int)
theorem cntOne_snoc (l : List Int) (j i : Nat) : cntOne (l ++ [(j : Int) + 1]) i = if j = i then cntOne l i + 1 else cntOne l i := by
  unfold cntOne
  rw [List.filter_append]
  by_cases h : j = i
  · subst h
    simp
  · have hne : ((j : Int) + 1 == (i : Int) + 1) = false := by simp; omega
    simp [h, hne, List.filter_cons]
def cntL (l : List Int) : List Int := (List.range 9).map (cntOne l)
def cntA (l : List Int) : Array Value := ((cntL l).map (Value.int .i64)).toArray
def ctV (xs : List Int) : List Int := if areT xs then cntL xs else []
theorem ctV_len (xs : List Int) : (ctV xs).length ≤ 1048576 := by
  unfold ctV
  split <;> simp [cntL]
theorem cntA_at (l : List Int) (j : Nat) (h : j < 9) : ∃ q : Int, (cntA l)[j]? = some (.int .i64 q) ∧ 0 ≤ q ∧ q ≤ l.length := by
  refine ⟨cntOne l j, by simp [cntA, cntL, h], by unfold cntOne; omega, ?_⟩
  unfold cntOne
  have := List.length_filter_le (fun x => x == (j : Int) + 1) l
  omega
theorem cntA_snoc (xs : List Int) (k j : Nat) (hk : k < xs.length) (hj : j < 9) (hx : xs.getD k 0 = (j : Int) + 1) :
    ∀ q, (cntA (xs.take k))[j]? = some (.int .i64 q) → cntA (xs.take (k + 1)) = (cntA (xs.take k)).setIfInBounds j (.int .i64 (q + 1)) := by
  intro q hq
  have e : xs[k] = (j : Int) + 1 := by
    rw [← hx]
    simp [List.getD_eq_getElem?_getD, hk]
  have hq' : cntOne (xs.take k) j = q := by simpa [cntA, cntL, hj] using hq
  rw [List.take_succ_eq_append_getElem hk, e]
  apply Array.ext_getElem?
  intro i
  rw [Array.getElem?_setIfInBounds]
  by_cases hi : i < 9
  · by_cases hij : j = i
    · subst hij
      simp [cntA, cntL, hj, cntOne_snoc, hq']
    · simp [cntA, cntL, hi, hij, cntOne_snoc]
  · have hij : j ≠ i := by omega
    simp [cntA, cntL, hi, hij]
set_option maxHeartbeats 1000000 in
theorem impl_firsts (A : Option Addr) (n c : Nat) (xs : List Int) (w : World) (hn : n = xs.length) (hl : xs.length ≤ 1048576) (hr : Reads w A xs) :
    Calls Try.prog 67 #[.slice A n c] w (RetInts1 (fstL [] xs) w) := by
  subst hn
  have HR := Lib.hid hr
  clear hr
  go_enter Try.func67, Try.ntmps67
  go_wp2
  go_loopw [3, 9] (fun o i wr => ∃ (k : Nat) (acc : List Int), k ≤ xs.length ∧ i = .int .i64 k ∧ acc.length ≤ k ∧ Hid (fstL [] xs = fstL acc (xs.drop k)) ∧ Hid (Ints wr w.heap.size o acc) ∧ Hid (Below w.heap.size w wr)) (fun _ i _ => xs.length - (intOf i).toNat)
  case atStart => exact ⟨0, [], Nat.zero_le _, rfl, Nat.le_refl _, rfl, ints_lit w [] #[] 0 rfl rfl (by decide), balloc (Below.refl _ _) _⟩
  case round =>
    obtain ⟨k, acc, hk, rfl, hacc, hi, ho, hb⟩ := hrel
    by_cases hlt : k < xs.length
    · obtain ⟨ad, rfl, hx, hc0⟩ := HR.out k hlt
      have hc := (hb.out.cell (p := ad.add k) (by rw [add_block]; exact hx)).trans hc0
      have HS := Lib.hid (fstL_step acc xs k hlt)
      clear hc0
      generalize xs.getD k 0 = y at *
      obtain ⟨A', c', rfl, HRA⟩ := own_reads ho.out
      have HAL : Hid (acc.length ≤ maxLen) := by show _ ≤ _; unfold maxLen; omega
      cases he : hasI acc y
      · go_wp2_with (first | (go_at_call 89; refine (slices_ContainsInt _ _ _ _ _ _ rfl HAL.out HRA.out).mono ?_; rintro e w' ⟨rfl, rfl⟩) | (at_builtin; refine wp_append1 rfl _ _ rfl _ _ _ rfl rfl ho.out hb.out (by omega) ?_; intro v' w1 hi1 hb1))
        go_roundw
        case rel => exact ⟨k + 1, acc ++ [y], by omega, by go_num, by simp; omega, by show _ = _; rw [hi.out, HS.out, he]; rfl, hi1, hb1⟩
        case measure => simp [intOf]; omega
      · go_wp2_with (go_at_call 89; refine (slices_ContainsInt _ _ _ _ _ _ rfl HAL.out HRA.out).mono ?_; rintro e w' ⟨rfl, rfl⟩)
        go_roundw
        case rel => exact ⟨k + 1, acc, by omega, by go_num, by omega, by show _ = _; rw [hi.out, HS.out, he]; rfl, ho, hb⟩
        case measure => simp [intOf]; omega
    · go_wp2
      go_ret
      have e : fstL [] xs = acc := by
        rw [hi.out, List.drop_of_length_le (by omega)]
        rfl
      exact ⟨_, rfl, e ▸ ho.out, hb.out⟩
set_option maxHeartbeats 1000000 in
theorem spec_l2First (A : Option Addr) (n c : Nat) (xs : List Int) (w : World) (hn : n = xs.length) (hl : xs.length ≤ 1048576) (hr : Reads w A xs) :
    Calls Try.prog 66 #[.slice A n c] w (RetInts1 (fstL [] xs) w) := by
  subst hn
  have HR := Lib.hid hr
  clear hr
  go_enter Try.func66, Try.ntmps66
  go_wp2
  go_loopw [3, 4] (fun o i wr => ∃ (k : Nat) (acc : List Int), k ≤ xs.length ∧ i = .int .i64 k ∧ acc.length ≤ k ∧ Hid (fstL [] xs = fstL acc (xs.drop k)) ∧ Hid (Ints wr w.heap.size o acc) ∧ Hid (Below w.heap.size w wr)) (fun _ i _ => xs.length - (intOf i).toNat)
  case atStart => exact ⟨0, [], Nat.zero_le _, rfl, Nat.le_refl _, rfl, ints_lit w [] #[] 0 rfl rfl (by decide), balloc (Below.refl _ _) _⟩
  case round =>
    obtain ⟨k, acc, hk, rfl, hacc, hi, ho, hb⟩ := hrel
    by_cases hlt : k < xs.length
    · obtain ⟨ad, rfl, hx, hc0⟩ := HR.out k hlt
      have hc := (hb.out.cell (p := ad.add k) (by rw [add_block]; exact hx)).trans hc0
      have HS := Lib.hid (fstL_step acc xs k hlt)
      clear hc0
      generalize xs.getD k 0 = y at *
      obtain ⟨A', c', rfl, HRA⟩ := own_reads ho.out
      have HAL : Hid (acc.length ≤ maxLen) := by show _ ≤ _; unfold maxLen; omega
      cases he : hasI acc y
      · go_wp2_with (first | (go_at_call 53; refine (spec_l1Has _ _ _ _ _ _ rfl HAL.out HRA.out).mono ?_; rintro e w' ⟨rfl, rfl⟩) | (at_builtin; refine wp_append1 rfl _ _ rfl _ _ _ rfl rfl ho.out hb.out (by omega) ?_; intro v' w1 hi1 hb1))
        go_roundw
        case rel => exact ⟨k + 1, acc ++ [y], by omega, by go_num, by simp; omega, by show _ = _; rw [hi.out, HS.out, he]; rfl, hi1, hb1⟩
        case measure => simp [intOf]; omega
      · go_wp2_with (go_at_call 53; refine (spec_l1Has _ _ _ _ _ _ rfl HAL.out HRA.out).mono ?_; rintro e w' ⟨rfl, rfl⟩)
        go_roundw
        case rel => exact ⟨k + 1, acc, by omega, by go_num, by omega, by show _ = _; rw [hi.out, HS.out, he]; rfl, ho, hb⟩
        case measure => simp [intOf]; omega
    · go_wp2
      go_ret
      have e : fstL [] xs = acc := by
        rw [hi.out, List.drop_of_length_le (by omega)]
        rfl
      exact ⟨_, rfl, e ▸ ho.out, hb.out⟩
set_option maxHeartbeats 1000000 in
theorem impl_CountTinctures (A : Option Addr) (n c : Nat) (xs : List Int) (w : World) (hn : n = xs.length) (hl : xs.length ≤ 1048576) (hr : Reads w A xs) :
    Calls Try.prog 15 #[.slice A n c] w (RetInts (areT xs) (ctV xs) w) := by
  subst hn
  have HR := Lib.hid hr
  have HL : Hid (xs.length ≤ maxLen) := by show _ ≤ _; unfold maxLen; omega
  clear hr
  unfold ctV
  cases h : areT xs
  · go_enter Try.func15, Try.ntmps15
    go_wp2_with (go_at_call 47; refine (impl_areTinctures _ _ _ _ _ rfl HL.out HR.out).mono ?_; rintro e w' ⟨rfl, rfl⟩)
    go_ret2
    exact ⟨_, rfl, Ints.nil _ _, Below.refl _ _⟩
  · have h' := h
    unfold areT at h'
    simp only [Bool.and_eq_true, decide_eq_true_eq] at h'
    have h40 := h'.1
    have HALL := Lib.hid h'.2
    clear h'
    have hmk : ∀ w, (Instr.makeSlice 22 (.int .i64 9) (.int .i64 9)).run Try.prog w = .ok (.slice (some ⟨w.heap.size, 0, none⟩) 9 9) (w.alloc (.cells #[.int .i64 0, .int .i64 0, .int .i64 0, .int .i64 0, .int .i64 0, .int .i64 0, .int .i64 0, .int .i64 0, .int .i64 0] 3)) := fun _ => by kernel_rfl
    go_enter Try.func15, Try.ntmps15
    go_wp2_with (go_at_call 47; refine (impl_areTinctures _ _ _ _ _ rfl HL.out HR.out).mono ?_; rintro e w' ⟨rfl, rfl⟩)
    go_loopw [13] (fun i wr => ∃ k : Nat, k ≤ xs.length ∧ i = .int .i64 k ∧ Hid (Blk wr w.heap.size 3 (cntA (xs.take k))) ∧ Hid (Below w.heap.size w wr)) (fun i _ => xs.length - (intOf i).toNat)
    case atStart => exact ⟨0, Nat.zero_le _, rfl, (show Blk _ _ _ (cntA []) from Blk.new _ _ _), balloc (Below.refl _ _) _⟩
    case round =>
      obtain ⟨k, hk, rfl, ho, hb⟩ := hrel
      by_cases hlt : k < xs.length
      · obtain ⟨ad, rfl, hx, hc0⟩ := HR.out k hlt
        have hc := (hb.out.cell (p := ad.add k) (by rw [add_block]; exact hx)).trans hc0
        clear hc0
        have hy : inB 1 (xs.getD k 0) 9 = true := List.all_eq_true.1 HALL.out _ (by simp [List.getD_eq_getElem?_getD, hlt])
        obtain ⟨j, hj, hy'⟩ : ∃ j : Nat, j < 9 ∧ xs.getD k 0 = (j : Int) + 1 := ⟨((xs.getD k 0) - 1).toNat, by rw [inB_true] at hy; omega, by rw [inB_true] at hy; omega⟩
        have HS := Lib.hid (cntA_snoc xs k j hlt hj hy')
        rw [hy'] at hc
        obtain ⟨q, hq, hq0, hq1⟩ := cntA_at (xs.take k) j hj
        have hcb : wr.cell? ⟨w.heap.size, j, none⟩ = some (.int .i64 q) := (ho.out.cell j).trans hq
        have hfb := ho.out.free j
        have hqk : q ≤ 40 := by simp at hq1; omega
        have HQ := Lib.hid hq
        clear hq hy hy' hq1
        go_wp2
        go_roundw
        case rel => exact ⟨k + 1, by omega, by go_num, by show Blk _ _ _ _; rw [HS.out q HQ.out]; exact ho.out.set_ j _, bset hb.out (Nat.le_refl _) _⟩
        case measure => simp [intOf]; omega
      · obtain rfl : k = xs.length := by omega
        go_wp2
        go_ret2
        have hB := ho.out
        rw [List.take_length] at hB
        exact ⟨_, rfl, ints_at _ _ _ _ (cntL xs) _ hB rfl (by simp [cntL]) (Nat.le_refl _) (by simp [cntL, maxLen]), hb.out⟩
set_option maxHeartbeats 1000000 in
theorem spec_CountTinctures (A : Option Addr) (n c : Nat) (xs : List Int) (w : World) (hn : n = xs.length) (hl : xs.length ≤ 1048576) (hr : Reads w A xs) :
    Calls Try.prog 13 #[.slice A n c] w (RetInts (areT xs) (ctV xs) w) := by
  subst hn
  have HR := Lib.hid hr
  have HL : Hid (xs.length ≤ maxLen) := by show _ ≤ _; unfold maxLen; omega
  clear hr
  unfold ctV
  cases h : areT xs
  · go_enter Try.func13, Try.ntmps13
    go_wp2_with (go_at_call 46; refine (spec_l2List _ _ _ _ _ rfl HL.out HR.out).mono ?_; rintro e w' ⟨rfl, rfl⟩)
    go_ret2
    exact ⟨_, rfl, ints_lit _ _ _ _ rfl rfl (by decide), (by repeat (first | (with_reducible exact Below.refl _ _) | (with_reducible assumption) | (with_reducible refine balloc ?_ _) | (with_reducible refine bdrew ?_) | (with_reducible refine bdrewN ?_ _) | (with_reducible refine bset ?_ (by first | omega | (simp; done) | (simp; omega)) _) | (with_reducible refine bstep ?_ (by assumption))))⟩
  · have h' := h
    unfold areT at h'
    simp only [Bool.and_eq_true, decide_eq_true_eq] at h'
    have h40 := h'.1
    have HALL := Lib.hid h'.2
    clear h'
    have hmk : ∀ w, (Instr.makeSlice 22 (.int .i64 9) (.int .i64 9)).run Try.prog w = .ok (.slice (some ⟨w.heap.size, 0, none⟩) 9 9) (w.alloc (.cells #[.int .i64 0, .int .i64 0, .int .i64 0, .int .i64 0, .int .i64 0, .int .i64 0, .int .i64 0, .int .i64 0, .int .i64 0] 3)) := fun _ => by kernel_rfl
    go_enter Try.func13, Try.ntmps13
    go_wp2_with (go_at_call 46; refine (spec_l2List _ _ _ _ _ rfl HL.out HR.out).mono ?_; rintro e w' ⟨rfl, rfl⟩)
    go_loopw [5] (fun i wr => ∃ k : Nat, k ≤ xs.length ∧ i = .int .i64 k ∧ Hid (Blk wr w.heap.size 3 (cntA (xs.take k))) ∧ Hid (Below w.heap.size w wr)) (fun i _ => xs.length - (intOf i).toNat)
    case atStart => exact ⟨0, Nat.zero_le _, rfl, (show Blk _ _ _ (cntA []) from Blk.new _ _ _), balloc (Below.refl _ _) _⟩
    case round =>
      obtain ⟨k, hk, rfl, ho, hb⟩ := hrel
      by_cases hlt : k < xs.length
      · obtain ⟨ad, rfl, hx, hc0⟩ := HR.out k hlt
        have hc := (hb.out.cell (p := ad.add k) (by rw [add_block]; exact hx)).trans hc0
        clear hc0
        have hy : inB 1 (xs.getD k 0) 9 = true := List.all_eq_true.1 HALL.out _ (by simp [List.getD_eq_getElem?_getD, hlt])
        obtain ⟨j, hj, hy'⟩ : ∃ j : Nat, j < 9 ∧ xs.getD k 0 = (j : Int) + 1 := ⟨((xs.getD k 0) - 1).toNat, by rw [inB_true] at hy; omega, by rw [inB_true] at hy; omega⟩
        have HS := Lib.hid (cntA_snoc xs k j hlt hj hy')
        rw [hy'] at hc
        obtain ⟨q, hq, hq0, hq1⟩ := cntA_at (xs.take k) j hj
        have hcb : wr.cell? ⟨w.heap.size, j, none⟩ = some (.int .i64 q) := (ho.out.cell j).trans hq
        have hfb := ho.out.free j
        have hqk : q ≤ 40 := by simp at hq1; omega
        have HQ := Lib.hid hq
        clear hq hy hy' hq1
        go_wp2
        go_roundw
        case rel => exact ⟨k + 1, by omega, by go_num, by show Blk _ _ _ _; rw [HS.out q HQ.out]; exact ho.out.set_ j _, bset hb.out (Nat.le_refl _) _⟩
        case measure => simp [intOf]; omega
      · obtain rfl : k = xs.length := by omega
        go_wp2
        go_ret2
        have hB := ho.out
        rw [List.take_length] at hB
        exact ⟨_, rfl, ints_at _ _ _ _ (cntL xs) _ hB rfl (by simp [cntL]) (Nat.le_refl _) (by simp [cntL, maxLen]), hb.out⟩
theorem impl_FirstOf (A : Option Addr) (n c : Nat) (xs : List Int) (w : World) (hn : n = xs.length) (hl : xs.length ≤ 1048576) (hr : Reads w A xs) :
    Calls Try.prog 31 #[.slice A n c] w (RetInts (areT xs) (foV xs) w) := by
  subst hn
  have HR := Lib.hid hr
  have HL : Hid (xs.length ≤ maxLen) := by show _ ≤ _; unfold maxLen; omega
  have HL2 := Lib.hid hl
  clear hr hl
  unfold foV
  cases h : areT xs
  · go_enter Try.func31, Try.ntmps31
    go_wp2_with (go_at_call 47; refine (impl_areTinctures _ _ _ _ _ rfl HL.out HR.out).mono ?_; rintro e w' ⟨rfl, rfl⟩)
    go_ret2
    exact ⟨_, rfl, Ints.nil _ _, Below.refl _ _⟩
  · go_enter Try.func31, Try.ntmps31
    go_wp2_with (first | (go_at_call 47; refine (impl_areTinctures _ _ _ _ _ rfl HL.out HR.out).mono ?_; rintro e w' ⟨rfl, rfl⟩) | (go_at_call 67; refine (impl_firsts _ _ _ _ _ rfl HL2.out HR.out).mono ?_; rintro e w1 ⟨v, rfl, hi, hb1⟩))
    go_ret2
    exact ⟨_, rfl, hi, hb1⟩
theorem spec_FirstOf (A : Option Addr) (n c : Nat) (xs : List Int) (w : World) (hn : n = xs.length) (hl : xs.length ≤ 1048576) (hr : Reads w A xs) :
    Calls Try.prog 30 #[.slice A n c] w (RetInts (areT xs) (foV xs) w) := by
  subst hn
  have HR := Lib.hid hr
  have HL : Hid (xs.length ≤ maxLen) := by show _ ≤ _; unfold maxLen; omega
  have HL2 := Lib.hid hl
  clear hr hl
  unfold foV
  cases h : areT xs
  · go_enter Try.func30, Try.ntmps30
    go_wp2_with (go_at_call 46; refine (spec_l2List _ _ _ _ _ rfl HL.out HR.out).mono ?_; rintro e w' ⟨rfl, rfl⟩)
    go_ret2
    exact ⟨_, rfl, ints_lit _ _ _ _ rfl rfl (by decide), (by repeat (first | (with_reducible exact Below.refl _ _) | (with_reducible assumption) | (with_reducible refine balloc ?_ _) | (with_reducible refine bdrew ?_) | (with_reducible refine bdrewN ?_ _) | (with_reducible refine bset ?_ (by first | omega | (simp; done) | (simp; omega)) _) | (with_reducible refine bstep ?_ (by assumption))))⟩
  · go_enter Try.func30, Try.ntmps30
    go_wp2_with (first | (go_at_call 46; refine (spec_l2List _ _ _ _ _ rfl HL.out HR.out).mono ?_; rintro e w' ⟨rfl, rfl⟩) | (go_at_call 66; refine (spec_l2First _ _ _ _ _ rfl HL2.out HR.out).mono ?_; rintro e w1 ⟨v, rfl, hi, hb1⟩))
    go_ret2
    exact ⟨_, rfl, hi, hb1⟩
end Go.Proofs.Ytmemabeackgioaa
