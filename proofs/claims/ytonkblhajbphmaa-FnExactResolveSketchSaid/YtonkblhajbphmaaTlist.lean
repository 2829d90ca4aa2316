/- Lists of tinctures: counted, and the different ones. Conditions: as each theorem says. -/
import Derived.Test.YtonkblhajbphmaaRows
import Derived.Test.YtonkblhajbphmaaCons
namespace Go.Proofs.Ytonkblhajbphmaa
set_option linter.unusedSimpArgs false
set_option linter.unusedVariables false
open Go.ChangeShapes Go.WideShapes Go.ChangeAt Go.RowKit

def areT (xs : List Int) : Bool := decide (xs.length ≤ 40) && xs.all (fun x => inB 1 x 9)
theorem all_step (p : Int → Bool) (xs : List Int) (k : Nat) (h : k < xs.length) : (xs.drop k).all p = (p (xs.getD k 0) && (xs.drop (k + 1)).all p) := by
  have e : xs.getD k 0 = xs[k] := by simp [List.getD_eq_getElem?_getD, h]
  rw [List.drop_eq_getElem_cons h, e]
  rfl
/-! ### the different ones -/
def fstL : List Int → List Int → List Int
  | acc, [] => acc
  | acc, x :: l => fstL (if hasI acc x then acc else acc ++ [x]) l
theorem fstL_step (acc xs : List Int) (k : Nat) (h : k < xs.length) : fstL acc (xs.drop k) = fstL (if hasI acc (xs.getD k 0) then acc else acc ++ [xs.getD k 0]) (xs.drop (k + 1)) := by
  have e : xs.getD k 0 = xs[k] := by simp [List.getD_eq_getElem?_getD, h]
  rw [List.drop_eq_getElem_cons h, e]
  rfl
theorem fstL_len (acc xs : List Int) : (fstL acc xs).length ≤ acc.length + xs.length := by
  induction xs generalizing acc with
  | nil => simp [fstL]
  | cons x l ih =>
    unfold fstL
    refine Nat.le_trans (ih _) ?_
    split <;> simp <;> omega
def foV (xs : List Int) : List Int := if areT xs then fstL [] xs else []
theorem foV_len (xs : List Int) (h : xs.length ≤ 1048576) : (foV xs).length ≤ 1048576 := by
  unfold foV
  split
  · have := fstL_len [] xs
    simp at this
    omega
  · simp
theorem apart_symm {a b : Option Nat} (h : a = none ∨ a ≠ b) : b = none ∨ b ≠ a := by
  cases b with
  | none => exact .inl rfl
  | some k =>
    refine .inr fun e => ?_
    rcases h with h | h
    · rw [h] at e; cases e
    · exact h e.symm
theorem ctV_len' (xs : List Int) : xs.length ≤ 1048576 → (if areT xs then fstL [] xs else []).length ≤ 1048576 := foV_len xs
/-! ### counts -/
def cntOne (l : List Int) (j : Nat) : Int := ((l.filter fun x => x == (j : Int) + 1).length : Int)
theorem cntOne_snoc (l : List Int) (j i : Nat) : cntOne (l ++ [(j : Int) + 1]) i = if j = i then cntOne l i + 1 else cntOne l i := by
  unfold cntOne
  rw [List.filter_append]
  by_cases h : j = i
  · subst h
    simp
  · have hne : ((j : Int) + 1 == (i : Int) + 1) = false := by simp; omega
    simp [h, hne, List.filter_cons]
def cntL (l : List Int) : List Int := (List.range 9).map (cntOne l)
def cntA (l : List Int) : Array Value := ((cntL l).map (Value.int .i64)).toArray
def ctV (xs : List Int) : List Int := if areT xs then cntL xs else []
theorem ctV_len (xs : List Int) : (ctV xs).length ≤ 1048576 := by
  unfold ctV
  split <;> simp [cntL]
theorem cntA_at (l : List Int) (j : Nat) (h : j < 9) : ∃ q : Int, (cntA l)[j]? = some (.int .i64 q) ∧ 0 ≤ q ∧ q ≤ l.length := by
  refine ⟨cntOne l j, by simp [cntA, cntL, h], by unfold cntOne; omega, ?_⟩
  unfold cntOne
  have := List.length_filter_le (fun x => x == (j : Int) + 1) l
  omega
theorem cntA_snoc (xs : List Int) (k j : Nat) (hk : k < xs.length) (hj : j < 9) (hx : xs.getD k 0 = (j : Int) + 1) :
    ∀ q, (cntA (xs.take k))[j]? = some (.int .i64 q) → cntA (xs.take (k + 1)) = (cntA (xs.take k)).setIfInBounds j (.int .i64 (q + 1)) := by
  intro q hq
  have e : xs[k] = (j : Int) + 1 := by
    rw [← hx]
    simp [List.getD_eq_getElem?_getD, hk]
  have hq' : cntOne (xs.take k) j = q := by simpa [cntA, cntL, hj] using hq
  rw [List.take_succ_eq_append_getElem hk, e]
  apply Array.ext_getElem?
  intro i
  rw [Array.getElem?_setIfInBounds]
  by_cases hi : i < 9
  · by_cases hij : j = i
    · subst hij
      simp [cntA, cntL, hj, cntOne_snoc, hq']
    · simp [cntA, cntL, hi, hij, cntOne_snoc]
  · have hij : j ≠ i := by omega
    simp [cntA, cntL, hi, hij]
set_option maxHeartbeats 1000000 in
theorem impl_firsts (A : Option Addr) (n c : Nat) (xs : List Int) (w : World) (hn : n = xs.length) (hl : xs.length ≤ 1048576) (hr : Reads w A xs) :
    Calls Try.prog 60 #[.slice A n c] w (RetInts1 (fstL [] xs) w) := by
  subst hn
  have HR := Lib.hid hr
  clear hr
  go_enter Try.func60, Try.ntmps60
  go_wp2
  go_loopw [3, 9] (fun o i wr => ∃ (k : Nat) (acc : List Int), k ≤ xs.length ∧ i = .int .i64 k ∧ acc.length ≤ k ∧ Hid (fstL [] xs = fstL acc (xs.drop k)) ∧ Hid (Ints wr w.heap.size o acc) ∧ Hid (Below w.heap.size w wr)) (fun _ i _ => xs.length - (intOf i).toNat)
  case atStart => exact ⟨0, [], Nat.zero_le _, rfl, Nat.le_refl _, rfl, ints_lit w [] #[] 0 rfl rfl (by decide), balloc (Below.refl _ _) _⟩
  case round =>
    obtain ⟨k, acc, hk, rfl, hacc, hi, ho, hb⟩ := hrel
    by_cases hlt : k < xs.length
    · obtain ⟨ad, rfl, hx, hc0⟩ := HR.out k hlt
      have hc := (hb.out.cell (p := ad.add k) (by rw [add_block]; exact hx)).trans hc0
      have HS := Lib.hid (fstL_step acc xs k hlt)
      clear hc0
      generalize xs.getD k 0 = y at *
      obtain ⟨A', c', rfl, HRA⟩ := own_reads ho.out
      have HAL : Hid (acc.length ≤ maxLen) := by show _ ≤ _; unfold maxLen; omega
      cases he : hasI acc y
      · go_wp2_with (first | (go_at_call 78; refine (slices_ContainsInt _ _ _ _ _ _ rfl HAL.out HRA.out).mono ?_; rintro e w' ⟨rfl, rfl⟩) | (at_builtin; refine wp_append1 rfl _ _ rfl _ _ _ rfl rfl ho.out hb.out (by omega) ?_; intro v' w1 hi1 hb1))
        go_roundw
        case rel => exact ⟨k + 1, acc ++ [y], by omega, by go_num, by simp; omega, by show _ = _; rw [hi.out, HS.out, he]; rfl, hi1, hb1⟩
        case measure => simp [intOf]; omega
      · go_wp2_with (go_at_call 78; refine (slices_ContainsInt _ _ _ _ _ _ rfl HAL.out HRA.out).mono ?_; rintro e w' ⟨rfl, rfl⟩)
        go_roundw
        case rel => exact ⟨k + 1, acc, by omega, by go_num, by omega, by show _ = _; rw [hi.out, HS.out, he]; rfl, ho, hb⟩
        case measure => simp [intOf]; omega
    · go_wp2
      go_ret
      have e : fstL [] xs = acc := by
        rw [hi.out, List.drop_of_length_le (by omega)]
        rfl
      exact ⟨_, rfl, e ▸ ho.out, hb.out⟩
set_option maxHeartbeats 1000000 in
theorem spec_l2First (A : Option Addr) (n c : Nat) (xs : List Int) (w : World) (hn : n = xs.length) (hl : xs.length ≤ 1048576) (hr : Reads w A xs) :
    Calls Try.prog 76 #[.slice A n c] w (RetInts1 (fstL [] xs) w) := by
  subst hn
  have HR := Lib.hid hr
  clear hr
  go_enter Try.func76, Try.ntmps76
  go_wp2
  go_loopw [3, 4] (fun o i wr => ∃ (k : Nat) (acc : List Int), k ≤ xs.length ∧ i = .int .i64 k ∧ acc.length ≤ k ∧ Hid (fstL [] xs = fstL acc (xs.drop k)) ∧ Hid (Ints wr w.heap.size o acc) ∧ Hid (Below w.heap.size w wr)) (fun _ i _ => xs.length - (intOf i).toNat)
  case atStart => exact ⟨0, [], Nat.zero_le _, rfl, Nat.le_refl _, rfl, ints_lit w [] #[] 0 rfl rfl (by decide), balloc (Below.refl _ _) _⟩
  case round =>
    obtain ⟨k, acc, hk, rfl, hacc, hi, ho, hb⟩ := hrel
    by_cases hlt : k < xs.length
    · obtain ⟨ad, rfl, hx, hc0⟩ := HR.out k hlt
      have hc := (hb.out.cell (p := ad.add k) (by rw [add_block]; exact hx)).trans hc0
      have HS := Lib.hid (fstL_step acc xs k hlt)
      clear hc0
      generalize xs.getD k 0 = y at *
      obtain ⟨A', c', rfl, HRA⟩ := own_reads ho.out
      have HAL : Hid (acc.length ≤ maxLen) := by show _ ≤ _; unfold maxLen; omega
      cases he : hasI acc y
      · go_wp2_with (first | (go_at_call 83; refine (spec_l1Has _ _ _ _ _ _ rfl HAL.out HRA.out).mono ?_; rintro e w' ⟨rfl, rfl⟩) | (at_builtin; refine wp_append1 rfl _ _ rfl _ _ _ rfl rfl ho.out hb.out (by omega) ?_; intro v' w1 hi1 hb1))
        go_roundw
        case rel => exact ⟨k + 1, acc ++ [y], by omega, by go_num, by simp; omega, by show _ = _; rw [hi.out, HS.out, he]; rfl, hi1, hb1⟩
        case measure => simp [intOf]; omega
      · go_wp2_with (go_at_call 83; refine (spec_l1Has _ _ _ _ _ _ rfl HAL.out HRA.out).mono ?_; rintro e w' ⟨rfl, rfl⟩)
        go_roundw
        case rel => exact ⟨k + 1, acc, by omega, by go_num, by omega, by show _ = _; rw [hi.out, HS.out, he]; rfl, ho, hb⟩
        case measure => simp [intOf]; omega
    · go_wp2
      go_ret
      have e : fstL [] xs = acc := by
        rw [hi.out, List.drop_of_length_le (by omega)]
        rfl
      exact ⟨_, rfl, e ▸ ho.out, hb.out⟩
end Go.Proofs.Ytonkblhajbphmaa
