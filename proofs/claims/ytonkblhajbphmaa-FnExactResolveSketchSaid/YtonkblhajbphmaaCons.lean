/- Functions that read lists of integers. Conditions: as each theorem says. -/
import Derived.Test.YtonkblhajbphmaaRows
import Derived.Test.YtonkblhajbphmaaArgs
import Derived.Test.YtonkblhajbphmaaMild
namespace Go.Proofs.Ytonkblhajbphmaa
set_option linter.unusedSimpArgs false
set_option linter.unusedVariables false
open Go.ChangeShapes Go.WideShapes Go.ChangeAt Go.RowKit

def hasI (xs : List Int) (x : Int) : Bool := xs.any (· == x)
theorem hasI_step (xs : List Int) (x : Int) (k : Nat) (h : k < xs.length) : hasI (xs.drop k) x = (xs.getD k 0 == x || hasI (xs.drop (k + 1)) x) := by
  have e : xs.getD k 0 = xs[k] := by simp [List.getD_eq_getElem?_getD, h]
  rw [List.drop_eq_getElem_cons h, e]
  rfl
/-- The place of a number in a list, counted from i; or -1. -/
def idxI : List Int → Int → Nat → Int
  | [], _, _ => -1
  | a :: l, x, i => if x == a then (i : Int) else idxI l x (i + 1)
theorem idxI_step (xs : List Int) (x : Int) (k : Nat) (h : k < xs.length) : idxI (xs.drop k) x k = if x == xs.getD k 0 then (k : Int) else idxI (xs.drop (k + 1)) x (k + 1) := by
  have e : xs.getD k 0 = xs[k] := by simp [List.getD_eq_getElem?_getD, h]
  rw [List.drop_eq_getElem_cons h, e]
  rfl
theorem idxI_has (xs : List Int) (x : Int) (k : Nat) : decide (0 ≤ idxI xs x k) = hasI xs x := by
  induction xs generalizing k with
  | nil => simp [idxI, hasI]
  | cons a l ih =>
    unfold idxI
    by_cases h : x = a
    · subst h
      simp [hasI]
    · have h1 : (x == a) = false := by simpa using h
      rw [h1]
      simp only [Bool.false_eq_true, if_false]
      rw [ih (k + 1)]
      have h2 : (a == x) = false := by simpa using Ne.symm h
      simp [hasI, h2]
theorem idxI_range (xs : List Int) (x : Int) (k : Nat) : -1 ≤ idxI xs x k ∧ idxI xs x k < (k : Int) + xs.length := by
  induction xs generalizing k with
  | nil => simp [idxI]; omega
  | cons a l ih =>
    have := ih (k + 1)
    unfold idxI
    split <;> simp <;> omega
theorem spec_l1Has (A : Option Addr) (n c : Nat) (xs : List Int) (x : Int) (w : World) (hn : n = xs.length) (hl : xs.length ≤ maxLen) (hr : Reads w A xs) :
    Calls Try.prog 83 #[.slice A n c, .int .i64 x] w fun e w' => e = .returned (.bool (hasI xs x)) ∧ w = w' := by
  subst hn
  unfold maxLen at hl
  have HR := Lib.hid hr
  clear hr
  go_enter Try.func83, Try.ntmps83
  go_wp2
  go_loop [5] (fun i => ∃ k : Nat, k ≤ xs.length ∧ i = .int .i64 k ∧ Hid (hasI xs x = hasI (xs.drop k) x)) (fun i => xs.length - (intOf i).toNat)
  case atStart => exact ⟨0, Nat.zero_le _, rfl, rfl⟩
  case round =>
    obtain ⟨k, hk, rfl, hi⟩ := hrel
    by_cases hlt : k < xs.length
    · obtain ⟨ad, rfl, hx, hc⟩ := HR.out k hlt
      have HS := Lib.hid (hasI_step xs x k hlt)
      generalize hy : xs.getD k 0 = y at *
      have HY := Lib.hid hy
      clear hy
      cases he : (y == x)
      · go_wp2
        go_round
        case rel => exact ⟨k + 1, by omega, by go_num, by rw [hi.out, HS.out, he]; rfl⟩
        case measure => simp [intOf]; omega
      · go_wp2
        go_ret
        exact ⟨by rw [hi.out, HS.out, he]; rfl, rfl⟩
    · go_wp2
      go_ret
      exact ⟨by rw [hi.out, List.drop_of_length_le (by omega)]; rfl, rfl⟩
theorem slices_IndexInt (A : Option Addr) (n c : Nat) (xs : List Int) (x : Int) (w : World) (hn : n = xs.length) (hl : xs.length ≤ maxLen) (hr : Reads w A xs) :
    Calls Try.prog 84 #[.slice A n c, .int .i64 x] w fun e w' => e = .returned (.int .i64 (idxI xs x 0)) ∧ w = w' := by
  subst hn
  unfold maxLen at hl
  have HR := Lib.hid hr
  clear hr
  go_enter Try.func84, Try.ntmps84
  go_wp2
  go_loop [8] (fun i => ∃ k : Nat, k ≤ xs.length ∧ i = .int .i64 k ∧ Hid (idxI xs x 0 = idxI (xs.drop k) x k)) (fun i => xs.length - (intOf i).toNat)
  case atStart => exact ⟨0, Nat.zero_le _, rfl, rfl⟩
  case round =>
    obtain ⟨k, hk, rfl, hi⟩ := hrel
    by_cases hlt : k < xs.length
    · obtain ⟨ad, rfl, hx, hc⟩ := HR.out k hlt
      have HS := Lib.hid (idxI_step xs x k hlt)
      generalize hy : xs.getD k 0 = y at *
      have HY := Lib.hid hy
      clear hy
      cases he : (x == y)
      · go_wp2
        go_round
        case rel => exact ⟨k + 1, by omega, by go_num, by rw [hi.out, HS.out, he]; rfl⟩
        case measure => simp [intOf]; omega
      · go_wp2
        go_ret
        exact ⟨ret_int (by rw [hi.out, HS.out, he]; rfl), rfl⟩
    · go_wp2
      go_ret
      exact ⟨ret_int (by rw [hi.out, List.drop_of_length_le (by omega)]; rfl), rfl⟩
theorem slices_ContainsInt (A : Option Addr) (n c : Nat) (xs : List Int) (x : Int) (w : World) (hn : n = xs.length) (hl : xs.length ≤ maxLen) (hr : Reads w A xs) :
    Calls Try.prog 78 #[.slice A n c, .int .i64 x] w fun e w' => e = .returned (.bool (hasI xs x)) ∧ w = w' := by
  have hh := Lib.hid (idxI_has xs x 0)
  have HR := Lib.hid hr
  have hg := (idxI_range xs x 0).1
  have HN := Lib.hid hn
  have HL := Lib.hid hl
  clear hr hn hl
  go_enter Try.func78, Try.ntmps78
  go_wp2_with (go_at_call 84; refine (slices_IndexInt _ _ _ _ _ _ HN.out HL.out HR.out).mono ?_; rintro e w' ⟨rfl, rfl⟩)
  go_ret
  exact ⟨by rw [← hh.out]; rfl, rfl⟩
/-! ### contrasts -/
def conL (a b : Int) : Int := if tclash a b then 0 else if (basesL a).any (fun x => hasI (basesL b) x) then 1 else 2
def conV (a b : Int) : Int := if inB 1 a 9 && inB 1 b 9 then conL a b else 0
def anyHas (xs ys : List Int) : Bool := xs.any fun x => hasI ys x
theorem anyHas_step (xs ys : List Int) (k : Nat) (h : k < xs.length) : anyHas (xs.drop k) ys = (hasI ys (xs.getD k 0) || anyHas (xs.drop (k + 1)) ys) := by
  have e : xs.getD k 0 = xs[k] := by simp [List.getD_eq_getElem?_getD, h]
  rw [List.drop_eq_getElem_cons h, e]
  rfl
theorem basesL_len (x : Int) : (basesL x).length ≤ maxLen := by
  unfold basesL
  split <;> (try split) <;> simp [maxLen]
theorem own_reads {w : World} {B : Nat} {v : Value} {xs : List Int} (h : Ints w B v xs) : ∃ A c, v = .slice A xs.length c ∧ Hid (Reads w A xs) := h.reads
end Go.Proofs.Ytonkblhajbphmaa
