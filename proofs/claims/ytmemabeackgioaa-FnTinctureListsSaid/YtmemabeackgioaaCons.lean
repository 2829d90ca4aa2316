/- Functions that read lists of integers. Conditions: as each theorem says. -/
import Derived.Test.YtmemabeackgioaaRows
import Derived.Test.YtmemabeackgioaaArgs
import Derived.Test.YtmemabeackgioaaMild
namespace Go.Proofs.Ytmemabeackgioaa
set_option linter.unusedSimpArgs false
set_option linter.unusedVariables false
open Go.ChangeShapes Go.WideShapes Go.ChangeAt Go.RowKit

def hasI (xs : List Int) (x : Int) : Bool := xs.any (· == x)
theorem hasI_step (xs : List Int) (x : Int) (k : Nat) (h : k < xs.length) : hasI (xs.drop k) x = (xs.getD k 0 == x || hasI (xs.drop (k + 1)) x) := by
  have e : xs.getD k 0 = xs[k] := by simp [List.getD_eq_getElem?_getD, h]
  rw [List.drop_eq_getElem_cons h, e]
  rfl
/-- The place of a number in a list, counted from i; or -1. -/
def idxI : List Int → Int → Nat → Int
  | [], _, _ => -1
  | a :: l, x, i => if x == a then (i : Int) else idxI l x (i + 1)
theorem idxI_step (xs : List Int) (x : Int) (k : Nat) (h : k < xs.length) : idxI (xs.drop k) x k = if x == xs.getD k 0 then (k : Int) else idxI (xs.drop (k + 1)) x (k + 1) := by
  have e : xs.getD k 0 = xs[k] := by simp [List.getD_eq_getElem?_getD, h]
  rw [List.drop_eq_getElem_cons h, e]
  rfl
theorem idxI_has (xs : List Int) (x : Int) (k : Nat) : decide (0 ≤ idxI xs x k) = hasI xs x := by
  induction xs generalizing k with
  | nil => simp [idxI, hasI]
  | cons a l ih =>
    unfold idxI
    by_cases h : x = a
    · subst h
      simp [hasI]
    · have h1 : (x == a) = false := by simpa using h
      rw [h1]
      simp only [Bool.false_eq_true, if_false]
      rw [ih (k + 1)]
      have h2 : (a == x) = false := by simpa using Ne.symm h
      simp [hasI, h2]
theorem idxI_range (xs : List Int) (x : Int) (k : Nat) : -1 ≤ idxI xs x k ∧ idxI xs x k < (k : Int) + xs.length := by
  induction xs generalizing k with
  | nil => simp [idxI]; omega
  | cons a l ih =>
    have := ih (k + 1)
    unfold idxI
    split <;> simp <;> omega
theorem spec_l1Has (A : Option Addr) (n c : Nat) (xs : List Int) (x : Int) (w : World) (hn : n = xs.length) (hl : xs.length ≤ maxLen) (hr : Reads w A xs) :
    Calls Try.prog 53 #[.slice A n c, .int .i64 x] w fun e w' => e = .returned (.bool (hasI xs x)) ∧ w = w' := by
  subst hn
  unfold maxLen at hl
  have HR := Lib.hid hr
  clear hr
  go_enter Try.func53, Try.ntmps53
  go_wp2
  go_loop [5] (fun i => ∃ k : Nat, k ≤ xs.length ∧ i = .int .i64 k ∧ Hid (hasI xs x = hasI (xs.drop k) x)) (fun i => xs.length - (intOf i).toNat)
  case atStart => exact ⟨0, Nat.zero_le _, rfl, rfl⟩
  case round =>
    obtain ⟨k, hk, rfl, hi⟩ := hrel
    by_cases hlt : k < xs.length
    · obtain ⟨ad, rfl, hx, hc⟩ := HR.out k hlt
      have HS := Lib.hid (hasI_step xs x k hlt)
      generalize hy : xs.getD k 0 = y at *
      have HY := Lib.hid hy
      clear hy
      cases he : (y == x)
      · go_wp2
        go_round
        case rel => exact ⟨k + 1, by omega, by go_num, by rw [hi.out, HS.out, he]; rfl⟩
        case measure => simp [intOf]; omega
      · go_wp2
        go_ret
        exact ⟨by rw [hi.out, HS.out, he]; rfl, rfl⟩
    · go_wp2
      go_ret
      exact ⟨by rw [hi.out, List.drop_of_length_le (by omega)]; rfl, rfl⟩
theorem slices_IndexInt (A : Option Addr) (n c : Nat) (xs : List Int) (x : Int) (w : World) (hn : n = xs.length) (hl : xs.length ≤ maxLen) (hr : Reads w A xs) :
    Calls Try.prog 104 #[.slice A n c, .int .i64 x] w fun e w' => e = .returned (.int .i64 (idxI xs x 0)) ∧ w = w' := by
  subst hn
  unfold maxLen at hl
  have HR := Lib.hid hr
  clear hr
  go_enter Try.func104, Try.ntmps104
  go_wp2
  go_loop [8] (fun i => ∃ k : Nat, k ≤ xs.length ∧ i = .int .i64 k ∧ Hid (idxI xs x 0 = idxI (xs.drop k) x k)) (fun i => xs.length - (intOf i).toNat)
  case atStart => exact ⟨0, Nat.zero_le _, rfl, rfl⟩
  case round =>
    obtain ⟨k, hk, rfl, hi⟩ := hrel
    by_cases hlt : k < xs.length
    · obtain ⟨ad, rfl, hx, hc⟩ := HR.out k hlt
      have HS := Lib.hid (idxI_step xs x k hlt)
      generalize hy : xs.getD k 0 = y at *
      have HY := Lib.hid hy
      clear hy
      cases he : (x == y)
      · go_wp2
        go_round
        case rel => exact ⟨k + 1, by omega, by go_num, by rw [hi.out, HS.out, he]; rfl⟩
        case measure => simp [intOf]; omega
      · go_wp2
        go_ret
        exact ⟨ret_int (by rw [hi.out, HS.out, he]; rfl), rfl⟩
    · go_wp2
      go_ret
      exact ⟨ret_int (by rw [hi.out, List.drop_of_length_le (by omega)]; rfl), rfl⟩
theorem slices_ContainsInt (A : Option Addr) (n c : Nat) (xs : List Int) (x : Int) (w : World) (hn : n = xs.length) (hl : xs.length ≤ maxLen) (hr : Reads w A xs) :
    Calls Try.prog 89 #[.slice A n c, .int .i64 x] w fun e w' => e = .returned (.bool (hasI xs x)) ∧ w = w' := by
  have hh := Lib.hid (idxI_has xs x 0)
  have HR := Lib.hid hr
  have hg := (idxI_range xs x 0).1
  have HN := Lib.hid hn
  have HL := Lib.hid hl
  clear hr hn hl
  go_enter Try.func89, Try.ntmps89
  go_wp2_with (go_at_call 104; refine (slices_IndexInt _ _ _ _ _ _ HN.out HL.out HR.out).mono ?_; rintro e w' ⟨rfl, rfl⟩)
  go_ret
  exact ⟨by rw [← hh.out]; rfl, rfl⟩
/-! ### contrasts -/
def conL (a b : Int) : Int := if tclash a b then 0 else if (basesL a).any (fun x => hasI (basesL b) x) then 1 else 2
def conV (a b : Int) : Int := if inB 1 a 9 && inB 1 b 9 then conL a b else 0
def anyHas (xs ys : List Int) : Bool := xs.any fun x => hasI ys x
theorem anyHas_step (xs ys : List Int) (k : Nat) (h : k < xs.length) : anyHas (xs.drop k) ys = (hasI ys (xs.getD k 0) || anyHas (xs.drop (k + 1)) ys) := by
  have e : xs.getD k 0 = xs[k] := by simp [List.getD_eq_getElem?_getD, h]
  rw [List.drop_eq_getElem_cons h, e]
  rfl
theorem basesL_len (x : Int) : (basesL x).length ≤ maxLen := by
  unfold basesL
  split <;> (try split) <;> simp [maxLen]
theorem own_reads {w : World} {B : Nat} {v : Value} {xs : List Int} (h : Ints w B v xs) : ∃ A c, v = .slice A xs.length c ∧ Hid (Reads w A xs) := h.reads
theorem impl_contrast (a b : Int) (w : World) : Calls Try.prog 54 #[.int .i64 a, .int .i64 b] w fun e w' => e = .returned (.int .i64 (conL a b)) ∧ Below w.heap.size w w' := by
  cases h : tclash a b
  · have HC : Hid (conL a b = if anyHas (basesL a) (basesL b) then 1 else 2) := by
      show conL a b = _
      unfold conL
      rw [h]
      rfl
    have hm := basesL_len a
    have hm' := Lib.hid (basesL_len b)
    unfold maxLen at hm
    go_enter Try.func54, Try.ntmps54
    go_wp2_with fail
    refine (impl_clash _ _ _).mono ?_
    rintro e w' ⟨rfl, rfl⟩
    go_wp2_with fail
    refine (impl_bases _ _).mono ?_
    rintro e w1 ⟨v, rfl, hi, hb⟩
    obtain ⟨A, c, rfl, HR⟩ := own_reads hi
    have HB := Lib.hid hb
    clear hi hb
    go_wp2
    go_loopw [13] (fun i wr => ∃ k : Nat, k ≤ (basesL a).length ∧ i = .int .i64 k ∧ Hid (anyHas (basesL a) (basesL b) = anyHas ((basesL a).drop k) (basesL b)) ∧ Hid (Below w1.heap.size w1 wr)) (fun i _ => (basesL a).length - (intOf i).toNat)
    case atStart => exact ⟨0, Nat.zero_le _, rfl, rfl, Below.refl _ _⟩
    case round =>
      obtain ⟨k, hk, rfl, hi, hb⟩ := hrel
      by_cases hlt : k < (basesL a).length
      · obtain ⟨ad, rfl, hx, hc0⟩ := HR.out k hlt
        have hc := (hb.out.cell (p := ad.add k) (by rw [add_block]; exact hx)).trans hc0
        clear hc0
        have HS := Lib.hid (anyHas_step (basesL a) (basesL b) k hlt)
        generalize hy : (basesL a).getD k 0 = y at *
        have HY := Lib.hid hy
        clear hy
        go_wp2_with fail
        refine (impl_bases _ _).mono ?_
        rintro e w2 ⟨v, rfl, hi2, hb2⟩
        obtain ⟨A2, c2, rfl, HR2⟩ := own_reads hi2
        have HB2 := Lib.hid (bstep hb.out hb2)
        clear hi2 hb2 hc
        cases he : hasI (basesL b) y
        · go_wp2_with (go_at_call 89; refine (slices_ContainsInt _ _ _ _ _ _ rfl hm'.out HR2.out).mono ?_; rintro e w' ⟨rfl, rfl⟩)
          go_roundw
          case rel => exact ⟨k + 1, by omega, by go_num, by rw [hi.out, HS.out, he]; rfl, HB2⟩
          case measure => simp [intOf]; omega
        · go_wp2_with (go_at_call 89; refine (slices_ContainsInt _ _ _ _ _ _ rfl hm'.out HR2.out).mono ?_; rintro e w' ⟨rfl, rfl⟩)
          go_ret
          exact ⟨ret_int (by rw [HC.out, hi.out, HS.out, he]; rfl), bstep HB.out HB2.out⟩
      · go_wp2
        go_ret
        exact ⟨ret_int (by rw [HC.out, hi.out, List.drop_of_length_le (by omega)]; rfl), bstep HB.out hb.out⟩
  · go_enter Try.func54, Try.ntmps54
    go_wp2_with (go_at_call 73; refine (impl_clash _ _ _).mono ?_; rintro e w' ⟨rfl, rfl⟩)
    go_ret
    exact ⟨ret_int (by unfold conL; rw [h]; rfl), Below.refl _ _⟩
theorem impl_ContrastOf (a b : Int) (w : World) : Calls Try.prog 23 #[.int .i64 a, .int .i64 b] w fun e w' => e = .returned (.tuple #[.int .i64 (conV a b), .bool (inB 1 a 9 && inB 1 b 9)]) ∧ Below w.heap.size w w' := by
  unfold conV
  cases h : inB 1 a 9 <;> cases k : inB 1 b 9
  all_goals
    go_enter Try.func23, Try.ntmps23
    go_wp2_with (first | (go_at_call 40; refine (impl_IsTincture _ _).mono ?_; rintro e w' ⟨rfl, rfl⟩) | (go_at_call 54; refine (impl_contrast _ _ _).mono ?_; rintro e w1 ⟨rfl, hb1⟩))
    go_ret2
    exact ⟨by simp, (by repeat (first | (with_reducible exact Below.refl _ _) | (with_reducible assumption) | (with_reducible refine balloc ?_ _) | (with_reducible refine bdrew ?_) | (with_reducible refine bdrewN ?_ _) | (with_reducible refine bset ?_ (by first | omega | (simp; done) | (simp; omega)) _) | (with_reducible refine bstep ?_ (by assumption))))⟩
set_option maxHeartbeats 1000000 in
theorem spec_ContrastOf (a b : Int) (w : World) : Calls Try.prog 22 #[.int .i64 a, .int .i64 b] w fun e w' => e = .returned (.tuple #[.int .i64 (conV a b), .bool (inB 1 a 9 && inB 1 b 9)]) ∧ Below w.heap.size w w' := by
  cases h1 : inB 1 a 9
  · go_enter Try.func22, Try.ntmps22
    go_wp2_with (go_at_call 50; refine (spec_l2Good _ _).mono ?_; rintro e w' ⟨rfl, rfl⟩)
    go_ret2
    exact ⟨by unfold conV; rw [h1]; rfl, Below.refl _ _⟩
  cases h2 : inB 1 b 9
  · go_enter Try.func22, Try.ntmps22
    go_wp2_with (go_at_call 50; refine (spec_l2Good _ _).mono ?_; rintro e w' ⟨rfl, rfl⟩)
    go_ret2
    exact ⟨by unfold conV; rw [h1, h2]; rfl, Below.refl _ _⟩
  have HV : Hid (conV a b = conL a b) := by
    show conV a b = _
    unfold conV
    rw [h1, h2]
    rfl
  cases h : tclash a b
  · have HC : Hid (conL a b = if anyHas (basesL a) (basesL b) then 1 else 2) := by
      show conL a b = _
      unfold conL
      rw [h]
      rfl
    have hm := basesL_len a
    have hm' := Lib.hid (basesL_len b)
    unfold maxLen at hm
    go_enter Try.func22, Try.ntmps22
    go_wp2_with (first | (go_at_call 50; refine (spec_l2Good _ _).mono ?_; rintro e w' ⟨rfl, rfl⟩) | (go_at_call 51; refine (spec_l2Clash _ _ _).mono ?_; rintro e w' ⟨rfl, rfl⟩) | (go_at_call 52; refine (spec_l2Base _ _).mono ?_; rintro e w1 ⟨v, rfl, hi, hb⟩))
    obtain ⟨A, c, rfl, HR⟩ := own_reads hi
    have HB := Lib.hid hb
    clear hi hb
    go_wp2
    go_loopw [7] (fun i wr => ∃ k : Nat, k ≤ (basesL a).length ∧ i = .int .i64 k ∧ Hid (anyHas (basesL a) (basesL b) = anyHas ((basesL a).drop k) (basesL b)) ∧ Hid (Below w1.heap.size w1 wr)) (fun i _ => (basesL a).length - (intOf i).toNat)
    case atStart => exact ⟨0, Nat.zero_le _, rfl, rfl, Below.refl _ _⟩
    case round =>
      obtain ⟨k, hk, rfl, hi, hb⟩ := hrel
      by_cases hlt : k < (basesL a).length
      · obtain ⟨ad, rfl, hx, hc0⟩ := HR.out k hlt
        have HCC : Hid (∀ W', Below wr.heap.size wr W' → W'.cell? (ad.add k) = some (.int .i64 ((basesL a).getD k 0))) := fun W' hW =>
          (hW.cell (p := ad.add k) (by rw [add_block]; exact Nat.lt_of_lt_of_le hx hb.out.size)).trans ((hb.out.cell (p := ad.add k) (by rw [add_block]; exact hx)).trans hc0)
        clear hc0
        have HS := Lib.hid (anyHas_step (basesL a) (basesL b) k hlt)
        generalize hy : (basesL a).getD k 0 = y at *
        have HY := Lib.hid hy
        clear hy
        go_wp2_with fail
        refine wp_region_mildL (C := fun w' => Below wr.heap.size wr w') (γ := Value) (U := fun v i => if i = 1 then v else .bool (hasI (basesL b) y)) (E := fun L v w' => L 1 = true → ∃ B, Ints w' B v (basesL b))
          [true, false, true, true, true, true, false] undef (by kernel_rfl) rfl (by kernel_rfl) ⟨rfl, rfl, rfl, Nat.le_refl _, fun _ _ => rfl⟩ (fun h => by cases h) (fun L g p q h1 hE h2 => ⟨h1.trans (h2.mono h1.size), fun h => (hE h).imp fun _ hI => hI.below h2⟩)
          (fun L L' g p hl hE h => hE (by rw [← hl 1 (by simp [lidxs])]; exact h)) ?_
        refine wpMildL_take rfl ?_
        apply Exists.intro
        refine ⟨fun w' hw' => ?_, ?_⟩
        · go_simp
          with_reducible rfl
        simp only [Act.put, List.setIfInBounds_toArray, List.set_cons_zero, List.set_cons_succ]
        refine wpMildL_late ?_
        refine wpMildL_take rfl ?_
        apply Exists.intro
        refine ⟨fun w' hw' => ?_, ?_⟩
        · go_simp
          with_reducible rfl
        simp only [Act.put, List.setIfInBounds_toArray, List.set_cons_zero, List.set_cons_succ]
        refine wpMildL_take rfl ?_
        apply Exists.intro
        refine ⟨fun w' hw' => ?_, ?_⟩
        · go_simp
          with_reducible rfl
        simp only [Act.put, List.setIfInBounds_toArray, List.set_cons_zero, List.set_cons_succ]
        refine wpMildL_take rfl ?_
        apply Exists.intro
        refine ⟨fun w' hw' => ?_, ?_⟩
        · go_simp
          with_reducible rfl
        simp only [Act.put, List.setIfInBounds_toArray, List.set_cons_zero, List.set_cons_succ]
        refine wpMildL_take rfl ?_
        apply Exists.intro
        refine ⟨fun w' hw' => ?_, ?_⟩
        · (have hc := HCC.out w' hw'; go_simp; with_reducible rfl)
        simp only [Act.put, List.setIfInBounds_toArray, List.set_cons_zero, List.set_cons_succ]
        refine wpMildL_late ?_
        refine wpMildL_nil ?_
        refine ⟨lateAll_skip (lateAll_cons (fun L v W' hC hE hL hdep => ?_) (lateAll_skip (lateAll_skip (lateAll_skip (lateAll_skip (lateAll_cons (fun L v W' hC hE hL hdep => ?_) lateAll_nil)))))), fun L v W' hall hC hE => ?_⟩
        all_goals simp only [lateputL, Act.put, List.setIfInBounds_toArray, List.set_cons_zero, List.set_cons_succ]
        · generalize hr : (execOp _ _).run Try.prog W' = r
          refine late_call (w' := W') (f := 52) (args := #[.int .i64 b]) (by rw [← hr]; go_simp) ((spec_l2Base _ _).mono ?_)
          rintro e w2 ⟨v2, rfl, hi2, hb2⟩
          refine ⟨_, rfl, v2, rfl, fun j hj hLj => ?_, hC.trans (hb2.mono hC.size), fun _ => ⟨_, hi2⟩⟩
          simp only [lidxs, List.mem_cons, List.not_mem_nil, or_false] at hj
          rcases hj with rfl | rfl
          · rw [hL] at hLj; cases hLj
          · rfl
        · have L1 : L 1 = true := hdep 1 (by kernel_rfl)
          generalize hr : (execOp _ _).run Try.prog W' = r
          obtain ⟨B, hI⟩ := hE L1
          obtain ⟨A2, c2, rfl, HR2⟩ := own_reads hI
          clear hI hdep hL
          refine late_call (w' := W') (f := 53) (args := #[.slice A2 (basesL b).length c2, .int .i64 y]) (by rw [← hr]; go_simp) ((spec_l1Has _ _ _ _ _ _ rfl hm'.out HR2.out).mono ?_)
          rintro e w2 ⟨rfl, rfl⟩
          exact ⟨_, rfl, _, rfl, fun _ _ _ => rfl, hC, fun _ => hE L1⟩
        · have HB2 := Lib.hid (bstep hb.out hC)
          clear hE hall hC HCC
          cases he : hasI (basesL b) y
          · go_wp2
            go_roundw
            case rel => exact ⟨k + 1, by omega, by go_num, by rw [hi.out, HS.out, he]; rfl, HB2⟩
            case measure => simp [intOf]; omega
          · go_wp2
            go_ret2
            exact ⟨by rw [HV.out, HC.out, hi.out, HS.out, he]; rfl, bstep HB.out HB2.out⟩
      · go_wp2
        go_ret2
        exact ⟨by rw [HV.out, HC.out, hi.out, List.drop_of_length_le (by omega)]; rfl, bstep HB.out hb.out⟩
  · go_enter Try.func22, Try.ntmps22
    go_wp2_with (first | (go_at_call 50; refine (spec_l2Good _ _).mono ?_; rintro e w' ⟨rfl, rfl⟩) | (go_at_call 51; refine (spec_l2Clash _ _ _).mono ?_; rintro e w' ⟨rfl, rfl⟩))
    go_ret2
    exact ⟨by rw [HV.out]; unfold conL; rw [h]; rfl, Below.refl _ _⟩
end Go.Proofs.Ytmemabeackgioaa
