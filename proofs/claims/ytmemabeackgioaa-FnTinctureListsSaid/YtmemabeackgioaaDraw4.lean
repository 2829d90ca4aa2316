/- Drawn lists of tinctures. Conditions: as each theorem says. -/
import Derived.Test.YtmemabeackgioaaRows
import Derived.Test.YtmemabeackgioaaDraw3
import Derived.Deep.CutRange
namespace Go.Proofs.Ytmemabeackgioaa
set_option linter.unusedSimpArgs false
set_option linter.unusedVariables false
open Go.ChangeShapes Go.WideShapes Go.ChangeAt Go.RowKit

theorem wp_append2 {ops : Array Oper} {rest : List Oper} {o : Oper} {a : Act} {Q : Exit → Act → World → Prop} {w0 : World} (hgd : o.guard = none) (s x : Operand)
    (ho : o.op = .call { callee := .builtin .append, args := #[s, x], argTypes := #[22, 22] }) (v : Value) (xs : List Int) (y : Int) (B : Nat) (hs : a.eval s = v)
    (hx : a.eval x = .slice (some ⟨w0.heap.size, 0, none⟩) 1 1) (hv : Ints w0 B v xs) (hB : B ≤ w0.heap.size) (hl : xs.length ≤ 1048576)
    (h : ∀ v' w', Ints w' B v' (xs ++ [y]) → w0.grownBy w' v.ownBlock → wpList Try.prog ops Q rest (a.put o.dst v') w') :
    wpList Try.prog ops Q (o :: rest) a (w0.alloc (.cells #[.int .i64 y] 3)) := by
  obtain ⟨i0, hi0, hz0, hz1, hz2⟩ := info_parts int_info
  have hv' : (w0.alloc (.cells #[.int .i64 y] 3)).ownsRow B 3 1 v xs.length (xs.map (Value.int .i64)) := World.ownsRow.alloc hv _
  refine wpList_append_own _ hgd s x _ ho B 3 i0 (.int .i64 0) 1 8 Try.underlying22 hi0 hz0 hz1 hz2 rfl (by decide) v xs.length _ hs hv' ⟨w0.heap.size, 0, none⟩ 1 1 [.int .i64 y] hx rfl ?_ ?_ ?_ ?_ ?_ ?_
  · intro j u hu
    match j, hu with
    | 0, hu =>
      simp at hu
      subst hu
      simp [Addr.add]
  · simp [Value.oneCell']
  · simp only [maxLen]; omega
  · omega
  · simp; omega
  · intro v' w' h1 h2 _
    refine h v' w' ?_ (grownT' (grown_of_below (balloc (Below.refl _ _) _) _) h2)
    unfold Ints
    simpa using h1
theorem Cur.grown {w0 w w' : World} {g : Nat} {A : Option Addr} {len cap n : Nat} (h : Cur w0 w g A len cap n) {r : Option Nat} (hg : w.grownBy w' r) (hr : some g ≠ r) (hlow : ∀ k, r = some k → w0.heap.size ≤ k) : Cur w0 w' g A len cap n := by
  obtain ⟨a, b, c, p, s, hp, hB⟩ := h
  exact ⟨a, Nat.lt_of_lt_of_le b hg.size, c.grown hg c.size hlow, p, s, hp, hB.grown hg hr⟩
/-- A short list of numbers, of the call's own. -/
def DrawnL (w0 w : World) (e : Ending) (w' : World) : Prop := ∃ v xs, e = .returned v ∧ Ints w' w.heap.size v xs ∧ xs.length ≤ 100 ∧ Below w0.heap.size w0 w'
set_option maxHeartbeats 1000000 in
theorem spec_tinctures (w0 w : World) (g : Nat) (A : Option Addr) (len cap n : Nat) (hc : Code w0 A len) (hn : n ≤ 700000) (h : Cur w0 w g A len cap n) :
    Calls Try.prog 68 #[.pointer (some ⟨g, 0, none⟩)] w (DrawnL w0 w) := by
  have HC := Lib.hid hc
  have hgw : g < w.heap.size := h.2.1
  have hww : Hid (w0.heap.size ≤ w.heap.size) := h.2.2.1.size
  have hlow : ∀ (W : World) (v : Value) (xs : List Int), Ints W w.heap.size v xs → ∀ k, v.ownBlock = some k → w0.heap.size ≤ k := fun _ _ _ hi k hk => Nat.le_trans hww.out (hi.lt k hk).1
  have HLOW := Lib.hid hlow
  have hi0 := ints_lit w [] #[] 0 rfl rfl (by decide)
  have HI0 := Lib.hid hi0
  have H1 := Lib.hid (h.alloc (.cells #[] 3))
  clear hc h hi0 hlow
  go_enter Try.func68, Try.ntmps68
  go_wp2_with fail
  refine (spec_pick 8 (by omega) (by omega) w0 _ g A len cap n HC.out (by omega) H1.out).mono ?_
  rintro e w1 ⟨z, rfl, hz0, hz1, hg1, hc1⟩
  have HI1 : Hid (Ints w1 w.heap.size (.slice (some ⟨w.heap.size, 0, none⟩) 0 0) []) := World.ownsRow.kept (row := some g) HI0.out hg1 (.inr (Ne.symm (own_ne HI0.out hgw)))
  have HC1 := Lib.hid hc1
  have hs1 : w.heap.size ≤ w1.heap.size := by have := hg1.size; simp at this; omega
  have HS1 := Lib.hid hs1
  obtain ⟨j, rfl⟩ : ∃ j : Nat, z = (j : Int) := ⟨z.toNat, by omega⟩
  clear hg1 hc1 HI0 H1 hs1
  go_wp2
  go_loopw [3, 4] (fun v i wr => ∃ (k : Nat) (xs : List Int), i = .int .i64 k ∧ xs.length + k ≤ 7 ∧ Hid (Ints wr w.heap.size v xs) ∧ Hid (Cur w0 wr g A len cap (n + 2 + 2 * xs.length)) ∧ Hid (w.heap.size ≤ wr.heap.size)) (fun _ i _ => (intOf i).toNat)
  case atStart => exact ⟨j, [], rfl, by simp; omega, HI1, HC1, HS1⟩
  case round =>
    obtain ⟨k, xs, rfl, hk, hi, hcur, hsz⟩ := hrel
    by_cases hlt : 0 < k
    · go_wp2_with fail
      refine (spec_tincture w0 _ g A len cap _ HC.out (by omega) hcur.out).mono ?_
      rintro e w2 ⟨x, rfl, hx0, hx1, hg2, hc2⟩
      have HI2 : Hid (Ints w2 w.heap.size _ xs) := World.ownsRow.kept (row := some g) hi.out hg2 (.inr (Ne.symm (own_ne hi.out hgw)))
      have HC2 := Lib.hid hc2
      have HS2 : Hid (w.heap.size ≤ w2.heap.size) := Nat.le_trans hsz.out hg2.size
      clear hg2 hc2 hi hcur hsz
      go_wp2_with (at_builtin; refine wp_append2 rfl _ _ rfl _ _ _ _ rfl rfl HI2.out HS2.out (by omega) ?_; intro v' w3 hi3 hg3)
      have HI3 := Lib.hid hi3
      have HC3 := Lib.hid (HC2.out.grown hg3 (own_ne HI2.out hgw) (HLOW.out _ _ _ HI2.out))
      have HS3 : Hid (w.heap.size ≤ w3.heap.size) := Nat.le_trans HS2.out hg3.size
      clear hi3 hg3
      go_roundw
      case rel => exact ⟨k - 1, xs ++ [x], by go_num, by simp; omega, HI3, by show Cur _ _ _ _ _ _ _; rw [List.length_append]; exact HC3.out.more (by simp; omega), HS3⟩
      case measure => simp [intOf]; omega
    · obtain rfl : k = 0 := by omega
      go_wp2_with fail
      refine (spec_one 16 (by omega) (by omega) w0 _ g A len cap _ HC.out (by omega) hcur.out).mono ?_
      rintro e w2 ⟨b, rfl, hg2, hc2⟩
      have HI2 : Hid (Ints w2 w.heap.size _ xs) := World.ownsRow.kept (row := some g) hi.out hg2 (.inr (Ne.symm (own_ne hi.out hgw)))
      have HC2 := Lib.hid hc2
      have HS2 : Hid (w.heap.size ≤ w2.heap.size) := Nat.le_trans hsz.out hg2.size
      clear hg2 hc2 hi hcur hsz
      go_upto_if 19 with fail
      go_cut [3] from 20 to 45 (fun v' w' => ∃ (ys : List Int), ys.length ≤ 8 ∧ Hid (Ints w' w.heap.size v' ys) ∧ Hid (Cur w0 w' g A len cap (n + 40)) ∧ Hid (w.heap.size ≤ w'.heap.size))
      case first =>
        cases b
        · go_wp2_with fail
          go_meet
          case rel => exact ⟨xs, by omega, HI2, Lib.hid (HC2.out.more (by omega)), HS2⟩
        · go_wp2_with fail
          refine (spec_anyTincture w0 _ g A len cap _ HC.out (by omega) HC2.out).mono ?_
          rintro e w3 ⟨x, rfl, hx0, hx1, hg3, hc3⟩
          have HI3 : Hid (Ints w3 w.heap.size _ xs) := World.ownsRow.kept (row := some g) HI2.out hg3 (.inr (Ne.symm (own_ne HI2.out hgw)))
          have HC3 := Lib.hid hc3
          have HS3 : Hid (w.heap.size ≤ w3.heap.size) := Nat.le_trans HS2.out hg3.size
          clear hg3 hc3 HI2 HC2 HS2
          go_wp2_with (at_builtin; refine wp_append2 rfl _ _ rfl _ _ _ _ rfl rfl HI3.out HS3.out (by omega) ?_; intro v' w4 hi4 hg4)
          have HI4 := Lib.hid hi4
          have HC4 := Lib.hid (HC3.out.grown hg4 (own_ne HI3.out hgw) (HLOW.out _ _ _ HI3.out))
          have HS4 : Hid (w.heap.size ≤ w4.heap.size) := Nat.le_trans HS3.out hg4.size
          clear hi4 hg4
          go_meet
          case rel => exact ⟨xs ++ [x], by simp; omega, HI4, Lib.hid (HC4.out.more (by omega)), HS4⟩
      case rest =>
        obtain ⟨ys, hys, HIy, HCy, HSy⟩ := hcut
        clear HI2 HC2 HS2
        go_wp2_with fail
        refine (spec_one 24 (by omega) (by omega) w0 _ g A len cap _ HC.out (by omega) HCy.out).mono ?_
        rintro e w5 ⟨b5, rfl, hg5, hc5⟩
        have HI5 : Hid (Ints w5 w.heap.size _ ys) := World.ownsRow.kept (row := some g) HIy.out hg5 (.inr (Ne.symm (own_ne HIy.out hgw)))
        have HC5 := Lib.hid hc5
        have HS5 : Hid (w.heap.size ≤ w5.heap.size) := Nat.le_trans HSy.out hg5.size
        clear hg5 hc5 HIy HCy HSy
        cases b5
        · go_wp2
          go_ret
          exact ⟨_, ys, rfl, HI5.out, by omega, HC5.out.2.2.1⟩
        · go_wp2_with fail
          go_loopw [3, 5] (fun v i wr => ∃ (k : Nat) (zs : List Int), i = .int .i64 k ∧ k ≤ 42 ∧ zs.length ≤ 8 + k ∧ Hid (Ints wr w.heap.size v zs) ∧ Hid (Cur w0 wr g A len cap (n + 50 + 2 * k)) ∧ Hid (w.heap.size ≤ wr.heap.size)) (fun _ i _ => 42 - (intOf i).toNat)
          case atStart => exact ⟨0, ys, rfl, by omega, by omega, HI5, Lib.hid (HC5.out.more (by omega)), HS5⟩
          case round =>
            obtain ⟨k, zs, rfl, hk, hzs, hi, hcur, hsz⟩ := hrel
            clear HI5 HC5 HS5
            obtain ⟨A', c', hv, hr⟩ := hi.out.reads
            clear hr
            subst hv
            go_wp2_with fail
            refine (spec_pick 2 (by omega) (by omega) w0 _ g A len cap _ HC.out (by omega) hcur.out).mono ?_
            rintro e w6 ⟨z, rfl, hz0, hz1, hg6, hc6⟩
            have HI6 : Hid (Ints w6 w.heap.size _ zs) := World.ownsRow.kept (row := some g) hi.out hg6 (.inr (Ne.symm (own_ne hi.out hgw)))
            have HC6 := Lib.hid hc6
            have HS6 : Hid (w.heap.size ≤ w6.heap.size) := Nat.le_trans hsz.out hg6.size
            clear hg6 hc6 hi hcur hsz
            by_cases h1 : (zs.length : Int) < 40 + z
            · by_cases h2 : k < 42
              · go_wp2_with (at_builtin; refine wp_append2 rfl _ _ rfl _ _ _ _ rfl rfl HI6.out HS6.out (by omega) ?_; intro v' w7 hi7 hg7)
                have HI7 := Lib.hid hi7
                have HC7 := Lib.hid (HC6.out.grown hg7 (own_ne HI6.out hgw) (HLOW.out _ _ _ HI6.out))
                have HS7 : Hid (w.heap.size ≤ w7.heap.size) := Nat.le_trans HS6.out hg7.size
                clear hi7 hg7
                go_roundw
                case rel => exact ⟨k + 1, zs ++ [_], by go_num, by omega, by simp; omega, HI7, Lib.hid (HC7.out.more (by omega)), HS7⟩
                case measure => simp [intOf]; omega
              · go_wp2
                go_ret
                exact ⟨_, zs, rfl, HI6.out, by omega, HC6.out.2.2.1⟩
            · go_wp2
              go_ret
              exact ⟨_, zs, rfl, HI6.out, by omega, HC6.out.2.2.1⟩
/-- A short list, drawn. -/
def DrawnL0 (w : World) (e : Ending) (w' : World) : Prop := ∃ v xs, e = .returned v ∧ Ints w' w.heap.size v xs ∧ xs.length ≤ 100 ∧ Below w.heap.size w w'
theorem spec_DrawCountTinctures (A : Option Addr) (len cap : Nat) (w : World) (hc : Code w A len) : Calls Try.prog 33 #[.slice A len cap] w (DrawnL0 w) := by
  have HC := Lib.hid hc
  clear hc
  go_enter Try.func33, Try.ntmps33
  go_wp2_with fail
  refine (spec_tinctures w _ w.heap.size A len cap 0 HC.out (by omega) (cur_new w A len cap)).mono ?_
  rintro e w1 ⟨v, xs, rfl, hi, hl, hb⟩
  go_wp2
  go_ret
  exact ⟨_, xs, rfl, hi.base (by simp), hl, hb⟩
end Go.Proofs.Ytmemabeackgioaa
