/- The rules: lists of findings. Conditions: as each theorem says. -/
import Derived.Test.YtkmioioknboohaaRows
import Derived.Test.YtkmioioknboohaaArms5
import Derived.Test.YtkmioioknboohaaEq
namespace Go.Proofs.Ytkmioioknboohaa
set_option linter.unusedSimpArgs false
set_option linter.unusedVariables false
open Go.ChangeShapes Go.WideShapes Go.ChangeAt Go.RowKit

/-! ### does a tincture clash with all -/
def brk (x : Int) (ys : List Int) : Bool := ys.all (tclash x)
theorem brk_step (x : Int) (ys : List Int) (k : Nat) (h : k < ys.length) : brk x (ys.drop k) = (tclash x (ys.getD k 0) && brk x (ys.drop (k + 1))) := by
  have e : ys.getD k 0 = ys[k] := by simp [List.getD_eq_getElem?_getD, h]
  rw [List.drop_eq_getElem_cons h, e]
  rfl
theorem impl_breaks (A : Option Addr) (n c : Nat) (ys : List Int) (x : Int) (w : World) (hn : n = ys.length) (hl : ys.length ≤ maxLen) (hr : Reads w A ys) :
    Calls Try.prog 74 #[.int .i64 x, .slice A n c] w fun e w' => e = .returned (.bool (brk x ys)) ∧ w = w' := by
  subst hn
  unfold maxLen at hl
  have HR := Lib.hid hr
  clear hr
  go_enter Try.func74, Try.ntmps74
  go_wp2
  go_loop [9] (fun i => ∃ k : Nat, k ≤ ys.length ∧ i = .int .i64 k ∧ Hid (brk x ys = brk x (ys.drop k))) (fun i => ys.length - (intOf i).toNat)
  case atStart => exact ⟨0, Nat.zero_le _, rfl, rfl⟩
  case round =>
    obtain ⟨k, hk, rfl, hi⟩ := hrel
    by_cases hlt : k < ys.length
    · obtain ⟨ad, rfl, hx, hc⟩ := HR.out k hlt
      have HS := Lib.hid (brk_step x ys k hlt)
      generalize hy : ys.getD k 0 = y at *
      have HY := Lib.hid hy
      clear hy
      cases he : tclash x y
      · go_wp2_with (go_at_call 75; refine (impl_clash _ _ _).mono ?_; rintro e w' ⟨rfl, rfl⟩)
        go_ret
        exact ⟨by rw [hi.out, HS.out, he]; rfl, rfl⟩
      · go_wp2_with (go_at_call 75; refine (impl_clash _ _ _).mono ?_; rintro e w' ⟨rfl, rfl⟩)
        go_round
        case rel => exact ⟨k + 1, by omega, by go_num, by rw [hi.out, HS.out, he]; rfl⟩
        case measure => simp [intOf]; omega
    · go_wp2
      go_ret
      exact ⟨by rw [hi.out, List.drop_of_length_le (by omega)]; rfl, rfl⟩
set_option maxHeartbeats 1000000 in
theorem spec_l8OnField (d l a b x : Int) (w : World) : Calls Try.prog 69 #[.agg #[.int .i64 d, .int .i64 l, .int .i64 a, .int .i64 b], .int .i64 x] w fun e w' => e = .returned (.bool (brk x (ftL d a b))) ∧ Below w.heap.size w w' := by
  have hm : (ftL d a b).length ≤ 2 := by unfold ftL; split <;> simp
  go_enter Try.func69, Try.ntmps69
  go_wp2_with fail
  refine (spec_l3Tinctures _ _ _ _ _).mono ?_
  rintro e w1 ⟨v, rfl, hi, hb1⟩
  obtain ⟨A, c, rfl, hr⟩ := hi.reads
  have HR := Lib.hid hr
  have HB := Lib.hid (bstep (balloc (Below.refl _ _) _) hb1)
  clear hi hb1 hr
  generalize hys : ftL d a b = ys at *
  have HYS := Lib.hid hys
  clear hys
  go_wp2
  go_loop [6] (fun i => ∃ k : Nat, k ≤ ys.length ∧ i = .int .i64 k ∧ Hid (brk x ys = brk x (ys.drop k))) (fun i => ys.length - (intOf i).toNat)
  case atStart => exact ⟨0, Nat.zero_le _, rfl, rfl⟩
  case round =>
    obtain ⟨k, hk, rfl, hi⟩ := hrel
    by_cases hlt : k < ys.length
    · obtain ⟨ad, rfl, hx, hc⟩ := HR.out k hlt
      have HS := Lib.hid (brk_step x ys k hlt)
      generalize hy : ys.getD k 0 = y at *
      have HY := Lib.hid hy
      clear hy
      cases he : tclash x y
      · go_wp2_with (go_at_call 70; refine (spec_l2Clash _ _ _).mono ?_; rintro e w' ⟨rfl, rfl⟩)
        go_ret
        exact ⟨by rw [HYS.out, hi.out, HS.out, he]; rfl, HB.out⟩
      · go_wp2_with (go_at_call 70; refine (spec_l2Clash _ _ _).mono ?_; rintro e w' ⟨rfl, rfl⟩)
        go_round
        case rel => exact ⟨k + 1, by omega, by go_num, by rw [hi.out, HS.out, he]; rfl⟩
        case measure => simp [intOf]; omega
    · go_wp2
      go_ret
      exact ⟨by rw [HYS.out, hi.out, List.drop_of_length_le (by omega)]; rfl, HB.out⟩
/-! ### the tinctures that are allowed at a place -/
def freeTo (ys : List Int) (k : Nat) : List Int := ((List.range k).map fun (i : Nat) => (i : Int) + 1).filter fun x => !brk x ys
theorem freeTo_succ (ys : List Int) (k : Nat) : freeTo ys (k + 1) = if brk ((k : Int) + 1) ys then freeTo ys k else freeTo ys k ++ [(k : Int) + 1] := by
  unfold freeTo
  rw [List.range_succ, List.map_append, List.filter_append]
  cases h : brk ((k : Int) + 1) ys <;> simp [h]
theorem freeTo_len (ys : List Int) (k : Nat) : (freeTo ys k).length ≤ k := by
  unfold freeTo
  exact Nat.le_trans (List.length_filter_le _ _) (by simp)
def AV.under (a : AV) (p : Int) : List Int := if p = 2 then [a.t] else a.ft
def AV.there (a : AV) (p : Int) : Bool := (p == 1 && a.o != 0) || ((p == 2 && !gZero a.on.c a.on.k a.on.a a.on.t) || (p == 3 && !gZero a.ar.c a.ar.k a.ar.a a.ar.t))
def AV.alV (a : AV) (p : Int) : List Int := if a.ok && a.there p then freeTo (a.under p) 9 else []
theorem alV_len (a : AV) (p : Int) : (a.alV p).length ≤ 1048576 := by
  unfold AV.alV
  split
  · exact Nat.le_trans (freeTo_len _ _) (by omega)
  · simp
theorem under_len (a : AV) (p : Int) : (a.under p).length ≤ 2 := by
  unfold AV.under
  split
  · simp
  · exact ft_len a
end Go.Proofs.Ytkmioioknboohaa
