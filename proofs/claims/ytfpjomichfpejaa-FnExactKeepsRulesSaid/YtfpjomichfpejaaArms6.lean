/- The rules: lists of findings. Conditions: as each theorem says. -/
import Derived.Test.YtfpjomichfpejaaRows
import Derived.Test.YtfpjomichfpejaaArms5
import Derived.Test.YtfpjomichfpejaaEq
namespace Go.Proofs.Ytfpjomichfpejaa
set_option linter.unusedSimpArgs false
set_option linter.unusedVariables false
open Go.ChangeShapes Go.WideShapes Go.ChangeAt Go.RowKit

set_option maxHeartbeats 1000000 in
theorem impl_ArmsTinctures (a : AV) (w : World) : Calls Try.prog 25 #[.agg #[.int .i64 a.f.d, .int .i64 a.f.l, .int .i64 a.f.a, .int .i64 a.f.b, .int .i64 a.o, .int .i64 a.l, .int .i64 a.t, .int .i64 a.on.c, .int .i64 a.on.k, .int .i64 a.on.a, .int .i64 a.on.t, .int .i64 a.ar.c, .int .i64 a.ar.k, .int .i64 a.ar.a, .int .i64 a.ar.t]] w (RetInts a.ok a.tV w) := by
  unfold AV.tV
  cases h : a.ok
  · go_enter Try.func25, Try.ntmps25
    go_upto_region 1 with (fail)
    have B := Blk.new w 32 #[Value.int .i64 a.f.d, Value.int .i64 a.f.l, Value.int .i64 a.f.a, Value.int .i64 a.f.b, Value.int .i64 a.o, Value.int .i64 a.l, Value.int .i64 a.t, Value.int .i64 a.on.c, Value.int .i64 a.on.k, Value.int .i64 a.on.a, Value.int .i64 a.on.t, Value.int .i64 a.ar.c, Value.int .i64 a.ar.k, Value.int .i64 a.ar.a, Value.int .i64 a.ar.t]
    have hW : Below w.heap.size w (w.alloc (.cells #[Value.int .i64 a.f.d, Value.int .i64 a.f.l, Value.int .i64 a.f.a, Value.int .i64 a.f.b, Value.int .i64 a.o, Value.int .i64 a.l, Value.int .i64 a.t, Value.int .i64 a.on.c, Value.int .i64 a.on.k, Value.int .i64 a.on.a, Value.int .i64 a.on.t, Value.int .i64 a.ar.c, Value.int .i64 a.ar.k, Value.int .i64 a.ar.a, Value.int .i64 a.ar.t] 32)) := (by repeat (first | (with_reducible exact Below.refl _ _) | (with_reducible assumption) | (with_reducible refine balloc ?_ _) | (with_reducible refine bdrew ?_) | (with_reducible refine bdrewN ?_ _) | (with_reducible refine bset ?_ (by first | omega | (simp; done) | (simp; omega)) _) | (with_reducible refine bstep ?_ (by assumption))))
    generalize w.alloc (.cells #[Value.int .i64 a.f.d, Value.int .i64 a.f.l, Value.int .i64 a.f.a, Value.int .i64 a.f.b, Value.int .i64 a.o, Value.int .i64 a.l, Value.int .i64 a.t, Value.int .i64 a.on.c, Value.int .i64 a.on.k, Value.int .i64 a.on.a, Value.int .i64 a.on.t, Value.int .i64 a.ar.c, Value.int .i64 a.ar.k, Value.int .i64 a.ar.a, Value.int .i64 a.ar.t] 32) = W at *
    obtain ⟨c1, z1⟩ := B.facts
    go_wp2_with (first | ((with_reducible refine wp_ldA' ?_ B ?_); (focus (refine ⟨rfl, ⟨_, rfl, ?_⟩, rfl⟩; simp [go_sem]; done))) | (go_at_call 17; refine (impl_IsValidArms a _).mono ?_; rintro e w1 ⟨rfl, hb1⟩; clear c1 z1; replace B := B.below hb1; obtain ⟨c1, z1⟩ := B.facts; replace hW := bstep hW hb1; clear hb1))
    go_ret2
    exact ⟨_, rfl, Ints.nil _ _, hW⟩
  · have HT := Lib.hid (tL_eq h)
    go_enter Try.func25, Try.ntmps25
    go_upto_region 1 with (fail)
    have B := Blk.new w 32 #[Value.int .i64 a.f.d, Value.int .i64 a.f.l, Value.int .i64 a.f.a, Value.int .i64 a.f.b, Value.int .i64 a.o, Value.int .i64 a.l, Value.int .i64 a.t, Value.int .i64 a.on.c, Value.int .i64 a.on.k, Value.int .i64 a.on.a, Value.int .i64 a.on.t, Value.int .i64 a.ar.c, Value.int .i64 a.ar.k, Value.int .i64 a.ar.a, Value.int .i64 a.ar.t]
    have hW : Below w.heap.size w (w.alloc (.cells #[Value.int .i64 a.f.d, Value.int .i64 a.f.l, Value.int .i64 a.f.a, Value.int .i64 a.f.b, Value.int .i64 a.o, Value.int .i64 a.l, Value.int .i64 a.t, Value.int .i64 a.on.c, Value.int .i64 a.on.k, Value.int .i64 a.on.a, Value.int .i64 a.on.t, Value.int .i64 a.ar.c, Value.int .i64 a.ar.k, Value.int .i64 a.ar.a, Value.int .i64 a.ar.t] 32)) := (by repeat (first | (with_reducible exact Below.refl _ _) | (with_reducible assumption) | (with_reducible refine balloc ?_ _) | (with_reducible refine bdrew ?_) | (with_reducible refine bdrewN ?_ _) | (with_reducible refine bset ?_ (by first | omega | (simp; done) | (simp; omega)) _) | (with_reducible refine bstep ?_ (by assumption))))
    generalize w.alloc (.cells #[Value.int .i64 a.f.d, Value.int .i64 a.f.l, Value.int .i64 a.f.a, Value.int .i64 a.f.b, Value.int .i64 a.o, Value.int .i64 a.l, Value.int .i64 a.t, Value.int .i64 a.on.c, Value.int .i64 a.on.k, Value.int .i64 a.on.a, Value.int .i64 a.on.t, Value.int .i64 a.ar.c, Value.int .i64 a.ar.k, Value.int .i64 a.ar.a, Value.int .i64 a.ar.t] 32) = W at *
    obtain ⟨c1, z1⟩ := B.facts
    have hzw := hW.size
    go_wp2_with (first | ((with_reducible refine wp_ldA' ?_ B ?_); (focus (refine ⟨rfl, ⟨_, rfl, ?_⟩, rfl⟩; simp [go_sem]; done))) | (go_at_call 17; refine (impl_IsValidArms a _).mono ?_; rintro e w1 ⟨rfl, hb1⟩; clear c1 z1; replace B := B.below hb1; obtain ⟨c1, z1⟩ := B.facts; replace hW := bstep hW hb1; clear hb1) | (go_at_call 60; refine (impl_Arms_tinctures a _).mono ?_; rintro e w2 ⟨v, rfl, hi, hb2⟩))
    go_ret2
    exact ⟨_, rfl, by show Ints _ _ _ a.tL; rw [← HT.out]; exact hi.base hW.size, bstep hW hb2⟩
set_option maxHeartbeats 1000000 in
theorem spec_ArmsTinctures (a : AV) (w : World) : Calls Try.prog 24 #[.agg #[.int .i64 a.f.d, .int .i64 a.f.l, .int .i64 a.f.a, .int .i64 a.f.b, .int .i64 a.o, .int .i64 a.l, .int .i64 a.t, .int .i64 a.on.c, .int .i64 a.on.k, .int .i64 a.on.a, .int .i64 a.on.t, .int .i64 a.ar.c, .int .i64 a.ar.k, .int .i64 a.ar.a, .int .i64 a.ar.t]] w (RetInts a.ok a.tV w) := by
  unfold AV.tV
  cases h : a.ok
  · go_enter Try.func24, Try.ntmps24
    go_upto_region 1 with (fail)
    have B := Blk.new w 32 #[Value.int .i64 a.f.d, Value.int .i64 a.f.l, Value.int .i64 a.f.a, Value.int .i64 a.f.b, Value.int .i64 a.o, Value.int .i64 a.l, Value.int .i64 a.t, Value.int .i64 a.on.c, Value.int .i64 a.on.k, Value.int .i64 a.on.a, Value.int .i64 a.on.t, Value.int .i64 a.ar.c, Value.int .i64 a.ar.k, Value.int .i64 a.ar.a, Value.int .i64 a.ar.t]
    have hW : Below w.heap.size w (w.alloc (.cells #[Value.int .i64 a.f.d, Value.int .i64 a.f.l, Value.int .i64 a.f.a, Value.int .i64 a.f.b, Value.int .i64 a.o, Value.int .i64 a.l, Value.int .i64 a.t, Value.int .i64 a.on.c, Value.int .i64 a.on.k, Value.int .i64 a.on.a, Value.int .i64 a.on.t, Value.int .i64 a.ar.c, Value.int .i64 a.ar.k, Value.int .i64 a.ar.a, Value.int .i64 a.ar.t] 32)) := (by repeat (first | (with_reducible exact Below.refl _ _) | (with_reducible assumption) | (with_reducible refine balloc ?_ _) | (with_reducible refine bdrew ?_) | (with_reducible refine bdrewN ?_ _) | (with_reducible refine bset ?_ (by first | omega | (simp; done) | (simp; omega)) _) | (with_reducible refine bstep ?_ (by assumption))))
    generalize w.alloc (.cells #[Value.int .i64 a.f.d, Value.int .i64 a.f.l, Value.int .i64 a.f.a, Value.int .i64 a.f.b, Value.int .i64 a.o, Value.int .i64 a.l, Value.int .i64 a.t, Value.int .i64 a.on.c, Value.int .i64 a.on.k, Value.int .i64 a.on.a, Value.int .i64 a.on.t, Value.int .i64 a.ar.c, Value.int .i64 a.ar.k, Value.int .i64 a.ar.a, Value.int .i64 a.ar.t] 32) = W at *
    obtain ⟨c1, z1⟩ := B.facts
    go_wp2_with (first | ((with_reducible refine wp_ldA' ?_ B ?_); (focus (refine ⟨rfl, ⟨_, rfl, ?_⟩, rfl⟩; simp [go_sem]; done))) | (go_at_call 49; refine (spec_l5Good a _).mono ?_; rintro e w1 ⟨rfl, hb1⟩; clear c1 z1; replace B := B.below hb1; obtain ⟨c1, z1⟩ := B.facts; replace hW := bstep hW hb1; clear hb1))
    go_ret2
    exact ⟨_, rfl, (ints_lit _ [] #[] 0 rfl rfl (by decide)).base hW.size, balloc hW _⟩
  · go_enter Try.func24, Try.ntmps24
    go_upto_region 1 with (fail)
    have B := Blk.new w 32 #[Value.int .i64 a.f.d, Value.int .i64 a.f.l, Value.int .i64 a.f.a, Value.int .i64 a.f.b, Value.int .i64 a.o, Value.int .i64 a.l, Value.int .i64 a.t, Value.int .i64 a.on.c, Value.int .i64 a.on.k, Value.int .i64 a.on.a, Value.int .i64 a.on.t, Value.int .i64 a.ar.c, Value.int .i64 a.ar.k, Value.int .i64 a.ar.a, Value.int .i64 a.ar.t]
    have hW : Below w.heap.size w (w.alloc (.cells #[Value.int .i64 a.f.d, Value.int .i64 a.f.l, Value.int .i64 a.f.a, Value.int .i64 a.f.b, Value.int .i64 a.o, Value.int .i64 a.l, Value.int .i64 a.t, Value.int .i64 a.on.c, Value.int .i64 a.on.k, Value.int .i64 a.on.a, Value.int .i64 a.on.t, Value.int .i64 a.ar.c, Value.int .i64 a.ar.k, Value.int .i64 a.ar.a, Value.int .i64 a.ar.t] 32)) := (by repeat (first | (with_reducible exact Below.refl _ _) | (with_reducible assumption) | (with_reducible refine balloc ?_ _) | (with_reducible refine bdrew ?_) | (with_reducible refine bdrewN ?_ _) | (with_reducible refine bset ?_ (by first | omega | (simp; done) | (simp; omega)) _) | (with_reducible refine bstep ?_ (by assumption))))
    generalize w.alloc (.cells #[Value.int .i64 a.f.d, Value.int .i64 a.f.l, Value.int .i64 a.f.a, Value.int .i64 a.f.b, Value.int .i64 a.o, Value.int .i64 a.l, Value.int .i64 a.t, Value.int .i64 a.on.c, Value.int .i64 a.on.k, Value.int .i64 a.on.a, Value.int .i64 a.on.t, Value.int .i64 a.ar.c, Value.int .i64 a.ar.k, Value.int .i64 a.ar.a, Value.int .i64 a.ar.t] 32) = W at *
    obtain ⟨c1, z1⟩ := B.facts
    have hzw := hW.size
    go_wp2_with (first | ((with_reducible refine wp_ldA' ?_ B ?_); (focus (refine ⟨rfl, ⟨_, rfl, ?_⟩, rfl⟩; simp [go_sem]; done))) | (go_at_call 49; refine (spec_l5Good a _).mono ?_; rintro e w1 ⟨rfl, hb1⟩; clear c1 z1; replace B := B.below hb1; obtain ⟨c1, z1⟩ := B.facts; replace hW := bstep hW hb1; clear hb1) | (go_at_call 59; refine (spec_l5Tinctures a _).mono ?_; rintro e w2 ⟨v, rfl, hi, hb2⟩))
    go_ret2
    exact ⟨_, rfl, hi.base hW.size, bstep hW hb2⟩
/-! ### does a tincture clash with all -/
def brk (x : Int) (ys : List Int) : Bool := ys.all (tclash x)
theorem brk_step (x : Int) (ys : List Int) (k : Nat) (h : k < ys.length) : brk x (ys.drop k) = (tclash x (ys.getD k 0) && brk x (ys.drop (k + 1))) := by
  have e : ys.getD k 0 = ys[k] := by simp [List.getD_eq_getElem?_getD, h]
  rw [List.drop_eq_getElem_cons h, e]
  rfl
theorem impl_breaks (A : Option Addr) (n c : Nat) (ys : List Int) (x : Int) (w : World) (hn : n = ys.length) (hl : ys.length ≤ maxLen) (hr : Reads w A ys) :
    Calls Try.prog 76 #[.int .i64 x, .slice A n c] w fun e w' => e = .returned (.bool (brk x ys)) ∧ w = w' := by
  subst hn
  unfold maxLen at hl
  have HR := Lib.hid hr
  clear hr
  go_enter Try.func76, Try.ntmps76
  go_wp2
  go_loop [9] (fun i => ∃ k : Nat, k ≤ ys.length ∧ i = .int .i64 k ∧ Hid (brk x ys = brk x (ys.drop k))) (fun i => ys.length - (intOf i).toNat)
  case atStart => exact ⟨0, Nat.zero_le _, rfl, rfl⟩
  case round =>
    obtain ⟨k, hk, rfl, hi⟩ := hrel
    by_cases hlt : k < ys.length
    · obtain ⟨ad, rfl, hx, hc⟩ := HR.out k hlt
      have HS := Lib.hid (brk_step x ys k hlt)
      generalize hy : ys.getD k 0 = y at *
      have HY := Lib.hid hy
      clear hy
      cases he : tclash x y
      · go_wp2_with (go_at_call 85; refine (impl_clash _ _ _).mono ?_; rintro e w' ⟨rfl, rfl⟩)
        go_ret
        exact ⟨by rw [hi.out, HS.out, he]; rfl, rfl⟩
      · go_wp2_with (go_at_call 85; refine (impl_clash _ _ _).mono ?_; rintro e w' ⟨rfl, rfl⟩)
        go_round
        case rel => exact ⟨k + 1, by omega, by go_num, by rw [hi.out, HS.out, he]; rfl⟩
        case measure => simp [intOf]; omega
    · go_wp2
      go_ret
      exact ⟨by rw [hi.out, List.drop_of_length_le (by omega)]; rfl, rfl⟩
set_option maxHeartbeats 1000000 in
theorem spec_l8OnField (d l a b x : Int) (w : World) : Calls Try.prog 73 #[.agg #[.int .i64 d, .int .i64 l, .int .i64 a, .int .i64 b], .int .i64 x] w fun e w' => e = .returned (.bool (brk x (ftL d a b))) ∧ Below w.heap.size w w' := by
  have hm : (ftL d a b).length ≤ 2 := by unfold ftL; split <;> simp
  go_enter Try.func73, Try.ntmps73
  go_wp2_with fail
  refine (spec_l3Tinctures _ _ _ _ _).mono ?_
  rintro e w1 ⟨v, rfl, hi, hb1⟩
  obtain ⟨A, c, rfl, hr⟩ := hi.reads
  have HR := Lib.hid hr
  have HB := Lib.hid (bstep (balloc (Below.refl _ _) _) hb1)
  clear hi hb1 hr
  generalize hys : ftL d a b = ys at *
  have HYS := Lib.hid hys
  clear hys
  go_wp2
  go_loop [6] (fun i => ∃ k : Nat, k ≤ ys.length ∧ i = .int .i64 k ∧ Hid (brk x ys = brk x (ys.drop k))) (fun i => ys.length - (intOf i).toNat)
  case atStart => exact ⟨0, Nat.zero_le _, rfl, rfl⟩
  case round =>
    obtain ⟨k, hk, rfl, hi⟩ := hrel
    by_cases hlt : k < ys.length
    · obtain ⟨ad, rfl, hx, hc⟩ := HR.out k hlt
      have HS := Lib.hid (brk_step x ys k hlt)
      generalize hy : ys.getD k 0 = y at *
      have HY := Lib.hid hy
      clear hy
      cases he : tclash x y
      · go_wp2_with (go_at_call 74; refine (spec_l2Clash _ _ _).mono ?_; rintro e w' ⟨rfl, rfl⟩)
        go_ret
        exact ⟨by rw [HYS.out, hi.out, HS.out, he]; rfl, HB.out⟩
      · go_wp2_with (go_at_call 74; refine (spec_l2Clash _ _ _).mono ?_; rintro e w' ⟨rfl, rfl⟩)
        go_round
        case rel => exact ⟨k + 1, by omega, by go_num, by rw [hi.out, HS.out, he]; rfl⟩
        case measure => simp [intOf]; omega
    · go_wp2
      go_ret
      exact ⟨by rw [HYS.out, hi.out, List.drop_of_length_le (by omega)]; rfl, HB.out⟩
/-! ### the tinctures that are allowed at a place -/
def freeTo (ys : List Int) (k : Nat) : List Int := ((List.range k).map fun (i : Nat) => (i : Int) + 1).filter fun x => !brk x ys
theorem freeTo_succ (ys : List Int) (k : Nat) : freeTo ys (k + 1) = if brk ((k : Int) + 1) ys then freeTo ys k else freeTo ys k ++ [(k : Int) + 1] := by
  unfold freeTo
  rw [List.range_succ, List.map_append, List.filter_append]
  cases h : brk ((k : Int) + 1) ys <;> simp [h]
theorem freeTo_len (ys : List Int) (k : Nat) : (freeTo ys k).length ≤ k := by
  unfold freeTo
  exact Nat.le_trans (List.length_filter_le _ _) (by simp)
def AV.under (a : AV) (p : Int) : List Int := if p = 2 then [a.t] else a.ft
def AV.there (a : AV) (p : Int) : Bool := (p == 1 && a.o != 0) || ((p == 2 && !gZero a.on.c a.on.k a.on.a a.on.t) || (p == 3 && !gZero a.ar.c a.ar.k a.ar.a a.ar.t))
def AV.alV (a : AV) (p : Int) : List Int := if a.ok && a.there p then freeTo (a.under p) 9 else []
theorem alV_len (a : AV) (p : Int) : (a.alV p).length ≤ 1048576 := by
  unfold AV.alV
  split
  · exact Nat.le_trans (freeTo_len _ _) (by omega)
  · simp
theorem under_len (a : AV) (p : Int) : (a.under p).length ≤ 2 := by
  unfold AV.under
  split
  · simp
  · exact ft_len a
end Go.Proofs.Ytfpjomichfpejaa
