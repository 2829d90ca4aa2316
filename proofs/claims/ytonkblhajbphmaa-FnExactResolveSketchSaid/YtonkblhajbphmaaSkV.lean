/- Sketches: are they valid? Conditions: as each theorem says. -/
import Derived.Test.YtonkblhajbphmaaRows
import Derived.Test.YtonkblhajbphmaaSkP
import Derived.Test.YtonkblhajbphmaaEq2
import Derived.Deep.Cut
import Derived.Deep.CutRange
namespace Go.Proofs.Ytonkblhajbphmaa
set_option linter.unusedSimpArgs false
set_option linter.unusedVariables false
open Go.ChangeShapes Go.WideShapes Go.ChangeAt Go.RowKit

theorem eqb_bare (a : AV) : a.eqb a.bare = a.golden := by
  unfold AV.eqb AV.golden AV.places AV.bare AV.fill
  cases h1 : (a.o != 0) <;> cases h2 : a.on.zero <;> cases h3 : a.ar.zero <;> simp [gEq, AV.cellAt]
theorem spec_l7Slot (s : SV) (w : World) : Calls Try.prog 54 #[.agg #[.int .i64 s.m, .int .i64 s.n]] w fun e w' => e = .returned (.bool (slotOk s)) ∧ Below w.heap.size w w' := by
  go_enter Try.func54, Try.ntmps54
  go_wp2_with (first | (go_at_call 66; refine (spec_l2Good _ _).mono ?_; rintro e w' ⟨rfl, rfl⟩) | (go_at_call 34; refine (spec_l1In _ _ _ _).mono ?_; rintro e w' ⟨rfl, rfl⟩))
  all_goals go_ret
  all_goals exact ⟨by unfold slotOk; simp_all, (by repeat (first | (with_reducible exact Below.refl _ _) | (with_reducible assumption) | (with_reducible refine balloc ?_ _) | (with_reducible refine bdrew ?_) | (with_reducible refine bdrewN ?_ _) | (with_reducible refine bset ?_ (by first | omega | (simp; done) | (simp; omega)) _) | (with_reducible refine bstep ?_ (by assumption))))⟩
theorem slotOk_rest {s : SV} (h1 : ¬ s.m = 1) (h3 : ¬ s.m = 3) : slotOk s = (inB 2 s.m 5 && s.n == 0) := by
  unfold slotOk
  rw [if_neg h1, if_neg h3]
theorem impl_isSlot (s : SV) (w : World) : Calls Try.prog 49 #[.agg #[.int .i64 s.m, .int .i64 s.n]] w fun e w' => e = .returned (.bool (slotOk s)) ∧ Below w.heap.size w w' := by
  by_cases h1 : s.m = 1
  · have e : slotOk s = inB 1 s.n 9 := by unfold slotOk; rw [if_pos h1]
    rw [e]
    go_enter Try.func49, Try.ntmps49
    go_wp2_with (first | (go_at_call 74; refine (impl_IsTincture _ _).mono ?_; rintro e w' ⟨rfl, rfl⟩) | (go_at_call 37; refine (impl_inside _ _ _ _).mono ?_; rintro e w' ⟨rfl, rfl⟩))
    go_ret
    exact ⟨rfl, (by repeat (first | (with_reducible exact Below.refl _ _) | (with_reducible assumption) | (with_reducible refine balloc ?_ _) | (with_reducible refine bdrew ?_) | (with_reducible refine bdrewN ?_ _) | (with_reducible refine bset ?_ (by first | omega | (simp; done) | (simp; omega)) _) | (with_reducible refine bstep ?_ (by assumption))))⟩
  by_cases h3 : s.m = 3
  · have e : slotOk s = inB 1 s.n 3 := by unfold slotOk; rw [if_neg h1, if_pos h3]
    rw [e]
    go_enter Try.func49, Try.ntmps49
    go_wp2_with (first | (go_at_call 74; refine (impl_IsTincture _ _).mono ?_; rintro e w' ⟨rfl, rfl⟩) | (go_at_call 37; refine (impl_inside _ _ _ _).mono ?_; rintro e w' ⟨rfl, rfl⟩))
    go_ret
    exact ⟨rfl, (by repeat (first | (with_reducible exact Below.refl _ _) | (with_reducible assumption) | (with_reducible refine balloc ?_ _) | (with_reducible refine bdrew ?_) | (with_reducible refine bdrewN ?_ _) | (with_reducible refine bset ?_ (by first | omega | (simp; done) | (simp; omega)) _) | (with_reducible refine bstep ?_ (by assumption))))⟩
  by_cases h2 : s.m = 2 ∨ s.m = 4 ∨ s.m = 5
  · have e : slotOk s = (s.n == 0) := by
      rw [slotOk_rest h1 h3, show inB 2 s.m 5 = true by rw [inB_true]; omega]
      rfl
    rw [e]
    clear e h1 h3
    rcases h2 with h | h | h
    all_goals
      go_enter Try.func49, Try.ntmps49
      go_wp2
      go_ret
      exact ⟨rfl, (by repeat (first | (with_reducible exact Below.refl _ _) | (with_reducible assumption) | (with_reducible refine balloc ?_ _) | (with_reducible refine bdrew ?_) | (with_reducible refine bdrewN ?_ _) | (with_reducible refine bset ?_ (by first | omega | (simp; done) | (simp; omega)) _) | (with_reducible refine bstep ?_ (by assumption))))⟩
  · have e : slotOk s = false := by
      rw [slotOk_rest h1 h3, show inB 2 s.m 5 = false by rw [inB_false]; omega]
      rfl
    rw [e]
    have n1 : (s.m == 1) = false := by simpa using h1
    have n3 : (s.m == 3) = false := by simpa using h3
    have n2 : (s.m == 2) = false := by simp; omega
    have n4 : (s.m == 4) = false := by simp; omega
    have n5 : (s.m == 5) = false := by simp; omega
    clear h1 h2 h3 e
    go_enter Try.func49, Try.ntmps49
    go_wp2
    go_ret
    exact ⟨rfl, (by repeat (first | (with_reducible exact Below.refl _ _) | (with_reducible assumption) | (with_reducible refine balloc ?_ _) | (with_reducible refine bdrew ?_) | (with_reducible refine bdrewN ?_ _) | (with_reducible refine bset ?_ (by first | omega | (simp; done) | (simp; omega)) _) | (with_reducible refine bstep ?_ (by assumption))))⟩
/-! ### tinctures filled in -/
/-- The arms being filled, and the result's place. -/
def FL (a : AV) (w W : World) : Prop := Blk W w.heap.size 35 #[Value.int .i64 a.f.d, Value.int .i64 a.f.l, Value.int .i64 a.f.a, Value.int .i64 a.f.b, Value.int .i64 a.o, Value.int .i64 a.l, Value.int .i64 a.t, Value.int .i64 a.on.c, Value.int .i64 a.on.k, Value.int .i64 a.on.a, Value.int .i64 a.on.t, Value.int .i64 a.ar.c, Value.int .i64 a.ar.k, Value.int .i64 a.ar.a, Value.int .i64 a.ar.t] ∧ Blk W (w.heap.size + 1) 35 #[Value.int .i64 AV.none.f.d, Value.int .i64 AV.none.f.l, Value.int .i64 AV.none.f.a, Value.int .i64 AV.none.f.b, Value.int .i64 AV.none.o, Value.int .i64 AV.none.l, Value.int .i64 AV.none.t, Value.int .i64 AV.none.on.c, Value.int .i64 AV.none.on.k, Value.int .i64 AV.none.on.a, Value.int .i64 AV.none.on.t, Value.int .i64 AV.none.ar.c, Value.int .i64 AV.none.ar.k, Value.int .i64 AV.none.ar.a, Value.int .i64 AV.none.ar.t] ∧ Below w.heap.size w W
section
variable {a b : AV} {w W W' : World}
theorem FL.below (h : FL a w W) (hb : Below W.heap.size W W') : FL a w W' := ⟨h.1.below hb, h.2.1.below hb, bstep h.2.2 hb⟩
theorem FL.facts (h : FL a w W) : (∀ i, W.cell? ⟨w.heap.size, i, none⟩ = (#[Value.int .i64 a.f.d, Value.int .i64 a.f.l, Value.int .i64 a.f.a, Value.int .i64 a.f.b, Value.int .i64 a.o, Value.int .i64 a.l, Value.int .i64 a.t, Value.int .i64 a.on.c, Value.int .i64 a.on.k, Value.int .i64 a.on.a, Value.int .i64 a.on.t, Value.int .i64 a.ar.c, Value.int .i64 a.ar.k, Value.int .i64 a.ar.a, Value.int .i64 a.ar.t] : Array Value)[i]?) ∧ (∀ i, W.frozen? ⟨w.heap.size, i, none⟩ = false) ∧ w.heap.size < W.heap.size := h.1.all
theorem FL.set {i : Nat} {v : Value} (h : FL a w W) (e : (#[Value.int .i64 a.f.d, Value.int .i64 a.f.l, Value.int .i64 a.f.a, Value.int .i64 a.f.b, Value.int .i64 a.o, Value.int .i64 a.l, Value.int .i64 a.t, Value.int .i64 a.on.c, Value.int .i64 a.on.k, Value.int .i64 a.on.a, Value.int .i64 a.on.t, Value.int .i64 a.ar.c, Value.int .i64 a.ar.k, Value.int .i64 a.ar.a, Value.int .i64 a.ar.t] : Array Value).setIfInBounds i v = #[Value.int .i64 b.f.d, Value.int .i64 b.f.l, Value.int .i64 b.f.a, Value.int .i64 b.f.b, Value.int .i64 b.o, Value.int .i64 b.l, Value.int .i64 b.t, Value.int .i64 b.on.c, Value.int .i64 b.on.k, Value.int .i64 b.on.a, Value.int .i64 b.on.t, Value.int .i64 b.ar.c, Value.int .i64 b.ar.k, Value.int .i64 b.ar.a, Value.int .i64 b.ar.t]) : FL b w (W.setCell ⟨w.heap.size, i, none⟩ v) := by
  have hg := setCell_grown W w.heap.size i v
  refine ⟨?_, h.2.1.past hg (by omega), bgrown h.2.2 hg (Nat.le_refl _)⟩
  rw [← e]
  exact h.1.set_ i v
end
theorem reads_at {w : World} {x : Addr} {xs : List Int} (h : Reads w (some x) xs) {k : Nat} (hk : k < xs.length) : w.cell? (x.add k) = some (.int .i64 (xs.getD k 0)) := by
  obtain ⟨y, hy, _, hc⟩ := h k hk
  injection hy with hy
  subst hy
  exact hc
def AV.g1 (a : AV) (xs : List Int) : AV := { a with t := if a.o != 0 then xs.getD 0 0 else a.t }
def AV.g2 (a : AV) (xs : List Int) : AV := { a.g1 xs with on := if a.on.zero then a.on else { a.on with t := xs.getD (if a.o != 0 then 1 else 0) 0 } }
def AV.j1 (a : AV) : Nat := if a.o != 0 then 1 else 0
def AV.j2 (a : AV) : Nat := a.j1 + if a.on.zero then 0 else 1
theorem fill_g2 (a : AV) (xs : List Int) : a.fill xs = { a.g2 xs with ar := if a.ar.zero then a.ar else { a.ar with t := xs.getD a.j2 0 } } := rfl
theorem j_places (a : AV) : a.places.length = a.j2 + (if a.ar.zero then 0 else 1) := by
  unfold AV.places AV.j2 AV.j1
  cases (a.o != 0) <;> cases a.on.zero <;> cases a.ar.zero <;> rfl
set_option maxHeartbeats 1000000 in
theorem spec_l7Fill (a : AV) (A : Option Addr) (n c : Nat) (xs : List Int) (hn : n = xs.length) (hm : n ≤ maxLen) (h0 : 0 ≤ a.o) (hp : a.places.length ≤ xs.length) (w : World) (hr : Reads w A xs) :
    Calls Try.prog 56 #[.agg #[.int .i64 a.f.d, .int .i64 a.f.l, .int .i64 a.f.a, .int .i64 a.f.b, .int .i64 a.o, .int .i64 a.l, .int .i64 a.t, .int .i64 a.on.c, .int .i64 a.on.k, .int .i64 a.on.a, .int .i64 a.on.t, .int .i64 a.ar.c, .int .i64 a.ar.k, .int .i64 a.ar.a, .int .i64 a.ar.t], .slice A n c] w fun e w' => e = .returned (.agg #[.int .i64 (a.fill xs).f.d, .int .i64 (a.fill xs).f.l, .int .i64 (a.fill xs).f.a, .int .i64 (a.fill xs).f.b, .int .i64 (a.fill xs).o, .int .i64 (a.fill xs).l, .int .i64 (a.fill xs).t, .int .i64 (a.fill xs).on.c, .int .i64 (a.fill xs).on.k, .int .i64 (a.fill xs).on.a, .int .i64 (a.fill xs).on.t, .int .i64 (a.fill xs).ar.c, .int .i64 (a.fill xs).ar.k, .int .i64 (a.fill xs).ar.a, .int .i64 (a.fill xs).ar.t]) ∧ Below w.heap.size w w' := by
  unfold maxLen at hm
  have HR := Lib.hid hr
  have HN := Lib.hid hn
  rw [j_places] at hp
  have HP := Lib.hid hp
  clear hr hn hp
  go_enter Try.func56, Try.ntmps56
  go_upto_region 1 with fail
  obtain ⟨BA, BR⟩ := blk_two w 35 35 #[Value.int .i64 a.f.d, Value.int .i64 a.f.l, Value.int .i64 a.f.a, Value.int .i64 a.f.b, Value.int .i64 a.o, Value.int .i64 a.l, Value.int .i64 a.t, Value.int .i64 a.on.c, Value.int .i64 a.on.k, Value.int .i64 a.on.a, Value.int .i64 a.on.t, Value.int .i64 a.ar.c, Value.int .i64 a.ar.k, Value.int .i64 a.ar.a, Value.int .i64 a.ar.t] #[Value.int .i64 AV.none.f.d, Value.int .i64 AV.none.f.l, Value.int .i64 AV.none.f.a, Value.int .i64 AV.none.f.b, Value.int .i64 AV.none.o, Value.int .i64 AV.none.l, Value.int .i64 AV.none.t, Value.int .i64 AV.none.on.c, Value.int .i64 AV.none.on.k, Value.int .i64 AV.none.on.a, Value.int .i64 AV.none.on.t, Value.int .i64 AV.none.ar.c, Value.int .i64 AV.none.ar.k, Value.int .i64 AV.none.ar.a, Value.int .i64 AV.none.ar.t]
  have H0 : Hid (FL a w ((w.alloc (.cells #[Value.int .i64 a.f.d, Value.int .i64 a.f.l, Value.int .i64 a.f.a, Value.int .i64 a.f.b, Value.int .i64 a.o, Value.int .i64 a.l, Value.int .i64 a.t, Value.int .i64 a.on.c, Value.int .i64 a.on.k, Value.int .i64 a.on.a, Value.int .i64 a.on.t, Value.int .i64 a.ar.c, Value.int .i64 a.ar.k, Value.int .i64 a.ar.a, Value.int .i64 a.ar.t] 35)).alloc (.cells #[Value.int .i64 AV.none.f.d, Value.int .i64 AV.none.f.l, Value.int .i64 AV.none.f.a, Value.int .i64 AV.none.f.b, Value.int .i64 AV.none.o, Value.int .i64 AV.none.l, Value.int .i64 AV.none.t, Value.int .i64 AV.none.on.c, Value.int .i64 AV.none.on.k, Value.int .i64 AV.none.on.a, Value.int .i64 AV.none.on.t, Value.int .i64 AV.none.ar.c, Value.int .i64 AV.none.ar.k, Value.int .i64 AV.none.ar.a, Value.int .i64 AV.none.ar.t] 35))) := ⟨BA, BR, (by repeat (first | (with_reducible exact Below.refl _ _) | (with_reducible assumption) | (with_reducible refine balloc ?_ _) | (with_reducible refine bdrew ?_) | (with_reducible refine bdrewN ?_ _) | (with_reducible refine bset ?_ (by first | omega | (simp; done) | (simp; omega)) _) | (with_reducible refine bstep ?_ (by assumption))))⟩
  show Code.wp _ _ _ _ ((w.alloc (.cells #[Value.int .i64 a.f.d, Value.int .i64 a.f.l, Value.int .i64 a.f.a, Value.int .i64 a.f.b, Value.int .i64 a.o, Value.int .i64 a.l, Value.int .i64 a.t, Value.int .i64 a.on.c, Value.int .i64 a.on.k, Value.int .i64 a.on.a, Value.int .i64 a.on.t, Value.int .i64 a.ar.c, Value.int .i64 a.ar.k, Value.int .i64 a.ar.a, Value.int .i64 a.ar.t] 35)).alloc (.cells #[Value.int .i64 AV.none.f.d, Value.int .i64 AV.none.f.l, Value.int .i64 AV.none.f.a, Value.int .i64 AV.none.f.b, Value.int .i64 AV.none.o, Value.int .i64 AV.none.l, Value.int .i64 AV.none.t, Value.int .i64 AV.none.on.c, Value.int .i64 AV.none.on.k, Value.int .i64 AV.none.on.a, Value.int .i64 AV.none.on.t, Value.int .i64 AV.none.ar.c, Value.int .i64 AV.none.ar.k, Value.int .i64 AV.none.ar.a, Value.int .i64 AV.none.ar.t] 35))
  generalize ((w.alloc (.cells #[Value.int .i64 a.f.d, Value.int .i64 a.f.l, Value.int .i64 a.f.a, Value.int .i64 a.f.b, Value.int .i64 a.o, Value.int .i64 a.l, Value.int .i64 a.t, Value.int .i64 a.on.c, Value.int .i64 a.on.k, Value.int .i64 a.on.a, Value.int .i64 a.on.t, Value.int .i64 a.ar.c, Value.int .i64 a.ar.k, Value.int .i64 a.ar.a, Value.int .i64 a.ar.t] 35)).alloc (.cells #[Value.int .i64 AV.none.f.d, Value.int .i64 AV.none.f.l, Value.int .i64 AV.none.f.a, Value.int .i64 AV.none.f.b, Value.int .i64 AV.none.o, Value.int .i64 AV.none.l, Value.int .i64 AV.none.t, Value.int .i64 AV.none.on.c, Value.int .i64 AV.none.on.k, Value.int .i64 AV.none.on.a, Value.int .i64 AV.none.on.t, Value.int .i64 AV.none.ar.c, Value.int .i64 AV.none.ar.k, Value.int .i64 AV.none.ar.a, Value.int .i64 AV.none.ar.t] 35)) = W at *
  clear BA BR
  obtain ⟨c0, _, _⟩ := H0.out.facts
  go_upto_if 8 with fail
  go_cut [5] from 6 (fun i w' => i = .int .i64 (a.j1 : Nat) ∧ Hid (FL (a.g1 xs) w w'))
  case first =>
    obtain ⟨c1, f1, z1⟩ := H0.out.facts
    cases hz : (a.o != 0)
    · have hz' : a.o = 0 := by simpa using hz
      have HE : Hid (a.g1 xs = a) := by show _ = _; unfold AV.g1; rw [hz]; rfl
      have HJ : Hid (a.j1 = 0) := by show _ = _; unfold AV.j1; rw [hz]; rfl
      have hd : decide (0 < a.o) = false := by simp; omega
      go_wp2
      go_meet
      case rel => exact ⟨by rw [HJ.out]; rfl, by show FL _ _ _; rw [HE.out]; exact H0.out⟩
    · have hz' : ¬ a.o = 0 := by simpa using hz
      have HE : Hid (a.g1 xs = { a with t := xs.getD 0 0 }) := by show _ = _; unfold AV.g1; rw [hz]; rfl
      have HJ : Hid (a.j1 = 1) := by show _ = _; unfold AV.j1; rw [hz]; rfl
      have hz2 : 0 < a.o := by omega
      have hd : decide (0 < a.o) = true := by simp; omega
      have hk : 0 < xs.length := by have := HP.out; unfold AV.j2 at this; rw [HJ.out] at this; omega
      obtain ⟨x, rfl, _⟩ := HR.out 0 hk
      have hx := reads_at (HR.out.below H0.out.2.2) hk
      have hy : W.cell? x = _ := hx
      have hn' : 0 < n := by rw [HN.out]; exact hk
      clear hz' hk
      generalize xs.getD 0 0 = y at *
      go_wp2
      go_meet
      case rel => exact ⟨by rw [HJ.out]; rfl, by show FL _ _ _; rw [HE.out]; exact H0.out.set rfl⟩
  case rest =>
    obtain ⟨rfl, H1⟩ := hcut
    clear H0 c0
    go_upto_region 5 with fail
    have E2 : Hid ((a.g1 xs).on = a.on ∧ (a.g1 xs).ar = a.ar ∧ (a.g1 xs).f = a.f ∧ (a.g1 xs).o = a.o ∧ (a.g1 xs).l = a.l) := ⟨rfl, rfl, rfl, rfl, rfl⟩
    have E3 : Hid (a.g2 xs = { a.g1 xs with on := if a.on.zero then a.on else { a.on with t := xs.getD a.j1 0 } }) := rfl
    generalize a.g1 xs = b at *
    go_cut [19] from 6 (fun c w' => c = .bool (!a.on.zero) ∧ Hid (FL b w w'))
    case first =>
      obtain ⟨e1, e2, e3, e4, e5⟩ := E2.out
      obtain ⟨c1, f1, z1⟩ := H1.out.facts
      go_wp2_with (go_at_call 63; refine (spec_l4None _ _ _ _ _).mono ?_; rintro e w1 ⟨rfl, hb1⟩; have H2 := Lib.hid (H1.out.below hb1); clear hb1 c1 f1 z1)
      go_meet
      case rel => exact ⟨by rw [← e1]; rfl, H2⟩
    case rest =>
      obtain ⟨rfl, H1b⟩ := hcut
      clear H1
      go_upto_if 19 with fail
      go_cut [5] from 6 (fun i w' => i = .int .i64 (a.j2 : Nat) ∧ Hid (FL (a.g2 xs) w w'))
      case first =>
        obtain ⟨c1, f1, z1⟩ := H1b.out.facts
        have hj1 : a.j1 ≤ 1 := by unfold AV.j1; split <;> omega
        cases hz : a.on.zero
        · have HJ : Hid (a.j2 = a.j1 + 1) := by show _ = _; unfold AV.j2; rw [hz]; rfl
          have HE : Hid (a.g2 xs = { b with on := { a.on with t := xs.getD a.j1 0 } }) := by show _ = _; rw [E3.out, hz]; rfl
          have HB : Hid (b.on = a.on) := E2.out.1
          have hk : a.j1 < xs.length := by have := HP.out; rw [HJ.out] at this; omega
          obtain ⟨x, rfl, _⟩ := HR.out _ hk
          have hx := reads_at (HR.out.below H1b.out.2.2) hk
          have hn' : a.j1 < n := by rw [HN.out]; exact hk
          clear hk
          generalize xs.getD a.j1 0 = y at *
          generalize a.j1 = j at *
          go_wp2
          go_meet
          case rel => exact ⟨by rw [HJ.out]; go_num, by show FL _ _ _; rw [HE.out, ← HB.out]; exact H1b.out.set rfl⟩
        · have HJ : Hid (a.j2 = a.j1) := by show _ = _; unfold AV.j2; rw [hz]; rfl
          have HE : Hid (a.g2 xs = b) := by show _ = _; rw [E3.out, hz, ← E2.out.1]; rfl
          go_wp2
          go_meet
          case rel => exact ⟨by rw [HJ.out], by show FL _ _ _; rw [HE.out]; exact H1b.out⟩
      case rest =>
        obtain ⟨rfl, H2⟩ := hcut
        clear H1b
        go_upto_region 8 with fail
        have E4 : Hid ((a.g2 xs).ar = a.ar) := by show _ = _; rfl
        have E5 : Hid (a.fill xs = { a.g2 xs with ar := if a.ar.zero then a.ar else { a.ar with t := xs.getD a.j2 0 } }) := rfl
        have hj2 : a.j2 ≤ 2 := by unfold AV.j2 AV.j1; split <;> split <;> omega
        clear E2 E3
        generalize a.g2 xs = d at *
        go_cut [31] from 6 (fun c w' => c = .bool (!a.ar.zero) ∧ Hid (FL d w w'))
        case first =>
          obtain ⟨c1, f1, z1⟩ := H2.out.facts
          go_wp2_with (go_at_call 63; refine (spec_l4None _ _ _ _ _).mono ?_; rintro e w1 ⟨rfl, hb1⟩; have H3 := Lib.hid (H2.out.below hb1); clear hb1 c1 f1 z1)
          go_meet
          case rel => exact ⟨by rw [← E4.out]; rfl, H3⟩
        case rest =>
          obtain ⟨rfl, H2b⟩ := hcut
          clear H2
          go_upto_if 31 with fail
          go_cut [] from 6 (fun w' => Hid (FL (a.fill xs) w w'))
          case first =>
            obtain ⟨c1, f1, z1⟩ := H2b.out.facts
            cases hz : a.ar.zero
            · have HE : Hid (a.fill xs = { d with ar := { a.ar with t := xs.getD a.j2 0 } }) := by show _ = _; rw [E5.out, hz]; rfl
              have hk : a.j2 < xs.length := by have := HP.out; rw [hz] at this; simp at this; omega
              obtain ⟨x, rfl, _⟩ := HR.out _ hk
              have hx := reads_at (HR.out.below H2b.out.2.2) hk
              have hn' : a.j2 < n := by rw [HN.out]; exact hk
              clear hk
              generalize xs.getD a.j2 0 = y at *
              generalize a.j2 = j at *
              go_wp2
              go_meet
              case rel => show FL _ _ _; rw [HE.out, ← E4.out]; exact H2b.out.set rfl
            · have HE : Hid (a.fill xs = d) := by show _ = _; rw [E5.out, hz, ← E4.out]; rfl
              go_wp2
              go_meet
              case rel => show FL _ _ _; rw [HE.out]; exact H2b.out
          case rest =>
            have H3 := hcut
            clear H2b E5 E4
            obtain ⟨BA, BR, hW⟩ := H3.out
            go_wp2_with (first | ((with_reducible refine wp_ldA' ?_ BA ?_); (focus (refine ⟨rfl, ⟨_, rfl, ?_⟩, rfl⟩; simp [go_sem]; done))) | ((with_reducible refine' wp_stA' BR _ _); rotate_left; (focus (refine ⟨rfl, ⟨_, _, rfl, ?_, rfl⟩, rfl, rfl, ?_⟩; (focus (simp [go_sem]; done)); (focus (simp [Value.oneCell']; done)))); intro w3 hg3 hb3))
            refine ret_rowA rfl rfl hb3 rfl rfl ?_
            exact ⟨rfl, bgrown hW hg3 (by omega)⟩
theorem reads_ones (W : World) : Reads (W.alloc (.cells #[.int .i64 1, .int .i64 1, .int .i64 1] 3)) (some ⟨W.heap.size, 0, none⟩) [1, 1, 1] := fun k hk => by
  refine ⟨_, rfl, by simp, ?_⟩
  rw [Addr.add_mid, (Blk.new W _ _).cell]
  match k, hk with
  | 0, _ | 1, _ | 2, _ => rfl
set_option maxHeartbeats 1000000 in
theorem spec_l7Bare (a : AV) (h0 : 0 ≤ a.o) (w : World) : Calls Try.prog 52 #[.agg #[.int .i64 a.f.d, .int .i64 a.f.l, .int .i64 a.f.a, .int .i64 a.f.b, .int .i64 a.o, .int .i64 a.l, .int .i64 a.t, .int .i64 a.on.c, .int .i64 a.on.k, .int .i64 a.on.a, .int .i64 a.on.t, .int .i64 a.ar.c, .int .i64 a.ar.k, .int .i64 a.ar.a, .int .i64 a.ar.t]] w fun e w' => e = .returned (.agg #[.int .i64 a.bare.f.d, .int .i64 a.bare.f.l, .int .i64 a.bare.f.a, .int .i64 a.bare.f.b, .int .i64 a.bare.o, .int .i64 a.bare.l, .int .i64 a.bare.t, .int .i64 a.bare.on.c, .int .i64 a.bare.on.k, .int .i64 a.bare.on.a, .int .i64 a.bare.on.t, .int .i64 a.bare.ar.c, .int .i64 a.bare.ar.k, .int .i64 a.bare.ar.a, .int .i64 a.bare.ar.t]) ∧ Below w.heap.size w w' := by
  have H0 := Lib.hid h0
  clear h0
  go_enter Try.func52, Try.ntmps52
  go_upto_region 1 with (fail)
  obtain ⟨BA, BR⟩ := blk_two w 35 35 (#[Value.int .i64 a.f.d, Value.int .i64 a.f.l, Value.int .i64 a.f.a, Value.int .i64 a.f.b, Value.int .i64 a.o, Value.int .i64 a.l, Value.int .i64 a.t, Value.int .i64 a.on.c, Value.int .i64 a.on.k, Value.int .i64 a.on.a, Value.int .i64 a.on.t, Value.int .i64 a.ar.c, Value.int .i64 a.ar.k, Value.int .i64 a.ar.a, Value.int .i64 a.ar.t] : Array Value) (#[Value.int .i64 AV.none.f.d, Value.int .i64 AV.none.f.l, Value.int .i64 AV.none.f.a, Value.int .i64 AV.none.f.b, Value.int .i64 AV.none.o, Value.int .i64 AV.none.l, Value.int .i64 AV.none.t, Value.int .i64 AV.none.on.c, Value.int .i64 AV.none.on.k, Value.int .i64 AV.none.on.a, Value.int .i64 AV.none.on.t, Value.int .i64 AV.none.ar.c, Value.int .i64 AV.none.ar.k, Value.int .i64 AV.none.ar.a, Value.int .i64 AV.none.ar.t] : Array Value)
  have hW : Below w.heap.size w ((w.alloc (.cells (#[Value.int .i64 a.f.d, Value.int .i64 a.f.l, Value.int .i64 a.f.a, Value.int .i64 a.f.b, Value.int .i64 a.o, Value.int .i64 a.l, Value.int .i64 a.t, Value.int .i64 a.on.c, Value.int .i64 a.on.k, Value.int .i64 a.on.a, Value.int .i64 a.on.t, Value.int .i64 a.ar.c, Value.int .i64 a.ar.k, Value.int .i64 a.ar.a, Value.int .i64 a.ar.t] : Array Value) 35)).alloc (.cells (#[Value.int .i64 AV.none.f.d, Value.int .i64 AV.none.f.l, Value.int .i64 AV.none.f.a, Value.int .i64 AV.none.f.b, Value.int .i64 AV.none.o, Value.int .i64 AV.none.l, Value.int .i64 AV.none.t, Value.int .i64 AV.none.on.c, Value.int .i64 AV.none.on.k, Value.int .i64 AV.none.on.a, Value.int .i64 AV.none.on.t, Value.int .i64 AV.none.ar.c, Value.int .i64 AV.none.ar.k, Value.int .i64 AV.none.ar.a, Value.int .i64 AV.none.ar.t] : Array Value) 35)) := (by repeat (first | (with_reducible exact Below.refl _ _) | (with_reducible assumption) | (with_reducible refine balloc ?_ _) | (with_reducible refine bdrew ?_) | (with_reducible refine bdrewN ?_ _) | (with_reducible refine bset ?_ (by first | omega | (simp; done) | (simp; omega)) _) | (with_reducible refine bstep ?_ (by assumption))))
  show Code.wp _ _ _ _ ((w.alloc (.cells (#[Value.int .i64 a.f.d, Value.int .i64 a.f.l, Value.int .i64 a.f.a, Value.int .i64 a.f.b, Value.int .i64 a.o, Value.int .i64 a.l, Value.int .i64 a.t, Value.int .i64 a.on.c, Value.int .i64 a.on.k, Value.int .i64 a.on.a, Value.int .i64 a.on.t, Value.int .i64 a.ar.c, Value.int .i64 a.ar.k, Value.int .i64 a.ar.a, Value.int .i64 a.ar.t] : Array Value) 35)).alloc (.cells (#[Value.int .i64 AV.none.f.d, Value.int .i64 AV.none.f.l, Value.int .i64 AV.none.f.a, Value.int .i64 AV.none.f.b, Value.int .i64 AV.none.o, Value.int .i64 AV.none.l, Value.int .i64 AV.none.t, Value.int .i64 AV.none.on.c, Value.int .i64 AV.none.on.k, Value.int .i64 AV.none.on.a, Value.int .i64 AV.none.on.t, Value.int .i64 AV.none.ar.c, Value.int .i64 AV.none.ar.k, Value.int .i64 AV.none.ar.a, Value.int .i64 AV.none.ar.t] : Array Value) 35))
  generalize ((w.alloc (.cells (#[Value.int .i64 a.f.d, Value.int .i64 a.f.l, Value.int .i64 a.f.a, Value.int .i64 a.f.b, Value.int .i64 a.o, Value.int .i64 a.l, Value.int .i64 a.t, Value.int .i64 a.on.c, Value.int .i64 a.on.k, Value.int .i64 a.on.a, Value.int .i64 a.on.t, Value.int .i64 a.ar.c, Value.int .i64 a.ar.k, Value.int .i64 a.ar.a, Value.int .i64 a.ar.t] : Array Value) 35)).alloc (.cells (#[Value.int .i64 AV.none.f.d, Value.int .i64 AV.none.f.l, Value.int .i64 AV.none.f.a, Value.int .i64 AV.none.f.b, Value.int .i64 AV.none.o, Value.int .i64 AV.none.l, Value.int .i64 AV.none.t, Value.int .i64 AV.none.on.c, Value.int .i64 AV.none.on.k, Value.int .i64 AV.none.on.a, Value.int .i64 AV.none.on.t, Value.int .i64 AV.none.ar.c, Value.int .i64 AV.none.ar.k, Value.int .i64 AV.none.ar.a, Value.int .i64 AV.none.ar.t] : Array Value) 35)) = W at *
  go_wp2_with (first
    | ((with_reducible refine wp_ldA' ?_ BA ?_); (focus (refine ⟨rfl, ⟨_, rfl, ?_⟩, rfl⟩; simp [go_sem]; done)))
    | (go_at_call 56; refine (spec_l7Fill a _ 3 3 [1, 1, 1] rfl (by decide) H0.out (by have := places_len a; simpa using this) _ (reads_ones W)).mono ?_; rintro e w1 ⟨rfl, hb1⟩; replace BR := (BR.alloc _).below hb1; replace hW := bstep (balloc hW _) hb1; clear hb1 BA)
    | ((with_reducible refine' wp_stA' BR _ _); rotate_left; (focus (refine ⟨rfl, ⟨_, _, rfl, ?_, rfl⟩, rfl, rfl, ?_⟩; (focus (simp [go_sem]; done)); (focus (simp [Value.oneCell']; done)))); intro w3 hg3 hb3))
  refine ret_rowA rfl rfl hb3 rfl rfl ?_
  exact ⟨rfl, bgrown hW hg3 (by omega)⟩
theorem spec_l7Count (a : AV) (h : a.ok = true) (w : World) : Calls Try.prog 53 #[.agg #[.int .i64 a.f.d, .int .i64 a.f.l, .int .i64 a.f.a, .int .i64 a.f.b, .int .i64 a.o, .int .i64 a.l, .int .i64 a.t, .int .i64 a.on.c, .int .i64 a.on.k, .int .i64 a.on.a, .int .i64 a.on.t, .int .i64 a.ar.c, .int .i64 a.ar.k, .int .i64 a.ar.a, .int .i64 a.ar.t]] w fun e w' => e = .returned (.int .i64 (a.places.length : Nat)) ∧ Below w.heap.size w w' := by
  have hp := places_len a
  have HL := Lib.hid (spec_l5Layers a h)
  have hl := layers_places a
  rw [hl] at HL
  clear hl
  go_enter Try.func53, Try.ntmps53
  go_upto_region 1 with (fail)
  have B := Blk.new w 35 #[Value.int .i64 a.f.d, Value.int .i64 a.f.l, Value.int .i64 a.f.a, Value.int .i64 a.f.b, Value.int .i64 a.o, Value.int .i64 a.l, Value.int .i64 a.t, Value.int .i64 a.on.c, Value.int .i64 a.on.k, Value.int .i64 a.on.a, Value.int .i64 a.on.t, Value.int .i64 a.ar.c, Value.int .i64 a.ar.k, Value.int .i64 a.ar.a, Value.int .i64 a.ar.t]
  have hW : Below w.heap.size w (w.alloc (.cells #[Value.int .i64 a.f.d, Value.int .i64 a.f.l, Value.int .i64 a.f.a, Value.int .i64 a.f.b, Value.int .i64 a.o, Value.int .i64 a.l, Value.int .i64 a.t, Value.int .i64 a.on.c, Value.int .i64 a.on.k, Value.int .i64 a.on.a, Value.int .i64 a.on.t, Value.int .i64 a.ar.c, Value.int .i64 a.ar.k, Value.int .i64 a.ar.a, Value.int .i64 a.ar.t] 35)) := (by repeat (first | (with_reducible exact Below.refl _ _) | (with_reducible assumption) | (with_reducible refine balloc ?_ _) | (with_reducible refine bdrew ?_) | (with_reducible refine bdrewN ?_ _) | (with_reducible refine bset ?_ (by first | omega | (simp; done) | (simp; omega)) _) | (with_reducible refine bstep ?_ (by assumption))))
  generalize w.alloc (.cells #[Value.int .i64 a.f.d, Value.int .i64 a.f.l, Value.int .i64 a.f.a, Value.int .i64 a.f.b, Value.int .i64 a.o, Value.int .i64 a.l, Value.int .i64 a.t, Value.int .i64 a.on.c, Value.int .i64 a.on.k, Value.int .i64 a.on.a, Value.int .i64 a.on.t, Value.int .i64 a.ar.c, Value.int .i64 a.ar.k, Value.int .i64 a.ar.a, Value.int .i64 a.ar.t] 35) = W at *
  obtain ⟨c1, z1⟩ := B.facts
  go_wp2_with (first | ((with_reducible refine wp_ldA' ?_ B ?_); (focus (refine ⟨rfl, ⟨_, rfl, ?_⟩, rfl⟩; simp [go_sem]; done))) | (go_at_call 36; refine (HL.out _).mono ?_; rintro e w1 ⟨rfl, hb1⟩; replace hW := bstep hW hb1; clear hb1 c1 z1))
  go_ret
  exact ⟨ret_int (by omega), hW⟩
end Go.Proofs.Ytonkblhajbphmaa
