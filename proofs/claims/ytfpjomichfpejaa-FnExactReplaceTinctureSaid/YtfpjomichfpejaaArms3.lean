/- Arms with other tinctures. Conditions: as each theorem says. -/
import Derived.Test.YtfpjomichfpejaaRows
import Derived.Test.YtfpjomichfpejaaArms2
import Derived.Test.YtfpjomichfpejaaEq2
namespace Go.Proofs.Ytfpjomichfpejaa
set_option linter.unusedSimpArgs false
set_option linter.unusedVariables false
open Go.ChangeShapes Go.WideShapes Go.ChangeAt Go.RowKit

abbrev AV.cells (a : AV) : Array Value := #[Value.int .i64 a.f.d, Value.int .i64 a.f.l, Value.int .i64 a.f.a, Value.int .i64 a.f.b, Value.int .i64 a.o, Value.int .i64 a.l, Value.int .i64 a.t, Value.int .i64 a.on.c, Value.int .i64 a.on.k, Value.int .i64 a.on.a, Value.int .i64 a.on.t, Value.int .i64 a.ar.c, Value.int .i64 a.ar.k, Value.int .i64 a.ar.a, Value.int .i64 a.ar.t]
def tn (φ : Int → Int) (x : Int) : Int := if x = 0 then 0 else φ x
def AV.mapped (φ : Int → Int) (a : AV) : AV := ⟨⟨a.f.d, a.f.l, tn φ a.f.a, tn φ a.f.b⟩, a.o, a.l, tn φ a.t, ⟨a.on.c, a.on.k, a.on.a, tn φ a.on.t⟩, ⟨a.ar.c, a.ar.k, a.ar.a, tn φ a.ar.t⟩⟩
/-- The first k of the five tinctures turned. -/
def AV.mapK (φ : Int → Int) (a : AV) (k : Nat) : AV := ⟨⟨a.f.d, a.f.l, if 0 < k then tn φ a.f.a else a.f.a, if 1 < k then tn φ a.f.b else a.f.b⟩, a.o, a.l, if 2 < k then tn φ a.t else a.t, ⟨a.on.c, a.on.k, a.on.a, if 3 < k then tn φ a.on.t else a.on.t⟩, ⟨a.ar.c, a.ar.k, a.ar.a, if 4 < k then tn φ a.ar.t else a.ar.t⟩⟩
def AV.tinctAt (a : AV) (k : Nat) : Int := [a.f.a, a.f.b, a.t, a.on.t, a.ar.t].getD k 0
def mapOff (k : Nat) : Nat := [2, 3, 6, 10, 14].getD k 0
def ptrsOf (b : Nat) : Array Value := #[.pointer (some ⟨b, 2, none⟩), .pointer (some ⟨b, 3, none⟩), .pointer (some ⟨b, 6, none⟩), .pointer (some ⟨b, 10, none⟩), .pointer (some ⟨b, 14, none⟩)]
theorem below5 {k : Nat} (h : k < 5) : k = 0 ∨ k = 1 ∨ k = 2 ∨ k = 3 ∨ k = 4 := by omega
theorem ptrsOf_at (b k : Nat) (h : k < 5) : (ptrsOf b)[k]? = some (.pointer (some ⟨b, mapOff k, none⟩)) := by
  rcases below5 h with rfl | rfl | rfl | rfl | rfl <;> rfl
theorem mapK_at (φ : Int → Int) (a : AV) (k : Nat) (h : k < 5) : (a.mapK φ k).cells[mapOff k]? = some (.int .i64 (a.tinctAt k)) := by
  rcases below5 h with rfl | rfl | rfl | rfl | rfl <;> rfl
theorem mapK_step (φ : Int → Int) (a : AV) (k : Nat) (h : k < 5) (h0 : ¬ a.tinctAt k = 0) : (a.mapK φ k).cells.setIfInBounds (mapOff k) (.int .i64 (φ (a.tinctAt k))) = (a.mapK φ (k + 1)).cells := by
  have e : φ (a.tinctAt k) = tn φ (a.tinctAt k) := by unfold tn; rw [if_neg h0]
  rw [e]
  rcases below5 h with rfl | rfl | rfl | rfl | rfl <;> rfl
theorem mapK_skip (φ : Int → Int) (a : AV) (k : Nat) (h : k < 5) (h0 : a.tinctAt k = 0) : (a.mapK φ k).cells = (a.mapK φ (k + 1)).cells := by
  have e : a.tinctAt k = tn φ (a.tinctAt k) := by unfold tn; rw [h0]; rfl
  rcases below5 h with rfl | rfl | rfl | rfl | rfl
  · show _ = (AV.mapK φ a 1).cells
    have e' : a.f.a = tn φ a.f.a := e
    simp [AV.mapK, AV.cells, ← e']
  · show _ = (AV.mapK φ a 2).cells
    have e' : a.f.b = tn φ a.f.b := e
    simp [AV.mapK, AV.cells, ← e']
  · show _ = (AV.mapK φ a 3).cells
    have e' : a.t = tn φ a.t := e
    simp [AV.mapK, AV.cells, ← e']
  · show _ = (AV.mapK φ a 4).cells
    have e' : a.on.t = tn φ a.on.t := e
    simp [AV.mapK, AV.cells, ← e']
  · show _ = (AV.mapK φ a 5).cells
    have e' : a.ar.t = tn φ a.ar.t := e
    simp [AV.mapK, AV.cells, ← e']
theorem impl_SameShape1 (x : Int) (w : World) : Calls Try.prog 55 #[.int .i64 x] w fun e w' => e = .returned (.int .i64 1) ∧ w = w' := by
  go_enter Try.func55, Try.ntmps55
  go_wp2
  go_ret
  exact ⟨rfl, rfl⟩
def oneOf (_ : Int) : Int := 1
set_option maxHeartbeats 1000000 in
theorem impl_mapped_one (a : AV) (w : World) : Calls Try.prog 56 #[.agg #[.int .i64 a.f.d, .int .i64 a.f.l, .int .i64 a.f.a, .int .i64 a.f.b, .int .i64 a.o, .int .i64 a.l, .int .i64 a.t, .int .i64 a.on.c, .int .i64 a.on.k, .int .i64 a.on.a, .int .i64 a.on.t, .int .i64 a.ar.c, .int .i64 a.ar.k, .int .i64 a.ar.a, .int .i64 a.ar.t], .func (.func 55) #[] #[]] w fun e w' => e = .returned (.agg #[.int .i64 (a.mapped oneOf).f.d, .int .i64 (a.mapped oneOf).f.l, .int .i64 (a.mapped oneOf).f.a, .int .i64 (a.mapped oneOf).f.b, .int .i64 (a.mapped oneOf).o, .int .i64 (a.mapped oneOf).l, .int .i64 (a.mapped oneOf).t, .int .i64 (a.mapped oneOf).on.c, .int .i64 (a.mapped oneOf).on.k, .int .i64 (a.mapped oneOf).on.a, .int .i64 (a.mapped oneOf).on.t, .int .i64 (a.mapped oneOf).ar.c, .int .i64 (a.mapped oneOf).ar.k, .int .i64 (a.mapped oneOf).ar.a, .int .i64 (a.mapped oneOf).ar.t]) ∧ Below w.heap.size w w' := by
  go_enter Try.func56, Try.ntmps56
  go_upto_region 1 with (fail)
  obtain ⟨BA, BR⟩ := blk_two w 32 32 (#[Value.int .i64 a.f.d, Value.int .i64 a.f.l, Value.int .i64 a.f.a, Value.int .i64 a.f.b, Value.int .i64 a.o, Value.int .i64 a.l, Value.int .i64 a.t, Value.int .i64 a.on.c, Value.int .i64 a.on.k, Value.int .i64 a.on.a, Value.int .i64 a.on.t, Value.int .i64 a.ar.c, Value.int .i64 a.ar.k, Value.int .i64 a.ar.a, Value.int .i64 a.ar.t] : Array Value) (#[Value.int .i64 AV.none.f.d, Value.int .i64 AV.none.f.l, Value.int .i64 AV.none.f.a, Value.int .i64 AV.none.f.b, Value.int .i64 AV.none.o, Value.int .i64 AV.none.l, Value.int .i64 AV.none.t, Value.int .i64 AV.none.on.c, Value.int .i64 AV.none.on.k, Value.int .i64 AV.none.on.a, Value.int .i64 AV.none.on.t, Value.int .i64 AV.none.ar.c, Value.int .i64 AV.none.ar.k, Value.int .i64 AV.none.ar.a, Value.int .i64 AV.none.ar.t] : Array Value)
  have hW : Below w.heap.size w ((w.alloc (.cells (#[Value.int .i64 a.f.d, Value.int .i64 a.f.l, Value.int .i64 a.f.a, Value.int .i64 a.f.b, Value.int .i64 a.o, Value.int .i64 a.l, Value.int .i64 a.t, Value.int .i64 a.on.c, Value.int .i64 a.on.k, Value.int .i64 a.on.a, Value.int .i64 a.on.t, Value.int .i64 a.ar.c, Value.int .i64 a.ar.k, Value.int .i64 a.ar.a, Value.int .i64 a.ar.t] : Array Value) 32)).alloc (.cells (#[Value.int .i64 AV.none.f.d, Value.int .i64 AV.none.f.l, Value.int .i64 AV.none.f.a, Value.int .i64 AV.none.f.b, Value.int .i64 AV.none.o, Value.int .i64 AV.none.l, Value.int .i64 AV.none.t, Value.int .i64 AV.none.on.c, Value.int .i64 AV.none.on.k, Value.int .i64 AV.none.on.a, Value.int .i64 AV.none.on.t, Value.int .i64 AV.none.ar.c, Value.int .i64 AV.none.ar.k, Value.int .i64 AV.none.ar.a, Value.int .i64 AV.none.ar.t] : Array Value) 32)) := (by repeat (first | (with_reducible exact Below.refl _ _) | (with_reducible assumption) | (with_reducible refine balloc ?_ _) | (with_reducible refine bdrew ?_) | (with_reducible refine bdrewN ?_ _) | (with_reducible refine bset ?_ (by first | omega | (simp; done) | (simp; omega)) _) | (with_reducible refine bstep ?_ (by assumption))))
  show Code.wp _ _ _ _ ((w.alloc (.cells (#[Value.int .i64 a.f.d, Value.int .i64 a.f.l, Value.int .i64 a.f.a, Value.int .i64 a.f.b, Value.int .i64 a.o, Value.int .i64 a.l, Value.int .i64 a.t, Value.int .i64 a.on.c, Value.int .i64 a.on.k, Value.int .i64 a.on.a, Value.int .i64 a.on.t, Value.int .i64 a.ar.c, Value.int .i64 a.ar.k, Value.int .i64 a.ar.a, Value.int .i64 a.ar.t] : Array Value) 32)).alloc (.cells (#[Value.int .i64 AV.none.f.d, Value.int .i64 AV.none.f.l, Value.int .i64 AV.none.f.a, Value.int .i64 AV.none.f.b, Value.int .i64 AV.none.o, Value.int .i64 AV.none.l, Value.int .i64 AV.none.t, Value.int .i64 AV.none.on.c, Value.int .i64 AV.none.on.k, Value.int .i64 AV.none.on.a, Value.int .i64 AV.none.on.t, Value.int .i64 AV.none.ar.c, Value.int .i64 AV.none.ar.k, Value.int .i64 AV.none.ar.a, Value.int .i64 AV.none.ar.t] : Array Value) 32))
  generalize ((w.alloc (.cells (#[Value.int .i64 a.f.d, Value.int .i64 a.f.l, Value.int .i64 a.f.a, Value.int .i64 a.f.b, Value.int .i64 a.o, Value.int .i64 a.l, Value.int .i64 a.t, Value.int .i64 a.on.c, Value.int .i64 a.on.k, Value.int .i64 a.on.a, Value.int .i64 a.on.t, Value.int .i64 a.ar.c, Value.int .i64 a.ar.k, Value.int .i64 a.ar.a, Value.int .i64 a.ar.t] : Array Value) 32)).alloc (.cells (#[Value.int .i64 AV.none.f.d, Value.int .i64 AV.none.f.l, Value.int .i64 AV.none.f.a, Value.int .i64 AV.none.f.b, Value.int .i64 AV.none.o, Value.int .i64 AV.none.l, Value.int .i64 AV.none.t, Value.int .i64 AV.none.on.c, Value.int .i64 AV.none.on.k, Value.int .i64 AV.none.on.a, Value.int .i64 AV.none.on.t, Value.int .i64 AV.none.ar.c, Value.int .i64 AV.none.ar.k, Value.int .i64 AV.none.ar.a, Value.int .i64 AV.none.ar.t] : Array Value) 32)) = W at *
  have z1 := BR.lt
  go_wp2
  have BP := Blk.new W 89 (ptrsOf w.heap.size)
  have hW1 := balloc hW (.cells (ptrsOf w.heap.size) 89)
  replace BA := BA.alloc (.cells (ptrsOf w.heap.size) 89)
  replace BR := BR.alloc (.cells (ptrsOf w.heap.size) 89)
  have zP := BP.lt
  have hP : w.heap.size + 1 < W.heap.size := z1
  have H0 : Hid (Blk (W.alloc (.cells (ptrsOf w.heap.size) 89)) w.heap.size 32 (a.mapK oneOf 0).cells ∧ Blk (W.alloc (.cells (ptrsOf w.heap.size) 89)) (w.heap.size + 1) 32 AV.none.cells ∧ Blk (W.alloc (.cells (ptrsOf w.heap.size) 89)) W.heap.size 89 (ptrsOf w.heap.size) ∧ Below w.heap.size w (W.alloc (.cells (ptrsOf w.heap.size) 89))) := ⟨BA, BR, BP, hW1⟩
  clear BA BR BP hW1 hW zP z1
  generalize W.heap.size = p at *
  go_loopw [18] (fun i wr => ∃ k : Nat, k ≤ 5 ∧ i = .int .i64 k ∧ Hid (Blk wr w.heap.size 32 (a.mapK oneOf k).cells ∧ Blk wr (w.heap.size + 1) 32 AV.none.cells ∧ Blk wr p 89 (ptrsOf w.heap.size) ∧ Below w.heap.size w wr)) (fun i _ => 5 - (intOf i).toNat)
  case atStart => exact ⟨0, Nat.zero_le _, rfl, H0⟩
  case round =>
    obtain ⟨k, hk, rfl, hi⟩ := hrel
    clear H0
    by_cases hlt : k < 5
    · have hcp := (hi.out.2.2.1.cell k).trans (ptrsOf_at w.heap.size k hlt)
      have hca := (hi.out.1.cell (mapOff k)).trans (mapK_at oneOf a k hlt)
      have hfa := hi.out.1.free (mapOff k)
      by_cases h0 : a.tinctAt k = 0
      · rw [h0] at hca
        have HS := Lib.hid (mapK_skip oneOf a k hlt h0)
        clear h0
        generalize mapOff k = q at *
        go_wp2
        go_roundw
        case rel => exact ⟨k + 1, by omega, by go_num, by show _ ∧ _; rw [← HS.out]; exact hi.out⟩
        case measure => simp [intOf]; omega
      · have HS := Lib.hid (mapK_step oneOf a k hlt h0)
        have hne : (a.tinctAt k != 0) = true := by simpa using h0
        have HI := Lib.hid (And.intro (hi.out.1.set_ (mapOff k) (.int .i64 (oneOf (a.tinctAt k)))) (And.intro (hi.out.2.1.far (p := ⟨w.heap.size, mapOff k, none⟩) (by show w.heap.size + 1 ≠ w.heap.size; omega) (.int .i64 (oneOf (a.tinctAt k)))) (And.intro (hi.out.2.2.1.far (p := ⟨w.heap.size, mapOff k, none⟩) (by show p ≠ w.heap.size; omega) (.int .i64 (oneOf (a.tinctAt k)))) (bset hi.out.2.2.2 (p := ⟨w.heap.size, mapOff k, none⟩) (by simp) (.int .i64 (oneOf (a.tinctAt k)))))))
        clear h0 hi
        generalize mapOff k = q at *
        generalize a.tinctAt k = v at *
        go_wp2_with (go_at_call 55; refine (impl_SameShape1 _ _).mono ?_; rintro e w' ⟨rfl, rfl⟩)
        go_roundw
        case rel => exact ⟨k + 1, by omega, by go_num, by show _ ∧ _; rw [← HS.out]; exact HI.out⟩
        case measure => simp [intOf]; omega
    · obtain rfl : k = 5 := by omega
      have BA : Blk wr w.heap.size 32 #[Value.int .i64 (a.mapped oneOf).f.d, Value.int .i64 (a.mapped oneOf).f.l, Value.int .i64 (a.mapped oneOf).f.a, Value.int .i64 (a.mapped oneOf).f.b, Value.int .i64 (a.mapped oneOf).o, Value.int .i64 (a.mapped oneOf).l, Value.int .i64 (a.mapped oneOf).t, Value.int .i64 (a.mapped oneOf).on.c, Value.int .i64 (a.mapped oneOf).on.k, Value.int .i64 (a.mapped oneOf).on.a, Value.int .i64 (a.mapped oneOf).on.t, Value.int .i64 (a.mapped oneOf).ar.c, Value.int .i64 (a.mapped oneOf).ar.k, Value.int .i64 (a.mapped oneOf).ar.a, Value.int .i64 (a.mapped oneOf).ar.t] := hi.out.1
      have BR : Blk wr (w.heap.size + 1) 32 #[Value.int .i64 AV.none.f.d, Value.int .i64 AV.none.f.l, Value.int .i64 AV.none.f.a, Value.int .i64 AV.none.f.b, Value.int .i64 AV.none.o, Value.int .i64 AV.none.l, Value.int .i64 AV.none.t, Value.int .i64 AV.none.on.c, Value.int .i64 AV.none.on.k, Value.int .i64 AV.none.on.a, Value.int .i64 AV.none.on.t, Value.int .i64 AV.none.ar.c, Value.int .i64 AV.none.ar.k, Value.int .i64 AV.none.ar.a, Value.int .i64 AV.none.ar.t] := hi.out.2.1
      have HB := Lib.hid hi.out.2.2.2
      clear hi
      go_wp2_with (first | ((with_reducible refine wp_ldA' ?_ BA ?_); (focus (refine ⟨rfl, ⟨_, rfl, ?_⟩, rfl⟩; simp [go_sem]; done))) | ((with_reducible refine' wp_stA' BR _ _); rotate_left; (focus (refine ⟨rfl, ⟨_, _, rfl, ?_, rfl⟩, rfl, rfl, ?_⟩; (focus (simp [go_sem]; done)); (focus (simp [Value.oneCell']; done)))); intro w3 hg3 hb3))
      refine ret_rowA rfl rfl hb3 rfl rfl ?_
      exact ⟨rfl, bgrown HB.out hg3 (by omega)⟩
def turn (old x y : Int) : Int := if y = old then x else y
theorem impl_ReplaceTincture1 (y old x : Int) (O X : Nat) (w : World) (h1 : w.cell? ⟨O, 0, none⟩ = some (.int .i64 old)) (h2 : w.cell? ⟨X, 0, none⟩ = some (.int .i64 x)) :
    Calls Try.prog 70 #[.int .i64 y, .pointer (some ⟨O, 0, none⟩), .pointer (some ⟨X, 0, none⟩)] w fun e w' => e = .returned (.int .i64 (turn old x y)) ∧ w = w' := by
  unfold turn
  by_cases h : y = old
  all_goals
    go_enter Try.func70, Try.ntmps70
    go_wp2
    go_ret
    exact ⟨by simp [h], rfl⟩
set_option maxHeartbeats 1000000 in
theorem impl_mapped_turn (a : AV) (old x : Int) (O X : Nat) (w : World) (hO : Blk w O 3 #[.int .i64 old]) (hX : Blk w X 3 #[.int .i64 x]) : Calls Try.prog 56 #[.agg #[.int .i64 a.f.d, .int .i64 a.f.l, .int .i64 a.f.a, .int .i64 a.f.b, .int .i64 a.o, .int .i64 a.l, .int .i64 a.t, .int .i64 a.on.c, .int .i64 a.on.k, .int .i64 a.on.a, .int .i64 a.on.t, .int .i64 a.ar.c, .int .i64 a.ar.k, .int .i64 a.ar.a, .int .i64 a.ar.t], (.func (.func 70) #[] #[.pointer (some ⟨O, 0, none⟩), .pointer (some ⟨X, 0, none⟩)])] w fun e w' => e = .returned (.agg #[.int .i64 (a.mapped (turn old x)).f.d, .int .i64 (a.mapped (turn old x)).f.l, .int .i64 (a.mapped (turn old x)).f.a, .int .i64 (a.mapped (turn old x)).f.b, .int .i64 (a.mapped (turn old x)).o, .int .i64 (a.mapped (turn old x)).l, .int .i64 (a.mapped (turn old x)).t, .int .i64 (a.mapped (turn old x)).on.c, .int .i64 (a.mapped (turn old x)).on.k, .int .i64 (a.mapped (turn old x)).on.a, .int .i64 (a.mapped (turn old x)).on.t, .int .i64 (a.mapped (turn old x)).ar.c, .int .i64 (a.mapped (turn old x)).ar.k, .int .i64 (a.mapped (turn old x)).ar.a, .int .i64 (a.mapped (turn old x)).ar.t]) ∧ Below w.heap.size w w' := by
  have HO := Lib.hid hO
  have HX := Lib.hid hX
  clear hO hX
  go_enter Try.func56, Try.ntmps56
  go_upto_region 1 with (fail)
  obtain ⟨BA, BR⟩ := blk_two w 32 32 (#[Value.int .i64 a.f.d, Value.int .i64 a.f.l, Value.int .i64 a.f.a, Value.int .i64 a.f.b, Value.int .i64 a.o, Value.int .i64 a.l, Value.int .i64 a.t, Value.int .i64 a.on.c, Value.int .i64 a.on.k, Value.int .i64 a.on.a, Value.int .i64 a.on.t, Value.int .i64 a.ar.c, Value.int .i64 a.ar.k, Value.int .i64 a.ar.a, Value.int .i64 a.ar.t] : Array Value) (#[Value.int .i64 AV.none.f.d, Value.int .i64 AV.none.f.l, Value.int .i64 AV.none.f.a, Value.int .i64 AV.none.f.b, Value.int .i64 AV.none.o, Value.int .i64 AV.none.l, Value.int .i64 AV.none.t, Value.int .i64 AV.none.on.c, Value.int .i64 AV.none.on.k, Value.int .i64 AV.none.on.a, Value.int .i64 AV.none.on.t, Value.int .i64 AV.none.ar.c, Value.int .i64 AV.none.ar.k, Value.int .i64 AV.none.ar.a, Value.int .i64 AV.none.ar.t] : Array Value)
  have hW : Below w.heap.size w ((w.alloc (.cells (#[Value.int .i64 a.f.d, Value.int .i64 a.f.l, Value.int .i64 a.f.a, Value.int .i64 a.f.b, Value.int .i64 a.o, Value.int .i64 a.l, Value.int .i64 a.t, Value.int .i64 a.on.c, Value.int .i64 a.on.k, Value.int .i64 a.on.a, Value.int .i64 a.on.t, Value.int .i64 a.ar.c, Value.int .i64 a.ar.k, Value.int .i64 a.ar.a, Value.int .i64 a.ar.t] : Array Value) 32)).alloc (.cells (#[Value.int .i64 AV.none.f.d, Value.int .i64 AV.none.f.l, Value.int .i64 AV.none.f.a, Value.int .i64 AV.none.f.b, Value.int .i64 AV.none.o, Value.int .i64 AV.none.l, Value.int .i64 AV.none.t, Value.int .i64 AV.none.on.c, Value.int .i64 AV.none.on.k, Value.int .i64 AV.none.on.a, Value.int .i64 AV.none.on.t, Value.int .i64 AV.none.ar.c, Value.int .i64 AV.none.ar.k, Value.int .i64 AV.none.ar.a, Value.int .i64 AV.none.ar.t] : Array Value) 32)) := (by repeat (first | (with_reducible exact Below.refl _ _) | (with_reducible assumption) | (with_reducible refine balloc ?_ _) | (with_reducible refine bdrew ?_) | (with_reducible refine bdrewN ?_ _) | (with_reducible refine bset ?_ (by first | omega | (simp; done) | (simp; omega)) _) | (with_reducible refine bstep ?_ (by assumption))))
  show Code.wp _ _ _ _ ((w.alloc (.cells (#[Value.int .i64 a.f.d, Value.int .i64 a.f.l, Value.int .i64 a.f.a, Value.int .i64 a.f.b, Value.int .i64 a.o, Value.int .i64 a.l, Value.int .i64 a.t, Value.int .i64 a.on.c, Value.int .i64 a.on.k, Value.int .i64 a.on.a, Value.int .i64 a.on.t, Value.int .i64 a.ar.c, Value.int .i64 a.ar.k, Value.int .i64 a.ar.a, Value.int .i64 a.ar.t] : Array Value) 32)).alloc (.cells (#[Value.int .i64 AV.none.f.d, Value.int .i64 AV.none.f.l, Value.int .i64 AV.none.f.a, Value.int .i64 AV.none.f.b, Value.int .i64 AV.none.o, Value.int .i64 AV.none.l, Value.int .i64 AV.none.t, Value.int .i64 AV.none.on.c, Value.int .i64 AV.none.on.k, Value.int .i64 AV.none.on.a, Value.int .i64 AV.none.on.t, Value.int .i64 AV.none.ar.c, Value.int .i64 AV.none.ar.k, Value.int .i64 AV.none.ar.a, Value.int .i64 AV.none.ar.t] : Array Value) 32))
  generalize ((w.alloc (.cells (#[Value.int .i64 a.f.d, Value.int .i64 a.f.l, Value.int .i64 a.f.a, Value.int .i64 a.f.b, Value.int .i64 a.o, Value.int .i64 a.l, Value.int .i64 a.t, Value.int .i64 a.on.c, Value.int .i64 a.on.k, Value.int .i64 a.on.a, Value.int .i64 a.on.t, Value.int .i64 a.ar.c, Value.int .i64 a.ar.k, Value.int .i64 a.ar.a, Value.int .i64 a.ar.t] : Array Value) 32)).alloc (.cells (#[Value.int .i64 AV.none.f.d, Value.int .i64 AV.none.f.l, Value.int .i64 AV.none.f.a, Value.int .i64 AV.none.f.b, Value.int .i64 AV.none.o, Value.int .i64 AV.none.l, Value.int .i64 AV.none.t, Value.int .i64 AV.none.on.c, Value.int .i64 AV.none.on.k, Value.int .i64 AV.none.on.a, Value.int .i64 AV.none.on.t, Value.int .i64 AV.none.ar.c, Value.int .i64 AV.none.ar.k, Value.int .i64 AV.none.ar.a, Value.int .i64 AV.none.ar.t] : Array Value) 32)) = W at *
  have z1 := BR.lt
  go_wp2
  have BP := Blk.new W 89 (ptrsOf w.heap.size)
  have hW1 := balloc hW (.cells (ptrsOf w.heap.size) 89)
  replace BA := BA.alloc (.cells (ptrsOf w.heap.size) 89)
  replace BR := BR.alloc (.cells (ptrsOf w.heap.size) 89)
  have zP := BP.lt
  have hP : w.heap.size + 1 < W.heap.size := z1
  have H0 : Hid (Blk (W.alloc (.cells (ptrsOf w.heap.size) 89)) w.heap.size 32 (a.mapK (turn old x) 0).cells ∧ Blk (W.alloc (.cells (ptrsOf w.heap.size) 89)) (w.heap.size + 1) 32 AV.none.cells ∧ Blk (W.alloc (.cells (ptrsOf w.heap.size) 89)) W.heap.size 89 (ptrsOf w.heap.size) ∧ Below w.heap.size w (W.alloc (.cells (ptrsOf w.heap.size) 89))) := ⟨BA, BR, BP, hW1⟩
  clear BA BR BP hW1 hW zP z1
  generalize W.heap.size = p at *
  go_loopw [18] (fun i wr => ∃ k : Nat, k ≤ 5 ∧ i = .int .i64 k ∧ Hid (Blk wr w.heap.size 32 (a.mapK (turn old x) k).cells ∧ Blk wr (w.heap.size + 1) 32 AV.none.cells ∧ Blk wr p 89 (ptrsOf w.heap.size) ∧ Below w.heap.size w wr)) (fun i _ => 5 - (intOf i).toNat)
  case atStart => exact ⟨0, Nat.zero_le _, rfl, H0⟩
  case round =>
    obtain ⟨k, hk, rfl, hi⟩ := hrel
    clear H0
    by_cases hlt : k < 5
    · have hcp := (hi.out.2.2.1.cell k).trans (ptrsOf_at w.heap.size k hlt)
      have hca := (hi.out.1.cell (mapOff k)).trans (mapK_at (turn old x) a k hlt)
      have hfa := hi.out.1.free (mapOff k)
      have HO1 : Hid (wr.cell? ⟨O, 0, none⟩ = some (.int .i64 old)) := (hi.out.2.2.2.cell (p := ⟨O, 0, none⟩) HO.out.lt).trans (HO.out.cell 0)
      have HX1 : Hid (wr.cell? ⟨X, 0, none⟩ = some (.int .i64 x)) := (hi.out.2.2.2.cell (p := ⟨X, 0, none⟩) HX.out.lt).trans (HX.out.cell 0)
      by_cases h0 : a.tinctAt k = 0
      · rw [h0] at hca
        have HS := Lib.hid (mapK_skip (turn old x) a k hlt h0)
        clear h0
        generalize mapOff k = q at *
        go_wp2
        go_roundw
        case rel => exact ⟨k + 1, by omega, by go_num, by show _ ∧ _; rw [← HS.out]; exact hi.out⟩
        case measure => simp [intOf]; omega
      · have HS := Lib.hid (mapK_step (turn old x) a k hlt h0)
        have hne : (a.tinctAt k != 0) = true := by simpa using h0
        have HI := Lib.hid (And.intro (hi.out.1.set_ (mapOff k) (.int .i64 ((turn old x) (a.tinctAt k)))) (And.intro (hi.out.2.1.far (p := ⟨w.heap.size, mapOff k, none⟩) (by show w.heap.size + 1 ≠ w.heap.size; omega) (.int .i64 ((turn old x) (a.tinctAt k)))) (And.intro (hi.out.2.2.1.far (p := ⟨w.heap.size, mapOff k, none⟩) (by show p ≠ w.heap.size; omega) (.int .i64 ((turn old x) (a.tinctAt k)))) (bset hi.out.2.2.2 (p := ⟨w.heap.size, mapOff k, none⟩) (by simp) (.int .i64 ((turn old x) (a.tinctAt k)))))))
        clear h0 hi
        generalize mapOff k = q at *
        generalize a.tinctAt k = v at *
        go_wp2_with (go_at_call 70; refine (impl_ReplaceTincture1 _ old x O X _ HO1.out HX1.out).mono ?_; rintro e w' ⟨rfl, rfl⟩)
        go_roundw
        case rel => exact ⟨k + 1, by omega, by go_num, by show _ ∧ _; rw [← HS.out]; exact HI.out⟩
        case measure => simp [intOf]; omega
    · obtain rfl : k = 5 := by omega
      have BA : Blk wr w.heap.size 32 #[Value.int .i64 (a.mapped (turn old x)).f.d, Value.int .i64 (a.mapped (turn old x)).f.l, Value.int .i64 (a.mapped (turn old x)).f.a, Value.int .i64 (a.mapped (turn old x)).f.b, Value.int .i64 (a.mapped (turn old x)).o, Value.int .i64 (a.mapped (turn old x)).l, Value.int .i64 (a.mapped (turn old x)).t, Value.int .i64 (a.mapped (turn old x)).on.c, Value.int .i64 (a.mapped (turn old x)).on.k, Value.int .i64 (a.mapped (turn old x)).on.a, Value.int .i64 (a.mapped (turn old x)).on.t, Value.int .i64 (a.mapped (turn old x)).ar.c, Value.int .i64 (a.mapped (turn old x)).ar.k, Value.int .i64 (a.mapped (turn old x)).ar.a, Value.int .i64 (a.mapped (turn old x)).ar.t] := hi.out.1
      have BR : Blk wr (w.heap.size + 1) 32 #[Value.int .i64 AV.none.f.d, Value.int .i64 AV.none.f.l, Value.int .i64 AV.none.f.a, Value.int .i64 AV.none.f.b, Value.int .i64 AV.none.o, Value.int .i64 AV.none.l, Value.int .i64 AV.none.t, Value.int .i64 AV.none.on.c, Value.int .i64 AV.none.on.k, Value.int .i64 AV.none.on.a, Value.int .i64 AV.none.on.t, Value.int .i64 AV.none.ar.c, Value.int .i64 AV.none.ar.k, Value.int .i64 AV.none.ar.a, Value.int .i64 AV.none.ar.t] := hi.out.2.1
      have HB := Lib.hid hi.out.2.2.2
      clear hi
      go_wp2_with (first | ((with_reducible refine wp_ldA' ?_ BA ?_); (focus (refine ⟨rfl, ⟨_, rfl, ?_⟩, rfl⟩; simp [go_sem]; done))) | ((with_reducible refine' wp_stA' BR _ _); rotate_left; (focus (refine ⟨rfl, ⟨_, _, rfl, ?_, rfl⟩, rfl, rfl, ?_⟩; (focus (simp [go_sem]; done)); (focus (simp [Value.oneCell']; done)))); intro w3 hg3 hb3))
      refine ret_rowA rfl rfl hb3 rfl rfl ?_
      exact ⟨rfl, bgrown HB.out hg3 (by omega)⟩
end Go.Proofs.Ytfpjomichfpejaa
