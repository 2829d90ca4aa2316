/- Shapes of arms, and replaced tinctures. Conditions: as each theorem says. -/
import Derived.Test.YtfpjomichfpejaaRows
import Derived.Test.YtfpjomichfpejaaArms3
namespace Go.Proofs.Ytfpjomichfpejaa
set_option linter.unusedSimpArgs false
set_option linter.unusedVariables false
open Go.ChangeShapes Go.WideShapes Go.ChangeAt Go.RowKit

def AV.shape (a : AV) : AV := ⟨⟨a.f.d, a.f.l, 0, 0⟩, a.o, a.l, 0, ⟨a.on.c, a.on.k, a.on.a, 0⟩, ⟨a.ar.c, a.ar.k, a.ar.a, 0⟩⟩
theorem eqb_true {a b : AV} : a.eqb b = true ↔ (a.f.d = b.f.d ∧ a.f.l = b.f.l ∧ a.f.a = b.f.a ∧ a.f.b = b.f.b) ∧ a.o = b.o ∧ a.l = b.l ∧ a.t = b.t ∧ (a.on.c = b.on.c ∧ a.on.k = b.on.k ∧ a.on.a = b.on.a ∧ a.on.t = b.on.t) ∧ (a.ar.c = b.ar.c ∧ a.ar.k = b.ar.k ∧ a.ar.a = b.ar.a ∧ a.ar.t = b.ar.t) := by
  simp [AV.eqb, gEq]
theorem eqb_eq {a b : AV} (h : a.eqb b = true) : a = b := by
  rw [eqb_true] at h
  obtain ⟨⟨a0, a1, a2, a3⟩, a4, a5, a6, ⟨a7, a8, a9, a10⟩, ⟨a11, a12, a13, a14⟩⟩ := a
  obtain ⟨⟨b0, b1, b2, b3⟩, b4, b5, b6, ⟨b7, b8, b9, b10⟩, ⟨b11, b12, b13, b14⟩⟩ := b
  simp only at h
  obtain ⟨⟨rfl, rfl, rfl, rfl⟩, rfl, rfl, rfl, ⟨rfl, rfl, rfl, rfl⟩, ⟨rfl, rfl, rfl, rfl⟩⟩ := h
  rfl
theorem eqb_self (a : AV) : a.eqb a = true := by rw [eqb_true]; simp
theorem gFine_t {c k a t : Int} (h : gFine c k a t = true) : t = 0 ↔ c = 0 := by
  unfold gFine at h
  rw [Bool.or_eq_true] at h
  rcases h with h | h
  · have := gZero_true.1 h
    omega
  · have h1 := groupOk_count h
    have h2 := inB_true.1 (groupOk_tinct h)
    omega
theorem ok_t {a : AV} (h : a.ok = true) : ¬ a.f.a = 0 ∧ (a.f.b = 0 ↔ a.f.d = 0) ∧ (a.t = 0 ↔ a.o = 0) ∧ (a.on.t = 0 ↔ a.on.c = 0) ∧ (a.ar.t = 0 ↔ a.ar.c = 0) := by
  unfold AV.ok at h
  simp only [Bool.and_eq_true] at h
  obtain ⟨h1, h2, h3⟩ := h
  unfold FV.ok fieldOk at h1
  simp only [Bool.and_eq_true] at h1
  obtain ⟨_, _, h4, h5⟩ := h1
  rw [inB_true] at h4
  refine ⟨by omega, ?_, ?_, ?_, gFine_t h2⟩
  · by_cases hd : a.f.d = 0
    · rw [hd] at h5
      simp at h5
      omega
    · have hd' : (a.f.d == 0) = false := by simpa using hd
      rw [hd'] at h5
      simp [inB_true] at h5
      omega
  · by_cases ho : a.o = 0
    · rw [ho] at h3
      simp at h3
      omega
    · have ho' : (a.o == 0) = false := by simpa using ho
      rw [ho'] at h3
      simp [ordOk, inB_true] at h3
      omega
  · by_cases ho : a.o = 0
    · rw [ho] at h3
      simp only [beq_self_eq_true, if_true, Bool.and_eq_true] at h3
      have := gZero_true.1 h3.2.2
      omega
    · have ho' : (a.o == 0) = false := by simpa using ho
      rw [ho'] at h3
      simp only [Bool.false_eq_true, if_false, Bool.and_eq_true] at h3
      exact gFine_t h3.2
theorem tn_one_iff {x y x' y' : Int} (h : x = 0 ↔ y = 0) (h' : x' = 0 ↔ y' = 0) (e : y = y') : tn oneOf x = tn oneOf x' := by
  unfold tn oneOf
  by_cases hx : x = 0
  · rw [if_pos hx, if_pos (by omega)]
  · rw [if_neg hx, if_neg (by omega)]
theorem shape_eq {a b : AV} (ha : a.ok = true) (hb : b.ok = true) : (a.mapped oneOf).eqb (b.mapped oneOf) = a.shape.eqb b.shape := by
  obtain ⟨a1, a2, a3, a4, a5⟩ := ok_t ha
  obtain ⟨b1, b2, b3, b4, b5⟩ := ok_t hb
  rw [Bool.eq_iff_iff, eqb_true, eqb_true]
  constructor
  · rintro ⟨⟨h1, h2, _, _⟩, h3, h4, _, ⟨h5, h6, h7, _⟩, ⟨h8, h9, h10, _⟩⟩
    exact ⟨⟨h1, h2, rfl, rfl⟩, h3, h4, rfl, ⟨h5, h6, h7, rfl⟩, ⟨h8, h9, h10, rfl⟩⟩
  · rintro ⟨⟨h1, h2, _, _⟩, h3, h4, _, ⟨h5, h6, h7, _⟩, ⟨h8, h9, h10, _⟩⟩
    refine ⟨⟨h1, h2, ?_, tn_one_iff a2 b2 h1⟩, h3, h4, tn_one_iff a3 b3 h3, ⟨h5, h6, h7, tn_one_iff a4 b4 h5⟩, ⟨h8, h9, h10, tn_one_iff a5 b5 h8⟩⟩
    show tn oneOf a.f.a = tn oneOf b.f.a
    unfold tn
    rw [if_neg a1, if_neg b1]
    rfl
def shapeV (a b : AV) : Bool := a.ok && (b.ok && a.shape.eqb b.shape)
def AV.repl (a : AV) (old x : Int) : AV := ⟨⟨a.f.d, a.f.l, turn old x a.f.a, turn old x a.f.b⟩, a.o, a.l, turn old x a.t, ⟨a.on.c, a.on.k, a.on.a, turn old x a.on.t⟩, ⟨a.ar.c, a.ar.k, a.ar.a, turn old x a.ar.t⟩⟩
theorem tn_turn {old x : Int} (h : 1 ≤ old) (y : Int) : tn (turn old x) y = turn old x y := by
  unfold tn turn
  split
  · rw [if_neg (by omega)]; omega
  · rfl
theorem mapped_turn {old x : Int} (h : inB 1 old 9 = true) (a : AV) : a.mapped (turn old x) = a.repl old x := by
  have h1 := (inB_true.1 h).1
  simp only [AV.mapped, AV.repl, tn_turn h1]
def AV.replV (a : AV) (old x : Int) : AV := if inB 1 old 9 && inB 1 x 9 then a.chk (a.repl old x) else AV.none
def AV.replB (a : AV) (old x : Int) : Bool := inB 1 old 9 && (inB 1 x 9 && (a.ok && (a.repl old x).ok))
set_option maxHeartbeats 1000000 in
theorem spec_l5Shape (a : AV) (w : World) : Calls Try.prog 54 #[.agg #[.int .i64 a.f.d, .int .i64 a.f.l, .int .i64 a.f.a, .int .i64 a.f.b, .int .i64 a.o, .int .i64 a.l, .int .i64 a.t, .int .i64 a.on.c, .int .i64 a.on.k, .int .i64 a.on.a, .int .i64 a.on.t, .int .i64 a.ar.c, .int .i64 a.ar.k, .int .i64 a.ar.a, .int .i64 a.ar.t]] w fun e w' => e = .returned (.agg #[.int .i64 a.shape.f.d, .int .i64 a.shape.f.l, .int .i64 a.shape.f.a, .int .i64 a.shape.f.b, .int .i64 a.shape.o, .int .i64 a.shape.l, .int .i64 a.shape.t, .int .i64 a.shape.on.c, .int .i64 a.shape.on.k, .int .i64 a.shape.on.a, .int .i64 a.shape.on.t, .int .i64 a.shape.ar.c, .int .i64 a.shape.ar.k, .int .i64 a.shape.ar.a, .int .i64 a.shape.ar.t]) ∧ Below w.heap.size w w' := by
  go_enter Try.func54, Try.ntmps54
  go_upto_region 1 with (fail)
  obtain ⟨BA, BR⟩ := blk_two w 32 32 (#[Value.int .i64 a.f.d, Value.int .i64 a.f.l, Value.int .i64 a.f.a, Value.int .i64 a.f.b, Value.int .i64 a.o, Value.int .i64 a.l, Value.int .i64 a.t, Value.int .i64 a.on.c, Value.int .i64 a.on.k, Value.int .i64 a.on.a, Value.int .i64 a.on.t, Value.int .i64 a.ar.c, Value.int .i64 a.ar.k, Value.int .i64 a.ar.a, Value.int .i64 a.ar.t] : Array Value) (#[Value.int .i64 AV.none.f.d, Value.int .i64 AV.none.f.l, Value.int .i64 AV.none.f.a, Value.int .i64 AV.none.f.b, Value.int .i64 AV.none.o, Value.int .i64 AV.none.l, Value.int .i64 AV.none.t, Value.int .i64 AV.none.on.c, Value.int .i64 AV.none.on.k, Value.int .i64 AV.none.on.a, Value.int .i64 AV.none.on.t, Value.int .i64 AV.none.ar.c, Value.int .i64 AV.none.ar.k, Value.int .i64 AV.none.ar.a, Value.int .i64 AV.none.ar.t] : Array Value)
  have hW : Below w.heap.size w ((w.alloc (.cells (#[Value.int .i64 a.f.d, Value.int .i64 a.f.l, Value.int .i64 a.f.a, Value.int .i64 a.f.b, Value.int .i64 a.o, Value.int .i64 a.l, Value.int .i64 a.t, Value.int .i64 a.on.c, Value.int .i64 a.on.k, Value.int .i64 a.on.a, Value.int .i64 a.on.t, Value.int .i64 a.ar.c, Value.int .i64 a.ar.k, Value.int .i64 a.ar.a, Value.int .i64 a.ar.t] : Array Value) 32)).alloc (.cells (#[Value.int .i64 AV.none.f.d, Value.int .i64 AV.none.f.l, Value.int .i64 AV.none.f.a, Value.int .i64 AV.none.f.b, Value.int .i64 AV.none.o, Value.int .i64 AV.none.l, Value.int .i64 AV.none.t, Value.int .i64 AV.none.on.c, Value.int .i64 AV.none.on.k, Value.int .i64 AV.none.on.a, Value.int .i64 AV.none.on.t, Value.int .i64 AV.none.ar.c, Value.int .i64 AV.none.ar.k, Value.int .i64 AV.none.ar.a, Value.int .i64 AV.none.ar.t] : Array Value) 32)) := (by repeat (first | (with_reducible exact Below.refl _ _) | (with_reducible assumption) | (with_reducible refine balloc ?_ _) | (with_reducible refine bdrew ?_) | (with_reducible refine bdrewN ?_ _) | (with_reducible refine bset ?_ (by first | omega | (simp; done) | (simp; omega)) _) | (with_reducible refine bstep ?_ (by assumption))))
  show Code.wp _ _ _ _ ((w.alloc (.cells (#[Value.int .i64 a.f.d, Value.int .i64 a.f.l, Value.int .i64 a.f.a, Value.int .i64 a.f.b, Value.int .i64 a.o, Value.int .i64 a.l, Value.int .i64 a.t, Value.int .i64 a.on.c, Value.int .i64 a.on.k, Value.int .i64 a.on.a, Value.int .i64 a.on.t, Value.int .i64 a.ar.c, Value.int .i64 a.ar.k, Value.int .i64 a.ar.a, Value.int .i64 a.ar.t] : Array Value) 32)).alloc (.cells (#[Value.int .i64 AV.none.f.d, Value.int .i64 AV.none.f.l, Value.int .i64 AV.none.f.a, Value.int .i64 AV.none.f.b, Value.int .i64 AV.none.o, Value.int .i64 AV.none.l, Value.int .i64 AV.none.t, Value.int .i64 AV.none.on.c, Value.int .i64 AV.none.on.k, Value.int .i64 AV.none.on.a, Value.int .i64 AV.none.on.t, Value.int .i64 AV.none.ar.c, Value.int .i64 AV.none.ar.k, Value.int .i64 AV.none.ar.a, Value.int .i64 AV.none.ar.t] : Array Value) 32))
  generalize ((w.alloc (.cells (#[Value.int .i64 a.f.d, Value.int .i64 a.f.l, Value.int .i64 a.f.a, Value.int .i64 a.f.b, Value.int .i64 a.o, Value.int .i64 a.l, Value.int .i64 a.t, Value.int .i64 a.on.c, Value.int .i64 a.on.k, Value.int .i64 a.on.a, Value.int .i64 a.on.t, Value.int .i64 a.ar.c, Value.int .i64 a.ar.k, Value.int .i64 a.ar.a, Value.int .i64 a.ar.t] : Array Value) 32)).alloc (.cells (#[Value.int .i64 AV.none.f.d, Value.int .i64 AV.none.f.l, Value.int .i64 AV.none.f.a, Value.int .i64 AV.none.f.b, Value.int .i64 AV.none.o, Value.int .i64 AV.none.l, Value.int .i64 AV.none.t, Value.int .i64 AV.none.on.c, Value.int .i64 AV.none.on.k, Value.int .i64 AV.none.on.a, Value.int .i64 AV.none.on.t, Value.int .i64 AV.none.ar.c, Value.int .i64 AV.none.ar.k, Value.int .i64 AV.none.ar.a, Value.int .i64 AV.none.ar.t] : Array Value) 32)) = W at *
  have z1 := BR.lt
  obtain ⟨c2, f2, _⟩ := BA.all
  go_upto_region 6 with fail
  refine calls_sets' W w.heap.size [(2, .int .i64 0), (3, .int .i64 0), (6, .int .i64 0), (10, .int .i64 0), (14, .int .i64 0)] ?_
  replace BR := BR.setsFar [(2, .int .i64 0), (3, .int .i64 0), (6, .int .i64 0), (10, .int .i64 0), (14, .int .i64 0)] (g := w.heap.size) (by omega)
  have BO : Blk _ _ _ #[Value.int .i64 a.shape.f.d, Value.int .i64 a.shape.f.l, Value.int .i64 a.shape.f.a, Value.int .i64 a.shape.f.b, Value.int .i64 a.shape.o, Value.int .i64 a.shape.l, Value.int .i64 a.shape.t, Value.int .i64 a.shape.on.c, Value.int .i64 a.shape.on.k, Value.int .i64 a.shape.on.a, Value.int .i64 a.shape.on.t, Value.int .i64 a.shape.ar.c, Value.int .i64 a.shape.ar.k, Value.int .i64 a.shape.ar.a, Value.int .i64 a.shape.ar.t] := BA.sets [(2, .int .i64 0), (3, .int .i64 0), (6, .int .i64 0), (10, .int .i64 0), (14, .int .i64 0)]
  replace hW := bsets [(2, .int .i64 0), (3, .int .i64 0), (6, .int .i64 0), (10, .int .i64 0), (14, .int .i64 0)] (g := w.heap.size) hW (by omega)
  generalize setsW W w.heap.size [(2, .int .i64 0), (3, .int .i64 0), (6, .int .i64 0), (10, .int .i64 0), (14, .int .i64 0)] = W' at *
  clear c2 f2 BA
  go_wp2_with (first | ((with_reducible refine wp_ldA' ?_ BO ?_); (focus (refine ⟨rfl, ⟨_, rfl, ?_⟩, rfl⟩; simp [go_sem]; done))) | ((with_reducible refine' wp_stA' BR _ _); rotate_left; (focus (refine ⟨rfl, ⟨_, _, rfl, ?_, rfl⟩, rfl, rfl, ?_⟩; (focus (simp [go_sem]; done)); (focus (simp [Value.oneCell']; done)))); intro w3 hg3 hb3))
  refine ret_rowA rfl rfl hb3 rfl rfl ?_
  exact ⟨rfl, bgrown hW hg3 (by omega)⟩
set_option maxHeartbeats 1000000 in
theorem spec_SameShape (a b : AV) (w : World) : Calls Try.prog 20 #[.agg #[.int .i64 a.f.d, .int .i64 a.f.l, .int .i64 a.f.a, .int .i64 a.f.b, .int .i64 a.o, .int .i64 a.l, .int .i64 a.t, .int .i64 a.on.c, .int .i64 a.on.k, .int .i64 a.on.a, .int .i64 a.on.t, .int .i64 a.ar.c, .int .i64 a.ar.k, .int .i64 a.ar.a, .int .i64 a.ar.t], .agg #[.int .i64 b.f.d, .int .i64 b.f.l, .int .i64 b.f.a, .int .i64 b.f.b, .int .i64 b.o, .int .i64 b.l, .int .i64 b.t, .int .i64 b.on.c, .int .i64 b.on.k, .int .i64 b.on.a, .int .i64 b.on.t, .int .i64 b.ar.c, .int .i64 b.ar.k, .int .i64 b.ar.a, .int .i64 b.ar.t]] w fun e w' => e = .returned (.tuple #[.bool (shapeV a b), .bool (a.ok && b.ok)]) ∧ Below w.heap.size w w' := by
  unfold shapeV
  cases h : a.ok <;> cases h' : b.ok
  all_goals
    go_enter Try.func20, Try.ntmps20
    go_upto_region 1 with (fail)
    obtain ⟨BA, BB⟩ := blk_two w 32 32 (#[Value.int .i64 a.f.d, Value.int .i64 a.f.l, Value.int .i64 a.f.a, Value.int .i64 a.f.b, Value.int .i64 a.o, Value.int .i64 a.l, Value.int .i64 a.t, Value.int .i64 a.on.c, Value.int .i64 a.on.k, Value.int .i64 a.on.a, Value.int .i64 a.on.t, Value.int .i64 a.ar.c, Value.int .i64 a.ar.k, Value.int .i64 a.ar.a, Value.int .i64 a.ar.t] : Array Value) (#[Value.int .i64 b.f.d, Value.int .i64 b.f.l, Value.int .i64 b.f.a, Value.int .i64 b.f.b, Value.int .i64 b.o, Value.int .i64 b.l, Value.int .i64 b.t, Value.int .i64 b.on.c, Value.int .i64 b.on.k, Value.int .i64 b.on.a, Value.int .i64 b.on.t, Value.int .i64 b.ar.c, Value.int .i64 b.ar.k, Value.int .i64 b.ar.a, Value.int .i64 b.ar.t] : Array Value)
    have hW : Below w.heap.size w ((w.alloc (.cells (#[Value.int .i64 a.f.d, Value.int .i64 a.f.l, Value.int .i64 a.f.a, Value.int .i64 a.f.b, Value.int .i64 a.o, Value.int .i64 a.l, Value.int .i64 a.t, Value.int .i64 a.on.c, Value.int .i64 a.on.k, Value.int .i64 a.on.a, Value.int .i64 a.on.t, Value.int .i64 a.ar.c, Value.int .i64 a.ar.k, Value.int .i64 a.ar.a, Value.int .i64 a.ar.t] : Array Value) 32)).alloc (.cells (#[Value.int .i64 b.f.d, Value.int .i64 b.f.l, Value.int .i64 b.f.a, Value.int .i64 b.f.b, Value.int .i64 b.o, Value.int .i64 b.l, Value.int .i64 b.t, Value.int .i64 b.on.c, Value.int .i64 b.on.k, Value.int .i64 b.on.a, Value.int .i64 b.on.t, Value.int .i64 b.ar.c, Value.int .i64 b.ar.k, Value.int .i64 b.ar.a, Value.int .i64 b.ar.t] : Array Value) 32)) := (by repeat (first | (with_reducible exact Below.refl _ _) | (with_reducible assumption) | (with_reducible refine balloc ?_ _) | (with_reducible refine bdrew ?_) | (with_reducible refine bdrewN ?_ _) | (with_reducible refine bset ?_ (by first | omega | (simp; done) | (simp; omega)) _) | (with_reducible refine bstep ?_ (by assumption))))
    show Code.wp _ _ _ _ ((w.alloc (.cells (#[Value.int .i64 a.f.d, Value.int .i64 a.f.l, Value.int .i64 a.f.a, Value.int .i64 a.f.b, Value.int .i64 a.o, Value.int .i64 a.l, Value.int .i64 a.t, Value.int .i64 a.on.c, Value.int .i64 a.on.k, Value.int .i64 a.on.a, Value.int .i64 a.on.t, Value.int .i64 a.ar.c, Value.int .i64 a.ar.k, Value.int .i64 a.ar.a, Value.int .i64 a.ar.t] : Array Value) 32)).alloc (.cells (#[Value.int .i64 b.f.d, Value.int .i64 b.f.l, Value.int .i64 b.f.a, Value.int .i64 b.f.b, Value.int .i64 b.o, Value.int .i64 b.l, Value.int .i64 b.t, Value.int .i64 b.on.c, Value.int .i64 b.on.k, Value.int .i64 b.on.a, Value.int .i64 b.on.t, Value.int .i64 b.ar.c, Value.int .i64 b.ar.k, Value.int .i64 b.ar.a, Value.int .i64 b.ar.t] : Array Value) 32))
    generalize ((w.alloc (.cells (#[Value.int .i64 a.f.d, Value.int .i64 a.f.l, Value.int .i64 a.f.a, Value.int .i64 a.f.b, Value.int .i64 a.o, Value.int .i64 a.l, Value.int .i64 a.t, Value.int .i64 a.on.c, Value.int .i64 a.on.k, Value.int .i64 a.on.a, Value.int .i64 a.on.t, Value.int .i64 a.ar.c, Value.int .i64 a.ar.k, Value.int .i64 a.ar.a, Value.int .i64 a.ar.t] : Array Value) 32)).alloc (.cells (#[Value.int .i64 b.f.d, Value.int .i64 b.f.l, Value.int .i64 b.f.a, Value.int .i64 b.f.b, Value.int .i64 b.o, Value.int .i64 b.l, Value.int .i64 b.t, Value.int .i64 b.on.c, Value.int .i64 b.on.k, Value.int .i64 b.on.a, Value.int .i64 b.on.t, Value.int .i64 b.ar.c, Value.int .i64 b.ar.k, Value.int .i64 b.ar.a, Value.int .i64 b.ar.t] : Array Value) 32)) = W at *
  rotate_left 3
  · go_upto_region 3 with (first | ((with_reducible refine wp_ldA' ?_ BA ?_); (focus (refine ⟨rfl, ⟨_, rfl, ?_⟩, rfl⟩; simp [go_sem]; done))) | ((with_reducible refine wp_ldA' ?_ BB ?_); (focus (refine ⟨rfl, ⟨_, rfl, ?_⟩, rfl⟩; simp [go_sem]; done))) | (go_at_call 49; (with_reducible refine (spec_l5Good a _).mono ?_); rintro e w1 ⟨rfl, hb1⟩; replace BA := BA.below hb1; replace BB := BB.below hb1; replace hW := bstep hW hb1; clear hb1) | (go_at_call 49; (with_reducible refine (spec_l5Good b _).mono ?_); rintro e w1 ⟨rfl, hb1⟩; replace BA := BA.below hb1; replace BB := BB.below hb1; replace hW := bstep hW hb1; clear hb1))
    have he0 := eqg_arms
    have he1 := eql_arms
    refine wp_region_mild0 [true, true, true, true, true, true, true] (by kernel_rfl) (by kernel_rfl) ?_
    refine wpMildL_take rfl ⟨_, mild_load _ _ rfl _ rfl _ _ _ (fun w' h => BA.below h) Try.underlying32 rfl (by kernel_rfl), ?_⟩
    simp only [Act.put, List.setIfInBounds_toArray, List.set_cons_zero, List.set_cons_succ]
    refine wpMildL_take rfl ?_
    apply Exists.intro
    refine ⟨fun w' hw' => ?_, ?_⟩
    · go_simp
      exact spec_l5Shape a _
    simp only [Act.put, List.setIfInBounds_toArray, List.set_cons_zero, List.set_cons_succ]
    refine wpMildL_take rfl ⟨_, mild_load _ _ rfl _ rfl _ _ _ (fun w' h => BB.below h) Try.underlying32 rfl (by kernel_rfl), ?_⟩
    simp only [Act.put, List.setIfInBounds_toArray, List.set_cons_zero, List.set_cons_succ]
    refine wpMildL_take rfl ?_
    apply Exists.intro
    refine ⟨fun w' hw' => ?_, ?_⟩
    · go_simp
      exact spec_l5Shape b _
    simp only [Act.put, List.setIfInBounds_toArray, List.set_cons_zero, List.set_cons_succ]
    refine wpMildL_take rfl ?_
    apply Exists.intro
    refine ⟨fun w' hw' => ?_, ?_⟩
    · go_simp
      with_reducible rfl
    simp only [Act.put, List.setIfInBounds_toArray, List.set_cons_zero, List.set_cons_succ]
    refine wpMildL_take rfl ?_
    apply Exists.intro
    refine ⟨fun w' hw' => ?_, ?_⟩
    · go_simp
      with_reducible rfl
    simp only [Act.put, List.setIfInBounds_toArray, List.set_cons_zero, List.set_cons_succ]
    refine wpMildL_take rfl ?_
    apply Exists.intro
    refine ⟨fun w' hw' => ?_, ?_⟩
    · go_simp
      with_reducible rfl
    simp only [Act.put, List.setIfInBounds_toArray, List.set_cons_zero, List.set_cons_succ]
    refine wpMildL_nil ?_
    intro w2 hb2
    go_wp2
    go_ret2
    exact ⟨rfl, bstep hW hb2⟩
  all_goals
    go_wp2_with (first | ((with_reducible refine wp_ldA' ?_ BA ?_); (focus (refine ⟨rfl, ⟨_, rfl, ?_⟩, rfl⟩; simp [go_sem]; done))) | ((with_reducible refine wp_ldA' ?_ BB ?_); (focus (refine ⟨rfl, ⟨_, rfl, ?_⟩, rfl⟩; simp [go_sem]; done))) | (go_at_call 49; (with_reducible refine (spec_l5Good a _).mono ?_); rintro e w1 ⟨rfl, hb1⟩; replace BA := BA.below hb1; replace BB := BB.below hb1; replace hW := bstep hW hb1; clear hb1) | (go_at_call 49; (with_reducible refine (spec_l5Good b _).mono ?_); rintro e w1 ⟨rfl, hb1⟩; replace BA := BA.below hb1; replace BB := BB.below hb1; replace hW := bstep hW hb1; clear hb1))
    go_ret2
    exact ⟨rfl, hW⟩
set_option maxHeartbeats 1000000 in
theorem impl_SameShape (a b : AV) (w : World) : Calls Try.prog 21 #[.agg #[.int .i64 a.f.d, .int .i64 a.f.l, .int .i64 a.f.a, .int .i64 a.f.b, .int .i64 a.o, .int .i64 a.l, .int .i64 a.t, .int .i64 a.on.c, .int .i64 a.on.k, .int .i64 a.on.a, .int .i64 a.on.t, .int .i64 a.ar.c, .int .i64 a.ar.k, .int .i64 a.ar.a, .int .i64 a.ar.t], .agg #[.int .i64 b.f.d, .int .i64 b.f.l, .int .i64 b.f.a, .int .i64 b.f.b, .int .i64 b.o, .int .i64 b.l, .int .i64 b.t, .int .i64 b.on.c, .int .i64 b.on.k, .int .i64 b.on.a, .int .i64 b.on.t, .int .i64 b.ar.c, .int .i64 b.ar.k, .int .i64 b.ar.a, .int .i64 b.ar.t]] w fun e w' => e = .returned (.tuple #[.bool (shapeV a b), .bool (a.ok && b.ok)]) ∧ Below w.heap.size w w' := by
  unfold shapeV
  cases h : a.ok <;> cases h' : b.ok
  all_goals
    go_enter Try.func21, Try.ntmps21
    go_upto_region 1 with (fail)
    obtain ⟨BA, BB⟩ := blk_two w 32 32 (#[Value.int .i64 a.f.d, Value.int .i64 a.f.l, Value.int .i64 a.f.a, Value.int .i64 a.f.b, Value.int .i64 a.o, Value.int .i64 a.l, Value.int .i64 a.t, Value.int .i64 a.on.c, Value.int .i64 a.on.k, Value.int .i64 a.on.a, Value.int .i64 a.on.t, Value.int .i64 a.ar.c, Value.int .i64 a.ar.k, Value.int .i64 a.ar.a, Value.int .i64 a.ar.t] : Array Value) (#[Value.int .i64 b.f.d, Value.int .i64 b.f.l, Value.int .i64 b.f.a, Value.int .i64 b.f.b, Value.int .i64 b.o, Value.int .i64 b.l, Value.int .i64 b.t, Value.int .i64 b.on.c, Value.int .i64 b.on.k, Value.int .i64 b.on.a, Value.int .i64 b.on.t, Value.int .i64 b.ar.c, Value.int .i64 b.ar.k, Value.int .i64 b.ar.a, Value.int .i64 b.ar.t] : Array Value)
    have hW : Below w.heap.size w ((w.alloc (.cells (#[Value.int .i64 a.f.d, Value.int .i64 a.f.l, Value.int .i64 a.f.a, Value.int .i64 a.f.b, Value.int .i64 a.o, Value.int .i64 a.l, Value.int .i64 a.t, Value.int .i64 a.on.c, Value.int .i64 a.on.k, Value.int .i64 a.on.a, Value.int .i64 a.on.t, Value.int .i64 a.ar.c, Value.int .i64 a.ar.k, Value.int .i64 a.ar.a, Value.int .i64 a.ar.t] : Array Value) 32)).alloc (.cells (#[Value.int .i64 b.f.d, Value.int .i64 b.f.l, Value.int .i64 b.f.a, Value.int .i64 b.f.b, Value.int .i64 b.o, Value.int .i64 b.l, Value.int .i64 b.t, Value.int .i64 b.on.c, Value.int .i64 b.on.k, Value.int .i64 b.on.a, Value.int .i64 b.on.t, Value.int .i64 b.ar.c, Value.int .i64 b.ar.k, Value.int .i64 b.ar.a, Value.int .i64 b.ar.t] : Array Value) 32)) := (by repeat (first | (with_reducible exact Below.refl _ _) | (with_reducible assumption) | (with_reducible refine balloc ?_ _) | (with_reducible refine bdrew ?_) | (with_reducible refine bdrewN ?_ _) | (with_reducible refine bset ?_ (by first | omega | (simp; done) | (simp; omega)) _) | (with_reducible refine bstep ?_ (by assumption))))
    show Code.wp _ _ _ _ ((w.alloc (.cells (#[Value.int .i64 a.f.d, Value.int .i64 a.f.l, Value.int .i64 a.f.a, Value.int .i64 a.f.b, Value.int .i64 a.o, Value.int .i64 a.l, Value.int .i64 a.t, Value.int .i64 a.on.c, Value.int .i64 a.on.k, Value.int .i64 a.on.a, Value.int .i64 a.on.t, Value.int .i64 a.ar.c, Value.int .i64 a.ar.k, Value.int .i64 a.ar.a, Value.int .i64 a.ar.t] : Array Value) 32)).alloc (.cells (#[Value.int .i64 b.f.d, Value.int .i64 b.f.l, Value.int .i64 b.f.a, Value.int .i64 b.f.b, Value.int .i64 b.o, Value.int .i64 b.l, Value.int .i64 b.t, Value.int .i64 b.on.c, Value.int .i64 b.on.k, Value.int .i64 b.on.a, Value.int .i64 b.on.t, Value.int .i64 b.ar.c, Value.int .i64 b.ar.k, Value.int .i64 b.ar.a, Value.int .i64 b.ar.t] : Array Value) 32))
    generalize ((w.alloc (.cells (#[Value.int .i64 a.f.d, Value.int .i64 a.f.l, Value.int .i64 a.f.a, Value.int .i64 a.f.b, Value.int .i64 a.o, Value.int .i64 a.l, Value.int .i64 a.t, Value.int .i64 a.on.c, Value.int .i64 a.on.k, Value.int .i64 a.on.a, Value.int .i64 a.on.t, Value.int .i64 a.ar.c, Value.int .i64 a.ar.k, Value.int .i64 a.ar.a, Value.int .i64 a.ar.t] : Array Value) 32)).alloc (.cells (#[Value.int .i64 b.f.d, Value.int .i64 b.f.l, Value.int .i64 b.f.a, Value.int .i64 b.f.b, Value.int .i64 b.o, Value.int .i64 b.l, Value.int .i64 b.t, Value.int .i64 b.on.c, Value.int .i64 b.on.k, Value.int .i64 b.on.a, Value.int .i64 b.on.t, Value.int .i64 b.ar.c, Value.int .i64 b.ar.k, Value.int .i64 b.ar.a, Value.int .i64 b.ar.t] : Array Value) 32)) = W at *
  rotate_left 3
  · go_upto_region 4 with (first | ((with_reducible refine wp_ldA' ?_ BA ?_); (focus (refine ⟨rfl, ⟨_, rfl, ?_⟩, rfl⟩; simp [go_sem]; done))) | ((with_reducible refine wp_ldA' ?_ BB ?_); (focus (refine ⟨rfl, ⟨_, rfl, ?_⟩, rfl⟩; simp [go_sem]; done))) | (go_at_call 17; (with_reducible refine (impl_IsValidArms a _).mono ?_); rintro e w1 ⟨rfl, hb1⟩; replace BA := BA.below hb1; replace BB := BB.below hb1; replace hW := bstep hW hb1; clear hb1) | (go_at_call 17; (with_reducible refine (impl_IsValidArms b _).mono ?_); rintro e w1 ⟨rfl, hb1⟩; replace BA := BA.below hb1; replace BB := BB.below hb1; replace hW := bstep hW hb1; clear hb1))
    have he0 := eqg_arms
    have he1 := eql_arms
    refine wp_region_mild0 [true, true, true, true, true, true, true, true, true] (by kernel_rfl) (by kernel_rfl) ?_
    refine wpMildL_take rfl ⟨_, mild_load _ _ rfl _ rfl _ _ _ (fun w' h => BA.below h) Try.underlying32 rfl (by kernel_rfl), ?_⟩
    simp only [Act.put, List.setIfInBounds_toArray, List.set_cons_zero, List.set_cons_succ]
    refine wpMildL_take rfl ?_
    apply Exists.intro
    refine ⟨fun w' hw' => ?_, ?_⟩
    · go_simp
      with_reducible rfl
    simp only [Act.put, List.setIfInBounds_toArray, List.set_cons_zero, List.set_cons_succ]
    refine wpMildL_take rfl ?_
    apply Exists.intro
    refine ⟨fun w' hw' => ?_, ?_⟩
    · go_simp
      exact impl_mapped_one a _
    simp only [Act.put, List.setIfInBounds_toArray, List.set_cons_zero, List.set_cons_succ]
    refine wpMildL_take rfl ⟨_, mild_load _ _ rfl _ rfl _ _ _ (fun w' h => BB.below h) Try.underlying32 rfl (by kernel_rfl), ?_⟩
    simp only [Act.put, List.setIfInBounds_toArray, List.set_cons_zero, List.set_cons_succ]
    refine wpMildL_take rfl ?_
    apply Exists.intro
    refine ⟨fun w' hw' => ?_, ?_⟩
    · go_simp
      with_reducible rfl
    simp only [Act.put, List.setIfInBounds_toArray, List.set_cons_zero, List.set_cons_succ]
    refine wpMildL_take rfl ?_
    apply Exists.intro
    refine ⟨fun w' hw' => ?_, ?_⟩
    · go_simp
      exact impl_mapped_one b _
    simp only [Act.put, List.setIfInBounds_toArray, List.set_cons_zero, List.set_cons_succ]
    refine wpMildL_take rfl ?_
    apply Exists.intro
    refine ⟨fun w' hw' => ?_, ?_⟩
    · go_simp
      with_reducible rfl
    simp only [Act.put, List.setIfInBounds_toArray, List.set_cons_zero, List.set_cons_succ]
    refine wpMildL_take rfl ?_
    apply Exists.intro
    refine ⟨fun w' hw' => ?_, ?_⟩
    · go_simp
      with_reducible rfl
    simp only [Act.put, List.setIfInBounds_toArray, List.set_cons_zero, List.set_cons_succ]
    refine wpMildL_take rfl ?_
    apply Exists.intro
    refine ⟨fun w' hw' => ?_, ?_⟩
    · go_simp
      with_reducible rfl
    simp only [Act.put, List.setIfInBounds_toArray, List.set_cons_zero, List.set_cons_succ]
    refine wpMildL_nil ?_
    intro w2 hb2
    go_wp2
    go_ret2
    exact ⟨by rw [shape_eq h h']; rfl, bstep hW hb2⟩
  all_goals
    go_wp2_with (first | ((with_reducible refine wp_ldA' ?_ BA ?_); (focus (refine ⟨rfl, ⟨_, rfl, ?_⟩, rfl⟩; simp [go_sem]; done))) | ((with_reducible refine wp_ldA' ?_ BB ?_); (focus (refine ⟨rfl, ⟨_, rfl, ?_⟩, rfl⟩; simp [go_sem]; done))) | (go_at_call 17; (with_reducible refine (impl_IsValidArms a _).mono ?_); rintro e w1 ⟨rfl, hb1⟩; replace BA := BA.below hb1; replace BB := BB.below hb1; replace hW := bstep hW hb1; clear hb1) | (go_at_call 17; (with_reducible refine (impl_IsValidArms b _).mono ?_); rintro e w1 ⟨rfl, hb1⟩; replace BA := BA.below hb1; replace BB := BB.below hb1; replace hW := bstep hW hb1; clear hb1))
    go_ret2
    exact ⟨rfl, hW⟩
theorem spec_l5Turn (y old x : Int) (w : World) : Calls Try.prog 86 #[.int .i64 y, .int .i64 old, .int .i64 x] w fun e w' => e = .returned (.int .i64 (turn old x y)) ∧ w = w' := by
  unfold turn
  by_cases h : y = old
  all_goals
    go_enter Try.func86, Try.ntmps86
    go_wp2
    go_ret
    exact ⟨by simp [h], rfl⟩
set_option maxHeartbeats 1000000 in
theorem spec_l5Replace (a : AV) (old x : Int) (w : World) : Calls Try.prog 68 #[.agg #[.int .i64 a.f.d, .int .i64 a.f.l, .int .i64 a.f.a, .int .i64 a.f.b, .int .i64 a.o, .int .i64 a.l, .int .i64 a.t, .int .i64 a.on.c, .int .i64 a.on.k, .int .i64 a.on.a, .int .i64 a.on.t, .int .i64 a.ar.c, .int .i64 a.ar.k, .int .i64 a.ar.a, .int .i64 a.ar.t], .int .i64 old, .int .i64 x] w fun e w' => e = .returned (.agg #[.int .i64 (a.repl old x).f.d, .int .i64 (a.repl old x).f.l, .int .i64 (a.repl old x).f.a, .int .i64 (a.repl old x).f.b, .int .i64 (a.repl old x).o, .int .i64 (a.repl old x).l, .int .i64 (a.repl old x).t, .int .i64 (a.repl old x).on.c, .int .i64 (a.repl old x).on.k, .int .i64 (a.repl old x).on.a, .int .i64 (a.repl old x).on.t, .int .i64 (a.repl old x).ar.c, .int .i64 (a.repl old x).ar.k, .int .i64 (a.repl old x).ar.a, .int .i64 (a.repl old x).ar.t]) ∧ Below w.heap.size w w' := by
  go_enter Try.func68, Try.ntmps68
  go_upto_region 1 with (fail)
  obtain ⟨BA, BR⟩ := blk_two w 32 32 (#[Value.int .i64 a.f.d, Value.int .i64 a.f.l, Value.int .i64 a.f.a, Value.int .i64 a.f.b, Value.int .i64 a.o, Value.int .i64 a.l, Value.int .i64 a.t, Value.int .i64 a.on.c, Value.int .i64 a.on.k, Value.int .i64 a.on.a, Value.int .i64 a.on.t, Value.int .i64 a.ar.c, Value.int .i64 a.ar.k, Value.int .i64 a.ar.a, Value.int .i64 a.ar.t] : Array Value) (#[Value.int .i64 AV.none.f.d, Value.int .i64 AV.none.f.l, Value.int .i64 AV.none.f.a, Value.int .i64 AV.none.f.b, Value.int .i64 AV.none.o, Value.int .i64 AV.none.l, Value.int .i64 AV.none.t, Value.int .i64 AV.none.on.c, Value.int .i64 AV.none.on.k, Value.int .i64 AV.none.on.a, Value.int .i64 AV.none.on.t, Value.int .i64 AV.none.ar.c, Value.int .i64 AV.none.ar.k, Value.int .i64 AV.none.ar.a, Value.int .i64 AV.none.ar.t] : Array Value)
  have hW : Below w.heap.size w ((w.alloc (.cells (#[Value.int .i64 a.f.d, Value.int .i64 a.f.l, Value.int .i64 a.f.a, Value.int .i64 a.f.b, Value.int .i64 a.o, Value.int .i64 a.l, Value.int .i64 a.t, Value.int .i64 a.on.c, Value.int .i64 a.on.k, Value.int .i64 a.on.a, Value.int .i64 a.on.t, Value.int .i64 a.ar.c, Value.int .i64 a.ar.k, Value.int .i64 a.ar.a, Value.int .i64 a.ar.t] : Array Value) 32)).alloc (.cells (#[Value.int .i64 AV.none.f.d, Value.int .i64 AV.none.f.l, Value.int .i64 AV.none.f.a, Value.int .i64 AV.none.f.b, Value.int .i64 AV.none.o, Value.int .i64 AV.none.l, Value.int .i64 AV.none.t, Value.int .i64 AV.none.on.c, Value.int .i64 AV.none.on.k, Value.int .i64 AV.none.on.a, Value.int .i64 AV.none.on.t, Value.int .i64 AV.none.ar.c, Value.int .i64 AV.none.ar.k, Value.int .i64 AV.none.ar.a, Value.int .i64 AV.none.ar.t] : Array Value) 32)) := (by repeat (first | (with_reducible exact Below.refl _ _) | (with_reducible assumption) | (with_reducible refine balloc ?_ _) | (with_reducible refine bdrew ?_) | (with_reducible refine bdrewN ?_ _) | (with_reducible refine bset ?_ (by first | omega | (simp; done) | (simp; omega)) _) | (with_reducible refine bstep ?_ (by assumption))))
  show Code.wp _ _ _ _ ((w.alloc (.cells (#[Value.int .i64 a.f.d, Value.int .i64 a.f.l, Value.int .i64 a.f.a, Value.int .i64 a.f.b, Value.int .i64 a.o, Value.int .i64 a.l, Value.int .i64 a.t, Value.int .i64 a.on.c, Value.int .i64 a.on.k, Value.int .i64 a.on.a, Value.int .i64 a.on.t, Value.int .i64 a.ar.c, Value.int .i64 a.ar.k, Value.int .i64 a.ar.a, Value.int .i64 a.ar.t] : Array Value) 32)).alloc (.cells (#[Value.int .i64 AV.none.f.d, Value.int .i64 AV.none.f.l, Value.int .i64 AV.none.f.a, Value.int .i64 AV.none.f.b, Value.int .i64 AV.none.o, Value.int .i64 AV.none.l, Value.int .i64 AV.none.t, Value.int .i64 AV.none.on.c, Value.int .i64 AV.none.on.k, Value.int .i64 AV.none.on.a, Value.int .i64 AV.none.on.t, Value.int .i64 AV.none.ar.c, Value.int .i64 AV.none.ar.k, Value.int .i64 AV.none.ar.a, Value.int .i64 AV.none.ar.t] : Array Value) 32))
  generalize ((w.alloc (.cells (#[Value.int .i64 a.f.d, Value.int .i64 a.f.l, Value.int .i64 a.f.a, Value.int .i64 a.f.b, Value.int .i64 a.o, Value.int .i64 a.l, Value.int .i64 a.t, Value.int .i64 a.on.c, Value.int .i64 a.on.k, Value.int .i64 a.on.a, Value.int .i64 a.on.t, Value.int .i64 a.ar.c, Value.int .i64 a.ar.k, Value.int .i64 a.ar.a, Value.int .i64 a.ar.t] : Array Value) 32)).alloc (.cells (#[Value.int .i64 AV.none.f.d, Value.int .i64 AV.none.f.l, Value.int .i64 AV.none.f.a, Value.int .i64 AV.none.f.b, Value.int .i64 AV.none.o, Value.int .i64 AV.none.l, Value.int .i64 AV.none.t, Value.int .i64 AV.none.on.c, Value.int .i64 AV.none.on.k, Value.int .i64 AV.none.on.a, Value.int .i64 AV.none.on.t, Value.int .i64 AV.none.ar.c, Value.int .i64 AV.none.ar.k, Value.int .i64 AV.none.ar.a, Value.int .i64 AV.none.ar.t] : Array Value) 32)) = W at *
  have z1 := BR.lt
  obtain ⟨c2, f2, _⟩ := BA.all
  go_upto_region 6 with (go_at_call 86; refine (spec_l5Turn _ _ _ _).mono ?_; rintro e w' ⟨rfl, rfl⟩)
  refine calls_sets' W w.heap.size [(2, .int .i64 (turn old x a.f.a)), (3, .int .i64 (turn old x a.f.b)), (6, .int .i64 (turn old x a.t)), (10, .int .i64 (turn old x a.on.t)), (14, .int .i64 (turn old x a.ar.t))] ?_
  replace BR := BR.setsFar [(2, .int .i64 (turn old x a.f.a)), (3, .int .i64 (turn old x a.f.b)), (6, .int .i64 (turn old x a.t)), (10, .int .i64 (turn old x a.on.t)), (14, .int .i64 (turn old x a.ar.t))] (g := w.heap.size) (by omega)
  have BO : Blk _ _ _ #[Value.int .i64 (a.repl old x).f.d, Value.int .i64 (a.repl old x).f.l, Value.int .i64 (a.repl old x).f.a, Value.int .i64 (a.repl old x).f.b, Value.int .i64 (a.repl old x).o, Value.int .i64 (a.repl old x).l, Value.int .i64 (a.repl old x).t, Value.int .i64 (a.repl old x).on.c, Value.int .i64 (a.repl old x).on.k, Value.int .i64 (a.repl old x).on.a, Value.int .i64 (a.repl old x).on.t, Value.int .i64 (a.repl old x).ar.c, Value.int .i64 (a.repl old x).ar.k, Value.int .i64 (a.repl old x).ar.a, Value.int .i64 (a.repl old x).ar.t] := BA.sets [(2, .int .i64 (turn old x a.f.a)), (3, .int .i64 (turn old x a.f.b)), (6, .int .i64 (turn old x a.t)), (10, .int .i64 (turn old x a.on.t)), (14, .int .i64 (turn old x a.ar.t))]
  replace hW := bsets [(2, .int .i64 (turn old x a.f.a)), (3, .int .i64 (turn old x a.f.b)), (6, .int .i64 (turn old x a.t)), (10, .int .i64 (turn old x a.on.t)), (14, .int .i64 (turn old x a.ar.t))] (g := w.heap.size) hW (by omega)
  generalize setsW W w.heap.size [(2, .int .i64 (turn old x a.f.a)), (3, .int .i64 (turn old x a.f.b)), (6, .int .i64 (turn old x a.t)), (10, .int .i64 (turn old x a.on.t)), (14, .int .i64 (turn old x a.ar.t))] = W' at *
  clear c2 f2 BA
  go_wp2_with (first | ((with_reducible refine wp_ldA' ?_ BO ?_); (focus (refine ⟨rfl, ⟨_, rfl, ?_⟩, rfl⟩; simp [go_sem]; done))) | ((with_reducible refine' wp_stA' BR _ _); rotate_left; (focus (refine ⟨rfl, ⟨_, _, rfl, ?_, rfl⟩, rfl, rfl, ?_⟩; (focus (simp [go_sem]; done)); (focus (simp [Value.oneCell']; done)))); intro w3 hg3 hb3))
  refine ret_rowA rfl rfl hb3 rfl rfl ?_
  exact ⟨rfl, bgrown hW hg3 (by omega)⟩
set_option maxHeartbeats 1000000 in
theorem spec_ReplaceTincture (a : AV) (old x : Int) (w : World) : Calls Try.prog 40 #[.agg #[.int .i64 a.f.d, .int .i64 a.f.l, .int .i64 a.f.a, .int .i64 a.f.b, .int .i64 a.o, .int .i64 a.l, .int .i64 a.t, .int .i64 a.on.c, .int .i64 a.on.k, .int .i64 a.on.a, .int .i64 a.on.t, .int .i64 a.ar.c, .int .i64 a.ar.k, .int .i64 a.ar.a, .int .i64 a.ar.t], .int .i64 old, .int .i64 x] w fun e w' => e = .returned (.tuple #[.agg #[.int .i64 (a.replV old x).f.d, .int .i64 (a.replV old x).f.l, .int .i64 (a.replV old x).f.a, .int .i64 (a.replV old x).f.b, .int .i64 (a.replV old x).o, .int .i64 (a.replV old x).l, .int .i64 (a.replV old x).t, .int .i64 (a.replV old x).on.c, .int .i64 (a.replV old x).on.k, .int .i64 (a.replV old x).on.a, .int .i64 (a.replV old x).on.t, .int .i64 (a.replV old x).ar.c, .int .i64 (a.replV old x).ar.k, .int .i64 (a.replV old x).ar.a, .int .i64 (a.replV old x).ar.t], .bool (a.replB old x)]) ∧ Below w.heap.size w w' := by
  unfold AV.replV AV.replB
  cases h : inB 1 old 9 <;> cases h' : inB 1 x 9
  all_goals
    go_enter Try.func40, Try.ntmps40
    go_upto_region 1 with (fail)
    obtain ⟨BA, BR⟩ := blk_two w 32 32 (#[Value.int .i64 a.f.d, Value.int .i64 a.f.l, Value.int .i64 a.f.a, Value.int .i64 a.f.b, Value.int .i64 a.o, Value.int .i64 a.l, Value.int .i64 a.t, Value.int .i64 a.on.c, Value.int .i64 a.on.k, Value.int .i64 a.on.a, Value.int .i64 a.on.t, Value.int .i64 a.ar.c, Value.int .i64 a.ar.k, Value.int .i64 a.ar.a, Value.int .i64 a.ar.t] : Array Value) (#[Value.int .i64 AV.none.f.d, Value.int .i64 AV.none.f.l, Value.int .i64 AV.none.f.a, Value.int .i64 AV.none.f.b, Value.int .i64 AV.none.o, Value.int .i64 AV.none.l, Value.int .i64 AV.none.t, Value.int .i64 AV.none.on.c, Value.int .i64 AV.none.on.k, Value.int .i64 AV.none.on.a, Value.int .i64 AV.none.on.t, Value.int .i64 AV.none.ar.c, Value.int .i64 AV.none.ar.k, Value.int .i64 AV.none.ar.a, Value.int .i64 AV.none.ar.t] : Array Value)
    have hW : Below w.heap.size w ((w.alloc (.cells (#[Value.int .i64 a.f.d, Value.int .i64 a.f.l, Value.int .i64 a.f.a, Value.int .i64 a.f.b, Value.int .i64 a.o, Value.int .i64 a.l, Value.int .i64 a.t, Value.int .i64 a.on.c, Value.int .i64 a.on.k, Value.int .i64 a.on.a, Value.int .i64 a.on.t, Value.int .i64 a.ar.c, Value.int .i64 a.ar.k, Value.int .i64 a.ar.a, Value.int .i64 a.ar.t] : Array Value) 32)).alloc (.cells (#[Value.int .i64 AV.none.f.d, Value.int .i64 AV.none.f.l, Value.int .i64 AV.none.f.a, Value.int .i64 AV.none.f.b, Value.int .i64 AV.none.o, Value.int .i64 AV.none.l, Value.int .i64 AV.none.t, Value.int .i64 AV.none.on.c, Value.int .i64 AV.none.on.k, Value.int .i64 AV.none.on.a, Value.int .i64 AV.none.on.t, Value.int .i64 AV.none.ar.c, Value.int .i64 AV.none.ar.k, Value.int .i64 AV.none.ar.a, Value.int .i64 AV.none.ar.t] : Array Value) 32)) := (by repeat (first | (with_reducible exact Below.refl _ _) | (with_reducible assumption) | (with_reducible refine balloc ?_ _) | (with_reducible refine bdrew ?_) | (with_reducible refine bdrewN ?_ _) | (with_reducible refine bset ?_ (by first | omega | (simp; done) | (simp; omega)) _) | (with_reducible refine bstep ?_ (by assumption))))
    show Code.wp _ _ _ _ ((w.alloc (.cells (#[Value.int .i64 a.f.d, Value.int .i64 a.f.l, Value.int .i64 a.f.a, Value.int .i64 a.f.b, Value.int .i64 a.o, Value.int .i64 a.l, Value.int .i64 a.t, Value.int .i64 a.on.c, Value.int .i64 a.on.k, Value.int .i64 a.on.a, Value.int .i64 a.on.t, Value.int .i64 a.ar.c, Value.int .i64 a.ar.k, Value.int .i64 a.ar.a, Value.int .i64 a.ar.t] : Array Value) 32)).alloc (.cells (#[Value.int .i64 AV.none.f.d, Value.int .i64 AV.none.f.l, Value.int .i64 AV.none.f.a, Value.int .i64 AV.none.f.b, Value.int .i64 AV.none.o, Value.int .i64 AV.none.l, Value.int .i64 AV.none.t, Value.int .i64 AV.none.on.c, Value.int .i64 AV.none.on.k, Value.int .i64 AV.none.on.a, Value.int .i64 AV.none.on.t, Value.int .i64 AV.none.ar.c, Value.int .i64 AV.none.ar.k, Value.int .i64 AV.none.ar.a, Value.int .i64 AV.none.ar.t] : Array Value) 32))
    generalize ((w.alloc (.cells (#[Value.int .i64 a.f.d, Value.int .i64 a.f.l, Value.int .i64 a.f.a, Value.int .i64 a.f.b, Value.int .i64 a.o, Value.int .i64 a.l, Value.int .i64 a.t, Value.int .i64 a.on.c, Value.int .i64 a.on.k, Value.int .i64 a.on.a, Value.int .i64 a.on.t, Value.int .i64 a.ar.c, Value.int .i64 a.ar.k, Value.int .i64 a.ar.a, Value.int .i64 a.ar.t] : Array Value) 32)).alloc (.cells (#[Value.int .i64 AV.none.f.d, Value.int .i64 AV.none.f.l, Value.int .i64 AV.none.f.a, Value.int .i64 AV.none.f.b, Value.int .i64 AV.none.o, Value.int .i64 AV.none.l, Value.int .i64 AV.none.t, Value.int .i64 AV.none.on.c, Value.int .i64 AV.none.on.k, Value.int .i64 AV.none.on.a, Value.int .i64 AV.none.on.t, Value.int .i64 AV.none.ar.c, Value.int .i64 AV.none.ar.k, Value.int .i64 AV.none.ar.a, Value.int .i64 AV.none.ar.t] : Array Value) 32)) = W at *
    have z1 := BR.lt
  rotate_left 3
  · go_upto_region 3 with (go_at_call 67; refine (spec_l2Good _ _).mono ?_; rintro e w' ⟨rfl, rfl⟩)
    refine wp_region_mildS [true, true, true, true, true, true, true, true, false, true] 8 _ _ _ _ _ 0 _ _ (by kernel_rfl) (by kernel_rfl) rfl rfl rfl BR ?_
    refine wpMildL_take rfl ⟨_, mild_load _ _ rfl _ rfl _ _ _ (fun w' h => BA.past h (by omega)) Try.underlying32 rfl (by kernel_rfl), ?_⟩
    simp only [Act.put, List.setIfInBounds_toArray, List.set_cons_zero, List.set_cons_succ]
    refine wpMildL_take rfl ⟨_, mild_load _ _ rfl _ rfl _ _ _ (fun w' h => BA.past h (by omega)) Try.underlying32 rfl (by kernel_rfl), ?_⟩
    simp only [Act.put, List.setIfInBounds_toArray, List.set_cons_zero, List.set_cons_succ]
    refine wpMildL_take rfl ?_
    apply Exists.intro
    refine ⟨fun w' hw' => ?_, ?_⟩
    · go_simp
      with_reducible rfl
    simp only [Act.put, List.setIfInBounds_toArray, List.set_cons_zero, List.set_cons_succ]
    refine wpMildL_take rfl ?_
    apply Exists.intro
    refine ⟨fun w' hw' => ?_, ?_⟩
    · go_simp
      with_reducible rfl
    simp only [Act.put, List.setIfInBounds_toArray, List.set_cons_zero, List.set_cons_succ]
    refine wpMildL_take rfl ?_
    apply Exists.intro
    refine ⟨fun w' hw' => ?_, ?_⟩
    · go_simp
      exact spec_l5Replace a old x _
    simp only [Act.put, List.setIfInBounds_toArray, List.set_cons_zero, List.set_cons_succ]
    refine wpMildL_take rfl ?_
    apply Exists.intro
    refine ⟨fun w' hw' => ?_, ?_⟩
    · go_simp
      exact spec_l5Checked a (a.repl old x) _
    simp only [Act.put, List.setIfInBounds_toArray, List.set_cons_zero, List.set_cons_succ]
    refine wpMildL_take rfl ?_
    apply Exists.intro
    refine ⟨fun w' hw' => ?_, ?_⟩
    · go_simp
      with_reducible rfl
    simp only [Act.put, List.setIfInBounds_toArray, List.set_cons_zero, List.set_cons_succ]
    refine wpMildL_take rfl ?_
    apply Exists.intro
    refine ⟨fun w' hw' => ?_, ?_⟩
    · go_simp
      with_reducible rfl
    simp only [Act.put, List.setIfInBounds_toArray, List.set_cons_zero, List.set_cons_succ]
    refine wpMildL_late ?_
    refine wpMildL_take rfl ?_
    apply Exists.intro
    refine ⟨fun w' hw' => ?_, ?_⟩
    · go_simp
      with_reducible rfl
    simp only [Act.put, List.setIfInBounds_toArray, List.set_cons_zero, List.set_cons_succ]
    refine wpMildL_nil ?_
    refine ⟨#[Value.int .i64 (a.chk (a.repl old x)).f.d, Value.int .i64 (a.chk (a.repl old x)).f.l, Value.int .i64 (a.chk (a.repl old x)).f.a, Value.int .i64 (a.chk (a.repl old x)).f.b, Value.int .i64 (a.chk (a.repl old x)).o, Value.int .i64 (a.chk (a.repl old x)).l, Value.int .i64 (a.chk (a.repl old x)).t, Value.int .i64 (a.chk (a.repl old x)).on.c, Value.int .i64 (a.chk (a.repl old x)).on.k, Value.int .i64 (a.chk (a.repl old x)).on.a, Value.int .i64 (a.chk (a.repl old x)).on.t, Value.int .i64 (a.chk (a.repl old x)).ar.c, Value.int .i64 (a.chk (a.repl old x)).ar.k, Value.int .i64 (a.chk (a.repl old x)).ar.a, Value.int .i64 (a.chk (a.repl old x)).ar.t], rfl, rfl, by simp, by kernel_rfl, by simp [Value.oneCell'], fun w2 hg2 hb2 => ?_⟩
    replace BR : Blk _ _ _ #[Value.int .i64 (a.chk (a.repl old x)).f.d, Value.int .i64 (a.chk (a.repl old x)).f.l, Value.int .i64 (a.chk (a.repl old x)).f.a, Value.int .i64 (a.chk (a.repl old x)).f.b, Value.int .i64 (a.chk (a.repl old x)).o, Value.int .i64 (a.chk (a.repl old x)).l, Value.int .i64 (a.chk (a.repl old x)).t, Value.int .i64 (a.chk (a.repl old x)).on.c, Value.int .i64 (a.chk (a.repl old x)).on.k, Value.int .i64 (a.chk (a.repl old x)).on.a, Value.int .i64 (a.chk (a.repl old x)).on.t, Value.int .i64 (a.chk (a.repl old x)).ar.c, Value.int .i64 (a.chk (a.repl old x)).ar.k, Value.int .i64 (a.chk (a.repl old x)).ar.a, Value.int .i64 (a.chk (a.repl old x)).ar.t] := hb2
    go_wp2
    refine ret_rowA2 rfl rfl BR rfl rfl rfl ?_
    exact ⟨rfl, bgrown hW hg2 (by omega)⟩
  all_goals
    go_wp2_with (first | (go_at_call 67; refine (spec_l2Good _ _).mono ?_; rintro e w' ⟨rfl, rfl⟩) | ((with_reducible refine' wp_stA' BR _ _); rotate_left; (focus (refine ⟨rfl, ⟨_, _, rfl, ?_, rfl⟩, rfl, rfl, ?_⟩; (focus (simp [go_sem]; done)); (focus (simp [Value.oneCell']; done)))); intro w3 hg3 hb3))
    refine ret_rowA2 rfl rfl hb3 rfl rfl rfl ?_
    exact ⟨rfl, bgrown hW hg3 (by omega)⟩
set_option maxHeartbeats 1000000 in
theorem impl_ReplaceTincture (a : AV) (old x : Int) (w : World) : Calls Try.prog 41 #[.agg #[.int .i64 a.f.d, .int .i64 a.f.l, .int .i64 a.f.a, .int .i64 a.f.b, .int .i64 a.o, .int .i64 a.l, .int .i64 a.t, .int .i64 a.on.c, .int .i64 a.on.k, .int .i64 a.on.a, .int .i64 a.on.t, .int .i64 a.ar.c, .int .i64 a.ar.k, .int .i64 a.ar.a, .int .i64 a.ar.t], .int .i64 old, .int .i64 x] w fun e w' => e = .returned (.tuple #[.agg #[.int .i64 (a.replV old x).f.d, .int .i64 (a.replV old x).f.l, .int .i64 (a.replV old x).f.a, .int .i64 (a.replV old x).f.b, .int .i64 (a.replV old x).o, .int .i64 (a.replV old x).l, .int .i64 (a.replV old x).t, .int .i64 (a.replV old x).on.c, .int .i64 (a.replV old x).on.k, .int .i64 (a.replV old x).on.a, .int .i64 (a.replV old x).on.t, .int .i64 (a.replV old x).ar.c, .int .i64 (a.replV old x).ar.k, .int .i64 (a.replV old x).ar.a, .int .i64 (a.replV old x).ar.t], .bool (a.replB old x)]) ∧ Below w.heap.size w w' := by
  unfold AV.replV AV.replB AV.chk
  cases h : inB 1 old 9 <;> cases h' : inB 1 x 9 <;> cases h0 : a.ok
  all_goals
    go_enter Try.func41, Try.ntmps41
    go_upto_region 1 with (fail)
    obtain ⟨BA, BO, BX, BR⟩ := blk_four w 32 3 3 32 (#[Value.int .i64 a.f.d, Value.int .i64 a.f.l, Value.int .i64 a.f.a, Value.int .i64 a.f.b, Value.int .i64 a.o, Value.int .i64 a.l, Value.int .i64 a.t, Value.int .i64 a.on.c, Value.int .i64 a.on.k, Value.int .i64 a.on.a, Value.int .i64 a.on.t, Value.int .i64 a.ar.c, Value.int .i64 a.ar.k, Value.int .i64 a.ar.a, Value.int .i64 a.ar.t] : Array Value) (#[Value.int .i64 old] : Array Value) (#[Value.int .i64 x] : Array Value) (#[Value.int .i64 AV.none.f.d, Value.int .i64 AV.none.f.l, Value.int .i64 AV.none.f.a, Value.int .i64 AV.none.f.b, Value.int .i64 AV.none.o, Value.int .i64 AV.none.l, Value.int .i64 AV.none.t, Value.int .i64 AV.none.on.c, Value.int .i64 AV.none.on.k, Value.int .i64 AV.none.on.a, Value.int .i64 AV.none.on.t, Value.int .i64 AV.none.ar.c, Value.int .i64 AV.none.ar.k, Value.int .i64 AV.none.ar.a, Value.int .i64 AV.none.ar.t] : Array Value)
    have hW : Below w.heap.size w ((((w.alloc (.cells (#[Value.int .i64 a.f.d, Value.int .i64 a.f.l, Value.int .i64 a.f.a, Value.int .i64 a.f.b, Value.int .i64 a.o, Value.int .i64 a.l, Value.int .i64 a.t, Value.int .i64 a.on.c, Value.int .i64 a.on.k, Value.int .i64 a.on.a, Value.int .i64 a.on.t, Value.int .i64 a.ar.c, Value.int .i64 a.ar.k, Value.int .i64 a.ar.a, Value.int .i64 a.ar.t] : Array Value) 32)).alloc (.cells (#[Value.int .i64 old] : Array Value) 3)).alloc (.cells (#[Value.int .i64 x] : Array Value) 3)).alloc (.cells (#[Value.int .i64 AV.none.f.d, Value.int .i64 AV.none.f.l, Value.int .i64 AV.none.f.a, Value.int .i64 AV.none.f.b, Value.int .i64 AV.none.o, Value.int .i64 AV.none.l, Value.int .i64 AV.none.t, Value.int .i64 AV.none.on.c, Value.int .i64 AV.none.on.k, Value.int .i64 AV.none.on.a, Value.int .i64 AV.none.on.t, Value.int .i64 AV.none.ar.c, Value.int .i64 AV.none.ar.k, Value.int .i64 AV.none.ar.a, Value.int .i64 AV.none.ar.t] : Array Value) 32)) := (by repeat (first | (with_reducible exact Below.refl _ _) | (with_reducible assumption) | (with_reducible refine balloc ?_ _) | (with_reducible refine bdrew ?_) | (with_reducible refine bdrewN ?_ _) | (with_reducible refine bset ?_ (by first | omega | (simp; done) | (simp; omega)) _) | (with_reducible refine bstep ?_ (by assumption))))
    show Code.wp _ _ _ _ ((((w.alloc (.cells (#[Value.int .i64 a.f.d, Value.int .i64 a.f.l, Value.int .i64 a.f.a, Value.int .i64 a.f.b, Value.int .i64 a.o, Value.int .i64 a.l, Value.int .i64 a.t, Value.int .i64 a.on.c, Value.int .i64 a.on.k, Value.int .i64 a.on.a, Value.int .i64 a.on.t, Value.int .i64 a.ar.c, Value.int .i64 a.ar.k, Value.int .i64 a.ar.a, Value.int .i64 a.ar.t] : Array Value) 32)).alloc (.cells (#[Value.int .i64 old] : Array Value) 3)).alloc (.cells (#[Value.int .i64 x] : Array Value) 3)).alloc (.cells (#[Value.int .i64 AV.none.f.d, Value.int .i64 AV.none.f.l, Value.int .i64 AV.none.f.a, Value.int .i64 AV.none.f.b, Value.int .i64 AV.none.o, Value.int .i64 AV.none.l, Value.int .i64 AV.none.t, Value.int .i64 AV.none.on.c, Value.int .i64 AV.none.on.k, Value.int .i64 AV.none.on.a, Value.int .i64 AV.none.on.t, Value.int .i64 AV.none.ar.c, Value.int .i64 AV.none.ar.k, Value.int .i64 AV.none.ar.a, Value.int .i64 AV.none.ar.t] : Array Value) 32))
    generalize ((((w.alloc (.cells (#[Value.int .i64 a.f.d, Value.int .i64 a.f.l, Value.int .i64 a.f.a, Value.int .i64 a.f.b, Value.int .i64 a.o, Value.int .i64 a.l, Value.int .i64 a.t, Value.int .i64 a.on.c, Value.int .i64 a.on.k, Value.int .i64 a.on.a, Value.int .i64 a.on.t, Value.int .i64 a.ar.c, Value.int .i64 a.ar.k, Value.int .i64 a.ar.a, Value.int .i64 a.ar.t] : Array Value) 32)).alloc (.cells (#[Value.int .i64 old] : Array Value) 3)).alloc (.cells (#[Value.int .i64 x] : Array Value) 3)).alloc (.cells (#[Value.int .i64 AV.none.f.d, Value.int .i64 AV.none.f.l, Value.int .i64 AV.none.f.a, Value.int .i64 AV.none.f.b, Value.int .i64 AV.none.o, Value.int .i64 AV.none.l, Value.int .i64 AV.none.t, Value.int .i64 AV.none.on.c, Value.int .i64 AV.none.on.k, Value.int .i64 AV.none.on.a, Value.int .i64 AV.none.on.t, Value.int .i64 AV.none.ar.c, Value.int .i64 AV.none.ar.k, Value.int .i64 AV.none.ar.a, Value.int .i64 AV.none.ar.t] : Array Value) 32)) = W at *
    have z1 := BR.lt
    obtain ⟨c1, _⟩ := BO.facts
    obtain ⟨c2, _⟩ := BX.facts
  rotate_left 7
  · have HM := Lib.hid (mapped_turn (x := x) h a)
    go_upto_region 3 with (first | ((with_reducible refine wp_ldA' ?_ BA ?_); (focus (refine ⟨rfl, ⟨_, rfl, ?_⟩, rfl⟩; simp [go_sem]; done))) | (go_at_call 69; refine (impl_IsTincture _ _).mono ?_; rintro e w' ⟨rfl, rfl⟩) | (go_at_call 17; (with_reducible refine (impl_IsValidArms a _).mono ?_); rintro e w1 ⟨rfl, hb1⟩; clear c1 c2; replace BA := BA.below hb1; replace BO := BO.below hb1; replace BX := BX.below hb1; replace BR := BR.below hb1; obtain ⟨c1, _⟩ := BO.facts; obtain ⟨c2, _⟩ := BX.facts; replace hW := bstep hW hb1; clear hb1))
    clear c1 c2
    go_wp2_with (first | ((with_reducible refine wp_ldA' ?_ BA ?_); (focus (refine ⟨rfl, ⟨_, rfl, ?_⟩, rfl⟩; simp [go_sem]; done))) | (go_at_call 56; refine (impl_mapped_turn a old x _ _ _ BO BX).mono ?_; rintro e w1 ⟨rfl, hb1⟩; replace BR := BR.below hb1; replace hW := bstep hW hb1; clear hb1) | (go_at_call 62; (with_reducible refine (impl_validArms (a.mapped (turn old x)) _).mono ?_); rintro e w1 ⟨rfl, hb1⟩; replace BR := BR.below hb1; replace hW := bstep hW hb1; clear hb1) | ((with_reducible refine' wp_stA' BR _ _); rotate_left; (focus (refine ⟨rfl, ⟨_, _, rfl, ?_, rfl⟩, rfl, rfl, ?_⟩; (focus (simp [go_sem]; done)); (focus (simp [Value.oneCell']; done)))); intro w3 hg3 hb3))
    refine ret_rowA2 rfl rfl hb3 rfl rfl rfl ?_
    exact ⟨by rw [HM.out]; rfl, bgrown hW hg3 (by omega)⟩
  all_goals
    go_wp2_with (first | ((with_reducible refine wp_ldA' ?_ BA ?_); (focus (refine ⟨rfl, ⟨_, rfl, ?_⟩, rfl⟩; simp [go_sem]; done))) | (go_at_call 69; refine (impl_IsTincture _ _).mono ?_; rintro e w' ⟨rfl, rfl⟩) | ((with_reducible refine' wp_stA' BR _ _); rotate_left; (focus (refine ⟨rfl, ⟨_, _, rfl, ?_, rfl⟩, rfl, rfl, ?_⟩; (focus (simp [go_sem]; done)); (focus (simp [Value.oneCell']; done)))); intro w3 hg3 hb3) | (go_at_call 17; (with_reducible refine (impl_IsValidArms a _).mono ?_); rintro e w1 ⟨rfl, hb1⟩; clear c1 c2; replace BA := BA.below hb1; replace BO := BO.below hb1; replace BX := BX.below hb1; replace BR := BR.below hb1; obtain ⟨c1, _⟩ := BO.facts; obtain ⟨c2, _⟩ := BX.facts; replace hW := bstep hW hb1; clear hb1))
    refine ret_rowA2 rfl rfl hb3 rfl rfl rfl ?_
    exact ⟨rfl, bgrown hW hg3 (by omega)⟩
end Go.Proofs.Ytfpjomichfpejaa
