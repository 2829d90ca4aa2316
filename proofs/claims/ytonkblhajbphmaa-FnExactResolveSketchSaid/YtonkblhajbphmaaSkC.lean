/- Plain sketches: the program. Conditions: as each theorem says. -/
import Derived.Test.YtonkblhajbphmaaRows
import Derived.Test.YtonkblhajbphmaaSkB
namespace Go.Proofs.Ytonkblhajbphmaa
set_option linter.unusedSimpArgs false
set_option linter.unusedVariables false
open Go.ChangeShapes Go.WideShapes Go.ChangeAt Go.RowKit

/-- One of the tinctures behind the field, set. -/
def AV.put (a : AV) (p : Nat) (y : Int) : AV := if p = 6 then { a with t := y } else if p = 10 then { a with on := { a.on with t := y } } else if p = 14 then { a with ar := { a.ar with t := y } } else a
def putAll (a : AV) : List Nat → List Int → AV
  | p :: ps, y :: ys => putAll (a.put p y) ps ys
  | _, _ => a
/-- The first k places filled. -/
def AV.putK (a : AV) (ys : List Int) (k : Nat) : AV := putAll a (a.places.take k) ys
theorem put_cells (a : AV) (p : Nat) (y : Int) (v : Value) (h : p = 6 ∨ p = 10 ∨ p = 14) : (#[Value.int .i64 a.f.d, Value.int .i64 a.f.l, Value.int .i64 a.f.a, Value.int .i64 a.f.b, Value.int .i64 a.o, Value.int .i64 a.l, Value.int .i64 a.t, Value.int .i64 a.on.c, Value.int .i64 a.on.k, Value.int .i64 a.on.a, Value.int .i64 a.on.t, Value.int .i64 a.ar.c, Value.int .i64 a.ar.k, Value.int .i64 a.ar.a, Value.int .i64 a.ar.t, v] : Array Value).setIfInBounds p (.int .i64 y) = #[Value.int .i64 (a.put p y).f.d, Value.int .i64 (a.put p y).f.l, Value.int .i64 (a.put p y).f.a, Value.int .i64 (a.put p y).f.b, Value.int .i64 (a.put p y).o, Value.int .i64 (a.put p y).l, Value.int .i64 (a.put p y).t, Value.int .i64 (a.put p y).on.c, Value.int .i64 (a.put p y).on.k, Value.int .i64 (a.put p y).on.a, Value.int .i64 (a.put p y).on.t, Value.int .i64 (a.put p y).ar.c, Value.int .i64 (a.put p y).ar.k, Value.int .i64 (a.put p y).ar.a, Value.int .i64 (a.put p y).ar.t, v] := by
  rcases h with rfl | rfl | rfl <;> rfl
theorem put_cellsA (a : AV) (p : Nat) (y : Int) (h : p = 6 ∨ p = 10 ∨ p = 14) : (#[Value.int .i64 a.f.d, Value.int .i64 a.f.l, Value.int .i64 a.f.a, Value.int .i64 a.f.b, Value.int .i64 a.o, Value.int .i64 a.l, Value.int .i64 a.t, Value.int .i64 a.on.c, Value.int .i64 a.on.k, Value.int .i64 a.on.a, Value.int .i64 a.on.t, Value.int .i64 a.ar.c, Value.int .i64 a.ar.k, Value.int .i64 a.ar.a, Value.int .i64 a.ar.t] : Array Value).setIfInBounds p (.int .i64 y) = #[Value.int .i64 (a.put p y).f.d, Value.int .i64 (a.put p y).f.l, Value.int .i64 (a.put p y).f.a, Value.int .i64 (a.put p y).f.b, Value.int .i64 (a.put p y).o, Value.int .i64 (a.put p y).l, Value.int .i64 (a.put p y).t, Value.int .i64 (a.put p y).on.c, Value.int .i64 (a.put p y).on.k, Value.int .i64 (a.put p y).on.a, Value.int .i64 (a.put p y).on.t, Value.int .i64 (a.put p y).ar.c, Value.int .i64 (a.put p y).ar.k, Value.int .i64 (a.put p y).ar.a, Value.int .i64 (a.put p y).ar.t] := by
  rcases h with rfl | rfl | rfl <;> rfl
theorem below3 {k : Nat} (h : k < 3) : k = 0 ∨ k = 1 ∨ k = 2 := by omega
theorem putAll_step (ps : List Nat) : ∀ (ys : List Int) (a : AV) (k : Nat), k < ps.length → k < ys.length → putAll a (ps.take (k + 1)) ys = (putAll a (ps.take k) ys).put (ps.getD k 0) (ys.getD k 0) := by
  induction ps with
  | nil => intro ys a k h; simp at h
  | cons p ps ih =>
    intro ys a k h h'
    cases ys with
    | nil => simp at h'
    | cons y ys =>
      cases k with
      | zero => simp [putAll]
      | succ k =>
        have := ih ys (a.put p y) k (by simpa using h) (by simpa using h')
        simpa [putAll] using this
theorem putK_step (a : AV) (ys : List Int) (k : Nat) (h : k < a.places.length) (hy : k < ys.length) : a.putK ys (k + 1) = (a.putK ys k).put (a.places.getD k 0) (ys.getD k 0) := putAll_step _ _ _ _ h hy
theorem putK_all (a : AV) (ys : List Int) (hy : a.places.length ≤ ys.length) : a.putK ys a.places.length = a.fill ys := by
  unfold AV.putK
  rw [List.take_length]
  unfold AV.places AV.fill at *
  cases h1 : (a.o != 0) <;> cases h2 : a.on.zero <;> cases h3 : a.ar.zero
  all_goals simp only [h1, h2, h3, Bool.false_eq_true, if_true, if_false, List.nil_append, List.append_nil, List.cons_append, List.length_cons, List.length_nil] at hy ⊢
  all_goals rcases ys with _ | ⟨y0, _ | ⟨y1, _ | ⟨y2, ys⟩⟩⟩ <;> first | rfl | (exfalso; simp at hy; done) | (exfalso; simp at hy; omega)
/-- What is not yet set reads as it did. -/
theorem putK_at (a : AV) (ys : List Int) (k : Nat) (h : k < a.places.length) (hy : k ≤ ys.length) : (a.putK ys k).cellAt (a.places.getD k 0) = a.cellAt (a.places.getD k 0) := by
  unfold AV.putK
  unfold AV.places at *
  cases h1 : (a.o != 0) <;> cases h2 : a.on.zero <;> cases h3 : a.ar.zero
  all_goals simp only [h1, h2, h3, Bool.false_eq_true, if_true, if_false, List.nil_append, List.append_nil, List.cons_append, List.length_cons, List.length_nil] at h ⊢
  all_goals
    have hk : k = 0 ∨ k = 1 ∨ k = 2 := by omega
    rcases hk with rfl | rfl | rfl <;> rcases ys with _ | ⟨y0, _ | ⟨y1, _ | ⟨y2, ys⟩⟩⟩ <;> first | rfl | (exfalso; simp at hy; done) | (exfalso; simp at h; done) | (exfalso; omega)
def ones3 : List Int := [1, 1, 1]
theorem slots_takeP (a : AV) (k : Nat) (h : k < a.places.length) : a.slots.take (k + 1) = a.slots.take k ++ [slotN (a.cellAt (a.places.getD k 0))] := by
  unfold AV.slots
  rw [List.take_succ_eq_append_getElem (by simpa using h)]
  simp [List.getD_eq_getElem?_getD, h]
theorem places_mem {a : AV} {k : Nat} (h : k < a.places.length) : a.places.getD k 0 = 6 ∨ a.places.getD k 0 = 10 ∨ a.places.getD k 0 = 14 :=
  places_in (a := a) (by simp [List.getD_eq_getElem?_getD, h])
end Go.Proofs.Ytonkblhajbphmaa
