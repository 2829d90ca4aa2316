/- Sketches: plain definitions. No program in sight. Conditions: as each theorem says. -/
import Derived.Test.YtonkblhajbphmaaSk
namespace Go.Proofs.Ytonkblhajbphmaa
set_option linter.unusedSimpArgs false
set_option linter.unusedVariables false
open Go.RowKit

def slotOk (s : SV) : Bool := if s.m = 1 then inB 1 s.n 9 else if s.m = 3 then inB 1 s.n 3 else inB 2 s.m 5 && s.n == 0
/-- Where the tinctures behind the field stand. -/
def AV.places (a : AV) : List Nat := (if a.o != 0 then [6] else []) ++ ((if a.on.zero then [] else [10]) ++ (if a.ar.zero then [] else [14]))
def AV.cellAt (a : AV) (k : Nat) : Int := [a.f.d, a.f.l, a.f.a, a.f.b, a.o, a.l, a.t, a.on.c, a.on.k, a.on.a, a.on.t, a.ar.c, a.ar.k, a.ar.a, a.ar.t].getD k 0
/-- The arms with these tinctures behind the field. -/
def AV.fill (a : AV) (xs : List Int) : AV :=
  { a with t := if a.o != 0 then xs.getD 0 0 else a.t,
           on := if a.on.zero then a.on else { a.on with t := xs.getD (if a.o != 0 then 1 else 0) 0 },
           ar := if a.ar.zero then a.ar else { a.ar with t := xs.getD ((if a.o != 0 then 1 else 0) + (if a.on.zero then 0 else 1)) 0 } }
def AV.bare (a : AV) : AV := a.fill [1, 1, 1]
theorem places_len (a : AV) : a.places.length ≤ 3 := by
  unfold AV.places
  cases (a.o != 0) <;> cases a.on.zero <;> cases a.ar.zero <;> simp
theorem layers_places (a : AV) : a.layers = 1 + (a.places.length : Int) := by
  unfold AV.layers AV.places b2i
  cases (a.o != 0) <;> cases a.on.zero <;> cases a.ar.zero <;> simp
theorem places_in {a : AV} {k : Nat} (h : k ∈ a.places) : k = 6 ∨ k = 10 ∨ k = 14 := by
  unfold AV.places at h
  revert h
  cases (a.o != 0) <;> cases a.on.zero <;> cases a.ar.zero <;> simp <;> omega
theorem bare_all (a : AV) : gEq a.f.d a.f.l a.f.a a.f.b a.bare.f.d a.bare.f.l a.bare.f.a a.bare.f.b = true := by simp [AV.bare, AV.fill, gEq]
/-- The tinctures behind the field are all gold. -/
def AV.golden (a : AV) : Bool := a.places.all fun k => a.cellAt k == 1
theorem places_lt {a : AV} {j : Nat} (h : j < a.places.length) : a.places.getD j 0 < 15 := by
  have := places_in (a := a) (k := a.places.getD j 0) (by simp [List.getD_eq_getElem?_getD, h])
  omega
/-- The last slot is not left out. -/
def lastOk (xs : List SV) : Bool := !(decide (0 < xs.length) && (xs.getD (xs.length - 1) SV.z).m == 5)
/-- Is the sketch valid? -/
def skOk (a : AV) (xs : List SV) : Bool := a.ok && (a.golden && (xs.length == a.places.length && (xs.all slotOk && lastOk xs)))
/-- The first that a test holds of. -/
def idxP {α : Type} (p : α → Bool) : List α → Nat → Int
  | [], _ => -1
  | a :: l, i => if p a then (i : Int) else idxP p l (i + 1)
theorem idxP_step {α : Type} (p : α → Bool) (d : α) (xs : List α) (k : Nat) (h : k < xs.length) : idxP p (xs.drop k) k = if p (xs.getD k d) then (k : Int) else idxP p (xs.drop (k + 1)) (k + 1) := by
  rw [List.drop_eq_getElem_cons h]
  simp [idxP, List.getD_eq_getElem?_getD, h]
theorem idxP_any {α : Type} (p : α → Bool) (xs : List α) (k : Nat) : (decide (0 ≤ idxP p xs k)) = xs.any p := by
  induction xs generalizing k with
  | nil => simp [idxP]
  | cons x xs ih =>
    unfold idxP
    cases h : p x
    · simp [ih, h]
    · simp [h]
theorem idxP_range {α : Type} (p : α → Bool) (xs : List α) (k : Nat) : -1 ≤ idxP p xs k ∧ idxP p xs k < (k : Int) + xs.length := by
  induction xs generalizing k with
  | nil => simp [idxP]; omega
  | cons x xs ih =>
    have := ih (k + 1)
    unfold idxP
    split <;> simp <;> omega
theorem any_not {α : Type} (p : α → Bool) (xs : List α) : xs.any (fun x => !p x) = !xs.all p := by
  induction xs with
  | nil => rfl
  | cons x xs ih => simp [ih]
end Go.Proofs.Ytonkblhajbphmaa
