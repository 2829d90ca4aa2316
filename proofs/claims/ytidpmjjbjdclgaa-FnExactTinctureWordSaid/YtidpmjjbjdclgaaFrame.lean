/- What every row's frame needs: two closed facts of the program, and how arguments are opened. Conditions: as each theorem says. -/
import Derived.Test.YtidpmjjbjdclgaaRows
import Derived.Test.YtidpmjjbjdclgaaPlain
namespace Go.Proofs.Ytidpmjjbjdclgaa
open Go.ChangeShapes Go.WideShapes Go.ChangeAt Go.RowKit Go.Joins Go.Deep

theorem own : ownKnob Try.prog.godebug = none := by kernel_rfl
theorem laidOut : laidOutB Try.prog = true := by kernel_rfl

/-- A slice of integers that came in: nil, or a row of 'cap' cells, the numbers zs (the first 'len' are its elements). -/
def IsRow (k : IntKind) (w : World) (a : Option Addr) (len cap : Nat) (zs : List Int) : Prop :=
  (a = none ∧ len = 0 ∧ cap = 0 ∧ zs = []) ∨
  ∃ x, a = some x ∧ len ≤ cap ∧ cap ≤ maxLen ∧ zs.length = cap ∧ (∀ i, i < zs.length → w.cell? (x.add i) = some (.int k (zs.getD i 0))) ∧ ∀ n ∈ zs, (Lit.int k n).wf = true

section
variable {H : Type} {enc : TypeId × Value → H} {P : Program} {w : World} {base : Nat} {spare : Nat → Bool} {held : Bool}
theorem open_ints4 {r : Reach} {b0 : Nat} {t : TypeId} {f0 f1 f2 f3 : Field} {v : Value} {d : DataW H} {p : List MemPlace} (hs : P.underlying t = some (.struct #[f0, f1, f2, f3]))
    (i0 : P.underlying f0.type = some (.int .i64)) (i1 : P.underlying f1.type = some (.int .i64)) (i2 : P.underlying f2.type = some (.int .i64)) (i3 : P.underlying f3.type = some (.int .i64))
    (hone : oneCellFields P #[f0, f1, f2, f3] = true) (hC : P.cellsOf t = 4)
    (hv : Value.okWide P w r b0 t v) (h : DataW.Trod enc P w base spare held t v d p) :
    ∃ a b c e : Int, v = .agg #[.int .i64 a, .int .i64 b, .int .i64 c, .int .i64 e] ∧ (Lit.int .i64 a).wf = true ∧ (Lit.int .i64 b).wf = true ∧ (Lit.int .i64 c).wf = true ∧ (Lit.int .i64 e).wf = true := by
  obtain ⟨c0, c1, c2, c3, y0, y1, y2, y3, m, rfl, _, _, q0, q1, q2, q3⟩ := open_agg4 hs hone hC hv h
  obtain ⟨a, e0, _, g0⟩ := DataW.trod_int i0 q0
  obtain ⟨b, e1, _, g1⟩ := DataW.trod_int i1 q1
  obtain ⟨c, e2, _, g2⟩ := DataW.trod_int i2 q2
  obtain ⟨e, e3, _, g3⟩ := DataW.trod_int i3 q3
  simp at e0 e1 e2 e3
  subst e0 e1 e2 e3
  exact ⟨a, b, c, e, rfl, g0, g1, g2, g3⟩
theorem open_ints3 {r : Reach} {b0 : Nat} {t : TypeId} {f0 f1 f2 : Field} {v : Value} {d : DataW H} {p : List MemPlace} (hs : P.underlying t = some (.struct #[f0, f1, f2]))
    (i0 : P.underlying f0.type = some (.int .i64)) (i1 : P.underlying f1.type = some (.int .i64)) (i2 : P.underlying f2.type = some (.int .i64))
    (hone : oneCellFields P #[f0, f1, f2] = true) (hC : P.cellsOf t = 3)
    (hv : Value.okWide P w r b0 t v) (h : DataW.Trod enc P w base spare held t v d p) :
    ∃ a b c : Int, v = .agg #[.int .i64 a, .int .i64 b, .int .i64 c] ∧ (Lit.int .i64 a).wf = true ∧ (Lit.int .i64 b).wf = true ∧ (Lit.int .i64 c).wf = true := by
  obtain ⟨c0, c1, c2, y0, y1, y2, m, rfl, _, _, q0, q1, q2⟩ := open_agg3 hs hone hC hv h
  obtain ⟨a, e0, _, g0⟩ := DataW.trod_int i0 q0
  obtain ⟨b, e1, _, g1⟩ := DataW.trod_int i1 q1
  obtain ⟨c, e2, _, g2⟩ := DataW.trod_int i2 q2
  simp at e0 e1 e2
  subst e0 e1 e2
  exact ⟨a, b, c, rfl, g0, g1, g2⟩
end
end Go.Proofs.Ytidpmjjbjdclgaa
