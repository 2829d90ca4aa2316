/- What every row's frame needs: two closed facts of the program, and how arguments are opened. Conditions: as each theorem says. -/
import Derived.Test.YtonkblhajbphmaaRows
import Derived.Test.YtonkblhajbphmaaPlain
namespace Go.Proofs.Ytonkblhajbphmaa
set_option linter.unusedSimpArgs false
set_option linter.unusedVariables false
open Go.ChangeShapes Go.WideShapes Go.ChangeAt Go.RowKit Go.Joins Go.Deep

theorem own : ownKnob Try.prog.godebug = none := by kernel_rfl
theorem laidOut : laidOutB Try.prog = true := by kernel_rfl

/-- A slice of integers that came in: nil, or a row of 'cap' cells, the numbers zs (the first 'len' are its elements). -/
def IsRow (k : IntKind) (w : World) (a : Option Addr) (len cap : Nat) (zs : List Int) : Prop :=
  (a = none ∧ len = 0 ∧ cap = 0 ∧ zs = []) ∨
  ∃ x, a = some x ∧ len ≤ cap ∧ cap ≤ maxLen ∧ zs.length = cap ∧ (∀ i, i < zs.length → w.cell? (x.add i) = some (.int k (zs.getD i 0))) ∧ ∀ n ∈ zs, (Lit.int k n).wf = true

section
variable {H : Type} {enc : TypeId × Value → H} {P : Program} {w : World} {base : Nat} {spare : Nat → Bool} {held : Bool}
theorem open_ints4 {r : Reach} {b0 : Nat} {t : TypeId} {f0 f1 f2 f3 : Field} {v : Value} {d : DataW H} {p : List MemPlace} (hs : P.underlying t = some (.struct #[f0, f1, f2, f3]))
    (i0 : P.underlying f0.type = some (.int .i64)) (i1 : P.underlying f1.type = some (.int .i64)) (i2 : P.underlying f2.type = some (.int .i64)) (i3 : P.underlying f3.type = some (.int .i64))
    (hone : oneCellFields P #[f0, f1, f2, f3] = true) (hC : P.cellsOf t = 4)
    (hv : Value.okWide P w r b0 t v) (h : DataW.Trod enc P w base spare held t v d p) :
    ∃ a b c e : Int, v = .agg #[.int .i64 a, .int .i64 b, .int .i64 c, .int .i64 e] ∧ (Lit.int .i64 a).wf = true ∧ (Lit.int .i64 b).wf = true ∧ (Lit.int .i64 c).wf = true ∧ (Lit.int .i64 e).wf = true := by
  obtain ⟨c0, c1, c2, c3, y0, y1, y2, y3, m, rfl, _, _, q0, q1, q2, q3⟩ := open_agg4 hs hone hC hv h
  obtain ⟨a, e0, _, g0⟩ := DataW.trod_int i0 q0
  obtain ⟨b, e1, _, g1⟩ := DataW.trod_int i1 q1
  obtain ⟨c, e2, _, g2⟩ := DataW.trod_int i2 q2
  obtain ⟨e, e3, _, g3⟩ := DataW.trod_int i3 q3
  simp at e0 e1 e2 e3
  subst e0 e1 e2 e3
  exact ⟨a, b, c, e, rfl, g0, g1, g2, g3⟩
theorem open_ints3 {r : Reach} {b0 : Nat} {t : TypeId} {f0 f1 f2 : Field} {v : Value} {d : DataW H} {p : List MemPlace} (hs : P.underlying t = some (.struct #[f0, f1, f2]))
    (i0 : P.underlying f0.type = some (.int .i64)) (i1 : P.underlying f1.type = some (.int .i64)) (i2 : P.underlying f2.type = some (.int .i64))
    (hone : oneCellFields P #[f0, f1, f2] = true) (hC : P.cellsOf t = 3)
    (hv : Value.okWide P w r b0 t v) (h : DataW.Trod enc P w base spare held t v d p) :
    ∃ a b c : Int, v = .agg #[.int .i64 a, .int .i64 b, .int .i64 c] ∧ (Lit.int .i64 a).wf = true ∧ (Lit.int .i64 b).wf = true ∧ (Lit.int .i64 c).wf = true := by
  obtain ⟨c0, c1, c2, y0, y1, y2, m, rfl, _, _, q0, q1, q2⟩ := open_agg3 hs hone hC hv h
  obtain ⟨a, e0, _, g0⟩ := DataW.trod_int i0 q0
  obtain ⟨b, e1, _, g1⟩ := DataW.trod_int i1 q1
  obtain ⟨c, e2, _, g2⟩ := DataW.trod_int i2 q2
  simp at e0 e1 e2
  subst e0 e1 e2
  exact ⟨a, b, c, rfl, g0, g1, g2⟩
theorem ints4 {t : TypeId} {f0 f1 f2 f3 : Field} {fuel : Nat} {cs : List Value} {x : DataW H × List MemPlace} (hs : P.underlying t = some (.struct #[f0, f1, f2, f3])) (hC : P.cellsOf t = 4)
    (i0 : P.underlying f0.type = some (.int .i64)) (i1 : P.underlying f1.type = some (.int .i64)) (i2 : P.underlying f2.type = some (.int .i64)) (i3 : P.underlying f3.type = some (.int .i64))
    (c0 : P.cellsOf f0.type = 1) (c1 : P.cellsOf f1.type = 1) (c2 : P.cellsOf f2.type = 1) (c3 : P.cellsOf f3.type = 1) (k0 : f0.offset = 0) (k1 : f1.offset = 1) (k2 : f2.offset = 2) (k3 : f3.offset = 3)
    (h : DataW.trod enc P w base spare held fuel t cs = some x) : ∃ a b c e : Int, cs = [.int .i64 a, .int .i64 b, .int .i64 c, .int .i64 e] := by
  obtain ⟨xs, n, _, hx, hlen, hxl, hg⟩ := DataW.trod_struct hs h
  rw [hC] at hlen
  match cs, hlen with
  | [v0, v1, v2, v3], _ =>
    match xs, hxl with
    | [y0, y1, y2, y3], _ =>
      have g0 := hg 0 f0 rfl
      have g1 := hg 1 f1 rfl
      have g2 := hg 2 f2 rfl
      have g3 := hg 3 f3 rfl
      rw [c0, k0] at g0
      rw [c1, k1] at g1
      rw [c2, k2] at g2
      rw [c3, k3] at g3
      simp at g0 g1 g2 g3
      obtain ⟨a, e0, _, _⟩ := DataW.trod_int i0 g0
      obtain ⟨b, e1, _, _⟩ := DataW.trod_int i1 g1
      obtain ⟨c, e2, _, _⟩ := DataW.trod_int i2 g2
      obtain ⟨e, e3, _, _⟩ := DataW.trod_int i3 g3
      simp at e0 e1 e2 e3
      subst e0 e1 e2 e3
      exact ⟨a, b, c, e, rfl⟩
/-- Arms by value: fifteen integers. -/
theorem open_arms {r : Reach} {b0 : Nat} {t tf tg ti : TypeId} {v : Value} {d : DataW H} {p : List MemPlace} {af ao al at_ an ar : Field} {f0 f1 f2 f3 g0 g1 g2 g3 : Field}
    (hs : P.underlying t = some (.struct #[af, ao, al, at_, an, ar])) (hf : P.underlying tf = some (.struct #[f0, f1, f2, f3])) (hg : P.underlying tg = some (.struct #[g0, g1, g2, g3])) (hi : P.underlying ti = some (.int .i64))
    (hC : P.cellsOf t = 15) (hCf : P.cellsOf tf = 4) (hCg : P.cellsOf tg = 4) (hCi : P.cellsOf ti = 1)
    (ty : (af.type, ao.type, al.type, at_.type, an.type, ar.type) = (tf, ti, ti, ti, tg, tg)) (off : (af.offset, ao.offset, al.offset, at_.offset, an.offset, ar.offset) = (0, 4, 5, 6, 7, 11))
    (tyf : (f0.type, f1.type, f2.type, f3.type) = (ti, ti, ti, ti)) (offf : (f0.offset, f1.offset, f2.offset, f3.offset) = (0, 1, 2, 3))
    (tyg : (g0.type, g1.type, g2.type, g3.type) = (ti, ti, ti, ti)) (offg : (g0.offset, g1.offset, g2.offset, g3.offset) = (0, 1, 2, 3))
    (hv : Value.okWide P w r b0 t v) (h : DataW.Trod enc P w base spare held t v d p) :
    ∃ a0 a1 a2 a3 a4 a5 a6 a7 a8 a9 a10 a11 a12 a13 a14 : Int, v = .agg #[.int .i64 a0, .int .i64 a1, .int .i64 a2, .int .i64 a3, .int .i64 a4, .int .i64 a5, .int .i64 a6, .int .i64 a7, .int .i64 a8, .int .i64 a9, .int .i64 a10, .int .i64 a11, .int .i64 a12, .int .i64 a13, .int .i64 a14] := by
  simp only [Prod.mk.injEq] at ty off tyf offf tyg offg
  obtain ⟨rfl, t1, t2, t3, t4, t5⟩ := ty
  obtain ⟨o0, o1, o2, o3, o4, o5⟩ := off
  obtain ⟨ff0, ff1, ff2, ff3⟩ := tyf
  obtain ⟨fo0, fo1, fo2, fo3⟩ := offf
  obtain ⟨gg0, gg1, gg2, gg3⟩ := tyg
  obtain ⟨go0, go1, go2, go3⟩ := offg
  obtain ⟨cs, rfl, hsz⟩ := okWide_struct hs hv
  obtain ⟨l⟩ := cs
  obtain ⟨fuel, hl⟩ := h
  obtain ⟨xs, n, _, hx, _, hxl, hgt⟩ := DataW.trod_struct hs hl
  have q0 := hgt 0 af rfl
  have q1 := hgt 1 ao rfl
  have q2 := hgt 2 al rfl
  have q3 := hgt 3 at_ rfl
  have q4 := hgt 4 an rfl
  have q5 := hgt 5 ar rfl
  have hxl' : xs.length = 6 := hxl
  rw [o0, hCf, List.getElem?_eq_getElem (by omega)] at q0
  rw [o1, t1, hCi, List.getElem?_eq_getElem (by omega)] at q1
  rw [o2, t2, hCi, List.getElem?_eq_getElem (by omega)] at q2
  rw [o3, t3, hCi, List.getElem?_eq_getElem (by omega)] at q3
  rw [o4, t4, hCg, List.getElem?_eq_getElem (by omega)] at q4
  rw [o5, t5, hCg, List.getElem?_eq_getElem (by omega)] at q5
  obtain ⟨a0, a1, a2, a3, e0⟩ := ints4 hf hCf (by rw [ff0]; exact hi) (by rw [ff1]; exact hi) (by rw [ff2]; exact hi) (by rw [ff3]; exact hi) (by rw [ff0]; exact hCi) (by rw [ff1]; exact hCi) (by rw [ff2]; exact hCi) (by rw [ff3]; exact hCi) fo0 fo1 fo2 fo3 q0
  obtain ⟨a4, e1, _, _⟩ := DataW.trod_int hi q1
  obtain ⟨a5, e2, _, _⟩ := DataW.trod_int hi q2
  obtain ⟨a6, e3, _, _⟩ := DataW.trod_int hi q3
  obtain ⟨a7, a8, a9, a10, e4⟩ := ints4 hg hCg (by rw [gg0]; exact hi) (by rw [gg1]; exact hi) (by rw [gg2]; exact hi) (by rw [gg3]; exact hi) (by rw [gg0]; exact hCi) (by rw [gg1]; exact hCi) (by rw [gg2]; exact hCi) (by rw [gg3]; exact hCi) go0 go1 go2 go3 q4
  obtain ⟨a11, a12, a13, a14, e5⟩ := ints4 hg hCg (by rw [gg0]; exact hi) (by rw [gg1]; exact hi) (by rw [gg2]; exact hi) (by rw [gg3]; exact hi) (by rw [gg0]; exact hCi) (by rw [gg1]; exact hCi) (by rw [gg2]; exact hCi) (by rw [gg3]; exact hCi) go0 go1 go2 go3 q5
  refine ⟨a0, a1, a2, a3, a4, a5, a6, a7, a8, a9, a10, a11, a12, a13, a14, ?_⟩
  have hl15 : l.length = 15 := by rw [hC] at hsz; simpa using hsz
  match l, hl15 with
  | [v0, v1, v2, v3, v4, v5, v6, v7, v8, v9, v10, v11, v12, v13, v14], _ =>
    simp [Value.cells] at e0 e1 e2 e3 e4 e5
    obtain ⟨rfl, rfl, rfl, rfl⟩ := e0
    obtain ⟨rfl, rfl, rfl, rfl⟩ := e4
    obtain ⟨rfl, rfl, rfl, rfl⟩ := e5
    subst e1 e2 e3
    rfl
end
end Go.Proofs.Ytonkblhajbphmaa
