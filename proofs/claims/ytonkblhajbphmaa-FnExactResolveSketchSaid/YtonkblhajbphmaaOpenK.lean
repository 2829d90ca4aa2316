/- Sketches that come in, opened. Conditions: as each theorem says. -/
import Derived.Test.YtonkblhajbphmaaRows
import Derived.Test.YtonkblhajbphmaaOpenA
import Derived.Test.YtonkblhajbphmaaSk
namespace Go.Proofs.Ytonkblhajbphmaa
set_option linter.unusedSimpArgs false
set_option linter.unusedVariables false
open Go.ChangeShapes Go.WideShapes Go.ChangeAt Go.RowKit Go.Joins Go.Deep

instance : Inhabited SV := ⟨SV.z⟩
section
variable {H : Type} {enc : TypeId × Value → H} {P : Program} {w : World} {base : Nat} {spare : Nat → Bool} {held : Bool}
theorem cells2 {t : TypeId} {f0 f1 : Field} {fuel : Nat} {cs : List Value} {x : DataW H × List MemPlace} (hs : P.underlying t = some (.struct #[f0, f1])) (hC : P.cellsOf t = 2)
    (i0 : P.underlying f0.type = some (.int .i64)) (i1 : P.underlying f1.type = some (.int .i64)) (c0 : P.cellsOf f0.type = 1) (c1 : P.cellsOf f1.type = 1) (k0 : f0.offset = 0) (k1 : f1.offset = 1)
    (h : DataW.trod enc P w base spare held fuel t cs = some x) : ∃ s : SV, cs = s.row := by
  obtain ⟨xs, n, _, hx, hlen, hxl, hg⟩ := DataW.trod_struct hs h
  rw [hC] at hlen
  match cs, hlen with
  | [v0, v1], _ =>
    match xs, hxl with
    | [y0, y1], _ =>
      have g0 := hg 0 f0 rfl
      have g1 := hg 1 f1 rfl
      rw [c0, k0] at g0
      rw [c1, k1] at g1
      simp at g0 g1
      obtain ⟨a, e0, _, _⟩ := DataW.trod_int i0 g0
      obtain ⟨b, e1, _, _⟩ := DataW.trod_int i1 g1
      simp at e0 e1
      subst e0 e1
      exact ⟨⟨a, b⟩, rfl⟩
theorem slice_cell {t e : TypeId} {fuel : Nat} {cs : List Value} {x : DataW H × List MemPlace} (ht : P.underlying t = some (.slice e)) (h : DataW.trod enc P w base spare held fuel t cs = some x) : ∃ A l c, cs = [.slice A l c] := by
  rcases open_slice ht h with ⟨hcs, _⟩ | ⟨x, len, cap, m, _, D, Pl, hcs, _⟩
  · exact ⟨_, _, _, hcs⟩
  · exact ⟨_, _, _, hcs⟩
theorem cells16 {t ta ts e : TypeId} {f0 f1 : Field} {fuel : Nat} {cs : List Value} {x : DataW H × List MemPlace} (hs : P.underlying t = some (.struct #[f0, f1])) (hC : P.cellsOf t = 16) (e0 : f0.type = ta) (e1 : f1.type = ts)
    (c0 : P.cellsOf ta = 15) (c1 : P.cellsOf ts = 1) (k0 : f0.offset = 0) (k1 : f1.offset = 15) (ha : ∀ fuel cs x, DataW.trod enc P w base spare held fuel ta cs = some x → ∃ a : AV, cs = a.row) (hsl : P.underlying ts = some (.slice e))
    (h : DataW.trod enc P w base spare held fuel t cs = some x) : ∃ (a : AV) (A : Option Addr) (l c n : Nat) (y : DataW H × List MemPlace), cs = a.row ++ [.slice A l c] ∧ DataW.trod enc P w base spare held n ts [.slice A l c] = some y := by
  obtain ⟨xs, n, _, hx, hlen, hxl, hg⟩ := DataW.trod_struct hs h
  have hxl' : xs.length = 2 := hxl
  have q0 := hg 0 f0 rfl
  have q1 := hg 1 f1 rfl
  rw [hC] at hlen
  rw [e0, k0, c0, List.getElem?_eq_getElem (by omega)] at q0
  rw [e1, k1, c1, List.getElem?_eq_getElem (by omega)] at q1
  obtain ⟨a, h0⟩ := ha _ _ _ q0
  obtain ⟨A, l, c, h1⟩ := slice_cell hsl q1
  refine ⟨a, A, l, c, n, _, ?_, h1 ▸ q1⟩
  rw [← h0, ← h1]
  match cs, hlen with
  | [v0, v1, v2, v3, v4, v5, v6, v7, v8, v9, v10, v11, v12, v13, v14, v15], _ => rfl
end
set_option maxRecDepth 100000 in
theorem open_sketch {H : Type} {enc : TypeId × Value → H} {w : World} {base b0 : Nat} {r : Reach} {spare : Nat → Bool} {held : Bool} {v : Value} {d : DataW H} {p : List MemPlace} (hv : Value.okWide Try.prog w r b0 30 v) (h : DataW.Trod enc Try.prog w base spare held 30 v d p) :
    ∃ (a : AV) (A : Option Addr) (l c : Nat) (xs : List SV), v = .agg #[Value.int .i64 a.f.d, Value.int .i64 a.f.l, Value.int .i64 a.f.a, Value.int .i64 a.f.b, Value.int .i64 a.o, Value.int .i64 a.l, Value.int .i64 a.t, Value.int .i64 a.on.c, Value.int .i64 a.on.k, Value.int .i64 a.on.a, Value.int .i64 a.on.t, Value.int .i64 a.ar.c, Value.int .i64 a.ar.k, Value.int .i64 a.ar.a, Value.int .i64 a.ar.t, .slice A l c] ∧ l ≤ maxLen ∧ xs.length = l ∧ ReadsK w A xs := by
  obtain ⟨cs, rfl, hsz⟩ := okWide_struct Try.underlying30 hv
  obtain ⟨l⟩ := cs
  obtain ⟨fuel, hl⟩ := h
  obtain ⟨a, A, k, c, n, y, e, q⟩ := cells16 Try.underlying30 (by kernel_rfl) rfl rfl (by kernel_rfl) (by kernel_rfl) rfl rfl (fun fuel cs x hx => cells15 Try.underlying27 Try.underlying23 Try.underlying25 Try.underlying3 (by kernel_rfl) (by kernel_rfl) (by kernel_rfl) (by kernel_rfl) rfl rfl rfl rfl rfl rfl hx) Try.underlying28 hl
  obtain ⟨h1, ys, h2, h3⟩ := open_recs (f := SV.row) (n := 2) (A := A) (l := k) (c := c) Try.underlying28 (by kernel_rfl) (fun fuel cs x hx => cells2 Try.underlying91 (by kernel_rfl) Try.underlying3 Try.underlying3 (by kernel_rfl) (by kernel_rfl) rfl rfl hx) SV.row_len q
  refine ⟨a, A, k, c, ys, ?_, h1, h2, h3 SV.z⟩
  have e' : l = a.row ++ [.slice A k c] := e
  rw [e']
  rfl
end Go.Proofs.Ytonkblhajbphmaa
