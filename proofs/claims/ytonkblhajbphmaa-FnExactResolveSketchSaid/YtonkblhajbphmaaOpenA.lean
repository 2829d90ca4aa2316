/- Slices of arms that come in, opened. Conditions: as each theorem says. -/
import Derived.Test.YtonkblhajbphmaaRows
import Derived.Test.YtonkblhajbphmaaFrame
import Derived.Test.YtonkblhajbphmaaSimp
import Derived.Deep.Slices
namespace Go.Proofs.Ytonkblhajbphmaa
set_option linter.unusedSimpArgs false
set_option linter.unusedVariables false
open Go.ChangeShapes Go.WideShapes Go.ChangeAt Go.RowKit Go.Joins Go.Deep

instance : Inhabited AV := ⟨AV.none⟩
section
variable {H : Type} {enc : TypeId × Value → H} {P : Program} {w : World} {base : Nat} {spare : Nat → Bool} {held : Bool}
theorem cells15 {t tf tg ti : TypeId} {fuel : Nat} {cs : List Value} {x : DataW H × List MemPlace} {af ao al at_ an ar : Field} {f0 f1 f2 f3 g0 g1 g2 g3 : Field}
    (hs : P.underlying t = some (.struct #[af, ao, al, at_, an, ar])) (hf : P.underlying tf = some (.struct #[f0, f1, f2, f3])) (hg : P.underlying tg = some (.struct #[g0, g1, g2, g3])) (hi : P.underlying ti = some (.int .i64))
    (hC : P.cellsOf t = 15) (hCf : P.cellsOf tf = 4) (hCg : P.cellsOf tg = 4) (hCi : P.cellsOf ti = 1)
    (ty : (af.type, ao.type, al.type, at_.type, an.type, ar.type) = (tf, ti, ti, ti, tg, tg)) (off : (af.offset, ao.offset, al.offset, at_.offset, an.offset, ar.offset) = (0, 4, 5, 6, 7, 11))
    (tyf : (f0.type, f1.type, f2.type, f3.type) = (ti, ti, ti, ti)) (offf : (f0.offset, f1.offset, f2.offset, f3.offset) = (0, 1, 2, 3))
    (tyg : (g0.type, g1.type, g2.type, g3.type) = (ti, ti, ti, ti)) (offg : (g0.offset, g1.offset, g2.offset, g3.offset) = (0, 1, 2, 3))
    (h : DataW.trod enc P w base spare held fuel t cs = some x) : ∃ a : AV, cs = a.row := by
  simp only [Prod.mk.injEq] at ty off tyf offf tyg offg
  obtain ⟨rfl, t1, t2, t3, t4, t5⟩ := ty
  obtain ⟨o0, o1, o2, o3, o4, o5⟩ := off
  obtain ⟨ff0, ff1, ff2, ff3⟩ := tyf
  obtain ⟨fo0, fo1, fo2, fo3⟩ := offf
  obtain ⟨gg0, gg1, gg2, gg3⟩ := tyg
  obtain ⟨go0, go1, go2, go3⟩ := offg
  obtain ⟨xs, n, _, hx, hl15, hxl, hgt⟩ := DataW.trod_struct hs h
  have q0 := hgt 0 af rfl
  have q1 := hgt 1 ao rfl
  have q2 := hgt 2 al rfl
  have q3 := hgt 3 at_ rfl
  have q4 := hgt 4 an rfl
  have q5 := hgt 5 ar rfl
  have hxl' : xs.length = 6 := hxl
  rw [o0, hCf, List.getElem?_eq_getElem (by omega)] at q0
  rw [o1, t1, hCi, List.getElem?_eq_getElem (by omega)] at q1
  rw [o2, t2, hCi, List.getElem?_eq_getElem (by omega)] at q2
  rw [o3, t3, hCi, List.getElem?_eq_getElem (by omega)] at q3
  rw [o4, t4, hCg, List.getElem?_eq_getElem (by omega)] at q4
  rw [o5, t5, hCg, List.getElem?_eq_getElem (by omega)] at q5
  obtain ⟨a0, a1, a2, a3, e0⟩ := ints4 hf hCf (by rw [ff0]; exact hi) (by rw [ff1]; exact hi) (by rw [ff2]; exact hi) (by rw [ff3]; exact hi) (by rw [ff0]; exact hCi) (by rw [ff1]; exact hCi) (by rw [ff2]; exact hCi) (by rw [ff3]; exact hCi) fo0 fo1 fo2 fo3 q0
  obtain ⟨a4, e1, _, _⟩ := DataW.trod_int hi q1
  obtain ⟨a5, e2, _, _⟩ := DataW.trod_int hi q2
  obtain ⟨a6, e3, _, _⟩ := DataW.trod_int hi q3
  obtain ⟨a7, a8, a9, a10, e4⟩ := ints4 hg hCg (by rw [gg0]; exact hi) (by rw [gg1]; exact hi) (by rw [gg2]; exact hi) (by rw [gg3]; exact hi) (by rw [gg0]; exact hCi) (by rw [gg1]; exact hCi) (by rw [gg2]; exact hCi) (by rw [gg3]; exact hCi) go0 go1 go2 go3 q4
  obtain ⟨a11, a12, a13, a14, e5⟩ := ints4 hg hCg (by rw [gg0]; exact hi) (by rw [gg1]; exact hi) (by rw [gg2]; exact hi) (by rw [gg3]; exact hi) (by rw [gg0]; exact hCi) (by rw [gg1]; exact hCi) (by rw [gg2]; exact hCi) (by rw [gg3]; exact hCi) go0 go1 go2 go3 q5
  refine ⟨⟨⟨a0, a1, a2, a3⟩, a4, a5, a6, ⟨a7, a8, a9, a10⟩, ⟨a11, a12, a13, a14⟩⟩, ?_⟩
  rw [hC] at hl15
  match cs, hl15 with
  | [v0, v1, v2, v3, v4, v5, v6, v7, v8, v9, v10, v11, v12, v13, v14], _ =>
    simp at e0 e1 e2 e3 e4 e5
    obtain ⟨rfl, rfl, rfl, rfl⟩ := e0
    obtain ⟨rfl, rfl, rfl, rfl⟩ := e4
    obtain ⟨rfl, rfl, rfl, rfl⟩ := e5
    subst e1 e2 e3
    rfl
theorem open_recs {α : Type} [Inhabited α] {f : α → List Value} {t e : TypeId} {n : Nat} {fuel : Nat} {A : Option Addr} {l c : Nat} {x : DataW H × List MemPlace} (ht : P.underlying t = some (.slice e)) (hC : P.cellsOf e = n)
    (hcell : ∀ fuel cs x, DataW.trod enc P w base spare held fuel e cs = some x → ∃ a : α, cs = f a) (hf : ∀ a, (f a).length = n) (h : DataW.trod enc P w base spare held fuel t [.slice A l c] = some x) :
    l ≤ maxLen ∧ ∃ xs : List α, xs.length = l ∧ ∀ d k, k < xs.length → ∃ x : Addr, A = some x ∧ RangeX w (x.add (k * n)) (f (xs.getD k d)) := by
  rcases open_slice ht h with ⟨hcs, _⟩ | ⟨x, len, cap, m, _, D, Pl, hcs, hb, hl, hm, hmm, _, hx⟩
  · simp at hcs
    obtain ⟨rfl, rfl, rfl⟩ := hcs
    exact ⟨by simp [maxLen], [], rfl, fun d k hk => by simp at hk⟩
  · simp at hcs
    obtain ⟨rfl, rfl, rfl⟩ := hcs
    have hle : l ≤ m := by rw [hmm]; split <;> omega
    obtain ⟨g, hg⟩ := choose_lt (n := l) (p := fun i (a : α) => w.cells? base (x.add (i * n)) n = some (f a)) (fun i hi => by
      obtain ⟨cs', h1, h2⟩ := hx i (by omega)
      rw [hC] at h1
      obtain ⟨a, rfl⟩ := hcell _ _ _ h2
      exact ⟨a, h1⟩)
    refine ⟨by omega, (List.range l).map g, by simp, fun d k hk => ⟨x, rfl, fun j v hv => ?_⟩⟩
    have hk' : k < l := by simpa using hk
    have e1 : ((List.range l).map g).getD k d = g k := by simp [List.getD_eq_getElem?_getD, hk']
    rw [e1] at hv
    have hj : j < n := by rw [← hf (g k)]; exact (List.getElem?_eq_some_iff.1 hv).1
    obtain ⟨_, _, hcc⟩ := World.cells?_some (hg k hk')
    rw [hcc j hj]
    exact hv
end
theorem open_armsS {H : Type} {enc : TypeId × Value → H} {w : World} {base : Nat} {spare : Nat → Bool} {held : Bool} {A : Option Addr} {l c : Nat} {d : DataW H} {p : List MemPlace} (h : DataW.Trod enc Try.prog w base spare held 45 (.slice A l c) d p) :
    l ≤ maxLen ∧ ∃ xs : List AV, xs.length = l ∧ ReadsA w A xs := by
  obtain ⟨fuel, hf⟩ := h
  obtain ⟨h1, xs, h2, h3⟩ := open_recs (f := AV.row) (n := 15) (A := A) (l := l) (c := c) Try.underlying45 (by kernel_rfl) (fun fuel cs x hx => cells15 Try.underlying27 Try.underlying23 Try.underlying25 Try.underlying3 (by kernel_rfl) (by kernel_rfl) (by kernel_rfl) (by kernel_rfl) rfl rfl rfl rfl rfl rfl hx) AV.row_len hf
  exact ⟨h1, xs, h2, h3 AV.none⟩
end Go.Proofs.Ytonkblhajbphmaa
