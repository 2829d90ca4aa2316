/- Plain sketches: appends in drawn regions; the plain side. Conditions: as each theorem says. -/
import Derived.Test.YtonkblhajbphmaaRows
import Derived.Test.YtonkblhajbphmaaSkJ
import Derived.Test.YtonkblhajbphmaaRapp
namespace Go.Proofs.Ytonkblhajbphmaa
set_option linter.unusedSimpArgs false
set_option linter.unusedVariables false
open Go.ChangeShapes Go.WideShapes Go.ChangeAt Go.RowKit

theorem late_appendR {α : Type} {f : α → List Value} {n bts : Nat} {ts e : TypeId} {z : Value} (hf : ∀ x, (f x).length = n) (h1 : ∀ x, ∀ u ∈ f x, u.oneCell' = true) (hn : 0 < n) (hu : Try.prog.underlying ts = some (.slice e))
    (hi : (Try.prog.info? e).map (fun i => (i.zero, i.size, i.bytes)) = some (some z, n, bts)) (hz : z.cells.size = n) (hbts : bts ≤ 1000)
    {o : Oper} {a : Act} {w0 : World} (s x : Operand) (ho : o.op = .call { callee := .builtin .append, args := #[s, x], argTypes := #[ts, ts] }) (v : Value) (xs : List α) (y : α) (B g : Nat) (hs : a.eval s = v)
    (hx : a.eval x = .slice (some ⟨g, 0, none⟩) 1 1) (hb : Blk w0 g e (f y).toArray) (hv : Recs e n f w0 B v xs) (hB : B ≤ w0.heap.size) (hl : xs.length ≤ 1048576) {R : Value → World → Prop}
    (h : ∀ v' w', Recs e n f w' B v' (xs ++ [y]) → w0.grownBy w' v.ownBlock → R v' w') : LateUpon Try.prog R ((execOp a.eval o).run Try.prog w0) := by
  obtain ⟨i0, hi0, hz0, hz1, hz2⟩ := info_parts hi
  have hlb : (xs.length + 1) * bts ≤ 140737488355328 := Nat.le_trans (Nat.mul_le_mul (Nat.succ_le_succ hl) hbts) (by decide)
  obtain ⟨v', w', hr, g1, g2, _⟩ := run_append_own (P := Try.prog) w0 B ts o.type e i0 z n bts hu hi0 hz0 hz1 hz2 hz hn v xs.length (flatR f xs) hv ⟨g, 0, none⟩ 1 1 (f y) (by rw [hf, Nat.one_mul])
    (fun j u hu => by rw [Addr.add_mid, Nat.zero_add, hb.cell]; simpa using hu) (h1 y) (by simp only [maxLen]; omega) hlb hB
  refine late_value (u := v') (w' := w') ?_ (h v' w' ?_ g2)
  · unfold execOp
    simp only [ho, resolve, invoke, builtin, Sem.run_bind, Sem.run_pure, Result.andThen_ok, List.map_toArray, List.map_cons, List.map_nil, hs, hx, hr]
  · unfold Recs
    rw [flatR_app]
    have e1 : flatR f [y] = f y := by simp [flatR]
    rw [e1]
    simpa using g1
def slotN (n : Int) : SV := ⟨1, n⟩
def AV.slots (a : AV) : List SV := a.places.map fun k => slotN (a.cellAt k)
theorem slots_len (a : AV) : a.slots.length ≤ 3 := by
  unfold AV.slots
  rw [List.length_map]
  exact places_len a
theorem tL_places {a : AV} (h0 : 0 ≤ a.o) : a.tL = a.ft ++ a.places.map a.cellAt := by
  unfold AV.tL AV.places addIf
  have e : decide (0 < a.o) = (a.o != 0) := by
    rw [Bool.eq_iff_iff]
    simp
    omega
  rw [e]
  cases (a.o != 0) <;> cases a.on.zero <;> cases a.ar.zero <;> simp [AV.cellAt]
theorem slots_take {a : AV} (h0 : 0 ≤ a.o) (j : Nat) (h : a.ft.length + j < a.tL.length) : a.slots.take (j + 1) = a.slots.take j ++ [slotN (a.tL.getD (a.ft.length + j) 0)] := by
  rw [tL_places h0] at h ⊢
  have hj : j < a.places.length := by simpa using h
  have e : (a.ft ++ a.places.map a.cellAt).getD (a.ft.length + j) 0 = a.cellAt a.places[j] := by
    rw [List.getD_eq_getElem?_getD, List.getElem?_append_right (by omega)]
    simp [hj]
  rw [e]
  unfold AV.slots
  rw [List.take_succ_eq_append_getElem (by simpa using hj)]
  simp
theorem slots_all {a : AV} (h0 : 0 ≤ a.o) (j : Nat) (h : ¬ a.ft.length + j < a.tL.length) : a.slots.take j = a.slots := by
  rw [tL_places h0] at h
  rw [List.take_of_length_le]
  unfold AV.slots
  simp at h ⊢
  omega
theorem ft_le_tL {a : AV} (h0 : 0 ≤ a.o) : a.ft.length ≤ a.tL.length ∧ a.tL.length ≤ a.ft.length + 3 := by
  rw [tL_places h0]
  have := places_len a
  simp
  omega
theorem slot_one : ∀ s : SV, ∀ u ∈ s.row, u.oneCell' = true := fun s u hu => by
  simp [SV.row] at hu
  rcases hu with rfl | rfl <;> rfl
/-- The sketch in the making: the header h in its block, the slots v, the list vl beside them. -/
def PL (a : AV) (w : World) (gk g2 : Nat) (vl : Value) (h v : Value) (ys : List SV) (W : World) : Prop :=
  Slots W w.heap.size v ys ∧ (∃ Bl, Ints W Bl vl a.tL) ∧ Blk W gk 40 #[Value.int .i64 a.bare.f.d, Value.int .i64 a.bare.f.l, Value.int .i64 a.bare.f.a, Value.int .i64 a.bare.f.b, Value.int .i64 a.bare.o, Value.int .i64 a.bare.l, Value.int .i64 a.bare.t, Value.int .i64 a.bare.on.c, Value.int .i64 a.bare.on.k, Value.int .i64 a.bare.on.a, Value.int .i64 a.bare.on.t, Value.int .i64 a.bare.ar.c, Value.int .i64 a.bare.ar.k, Value.int .i64 a.bare.ar.a, Value.int .i64 a.bare.ar.t, h] ∧ Blk W g2 40 #[Value.int .i64 AV.none.f.d, Value.int .i64 AV.none.f.l, Value.int .i64 AV.none.f.a, Value.int .i64 AV.none.f.b, Value.int .i64 AV.none.o, Value.int .i64 AV.none.l, Value.int .i64 AV.none.t, Value.int .i64 AV.none.on.c, Value.int .i64 AV.none.on.k, Value.int .i64 AV.none.on.a, Value.int .i64 AV.none.on.t, Value.int .i64 AV.none.ar.c, Value.int .i64 AV.none.ar.k, Value.int .i64 AV.none.ar.a, Value.int .i64 AV.none.ar.t, .slice none 0 0] ∧ Below w.heap.size w W
section
variable {a : AV} {w W W' : World} {gk g2 : Nat} {vl h v v' : Value} {ys : List SV} {s : SV}
theorem PL.below (H : PL a w gk g2 vl h v ys W) (hb : Below W.heap.size W W') : PL a w gk g2 vl h v ys W' := ⟨H.1.below hb, H.2.1.imp fun _ hi => hi.below hb, H.2.2.1.below hb, H.2.2.2.1.below hb, bstep H.2.2.2.2 hb⟩
theorem PL.app (H : PL a w gk g2 vl h v ys W) (hi : Recs 79 2 SV.row W' w.heap.size v' (ys ++ [s])) (hg : W.grownBy W' v.ownBlock) : PL a w gk g2 vl h v' (ys ++ [s]) W' :=
  ⟨hi, H.2.1.imp fun _ hl => Ints.kept hl hg (own_diff hl H.1 (by decide)), H.2.2.1.grown hg (own_blk_ne H.1 H.2.2.1 (by decide)), H.2.2.2.1.grown hg (own_blk_ne H.1 H.2.2.2.1 (by decide)), grown_below H.2.2.2.2 hg fun q hq => (H.1.lt q hq).1⟩
theorem PL.store (H : PL a w gk g2 vl h v ys W) (hne : g2 ≠ gk) (hk : w.heap.size ≤ gk) : PL a w gk g2 vl v v ys (W.setCell ⟨gk, 15, none⟩ v) := by
  have hg := setCell_grown W gk 15 v
  refine ⟨World.ownsRow.kept H.1 hg ?_, H.2.1.imp fun _ hl => World.ownsRow.kept hl hg ?_, H.2.2.1.set_ 15 v, H.2.2.2.1.past hg hne, bgrown H.2.2.2.2 hg hk⟩
  · have := own_blk_ne H.1 H.2.2.1 (by decide)
    cases hv : v.ownBlock with
    | none => exact .inl rfl
    | some k => exact .inr fun e => this (by rw [hv, e])
  · have := own_blk_ne hl H.2.2.1 (by decide)
    cases hv : vl.ownBlock with
    | none => exact .inl rfl
    | some k => exact .inr fun e => this (by rw [hv, e])
end
end Go.Proofs.Ytonkblhajbphmaa
