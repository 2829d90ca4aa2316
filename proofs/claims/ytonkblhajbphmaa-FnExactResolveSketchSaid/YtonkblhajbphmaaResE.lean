/- Sketches resolved by the program: the lists in the making. Conditions: as each theorem says. -/
import Derived.Test.YtonkblhajbphmaaRows
import Derived.Test.YtonkblhajbphmaaResD
namespace Go.Proofs.Ytonkblhajbphmaa
set_option linter.unusedSimpArgs false
set_option linter.unusedVariables false
open Go.ChangeShapes Go.WideShapes Go.ChangeAt Go.RowKit

theorem row_field : RowTy Try.prog 32 4 := ⟨⟨_, Try.underlying32, rfl⟩, by kernel_rfl⟩
theorem late_make {o : Oper} {a : Act} {w : World} (l c : Operand) (n : Nat) (hop : o.op = Op.makeSlice 61 l c) (hl : a.eval l = .int .i64 (n : Int)) (hc : a.eval c = .int .i64 (n : Int)) (hn : n ≤ 1048576) {R : Value → World → Prop}
    (h : ∀ w', Ints w' w.heap.size (.slice (some ⟨w.heap.size, 0, none⟩) n n) (List.replicate n 0) → w.grownBy w' none → R (.slice (some ⟨w.heap.size, 0, none⟩) n n) w') : LateUpon Try.prog R ((execOp a.eval o).run Try.prog w) := by
  obtain ⟨i0, hi0, hz0, hz1, hz2⟩ := info_parts int_info
  obtain ⟨w', hrun, r1, r2⟩ := run_make_full (P := Try.prog) w w.heap.size 61 3 i0 (.int .i64 0) 1 Try.underlying61 hi0 hz0 hz1 .i64 .i64 n (by rw [hz2]; omega) (by simp only [maxLen]; omega) (Nat.le_refl _)
  refine late_value (u := .slice (some ⟨w.heap.size, 0, none⟩) n n) (w' := w') ?_ (h w' ?_ r2)
  · simp [execOp, hop, hl, hc, hrun, Result.andThen]
  · unfold Ints
    have h3 : (madeCells (Value.int .i64 0).cells n).toList = List.replicate n (Value.int .i64 0) := toList_madeCells_one _ _
    rw [Nat.mul_one, h3] at r1
    simpa using r1
/-- The lists in the making: those mentioned, the tinctures, the last ones. -/
structure RS (a : AV) (h : Value) (n go gl : Nat) (w : World) (vM : Value) (M O L : List Int) (W : World) : Prop where
  m : Ints W w.heap.size vM M
  o : Ints W w.heap.size (.slice (some ⟨go, 0, none⟩) n n) O
  l : Ints W w.heap.size (.slice (some ⟨gl, 0, none⟩) n n) L
  own : ∃ gm, vM.ownBlock = some gm ∧ gm ≠ go ∧ gm ≠ gl
  ne : go ≠ gl
  box : Blk W w.heap.size 40 #[Value.int .i64 a.f.d, Value.int .i64 a.f.l, Value.int .i64 a.f.a, Value.int .i64 a.f.b, Value.int .i64 a.o, Value.int .i64 a.l, Value.int .i64 a.t, Value.int .i64 a.on.c, Value.int .i64 a.on.k, Value.int .i64 a.on.a, Value.int .i64 a.on.t, Value.int .i64 a.ar.c, Value.int .i64 a.ar.k, Value.int .i64 a.ar.a, Value.int .i64 a.ar.t, h]
  bel : Below w.heap.size w W
section
variable {a : AV} {h vM v' : Value} {n go gl : Nat} {w W W' : World} {M O L : List Int} {y : Int} {k : Nat}
theorem RS.below (H : RS a h n go gl w vM M O L W) (hb : Below W.heap.size W W') : RS a h n go gl w vM M O L W' := ⟨H.m.below hb, H.o.below hb, H.l.below hb, H.own, H.ne, H.box.below hb, bstep H.bel hb⟩
theorem RS.golt (H : RS a h n go gl w vM M O L W) : w.heap.size ≤ go ∧ go < W.heap.size ∧ w.heap.size ≤ gl ∧ gl < W.heap.size := by
  obtain ⟨h1, h2⟩ := World.ownsRow.lt H.o go rfl
  obtain ⟨h3, h4⟩ := World.ownsRow.lt H.l gl rfl
  exact ⟨h1, h2, h3, h4⟩
theorem RS.appM (H : RS a h n go gl w vM M O L W) (hi : Ints W' w.heap.size v' (M ++ [y])) (hg : W.grownBy W' vM.ownBlock) (hat : v'.ownBlock = vM.ownBlock ∨ v'.ownBlock = some (W.heap.size + 1)) : RS a h n go gl w v' (M ++ [y]) O L W' := by
  obtain ⟨gm, em, h1, h2⟩ := H.own
  obtain ⟨_, h3, _, h4⟩ := H.golt
  refine ⟨hi, H.o.kept hg (.inr (by rw [em]; exact fun e => h1 (by injection e with e; exact e.symm))), H.l.kept hg (.inr (by rw [em]; exact fun e => h2 (by injection e with e; exact e.symm))), ?_, H.ne, H.box.grown hg (own_blk_ne H.m H.box (by decide)), grown_below H.bel hg fun q hq => (World.ownsRow.lt H.m q hq).1⟩
  rcases hat with e | e
  · exact ⟨gm, e.trans em, h1, h2⟩
  · exact ⟨_, e, by omega, by omega⟩
theorem RS.putO (H : RS a h n go gl w vM M O L W) : RS a h n go gl w vM M (O.set k y) L (W.setCell ⟨go, k, none⟩ (.int .i64 y)) := by
  have hg := setCell_grown W go k (.int .i64 y)
  obtain ⟨gm, em, h1, h2⟩ := H.own
  obtain ⟨h3, _, _, _⟩ := H.golt
  refine ⟨World.ownsRow.kept H.m hg (.inr (by rw [em]; exact fun e => h1 (by injection e))), H.o.put k y, World.ownsRow.kept H.l hg (.inr (fun e => H.ne (by simp only [Value.ownBlock, Option.some.injEq] at e; exact e.symm))), H.own, H.ne, ?_, bgrown H.bel hg h3⟩
  exact H.box.grown hg (fun e => own_blk_ne H.o H.box (by decide) (by simpa [Value.ownBlock] using e))
theorem RS.putL (H : RS a h n go gl w vM M O L W) : RS a h n go gl w vM M O (L.set k y) (W.setCell ⟨gl, k, none⟩ (.int .i64 y)) := by
  have hg := setCell_grown W gl k (.int .i64 y)
  obtain ⟨gm, em, h1, h2⟩ := H.own
  obtain ⟨_, _, h3, _⟩ := H.golt
  refine ⟨World.ownsRow.kept H.m hg (.inr (by rw [em]; exact fun e => h2 (by injection e))), World.ownsRow.kept H.o hg (.inr (fun e => H.ne (by simp only [Value.ownBlock, Option.some.injEq] at e; exact e))), H.l.put k y, H.own, H.ne, ?_, bgrown H.bel hg h3⟩
  exact H.box.grown hg (fun e => own_blk_ne H.l H.box (by decide) (by simpa [Value.ownBlock] using e))
theorem RS.facts (H : RS a h n go gl w vM M O L W) : (∀ i, W.cell? ⟨w.heap.size, i, none⟩ = (#[Value.int .i64 a.f.d, Value.int .i64 a.f.l, Value.int .i64 a.f.a, Value.int .i64 a.f.b, Value.int .i64 a.o, Value.int .i64 a.l, Value.int .i64 a.t, Value.int .i64 a.on.c, Value.int .i64 a.on.k, Value.int .i64 a.on.a, Value.int .i64 a.on.t, Value.int .i64 a.ar.c, Value.int .i64 a.ar.k, Value.int .i64 a.ar.a, Value.int .i64 a.ar.t, h] : Array Value)[i]?) ∧ w.heap.size < W.heap.size := H.box.facts
end
/-- What is known so far, zeros behind. -/
def withZ (n : Nat) (O : List Int) : List Int := O ++ List.replicate (n - O.length) 0
theorem withZ_set {n : Nat} {O : List Int} (h : O.length < n) (t : Int) : (withZ n O).set O.length t = withZ n (O ++ [t]) := by
  unfold withZ
  obtain ⟨m, hm⟩ : ∃ m, n - O.length = m + 1 := ⟨n - O.length - 1, by omega⟩
  rw [hm, List.replicate_succ, List.set_append_right _ _ (Nat.le_refl _), Nat.sub_self, List.set_cons_zero]
  have : n - (O ++ [t]).length = m := by simp; omega
  rw [this]
  simp
theorem withZ_skip {n : Nat} {O : List Int} (h : O.length < n) : withZ n O = withZ n (O ++ [0]) := by
  unfold withZ
  obtain ⟨m, hm⟩ : ∃ m, n - O.length = m + 1 := ⟨n - O.length - 1, by omega⟩
  rw [hm, List.replicate_succ]
  have : n - (O ++ [(0 : Int)]).length = m := by simp; omega
  rw [this]
  simp
theorem withZ_len {n : Nat} {O : List Int} (h : O.length ≤ n) : (withZ n O).length = n := by
  unfold withZ
  simp
  omega
theorem withZ_all {n : Nat} {O : List Int} (h : O.length = n) : withZ n O = O := by
  unfold withZ
  rw [h, Nat.sub_self]
  simp
theorem withZ_nil (n : Nat) : withZ n [] = List.replicate n 0 := rfl
def RetRd (a : AV) (ss : List SV) (w : World) (e : Ending) (w' : World) : Prop := ∃ v u b, e = .returned (.tuple #[v, u, .bool b]) ∧ ((b = true ∧ ∃ M O, stK a ss ss.length = some (M, O) ∧ O.length = ss.length ∧ Ints w' w.heap.size v (nx O)) ∨ (b = false ∧ stK a ss ss.length = none)) ∧ Below w.heap.size w w'
end Go.Proofs.Ytonkblhajbphmaa
