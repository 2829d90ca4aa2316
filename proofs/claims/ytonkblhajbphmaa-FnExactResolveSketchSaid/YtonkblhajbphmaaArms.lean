/- Contracts of the functions on arms. Conditions: as each theorem says. -/
import Derived.Test.YtonkblhajbphmaaRows
import Derived.Test.YtonkblhajbphmaaText
import Derived.Test.YtonkblhajbphmaaGdiff
import Derived.Test.YtonkblhajbphmaaLists
import Derived.Deep.MidRow
import Derived.Laws.ResultCell
namespace Go.Proofs.Ytonkblhajbphmaa
set_option linter.unusedSimpArgs false
set_option linter.unusedVariables false
open Go.ChangeShapes Go.WideShapes Go.ChangeAt Go.RowKit

/-! ### whole variables of arms -/
theorem info_arms : (Try.prog.info? 35).map (·.size) = some 15 := by kernel_rfl
section
variable {ops : Array Oper} {rest : List Oper} {o : Oper} {a : Act} {w : World} {Q : Exit → Act → World → Prop} {g : Nat} {t : TypeId} {cs cs0 : Array Value} {fn : Func} {R : Ending → World → Prop}
theorem wp_ldA (hgd : o.guard = none) (x : Operand) (ho : o.op = .load 35 x) (hx : a.eval x = .pointer (some ⟨g, 0, none⟩)) (hb : Blk w g t cs) (hz : cs.size = 15)
    (h : wpList Try.prog ops Q rest (a.put o.dst (.agg cs)) w) : wpList Try.prog ops Q (o :: rest) a w := by
  obtain ⟨l⟩ := cs
  refine wpList_load_mid hgd 35 x ho g 0 hx l _ (fun j v hv => ?_) Try.underlying35 rfl (by rw [info_arms]; exact congrArg some hz.symm) h
  rw [Nat.zero_add, hb.cell j]
  simpa using hv
theorem wp_stA (hgd : o.guard = none) (x y : Operand) (ho : o.op = .store 35 x y) (hx : a.eval x = .pointer (some ⟨g, 0, none⟩)) (hy : a.eval y = .agg cs) (hb : Blk w g t cs0) (hz0 : cs0.size = 15) (hz : cs.size = 15)
    (h1 : cs.all (·.oneCell') = true) (h : ∀ w', w.grownBy w' (some g) → Blk w' g t cs → wpList Try.prog ops Q rest (a.put o.dst undef) w') : wpList Try.prog ops Q (o :: rest) a w := by
  refine wpList_store_mid hgd 35 x y ho g 0 cs hx hy (fun j hj => ?_) (by rw [info_arms, hz]) h1 (h _ (setCells_grown _ _ _ _) ?_)
  · rw [Nat.zero_add, hb.cell j, hb.free j]
    exact ⟨by simp; omega, rfl⟩
  · exact (by simpa using setCells_block g t cs.toList 0 w [] cs0.toList rfl (by simp [hz0, hz]) (by simpa [Blk] using hb) : w.setCells g 0 cs.toList |>.heap[g]? = some (.cells cs t (0, 0)))
theorem ret_rowA {p : Tmp} (h : fn.results = #[.cell p 35]) (hp : a.tmps.getD p undef = .pointer (some ⟨g, 0, none⟩)) (hb : Blk w g t cs) (hz : cs.size = 15) (hdf : a.defers = []) (hR : R (.returned (.agg cs)) w) :
    bodyPost Try.prog fn R .ret a w :=
  bodyPost_ret (results_cell_row h _ w g t cs (0, 0) _ hp hb Try.underlying35 rfl (by rw [info_arms, hz])) hdf hR
theorem ret_rowA2 {p u : Tmp} (h : fn.results = #[.cell p 35, .tmp u]) (hp : a.tmps.getD p undef = .pointer (some ⟨g, 0, none⟩)) (hb : Blk w g t cs) (hz : cs.size = 15) (hdf : a.defers = []) {v : Value} (hv : a.tmps.getD u undef = v)
    (hR : R (.returned (.tuple #[.agg cs, v])) w) : bodyPost Try.prog fn R .ret a w := by
  subst hv
  refine bodyPost_ret ?_ hdf hR
  have hl := run_loadVar_row w g t 35 cs (0, 0) _ hb Try.underlying35 rfl (by rw [info_arms, hz])
  rw [results_cell_tmp h, hp]
  simp [asAddr, hl]
end
set_option maxHeartbeats 1000000 in
theorem laws_toArms (a : AV) (w : World) : Calls Try.prog 19 #[.agg #[.int .i64 a.f.d, .int .i64 a.f.l, .int .i64 a.f.a, .int .i64 a.f.b, .int .i64 a.o, .int .i64 a.l, .int .i64 a.t, .int .i64 a.on.c, .int .i64 a.on.k, .int .i64 a.on.a, .int .i64 a.on.t, .int .i64 a.ar.c, .int .i64 a.ar.k, .int .i64 a.ar.a, .int .i64 a.ar.t]] w fun e w' => e = .returned (.agg #[.int .i64 a.f.d, .int .i64 a.f.l, .int .i64 a.f.a, .int .i64 a.f.b, .int .i64 a.o, .int .i64 a.l, .int .i64 a.t, .int .i64 a.on.c, .int .i64 a.on.k, .int .i64 a.on.a, .int .i64 a.on.t, .int .i64 a.ar.c, .int .i64 a.ar.k, .int .i64 a.ar.a, .int .i64 a.ar.t]) ∧ Below w.heap.size w w' := by
  go_enter Try.func19, Try.ntmps19
  go_wp2_with fail
  refine (laws_toField _ _ _ _ _).mono ?_
  rintro e w1 ⟨rfl, hb1⟩
  obtain ⟨B0, B1, B2⟩ := blk_new3 hb1
  have hW : Below w.heap.size w w1 := bstep (by repeat (first | (with_reducible exact Below.refl _ _) | (with_reducible assumption) | (with_reducible refine balloc ?_ _) | (with_reducible refine bdrew ?_) | (with_reducible refine bdrewN ?_ _) | (with_reducible refine bset ?_ (by first | omega | (simp; done) | (simp; omega)) _) | (with_reducible refine bstep ?_ (by assumption)))) hb1
  obtain ⟨c0, z0⟩ := B0.facts
  obtain ⟨c2, f2, z2⟩ := B2.all
  go_wp2_with fail
  refine calls_sets w1 (w.heap.size + 1 + 1) [(0, Value.int .i64 a.f.d), (1, Value.int .i64 a.f.l), (2, Value.int .i64 a.f.a), (3, Value.int .i64 a.f.b), (4, Value.int .i64 a.o), (5, Value.int .i64 a.l), (6, Value.int .i64 a.t)] ?_
  have B0' := B0.setsFar [(0, Value.int .i64 a.f.d), (1, Value.int .i64 a.f.l), (2, Value.int .i64 a.f.a), (3, Value.int .i64 a.f.b), (4, Value.int .i64 a.o), (5, Value.int .i64 a.l), (6, Value.int .i64 a.t)] (g := w.heap.size + 1 + 1) (by omega)
  have B1' := B1.setsFar [(0, Value.int .i64 a.f.d), (1, Value.int .i64 a.f.l), (2, Value.int .i64 a.f.a), (3, Value.int .i64 a.f.b), (4, Value.int .i64 a.o), (5, Value.int .i64 a.l), (6, Value.int .i64 a.t)] (g := w.heap.size + 1 + 1) (by omega)
  have B2' : Blk _ _ _ #[Value.int .i64 a.f.d, Value.int .i64 a.f.l, Value.int .i64 a.f.a, Value.int .i64 a.f.b, Value.int .i64 a.o, Value.int .i64 a.l, Value.int .i64 a.t, Value.int .i64 0, Value.int .i64 0, Value.int .i64 0, Value.int .i64 0, Value.int .i64 0, Value.int .i64 0, Value.int .i64 0, Value.int .i64 0] := B2.sets [(0, Value.int .i64 a.f.d), (1, Value.int .i64 a.f.l), (2, Value.int .i64 a.f.a), (3, Value.int .i64 a.f.b), (4, Value.int .i64 a.o), (5, Value.int .i64 a.l), (6, Value.int .i64 a.t)]
  have hW' := bsets [(0, Value.int .i64 a.f.d), (1, Value.int .i64 a.f.l), (2, Value.int .i64 a.f.a), (3, Value.int .i64 a.f.b), (4, Value.int .i64 a.o), (5, Value.int .i64 a.l), (6, Value.int .i64 a.t)] (g := w.heap.size + 1 + 1) hW (by omega)
  generalize setsW w1 (w.heap.size + 1 + 1) [(0, Value.int .i64 a.f.d), (1, Value.int .i64 a.f.l), (2, Value.int .i64 a.f.a), (3, Value.int .i64 a.f.b), (4, Value.int .i64 a.o), (5, Value.int .i64 a.l), (6, Value.int .i64 a.t)] = W at *
  clear c0 c2 f2 z2 z0 B0 B1 B2 hW hb1
  refine (laws_toGroup _ _ _ _ _).mono ?_
  rintro e w2 ⟨rfl, hb2⟩
  have B0 := B0'.below hb2
  have B1 := B1'.below hb2
  have B2 := B2'.below hb2
  have hW := bstep hW' hb2
  obtain ⟨c0, z0⟩ := B0.facts
  obtain ⟨c2, f2, z2⟩ := B2.all
  clear B0' B1' B2' hW' hb2
  go_wp2_with fail
  refine calls_sets w2 (w.heap.size + 1 + 1) [(7, Value.int .i64 a.on.c), (8, Value.int .i64 a.on.k), (9, Value.int .i64 a.on.a), (10, Value.int .i64 a.on.t)] ?_
  have B0' := B0.setsFar [(7, Value.int .i64 a.on.c), (8, Value.int .i64 a.on.k), (9, Value.int .i64 a.on.a), (10, Value.int .i64 a.on.t)] (g := w.heap.size + 1 + 1) (by omega)
  have B1' := B1.setsFar [(7, Value.int .i64 a.on.c), (8, Value.int .i64 a.on.k), (9, Value.int .i64 a.on.a), (10, Value.int .i64 a.on.t)] (g := w.heap.size + 1 + 1) (by omega)
  have B2' : Blk _ _ _ #[Value.int .i64 a.f.d, Value.int .i64 a.f.l, Value.int .i64 a.f.a, Value.int .i64 a.f.b, Value.int .i64 a.o, Value.int .i64 a.l, Value.int .i64 a.t, Value.int .i64 a.on.c, Value.int .i64 a.on.k, Value.int .i64 a.on.a, Value.int .i64 a.on.t, Value.int .i64 0, Value.int .i64 0, Value.int .i64 0, Value.int .i64 0] := B2.sets [(7, Value.int .i64 a.on.c), (8, Value.int .i64 a.on.k), (9, Value.int .i64 a.on.a), (10, Value.int .i64 a.on.t)]
  have hW' := bsets [(7, Value.int .i64 a.on.c), (8, Value.int .i64 a.on.k), (9, Value.int .i64 a.on.a), (10, Value.int .i64 a.on.t)] (g := w.heap.size + 1 + 1) hW (by omega)
  generalize setsW w2 (w.heap.size + 1 + 1) [(7, Value.int .i64 a.on.c), (8, Value.int .i64 a.on.k), (9, Value.int .i64 a.on.a), (10, Value.int .i64 a.on.t)] = W at *
  clear c0 c2 f2 z2 z0 B0 B1 B2 hW
  refine (laws_toGroup _ _ _ _ _).mono ?_
  rintro e w3 ⟨rfl, hb3⟩
  have B0 := B0'.below hb3
  have B1 := B1'.below hb3
  have B2 := B2'.below hb3
  have hW := bstep hW' hb3
  obtain ⟨c1, f1, z1⟩ := B1.all
  obtain ⟨c2, f2, z2⟩ := B2.all
  clear B0' B1' B2' hW' hb3
  go_upto_region 8 with fail
  refine calls_sets' w3 (w.heap.size + 1 + 1) [(11, Value.int .i64 a.ar.c), (12, Value.int .i64 a.ar.k), (13, Value.int .i64 a.ar.a), (14, Value.int .i64 a.ar.t)] ?_
  have B1' := B1.setsFar [(11, Value.int .i64 a.ar.c), (12, Value.int .i64 a.ar.k), (13, Value.int .i64 a.ar.a), (14, Value.int .i64 a.ar.t)] (g := w.heap.size + 1 + 1) (by omega)
  have B2' : Blk _ _ _ #[Value.int .i64 a.f.d, Value.int .i64 a.f.l, Value.int .i64 a.f.a, Value.int .i64 a.f.b, Value.int .i64 a.o, Value.int .i64 a.l, Value.int .i64 a.t, Value.int .i64 a.on.c, Value.int .i64 a.on.k, Value.int .i64 a.on.a, Value.int .i64 a.on.t, Value.int .i64 a.ar.c, Value.int .i64 a.ar.k, Value.int .i64 a.ar.a, Value.int .i64 a.ar.t] := B2.sets [(11, Value.int .i64 a.ar.c), (12, Value.int .i64 a.ar.k), (13, Value.int .i64 a.ar.a), (14, Value.int .i64 a.ar.t)]
  have hW' := bsets [(11, Value.int .i64 a.ar.c), (12, Value.int .i64 a.ar.k), (13, Value.int .i64 a.ar.a), (14, Value.int .i64 a.ar.t)] (g := w.heap.size + 1 + 1) hW (by omega)
  generalize setsW w3 (w.heap.size + 1 + 1) [(11, Value.int .i64 a.ar.c), (12, Value.int .i64 a.ar.k), (13, Value.int .i64 a.ar.a), (14, Value.int .i64 a.ar.t)] = W at *
  clear c1 f1 z1 c2 f2 z2 B1 B2 hW
  apply wp_region_lit
  refine wp_ldA rfl _ rfl rfl B2' rfl ?_
  refine wp_stA rfl _ _ rfl rfl rfl B1' rfl rfl (by simp [Value.oneCell']) fun W' hg hb => ?_
  go_wp2
  refine ret_rowA rfl rfl hb rfl rfl ?_
  exact ⟨rfl, hW'.grown hg hW'.size (fun k hk => by injection hk with hk; omega)⟩
set_option maxHeartbeats 1000000 in
theorem laws_eqArms (a : AV) (w : World) : Calls Try.prog 11 #[.agg #[.int .i64 a.f.d, .int .i64 a.f.l, .int .i64 a.f.a, .int .i64 a.f.b, .int .i64 a.o, .int .i64 a.l, .int .i64 a.t, .int .i64 a.on.c, .int .i64 a.on.k, .int .i64 a.on.a, .int .i64 a.on.t, .int .i64 a.ar.c, .int .i64 a.ar.k, .int .i64 a.ar.a, .int .i64 a.ar.t], .agg #[.int .i64 a.f.d, .int .i64 a.f.l, .int .i64 a.f.a, .int .i64 a.f.b, .int .i64 a.o, .int .i64 a.l, .int .i64 a.t, .int .i64 a.on.c, .int .i64 a.on.k, .int .i64 a.on.a, .int .i64 a.on.t, .int .i64 a.ar.c, .int .i64 a.ar.k, .int .i64 a.ar.a, .int .i64 a.ar.t]] w fun e w' => e = .returned (.bool true) ∧ Below w.heap.size w w' := by
  go_enter Try.func11, Try.ntmps11
  go_upto_region 1 with (fail)
  obtain ⟨BA, BB⟩ := blk_two w 35 35 #[Value.int .i64 a.f.d, Value.int .i64 a.f.l, Value.int .i64 a.f.a, Value.int .i64 a.f.b, Value.int .i64 a.o, Value.int .i64 a.l, Value.int .i64 a.t, Value.int .i64 a.on.c, Value.int .i64 a.on.k, Value.int .i64 a.on.a, Value.int .i64 a.on.t, Value.int .i64 a.ar.c, Value.int .i64 a.ar.k, Value.int .i64 a.ar.a, Value.int .i64 a.ar.t] #[Value.int .i64 a.f.d, Value.int .i64 a.f.l, Value.int .i64 a.f.a, Value.int .i64 a.f.b, Value.int .i64 a.o, Value.int .i64 a.l, Value.int .i64 a.t, Value.int .i64 a.on.c, Value.int .i64 a.on.k, Value.int .i64 a.on.a, Value.int .i64 a.on.t, Value.int .i64 a.ar.c, Value.int .i64 a.ar.k, Value.int .i64 a.ar.a, Value.int .i64 a.ar.t]
  have hW : Below w.heap.size w ((w.alloc (.cells #[Value.int .i64 a.f.d, Value.int .i64 a.f.l, Value.int .i64 a.f.a, Value.int .i64 a.f.b, Value.int .i64 a.o, Value.int .i64 a.l, Value.int .i64 a.t, Value.int .i64 a.on.c, Value.int .i64 a.on.k, Value.int .i64 a.on.a, Value.int .i64 a.on.t, Value.int .i64 a.ar.c, Value.int .i64 a.ar.k, Value.int .i64 a.ar.a, Value.int .i64 a.ar.t] 35)).alloc (.cells #[Value.int .i64 a.f.d, Value.int .i64 a.f.l, Value.int .i64 a.f.a, Value.int .i64 a.f.b, Value.int .i64 a.o, Value.int .i64 a.l, Value.int .i64 a.t, Value.int .i64 a.on.c, Value.int .i64 a.on.k, Value.int .i64 a.on.a, Value.int .i64 a.on.t, Value.int .i64 a.ar.c, Value.int .i64 a.ar.k, Value.int .i64 a.ar.a, Value.int .i64 a.ar.t] 35)) := (by repeat (first | (with_reducible exact Below.refl _ _) | (with_reducible assumption) | (with_reducible refine balloc ?_ _) | (with_reducible refine bdrew ?_) | (with_reducible refine bdrewN ?_ _) | (with_reducible refine bset ?_ (by first | omega | (simp; done) | (simp; omega)) _) | (with_reducible refine bstep ?_ (by assumption))))
  generalize ((w.alloc (.cells #[Value.int .i64 a.f.d, Value.int .i64 a.f.l, Value.int .i64 a.f.a, Value.int .i64 a.f.b, Value.int .i64 a.o, Value.int .i64 a.l, Value.int .i64 a.t, Value.int .i64 a.on.c, Value.int .i64 a.on.k, Value.int .i64 a.on.a, Value.int .i64 a.on.t, Value.int .i64 a.ar.c, Value.int .i64 a.ar.k, Value.int .i64 a.ar.a, Value.int .i64 a.ar.t] 35)).alloc (.cells #[Value.int .i64 a.f.d, Value.int .i64 a.f.l, Value.int .i64 a.f.a, Value.int .i64 a.f.b, Value.int .i64 a.o, Value.int .i64 a.l, Value.int .i64 a.t, Value.int .i64 a.on.c, Value.int .i64 a.on.k, Value.int .i64 a.on.a, Value.int .i64 a.on.t, Value.int .i64 a.ar.c, Value.int .i64 a.ar.k, Value.int .i64 a.ar.a, Value.int .i64 a.ar.t] 35)) = W at *
  obtain ⟨c1, z1⟩ := BA.facts
  obtain ⟨c2, z2⟩ := BB.facts
  go_wp2_with (first
    | (go_at_call 31; refine (laws_eqField _ _ _ _ _).mono ?_; rintro e w1 ⟨rfl, hb1⟩; clear c1 z1 c2 z2; replace BA := BA.below hb1; replace BB := BB.below hb1; obtain ⟨c1, z1⟩ := BA.facts; obtain ⟨c2, z2⟩ := BB.facts; replace hW := bstep hW hb1; clear hb1)
    | (go_at_call 32; refine (laws_eqGroup _ _ _ _ _).mono ?_; rintro e w1 ⟨rfl, hb1⟩; clear c1 z1 c2 z2; replace BA := BA.below hb1; replace BB := BB.below hb1; obtain ⟨c1, z1⟩ := BA.facts; obtain ⟨c2, z2⟩ := BB.facts; replace hW := bstep hW hb1; clear hb1))
  go_ret
  exact ⟨rfl, hW⟩
set_option maxHeartbeats 1000000 in
theorem impl_IsValidArms (a : AV) (w : World) : Calls Try.prog 38 #[.agg #[.int .i64 a.f.d, .int .i64 a.f.l, .int .i64 a.f.a, .int .i64 a.f.b, .int .i64 a.o, .int .i64 a.l, .int .i64 a.t, .int .i64 a.on.c, .int .i64 a.on.k, .int .i64 a.on.a, .int .i64 a.on.t, .int .i64 a.ar.c, .int .i64 a.ar.k, .int .i64 a.ar.a, .int .i64 a.ar.t]] w fun e w' => e = .returned (.bool a.ok) ∧ Below w.heap.size w w' := by
  have he0 := eqg_group
  have he1 := eql_group
  go_enter Try.func38, Try.ntmps38
  go_upto_region 1 with (fail)
  have B := Blk.new w 35 #[Value.int .i64 a.f.d, Value.int .i64 a.f.l, Value.int .i64 a.f.a, Value.int .i64 a.f.b, Value.int .i64 a.o, Value.int .i64 a.l, Value.int .i64 a.t, Value.int .i64 a.on.c, Value.int .i64 a.on.k, Value.int .i64 a.on.a, Value.int .i64 a.on.t, Value.int .i64 a.ar.c, Value.int .i64 a.ar.k, Value.int .i64 a.ar.a, Value.int .i64 a.ar.t]
  have hW : Below w.heap.size w (w.alloc (.cells #[Value.int .i64 a.f.d, Value.int .i64 a.f.l, Value.int .i64 a.f.a, Value.int .i64 a.f.b, Value.int .i64 a.o, Value.int .i64 a.l, Value.int .i64 a.t, Value.int .i64 a.on.c, Value.int .i64 a.on.k, Value.int .i64 a.on.a, Value.int .i64 a.on.t, Value.int .i64 a.ar.c, Value.int .i64 a.ar.k, Value.int .i64 a.ar.a, Value.int .i64 a.ar.t] 35)) := (by repeat (first | (with_reducible exact Below.refl _ _) | (with_reducible assumption) | (with_reducible refine balloc ?_ _) | (with_reducible refine bdrew ?_) | (with_reducible refine bdrewN ?_ _) | (with_reducible refine bset ?_ (by first | omega | (simp; done) | (simp; omega)) _) | (with_reducible refine bstep ?_ (by assumption))))
  generalize w.alloc (.cells #[Value.int .i64 a.f.d, Value.int .i64 a.f.l, Value.int .i64 a.f.a, Value.int .i64 a.f.b, Value.int .i64 a.o, Value.int .i64 a.l, Value.int .i64 a.t, Value.int .i64 a.on.c, Value.int .i64 a.on.k, Value.int .i64 a.on.a, Value.int .i64 a.on.t, Value.int .i64 a.ar.c, Value.int .i64 a.ar.k, Value.int .i64 a.ar.a, Value.int .i64 a.ar.t] 35) = W at *
  obtain ⟨c1, z1⟩ := B.facts
  go_wp2_with (first | (go_at_call 67; refine (impl_IsValidField _ _ _ _ _).mono ?_; rintro e w1 ⟨rfl, hb1⟩; clear c1 z1; replace B := B.below hb1; obtain ⟨c1, z1⟩ := B.facts; replace hW := bstep hW hb1; clear hb1) | (go_at_call 68; refine (impl_isGroup _ _ _ _ _).mono ?_; rintro e w1 ⟨rfl, hb1⟩; clear c1 z1; replace B := B.below hb1; obtain ⟨c1, z1⟩ := B.facts; replace hW := bstep hW hb1; clear hb1) | (go_at_call 69; refine (impl_isOrdinary _ _ _ _).mono ?_; rintro e w' ⟨rfl, rfl⟩))
  all_goals go_ret
  all_goals exact ⟨by unfold AV.ok FV.ok GV.fine GV.zero; simp_all [gEq_zero], hW⟩
theorem inB_ord {o : Int} (h : ¬ o = 0) : inB 1 o 7 = inB 0 o 7 := by
  rw [Bool.eq_iff_iff, inB_true, inB_true]
  omega
theorem inB_zero (o : Int) (h : inB 0 o 7 = false) : ¬ o = 0 := fun e => by subst e; simp [inB] at h
set_option maxHeartbeats 1000000 in
theorem spec_l5Good (a : AV) (w : World) : Calls Try.prog 35 #[.agg #[.int .i64 a.f.d, .int .i64 a.f.l, .int .i64 a.f.a, .int .i64 a.f.b, .int .i64 a.o, .int .i64 a.l, .int .i64 a.t, .int .i64 a.on.c, .int .i64 a.on.k, .int .i64 a.on.a, .int .i64 a.on.t, .int .i64 a.ar.c, .int .i64 a.ar.k, .int .i64 a.ar.a, .int .i64 a.ar.t]] w fun e w' => e = .returned (.bool a.ok) ∧ Below w.heap.size w w' := by
  go_enter Try.func35, Try.ntmps35
  go_upto_region 1 with (fail)
  have B := Blk.new w 35 #[Value.int .i64 a.f.d, Value.int .i64 a.f.l, Value.int .i64 a.f.a, Value.int .i64 a.f.b, Value.int .i64 a.o, Value.int .i64 a.l, Value.int .i64 a.t, Value.int .i64 a.on.c, Value.int .i64 a.on.k, Value.int .i64 a.on.a, Value.int .i64 a.on.t, Value.int .i64 a.ar.c, Value.int .i64 a.ar.k, Value.int .i64 a.ar.a, Value.int .i64 a.ar.t]
  have hW : Below w.heap.size w (w.alloc (.cells #[Value.int .i64 a.f.d, Value.int .i64 a.f.l, Value.int .i64 a.f.a, Value.int .i64 a.f.b, Value.int .i64 a.o, Value.int .i64 a.l, Value.int .i64 a.t, Value.int .i64 a.on.c, Value.int .i64 a.on.k, Value.int .i64 a.on.a, Value.int .i64 a.on.t, Value.int .i64 a.ar.c, Value.int .i64 a.ar.k, Value.int .i64 a.ar.a, Value.int .i64 a.ar.t] 35)) := (by repeat (first | (with_reducible exact Below.refl _ _) | (with_reducible assumption) | (with_reducible refine balloc ?_ _) | (with_reducible refine bdrew ?_) | (with_reducible refine bdrewN ?_ _) | (with_reducible refine bset ?_ (by first | omega | (simp; done) | (simp; omega)) _) | (with_reducible refine bstep ?_ (by assumption))))
  generalize w.alloc (.cells #[Value.int .i64 a.f.d, Value.int .i64 a.f.l, Value.int .i64 a.f.a, Value.int .i64 a.f.b, Value.int .i64 a.o, Value.int .i64 a.l, Value.int .i64 a.t, Value.int .i64 a.on.c, Value.int .i64 a.on.k, Value.int .i64 a.on.a, Value.int .i64 a.on.t, Value.int .i64 a.ar.c, Value.int .i64 a.ar.k, Value.int .i64 a.ar.a, Value.int .i64 a.ar.t] 35) = W at *
  obtain ⟨c1, z1⟩ := B.facts
  go_wp2_with (first | (go_at_call 62; refine (spec_l3Good _ _ _ _ _).mono ?_; rintro e w1 ⟨rfl, hb1⟩; clear c1 z1; replace B := B.below hb1; obtain ⟨c1, z1⟩ := B.facts; replace hW := bstep hW hb1; clear hb1) | (go_at_call 63; refine (spec_l4None _ _ _ _ _).mono ?_; rintro e w1 ⟨rfl, hb1⟩; clear c1 z1; replace B := B.below hb1; obtain ⟨c1, z1⟩ := B.facts; replace hW := bstep hW hb1; clear hb1) | (go_at_call 64; refine (spec_l4Group _ _ _ _ _).mono ?_; rintro e w1 ⟨rfl, hb1⟩; clear c1 z1; replace B := B.below hb1; obtain ⟨c1, z1⟩ := B.facts; replace hW := bstep hW hb1; clear hb1) | (go_at_call 34; refine (spec_l1In _ _ _ _).mono ?_; rintro e w' ⟨rfl, rfl⟩) | (go_at_call 65; refine (spec_l3Line _ _).mono ?_; rintro e w' ⟨rfl, rfl⟩) | (go_at_call 66; refine (spec_l2Good _ _).mono ?_; rintro e w' ⟨rfl, rfl⟩))
  all_goals go_ret
  all_goals exact ⟨by unfold AV.ok FV.ok GV.fine GV.zero; clear B c1 z1 hW; have q := inB_zero a.o; simp_all [gFine, ordOk, inB_ord], hW⟩
theorem impl_Arms_charges (a : AV) (h : a.ok = true) (w : World) : Calls Try.prog 40 #[.agg #[.int .i64 a.f.d, .int .i64 a.f.l, .int .i64 a.f.a, .int .i64 a.f.b, .int .i64 a.o, .int .i64 a.l, .int .i64 a.t, .int .i64 a.on.c, .int .i64 a.on.k, .int .i64 a.on.a, .int .i64 a.on.t, .int .i64 a.ar.c, .int .i64 a.ar.k, .int .i64 a.ar.a, .int .i64 a.ar.t]] w fun e w' => e = .returned (.int .i64 a.charges) ∧ Below w.heap.size w w' := by
  obtain ⟨h1, h2, h3, h4⟩ := ok_count h
  clear h
  go_enter Try.func40, Try.ntmps40
  go_upto_region 1 with (fail)
  have B := Blk.new w 35 #[Value.int .i64 a.f.d, Value.int .i64 a.f.l, Value.int .i64 a.f.a, Value.int .i64 a.f.b, Value.int .i64 a.o, Value.int .i64 a.l, Value.int .i64 a.t, Value.int .i64 a.on.c, Value.int .i64 a.on.k, Value.int .i64 a.on.a, Value.int .i64 a.on.t, Value.int .i64 a.ar.c, Value.int .i64 a.ar.k, Value.int .i64 a.ar.a, Value.int .i64 a.ar.t]
  have hW : Below w.heap.size w (w.alloc (.cells #[Value.int .i64 a.f.d, Value.int .i64 a.f.l, Value.int .i64 a.f.a, Value.int .i64 a.f.b, Value.int .i64 a.o, Value.int .i64 a.l, Value.int .i64 a.t, Value.int .i64 a.on.c, Value.int .i64 a.on.k, Value.int .i64 a.on.a, Value.int .i64 a.on.t, Value.int .i64 a.ar.c, Value.int .i64 a.ar.k, Value.int .i64 a.ar.a, Value.int .i64 a.ar.t] 35)) := (by repeat (first | (with_reducible exact Below.refl _ _) | (with_reducible assumption) | (with_reducible refine balloc ?_ _) | (with_reducible refine bdrew ?_) | (with_reducible refine bdrewN ?_ _) | (with_reducible refine bset ?_ (by first | omega | (simp; done) | (simp; omega)) _) | (with_reducible refine bstep ?_ (by assumption))))
  generalize w.alloc (.cells #[Value.int .i64 a.f.d, Value.int .i64 a.f.l, Value.int .i64 a.f.a, Value.int .i64 a.f.b, Value.int .i64 a.o, Value.int .i64 a.l, Value.int .i64 a.t, Value.int .i64 a.on.c, Value.int .i64 a.on.k, Value.int .i64 a.on.a, Value.int .i64 a.on.t, Value.int .i64 a.ar.c, Value.int .i64 a.ar.k, Value.int .i64 a.ar.a, Value.int .i64 a.ar.t] 35) = W at *
  obtain ⟨c1, z1⟩ := B.facts
  go_wp2
  go_ret
  exact ⟨rfl, hW⟩
theorem impl_number_b (b : Bool) (w : World) : Calls Try.prog 70 #[.bool b] w fun e w' => e = .returned (.int .i64 (b2i b)) ∧ Below w.heap.size w w' :=
  (impl_number b w).mono fun e w' ⟨he, hw⟩ => ⟨he, hw ▸ Below.refl _ _⟩
theorem impl_Arms_layers (a : AV) (w : World) : Calls Try.prog 39 #[.agg #[.int .i64 a.f.d, .int .i64 a.f.l, .int .i64 a.f.a, .int .i64 a.f.b, .int .i64 a.o, .int .i64 a.l, .int .i64 a.t, .int .i64 a.on.c, .int .i64 a.on.k, .int .i64 a.on.a, .int .i64 a.on.t, .int .i64 a.ar.c, .int .i64 a.ar.k, .int .i64 a.ar.a, .int .i64 a.ar.t]] w fun e w' => e = .returned (.int .i64 a.layers) ∧ Below w.heap.size w w' := by
  have he0 := eqg_group
  have he1 := neq_group
  have r1 := b2i_range (a.o != 0)
  have r2 := b2i_range (!gEq a.on.c a.on.k a.on.a a.on.t 0 0 0 0)
  have r3 := b2i_range (!gEq a.ar.c a.ar.k a.ar.a a.ar.t 0 0 0 0)
  go_enter Try.func39, Try.ntmps39
  go_upto_region 1 with (fail)
  have B := Blk.new w 35 #[Value.int .i64 a.f.d, Value.int .i64 a.f.l, Value.int .i64 a.f.a, Value.int .i64 a.f.b, Value.int .i64 a.o, Value.int .i64 a.l, Value.int .i64 a.t, Value.int .i64 a.on.c, Value.int .i64 a.on.k, Value.int .i64 a.on.a, Value.int .i64 a.on.t, Value.int .i64 a.ar.c, Value.int .i64 a.ar.k, Value.int .i64 a.ar.a, Value.int .i64 a.ar.t]
  have hW : Below w.heap.size w (w.alloc (.cells #[Value.int .i64 a.f.d, Value.int .i64 a.f.l, Value.int .i64 a.f.a, Value.int .i64 a.f.b, Value.int .i64 a.o, Value.int .i64 a.l, Value.int .i64 a.t, Value.int .i64 a.on.c, Value.int .i64 a.on.k, Value.int .i64 a.on.a, Value.int .i64 a.on.t, Value.int .i64 a.ar.c, Value.int .i64 a.ar.k, Value.int .i64 a.ar.a, Value.int .i64 a.ar.t] 35)) := (by repeat (first | (with_reducible exact Below.refl _ _) | (with_reducible assumption) | (with_reducible refine balloc ?_ _) | (with_reducible refine bdrew ?_) | (with_reducible refine bdrewN ?_ _) | (with_reducible refine bset ?_ (by first | omega | (simp; done) | (simp; omega)) _) | (with_reducible refine bstep ?_ (by assumption))))
  generalize w.alloc (.cells #[Value.int .i64 a.f.d, Value.int .i64 a.f.l, Value.int .i64 a.f.a, Value.int .i64 a.f.b, Value.int .i64 a.o, Value.int .i64 a.l, Value.int .i64 a.t, Value.int .i64 a.on.c, Value.int .i64 a.on.k, Value.int .i64 a.on.a, Value.int .i64 a.on.t, Value.int .i64 a.ar.c, Value.int .i64 a.ar.k, Value.int .i64 a.ar.a, Value.int .i64 a.ar.t] 35) = W at *
  obtain ⟨c1, z1⟩ := B.facts
  have HC : Hid (∀ w', Below W.heap.size W w' → ∀ i, w'.cell? ⟨w.heap.size, i, none⟩ = (#[Value.int .i64 a.f.d, Value.int .i64 a.f.l, Value.int .i64 a.f.a, Value.int .i64 a.f.b, Value.int .i64 a.o, Value.int .i64 a.l, Value.int .i64 a.t, Value.int .i64 a.on.c, Value.int .i64 a.on.k, Value.int .i64 a.on.a, Value.int .i64 a.on.t, Value.int .i64 a.ar.c, Value.int .i64 a.ar.k, Value.int .i64 a.ar.a, Value.int .i64 a.ar.t])[i]?) := fun w' h => (B.below h).cell
  clear c1
  refine wp_region_mild0 [true, true, true, true, true, true, true, true, true, true, true, true, true, true, true, true, true, true] (by kernel_rfl) (by kernel_rfl) ?_
  refine wpMildL_take rfl ?_
  apply Exists.intro
  refine ⟨fun w' hw' => ?_, ?_⟩
  · go_simp
    with_reducible rfl
  simp only [Act.put, List.setIfInBounds_toArray, List.set_cons_zero, List.set_cons_succ]
  refine wpMildL_take rfl ?_
  apply Exists.intro
  refine ⟨fun w' hw' => ?_, ?_⟩
  · (have hc := HC.out w' hw'; go_simp; with_reducible rfl)
  simp only [Act.put, List.setIfInBounds_toArray, List.set_cons_zero, List.set_cons_succ]
  refine wpMildL_take rfl ?_
  apply Exists.intro
  refine ⟨fun w' hw' => ?_, ?_⟩
  · go_simp
    with_reducible rfl
  simp only [Act.put, List.setIfInBounds_toArray, List.set_cons_zero, List.set_cons_succ]
  refine wpMildL_take rfl ?_
  apply Exists.intro
  refine ⟨fun w' hw' => ?_, ?_⟩
  · go_simp
    exact impl_number_b _ _
  simp only [Act.put, List.setIfInBounds_toArray, List.set_cons_zero, List.set_cons_succ]
  refine wpMildL_take rfl ?_
  apply Exists.intro
  refine ⟨fun w' hw' => ?_, ?_⟩
  · go_simp
    with_reducible rfl
  simp only [Act.put, List.setIfInBounds_toArray, List.set_cons_zero, List.set_cons_succ]
  refine wpMildL_take rfl ?_
  apply Exists.intro
  refine ⟨fun w' hw' => ?_, ?_⟩
  · go_simp
    with_reducible rfl
  simp only [Act.put, List.setIfInBounds_toArray, List.set_cons_zero, List.set_cons_succ]
  refine wpMildL_take rfl ?_
  apply Exists.intro
  refine ⟨fun w' hw' => ?_, ?_⟩
  · (have hc := HC.out w' hw'; go_simp; with_reducible rfl)
  simp only [Act.put, List.setIfInBounds_toArray, List.set_cons_zero, List.set_cons_succ]
  refine wpMildL_take rfl ?_
  apply Exists.intro
  refine ⟨fun w' hw' => ?_, ?_⟩
  · go_simp
    with_reducible rfl
  simp only [Act.put, List.setIfInBounds_toArray, List.set_cons_zero, List.set_cons_succ]
  refine wpMildL_take rfl ?_
  apply Exists.intro
  refine ⟨fun w' hw' => ?_, ?_⟩
  · go_simp
    with_reducible rfl
  simp only [Act.put, List.setIfInBounds_toArray, List.set_cons_zero, List.set_cons_succ]
  refine wpMildL_take rfl ?_
  apply Exists.intro
  refine ⟨fun w' hw' => ?_, ?_⟩
  · go_simp
    exact impl_number_b _ _
  simp only [Act.put, List.setIfInBounds_toArray, List.set_cons_zero, List.set_cons_succ]
  refine wpMildL_take rfl ?_
  apply Exists.intro
  refine ⟨fun w' hw' => ?_, ?_⟩
  · go_simp
    with_reducible rfl
  simp only [Act.put, List.setIfInBounds_toArray, List.set_cons_zero, List.set_cons_succ]
  refine wpMildL_take rfl ?_
  apply Exists.intro
  refine ⟨fun w' hw' => ?_, ?_⟩
  · go_simp
    with_reducible rfl
  simp only [Act.put, List.setIfInBounds_toArray, List.set_cons_zero, List.set_cons_succ]
  refine wpMildL_take rfl ?_
  apply Exists.intro
  refine ⟨fun w' hw' => ?_, ?_⟩
  · (have hc := HC.out w' hw'; go_simp; with_reducible rfl)
  simp only [Act.put, List.setIfInBounds_toArray, List.set_cons_zero, List.set_cons_succ]
  refine wpMildL_take rfl ?_
  apply Exists.intro
  refine ⟨fun w' hw' => ?_, ?_⟩
  · go_simp
    with_reducible rfl
  simp only [Act.put, List.setIfInBounds_toArray, List.set_cons_zero, List.set_cons_succ]
  refine wpMildL_take rfl ?_
  apply Exists.intro
  refine ⟨fun w' hw' => ?_, ?_⟩
  · go_simp
    with_reducible rfl
  simp only [Act.put, List.setIfInBounds_toArray, List.set_cons_zero, List.set_cons_succ]
  refine wpMildL_take rfl ?_
  apply Exists.intro
  refine ⟨fun w' hw' => ?_, ?_⟩
  · go_simp
    exact impl_number_b _ _
  simp only [Act.put, List.setIfInBounds_toArray, List.set_cons_zero, List.set_cons_succ]
  refine wpMildL_take rfl ?_
  apply Exists.intro
  refine ⟨fun w' hw' => ?_, ?_⟩
  · go_simp
    with_reducible rfl
  simp only [Act.put, List.setIfInBounds_toArray, List.set_cons_zero, List.set_cons_succ]
  refine wpMildL_take rfl ?_
  apply Exists.intro
  refine ⟨fun w' hw' => ?_, ?_⟩
  · go_simp
    with_reducible rfl
  simp only [Act.put, List.setIfInBounds_toArray, List.set_cons_zero, List.set_cons_succ]
  refine wpMildL_nil ?_
  intro w1 hb1
  go_wp2
  go_ret
  refine ⟨congrArg (fun z => Ending.returned (.int .i64 z)) ?_, bstep hW hb1⟩
  show IntKind.i64.wrap (IntKind.i64.wrap (IntKind.i64.wrap (1 + b2i (a.o != 0)) + b2i (!gEq a.on.c a.on.k a.on.a a.on.t 0 0 0 0)) + b2i (!gEq a.ar.c a.ar.k a.ar.a a.ar.t 0 0 0 0)) = 1 + b2i (a.o != 0) + b2i (!gEq a.on.c a.on.k a.on.a a.on.t 0 0 0 0) + b2i (!gEq a.ar.c a.ar.k a.ar.a a.ar.t 0 0 0 0)
  generalize b2i (a.o != 0) = x at *
  generalize b2i (!gEq a.on.c a.on.k a.on.a a.on.t 0 0 0 0) = y at *
  generalize b2i (!gEq a.ar.c a.ar.k a.ar.a a.ar.t 0 0 0 0) = z at *
  rw [IntWalk.i64_in (1 + x) (by omega), IntWalk.i64_in (1 + x + y) (by omega), IntWalk.i64_in (1 + x + y + z) (by omega)]
theorem spec_l5Layers (a : AV) (h : a.ok = true) (w : World) : Calls Try.prog 36 #[.agg #[.int .i64 a.f.d, .int .i64 a.f.l, .int .i64 a.f.a, .int .i64 a.f.b, .int .i64 a.o, .int .i64 a.l, .int .i64 a.t, .int .i64 a.on.c, .int .i64 a.on.k, .int .i64 a.on.a, .int .i64 a.on.t, .int .i64 a.ar.c, .int .i64 a.ar.k, .int .i64 a.ar.a, .int .i64 a.ar.t]] w fun e w' => e = .returned (.int .i64 a.layers) ∧ Below w.heap.size w w' := by
  have h0 := ok_ord h
  clear h
  go_enter Try.func36, Try.ntmps36
  go_upto_region 1 with (fail)
  have B := Blk.new w 35 #[Value.int .i64 a.f.d, Value.int .i64 a.f.l, Value.int .i64 a.f.a, Value.int .i64 a.f.b, Value.int .i64 a.o, Value.int .i64 a.l, Value.int .i64 a.t, Value.int .i64 a.on.c, Value.int .i64 a.on.k, Value.int .i64 a.on.a, Value.int .i64 a.on.t, Value.int .i64 a.ar.c, Value.int .i64 a.ar.k, Value.int .i64 a.ar.a, Value.int .i64 a.ar.t]
  have hW : Below w.heap.size w (w.alloc (.cells #[Value.int .i64 a.f.d, Value.int .i64 a.f.l, Value.int .i64 a.f.a, Value.int .i64 a.f.b, Value.int .i64 a.o, Value.int .i64 a.l, Value.int .i64 a.t, Value.int .i64 a.on.c, Value.int .i64 a.on.k, Value.int .i64 a.on.a, Value.int .i64 a.on.t, Value.int .i64 a.ar.c, Value.int .i64 a.ar.k, Value.int .i64 a.ar.a, Value.int .i64 a.ar.t] 35)) := (by repeat (first | (with_reducible exact Below.refl _ _) | (with_reducible assumption) | (with_reducible refine balloc ?_ _) | (with_reducible refine bdrew ?_) | (with_reducible refine bdrewN ?_ _) | (with_reducible refine bset ?_ (by first | omega | (simp; done) | (simp; omega)) _) | (with_reducible refine bstep ?_ (by assumption))))
  generalize w.alloc (.cells #[Value.int .i64 a.f.d, Value.int .i64 a.f.l, Value.int .i64 a.f.a, Value.int .i64 a.f.b, Value.int .i64 a.o, Value.int .i64 a.l, Value.int .i64 a.t, Value.int .i64 a.on.c, Value.int .i64 a.on.k, Value.int .i64 a.on.a, Value.int .i64 a.on.t, Value.int .i64 a.ar.c, Value.int .i64 a.ar.k, Value.int .i64 a.ar.a, Value.int .i64 a.ar.t] 35) = W at *
  obtain ⟨c1, z1⟩ := B.facts
  go_wp2_with (go_at_call 63; refine (spec_l4None _ _ _ _ _).mono ?_; rintro e w1 ⟨rfl, hb1⟩; clear c1 z1; replace B := B.below hb1; obtain ⟨c1, z1⟩ := B.facts; replace hW := bstep hW hb1; clear hb1)
  all_goals go_ret
  all_goals exact ⟨by clear B c1 z1 hW; unfold AV.layers GV.zero b2i; simp_all <;> omega, hW⟩
end Go.Proofs.Ytonkblhajbphmaa
