/- How the program compares arms. Conditions: none. -/
import Derived.Test.YtonkblhajbphmaaRows
import Derived.Test.YtonkblhajbphmaaEq
import Derived.Test.YtonkblhajbphmaaPlainArms
namespace Go.Proofs.Ytonkblhajbphmaa
set_option linter.unusedSimpArgs false
set_option linter.unusedVariables false
open Go.ChangeShapes Go.WideShapes Go.ChangeAt Go.RowKit

def AV.eqb (a b : AV) : Bool := gEq a.f.d a.f.l a.f.a a.f.b b.f.d b.f.l b.f.a b.f.b && (a.o == b.o && (a.l == b.l && (a.t == b.t && (gEq a.on.c a.on.k a.on.a a.on.t b.on.c b.on.k b.on.a b.on.t && gEq a.ar.c a.ar.k a.ar.a a.ar.t b.ar.c b.ar.k b.ar.a b.ar.t))))
theorem guard_arms : Try.prog.eqGuardType Try.prog.depth 35 = false := by kernel_rfl
theorem stood_arms : Try.prog.stoodInHeld 35 = false := by kernel_rfl
theorem stood_field : Try.prog.stoodInHeld 32 = false := by kernel_rfl
theorem eqg_arms (op : BinOp) (x y : Operand) (xs ys : Array Value) (w : World) : (eqGuard op 35 x y (.agg xs) (.agg ys)).run Try.prog w = .ok () w := run_eqGuard_agg w op 35 x y xs ys guard_arms
theorem equal_group_in (c k a t c' k' a' t' : Int) (w : World) : (Op.equalIn 9999 33 (.agg #[.int .i64 c, .int .i64 k, .int .i64 a, .int .i64 t]) (.agg #[.int .i64 c', .int .i64 k', .int .i64 a', .int .i64 t'])).run Try.prog w = .ok (gEq c k a t c' k' a' t') w := by
  rw [run_equalIn_agg w 9998 33 _ _ (by unfold Program.fieldsOf; rw [Try.underlying33]) stood_group]
  unfold Program.fieldsOf
  rw [Try.underlying33]
  simp only [Op.eqFields]
  have hi := fun x y W => run_equalIn_int (P := Try.prog) W 9997 3 .i64 .i64 x y Try.underlying3
  simp only [Nat.reduceAdd] at hi
  simp [part, hi]
  by_cases e1 : c = c' <;> by_cases e2 : k = k' <;> by_cases e3 : a = a' <;> by_cases e4 : t = t' <;> simp [gEq, *]
theorem equal_field_in (c k a t c' k' a' t' : Int) (w : World) : (Op.equalIn 9999 32 (.agg #[.int .i64 c, .int .i64 k, .int .i64 a, .int .i64 t]) (.agg #[.int .i64 c', .int .i64 k', .int .i64 a', .int .i64 t'])).run Try.prog w = .ok (gEq c k a t c' k' a' t') w := by
  rw [run_equalIn_agg w 9998 32 _ _ (by unfold Program.fieldsOf; rw [Try.underlying32]) stood_field]
  unfold Program.fieldsOf
  rw [Try.underlying32]
  simp only [Op.eqFields]
  have hi := fun x y W => run_equalIn_int (P := Try.prog) W 9997 3 .i64 .i64 x y Try.underlying3
  simp only [Nat.reduceAdd] at hi
  simp [part, hi]
  by_cases e1 : c = c' <;> by_cases e2 : k = k' <;> by_cases e3 : a = a' <;> by_cases e4 : t = t' <;> simp [gEq, *]
set_option maxHeartbeats 1000000 in
theorem equal_arms (a b : AV) (w : World) : (Op.equalIn 10000 35 (.agg #[.int .i64 a.f.d, .int .i64 a.f.l, .int .i64 a.f.a, .int .i64 a.f.b, .int .i64 a.o, .int .i64 a.l, .int .i64 a.t, .int .i64 a.on.c, .int .i64 a.on.k, .int .i64 a.on.a, .int .i64 a.on.t, .int .i64 a.ar.c, .int .i64 a.ar.k, .int .i64 a.ar.a, .int .i64 a.ar.t]) (.agg #[.int .i64 b.f.d, .int .i64 b.f.l, .int .i64 b.f.a, .int .i64 b.f.b, .int .i64 b.o, .int .i64 b.l, .int .i64 b.t, .int .i64 b.on.c, .int .i64 b.on.k, .int .i64 b.on.a, .int .i64 b.on.t, .int .i64 b.ar.c, .int .i64 b.ar.k, .int .i64 b.ar.a, .int .i64 b.ar.t])).run Try.prog w = .ok (a.eqb b) w := by
  obtain ⟨⟨a0, a1, a2, a3⟩, a4, a5, a6, ⟨a7, a8, a9, a10⟩, ⟨a11, a12, a13, a14⟩⟩ := a
  obtain ⟨⟨b0, b1, b2, b3⟩, b4, b5, b6, ⟨b7, b8, b9, b10⟩, ⟨b11, b12, b13, b14⟩⟩ := b
  unfold AV.eqb
  rw [run_equalIn_agg w 9999 35 _ _ (by unfold Program.fieldsOf; rw [Try.underlying35]) stood_arms]
  unfold Program.fieldsOf
  rw [Try.underlying35]
  simp only [Op.eqFields]
  have hi := fun x y W => run_equalIn_int (P := Try.prog) W 9998 3 .i64 .i64 x y Try.underlying3
  simp only [Nat.reduceAdd] at hi
  simp [part, hi, equal_group_in, equal_field_in]
  cases e0 : gEq a0 a1 a2 a3 b0 b1 b2 b3 <;> by_cases e1 : a4 = b4 <;> by_cases e2 : a5 = b5 <;> by_cases e3 : a6 = b6 <;> cases e4 : gEq a7 a8 a9 a10 b7 b8 b9 b10 <;> cases e5 : gEq a11 a12 a13 a14 b11 b12 b13 b14 <;> simp [*]
theorem eql_arms (a b : AV) (w : World) : (binOp .eql 35 (.agg #[.int .i64 a.f.d, .int .i64 a.f.l, .int .i64 a.f.a, .int .i64 a.f.b, .int .i64 a.o, .int .i64 a.l, .int .i64 a.t, .int .i64 a.on.c, .int .i64 a.on.k, .int .i64 a.on.a, .int .i64 a.on.t, .int .i64 a.ar.c, .int .i64 a.ar.k, .int .i64 a.ar.a, .int .i64 a.ar.t]) (.agg #[.int .i64 b.f.d, .int .i64 b.f.l, .int .i64 b.f.a, .int .i64 b.f.b, .int .i64 b.o, .int .i64 b.l, .int .i64 b.t, .int .i64 b.on.c, .int .i64 b.on.k, .int .i64 b.on.a, .int .i64 b.on.t, .int .i64 b.ar.c, .int .i64 b.ar.k, .int .i64 b.ar.a, .int .i64 b.ar.t])).run Try.prog w = .ok (.bool (a.eqb b)) w := by
  rw [run_eql_struct, equal_arms]
  rfl
theorem neq_arms (a b : AV) (w : World) : (binOp .neq 35 (.agg #[.int .i64 a.f.d, .int .i64 a.f.l, .int .i64 a.f.a, .int .i64 a.f.b, .int .i64 a.o, .int .i64 a.l, .int .i64 a.t, .int .i64 a.on.c, .int .i64 a.on.k, .int .i64 a.on.a, .int .i64 a.on.t, .int .i64 a.ar.c, .int .i64 a.ar.k, .int .i64 a.ar.a, .int .i64 a.ar.t]) (.agg #[.int .i64 b.f.d, .int .i64 b.f.l, .int .i64 b.f.a, .int .i64 b.f.b, .int .i64 b.o, .int .i64 b.l, .int .i64 b.t, .int .i64 b.on.c, .int .i64 b.on.k, .int .i64 b.on.a, .int .i64 b.on.t, .int .i64 b.ar.c, .int .i64 b.ar.k, .int .i64 b.ar.a, .int .i64 b.ar.t])).run Try.prog w = .ok (.bool (!(a.eqb b))) w := by
  rw [run_neq_struct, equal_arms]
  rfl
end Go.Proofs.Ytonkblhajbphmaa
