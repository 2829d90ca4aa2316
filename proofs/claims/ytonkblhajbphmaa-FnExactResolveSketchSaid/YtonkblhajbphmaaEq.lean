/- How the program compares two groups, and two fields. Conditions: none. -/
import Derived.Test.YtonkblhajbphmaaRows
import Derived.Test.YtonkblhajbphmaaPlain
import Derived.Laws.StructEq
namespace Go.Proofs.Ytonkblhajbphmaa
set_option linter.unusedSimpArgs false
set_option linter.unusedVariables false
open Go.ChangeShapes Go.WideShapes Go.ChangeAt Go.RowKit

def gEq (c k a t c' k' a' t' : Int) : Bool := c == c' && (k == k' && (a == a' && t == t'))
theorem gEq_same (c k a t : Int) : gEq c k a t c k a t = true := by simp [gEq]
theorem gEq_true {c k a t c' k' a' t' : Int} : gEq c k a t c' k' a' t' = true ↔ c = c' ∧ k = k' ∧ a = a' ∧ t = t' := by simp [gEq]
theorem guard_group : Try.prog.eqGuardType Try.prog.depth 33 = false := by kernel_rfl
theorem stood_group : Try.prog.stoodInHeld 33 = false := by kernel_rfl
theorem eqg_group (op : BinOp) (x y : Operand) (xs ys : Array Value) (w : World) : (eqGuard op 33 x y (.agg xs) (.agg ys)).run Try.prog w = .ok () w := run_eqGuard_agg w op 33 x y xs ys guard_group
theorem equal_group (c k a t c' k' a' t' : Int) (w : World) : (Op.equalIn 10000 33 (.agg #[.int .i64 c, .int .i64 k, .int .i64 a, .int .i64 t]) (.agg #[.int .i64 c', .int .i64 k', .int .i64 a', .int .i64 t'])).run Try.prog w = .ok (c == c' && (k == k' && (a == a' && t == t'))) w := by
  rw [run_equalIn_agg w 9999 33 _ _ (by unfold Program.fieldsOf; rw [Try.underlying33]) stood_group]
  unfold Program.fieldsOf
  rw [Try.underlying33]
  simp only [Op.eqFields]
  have hi := fun x y W => run_equalIn_int (P := Try.prog) W 9998 3 .i64 .i64 x y Try.underlying3
  simp only [Nat.reduceAdd] at hi
  simp [part, hi]
  by_cases e1 : c = c' <;> by_cases e2 : k = k' <;> by_cases e3 : a = a' <;> by_cases e4 : t = t' <;> simp [*]
theorem neq_group (c k a t c' k' a' t' : Int) (w : World) : (binOp .neq 33 (.agg #[.int .i64 c, .int .i64 k, .int .i64 a, .int .i64 t]) (.agg #[.int .i64 c', .int .i64 k', .int .i64 a', .int .i64 t'])).run Try.prog w = .ok (.bool (!gEq c k a t c' k' a' t')) w := by
  rw [run_neq_struct, equal_group]
  rfl
theorem eql_group (c k a t c' k' a' t' : Int) (w : World) : (binOp .eql 33 (.agg #[.int .i64 c, .int .i64 k, .int .i64 a, .int .i64 t]) (.agg #[.int .i64 c', .int .i64 k', .int .i64 a', .int .i64 t'])).run Try.prog w = .ok (.bool (gEq c k a t c' k' a' t')) w := by
  rw [run_eql_struct, equal_group]
  rfl
end Go.Proofs.Ytonkblhajbphmaa
