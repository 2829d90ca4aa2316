/- How the program compares two fields. Conditions: none. -/
import Derived.Test.YtmemabeackgioaaRows
import Derived.Test.YtmemabeackgioaaEq
namespace Go.Proofs.Ytmemabeackgioaa
set_option linter.unusedSimpArgs false
set_option linter.unusedVariables false
open Go.ChangeShapes Go.WideShapes Go.ChangeAt Go.RowKit

theorem guard_field0 : Try.prog.eqGuardType Try.prog.depth 47 = false := by kernel_rfl
theorem stood_field0 : Try.prog.stoodInHeld 47 = false := by kernel_rfl
theorem eqg_field (op : BinOp) (x y : Operand) (xs ys : Array Value) (w : World) : (eqGuard op 47 x y (.agg xs) (.agg ys)).run Try.prog w = .ok () w := run_eqGuard_agg w op 47 x y xs ys guard_field0
theorem equal_field (c k a t c' k' a' t' : Int) (w : World) : (Op.equalIn 10000 47 (.agg #[.int .i64 c, .int .i64 k, .int .i64 a, .int .i64 t]) (.agg #[.int .i64 c', .int .i64 k', .int .i64 a', .int .i64 t'])).run Try.prog w = .ok (c == c' && (k == k' && (a == a' && t == t'))) w := by
  rw [run_equalIn_agg w 9999 47 _ _ (by unfold Program.fieldsOf; rw [Try.underlying47]) stood_field0]
  unfold Program.fieldsOf
  rw [Try.underlying47]
  simp only [Op.eqFields]
  have hi := fun x y W => run_equalIn_int (P := Try.prog) W 9998 3 .i64 .i64 x y Try.underlying3
  simp only [Nat.reduceAdd] at hi
  simp [part, hi]
  by_cases e1 : c = c' <;> by_cases e2 : k = k' <;> by_cases e3 : a = a' <;> by_cases e4 : t = t' <;> simp [*]
theorem eql_field (c k a t c' k' a' t' : Int) (w : World) : (binOp .eql 47 (.agg #[.int .i64 c, .int .i64 k, .int .i64 a, .int .i64 t]) (.agg #[.int .i64 c', .int .i64 k', .int .i64 a', .int .i64 t'])).run Try.prog w = .ok (.bool (gEq c k a t c' k' a' t')) w := by
  rw [run_eql_struct, equal_field]
  rfl
end Go.Proofs.Ytmemabeackgioaa
