/-
  '==' and '!=' of two points, as the model runs them.
-/
import Derived.Test.YtkhkcgoblibnpaaProg
import Derived.Test.YtkhkcgoblibnpaaLib
import Derived.Laws.StructEq
namespace Go.Proofs.Ytkhkcgoblibnpaa
open Go.RowKit
set_option linter.unusedVariables false
set_option linter.unusedSimpArgs false

theorem run_equalIn_arr3 (d : Nat) (x y z x' y' z' : Int) (w : World) : (Op.equalIn (d + 2) 33 (.agg #[.int .i64 x, .int .i64 y, .int .i64 z]) (.agg #[.int .i64 x', .int .i64 y', .int .i64 z'])).run Try.prog w = .ok ((x == x' && y == y') && z == z') w := by
  have hu := Try.underlying33
  have h3 := Try.underlying3
  have z3 := Try.sizeOf3
  have a3 := Try.isAgg3
  have e := fun (a b : Int) (w : World) => run_equalIn_int (P := Try.prog) w d 3 .i64 .i64 a b Try.underlying3
  unfold Op.equalIn
  simp only [Sem.run_bind, run_underlying hu, Result.andThen_ok, z3]
  rw [show ([:3] : Std.Legacy.Range) = [0:3] from rfl, Std.Legacy.Range.forIn_eq_forIn_range']
  rw [show List.range' ([0:3] : Std.Legacy.Range).start ([0:3] : Std.Legacy.Range).size ([0:3] : Std.Legacy.Range).step = [0, 1, 2] from rfl]
  cases h0 : (x == x') <;> cases h1 : (y == y') <;> cases h2 : (z == z') <;>
  simp [List.forIn_cons, part, Sem.run_bind, a3, e, h0, h1, h2]

theorem run_equalIn_pt (x y z x' y' z' : Int) (w : World) : (Op.equalIn 10000 35 (.agg #[.int .i64 x, .int .i64 y, .int .i64 z]) (.agg #[.int .i64 x', .int .i64 y', .int .i64 z'])).run Try.prog w = .ok ((x == x' && y == y') && z == z') w := by
  have hS : Try.prog.underlying 35 = some (.struct (Try.prog.fieldsOf 35)) := by kernel_rfl
  have hp : Try.prog.stoodInHeld 35 = false := by kernel_rfl
  have za := Try.sizeOf33
  have aa := Try.isAgg33
  have e := fun (x y z x' y' z' : Int) (w : World) => run_equalIn_arr3 9997 x y z x' y' z' w
  rw [show (10000 : Nat) = 9999 + 1 from rfl, run_equalIn_agg w 9999 35 _ _ hS hp]
  simp only [Program.fieldsOf, Try.underlying35, Op.eqFields]
  cases h : ((x == x' && y == y') && z == z') <;> simp [part, Sem.run_bind, za, aa, e, h]

theorem guardPt : Try.prog.eqGuardType Try.prog.depth 35 = false := by kernel_rfl

theorem run_eqlPt (x y z x' y' z' : Int) (w : World) : (binOp .eql 35 (.agg #[.int .i64 x, .int .i64 y, .int .i64 z]) (.agg #[.int .i64 x', .int .i64 y', .int .i64 z'])).run Try.prog w = .ok (.bool ((x == x' && y == y') && z == z')) w := by
  rw [run_eql_struct, run_equalIn_pt]; rfl
theorem run_neqPt (x y z x' y' z' : Int) (w : World) : (binOp .neq 35 (.agg #[.int .i64 x, .int .i64 y, .int .i64 z]) (.agg #[.int .i64 x', .int .i64 y', .int .i64 z'])).run Try.prog w = .ok (.bool (!((x == x' && y == y') && z == z'))) w := by
  rw [run_neq_struct, run_equalIn_pt]; rfl

end Go.Proofs.Ytkhkcgoblibnpaa
