/-
  '==' of two classes, as the model runs it.
-/
import Derived.Test.YtcffaeepanhpfaaProg
import Derived.Test.YtcffaeepanhpfaaLib
import Derived.Laws.StructEq
namespace Go.Proofs.Ytcffaeepanhpfaa
open Go.RowKit
set_option linter.unusedVariables false
set_option linter.unusedSimpArgs false

theorem run_equalIn_arr6 (d : Nat) (x1 x2 x3 x4 x5 x6 y1 y2 y3 y4 y5 y6 : Int) (w : World) : (Op.equalIn (d + 2) 36 (.agg #[.int .i64 x1, .int .i64 x2, .int .i64 x3, .int .i64 x4, .int .i64 x5, .int .i64 x6]) (.agg #[.int .i64 y1, .int .i64 y2, .int .i64 y3, .int .i64 y4, .int .i64 y5, .int .i64 y6])).run Try.prog w = .ok ([x1, x2, x3, x4, x5, x6] == [y1, y2, y3, y4, y5, y6]) w := by
  have hu := Try.underlying36
  have h3 := Try.underlying3
  have z3 := Try.sizeOf3
  have a3 := Try.isAgg3
  have e := fun (a b : Int) (w : World) => run_equalIn_int (P := Try.prog) w d 3 .i64 .i64 a b Try.underlying3
  unfold Op.equalIn
  simp only [Sem.run_bind, run_underlying hu, Result.andThen_ok, z3]
  rw [show ([:6] : Std.Legacy.Range) = [0:6] from rfl, Std.Legacy.Range.forIn_eq_forIn_range']
  rw [show List.range' ([0:6] : Std.Legacy.Range).start ([0:6] : Std.Legacy.Range).size ([0:6] : Std.Legacy.Range).step = [0, 1, 2, 3, 4, 5] from rfl]
  simp only [List.cons_beq_cons]
  cases h1 : (x1 == y1)
  · simp [List.forIn_cons, part, Sem.run_bind, a3, e, h1]
  · cases h2 : (x2 == y2)
    · simp [List.forIn_cons, part, Sem.run_bind, a3, e, h1, h2]
    · cases h3 : (x3 == y3)
      · simp [List.forIn_cons, part, Sem.run_bind, a3, e, h1, h2, h3]
      · cases h4 : (x4 == y4)
        · simp [List.forIn_cons, part, Sem.run_bind, a3, e, h1, h2, h3, h4]
        · cases h5 : (x5 == y5)
          · simp [List.forIn_cons, part, Sem.run_bind, a3, e, h1, h2, h3, h4, h5]
          · cases h6 : (x6 == y6)
            · simp [List.forIn_cons, part, Sem.run_bind, a3, e, h1, h2, h3, h4, h5, h6]
            · simp [List.forIn_cons, part, Sem.run_bind, a3, e, h1, h2, h3, h4, h5, h6]

theorem run_equalIn_cls (x0 x1 x2 x3 x4 x5 x6 y0 y1 y2 y3 y4 y5 y6 : Int) (w : World) : (Op.equalIn 10000 38 (.agg #[.int .i64 x0, .int .i64 x1, .int .i64 x2, .int .i64 x3, .int .i64 x4, .int .i64 x5, .int .i64 x6]) (.agg #[.int .i64 y0, .int .i64 y1, .int .i64 y2, .int .i64 y3, .int .i64 y4, .int .i64 y5, .int .i64 y6])).run Try.prog w = .ok ([x0, x1, x2, x3, x4, x5, x6] == [y0, y1, y2, y3, y4, y5, y6]) w := by
  have hS : Try.prog.underlying 38 = some (.struct (Try.prog.fieldsOf 38)) := by kernel_rfl
  have hp : Try.prog.stoodInHeld 38 = false := by kernel_rfl
  have za := Try.sizeOf36
  have aa := Try.isAgg36
  have z3 := Try.sizeOf3
  have a3 := Try.isAgg3
  have e := fun (x1 x2 x3 x4 x5 x6 y1 y2 y3 y4 y5 y6 : Int) (w : World) => run_equalIn_arr6 9997 x1 x2 x3 x4 x5 x6 y1 y2 y3 y4 y5 y6 w
  have ei := fun (a b : Int) (w : World) => run_equalIn_int (P := Try.prog) w 9998 3 .i64 .i64 a b Try.underlying3
  rw [show (10000 : Nat) = 9999 + 1 from rfl, run_equalIn_agg w 9999 38 _ _ hS hp]
  simp only [Program.fieldsOf, Try.underlying38, Op.eqFields]
  rw [show ([x0, x1, x2, x3, x4, x5, x6] == [y0, y1, y2, y3, y4, y5, y6]) = ((x0 == y0) && ([x1, x2, x3, x4, x5, x6] == [y1, y2, y3, y4, y5, y6])) from rfl]
  generalize hg : ([x1, x2, x3, x4, x5, x6] == [y1, y2, y3, y4, y5, y6]) = g at *
  have e' := e x1 x2 x3 x4 x5 x6 y1 y2 y3 y4 y5 y6
  rw [hg] at e'
  cases h : (x0 == y0) <;> cases g <;> simp [part, Sem.run_bind, za, aa, z3, a3, e', ei, h]

theorem guardCls : Try.prog.eqGuardType Try.prog.depth 38 = false := by kernel_rfl

theorem run_eqlCls (x0 x1 x2 x3 x4 x5 x6 y0 y1 y2 y3 y4 y5 y6 : Int) (w : World) : (binOp .eql 38 (.agg #[.int .i64 x0, .int .i64 x1, .int .i64 x2, .int .i64 x3, .int .i64 x4, .int .i64 x5, .int .i64 x6]) (.agg #[.int .i64 y0, .int .i64 y1, .int .i64 y2, .int .i64 y3, .int .i64 y4, .int .i64 y5, .int .i64 y6])).run Try.prog w = .ok (.bool ([x0, x1, x2, x3, x4, x5, x6] == [y0, y1, y2, y3, y4, y5, y6])) w := by
  rw [run_eql_struct, run_equalIn_cls]; rfl
theorem run_neqCls (x0 x1 x2 x3 x4 x5 x6 y0 y1 y2 y3 y4 y5 y6 : Int) (w : World) : (binOp .neq 38 (.agg #[.int .i64 x0, .int .i64 x1, .int .i64 x2, .int .i64 x3, .int .i64 x4, .int .i64 x5, .int .i64 x6]) (.agg #[.int .i64 y0, .int .i64 y1, .int .i64 y2, .int .i64 y3, .int .i64 y4, .int .i64 y5, .int .i64 y6])).run Try.prog w = .ok (.bool (!([x0, x1, x2, x3, x4, x5, x6] == [y0, y1, y2, y3, y4, y5, y6]))) w := by
  rw [run_neq_struct, run_equalIn_cls]; rfl

end Go.Proofs.Ytcffaeepanhpfaa
