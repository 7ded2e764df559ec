/-
  Contracts: what is asked of numbers, points and places in the program (package impl).
-/
import Derived.Test.YtcffaeepanhpfaaA
namespace Go.Proofs.Ytcffaeepanhpfaa
open Go.RowKit
set_option linter.unusedVariables false
set_option linter.unusedSimpArgs false

/-- The three numbers of a point that was just boxed. -/
theorem RI_box3 (w : World) (x y z : Int) (t : TypeId) : RI (w.alloc (.cells #[.int .i64 x, .int .i64 y, .int .i64 z] t)) (some ⟨w.heap.size, 0, none⟩) 3 [x, y, z] :=
  RI_new w [x, y, z] _ t 3 rfl rfl (by decide)







end Go.Proofs.Ytcffaeepanhpfaa
