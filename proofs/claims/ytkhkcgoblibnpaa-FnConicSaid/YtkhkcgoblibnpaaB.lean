/-
  Contracts: what is asked of numbers, points and places in the program (package impl).
-/
import Derived.Test.YtkhkcgoblibnpaaA
namespace Go.Proofs.Ytkhkcgoblibnpaa
open Go.RowKit
set_option linter.unusedVariables false
set_option linter.unusedSimpArgs false

/-- The three numbers of a point that was just boxed. -/
theorem RI_box3 (w : World) (x y z : Int) (t : TypeId) : RI (w.alloc (.cells #[.int .i64 x, .int .i64 y, .int .i64 z] t)) (some ⟨w.heap.size, 0, none⟩) 3 [x, y, z] :=
  RI_new w [x, y, z] _ t 3 rfl rfl (by decide)

theorem isPoint_ok (p x y z : Int) (w : World) :
    Calls Try.prog 43 #[.int .i64 p, .agg #[.int .i64 x, .int .i64 y, .int .i64 z]] w fun e w' => e = .returned (.bool (areNumbersB p [x, y, z] 3 && isMonicB [x, y, z])) ∧ Below w.heap.size w w' := by
  have HR := hid (RI_box3 w x y z 35)
  cases hp : areNumbersB p [x, y, z] 3
  · have HP := hid hp
    clear hp
    go_enter Try.func43, Try.ntmps43
    go_wp2_with (go_at_call 42; refine (areNumbers_ok p _ _ 3 3 [x, y, z] _ HR.out).mono ?_; rintro e w1 ⟨rfl, hb⟩; rw [HP.out])
    go_ret
    exact ⟨rfl, below_alloc_then hb⟩
  · have HP := hid hp
    clear hp
    go_enter Try.func43, Try.ntmps43
    go_wp2_with (first | (go_at_call 42; refine (areNumbers_ok p _ _ 3 3 [x, y, z] _ HR.out).mono ?_; rintro e w1 ⟨rfl, hb⟩; rw [HP.out]) | (go_at_call 71; refine (isMonic_ok _ 3 3 [x, y, z] _ (HR.out.below hb)).mono ?_; rintro e w2 ⟨rfl, rfl⟩))
    go_ret
    exact ⟨rfl, below_alloc_then hb⟩






end Go.Proofs.Ytkhkcgoblibnpaa
