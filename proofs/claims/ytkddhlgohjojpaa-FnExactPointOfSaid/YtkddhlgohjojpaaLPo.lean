/-
  The law of PointOf.
-/
import Derived.Test.YtkddhlgohjojpaaEp
namespace Go.Proofs.Ytkddhlgohjojpaa
open Go.RowKit
set_option linter.unusedVariables false
set_option linter.unusedSimpArgs false

set_option maxRecDepth 100000 in
set_option maxHeartbeats 2000000 in
theorem FnExactPointOf_ok (p x y z : Int) (w : World) (h0 : (Lit.int .i64 p).wf = true) (h1 : (Lit.int .i64 x).wf = true) (h2 : (Lit.int .i64 y).wf = true) (h3 : (Lit.int .i64 z).wf = true) :
    Calls Try.prog 4 #[.int .i64 p, .int .i64 x, .int .i64 y, .int .i64 z] w fun e w' => e = .returned (.bool true) ∧ Below w.heap.size w w' := by
  have HS := hid (fun W => specPointOf_ok p x y z W)
  have HI := hid (fun W => implPointOf_ok p x y z W)
  clear h0 h1 h2 h3
  generalize pofB p x y z = D at *
  generalize pofV p x y z = V at *
  obtain ⟨V0, V1, V2⟩ := V
  have HVv := hid (show ptVal (V0, V1, V2) = .agg #[.int .i64 V0, .int .i64 V1, .int .i64 V2] from rfl)
  have hne2 : (D != D) = false := by simp
  have HE := hid (fun W => eqPoint_ok V0 V1 V2 V0 V1 V2 W)
  have HT := hid (show ((V0 == V0 && V1 == V1) && V2 == V2) = true by simp)
  go_enter Try.func4, Try.ntmps4
  go_wp2_with fail
  refine (HS.out _).mono ?_
  rintro e w1 ⟨rfl, b1⟩
  rw [HVv.out]
  have B1 := hid (below_trans b1 (below_alloc w1 (.cells #[.int .i64 V0, .int .i64 V1, .int .i64 V2] 31)))
  have I1 := hid (IBox.new w1 V0 V1 V2)
  clear b1
  go_wp2_with fail
  refine (HI.out _).mono ?_
  rintro e w2 ⟨rfl, b2⟩
  rw [HVv.out]
  have B2 := hid (below_trans (below_trans B1.out b2) (below_alloc w2 (.cells #[.int .i64 V0, .int .i64 V1, .int .i64 V2] 31)))
  have I2 := hid ((I1.out.below b2).below (below_alloc w2 (.cells #[.int .i64 V0, .int .i64 V1, .int .i64 V2] 31)))
  clear b2
  obtain ⟨x0, x1, x2, _⟩ := I2.out.cells
  go_wp2_with fail
  refine (HE.out _).mono ?_
  rintro e w3 ⟨rfl, b3⟩
  rw [HT.out]
  have B3 := hid (below_trans B2.out b3)
  clear b3 x0 x1 x2
  go_wp2
  go_ret
  exact ⟨rfl, B3.out⟩

end Go.Proofs.Ytkddhlgohjojpaa
