/-
  The law of WordAct.
-/
import Derived.Test.YtbodpfgbelaopaaS5
import Derived.Test.YtbodpfgbelaopaaD
import Derived.Deep.DeepCutAuto
namespace Go.Proofs.Ytbodpfgbelaopaa
open Go.RowKit
set_option linter.unusedVariables false
set_option linter.unusedSimpArgs false

set_option maxRecDepth 100000 in
set_option maxHeartbeats 2000000 in
theorem toIntA6_ok (a1 a2 a3 a4 a5 a6 : Int) (w : World) :
    Calls Try.prog 39 #[.agg #[.int .i64 a1, .int .i64 a2, .int .i64 a3, .int .i64 a4, .int .i64 a5, .int .i64 a6]] w fun k w' => k = .returned (.agg #[.int .i64 a1, .int .i64 a2, .int .i64 a3, .int .i64 a4, .int .i64 a5, .int .i64 a6]) ∧ Below w.heap.size w w' := by
  go_enter Try.func39, Try.ntmps39
  go_wp2
  go_rounds 7
  refine bodyPost_ret (v := .agg #[.int .i64 a1, .int .i64 a2, .int .i64 a3, .int .i64 a4, .int .i64 a5, .int .i64 a6]) (by simp [results, Try.results39, go_sem]) rfl ⟨rfl, ?_⟩
  exact below_trans (below_trans (below_alloc _ _) (below_alloc _ _)) (below_alloc _ _)

set_option maxRecDepth 100000 in
set_option maxHeartbeats 400000 in
theorem toClass_ok (a0 a1 a2 a3 a4 a5 a6 : Int) (w : World) :
    Calls Try.prog 12 #[.agg #[.int .i64 a0, .int .i64 a1, .int .i64 a2, .int .i64 a3, .int .i64 a4, .int .i64 a5, .int .i64 a6]] w fun k w' => k = .returned (clsV [a0, a1, a2, a3, a4, a5, a6]) ∧ Below w.heap.size w w' := by
  have B0 := hid (below_trans (below_trans (below_alloc w (.cells #[.int .i64 a0, .int .i64 a1, .int .i64 a2, .int .i64 a3, .int .i64 a4, .int .i64 a5, .int .i64 a6] 25)) (below_alloc _ (.cells #[.int .i64 0, .int .i64 0, .int .i64 0, .int .i64 0, .int .i64 0, .int .i64 0, .int .i64 0] 26))) (below_alloc _ (.cells #[.int .i64 a0, .int .i64 0, .int .i64 0, .int .i64 0, .int .i64 0, .int .i64 0, .int .i64 0] 26)))
  have R0 := hid ((CB.newAt (w.alloc (.cells #[.int .i64 a0, .int .i64 a1, .int .i64 a2, .int .i64 a3, .int .i64 a4, .int .i64 a5, .int .i64 a6] 25)) 26 (w.heap.size + 1) (by simp) 0 0 0 0 0 0 0).alloc (.cells #[.int .i64 a0, .int .i64 0, .int .i64 0, .int .i64 0, .int .i64 0, .int .i64 0, .int .i64 0] 26))
  have Y0 := hid (CB.newAt ((w.alloc (.cells #[.int .i64 a0, .int .i64 a1, .int .i64 a2, .int .i64 a3, .int .i64 a4, .int .i64 a5, .int .i64 a6] 25)).alloc (.cells #[.int .i64 0, .int .i64 0, .int .i64 0, .int .i64 0, .int .i64 0, .int .i64 0, .int .i64 0] 26)) 26 (w.heap.size + 1 + 1) (by simp) a0 0 0 0 0 0 0)
  have n1 : w.heap.size + 1 ≠ w.heap.size + 1 + 1 := by omega
  have n2 : w.heap.size ≤ w.heap.size + 1 + 1 := by omega
  have n5 : w.heap.size ≤ w.heap.size + 1 := by omega
  go_enter Try.func12, Try.ntmps12
  go_wp2_with fail
  refine (toIntA6_ok a1 a2 a3 a4 a5 a6 _).mono ?_
  rintro e w1 ⟨rfl, b1⟩
  have B1 := hid (below_trans B0.out b1)
  have R1 := hid (R0.out.below b1)
  have Y1 := hid (Y0.out.below b1)
  clear b1
  obtain ⟨y0, y1, y2, y3, y4, y5, y6, g0, g1, g2, g3, g4, g5, g6⟩ := Y1.out.cells
  go_upto_region 4 with (fail)
  have Y2 := hid ((((((((Y1.out.set a1).2.1.set a2).2.2.1.set a3).2.2.2.1.set a4).2.2.2.2.1.set a5).2.2.2.2.2.1.set a6).2.2.2.2.2.2))
  have R2 := hid ((((((((R1.out.other (j := 1) (v := .int .i64 a1) n1).other (j := 2) (v := .int .i64 a2) n1).other (j := 3) (v := .int .i64 a3) n1).other (j := 4) (v := .int .i64 a4) n1).other (j := 5) (v := .int .i64 a5) n1).other (j := 6) (v := .int .i64 a6) n1)))
  have b11 := Below.setCell (p := ⟨w.heap.size + 1 + 1, 1, none⟩) B1.out n2 (.int .i64 a1)
  have b12 := Below.setCell (p := ⟨w.heap.size + 1 + 1, 2, none⟩) b11 n2 (.int .i64 a2)
  have b13 := Below.setCell (p := ⟨w.heap.size + 1 + 1, 3, none⟩) b12 n2 (.int .i64 a3)
  have b14 := Below.setCell (p := ⟨w.heap.size + 1 + 1, 4, none⟩) b13 n2 (.int .i64 a4)
  have b15 := Below.setCell (p := ⟨w.heap.size + 1 + 1, 5, none⟩) b14 n2 (.int .i64 a5)
  have b16 := Below.setCell (p := ⟨w.heap.size + 1 + 1, 6, none⟩) b15 n2 (.int .i64 a6)
  have B2 := hid b16
  clear b11 b12 b13 b14 b15 b16 y0 y1 y2 y3 y4 y5 y6 g0 g1 g2 g3 g4 g5 g6 B1 R1 Y1
  generalize ((((((w1.setCell ⟨w.heap.size + 1 + 1, 1, none⟩ (.int .i64 a1)).setCell ⟨w.heap.size + 1 + 1, 2, none⟩ (.int .i64 a2)).setCell ⟨w.heap.size + 1 + 1, 3, none⟩ (.int .i64 a3)).setCell ⟨w.heap.size + 1 + 1, 4, none⟩ (.int .i64 a4)).setCell ⟨w.heap.size + 1 + 1, 5, none⟩ (.int .i64 a5)).setCell ⟨w.heap.size + 1 + 1, 6, none⟩ (.int .i64 a6)) = w2 at *
  obtain ⟨x0, x1, x2, x3, x4, x5, x6⟩ := Y2.out.seven
  obtain ⟨r0, r1, r2, r3, r4, r5, r6, f0, f1, f2, f3, f4, f5, f6⟩ := R2.out.cells
  have Z := hid (R2.out.put a0 a1 a2 a3 a4 a5 a6)
  have B3 := hid (below_put7 B2.out n5 a0 a1 a2 a3 a4 a5 a6)
  obtain ⟨s0, s1, s2, s3, s4, s5, s6⟩ := Z.out.seven
  go_wp2
  refine bodyPost_ret (v := clsV [a0, a1, a2, a3, a4, a5, a6]) (by simp [results, Try.results12, go_sem, clsV, s0, s1, s2, s3, s4, s5, s6]) rfl ⟨rfl, ?_⟩
  with_reducible exact B3.out

end Go.Proofs.Ytbodpfgbelaopaa
