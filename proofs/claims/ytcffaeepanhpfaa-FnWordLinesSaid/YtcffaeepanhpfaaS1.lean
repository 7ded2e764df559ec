/-
  Contracts: products and sums of classes: the reference's.
-/
import Derived.Test.YtcffaeepanhpfaaK3
namespace Go.Proofs.Ytcffaeepanhpfaa
open Go.RowKit
set_option linter.unusedVariables false
set_option linter.unusedSimpArgs false

set_option maxRecDepth 100000 in
set_option maxHeartbeats 4000000 in
theorem l1Product_ok (a0 a1 a2 a3 a4 a5 a6 b0 b1 b2 b3 b4 b5 b6 : Int) (w : World) (h1 : Bd 1000000 [a0, a1, a2, a3, a4, a5, a6]) (h2 : Bd 1000000 [b0, b1, b2, b3, b4, b5, b6]) :
    Calls Try.prog 61 #[.agg #[.int .i64 a0, .int .i64 a1, .int .i64 a2, .int .i64 a3, .int .i64 a4, .int .i64 a5, .int .i64 a6], .agg #[.int .i64 b0, .int .i64 b1, .int .i64 b2, .int .i64 b3, .int .i64 b4, .int .i64 b5, .int .i64 b6]] w fun k w' => k = .returned (.int .i64 (prd [a0, a1, a2, a3, a4, a5, a6] [b0, b1, b2, b3, b4, b5, b6])) ∧ Below w.heap.size w w' := by
  obtain ⟨⟨l0, u0⟩, ⟨l1, u1⟩, ⟨l2, u2⟩, ⟨l3, u3⟩, ⟨l4, u4⟩, ⟨l5, u5⟩, ⟨l6, u6⟩⟩ := prods h1 h2
  have HB := hid (below_trans (below_alloc w (.cells #[.int .i64 a0, .int .i64 a1, .int .i64 a2, .int .i64 a3, .int .i64 a4, .int .i64 a5, .int .i64 a6] 38)) (below_alloc _ (.cells #[.int .i64 b0, .int .i64 b1, .int .i64 b2, .int .i64 b3, .int .i64 b4, .int .i64 b5, .int .i64 b6] 38)))
  have e1 : IntKind.i64.wrap (a0 * b0 - a1 * b1) = a0 * b0 - a1 * b1 := IntWalk.i64_in _ (by omega)
  have e2 : IntKind.i64.wrap (a0 * b0 - a1 * b1 - a2 * b2) = a0 * b0 - a1 * b1 - a2 * b2 := IntWalk.i64_in _ (by omega)
  have e3 : IntKind.i64.wrap (a0 * b0 - a1 * b1 - a2 * b2 - a3 * b3) = a0 * b0 - a1 * b1 - a2 * b2 - a3 * b3 := IntWalk.i64_in _ (by omega)
  have e4 : IntKind.i64.wrap (a0 * b0 - a1 * b1 - a2 * b2 - a3 * b3 - a4 * b4) = a0 * b0 - a1 * b1 - a2 * b2 - a3 * b3 - a4 * b4 := IntWalk.i64_in _ (by omega)
  have e5 : IntKind.i64.wrap (a0 * b0 - a1 * b1 - a2 * b2 - a3 * b3 - a4 * b4 - a5 * b5) = a0 * b0 - a1 * b1 - a2 * b2 - a3 * b3 - a4 * b4 - a5 * b5 := IntWalk.i64_in _ (by omega)
  have e6 : IntKind.i64.wrap (a0 * b0 - a1 * b1 - a2 * b2 - a3 * b3 - a4 * b4 - a5 * b5 - a6 * b6) = a0 * b0 - a1 * b1 - a2 * b2 - a3 * b3 - a4 * b4 - a5 * b5 - a6 * b6 := IntWalk.i64_in _ (by omega)
  have f1 : IntKind.i64.wrap (a1 * b1) = a1 * b1 := IntWalk.i64_in _ (by omega)
  have f2 : IntKind.i64.wrap (a2 * b2) = a2 * b2 := IntWalk.i64_in _ (by omega)
  have f3 : IntKind.i64.wrap (a3 * b3) = a3 * b3 := IntWalk.i64_in _ (by omega)
  have f4 : IntKind.i64.wrap (a4 * b4) = a4 * b4 := IntWalk.i64_in _ (by omega)
  have f5 : IntKind.i64.wrap (a5 * b5) = a5 * b5 := IntWalk.i64_in _ (by omega)
  have f6 : IntKind.i64.wrap (a6 * b6) = a6 * b6 := IntWalk.i64_in _ (by omega)
  clear h1 h2
  go_enter Try.func61, Try.ntmps61
  go_wp2
  refine wp_loop_rounds 7 ?_
  rw [rounds_succ]
  go_wp2
  go_quiet (fail)
  go_wp2
  rw [rounds_succ]
  go_wp2
  go_quiet (fail)
  go_wp2
  rw [rounds_succ]
  go_wp2
  go_quiet (fail)
  go_wp2
  rw [rounds_succ]
  go_wp2
  go_quiet (fail)
  go_wp2
  rw [rounds_succ]
  go_wp2
  go_quiet (fail)
  go_wp2
  rw [rounds_succ]
  go_wp2
  go_quiet (fail)
  go_wp2
  rw [rounds_succ]
  go_wp2
  go_ret
  exact ⟨rfl, below_drewN HB.out _⟩

set_option maxRecDepth 100000 in
set_option maxHeartbeats 4000000 in
theorem l1Sum_ok (a0 a1 a2 a3 a4 a5 a6 n b0 b1 b2 b3 b4 b5 b6 : Int) (w : World) (h1 : Bd 1000000 [a0, a1, a2, a3, a4, a5, a6]) (hn : -100000000 ≤ n ∧ n ≤ 100000000) (h2 : Bd 1000000 [b0, b1, b2, b3, b4, b5, b6]) :
    Calls Try.prog 60 #[.agg #[.int .i64 a0, .int .i64 a1, .int .i64 a2, .int .i64 a3, .int .i64 a4, .int .i64 a5, .int .i64 a6], .int .i64 n, .agg #[.int .i64 b0, .int .i64 b1, .int .i64 b2, .int .i64 b3, .int .i64 b4, .int .i64 b5, .int .i64 b6]] w fun k w' => k = .returned (clsV (lin [a0, a1, a2, a3, a4, a5, a6] n [b0, b1, b2, b3, b4, b5, b6])) ∧ Below w.heap.size w w' := by
  obtain ⟨⟨l0, u0⟩, ⟨l1, u1⟩, ⟨l2, u2⟩, ⟨l3, u3⟩, ⟨l4, u4⟩, ⟨l5, u5⟩, ⟨l6, u6⟩⟩ := muls hn h2
  obtain ⟨⟨p0, q0⟩, ⟨p1, q1⟩, ⟨p2, q2⟩, ⟨p3, q3⟩, ⟨p4, q4⟩, ⟨p5, q5⟩, ⟨p6, q6⟩⟩ := bds h1
  have f1 : IntKind.i64.wrap (n * b1) = n * b1 := IntWalk.i64_in _ (by omega)
  have f2 : IntKind.i64.wrap (n * b2) = n * b2 := IntWalk.i64_in _ (by omega)
  have f3 : IntKind.i64.wrap (n * b3) = n * b3 := IntWalk.i64_in _ (by omega)
  have f4 : IntKind.i64.wrap (n * b4) = n * b4 := IntWalk.i64_in _ (by omega)
  have f5 : IntKind.i64.wrap (n * b5) = n * b5 := IntWalk.i64_in _ (by omega)
  have f6 : IntKind.i64.wrap (n * b6) = n * b6 := IntWalk.i64_in _ (by omega)
  have e1 : IntKind.i64.wrap (a1 + n * b1) = a1 + n * b1 := IntWalk.i64_in _ (by omega)
  have e2 : IntKind.i64.wrap (a2 + n * b2) = a2 + n * b2 := IntWalk.i64_in _ (by omega)
  have e3 : IntKind.i64.wrap (a3 + n * b3) = a3 + n * b3 := IntWalk.i64_in _ (by omega)
  have e4 : IntKind.i64.wrap (a4 + n * b4) = a4 + n * b4 := IntWalk.i64_in _ (by omega)
  have e5 : IntKind.i64.wrap (a5 + n * b5) = a5 + n * b5 := IntWalk.i64_in _ (by omega)
  have e6 : IntKind.i64.wrap (a6 + n * b6) = a6 + n * b6 := IntWalk.i64_in _ (by omega)
  clear h1 h2 hn
  have HA0 := hid ((((CB.new w 38 a0 a1 a2 a3 a4 a5 a6).alloc (.cells #[.int .i64 b0, .int .i64 b1, .int .i64 b2, .int .i64 b3, .int .i64 b4, .int .i64 b5, .int .i64 b6] 38)).alloc (.cells #[.int .i64 0, .int .i64 0, .int .i64 0, .int .i64 0, .int .i64 0, .int .i64 0, .int .i64 0] 38)).alloc (.cells #[.int .i64 (a0 + n * b0), .int .i64 0, .int .i64 0, .int .i64 0, .int .i64 0, .int .i64 0, .int .i64 0] 38))
  have HB0 := hid (((CB.newAt (w.alloc (.cells #[.int .i64 a0, .int .i64 a1, .int .i64 a2, .int .i64 a3, .int .i64 a4, .int .i64 a5, .int .i64 a6] 38)) 38 (w.heap.size + 1) (by simp) b0 b1 b2 b3 b4 b5 b6).alloc (.cells #[.int .i64 0, .int .i64 0, .int .i64 0, .int .i64 0, .int .i64 0, .int .i64 0, .int .i64 0] 38)).alloc (.cells #[.int .i64 (a0 + n * b0), .int .i64 0, .int .i64 0, .int .i64 0, .int .i64 0, .int .i64 0, .int .i64 0] 38))
  have HR0 := hid ((CB.newAt ((w.alloc (.cells #[.int .i64 a0, .int .i64 a1, .int .i64 a2, .int .i64 a3, .int .i64 a4, .int .i64 a5, .int .i64 a6] 38)).alloc (.cells #[.int .i64 b0, .int .i64 b1, .int .i64 b2, .int .i64 b3, .int .i64 b4, .int .i64 b5, .int .i64 b6] 38)) 38 (w.heap.size + 1 + 1) (by simp) 0 0 0 0 0 0 0).alloc (.cells #[.int .i64 (a0 + n * b0), .int .i64 0, .int .i64 0, .int .i64 0, .int .i64 0, .int .i64 0, .int .i64 0] 38))
  have HO0 := hid (CB.newAt (((w.alloc (.cells #[.int .i64 a0, .int .i64 a1, .int .i64 a2, .int .i64 a3, .int .i64 a4, .int .i64 a5, .int .i64 a6] 38)).alloc (.cells #[.int .i64 b0, .int .i64 b1, .int .i64 b2, .int .i64 b3, .int .i64 b4, .int .i64 b5, .int .i64 b6] 38)).alloc (.cells #[.int .i64 0, .int .i64 0, .int .i64 0, .int .i64 0, .int .i64 0, .int .i64 0, .int .i64 0] 38)) 38 (w.heap.size + 1 + 1 + 1) (by simp) (a0 + n * b0) 0 0 0 0 0 0)
  have HW0 := hid (below_trans (below_trans (below_alloc w (.cells #[.int .i64 a0, .int .i64 a1, .int .i64 a2, .int .i64 a3, .int .i64 a4, .int .i64 a5, .int .i64 a6] 38)) (below_alloc _ (.cells #[.int .i64 b0, .int .i64 b1, .int .i64 b2, .int .i64 b3, .int .i64 b4, .int .i64 b5, .int .i64 b6] 38))) (below_trans (below_alloc _ (.cells #[.int .i64 0, .int .i64 0, .int .i64 0, .int .i64 0, .int .i64 0, .int .i64 0, .int .i64 0] 38)) (below_alloc _ (.cells #[.int .i64 (a0 + n * b0), .int .i64 0, .int .i64 0, .int .i64 0, .int .i64 0, .int .i64 0, .int .i64 0] 38))))
  have n1 : ¬ w.heap.size = w.heap.size + 1 + 1 + 1 := by omega
  have n2 : ¬ w.heap.size + 1 = w.heap.size + 1 + 1 + 1 := by omega
  have n3 : ¬ w.heap.size + 1 + 1 = w.heap.size + 1 + 1 + 1 := by omega
  have n4 : w.heap.size ≤ w.heap.size + 1 + 1 + 1 := by omega
  have n5 : w.heap.size ≤ w.heap.size + 1 + 1 := by omega
  go_enter Try.func60, Try.ntmps60
  go_wp2
  generalize (((w.alloc (.cells #[.int .i64 a0, .int .i64 a1, .int .i64 a2, .int .i64 a3, .int .i64 a4, .int .i64 a5, .int .i64 a6] 38)).alloc (.cells #[.int .i64 b0, .int .i64 b1, .int .i64 b2, .int .i64 b3, .int .i64 b4, .int .i64 b5, .int .i64 b6] 38)).alloc (.cells #[.int .i64 0, .int .i64 0, .int .i64 0, .int .i64 0, .int .i64 0, .int .i64 0, .int .i64 0] 38)).alloc (.cells #[.int .i64 (a0 + n * b0), .int .i64 0, .int .i64 0, .int .i64 0, .int .i64 0, .int .i64 0, .int .i64 0] 38) = W0 at *
  refine wp_loop_rounds 7 ?_
  rw [rounds_succ]
  have x1 := HA0.out.seven.2.1
  have y1 := HB0.out.seven.2.1
  have z1 := HO0.out.seven.2.1
  have g1 := HO0.out.cells.2.2.2.2.2.2.2.2.1
  go_wp2
  go_region_held_law (fun w' => w'.cell? ⟨w.heap.size, 1, none⟩ = some (.int .i64 a1) ∧ w'.cell? ⟨w.heap.size + 1, 1, none⟩ = some (.int .i64 b1)) (first | with_reducible exact ⟨HA0.out.drew.seven.2.1, HB0.out.drew.seven.2.1⟩ | with_reducible exact ⟨(CB.other HA0.out n1).drew.seven.2.1, (CB.other HB0.out n2).drew.seven.2.1⟩ | go_keep) (fail)
  have HA1 := hid (CB.other (j := 1) (v := .int .i64 (a1 + n * b1)) HA0.out n1).drew
  have HB1 := hid (CB.other (j := 1) (v := .int .i64 (a1 + n * b1)) HB0.out n2).drew
  have HR1 := hid (CB.other (j := 1) (v := .int .i64 (a1 + n * b1)) HR0.out n3).drew
  have HO1 := hid (HO0.out.set (a1 + n * b1)).2.1.drew
  have HW1 := hid (HW0.out.setCell (p := ⟨w.heap.size + 1 + 1 + 1, 1, none⟩) n4 (.int .i64 (a1 + n * b1))).drew
  clear x1 y1 z1 g1 HA0 HB0 HR0 HO0 HW0
  go_wp2
  generalize (World.setCell W0 ⟨w.heap.size + 1 + 1 + 1, 1, none⟩ (.int .i64 (a1 + n * b1))).drew = W1 at *
  rw [rounds_succ]
  have x2 := HA1.out.seven.2.2.1
  have y2 := HB1.out.seven.2.2.1
  have z2 := HO1.out.seven.2.2.1
  have g2 := HO1.out.cells.2.2.2.2.2.2.2.2.2.1
  go_wp2
  go_region_held_law (fun w' => w'.cell? ⟨w.heap.size, 2, none⟩ = some (.int .i64 a2) ∧ w'.cell? ⟨w.heap.size + 1, 2, none⟩ = some (.int .i64 b2)) (first | with_reducible exact ⟨HA1.out.drew.seven.2.2.1, HB1.out.drew.seven.2.2.1⟩ | with_reducible exact ⟨(CB.other HA1.out n1).drew.seven.2.2.1, (CB.other HB1.out n2).drew.seven.2.2.1⟩ | go_keep) (fail)
  have HA2 := hid (CB.other (j := 2) (v := .int .i64 (a2 + n * b2)) HA1.out n1).drew
  have HB2 := hid (CB.other (j := 2) (v := .int .i64 (a2 + n * b2)) HB1.out n2).drew
  have HR2 := hid (CB.other (j := 2) (v := .int .i64 (a2 + n * b2)) HR1.out n3).drew
  have HO2 := hid (HO1.out.set (a2 + n * b2)).2.2.1.drew
  have HW2 := hid (HW1.out.setCell (p := ⟨w.heap.size + 1 + 1 + 1, 2, none⟩) n4 (.int .i64 (a2 + n * b2))).drew
  clear x2 y2 z2 g2 HA1 HB1 HR1 HO1 HW1
  go_wp2
  generalize (World.setCell W1 ⟨w.heap.size + 1 + 1 + 1, 2, none⟩ (.int .i64 (a2 + n * b2))).drew = W2 at *
  rw [rounds_succ]
  have x3 := HA2.out.seven.2.2.2.1
  have y3 := HB2.out.seven.2.2.2.1
  have z3 := HO2.out.seven.2.2.2.1
  have g3 := HO2.out.cells.2.2.2.2.2.2.2.2.2.2.1
  go_wp2
  go_region_held_law (fun w' => w'.cell? ⟨w.heap.size, 3, none⟩ = some (.int .i64 a3) ∧ w'.cell? ⟨w.heap.size + 1, 3, none⟩ = some (.int .i64 b3)) (first | with_reducible exact ⟨HA2.out.drew.seven.2.2.2.1, HB2.out.drew.seven.2.2.2.1⟩ | with_reducible exact ⟨(CB.other HA2.out n1).drew.seven.2.2.2.1, (CB.other HB2.out n2).drew.seven.2.2.2.1⟩ | go_keep) (fail)
  have HA3 := hid (CB.other (j := 3) (v := .int .i64 (a3 + n * b3)) HA2.out n1).drew
  have HB3 := hid (CB.other (j := 3) (v := .int .i64 (a3 + n * b3)) HB2.out n2).drew
  have HR3 := hid (CB.other (j := 3) (v := .int .i64 (a3 + n * b3)) HR2.out n3).drew
  have HO3 := hid (HO2.out.set (a3 + n * b3)).2.2.2.1.drew
  have HW3 := hid (HW2.out.setCell (p := ⟨w.heap.size + 1 + 1 + 1, 3, none⟩) n4 (.int .i64 (a3 + n * b3))).drew
  clear x3 y3 z3 g3 HA2 HB2 HR2 HO2 HW2
  go_wp2
  generalize (World.setCell W2 ⟨w.heap.size + 1 + 1 + 1, 3, none⟩ (.int .i64 (a3 + n * b3))).drew = W3 at *
  rw [rounds_succ]
  have x4 := HA3.out.seven.2.2.2.2.1
  have y4 := HB3.out.seven.2.2.2.2.1
  have z4 := HO3.out.seven.2.2.2.2.1
  have g4 := HO3.out.cells.2.2.2.2.2.2.2.2.2.2.2.1
  go_wp2
  go_region_held_law (fun w' => w'.cell? ⟨w.heap.size, 4, none⟩ = some (.int .i64 a4) ∧ w'.cell? ⟨w.heap.size + 1, 4, none⟩ = some (.int .i64 b4)) (first | with_reducible exact ⟨HA3.out.drew.seven.2.2.2.2.1, HB3.out.drew.seven.2.2.2.2.1⟩ | with_reducible exact ⟨(CB.other HA3.out n1).drew.seven.2.2.2.2.1, (CB.other HB3.out n2).drew.seven.2.2.2.2.1⟩ | go_keep) (fail)
  have HA4 := hid (CB.other (j := 4) (v := .int .i64 (a4 + n * b4)) HA3.out n1).drew
  have HB4 := hid (CB.other (j := 4) (v := .int .i64 (a4 + n * b4)) HB3.out n2).drew
  have HR4 := hid (CB.other (j := 4) (v := .int .i64 (a4 + n * b4)) HR3.out n3).drew
  have HO4 := hid (HO3.out.set (a4 + n * b4)).2.2.2.2.1.drew
  have HW4 := hid (HW3.out.setCell (p := ⟨w.heap.size + 1 + 1 + 1, 4, none⟩) n4 (.int .i64 (a4 + n * b4))).drew
  clear x4 y4 z4 g4 HA3 HB3 HR3 HO3 HW3
  go_wp2
  generalize (World.setCell W3 ⟨w.heap.size + 1 + 1 + 1, 4, none⟩ (.int .i64 (a4 + n * b4))).drew = W4 at *
  rw [rounds_succ]
  have x5 := HA4.out.seven.2.2.2.2.2.1
  have y5 := HB4.out.seven.2.2.2.2.2.1
  have z5 := HO4.out.seven.2.2.2.2.2.1
  have g5 := HO4.out.cells.2.2.2.2.2.2.2.2.2.2.2.2.1
  go_wp2
  go_region_held_law (fun w' => w'.cell? ⟨w.heap.size, 5, none⟩ = some (.int .i64 a5) ∧ w'.cell? ⟨w.heap.size + 1, 5, none⟩ = some (.int .i64 b5)) (first | with_reducible exact ⟨HA4.out.drew.seven.2.2.2.2.2.1, HB4.out.drew.seven.2.2.2.2.2.1⟩ | with_reducible exact ⟨(CB.other HA4.out n1).drew.seven.2.2.2.2.2.1, (CB.other HB4.out n2).drew.seven.2.2.2.2.2.1⟩ | go_keep) (fail)
  have HA5 := hid (CB.other (j := 5) (v := .int .i64 (a5 + n * b5)) HA4.out n1).drew
  have HB5 := hid (CB.other (j := 5) (v := .int .i64 (a5 + n * b5)) HB4.out n2).drew
  have HR5 := hid (CB.other (j := 5) (v := .int .i64 (a5 + n * b5)) HR4.out n3).drew
  have HO5 := hid (HO4.out.set (a5 + n * b5)).2.2.2.2.2.1.drew
  have HW5 := hid (HW4.out.setCell (p := ⟨w.heap.size + 1 + 1 + 1, 5, none⟩) n4 (.int .i64 (a5 + n * b5))).drew
  clear x5 y5 z5 g5 HA4 HB4 HR4 HO4 HW4
  go_wp2
  generalize (World.setCell W4 ⟨w.heap.size + 1 + 1 + 1, 5, none⟩ (.int .i64 (a5 + n * b5))).drew = W5 at *
  rw [rounds_succ]
  have x6 := HA5.out.seven.2.2.2.2.2.2
  have y6 := HB5.out.seven.2.2.2.2.2.2
  have z6 := HO5.out.seven.2.2.2.2.2.2
  have g6 := HO5.out.cells.2.2.2.2.2.2.2.2.2.2.2.2.2
  go_wp2
  go_region_held_law (fun w' => w'.cell? ⟨w.heap.size, 6, none⟩ = some (.int .i64 a6) ∧ w'.cell? ⟨w.heap.size + 1, 6, none⟩ = some (.int .i64 b6)) (first | with_reducible exact ⟨HA5.out.drew.seven.2.2.2.2.2.2, HB5.out.drew.seven.2.2.2.2.2.2⟩ | with_reducible exact ⟨(CB.other HA5.out n1).drew.seven.2.2.2.2.2.2, (CB.other HB5.out n2).drew.seven.2.2.2.2.2.2⟩ | go_keep) (fail)
  have HA6 := hid (CB.other (j := 6) (v := .int .i64 (a6 + n * b6)) HA5.out n1).drew
  have HB6 := hid (CB.other (j := 6) (v := .int .i64 (a6 + n * b6)) HB5.out n2).drew
  have HR6 := hid (CB.other (j := 6) (v := .int .i64 (a6 + n * b6)) HR5.out n3).drew
  have HO6 := hid (HO5.out.set (a6 + n * b6)).2.2.2.2.2.2.drew
  have HW6 := hid (HW5.out.setCell (p := ⟨w.heap.size + 1 + 1 + 1, 6, none⟩) n4 (.int .i64 (a6 + n * b6))).drew
  clear x6 y6 z6 g6 HA5 HB5 HR5 HO5 HW5
  go_wp2
  generalize (World.setCell W5 ⟨w.heap.size + 1 + 1 + 1, 6, none⟩ (.int .i64 (a6 + n * b6))).drew = W6 at *
  rw [rounds_succ]
  obtain ⟨o0, o1, o2, o3, o4, o5, o6⟩ := HO6.out.seven
  obtain ⟨_, _, _, _, _, _, _, g0, g1, g2, g3, g4, g5, g6⟩ := HR6.out.cells
  obtain ⟨s0, s1, s2, s3, s4, s5, s6⟩ := HR6.out.seven
  have Z := hid (HR6.out.put (a0 + n * b0) (a1 + n * b1) (a2 + n * b2) (a3 + n * b3) (a4 + n * b4) (a5 + n * b5) (a6 + n * b6))
  have B5 := hid (below_put7 HW6.out n5 (a0 + n * b0) (a1 + n * b1) (a2 + n * b2) (a3 + n * b3) (a4 + n * b4) (a5 + n * b5) (a6 + n * b6))
  obtain ⟨t0, t1, t2, t3, t4, t5, t6⟩ := Z.out.seven
  go_wp2
  refine bodyPost_ret (v := clsV (lin [a0, a1, a2, a3, a4, a5, a6] n [b0, b1, b2, b3, b4, b5, b6])) (by simp [results, Try.results60, go_sem, clsV, lin, t0, t1, t2, t3, t4, t5, t6]) rfl ⟨rfl, ?_⟩
  with_reducible exact B5.out

end Go.Proofs.Ytcffaeepanhpfaa
