/-
  Contracts: line classes: the program's.
-/
import Derived.Test.YtcffaeepanhpfaaK2
import Derived.Test.YtcffaeepanhpfaaRt
namespace Go.Proofs.Ytcffaeepanhpfaa
open Go.RowKit
set_option linter.unusedVariables false
set_option linter.unusedSimpArgs false

def pairs : List (Nat × Nat) := [(0, 1), (0, 2), (0, 3), (0, 4), (0, 5), (1, 2), (1, 3), (1, 4), (1, 5), (2, 3), (2, 4), (2, 5), (3, 4), (3, 5), (4, 5)]

set_option maxRecDepth 100000 in
theorem pairAt_0 (w : World) : Calls Try.prog 64 #[.int .i64 0] w fun e w' => e = .returned (.tuple #[.int .i64 0, .int .i64 1]) ∧ w = w' := by
  go_enter Try.func64, Try.ntmps64
  go_wp2
  repeat (first | (rw [rounds_succ]; go_wp2) | (refine wp_loop_rounds 7 ?_))
  go_ret2
  exact ⟨rfl, rfl⟩

set_option maxRecDepth 100000 in
theorem pairAt_1 (w : World) : Calls Try.prog 64 #[.int .i64 1] w fun e w' => e = .returned (.tuple #[.int .i64 0, .int .i64 2]) ∧ w = w' := by
  go_enter Try.func64, Try.ntmps64
  go_wp2
  repeat (first | (rw [rounds_succ]; go_wp2) | (refine wp_loop_rounds 7 ?_))
  go_ret2
  exact ⟨rfl, rfl⟩

set_option maxRecDepth 100000 in
theorem pairAt_2 (w : World) : Calls Try.prog 64 #[.int .i64 2] w fun e w' => e = .returned (.tuple #[.int .i64 0, .int .i64 3]) ∧ w = w' := by
  go_enter Try.func64, Try.ntmps64
  go_wp2
  repeat (first | (rw [rounds_succ]; go_wp2) | (refine wp_loop_rounds 7 ?_))
  go_ret2
  exact ⟨rfl, rfl⟩

set_option maxRecDepth 100000 in
theorem pairAt_3 (w : World) : Calls Try.prog 64 #[.int .i64 3] w fun e w' => e = .returned (.tuple #[.int .i64 0, .int .i64 4]) ∧ w = w' := by
  go_enter Try.func64, Try.ntmps64
  go_wp2
  repeat (first | (rw [rounds_succ]; go_wp2) | (refine wp_loop_rounds 7 ?_))
  go_ret2
  exact ⟨rfl, rfl⟩

set_option maxRecDepth 100000 in
theorem pairAt_4 (w : World) : Calls Try.prog 64 #[.int .i64 4] w fun e w' => e = .returned (.tuple #[.int .i64 0, .int .i64 5]) ∧ w = w' := by
  go_enter Try.func64, Try.ntmps64
  go_wp2
  repeat (first | (rw [rounds_succ]; go_wp2) | (refine wp_loop_rounds 7 ?_))
  go_ret2
  exact ⟨rfl, rfl⟩

set_option maxRecDepth 100000 in
theorem pairAt_5 (w : World) : Calls Try.prog 64 #[.int .i64 5] w fun e w' => e = .returned (.tuple #[.int .i64 1, .int .i64 2]) ∧ w = w' := by
  go_enter Try.func64, Try.ntmps64
  go_wp2
  repeat (first | (rw [rounds_succ]; go_wp2) | (refine wp_loop_rounds 7 ?_))
  go_ret2
  exact ⟨rfl, rfl⟩

set_option maxRecDepth 100000 in
theorem pairAt_6 (w : World) : Calls Try.prog 64 #[.int .i64 6] w fun e w' => e = .returned (.tuple #[.int .i64 1, .int .i64 3]) ∧ w = w' := by
  go_enter Try.func64, Try.ntmps64
  go_wp2
  repeat (first | (rw [rounds_succ]; go_wp2) | (refine wp_loop_rounds 7 ?_))
  go_ret2
  exact ⟨rfl, rfl⟩

set_option maxRecDepth 100000 in
theorem pairAt_7 (w : World) : Calls Try.prog 64 #[.int .i64 7] w fun e w' => e = .returned (.tuple #[.int .i64 1, .int .i64 4]) ∧ w = w' := by
  go_enter Try.func64, Try.ntmps64
  go_wp2
  repeat (first | (rw [rounds_succ]; go_wp2) | (refine wp_loop_rounds 7 ?_))
  go_ret2
  exact ⟨rfl, rfl⟩

set_option maxRecDepth 100000 in
theorem pairAt_8 (w : World) : Calls Try.prog 64 #[.int .i64 8] w fun e w' => e = .returned (.tuple #[.int .i64 1, .int .i64 5]) ∧ w = w' := by
  go_enter Try.func64, Try.ntmps64
  go_wp2
  repeat (first | (rw [rounds_succ]; go_wp2) | (refine wp_loop_rounds 7 ?_))
  go_ret2
  exact ⟨rfl, rfl⟩

set_option maxRecDepth 100000 in
theorem pairAt_9 (w : World) : Calls Try.prog 64 #[.int .i64 9] w fun e w' => e = .returned (.tuple #[.int .i64 2, .int .i64 3]) ∧ w = w' := by
  go_enter Try.func64, Try.ntmps64
  go_wp2
  repeat (first | (rw [rounds_succ]; go_wp2) | (refine wp_loop_rounds 7 ?_))
  go_ret2
  exact ⟨rfl, rfl⟩

set_option maxRecDepth 100000 in
theorem pairAt_10 (w : World) : Calls Try.prog 64 #[.int .i64 10] w fun e w' => e = .returned (.tuple #[.int .i64 2, .int .i64 4]) ∧ w = w' := by
  go_enter Try.func64, Try.ntmps64
  go_wp2
  repeat (first | (rw [rounds_succ]; go_wp2) | (refine wp_loop_rounds 7 ?_))
  go_ret2
  exact ⟨rfl, rfl⟩

set_option maxRecDepth 100000 in
theorem pairAt_11 (w : World) : Calls Try.prog 64 #[.int .i64 11] w fun e w' => e = .returned (.tuple #[.int .i64 2, .int .i64 5]) ∧ w = w' := by
  go_enter Try.func64, Try.ntmps64
  go_wp2
  repeat (first | (rw [rounds_succ]; go_wp2) | (refine wp_loop_rounds 7 ?_))
  go_ret2
  exact ⟨rfl, rfl⟩

set_option maxRecDepth 100000 in
theorem pairAt_12 (w : World) : Calls Try.prog 64 #[.int .i64 12] w fun e w' => e = .returned (.tuple #[.int .i64 3, .int .i64 4]) ∧ w = w' := by
  go_enter Try.func64, Try.ntmps64
  go_wp2
  repeat (first | (rw [rounds_succ]; go_wp2) | (refine wp_loop_rounds 7 ?_))
  go_ret2
  exact ⟨rfl, rfl⟩

set_option maxRecDepth 100000 in
theorem pairAt_13 (w : World) : Calls Try.prog 64 #[.int .i64 13] w fun e w' => e = .returned (.tuple #[.int .i64 3, .int .i64 5]) ∧ w = w' := by
  go_enter Try.func64, Try.ntmps64
  go_wp2
  repeat (first | (rw [rounds_succ]; go_wp2) | (refine wp_loop_rounds 7 ?_))
  go_ret2
  exact ⟨rfl, rfl⟩

set_option maxRecDepth 100000 in
theorem pairAt_14 (w : World) : Calls Try.prog 64 #[.int .i64 14] w fun e w' => e = .returned (.tuple #[.int .i64 4, .int .i64 5]) ∧ w = w' := by
  go_enter Try.func64, Try.ntmps64
  go_wp2
  repeat (first | (rw [rounds_succ]; go_wp2) | (refine wp_loop_rounds 7 ?_))
  go_ret2
  exact ⟨rfl, rfl⟩

set_option maxRecDepth 100000 in
set_option maxHeartbeats 8000000 in
theorem lineClass_0 (w : World) : Calls Try.prog 52 #[.int .i64 0] w fun e w' => e = .returned (clsV (lineC 0)) ∧ Below w.heap.size w w' := by
  go_enter Try.func52, Try.ntmps52
  go_wp2
  refine bodyPost_ret (v := clsV (lineC 0)) (by simp [results, Try.results52, go_sem, clsV, lineC, lines]) rfl ⟨rfl, ?_⟩
  exact below_trans (below_alloc _ _) (below_alloc _ _)

set_option maxRecDepth 100000 in
set_option maxHeartbeats 8000000 in
theorem lineClass_1 (w : World) : Calls Try.prog 52 #[.int .i64 1] w fun e w' => e = .returned (clsV (lineC 1)) ∧ Below w.heap.size w w' := by
  go_enter Try.func52, Try.ntmps52
  go_wp2
  refine bodyPost_ret (v := clsV (lineC 1)) (by simp [results, Try.results52, go_sem, clsV, lineC, lines]) rfl ⟨rfl, ?_⟩
  exact below_trans (below_alloc _ _) (below_alloc _ _)

set_option maxRecDepth 100000 in
set_option maxHeartbeats 8000000 in
theorem lineClass_2 (w : World) : Calls Try.prog 52 #[.int .i64 2] w fun e w' => e = .returned (clsV (lineC 2)) ∧ Below w.heap.size w w' := by
  go_enter Try.func52, Try.ntmps52
  go_wp2
  refine bodyPost_ret (v := clsV (lineC 2)) (by simp [results, Try.results52, go_sem, clsV, lineC, lines]) rfl ⟨rfl, ?_⟩
  exact below_trans (below_alloc _ _) (below_alloc _ _)

set_option maxRecDepth 100000 in
set_option maxHeartbeats 8000000 in
theorem lineClass_3 (w : World) : Calls Try.prog 52 #[.int .i64 3] w fun e w' => e = .returned (clsV (lineC 3)) ∧ Below w.heap.size w w' := by
  go_enter Try.func52, Try.ntmps52
  go_wp2
  refine bodyPost_ret (v := clsV (lineC 3)) (by simp [results, Try.results52, go_sem, clsV, lineC, lines]) rfl ⟨rfl, ?_⟩
  exact below_trans (below_alloc _ _) (below_alloc _ _)

set_option maxRecDepth 100000 in
set_option maxHeartbeats 8000000 in
theorem lineClass_4 (w : World) : Calls Try.prog 52 #[.int .i64 4] w fun e w' => e = .returned (clsV (lineC 4)) ∧ Below w.heap.size w w' := by
  go_enter Try.func52, Try.ntmps52
  go_wp2
  refine bodyPost_ret (v := clsV (lineC 4)) (by simp [results, Try.results52, go_sem, clsV, lineC, lines]) rfl ⟨rfl, ?_⟩
  exact below_trans (below_alloc _ _) (below_alloc _ _)

set_option maxRecDepth 100000 in
set_option maxHeartbeats 8000000 in
theorem lineClass_5 (w : World) : Calls Try.prog 52 #[.int .i64 5] w fun e w' => e = .returned (clsV (lineC 5)) ∧ Below w.heap.size w w' := by
  go_enter Try.func52, Try.ntmps52
  go_wp2
  refine bodyPost_ret (v := clsV (lineC 5)) (by simp [results, Try.results52, go_sem, clsV, lineC, lines]) rfl ⟨rfl, ?_⟩
  exact below_trans (below_alloc _ _) (below_alloc _ _)

set_option maxRecDepth 100000 in
set_option maxHeartbeats 8000000 in
theorem lineClass_6 (w : World) : Calls Try.prog 52 #[.int .i64 6] w fun e w' => e = .returned (clsV (lineC 6)) ∧ Below w.heap.size w w' := by
  go_enter Try.func52, Try.ntmps52
  go_wp2_with fail
  refine (pairAt_0 _).mono ?_
  rintro e w' ⟨rfl, rfl⟩
  go_wp2
  refine bodyPost_ret (v := clsV (lineC 6)) (by simp [results, Try.results52, go_sem, clsV, lineC, lines]) rfl ⟨rfl, ?_⟩
  exact below_trans (below_alloc _ _) (below_alloc _ _)

set_option maxRecDepth 100000 in
set_option maxHeartbeats 8000000 in
theorem lineClass_7 (w : World) : Calls Try.prog 52 #[.int .i64 7] w fun e w' => e = .returned (clsV (lineC 7)) ∧ Below w.heap.size w w' := by
  go_enter Try.func52, Try.ntmps52
  go_wp2_with fail
  refine (pairAt_1 _).mono ?_
  rintro e w' ⟨rfl, rfl⟩
  go_wp2
  refine bodyPost_ret (v := clsV (lineC 7)) (by simp [results, Try.results52, go_sem, clsV, lineC, lines]) rfl ⟨rfl, ?_⟩
  exact below_trans (below_alloc _ _) (below_alloc _ _)

set_option maxRecDepth 100000 in
set_option maxHeartbeats 8000000 in
theorem lineClass_8 (w : World) : Calls Try.prog 52 #[.int .i64 8] w fun e w' => e = .returned (clsV (lineC 8)) ∧ Below w.heap.size w w' := by
  go_enter Try.func52, Try.ntmps52
  go_wp2_with fail
  refine (pairAt_2 _).mono ?_
  rintro e w' ⟨rfl, rfl⟩
  go_wp2
  refine bodyPost_ret (v := clsV (lineC 8)) (by simp [results, Try.results52, go_sem, clsV, lineC, lines]) rfl ⟨rfl, ?_⟩
  exact below_trans (below_alloc _ _) (below_alloc _ _)

set_option maxRecDepth 100000 in
set_option maxHeartbeats 8000000 in
theorem lineClass_9 (w : World) : Calls Try.prog 52 #[.int .i64 9] w fun e w' => e = .returned (clsV (lineC 9)) ∧ Below w.heap.size w w' := by
  go_enter Try.func52, Try.ntmps52
  go_wp2_with fail
  refine (pairAt_3 _).mono ?_
  rintro e w' ⟨rfl, rfl⟩
  go_wp2
  refine bodyPost_ret (v := clsV (lineC 9)) (by simp [results, Try.results52, go_sem, clsV, lineC, lines]) rfl ⟨rfl, ?_⟩
  exact below_trans (below_alloc _ _) (below_alloc _ _)

set_option maxRecDepth 100000 in
set_option maxHeartbeats 8000000 in
theorem lineClass_10 (w : World) : Calls Try.prog 52 #[.int .i64 10] w fun e w' => e = .returned (clsV (lineC 10)) ∧ Below w.heap.size w w' := by
  go_enter Try.func52, Try.ntmps52
  go_wp2_with fail
  refine (pairAt_4 _).mono ?_
  rintro e w' ⟨rfl, rfl⟩
  go_wp2
  refine bodyPost_ret (v := clsV (lineC 10)) (by simp [results, Try.results52, go_sem, clsV, lineC, lines]) rfl ⟨rfl, ?_⟩
  exact below_trans (below_alloc _ _) (below_alloc _ _)

set_option maxRecDepth 100000 in
set_option maxHeartbeats 8000000 in
theorem lineClass_11 (w : World) : Calls Try.prog 52 #[.int .i64 11] w fun e w' => e = .returned (clsV (lineC 11)) ∧ Below w.heap.size w w' := by
  go_enter Try.func52, Try.ntmps52
  go_wp2_with fail
  refine (pairAt_5 _).mono ?_
  rintro e w' ⟨rfl, rfl⟩
  go_wp2
  refine bodyPost_ret (v := clsV (lineC 11)) (by simp [results, Try.results52, go_sem, clsV, lineC, lines]) rfl ⟨rfl, ?_⟩
  exact below_trans (below_alloc _ _) (below_alloc _ _)

set_option maxRecDepth 100000 in
set_option maxHeartbeats 8000000 in
theorem lineClass_12 (w : World) : Calls Try.prog 52 #[.int .i64 12] w fun e w' => e = .returned (clsV (lineC 12)) ∧ Below w.heap.size w w' := by
  go_enter Try.func52, Try.ntmps52
  go_wp2_with fail
  refine (pairAt_6 _).mono ?_
  rintro e w' ⟨rfl, rfl⟩
  go_wp2
  refine bodyPost_ret (v := clsV (lineC 12)) (by simp [results, Try.results52, go_sem, clsV, lineC, lines]) rfl ⟨rfl, ?_⟩
  exact below_trans (below_alloc _ _) (below_alloc _ _)

set_option maxRecDepth 100000 in
set_option maxHeartbeats 8000000 in
theorem lineClass_13 (w : World) : Calls Try.prog 52 #[.int .i64 13] w fun e w' => e = .returned (clsV (lineC 13)) ∧ Below w.heap.size w w' := by
  go_enter Try.func52, Try.ntmps52
  go_wp2_with fail
  refine (pairAt_7 _).mono ?_
  rintro e w' ⟨rfl, rfl⟩
  go_wp2
  refine bodyPost_ret (v := clsV (lineC 13)) (by simp [results, Try.results52, go_sem, clsV, lineC, lines]) rfl ⟨rfl, ?_⟩
  exact below_trans (below_alloc _ _) (below_alloc _ _)

set_option maxRecDepth 100000 in
set_option maxHeartbeats 8000000 in
theorem lineClass_14 (w : World) : Calls Try.prog 52 #[.int .i64 14] w fun e w' => e = .returned (clsV (lineC 14)) ∧ Below w.heap.size w w' := by
  go_enter Try.func52, Try.ntmps52
  go_wp2_with fail
  refine (pairAt_8 _).mono ?_
  rintro e w' ⟨rfl, rfl⟩
  go_wp2
  refine bodyPost_ret (v := clsV (lineC 14)) (by simp [results, Try.results52, go_sem, clsV, lineC, lines]) rfl ⟨rfl, ?_⟩
  exact below_trans (below_alloc _ _) (below_alloc _ _)

set_option maxRecDepth 100000 in
set_option maxHeartbeats 8000000 in
theorem lineClass_15 (w : World) : Calls Try.prog 52 #[.int .i64 15] w fun e w' => e = .returned (clsV (lineC 15)) ∧ Below w.heap.size w w' := by
  go_enter Try.func52, Try.ntmps52
  go_wp2_with fail
  refine (pairAt_9 _).mono ?_
  rintro e w' ⟨rfl, rfl⟩
  go_wp2
  refine bodyPost_ret (v := clsV (lineC 15)) (by simp [results, Try.results52, go_sem, clsV, lineC, lines]) rfl ⟨rfl, ?_⟩
  exact below_trans (below_alloc _ _) (below_alloc _ _)

set_option maxRecDepth 100000 in
set_option maxHeartbeats 8000000 in
theorem lineClass_16 (w : World) : Calls Try.prog 52 #[.int .i64 16] w fun e w' => e = .returned (clsV (lineC 16)) ∧ Below w.heap.size w w' := by
  go_enter Try.func52, Try.ntmps52
  go_wp2_with fail
  refine (pairAt_10 _).mono ?_
  rintro e w' ⟨rfl, rfl⟩
  go_wp2
  refine bodyPost_ret (v := clsV (lineC 16)) (by simp [results, Try.results52, go_sem, clsV, lineC, lines]) rfl ⟨rfl, ?_⟩
  exact below_trans (below_alloc _ _) (below_alloc _ _)

set_option maxRecDepth 100000 in
set_option maxHeartbeats 8000000 in
theorem lineClass_17 (w : World) : Calls Try.prog 52 #[.int .i64 17] w fun e w' => e = .returned (clsV (lineC 17)) ∧ Below w.heap.size w w' := by
  go_enter Try.func52, Try.ntmps52
  go_wp2_with fail
  refine (pairAt_11 _).mono ?_
  rintro e w' ⟨rfl, rfl⟩
  go_wp2
  refine bodyPost_ret (v := clsV (lineC 17)) (by simp [results, Try.results52, go_sem, clsV, lineC, lines]) rfl ⟨rfl, ?_⟩
  exact below_trans (below_alloc _ _) (below_alloc _ _)

set_option maxRecDepth 100000 in
set_option maxHeartbeats 8000000 in
theorem lineClass_18 (w : World) : Calls Try.prog 52 #[.int .i64 18] w fun e w' => e = .returned (clsV (lineC 18)) ∧ Below w.heap.size w w' := by
  go_enter Try.func52, Try.ntmps52
  go_wp2_with fail
  refine (pairAt_12 _).mono ?_
  rintro e w' ⟨rfl, rfl⟩
  go_wp2
  refine bodyPost_ret (v := clsV (lineC 18)) (by simp [results, Try.results52, go_sem, clsV, lineC, lines]) rfl ⟨rfl, ?_⟩
  exact below_trans (below_alloc _ _) (below_alloc _ _)

set_option maxRecDepth 100000 in
set_option maxHeartbeats 8000000 in
theorem lineClass_19 (w : World) : Calls Try.prog 52 #[.int .i64 19] w fun e w' => e = .returned (clsV (lineC 19)) ∧ Below w.heap.size w w' := by
  go_enter Try.func52, Try.ntmps52
  go_wp2_with fail
  refine (pairAt_13 _).mono ?_
  rintro e w' ⟨rfl, rfl⟩
  go_wp2
  refine bodyPost_ret (v := clsV (lineC 19)) (by simp [results, Try.results52, go_sem, clsV, lineC, lines]) rfl ⟨rfl, ?_⟩
  exact below_trans (below_alloc _ _) (below_alloc _ _)

set_option maxRecDepth 100000 in
set_option maxHeartbeats 8000000 in
theorem lineClass_20 (w : World) : Calls Try.prog 52 #[.int .i64 20] w fun e w' => e = .returned (clsV (lineC 20)) ∧ Below w.heap.size w w' := by
  go_enter Try.func52, Try.ntmps52
  go_wp2_with fail
  refine (pairAt_14 _).mono ?_
  rintro e w' ⟨rfl, rfl⟩
  go_wp2
  refine bodyPost_ret (v := clsV (lineC 20)) (by simp [results, Try.results52, go_sem, clsV, lineC, lines]) rfl ⟨rfl, ?_⟩
  exact below_trans (below_alloc _ _) (below_alloc _ _)

set_option maxRecDepth 100000 in
set_option maxHeartbeats 8000000 in
theorem lineClass_21 (w : World) : Calls Try.prog 52 #[.int .i64 21] w fun e w' => e = .returned (clsV (lineC 21)) ∧ Below w.heap.size w w' := by
  go_enter Try.func52, Try.ntmps52
  go_wp2
  refine bodyPost_ret (v := clsV (lineC 21)) (by simp [results, Try.results52, go_sem, clsV, lineC, lines]) rfl ⟨rfl, ?_⟩
  exact below_trans (below_alloc _ _) (below_alloc _ _)

set_option maxRecDepth 100000 in
set_option maxHeartbeats 8000000 in
theorem lineClass_22 (w : World) : Calls Try.prog 52 #[.int .i64 22] w fun e w' => e = .returned (clsV (lineC 22)) ∧ Below w.heap.size w w' := by
  go_enter Try.func52, Try.ntmps52
  go_wp2
  refine bodyPost_ret (v := clsV (lineC 22)) (by simp [results, Try.results52, go_sem, clsV, lineC, lines]) rfl ⟨rfl, ?_⟩
  exact below_trans (below_alloc _ _) (below_alloc _ _)

set_option maxRecDepth 100000 in
set_option maxHeartbeats 8000000 in
theorem lineClass_23 (w : World) : Calls Try.prog 52 #[.int .i64 23] w fun e w' => e = .returned (clsV (lineC 23)) ∧ Below w.heap.size w w' := by
  go_enter Try.func52, Try.ntmps52
  go_wp2
  refine bodyPost_ret (v := clsV (lineC 23)) (by simp [results, Try.results52, go_sem, clsV, lineC, lines]) rfl ⟨rfl, ?_⟩
  exact below_trans (below_alloc _ _) (below_alloc _ _)

set_option maxRecDepth 100000 in
set_option maxHeartbeats 8000000 in
theorem lineClass_24 (w : World) : Calls Try.prog 52 #[.int .i64 24] w fun e w' => e = .returned (clsV (lineC 24)) ∧ Below w.heap.size w w' := by
  go_enter Try.func52, Try.ntmps52
  go_wp2
  refine bodyPost_ret (v := clsV (lineC 24)) (by simp [results, Try.results52, go_sem, clsV, lineC, lines]) rfl ⟨rfl, ?_⟩
  exact below_trans (below_alloc _ _) (below_alloc _ _)

set_option maxRecDepth 100000 in
set_option maxHeartbeats 8000000 in
theorem lineClass_25 (w : World) : Calls Try.prog 52 #[.int .i64 25] w fun e w' => e = .returned (clsV (lineC 25)) ∧ Below w.heap.size w w' := by
  go_enter Try.func52, Try.ntmps52
  go_wp2
  refine bodyPost_ret (v := clsV (lineC 25)) (by simp [results, Try.results52, go_sem, clsV, lineC, lines]) rfl ⟨rfl, ?_⟩
  exact below_trans (below_alloc _ _) (below_alloc _ _)

set_option maxRecDepth 100000 in
set_option maxHeartbeats 8000000 in
theorem lineClass_26 (w : World) : Calls Try.prog 52 #[.int .i64 26] w fun e w' => e = .returned (clsV (lineC 26)) ∧ Below w.heap.size w w' := by
  go_enter Try.func52, Try.ntmps52
  go_wp2
  refine bodyPost_ret (v := clsV (lineC 26)) (by simp [results, Try.results52, go_sem, clsV, lineC, lines]) rfl ⟨rfl, ?_⟩
  exact below_trans (below_alloc _ _) (below_alloc _ _)

theorem lineClass_ok (k : Nat) (h : k < 27) (w : World) : Calls Try.prog 52 #[.int .i64 k] w fun e w' => e = .returned (clsV (lineC k)) ∧ Below w.heap.size w w' := by
  match k, h with
  | 0, _ => exact lineClass_0 w
  | 1, _ => exact lineClass_1 w
  | 2, _ => exact lineClass_2 w
  | 3, _ => exact lineClass_3 w
  | 4, _ => exact lineClass_4 w
  | 5, _ => exact lineClass_5 w
  | 6, _ => exact lineClass_6 w
  | 7, _ => exact lineClass_7 w
  | 8, _ => exact lineClass_8 w
  | 9, _ => exact lineClass_9 w
  | 10, _ => exact lineClass_10 w
  | 11, _ => exact lineClass_11 w
  | 12, _ => exact lineClass_12 w
  | 13, _ => exact lineClass_13 w
  | 14, _ => exact lineClass_14 w
  | 15, _ => exact lineClass_15 w
  | 16, _ => exact lineClass_16 w
  | 17, _ => exact lineClass_17 w
  | 18, _ => exact lineClass_18 w
  | 19, _ => exact lineClass_19 w
  | 20, _ => exact lineClass_20 w
  | 21, _ => exact lineClass_21 w
  | 22, _ => exact lineClass_22 w
  | 23, _ => exact lineClass_23 w
  | 24, _ => exact lineClass_24 w
  | 25, _ => exact lineClass_25 w
  | 26, _ => exact lineClass_26 w
  | n + 27, h => exact absurd h (by omega)

end Go.Proofs.Ytcffaeepanhpfaa
