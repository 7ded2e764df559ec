/-
  Contracts: the laws' test of two points.
-/
import Derived.Test.YtkddhlgohjojpaaPf
namespace Go.Proofs.Ytkddhlgohjojpaa
open Go.RowKit
set_option linter.unusedVariables false
set_option linter.unusedSimpArgs false

theorem eqIntA3_ok (x y z x' y' z' : Int) (w : World) :
    Calls Try.prog 52 #[.agg #[.int .i64 x, .int .i64 y, .int .i64 z], .agg #[.int .i64 x', .int .i64 y', .int .i64 z']] w fun e w' => e = .returned (.bool ((x == x' && y == y') && z == z')) ∧ Below w.heap.size w w' := by
  cases h0 : (x == x')
  · have H0 := hid h0
    have h0' : (x != x') = true := by simpa using h0
    go_enter Try.func52, Try.ntmps52
    go_wp2
    refine wp_loop_rounds 1 ?_
    rw [rounds_succ]
    go_wp2
    go_quiet (fail)
    go_wp2
    go_ret
    refine ⟨by simp, ?_⟩
    repeat apply below_drewN
    exact (below_alloc _ _).alloc (by simp) _
  · have H0 := hid h0
    have h0' : (x != x') = false := by simpa using h0
    cases h1 : (y == y')
    · have H1 := hid h1
      have h1' : (y != y') = true := by simpa using h1
      clear h0 h1
      go_enter Try.func52, Try.ntmps52
      go_wp2
      refine wp_loop_rounds 2 ?_
      rw [rounds_succ]
      go_wp2
      go_quiet (fail)
      go_wp2
      rw [rounds_succ]
      go_wp2
      go_quiet (fail)
      go_wp2
      go_ret
      refine ⟨by simp, ?_⟩
      repeat apply below_drewN
      exact (below_alloc _ _).alloc (by simp) _
    · have H1 := hid h1
      have h1' : (y != y') = false := by simpa using h1
      clear h0 h1
      cases h2 : (z == z')
      · have H2 := hid h2
        have h2' : (z != z') = true := by simpa using h2
        clear h2
        go_enter Try.func52, Try.ntmps52
        go_wp2
        refine wp_loop_rounds 3 ?_
        rw [rounds_succ]
        go_wp2
        go_quiet (fail)
        go_wp2
        rw [rounds_succ]
        go_wp2
        go_quiet (fail)
        go_wp2
        rw [rounds_succ]
        go_wp2
        go_quiet (fail)
        go_wp2
        go_ret
        refine ⟨by simp, ?_⟩
        repeat apply below_drewN
        exact (below_alloc _ _).alloc (by simp) _
      · have H2 := hid h2
        have h2' : (z != z') = false := by simpa using h2
        clear h2
        go_enter Try.func52, Try.ntmps52
        go_wp2
        refine wp_loop_rounds 4 ?_
        rw [rounds_succ]
        go_wp2
        go_quiet (fail)
        go_wp2
        rw [rounds_succ]
        go_wp2
        go_quiet (fail)
        go_wp2
        rw [rounds_succ]
        go_wp2
        go_quiet (fail)
        go_wp2
        rw [rounds_succ]
        go_wp2
        go_ret
        refine ⟨by simp, ?_⟩
        repeat apply below_drewN
        exact (below_alloc _ _).alloc (by simp) _

theorem eqPoint_ok (x y z x' y' z' : Int) (w : World) :
    Calls Try.prog 19 #[.agg #[.int .i64 x, .int .i64 y, .int .i64 z], .agg #[.int .i64 x', .int .i64 y', .int .i64 z']] w fun e w' => e = .returned (.bool ((x == x' && y == y') && z == z')) ∧ Below w.heap.size w w' := by
  cases h : ((x == x' && y == y') && z == z')
  · have H := hid h
    clear h
    go_enter Try.func19, Try.ntmps19
    go_wp2_with (go_at_call 52; refine (eqIntA3_ok x y z x' y' z' _).mono ?_; rintro e w1 ⟨rfl, hb⟩; rw [H.out])
    go_ret
    exact ⟨rfl, below_alloc_then (below_alloc_then hb)⟩
  · have H := hid h
    clear h
    go_enter Try.func19, Try.ntmps19
    go_wp2_with (go_at_call 52; refine (eqIntA3_ok x y z x' y' z' _).mono ?_; rintro e w1 ⟨rfl, hb⟩; rw [H.out])
    go_ret
    exact ⟨rfl, below_alloc_then (below_alloc_then hb)⟩


end Go.Proofs.Ytkddhlgohjojpaa
