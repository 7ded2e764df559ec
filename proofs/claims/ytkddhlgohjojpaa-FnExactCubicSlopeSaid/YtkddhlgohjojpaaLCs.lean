/-
  The law of CubicSlope.
-/
import Derived.Test.YtkddhlgohjojpaaCs
namespace Go.Proofs.Ytkddhlgohjojpaa
open Go.RowKit
set_option linter.unusedVariables false
set_option linter.unusedSimpArgs false

set_option maxRecDepth 100000 in
set_option maxHeartbeats 4000000 in
theorem FnExactCubicSlope_ok (p : Int) (A : Option Addr) (k c : Nat) (fs : List Int) (x y z l m n : Int) (w : World) (hp : (Lit.int .i64 p).wf = true) (hr : k ≤ 1048576 → RI w A k fs) (hx : (Lit.int .i64 x).wf = true) (hy : (Lit.int .i64 y).wf = true) (hz : (Lit.int .i64 z).wf = true) (hl : (Lit.int .i64 l).wf = true) (hm : (Lit.int .i64 m).wf = true) (hn : (Lit.int .i64 n).wf = true) :
    Calls Try.prog 7 #[.int .i64 p, .slice A k c, .agg #[.int .i64 x, .int .i64 y, .int .i64 z], .agg #[.int .i64 l, .int .i64 m, .int .i64 n]] w fun e w' => e = .returned (.bool true) ∧ Below w.heap.size w w' := by
  have BW := hid (show Below w.heap.size w ((w.alloc (.cells #[.int .i64 x, .int .i64 y, .int .i64 z] 37)).alloc (.cells #[.int .i64 l, .int .i64 m, .int .i64 n] 37)) from below_trans (below_alloc _ _) (below_alloc _ _))
  by_cases hb : k ≤ 1048576
  · have HR := hid ((hr hb).below BW.out)
    have X0 := hid (show ((w.alloc (.cells #[.int .i64 x, .int .i64 y, .int .i64 z] 37)).alloc (.cells #[.int .i64 l, .int .i64 m, .int .i64 n] 37)).cell? ⟨w.heap.size, 0, none⟩ = some (.int .i64 x) ∧ ((w.alloc (.cells #[.int .i64 x, .int .i64 y, .int .i64 z] 37)).alloc (.cells #[.int .i64 l, .int .i64 m, .int .i64 n] 37)).cell? ⟨w.heap.size, 1, none⟩ = some (.int .i64 y) ∧ ((w.alloc (.cells #[.int .i64 x, .int .i64 y, .int .i64 z] 37)).alloc (.cells #[.int .i64 l, .int .i64 m, .int .i64 n] 37)).cell? ⟨w.heap.size, 2, none⟩ = some (.int .i64 z) by simp [go_sem])
    have Y0 := hid (show ((w.alloc (.cells #[.int .i64 x, .int .i64 y, .int .i64 z] 37)).alloc (.cells #[.int .i64 l, .int .i64 m, .int .i64 n] 37)).cell? ⟨w.heap.size + 1, 0, none⟩ = some (.int .i64 l) ∧ ((w.alloc (.cells #[.int .i64 x, .int .i64 y, .int .i64 z] 37)).alloc (.cells #[.int .i64 l, .int .i64 m, .int .i64 n] 37)).cell? ⟨w.heap.size + 1, 1, none⟩ = some (.int .i64 m) ∧ ((w.alloc (.cells #[.int .i64 x, .int .i64 y, .int .i64 z] 37)).alloc (.cells #[.int .i64 l, .int .i64 m, .int .i64 n] 37)).cell? ⟨w.heap.size + 1, 2, none⟩ = some (.int .i64 n) by simp [go_sem])
    clear hr
    go_enter Try.func7, Try.ntmps7
    go_wp2
    generalize ((w.alloc (.cells #[.int .i64 x, .int .i64 y, .int .i64 z] 37)).alloc (.cells #[.int .i64 l, .int .i64 m, .int .i64 n] 37)) = W at *
    obtain ⟨q0, q1, q2⟩ := X0.out
    obtain ⟨r0, r1, r2⟩ := Y0.out
    go_region_held_law (fun w' => (w'.cell? ⟨w.heap.size, 0, none⟩ = some (.int .i64 x) ∧ w'.cell? ⟨w.heap.size, 1, none⟩ = some (.int .i64 y) ∧ w'.cell? ⟨w.heap.size, 2, none⟩ = some (.int .i64 z)) ∧ (w'.cell? ⟨w.heap.size + 1, 0, none⟩ = some (.int .i64 l) ∧ w'.cell? ⟨w.heap.size + 1, 1, none⟩ = some (.int .i64 m) ∧ w'.cell? ⟨w.heap.size + 1, 2, none⟩ = some (.int .i64 n))) (first | with_reducible exact ⟨X4.out, Y4.out⟩ | with_reducible exact ⟨X3.out, Y3.out⟩ | with_reducible exact ⟨X2.out, Y2.out⟩ | with_reducible exact ⟨X1.out, Y1.out⟩ | go_keep)
      (first
        | (go_at_call 21; refine (toIntS_ri A k c fs _ (HR.out.drewN 1)).mono ?_; rintro e w1 ⟨A1, c1', rfl, r1', b1⟩; have R1 := hid r1'; have B1 := hid b1; have X1 := hid (c3b b1 (show W.drew.cell? _ = _ ∧ W.drew.cell? _ = _ ∧ W.drew.cell? _ = _ from X0.out)); have Y1 := hid (c3b b1 (show W.drew.cell? _ = _ ∧ W.drew.cell? _ = _ ∧ W.drew.cell? _ = _ from Y0.out)); clear r1' b1)
        | (go_at_call 22; (with_reducible refine (toPoint_ok x y z _).mono ?_); rintro e w2 ⟨rfl, b2⟩; have B2 := hid (below_trans B1.out b2); have R2 := hid (R1.out.below b2); have X2 := hid (c3b b2 X1.out); have Y2 := hid (c3b b2 Y1.out); clear b2)
        | (go_at_call 22; (with_reducible refine (toPoint_ok l m n _).mono ?_); rintro e w3 ⟨rfl, b3⟩; have B3 := hid (below_trans B2.out b3); have R3 := hid (R2.out.below b3); have X3 := hid (c3b b3 X2.out); have Y3 := hid (c3b b3 Y2.out); clear b3)
        | (go_at_call 26; (with_reducible refine (specCubicSlope_ok p A1 k c1' fs x y z l m n _ R3.out).mono ?_); rintro e w4 ⟨rfl, b4⟩; have B4 := hid (below_trans B3.out b4); have X4 := hid (c3b b4 X3.out); have Y4 := hid (c3b b4 Y3.out); clear b4))
    have HRW := hid ((HR.out.drewN 1).below B4.out)
    clear q0 q1 q2 r0 r1 r2
    go_wp2_with fail
    refine (toIntS_ri A k c fs _ HRW.out).mono ?_
    rintro e w5 ⟨A5, c5, rfl, r5, b5⟩
    have R5 := hid r5
    have B5 := hid (below_trans B4.out b5)
    have X5 := hid (c3b b5 X4.out)
    have Y5 := hid (c3b b5 Y4.out)
    clear r5 b5
    have BD := hid (show Below W.drew.heap.size W.drew w5.drew from below_drewN B5.out 1)
    have RD := hid (show RI w5.drew A5 k fs from R5.out)
    have XD := hid (show w5.drew.cell? ⟨w.heap.size, 0, none⟩ = some (.int .i64 x) ∧ w5.drew.cell? ⟨w.heap.size, 1, none⟩ = some (.int .i64 y) ∧ w5.drew.cell? ⟨w.heap.size, 2, none⟩ = some (.int .i64 z) from X5.out)
    have YD := hid (show w5.drew.cell? ⟨w.heap.size + 1, 0, none⟩ = some (.int .i64 l) ∧ w5.drew.cell? ⟨w.heap.size + 1, 1, none⟩ = some (.int .i64 m) ∧ w5.drew.cell? ⟨w.heap.size + 1, 2, none⟩ = some (.int .i64 n) from Y5.out)
    obtain ⟨q0, q1, q2⟩ := X5.out
    obtain ⟨r0, r1, r2⟩ := Y5.out
    go_wp2
    go_region_held_law (fun w' => (w'.cell? ⟨w.heap.size, 0, none⟩ = some (.int .i64 x) ∧ w'.cell? ⟨w.heap.size, 1, none⟩ = some (.int .i64 y) ∧ w'.cell? ⟨w.heap.size, 2, none⟩ = some (.int .i64 z)) ∧ (w'.cell? ⟨w.heap.size + 1, 0, none⟩ = some (.int .i64 l) ∧ w'.cell? ⟨w.heap.size + 1, 1, none⟩ = some (.int .i64 m) ∧ w'.cell? ⟨w.heap.size + 1, 2, none⟩ = some (.int .i64 n))) (first | with_reducible exact ⟨X8.out, Y8.out⟩ | with_reducible exact ⟨X7.out, Y7.out⟩ | with_reducible exact ⟨X6.out, Y6.out⟩ | with_reducible exact ⟨XD.out, YD.out⟩ | go_keep)
      (first
        | (go_at_call 22; (with_reducible refine (toPoint_ok x y z _).mono ?_); rintro e w6 ⟨rfl, b6⟩; have B6 := hid (below_trans BD.out b6); have R6 := hid (RD.out.below b6); have X6 := hid (c3b b6 XD.out); have Y6 := hid (c3b b6 YD.out); clear b6)
        | (go_at_call 22; (with_reducible refine (toPoint_ok l m n _).mono ?_); rintro e w7 ⟨rfl, b7⟩; have B7 := hid (below_trans B6.out b7); have R7 := hid (R6.out.below b7); have X7 := hid (c3b b7 X6.out); have Y7 := hid (c3b b7 Y6.out); clear b7)
        | (go_at_call 27; (with_reducible refine (implCubicSlope_ok p A5 k c5 fs x y z l m n _ R7.out).mono ?_); rintro e w8 ⟨rfl, b8⟩; have B8 := hid (below_trans B7.out b8); have R8 := hid (R7.out.below b8); have X8 := hid (c3b b8 X7.out); have Y8 := hid (c3b b8 Y7.out); clear b8))
    clear q0 q1 q2 r0 r1 r2
    generalize csV p fs x y z l m n = V
    generalize csB p fs x y z l m n = D
    have hne : (V != V) = false := by simp
    have hne2 : (D != D) = false := by simp
    go_wp2_with fail
    refine (toIntS_ri A k c fs _ ((HR.out.drewN 1).below B8.out)).mono ?_
    rintro e w9 ⟨A9, c9, rfl, r9, b9⟩
    have R9 := hid r9
    have B9 := hid (below_trans B8.out b9)
    have R89 := hid (R8.out.below b9)
    clear r9 b9
    go_wp2_with fail
    refine (eqIntS_ok A5 k c5 fs A9 k c9 fs _ R89.out R9.out).mono ?_
    rintro e w10 ⟨rfl, b10⟩
    have B10 := hid (below_trans B9.out b10)
    clear b10
    rw [beq_self_eq_true]
    go_wp2
    go_ret
    exact ⟨rfl, below_trans BW.out (below_trans (below_drewN (Below.refl _ W) 1) B10.out)⟩
  · clear hr
    go_enter Try.func7, Try.ntmps7
    go_wp2
    go_ret
    exact ⟨rfl, BW.out⟩

end Go.Proofs.Ytkddhlgohjojpaa
