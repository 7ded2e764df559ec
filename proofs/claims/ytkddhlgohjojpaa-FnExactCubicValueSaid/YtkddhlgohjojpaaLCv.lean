/-
  The law of CubicValue.
-/
import Derived.Test.YtkddhlgohjojpaaCv
import Derived.Deep.RegionHeldLaw
namespace Go.Proofs.Ytkddhlgohjojpaa
open Go.RowKit
set_option linter.unusedVariables false
set_option linter.unusedSimpArgs false

set_option maxRecDepth 100000 in
set_option maxHeartbeats 2000000 in
theorem FnExactCubicValue_ok (p : Int) (A : Option Addr) (n c : Nat) (fs : List Int) (x y z : Int) (w : World) (hp : (Lit.int .i64 p).wf = true) (hr : n ≤ 1048576 → RI w A n fs) (hx : (Lit.int .i64 x).wf = true) (hy : (Lit.int .i64 y).wf = true) (hz : (Lit.int .i64 z).wf = true) :
    Calls Try.prog 5 #[.int .i64 p, .slice A n c, .agg #[.int .i64 x, .int .i64 y, .int .i64 z]] w fun e w' => e = .returned (.bool true) ∧ Below w.heap.size w w' := by
  by_cases hb : n ≤ 1048576
  · have HR0 := hid (hr hb)
    have HR := hid ((hr hb).alloc (.cells #[.int .i64 x, .int .i64 y, .int .i64 z] 37))
    have HBW := hid (below_alloc w (.cells #[.int .i64 x, .int .i64 y, .int .i64 z] 37))
    have c0 : (w.alloc (.cells #[.int .i64 x, .int .i64 y, .int .i64 z] 37)).cell? ⟨w.heap.size, 0, none⟩ = some (.int .i64 x) := by rw [World.cell?_alloc_at _ _ _ _ rfl]; rfl
    have c1 : (w.alloc (.cells #[.int .i64 x, .int .i64 y, .int .i64 z] 37)).cell? ⟨w.heap.size, 1, none⟩ = some (.int .i64 y) := by rw [World.cell?_alloc_at _ _ _ _ rfl]; rfl
    have c2 : (w.alloc (.cells #[.int .i64 x, .int .i64 y, .int .i64 z] 37)).cell? ⟨w.heap.size, 2, none⟩ = some (.int .i64 z) := by rw [World.cell?_alloc_at _ _ _ _ rfl]; rfl
    clear hr
    go_enter Try.func5, Try.ntmps5
    go_wp2
    generalize w.alloc (.cells #[.int .i64 x, .int .i64 y, .int .i64 z] 37) = W at *
    go_region_held_law (fun w' => w'.cell? ⟨w.heap.size, 0, none⟩ = some (.int .i64 x) ∧ w'.cell? ⟨w.heap.size, 1, none⟩ = some (.int .i64 y) ∧ w'.cell? ⟨w.heap.size, 2, none⟩ = some (.int .i64 z)) (first | exact ⟨l0, l1, l2⟩ | exact ⟨k0, k1, k2⟩ | exact ⟨j0, j1, j2⟩ | go_keep)
      (first
        | (go_at_call 21; refine (toIntS_ri A n c fs _ (HR.out.drewN 1)).mono ?_; rintro e w1 ⟨A1, c1', rfl, r1, b1⟩; have R1 := hid r1; have B1 := hid b1; have j0 := cell_below b1 (show W.drew.cell? _ = _ from c0); have j1 := cell_below b1 (show W.drew.cell? _ = _ from c1); have j2 := cell_below b1 (show W.drew.cell? _ = _ from c2); clear r1 b1)
        | (go_at_call 22; refine (toPoint_ok x y z _).mono ?_; rintro e w2 ⟨rfl, b2⟩; have B2 := hid (below_trans B1.out b2); have R2 := hid (R1.out.below b2); have k0 := cell_below b2 j0; have k1 := cell_below b2 j1; have k2 := cell_below b2 j2; clear b2)
        | (go_at_call 20; refine (specCubicValue_ok p A1 n c1' fs x y z _ R2.out).mono ?_; rintro e w3 ⟨rfl, b3⟩; have B3 := hid (below_trans B2.out b3); have l0 := cell_below b3 k0; have l1 := cell_below b3 k1; have l2 := cell_below b3 k2; clear b3))
    have HRW := hid ((HR.out.drewN 1).below B3.out)
    clear c0 c1 c2 j0 j1 j2 k0 k1 k2
    go_wp2_with fail
    refine (toIntS_ri A n c fs _ HRW.out).mono ?_
    rintro e w4 ⟨A4, c4, rfl, r4, b4⟩
    have R4 := hid r4
    have B4 := hid (below_trans B3.out b4)
    have m0 := cell_below b4 l0
    have m1 := cell_below b4 l1
    have m2 := cell_below b4 l2
    clear r4 b4 l0 l1 l2
    go_wp2_with fail
    refine (toPoint_ok x y z _).mono ?_
    rintro e w5 ⟨rfl, b5⟩
    have B5 := hid (below_trans B4.out b5)
    have R5 := hid (R4.out.below b5)
    clear b5
    go_wp2_with fail
    refine (implCubicValue_ok p A4 n c4 fs x y z _ R5.out).mono ?_
    rintro e w6 ⟨rfl, b6⟩
    have B6 := hid (below_trans B5.out b6)
    have R6 := hid (R5.out.below b6)
    clear b6 m0 m1 m2
    generalize cvV p fs x y z = V
    generalize cvB p fs x y z = D
    have hne : (V != V) = false := by simp
    have hne2 : (D != D) = false := by simp
    go_wp2_with fail
    refine (toIntS_ri A n c fs _ ((HR.out.drewN 1).below B6.out)).mono ?_
    rintro e w7 ⟨A7, c7, rfl, r7, b7⟩
    have R7 := hid r7
    have B7 := hid (below_trans B6.out b7)
    have R67 := hid (R6.out.below b7)
    clear r7 b7
    go_wp2_with fail
    refine (eqIntS_ok A4 n c4 fs A7 n c7 fs _ R67.out R7.out).mono ?_
    rintro e w8 ⟨rfl, b8⟩
    have B8 := hid (below_trans B7.out b8)
    clear b8
    rw [beq_self_eq_true]
    go_wp2
    go_ret
    exact ⟨rfl, below_trans HBW.out (below_trans (below_drewN (Below.refl _ W) 1) B8.out)⟩
  · clear hr
    go_enter Try.func5, Try.ntmps5
    go_wp2
    go_ret
    exact ⟨rfl, below_alloc _ _⟩

end Go.Proofs.Ytkddhlgohjojpaa
