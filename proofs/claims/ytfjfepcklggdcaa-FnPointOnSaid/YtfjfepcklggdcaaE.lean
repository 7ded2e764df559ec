/-
  The laws on numbers modulo a prime: the walks.
-/
import Derived.Test.YtfjfepcklggdcaaD
namespace Go.Proofs.Ytfjfepcklggdcaa
open Go.RowKit
set_option linter.unusedVariables false
set_option linter.unusedSimpArgs false

theorem FnExactPrimeIn_ok (p : Int) (w : World) (hp : (Lit.int .i64 p).wf = true) :
    Calls Try.prog 3 #[.int .i64 p] w fun e w' => e = .returned (.bool true) ∧ Below w.heap.size w w' := by
  go_enter Try.func3, Try.ntmps3
  go_wp2_with fail
  refine (specPrimeIn_ok p _).mono ?_
  rintro e w' ⟨rfl, rfl⟩
  go_wp2_with fail
  refine (implPrimeIn_ok p _).mono ?_
  rintro e w1 ⟨rfl, hb⟩
  have B := hid hb
  clear hb
  generalize isPrimeB p = r
  go_wp2
  go_ret
  exact ⟨rfl, B.out⟩

theorem FnExactCubicIn_ok (p : Int) (A : Option Addr) (n c : Nat) (xs : List Int) (w : World) (hp : (Lit.int .i64 p).wf = true) (hr : n ≤ 1048576 → RI w A n xs) :
    Calls Try.prog 5 #[.int .i64 p, .slice A n c] w fun e w' => e = .returned (.bool true) ∧ Below w.heap.size w w' := by
  by_cases hb : n ≤ 1048576
  · have HR := hid (hr hb)
    clear hr
    have HE := hid (numbers_alike p xs 10)
    go_enter Try.func5, Try.ntmps5
    go_wp2_with fail
    refine (toIntS_ri A n c xs _ HR.out).mono ?_
    rintro e w1 ⟨A1, c1, rfl, r1, b1⟩
    have R1 := hid r1
    have B1 := hid b1
    have HR1 := hid (HR.out.below b1)
    clear r1 b1
    go_wp2_with fail
    refine (specCubicIn_ok p A1 n c1 xs _ R1.out).mono ?_
    rintro e w' ⟨rfl, rfl⟩
    go_wp2_with fail
    refine (toIntS_ri A n c xs _ HR1.out).mono ?_
    rintro e w2 ⟨A2, c2, rfl, r2, b2⟩
    have R2 := hid r2
    have B2 := hid (below_trans B1.out b2)
    have HR2 := hid (HR1.out.below b2)
    clear r2 b2
    go_wp2_with fail
    refine (implCubicIn_ok p A2 n c2 xs _ R2.out).mono ?_
    rintro e w3 ⟨rfl, b3⟩
    have R3 := hid (R2.out.below b3)
    have B3 := hid (below_trans B2.out b3)
    have HR3 := hid (HR2.out.below b3)
    clear b3
    rw [HE.out]
    go_wp2_with fail
    refine (toIntS_ri A n c xs _ HR3.out).mono ?_
    rintro e w4 ⟨A4, c4, rfl, r4, b4⟩
    have R4 := hid r4
    have B4 := hid (below_trans B3.out b4)
    have R34 := hid (R3.out.below b4)
    clear r4 b4
    go_wp2_with fail
    refine (eqIntS_ok A2 n c2 xs A4 n c4 xs _ R34.out R4.out).mono ?_
    rintro e w5 ⟨rfl, b5⟩
    have B5 := hid (below_trans B4.out b5)
    clear b5
    rw [beq_self_eq_true]
    go_wp2
    go_ret
    exact ⟨rfl, B5.out⟩
  · clear hr
    go_enter Try.func5, Try.ntmps5
    go_wp2
    go_ret
    exact ⟨rfl, Below.refl _ _⟩

theorem FnExactFormIn_ok (p : Int) (A : Option Addr) (n c : Nat) (xs : List Int) (w : World) (hp : (Lit.int .i64 p).wf = true) (hr : n ≤ 1048576 → RI w A n xs) :
    Calls Try.prog 6 #[.int .i64 p, .slice A n c] w fun e w' => e = .returned (.bool true) ∧ Below w.heap.size w w' := by
  by_cases hb : n ≤ 1048576
  · have HR := hid (hr hb)
    clear hr
    have HE := hid (numbers_alike p xs 20)
    go_enter Try.func6, Try.ntmps6
    go_wp2_with fail
    refine (toIntS_ri A n c xs _ HR.out).mono ?_
    rintro e w1 ⟨A1, c1, rfl, r1, b1⟩
    have R1 := hid r1
    have B1 := hid b1
    have HR1 := hid (HR.out.below b1)
    clear r1 b1
    go_wp2_with fail
    refine (specFormIn_ok p A1 n c1 xs _ R1.out).mono ?_
    rintro e w' ⟨rfl, rfl⟩
    go_wp2_with fail
    refine (toIntS_ri A n c xs _ HR1.out).mono ?_
    rintro e w2 ⟨A2, c2, rfl, r2, b2⟩
    have R2 := hid r2
    have B2 := hid (below_trans B1.out b2)
    have HR2 := hid (HR1.out.below b2)
    clear r2 b2
    go_wp2_with fail
    refine (implFormIn_ok p A2 n c2 xs _ R2.out).mono ?_
    rintro e w3 ⟨rfl, b3⟩
    have R3 := hid (R2.out.below b3)
    have B3 := hid (below_trans B2.out b3)
    have HR3 := hid (HR2.out.below b3)
    clear b3
    rw [HE.out]
    go_wp2_with fail
    refine (toIntS_ri A n c xs _ HR3.out).mono ?_
    rintro e w4 ⟨A4, c4, rfl, r4, b4⟩
    have R4 := hid r4
    have B4 := hid (below_trans B3.out b4)
    have R34 := hid (R3.out.below b4)
    clear r4 b4
    go_wp2_with fail
    refine (eqIntS_ok A2 n c2 xs A4 n c4 xs _ R34.out R4.out).mono ?_
    rintro e w5 ⟨rfl, b5⟩
    have B5 := hid (below_trans B4.out b5)
    clear b5
    rw [beq_self_eq_true]
    go_wp2
    go_ret
    exact ⟨rfl, B5.out⟩
  · clear hr
    go_enter Try.func6, Try.ntmps6
    go_wp2
    go_ret
    exact ⟨rfl, Below.refl _ _⟩

end Go.Proofs.Ytfjfepcklggdcaa
