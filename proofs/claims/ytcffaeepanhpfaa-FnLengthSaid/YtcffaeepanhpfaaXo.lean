/-
  The laws FnExactWordOrder and FnExactWordLength.
-/
import Derived.Test.YtcffaeepanhpfaaWr
import Derived.Test.YtcffaeepanhpfaaWz
import Derived.Test.YtcffaeepanhpfaaXl
namespace Go.Proofs.Ytcffaeepanhpfaa
open Go.RowKit
set_option linter.unusedVariables false
set_option linter.unusedSimpArgs false

set_option maxRecDepth 100000 in
set_option maxHeartbeats 4000000 in
theorem FnExactWordOrder_ok (A : Option Addr) (n c : Nat) (xs : List Int) (w : World) (hr : n ≤ 1048576 → RI w A n xs) :
    Calls Try.prog 6 #[.slice A n c] w fun e w' => e = .returned (.bool true) ∧ Below w.heap.size w w' := by
  by_cases hb : n ≤ 1048576
  · have HR := hid (hr hb)
    have hxl := (hr hb).1
    have HS := hid (fun B d W h => specWordOrder_ok B n d xs W h)
    have HI := hid (fun B d W h => implWordOrder_ok B n d xs W h)
    have hne2 : (wordB xs != wordB xs) = false := by simp
    have hne3 : (ordI xs != ordI xs) = false := by simp
    clear hr
    generalize ordI xs = y at *
    generalize wordB xs = D at *
    go_enter Try.func6, Try.ntmps6
    go_wp2_with fail
    refine (toIntS_ri A n c xs w HR.out).mono ?_
    rintro e w1 ⟨A1, c1, rfl, r1, b1⟩
    have R1 := hid r1
    have B1 := hid b1
    clear r1 b1
    go_wp2_with fail
    refine (HS.out _ _ _ R1.out).mono ?_
    rintro e w2 ⟨rfl, b2⟩
    have B2 := hid (below_trans B1.out b2)
    clear b2
    go_wp2_with fail
    refine (toIntS_ri A n c xs _ (HR.out.below B2.out)).mono ?_
    rintro e w3 ⟨AX, cX, rfl, r3, b3⟩
    have R3 := hid r3
    have B3 := hid (below_trans B2.out b3)
    clear r3 b3
    go_wp2_with fail
    refine (HI.out _ _ _ R3.out).mono ?_
    rintro e w4 ⟨rfl, b4⟩
    have B4 := hid (below_trans B3.out b4)
    have R4 := hid (R3.out.below b4)
    clear b4
    go_wp2_with fail
    refine (toIntS_ri A n c xs _ (HR.out.below B4.out)).mono ?_
    rintro e w5 ⟨A5, c5, rfl, r5, b5⟩
    have R5 := hid r5
    have B5 := hid (below_trans B4.out b5)
    have R45 := hid (R4.out.below b5)
    clear r5 b5
    go_wp2_with fail
    refine (eqIntS_ok AX n cX xs A5 n c5 xs _ R45.out R5.out).mono ?_
    rintro e w6 ⟨rfl, b6⟩
    rw [beq_self_eq_true]
    have B6 := hid (below_trans B5.out b6)
    clear b6
    go_wp2
    go_ret
    exact ⟨rfl, B6.out⟩
  · clear hr
    go_enter Try.func6, Try.ntmps6
    go_wp2
    go_ret
    exact ⟨rfl, Below.refl _ _⟩

set_option maxRecDepth 100000 in
set_option maxHeartbeats 4000000 in
theorem FnExactWordLength_ok (A : Option Addr) (n c : Nat) (xs : List Int) (w : World) (hr : n ≤ 1048576 → RI w A n xs) :
    Calls Try.prog 7 #[.slice A n c] w fun e w' => e = .returned (.bool true) ∧ Below w.heap.size w w' := by
  by_cases hb : n ≤ 1048576
  · have HR := hid (hr hb)
    have hxl := (hr hb).1
    have HS := hid (fun B d W h => specWordLength_ok B n d xs W h)
    have HI := hid (fun B d W h => implWordLength_ok B n d xs W h)
    have hne2 : (wordB xs != wordB xs) = false := by simp
    have hne3 : (lenI xs != lenI xs) = false := by simp
    clear hr
    generalize lenI xs = y at *
    generalize wordB xs = D at *
    go_enter Try.func7, Try.ntmps7
    go_wp2_with fail
    refine (toIntS_ri A n c xs w HR.out).mono ?_
    rintro e w1 ⟨A1, c1, rfl, r1, b1⟩
    have R1 := hid r1
    have B1 := hid b1
    clear r1 b1
    go_wp2_with fail
    refine (HS.out _ _ _ R1.out).mono ?_
    rintro e w2 ⟨rfl, b2⟩
    have B2 := hid (below_trans B1.out b2)
    clear b2
    go_wp2_with fail
    refine (toIntS_ri A n c xs _ (HR.out.below B2.out)).mono ?_
    rintro e w3 ⟨AX, cX, rfl, r3, b3⟩
    have R3 := hid r3
    have B3 := hid (below_trans B2.out b3)
    clear r3 b3
    go_wp2_with fail
    refine (HI.out _ _ _ R3.out).mono ?_
    rintro e w4 ⟨rfl, b4⟩
    have B4 := hid (below_trans B3.out b4)
    have R4 := hid (R3.out.below b4)
    clear b4
    go_wp2_with fail
    refine (toIntS_ri A n c xs _ (HR.out.below B4.out)).mono ?_
    rintro e w5 ⟨A5, c5, rfl, r5, b5⟩
    have R5 := hid r5
    have B5 := hid (below_trans B4.out b5)
    have R45 := hid (R4.out.below b5)
    clear r5 b5
    go_wp2_with fail
    refine (eqIntS_ok AX n cX xs A5 n c5 xs _ R45.out R5.out).mono ?_
    rintro e w6 ⟨rfl, b6⟩
    rw [beq_self_eq_true]
    have B6 := hid (below_trans B5.out b6)
    clear b6
    go_wp2
    go_ret
    exact ⟨rfl, B6.out⟩
  · clear hr
    go_enter Try.func7, Try.ntmps7
    go_wp2
    go_ret
    exact ⟨rfl, Below.refl _ _⟩

end Go.Proofs.Ytcffaeepanhpfaa
