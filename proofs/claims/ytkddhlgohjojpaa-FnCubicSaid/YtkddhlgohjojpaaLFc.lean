/-
  A drawn cubic's value at (1, 0, 0) is its first number.
-/
import Derived.Test.YtkddhlgohjojpaaDc
import Derived.Test.YtkddhlgohjojpaaCv
namespace Go.Proofs.Ytkddhlgohjojpaa
open Go.RowKit
set_option linter.unusedVariables false
set_option linter.unusedSimpArgs false

theorem cubes_one : cubesTo 1 0 0 10 = [1, 0, 0, 0, 0, 0, 0, 0, 0, 0] := by decide
theorem point_one {p : Int} (hp : isPrimeB p = true) : specPointB p 1 0 0 = true := by
  rcases isPrimeB_cases hp with rfl | rfl | rfl | rfl | rfl | rfl | rfl | rfl <;> decide
theorem value_one {p : Int} {fs : List Int} (h : specNumbersB p fs 10 = true) : cvB p fs 1 0 0 = true ∧ cvV p fs 1 0 0 = fs.getD 0 0 := by
  have hp : isPrimeB p = true := by simp [specNumbersB] at h; exact h.2.1
  have hb : cvB p fs 1 0 0 = true := by rw [cvB, h, point_one hp]; rfl
  refine ⟨hb, ?_⟩
  rw [cvV, hb, cubes_one]
  have hx : ∀ u ∈ fs, 0 ≤ u ∧ u < p := by rw [specNumbersB, Bool.and_eq_true] at h; exact all_inP_bd h.1
  have hl := specNumbers_len' h
  have h0 := hx (fs.getD 0 0) (by rw [getD_lt (by omega)]; exact List.getElem_mem _)
  show (0 + fs.getD 0 0 * 1 + fs.getD 1 0 * 0 + fs.getD 2 0 * 0 + fs.getD 3 0 * 0 + fs.getD 4 0 * 0 + fs.getD 5 0 * 0 + fs.getD 6 0 * 0 + fs.getD 7 0 * 0 + fs.getD 8 0 * 0 + fs.getD 9 0 * 0) % p = _
  simp only [Int.mul_zero, Int.add_zero, Int.zero_add, Int.mul_one]
  exact Int.emod_eq_of_lt h0.1 h0.2

set_option maxHeartbeats 1000000 in
theorem FnCubic_ok (A : Option Addr) (n c : Nat) (xs : List Int) (w : World) (hr : n ≤ 1048576 → RB w A n c xs) :
    Calls Try.prog 3 #[.slice A n c] w fun e w' => e = .returned (.bool true) ∧ Below w.heap.size w w' := by
  by_cases hb : n ≤ 1048576
  · have HR := hid (hr hb)
    clear hr
    go_enter Try.func3, Try.ntmps3
    go_wp2_with fail
    refine (DrawCubicIn_ok A n c xs w HR.out).mono ?_
    rintro e w1 ⟨p, A1, n1, c1, fs, rfl, p0, p1, hri, hn1, b1⟩
    have R1 := hid hri
    have B1 := hid b1
    clear hri b1
    go_wp2_with fail
    refine (implCubicIn_ok p A1 n1 c1 fs _ R1.out).mono ?_
    rintro e w2 ⟨rfl, b2⟩
    have R2 := hid (R1.out.below b2)
    have B2 := hid (below_trans B1.out b2)
    clear b2
    rw [numbers_alike]
    go_wp2_with fail
    refine (specCubicIn_ok p A1 n1 c1 fs _ R2.out).mono ?_
    rintro e w' ⟨rfl, rfl⟩
    have hne : (specNumbersB p fs 10 != specNumbersB p fs 10) = false := by simp
    cases hD : specNumbersB p fs 10
    · clear hD hne
      go_wp2
      go_ret
      exact ⟨rfl, B2.out⟩
    · have HV := hid (value_one hD)
      have hl := specNumbers_len' hD
      obtain rfl : n1 = 10 := by have := R2.out.1; omega
      clear hD hne
      go_wp2_with fail
      refine (implCubicValue_ok p A1 10 c1 fs 1 0 0 _ R2.out).mono ?_
      rintro e w3 ⟨rfl, b3⟩
      have B3 := hid (below_trans B2.out b3)
      obtain ⟨_, _, bk, off, hA, hc⟩ := R2.out.below b3
      obtain rfl : A1 = some ⟨bk, off, none⟩ := by rcases hA with h | h; omega; exact h
      have q0 : w3.cell? ⟨bk, off, none⟩ = _ := hc 0 (by omega)
      rw [HV.out.1, HV.out.2]
      clear hc hA b3
      generalize fs.getD 0 0 = f at *
      go_wp2
      go_ret
      exact ⟨rfl, B3.out⟩
  · clear hr
    go_enter Try.func3, Try.ntmps3
    go_wp2
    go_ret
    exact ⟨rfl, Below.refl _ _⟩

end Go.Proofs.Ytkddhlgohjojpaa
