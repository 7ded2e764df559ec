/-
  The law of the primes.
-/
import Derived.Test.YtfjfepcklggdcaaF
import Derived.Test.YtfjfepcklggdcaaRd
namespace Go.Proofs.Ytfjfepcklggdcaa
open Go.RowKit
set_option linter.unusedVariables false
set_option linter.unusedSimpArgs false

theorem DrawPrimeIn_ok (A : Option Addr) (n c : Nat) (xs : List Int) (w : World) (hr : RB w A n c xs) :
    Calls Try.prog 17 #[.slice A n c] w fun e w' => ∃ r : Int, e = .returned (.int .i64 r) ∧ 0 ≤ r ∧ r < 40 ∧ Below w.heap.size w w' := by
  go_enter Try.func17, Try.ntmps17
  go_wp2_with fail
  refine (l6Open_ok A n c xs w hr).mono ?_
  rintro e w1 ⟨R, rfl, hR, hd, hb⟩
  have HR := hid hR
  have HD := hid hd
  have HB := hid hb
  clear hR hd hb
  go_wp2_with fail
  refine (pick_ok R 0 40 w1 HD.out (by omega) (by omega) (by omega)).mono ?_
  rintro e w2 ⟨r, rfl, h0, h1, _, hg⟩
  have HG := hid hg
  clear hg
  go_wp2
  go_ret
  exact ⟨r, rfl, h0, by omega, HB.out.grown HG.out HB.out.size (fun k hk => by cases hk; exact Nat.le_of_eq HR.out.symm)⟩

theorem FnPrime_ok (A : Option Addr) (n c : Nat) (xs : List Int) (w : World) (hr : n ≤ 1048576 → RB w A n c xs) :
    Calls Try.prog 4 #[.slice A n c] w fun e w' => e = .returned (.bool true) ∧ Below w.heap.size w w' := by
  by_cases hb : n ≤ 1048576
  · have HR := hid (hr hb)
    clear hr
    go_enter Try.func4, Try.ntmps4
    go_wp2_with fail
    refine (DrawPrimeIn_ok A n c xs w HR.out).mono ?_
    rintro e w1 ⟨p, rfl, hp0, hp1, b1⟩
    have B1 := hid b1
    clear b1
    go_wp2_with fail
    refine (implPrimeIn_ok p _).mono ?_
    rintro e w2 ⟨rfl, b2⟩
    have B2 := hid (below_trans B1.out b2)
    clear b2
    go_wp2_with fail
    refine (specPrimeIn_ok p _).mono ?_
    rintro e w3 ⟨rfl, rfl⟩
    cases hp : isPrimeB p
    · clear hp
      go_wp2
      go_ret
      exact ⟨rfl, B2.out⟩
    · have hbd := isPrimeB_bd hp
      have HD := hid (prime_divides hp)
      clear hp
      go_wp2
      go_loop [6] (fun t => ∃ k : Int, 2 ≤ k ∧ k ≤ p ∧ t = .int .i64 k) (fun t => (p - intOf t).toNat)
      case atStart => exact ⟨2, by omega, by omega, rfl⟩
      case round =>
        obtain ⟨k, h1, h2, rfl⟩ := hrel
        by_cases hlt : k < p
        · have hne : (p % k == 0) = false := HD.out k h1 hlt
          go_wp2
          go_round
          case rel => exact ⟨k + 1, by omega, by omega, rfl⟩
          case measure => simp [intOf]; omega
        · go_wp2
          go_ret
          have hd : decide (p < 32) = true := by simp; omega
          exact ⟨by rw [hd]; rfl, B2.out⟩
  · clear hr
    go_enter Try.func4, Try.ntmps4
    go_wp2
    go_ret
    exact ⟨rfl, Below.refl _ _⟩

end Go.Proofs.Ytfjfepcklggdcaa
