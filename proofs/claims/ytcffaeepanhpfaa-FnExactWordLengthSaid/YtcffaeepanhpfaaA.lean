/-
  Contracts: the primes, the library's Index and Contains on lists of integers.
-/
import Derived.Test.YtcffaeepanhpfaaProg
import Derived.Test.YtcffaeepanhpfaaLib
import Derived.Test.YtcffaeepanhpfaaFn
namespace Go.Proofs.Ytcffaeepanhpfaa
open Go.RowKit
set_option linter.unusedVariables false
set_option linter.unusedSimpArgs false

theorem l6In_ok (n lo hi : Int) (w : World) :
    Calls Try.prog 45 #[.int .i64 n, .int .i64 lo, .int .i64 hi] w fun e w' => e = .returned (.bool (inB n lo hi)) ∧ w = w' := by
  by_cases h1 : lo ≤ n <;> by_cases h2 : n ≤ hi
  all_goals
    go_enter Try.func45, Try.ntmps45
    go_wp2
    go_ret
    simp [inB, h1, h2]

/-- A function value that answers p of an integer, and turns nothing. -/
def PredI (P : Program) (g : Nat) (lb : Array Value) (p : Int → Bool) (w : World) : Prop :=
  (∀ args w, (callFunc g args).run P w = .ok (.enter g args) w) ∧ ∀ x, Calls P g (#[.int .i64 x] ++ lb) w fun e W' => e = .returned (.bool (p x)) ∧ w = W'

theorem IndexFunc_ok (g : Nat) (lb : Array Value) (p : Int → Bool) (A : Option Addr) (n c : Nat) (xs : List Int) (w : World) (hr : RI w A n xs) (hp : PredI Try.prog g lb p w) :
    Calls Try.prog 63 #[.slice A n c, .func (.func g) #[] lb] w fun e w' => e = .returned (.int .i64 (idxB p xs 0)) ∧ w = w' := by
  obtain ⟨hl, hn, b, off, hA, hc⟩ := hr
  obtain ⟨eg, hp⟩ := hp
  have HP := hid hp
  have HC := hid hc
  clear hc hp
  go_enter Try.func63, Try.ntmps63
  go_wp2
  go_loop [5, 8] (fun _ t => ∃ k : Nat, k ≤ n ∧ t = .int .i64 k ∧ idxB p xs 0 = idxB p (xs.drop k) k) (fun _ t => n - (intOf t).toNat)
  case atStart => exact ⟨0, by omega, rfl, rfl⟩
  case round =>
    obtain ⟨k, hk, rfl, hf⟩ := hrel
    have HF := hid hf
    clear hf
    by_cases hlt : k < n
    · obtain rfl : A = some ⟨b, off, none⟩ := by rcases hA with h | h; omega; exact h
      have hcx := HC.out k hlt
      have hpx := HP.out (xs.getD k 0)
      have HY := hid (@idxB_drop_yes p xs k (by omega))
      have HN := hid (@idxB_drop_no p xs k (by omega))
      generalize hy : xs.getD k 0 = y at *
      clear hy
      cases hq : p y
      · rw [hq] at hpx
        have HX := hid hpx
        have HQ := hid hq
        clear hq hpx
        go_wp2_with ((with_reducible refine (HX.out).mono ?_); rintro e w' ⟨rfl, rfl⟩)
        go_round
        case rel => exact ⟨k + 1, by omega, by go_num, by rw [HF.out, HN.out HQ.out]⟩
        case measure => simp [intOf]; omega
      · rw [hq] at hpx
        have HX := hid hpx
        have HQ := hid hq
        clear hq hpx
        go_wp2_with ((with_reducible refine (HX.out).mono ?_); rintro e w' ⟨rfl, rfl⟩)
        go_ret
        exact ⟨by rw [HF.out, HY.out HQ.out]; rfl, rfl⟩
    · go_wp2
      go_ret
      exact ⟨by rw [HF.out, List.drop_eq_nil_of_le (by omega)]; rfl, rfl⟩

theorem ContainsFunc_ok (g : Nat) (lb : Array Value) (p : Int → Bool) (A : Option Addr) (n c : Nat) (xs : List Int) (w : World) (hr : RI w A n xs) (hp : PredI Try.prog g lb p w) :
    Calls Try.prog 49 #[.slice A n c, .func (.func g) #[] lb] w fun e w' => e = .returned (.bool (xs.any p)) ∧ w = w' := by
  go_enter Try.func49, Try.ntmps49
  go_wp2_with (go_at_call 63; refine (IndexFunc_ok g lb p A n c xs w hr hp).mono ?_; rintro e w' ⟨rfl, rfl⟩)
  go_ret
  exact ⟨by rw [← idxB_ge p xs 0]; simp, rfl⟩

end Go.Proofs.Ytcffaeepanhpfaa
