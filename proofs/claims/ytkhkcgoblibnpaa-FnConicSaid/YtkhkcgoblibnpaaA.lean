/-
  Contracts: the primes, the library's Index and Contains on lists of integers.
-/
import Derived.Test.YtkhkcgoblibnpaaProg
import Derived.Test.YtkhkcgoblibnpaaLib
import Derived.Test.YtkhkcgoblibnpaaFn
namespace Go.Proofs.Ytkhkcgoblibnpaa
open Go.RowKit
set_option linter.unusedVariables false
set_option linter.unusedSimpArgs false

theorem l6In_ok (n lo hi : Int) (w : World) :
    Calls Try.prog 96 #[.int .i64 n, .int .i64 lo, .int .i64 hi] w fun e w' => e = .returned (.bool (inB n lo hi)) ∧ w = w' := by
  by_cases h1 : lo ≤ n <;> by_cases h2 : n ≤ hi
  all_goals
    go_enter Try.func96, Try.ntmps96
    go_wp2
    go_ret
    simp [inB, h1, h2]

theorem specPrimeIn_ok (p : Int) (w : World) :
    Calls Try.prog 76 #[.int .i64 p] w fun e w' => e = .returned (.bool (isPrimeB p)) ∧ w = w' := by
  go_enter Try.func76, Try.ntmps76
  go_wp2
  all_goals
    go_ret
    refine ⟨?_, rfl⟩
    simp [isPrimeB, primes, *]

theorem Index_ok (v : Int) (A : Option Addr) (n c : Nat) (xs : List Int) (w : World) (hr : RI w A n xs) :
    Calls Try.prog 89 #[.slice A n c, .int .i64 v] w fun e w' => e = .returned (.int .i64 (idxB (fun y => v == y) xs 0)) ∧ w = w' := by
  obtain ⟨hl, hn, b, off, hA, hc⟩ := hr
  have HC := hid hc
  clear hc
  go_enter Try.func89, Try.ntmps89
  go_wp2
  go_loop [5, 8] (fun _ t => ∃ k : Nat, k ≤ n ∧ t = .int .i64 k ∧ idxB (fun y => v == y) xs 0 = idxB (fun y => v == y) (xs.drop k) k) (fun _ t => n - (intOf t).toNat)
  case atStart => exact ⟨0, by omega, rfl, rfl⟩
  case round =>
    obtain ⟨k, hk, rfl, hf⟩ := hrel
    have HF := hid hf
    clear hf
    by_cases hlt : k < n
    · obtain rfl : A = some ⟨b, off, none⟩ := by rcases hA with h | h; omega; exact h
      have hcx := HC.out k hlt
      have HY := hid (@idxB_drop_yes (fun y => v == y) xs k (by omega))
      have HN := hid (@idxB_drop_no (fun y => v == y) xs k (by omega))
      generalize hy : xs.getD k 0 = y at *
      clear hy
      cases hq : (v == y)
      · have HQ := hid hq
        go_wp2
        go_round
        case rel => exact ⟨k + 1, by omega, by go_num, by rw [HF.out, HN.out HQ.out]⟩
        case measure => simp [intOf]; omega
      · have HQ := hid hq
        go_wp2
        go_ret
        exact ⟨by rw [HF.out, HY.out HQ.out]; rfl, rfl⟩
    · go_wp2
      go_ret
      exact ⟨by rw [HF.out, List.drop_eq_nil_of_le (by omega)]; rfl, rfl⟩

/-- A function value that answers p of an integer, and turns nothing. -/
def PredI (P : Program) (g : Nat) (lb : Array Value) (p : Int → Bool) (w : World) : Prop :=
  (∀ args w, (callFunc g args).run P w = .ok (.enter g args) w) ∧ ∀ x, Calls P g (#[.int .i64 x] ++ lb) w fun e W' => e = .returned (.bool (p x)) ∧ w = W'

theorem IndexFunc_ok (g : Nat) (lb : Array Value) (p : Int → Bool) (A : Option Addr) (n c : Nat) (xs : List Int) (w : World) (hr : RI w A n xs) (hp : PredI Try.prog g lb p w) :
    Calls Try.prog 94 #[.slice A n c, .func (.func g) #[] lb] w fun e w' => e = .returned (.int .i64 (idxB p xs 0)) ∧ w = w' := by
  obtain ⟨hl, hn, b, off, hA, hc⟩ := hr
  obtain ⟨eg, hp⟩ := hp
  have HP := hid hp
  have HC := hid hc
  clear hc hp
  go_enter Try.func94, Try.ntmps94
  go_wp2
  go_loop [5, 8] (fun _ t => ∃ k : Nat, k ≤ n ∧ t = .int .i64 k ∧ idxB p xs 0 = idxB p (xs.drop k) k) (fun _ t => n - (intOf t).toNat)
  case atStart => exact ⟨0, by omega, rfl, rfl⟩
  case round =>
    obtain ⟨k, hk, rfl, hf⟩ := hrel
    have HF := hid hf
    clear hf
    by_cases hlt : k < n
    · obtain rfl : A = some ⟨b, off, none⟩ := by rcases hA with h | h; omega; exact h
      have hcx := HC.out k hlt
      have hpx := HP.out (xs.getD k 0)
      have HY := hid (@idxB_drop_yes p xs k (by omega))
      have HN := hid (@idxB_drop_no p xs k (by omega))
      generalize hy : xs.getD k 0 = y at *
      clear hy
      cases hq : p y
      · rw [hq] at hpx
        have HX := hid hpx
        have HQ := hid hq
        clear hq hpx
        go_wp2_with ((with_reducible refine (HX.out).mono ?_); rintro e w' ⟨rfl, rfl⟩)
        go_round
        case rel => exact ⟨k + 1, by omega, by go_num, by rw [HF.out, HN.out HQ.out]⟩
        case measure => simp [intOf]; omega
      · rw [hq] at hpx
        have HX := hid hpx
        have HQ := hid hq
        clear hq hpx
        go_wp2_with ((with_reducible refine (HX.out).mono ?_); rintro e w' ⟨rfl, rfl⟩)
        go_ret
        exact ⟨by rw [HF.out, HY.out HQ.out]; rfl, rfl⟩
    · go_wp2
      go_ret
      exact ⟨by rw [HF.out, List.drop_eq_nil_of_le (by omega)]; rfl, rfl⟩

theorem ContainsFunc_ok (g : Nat) (lb : Array Value) (p : Int → Bool) (A : Option Addr) (n c : Nat) (xs : List Int) (w : World) (hr : RI w A n xs) (hp : PredI Try.prog g lb p w) :
    Calls Try.prog 69 #[.slice A n c, .func (.func g) #[] lb] w fun e w' => e = .returned (.bool (xs.any p)) ∧ w = w' := by
  go_enter Try.func69, Try.ntmps69
  go_wp2_with (go_at_call 94; refine (IndexFunc_ok g lb p A n c xs w hr hp).mono ?_; rintro e w' ⟨rfl, rfl⟩)
  go_ret
  exact ⟨by rw [← idxB_ge p xs 0]; simp, rfl⟩

theorem Contains_ok (v : Int) (A : Option Addr) (n c : Nat) (xs : List Int) (w : World) (hr : RI w A n xs) :
    Calls Try.prog 87 #[.slice A n c, .int .i64 v] w fun e w' => e = .returned (.bool (xs.any fun y => v == y)) ∧ w = w' := by
  go_enter Try.func87, Try.ntmps87
  go_wp2_with (go_at_call 89; refine (Index_ok v A n c xs w hr).mono ?_; rintro e w' ⟨rfl, rfl⟩)
  go_ret
  exact ⟨by rw [← idxB_ge (fun y => v == y) xs 0]; simp, rfl⟩

theorem isPrime_ok (p : Int) (w : World) :
    Calls Try.prog 63 #[.int .i64 p] w fun e w' => e = .returned (.bool (isPrimeB p)) ∧ Below w.heap.size w w' := by
  go_enter Try.func63, Try.ntmps63
  go_wp2_with (go_at_call 87; refine (Contains_ok p _ 8 8 primes _ (RI_new w primes _ _ 8 rfl rfl (by decide))).mono ?_; rintro e w' ⟨rfl, rfl⟩)
  go_ret
  exact ⟨rfl, below_alloc _ _⟩


/-- The test of areNumbers: p lies in a box. -/
theorem areNumbers1_ok (p : Int) (B : Nat) (w : World) (hc : w.cell? ⟨B, 0, none⟩ = some (.int .i64 p)) :
    PredI Try.prog 70 #[.pointer (some ⟨B, 0, none⟩)] (badNum p) w := by
  refine ⟨enters_of Try.func70 (by kernel_rfl) rfl, fun x => ?_⟩
  by_cases h1 : x < 0 <;> by_cases h2 : p ≤ x
  all_goals
    go_enter Try.func70, Try.ntmps70
    go_wp2
    go_ret
    simp [badNum, h1, h2]

theorem isMonic1_ok (w : World) : PredI Try.prog 95 #[] (fun x => x != 0) w := by
  refine ⟨enters_of Try.func95 (by kernel_rfl) rfl, fun x => ?_⟩
  go_enter Try.func95, Try.ntmps95
  go_wp2
  go_ret
  exact ⟨rfl, rfl⟩

theorem areNumbers_ok (p m : Int) (A : Option Addr) (n c : Nat) (xs : List Int) (w : World) (hr : RI w A n xs) :
    Calls Try.prog 42 #[.int .i64 p, .slice A n c, .int .i64 m] w fun e w' => e = .returned (.bool (areNumbersB p xs m)) ∧ Below w.heap.size w w' := by
  have hl := hr.1
  have HR := hid hr
  clear hr
  cases hp : isPrimeB p
  · have HP := hid hp
    clear hp
    go_enter Try.func42, Try.ntmps42
    go_wp2_with (go_at_call 63; refine (isPrime_ok p _).mono ?_; rintro e w1 ⟨rfl, hb⟩; rw [HP.out])
    go_ret
    exact ⟨by simp [areNumbersB, HP.out], below_alloc_then hb⟩
  · have HP := hid hp
    clear hp
    by_cases hm : (n : Int) = m
    · have HB := hid (show areNumbersB p xs m = !(xs.any (badNum p)) by simp [areNumbersB, HP.out, hl, hm])
      subst hm
      go_enter Try.func42, Try.ntmps42
      go_wp2_with (first | (go_at_call 63; refine (isPrime_ok p _).mono ?_; rintro e w1 ⟨rfl, hb⟩; rw [HP.out]; have HQ := hid (areNumbers1_ok p w.heap.size w1 (cell_below hb (World.cell?_alloc_at _ _ _ _ rfl)))) | (go_at_call 69; refine (ContainsFunc_ok _ _ _ A n c xs _ (RI.below (HR.out.alloc _) hb) HQ.out).mono ?_; rintro e w2 ⟨rfl, rfl⟩))
      go_ret
      exact ⟨by rw [HB.out]; rfl, below_alloc_then hb⟩
    · have hm2 : ((n : Int) == m) = false := by simpa using hm
      go_enter Try.func42, Try.ntmps42
      go_wp2_with (go_at_call 63; refine (isPrime_ok p _).mono ?_; rintro e w1 ⟨rfl, hb⟩; rw [HP.out])
      go_ret
      exact ⟨by simp [areNumbersB, hl, hm], below_alloc_then hb⟩

theorem isMonic_ok (A : Option Addr) (n c : Nat) (xs : List Int) (w : World) (hr : RI w A n xs) :
    Calls Try.prog 71 #[.slice A n c] w fun e w' => e = .returned (.bool (isMonicB xs)) ∧ w = w' := by
  have HR := hid hr
  have hi := idxB_range (fun x => x != 0) xs 0
  obtain ⟨hl, hn, b, off, hA, hc⟩ := hr
  have HM := hid (show isMonicB xs = (decide (idxB (fun x => x != 0) xs 0 ≥ 0) && (xs.getD (idxB (fun x => x != 0) xs 0).toNat 0 == 1)) from rfl)
  generalize hj : idxB (fun x => x != 0) xs 0 = j at *
  have HJ := hid hj
  clear hj
  have HC := hid hc
  clear hc
  rcases hi with hi | ⟨hi, hi2⟩
  · subst hi
    go_enter Try.func71, Try.ntmps71
    go_wp2_with (go_at_call 94; refine (IndexFunc_ok _ _ _ A n c xs w HR.out (isMonic1_ok w)).mono ?_; rintro e w' ⟨rfl, rfl⟩; rw [HJ.out])
    go_ret
    exact ⟨by rw [HM.out]; rfl, rfl⟩
  · obtain ⟨k, rfl⟩ : ∃ k : Nat, j = k := ⟨j.toNat, by omega⟩
    obtain rfl : A = some ⟨b, off, none⟩ := by rcases hA with h | h; omega; exact h
    have hk : k < n := by omega
    have hcx := HC.out k hk
    clear hA hl
    go_enter Try.func71, Try.ntmps71
    go_wp2_with (go_at_call 94; refine (IndexFunc_ok _ _ _ _ n c xs w HR.out (isMonic1_ok w)).mono ?_; rintro e w' ⟨rfl, rfl⟩; rw [HJ.out])
    go_ret
    exact ⟨by rw [HM.out]; simp, rfl⟩

end Go.Proofs.Ytkhkcgoblibnpaa
