/-
  Contracts: the laws' comparison of lists; whether two lines meet.
-/
import Derived.Test.YtcffaeepanhpfaaWl
namespace Go.Proofs.Ytcffaeepanhpfaa
open Go.RowKit
set_option linter.unusedVariables false
set_option linter.unusedSimpArgs false

theorem sameInts_ok (A : Option Addr) (n c : Nat) (xs : List Int) (A' : Option Addr) (n' c' : Nat) (ys : List Int) (w : World) (hr : RI w A n xs) (hr' : RI w A' n' ys) :
    Calls Try.prog 19 #[.slice A n c, .slice A' n' c'] w fun e w' => e = .returned (.bool (xs == ys)) ∧ Below w.heap.size w w' := by
  obtain ⟨hl, hn, b, off, hA, hc⟩ := hr
  obtain ⟨hl', hn', b', off', hA', hc'⟩ := hr'
  have HC := hid hc
  have HC' := hid hc'
  clear hc hc'
  by_cases hnn : n = n'
  · subst hnn
    go_enter Try.func19, Try.ntmps19
    go_wp2
    go_loopw [5] (fun t wr => ∃ k : Nat, k ≤ n ∧ t = .int .i64 k ∧ (xs == ys) = (xs.drop k == ys.drop k) ∧ ∃ m, wr = w.drewN m) (fun t _ => n - (intOf t).toNat)
    case atStart => exact ⟨0, by omega, rfl, rfl, 0, rfl⟩
    case round =>
      obtain ⟨k, hk, rfl, hf, m, rfl⟩ := hrel
      have HF := hid hf
      clear hf
      by_cases hlt : k < n
      · obtain rfl : A = some ⟨b, off, none⟩ := by rcases hA with h | h; omega; exact h
        obtain rfl : A' = some ⟨b', off', none⟩ := by rcases hA' with h | h; omega; exact h
        have hcx := HC.out k hlt
        have hcx' := HC'.out k hlt
        have HE := hid (@drop_eq_cons xs ys k (by omega) (by omega))
        generalize xs.getD k 0 = x at *
        generalize ys.getD k 0 = y at *
        clear hA hA'
        cases hq : (x == y)
        · have HQ := hid hq
          have hq2 : (x != y) = true := by simpa using hq
          clear hq
          go_wp2
          go_quiet (fail)
          go_wp2
          go_ret
          exact ⟨by rw [HF.out, HE.out, HQ.out]; rfl, below_drewN (below_drewN (Below.refl _ _) _) _⟩
        · have HQ := hid hq
          have hq2 : (x != y) = false := by simpa using hq
          clear hq
          go_wp2
          go_quiet (fail)
          go_wp2
          go_roundw
          case rel => exact ⟨k + 1, by omega, by go_num, by rw [HF.out, HE.out, HQ.out]; rfl, _, rfl⟩
          case measure => simp [intOf]; omega
      · obtain rfl : k = n := by omega
        have HE := hid (show (xs == ys) = true by rw [HF.out, List.drop_eq_nil_of_le (by omega), List.drop_eq_nil_of_le (by omega)]; rfl)
        go_wp2
        go_ret
        exact ⟨by rw [HE.out]; rfl, below_drewN (Below.refl _ _) _⟩
  · have HE := hid (show (xs == ys) = false by simp; intro h; subst h; omega)
    have hne : ((n : Int) != (n' : Int)) = true := by simp; omega
    go_enter Try.func19, Try.ntmps19
    go_wp2
    go_ret
    exact ⟨by rw [HE.out]; rfl, Below.refl _ _⟩

theorem implIsLine_ok (k : Nat) (h : k < 27) (w : World) : Calls Try.prog 41 #[.int .i64 k] w fun e w' => e = .returned (.bool true) ∧ w = w' := by
  go_enter Try.func41, Try.ntmps41
  go_wp2
  go_ret
  exact ⟨by simp; omega, rfl⟩
set_option maxRecDepth 100000 in
set_option maxHeartbeats 2000000 in
theorem meets_ok (i k : Nat) (hi : i < 27) (hk : k < 27) (w : World) :
    Calls Try.prog 42 #[.int .i64 i, .int .i64 k] w fun e w' => e = .returned (.bool (prd (lineC i) (lineC k) == 1)) ∧ Below w.heap.size w w' := by
  obtain ⟨a0, a1, a2, a3, a4, a5, a6, ha⟩ := seven (lineC_7 i hi)
  obtain ⟨b0, b1, b2, b3, b4, b5, b6, hb⟩ := seven (lineC_7 k hk)
  have HA := hid (fun W => lineClass_ok i hi W)
  have HB := hid (fun W => lineClass_ok k hk W)
  have hba := validB_bd (lineC_valid hi)
  have hbb := validB_bd (lineC_valid hk)
  rw [ha] at HA hba ⊢
  rw [hb] at HB hbb ⊢
  have HAv := hid (show clsV [a0, a1, a2, a3, a4, a5, a6] = .agg #[.int .i64 a0, .int .i64 a1, .int .i64 a2, .int .i64 a3, .int .i64 a4, .int .i64 a5, .int .i64 a6] from rfl)
  have HBv := hid (show clsV [b0, b1, b2, b3, b4, b5, b6] = .agg #[.int .i64 b0, .int .i64 b1, .int .i64 b2, .int .i64 b3, .int .i64 b4, .int .i64 b5, .int .i64 b6] from rfl)
  have HP := hid (fun W => product_ok a0 a1 a2 a3 a4 a5 a6 b0 b1 b2 b3 b4 b5 b6 W (hba.mono (by omega)) (hbb.mono (by omega)))
  generalize prd [a0, a1, a2, a3, a4, a5, a6] [b0, b1, b2, b3, b4, b5, b6] = q at *
  clear ha hb hba hbb
  go_enter Try.func42, Try.ntmps42
  go_wp2_with fail
  refine (HA.out _).mono ?_
  rintro e w1 ⟨rfl, b1⟩
  rw [HAv.out]
  have B1 := hid b1
  clear b1
  go_wp2_with fail
  refine (HB.out _).mono ?_
  rintro e w2 ⟨rfl, b2⟩
  rw [HBv.out]
  have B2 := hid (below_trans B1.out b2)
  clear b2
  go_wp2_with fail
  refine (HP.out _).mono ?_
  rintro e w3 ⟨rfl, b3⟩
  have B3 := hid (below_trans B2.out b3)
  clear b3
  go_wp2
  go_ret
  exact ⟨rfl, B3.out⟩
set_option maxRecDepth 100000 in
theorem LineMeets_ok (i k : Nat) (hi : i < 27) (hk : k < 27) (w : World) :
    Calls Try.prog 23 #[.int .i64 i, .int .i64 k] w fun e w' => e = .returned (.bool (prd (lineC i) (lineC k) == 1)) ∧ Below w.heap.size w w' := by
  have HI := hid (fun W => implIsLine_ok i hi W)
  have HK := hid (fun W => implIsLine_ok k hk W)
  have HM := hid (fun W => meets_ok i k hi hk W)
  generalize (prd (lineC i) (lineC k) == 1) = q at *
  go_enter Try.func23, Try.ntmps23
  go_wp2_with fail
  refine (HI.out _).mono ?_
  rintro e w1 ⟨rfl, rfl⟩
  go_wp2_with fail
  refine (HK.out _).mono ?_
  rintro e w1 ⟨rfl, rfl⟩
  go_wp2_with fail
  refine (HM.out _).mono ?_
  rintro e w3 ⟨rfl, b3⟩
  have B3 := hid b3
  clear b3
  go_wp2
  go_ret
  exact ⟨rfl, B3.out⟩

end Go.Proofs.Ytcffaeepanhpfaa
