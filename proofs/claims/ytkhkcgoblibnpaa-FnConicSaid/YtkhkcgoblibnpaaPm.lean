/-
  Plain laws of lines through two points.
-/
import Derived.Test.YtkhkcgoblibnpaaPl
import Derived.Test.YtkhkcgoblibnpaaMn
namespace Go.Proofs.Ytkhkcgoblibnpaa
open Go.RowKit
set_option linter.unusedVariables false
set_option linter.unusedSimpArgs false

theorem monic3 {x y z : Int} (h : isMonicB [x, y, z] = true) : x = 1 ∨ (x = 0 ∧ y = 1) ∨ (x = 0 ∧ y = 0 ∧ z = 1) := by
  by_cases hx : x = 0
  · subst hx
    rw [isMonicB_zero] at h
    by_cases hy : y = 0
    · subst hy
      rw [isMonicB_zero] at h
      by_cases hz : z = 0
      · subst hz; exact absurd h (by decide)
      · rw [isMonicB_nz z _ hz] at h; right; right; exact ⟨rfl, rfl, by simpa using h⟩
    · rw [isMonicB_nz y _ hy] at h; right; left; exact ⟨rfl, by simpa using h⟩
  · rw [isMonicB_nz x _ hx] at h; left; simpa using h
theorem small_zero {p d : Int} (h : d % p = 0) (h1 : -p < d) (h2 : d < p) : d = 0 := by
  obtain ⟨q, hq⟩ := Int.dvd_of_emod_eq_zero h
  have hp : 0 < p := by omega
  rcases Int.lt_trichotomy q 0 with h | h | h
  · have := Int.mul_le_mul_of_nonneg_left (show q ≤ -1 by omega) (show 0 ≤ p by omega); omega
  · subst h; omega
  · have := Int.mul_le_mul_of_nonneg_left (show 1 ≤ q by omega) (show 0 ≤ p by omega); omega
/-- Two different points have a line. -/
theorem cross_ne {p x y z l m n : Int} (h1 : specPointB p x y z = true) (h2 : specPointB p l m n = true) (h3 : ((x == l && y == m) && z == n) = false) : zeroB (crossS p x y z l m n) = false := by
  obtain ⟨hp, bx, bY, bz, m1⟩ := point_parts h1
  obtain ⟨_, bl, bm, bn, m2⟩ := point_parts h2
  have hb := isPrimeB_bd hp
  cases hz : zeroB (crossS p x y z l m n)
  · rfl
  · exfalso
    simp [zeroB, crossS] at hz
    obtain ⟨e1, e2, e3⟩ := hz
    have hne : ¬ (x = l ∧ y = m ∧ z = n) := by
      rintro ⟨rfl, rfl, rfl⟩
      simp at h3
    rcases monic3 m1 with rfl | ⟨rfl, rfl⟩ | ⟨rfl, rfl, rfl⟩ <;> rcases monic3 m2 with rfl | ⟨rfl, rfl⟩ | ⟨rfl, rfl, rfl⟩ <;> simp only [Int.mul_one, Int.one_mul, Int.mul_zero, Int.zero_mul, Int.sub_zero, Int.zero_sub] at e1 e2 e3
    · have a := small_zero e2 (by omega) (by omega)
      have b := small_zero e3 (by omega) (by omega)
      omega
    · have b := small_zero e3 (by omega) (by omega); omega
    · have b := small_zero e2 (by omega) (by omega); omega
    · have b := small_zero e3 (by omega) (by omega); omega
    · have b := small_zero e1 (by omega) (by omega); omega
    · have b := small_zero e1 (by omega) (by omega); omega
    · have b := small_zero e2 (by omega) (by omega); omega
    · have b := small_zero e1 (by omega) (by omega); omega
    · omega
theorem modL_cross (p x y z l m n : Int) : modL p [y * n - z * m, z * l - x * n, x * m - y * l] = crossS p x y z l m n := rfl
theorem crossS_in {p : Int} (hp : isPrimeB p = true) (x y z l m n : Int) : ∀ q ∈ crossS p x y z l m n, 0 ≤ q ∧ q < p := by
  have hb := isPrimeB_bd hp
  intro q hq
  simp [crossS] at hq
  rcases hq with rfl | rfl | rfl <;> exact ⟨Int.emod_nonneg _ (by omega), Int.emod_lt_of_pos _ (by omega)⟩
theorem crossS_swap (p x y z l m n : Int) : crossS p l m n x y z = (crossS p x y z l m n).map fun u => -1 * u % p := by
  simp only [crossS, List.map_cons, List.map_nil, Int.mul_emod (-1) (_ % p) p, Int.emod_emod]
  simp only [← Int.mul_emod]
  rw [show l * y - m * x = -1 * (x * m - y * l) by grind, show m * z - n * y = -1 * (y * n - z * m) by grind, show n * x - l * z = -1 * (z * l - x * n) by grind]
theorem neg_unit {p : Int} (hp : isPrimeB p = true) : (-1 : Int) % p ≠ 0 := by
  have hb := isPrimeB_bd hp
  rw [show (-1 : Int) % p = p - 1 by rw [show (-1 : Int) = (p - 1) + p * (-1) by omega, Int.add_mul_emod_self_left]; exact Int.emod_eq_of_lt (by omega) (by omega)]
  omega
theorem lineB_parts {p x y z l m n : Int} (h : lineB p x y z l m n = true) : specPointB p x y z = true ∧ specPointB p l m n = true ∧ ((x == l && y == m) && z == n) = false := by
  simp only [lineB, Bool.and_eq_true, Bool.not_eq_true'] at h
  exact ⟨h.1.1, h.1.2, h.2⟩
theorem line_swap {p x y z l m n : Int} (h : lineB p x y z l m n = true) : lineB p l m n x y z = true ∧ lineV p l m n x y z = lineV p x y z l m n := by
  obtain ⟨h1, h2, h3⟩ := lineB_parts h
  have hp := (point_parts h1).1
  have hb : lineB p l m n x y z = true := by
    rw [lineB, h1, h2]
    have : ((l == x && m == y) && n == z) = ((x == l && y == m) && z == n) := by rw [Bool.beq_comm (a := l), Bool.beq_comm (a := m), Bool.beq_comm (a := n)]
    rw [this, h3]; rfl
  refine ⟨hb, ?_⟩
  rw [lineV, if_pos hb, lineV, if_pos h, ptRow, ptRow, crossS_swap, rowS_mul hp (neg_unit hp) _ (crossS_in hp x y z l m n)]
/-- The row is a multiple of what was given. -/
theorem rowS_times {p : Int} (hp : isPrimeB p = true) : ∀ xs : List Int, (∀ x ∈ xs, 0 ≤ x ∧ x < p) → ∃ t, rowS p xs = xs.map fun x => x * t % p
  | [], _ => ⟨0, rfl⟩
  | x :: xs, h => by
    have hx := h x (List.mem_cons_self ..)
    by_cases h0 : x = 0
    · subst h0
      obtain ⟨t, ht⟩ := rowS_times hp xs fun y hy => h y (List.mem_cons_of_mem _ hy)
      exact ⟨t, by rw [rowS_zero hp, ht, List.map_cons]; simp⟩
    · refine ⟨turned p x, ?_⟩
      rw [rowS_nz hp (by omega) hx.2, List.map_cons, (turned_spec hp (show 0 < x by omega) hx.2).1]
theorem dot_line {p x y z l m n t : Int} : (x * ((y * n - z * m) % p * t % p) + y * ((z * l - x * n) % p * t % p) + z * ((x * m - y * l) % p * t % p)) % p = 0 := by
  have a1 := Int.mul_ediv_add_emod ((y * n - z * m) % p * t) p
  have a2 := Int.mul_ediv_add_emod ((z * l - x * n) % p * t) p
  have a3 := Int.mul_ediv_add_emod ((x * m - y * l) % p * t) p
  have b1 := Int.mul_ediv_add_emod (y * n - z * m) p
  have b2 := Int.mul_ediv_add_emod (z * l - x * n) p
  have b3 := Int.mul_ediv_add_emod (x * m - y * l) p
  generalize (y * n - z * m) % p * t / p = k1 at *
  generalize (z * l - x * n) % p * t / p = k2 at *
  generalize (x * m - y * l) % p * t / p = k3 at *
  generalize (y * n - z * m) % p * t % p = u1 at *
  generalize (z * l - x * n) % p * t % p = u2 at *
  generalize (x * m - y * l) % p * t % p = u3 at *
  generalize (y * n - z * m) % p = v1 at *
  generalize (z * l - x * n) % p = v2 at *
  generalize (x * m - y * l) % p = v3 at *
  generalize (y * n - z * m) / p = j1 at *
  generalize (z * l - x * n) / p = j2 at *
  generalize (x * m - y * l) / p = j3 at *
  have : x * u1 + y * u2 + z * u3 = 0 + p * (-(x * k1 + y * k2 + z * k3) - t * (x * j1 + y * j2 + z * j3)) := by grind
  rw [emod_of_dvd this]; exact Int.zero_emod p
theorem line_on {p x y z l m n : Int} (h : lineB p x y z l m n = true) : onB p x y z (lineV p x y z l m n).1 (lineV p x y z l m n).2.1 (lineV p x y z l m n).2.2 = true := by
  obtain ⟨h1, h2, h3⟩ := lineB_parts h
  have hp := (point_parts h1).1
  have hin := crossS_in hp x y z l m n
  have hP := row_point hp rfl hin (cross_ne h1 h2 h3)
  rw [lineV, if_pos h, onB, h1, hP, ptRow_list rfl]
  obtain ⟨t, ht⟩ := rowS_times hp _ hin
  rw [ht, crossS]
  have := @dot_line p x y z l m n t
  simp only [dotTo, List.map_cons, List.map_nil, List.getD_cons_zero, List.getD_cons_succ, Int.zero_add]
  rw [this]; rfl
theorem line_on2 {p x y z l m n : Int} (h : lineB p x y z l m n = true) : onB p l m n (lineV p x y z l m n).1 (lineV p x y z l m n).2.1 (lineV p x y z l m n).2.2 = true := by
  obtain ⟨a, b⟩ := line_swap h
  rw [← b]; exact line_on a

end Go.Proofs.Ytkhkcgoblibnpaa
