/-
  Plain laws of points: a row and its multiples give the same point; made points are points.
-/
import Derived.Test.YtkhkcgoblibnpaaPo
namespace Go.Proofs.Ytkhkcgoblibnpaa
open Go.RowKit
set_option linter.unusedVariables false
set_option linter.unusedSimpArgs false

theorem dvd_of_emod {p a b : Int} (h : a % p = b % p) : ∃ q, a = b + p * q := by
  obtain ⟨q, hq⟩ := Int.dvd_of_emod_eq_zero (Int.emod_eq_emod_iff_emod_sub_eq_zero.1 h)
  exact ⟨q, by omega⟩
theorem emod_of_dvd {p a b q : Int} (h : a = b + p * q) : a % p = b % p := by rw [h, Int.add_mul_emod_self_left]
theorem prime_mul {p a b : Int} (hp : isPrimeB p = true) (ha : a % p ≠ 0) (h : a * b % p = 0) : b % p = 0 := by
  have hb := isPrimeB_bd hp
  have r := Int.emod_nonneg a (show p ≠ 0 by omega)
  have r2 := Int.emod_lt_of_pos a (show 0 < p by omega)
  obtain ⟨h1, h2, h3⟩ := turned_spec hp (show 0 < a % p by omega) r2
  generalize ht : turned p (a % p) = t at *
  obtain ⟨q1, e1⟩ := dvd_of_emod (show a % p * t % p = 1 % p by rw [h1]; exact (Int.emod_eq_of_lt (by omega) (by omega)).symm)
  obtain ⟨q2, e2⟩ := dvd_of_emod (show a * b % p = 0 % p by rw [h]; rfl)
  have e3 := Int.mul_ediv_add_emod a p
  generalize a / p = m at *
  generalize a % p = u at *
  have : b = 0 + p * (q2 * t - m * b * t - q1 * b) := by grind
  rw [emod_of_dvd this]; rfl
theorem mulk_range {p k x : Int} (hp : isPrimeB p = true) : 0 ≤ k * x % p ∧ k * x % p < p := by
  have hb := isPrimeB_bd hp
  exact ⟨Int.emod_nonneg _ (by omega), Int.emod_lt_of_pos _ (by omega)⟩
theorem turned_mul {p k u y : Int} (hp : isPrimeB p = true) (hk : k % p ≠ 0) (h0 : 0 < u) (h1 : u < p) :
    (k * u % p ≠ 0) ∧ k * y % p * turned p (k * u % p) % p = y * turned p u % p := by
  have hb := isPrimeB_bd hp
  have hne : k * u % p ≠ 0 := by
    intro e
    have := prime_mul hp hk e
    rw [Int.emod_eq_of_lt (by omega) h1] at this
    omega
  refine ⟨hne, ?_⟩
  obtain ⟨v0, v1⟩ := @mulk_range p k u hp
  obtain ⟨a1, a2, a3⟩ := turned_spec hp h0 h1
  obtain ⟨b1, b2, b3⟩ := turned_spec hp (show 0 < k * u % p by omega) v1
  have e3 := Int.mul_ediv_add_emod (k * u) p
  have e4 := Int.mul_ediv_add_emod (k * y) p
  generalize turned p (k * u % p) = t' at *
  generalize turned p u = t at *
  generalize k * u % p = v at *
  generalize k * u / p = m at *
  generalize k * y % p = Y at *
  generalize k * y / p = n at *
  obtain ⟨q1, c1⟩ := dvd_of_emod (show u * t % p = 1 % p by rw [a1]; exact (Int.emod_eq_of_lt (by omega) (by omega)).symm)
  obtain ⟨q2, c2⟩ := dvd_of_emod (show v * t' % p = 1 % p by rw [b1]; exact (Int.emod_eq_of_lt (by omega) (by omega)).symm)
  refine emod_of_dvd (q := y * (t * q2 + t * m * t' - k * t' * q1) - n * t') ?_
  grind
theorem rowS_mul {p k : Int} (hp : isPrimeB p = true) (hk : k % p ≠ 0) : ∀ xs : List Int, (∀ x ∈ xs, 0 ≤ x ∧ x < p) → rowS p (xs.map fun x => k * x % p) = rowS p xs
  | [], _ => rfl
  | x :: xs, h => by
    have hx := h x (List.mem_cons_self ..)
    have ht : ∀ y ∈ xs, 0 ≤ y ∧ y < p := fun y hy => h y (List.mem_cons_of_mem _ hy)
    rw [List.map_cons]
    by_cases hz : x = 0
    · subst hz
      rw [show k * 0 % p = 0 by simp, rowS_zero hp, rowS_zero hp, rowS_mul hp hk xs ht]
    · obtain ⟨h1, _⟩ := turned_mul (y := 0) hp hk (show 0 < x by omega) hx.2
      obtain ⟨v0, v1⟩ := @mulk_range p k x hp
      rw [rowS_nz hp (by omega) v1, rowS_nz hp (by omega) hx.2, List.map_map]
      congr 1
      refine List.map_congr_left fun y hy => ?_
      exact (turned_mul hp hk (by omega) hx.2).2
theorem zeroB_mul {p k : Int} (hp : isPrimeB p = true) (hk : k % p ≠ 0) : ∀ xs : List Int, (∀ x ∈ xs, 0 ≤ x ∧ x < p) → zeroB (xs.map fun x => k * x % p) = zeroB xs
  | [], _ => rfl
  | x :: xs, h => by
    have hx := h x (List.mem_cons_self ..)
    have ih := zeroB_mul hp hk xs fun y hy => h y (List.mem_cons_of_mem _ hy)
    have e : (k * x % p == 0) = (x == 0) := by
      by_cases hz : x = 0
      · subst hz; simp
      · obtain ⟨h1, _⟩ := turned_mul (y := 0) hp hk (show 0 < x by omega) hx.2
        rw [beq_eq_false_iff_ne.2 h1, beq_eq_false_iff_ne.2 hz]
    rw [List.map_cons]
    show ((k * x % p == 0) && zeroB (xs.map fun x => k * x % p)) = ((x == 0) && zeroB xs)
    rw [ih, e]
theorem pofB_prime {p x y z : Int} (h : pofB p x y z = true) : isPrimeB p = true := by
  simp only [pofB, Bool.and_eq_true] at h
  exact h.1.1.1.1
theorem emod3_in {p : Int} (hp : isPrimeB p = true) (x y z : Int) : ∀ q ∈ [x % p, y % p, z % p], 0 ≤ q ∧ q < p := by
  have hb := isPrimeB_bd hp
  intro q hq
  simp at hq
  rcases hq with rfl | rfl | rfl <;> exact ⟨Int.emod_nonneg _ (by omega), Int.emod_lt_of_pos _ (by omega)⟩
theorem rowMul3 (p k x y z : Int) : [k * x % p, k * y % p, k * z % p] = [x % p, y % p, z % p].map fun u => k * u % p := by
  simp [Int.mul_emod]
theorem pof_mul {p k x y z : Int} (hp : isPrimeB p = true) (hk : k % p ≠ 0) (hx : inB (k * x) (-1000) 1000 = true) (hy : inB (k * y) (-1000) 1000 = true) (hz : inB (k * z) (-1000) 1000 = true) (h : pofB p x y z = true) :
    pofB p (k * x) (k * y) (k * z) = true ∧ pofV p (k * x) (k * y) (k * z) = pofV p x y z := by
  have h' := h
  simp only [pofB, Bool.and_eq_true] at h'
  have hb : pofB p (k * x) (k * y) (k * z) = true := by
    rw [pofB, hp, hx, hy, hz, rowMul3, zeroB_mul hp hk _ (emod3_in hp x y z), h'.2]; rfl
  refine ⟨hb, ?_⟩
  rw [pofV, pofV, if_pos hb, if_pos h, ptRow, ptRow, rowMul3, rowS_mul hp hk _ (emod3_in hp x y z)]
theorem rowS_monic {p : Int} (hp : isPrimeB p = true) : ∀ xs : List Int, (∀ x ∈ xs, 0 ≤ x ∧ x < p) → zeroB xs = false → isMonicB (rowS p xs) = true ∧ ∀ x ∈ rowS p xs, 0 ≤ x ∧ x < p
  | [], _, h => by simp [zeroB] at h
  | x :: xs, h, hz => by
    have hb := isPrimeB_bd hp
    have hx := h x (List.mem_cons_self ..)
    have ht : ∀ y ∈ xs, 0 ≤ y ∧ y < p := fun y hy => h y (List.mem_cons_of_mem _ hy)
    by_cases h0 : x = 0
    · subst h0
      have ih := rowS_monic hp xs ht (by simpa [zeroB] using hz)
      rw [rowS_zero hp, isMonicB_zero]
      exact ⟨ih.1, fun y hy => by rcases List.mem_cons.1 hy with rfl | hy; omega; exact ih.2 y hy⟩
    · rw [rowS_nz hp (by omega) hx.2, isMonicB_nz 1 _ (by decide)]
      refine ⟨rfl, fun y hy => ?_⟩
      rcases List.mem_cons.1 hy with rfl | hy
      · omega
      · obtain ⟨u, _, rfl⟩ := List.mem_map.1 hy
        exact ⟨Int.emod_nonneg _ (by omega), Int.emod_lt_of_pos _ (by omega)⟩
/-- The three numbers of a row's point. -/
theorem ptRow_list {p : Int} {row : List Int} (h : row.length = 3) : [(ptRow p row).1, (ptRow p row).2.1, (ptRow p row).2.2] = rowS p row :=
  (list3 ((rowS_length p row).trans h)).symm
theorem row_point {p : Int} (hp : isPrimeB p = true) {row : List Int} (h : row.length = 3) (hx : ∀ x ∈ row, 0 ≤ x ∧ x < p) (hz : zeroB row = false) : specPointB p (ptRow p row).1 (ptRow p row).2.1 (ptRow p row).2.2 = true := by
  obtain ⟨m, hr⟩ := rowS_monic hp row hx hz
  rw [← points_alike, ptRow_list h, m, Bool.and_true, numbers_alike, specNumbersB, hp, rowS_length, h]
  simp only [Bool.true_and, Bool.and_eq_true]
  exact ⟨List.all_eq_true.2 fun x hx => by have := hr x hx; simp [inP, inB]; omega, rfl⟩
theorem pof_point {p x y z : Int} (h : pofB p x y z = true) : specPointB p (pofV p x y z).1 (pofV p x y z).2.1 (pofV p x y z).2.2 = true := by
  have hp := pofB_prime h
  rw [pofV, if_pos h]
  have h' := h
  simp only [pofB, Bool.and_eq_true, Bool.not_eq_true'] at h'
  exact row_point hp rfl (emod3_in hp x y z) h'.2
theorem point_parts {p x y z : Int} (h : specPointB p x y z = true) : isPrimeB p = true ∧ (0 ≤ x ∧ x < p) ∧ (0 ≤ y ∧ y < p) ∧ (0 ≤ z ∧ z < p) ∧ isMonicB [x, y, z] = true := by
  have h' := h
  rw [← points_alike, Bool.and_eq_true, numbers_alike, specNumbersB] at h'
  simp only [Bool.and_eq_true] at h'
  have hb := all_inP_bd h'.1.1
  exact ⟨h'.1.2.1, hb x (by simp), hb y (by simp), hb z (by simp), h'.2⟩
theorem point_row {p x y z : Int} (h : specPointB p x y z = true) : pofB p x y z = true ∧ pofV p x y z = (x, y, z) := by
  obtain ⟨hp, hx, hy, hz, hm⟩ := point_parts h
  have hb := isPrimeB_bd hp
  have hall : ∀ q ∈ [x, y, z], 0 ≤ q ∧ q < p := by
    intro q hq; simp at hq; rcases hq with rfl | rfl | rfl <;> assumption
  rw [← monic_row hp _ hall, Bool.and_eq_true] at hm
  have hs : rowS p [x, y, z] = [x, y, z] := by simpa using hm.2
  have he : [x % p, y % p, z % p] = [x, y, z] := by
    rw [Int.emod_eq_of_lt hx.1 hx.2, Int.emod_eq_of_lt hy.1 hy.2, Int.emod_eq_of_lt hz.1 hz.2]
  have hB : pofB p x y z = true := by
    rw [pofB, he, hm.1, hp]
    simp [inB]; omega
  refine ⟨hB, ?_⟩
  rw [pofV, if_pos hB, he, ptRow, hs]; rfl
theorem pof_neg {p x y z : Int} (h : pofB p x y z = true) : pofB p (0 - x) (0 - y) (0 - z) = true ∧ pofV p (0 - x) (0 - y) (0 - z) = pofV p x y z := by
  have hp := pofB_prime h
  have hb := isPrimeB_bd hp
  have h' := h
  simp only [pofB, Bool.and_eq_true] at h'
  have e : ∀ u : Int, 0 - u = -1 * u := by intro u; omega
  rw [e x, e y, e z]
  have i1 := inB_bd h'.1.1.1.2
  have i2 := inB_bd h'.1.1.2
  have i3 := inB_bd h'.1.2
  refine pof_mul hp ?_ ?_ ?_ ?_ h
  · rw [show (-1 : Int) % p = p - 1 by rw [show (-1 : Int) = (p - 1) + p * (-1) by omega, Int.add_mul_emod_self_left]; exact Int.emod_eq_of_lt (by omega) (by omega)]
    omega
  all_goals simp [inB]; omega
theorem pof_three {p x y z : Int} (h : specPointB p x y z = true) : pofB p (3 * x) (3 * y) (3 * z) = true ∧ pofV p (3 * x) (3 * y) (3 * z) = (x, y, z) := by
  obtain ⟨hp, hx, hy, hz, hm⟩ := point_parts h
  obtain ⟨h1, h2⟩ := point_row h
  have hb := isPrimeB_bd hp
  rw [← h2]
  refine pof_mul hp ?_ ?_ ?_ ?_ h1
  · rw [Int.emod_eq_of_lt (by omega) (by omega)]; omega
  all_goals simp [inB]; omega

end Go.Proofs.Ytkhkcgoblibnpaa
