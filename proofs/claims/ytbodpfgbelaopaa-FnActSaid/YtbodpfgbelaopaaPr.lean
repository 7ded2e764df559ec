/-
  Plain law: there are no more roots.
-/
import Derived.Test.YtbodpfgbelaopaaRt
namespace Go.Proofs.Ytbodpfgbelaopaa
set_option linter.unusedVariables false
set_option linter.unusedSimpArgs false

theorem sq_nn (t : Int) : 0 ≤ t * t := by
  rcases Int.le_total 0 t with h | h
  · exact Int.mul_nonneg h h
  · exact Int.mul_nonneg_of_nonpos_of_nonpos h h
theorem sq_small {t : Int} (h : t * t ≤ 8) : -2 ≤ t ∧ t ≤ 2 := by
  constructor
  · rcases Int.lt_or_le t (-2) with h1 | h1
    · have := Int.mul_le_mul (show (3 : Int) ≤ -t by omega) (show (3 : Int) ≤ -t by omega) (by omega) (by omega)
      rw [Int.neg_mul_neg] at this
      omega
    · exact h1
  · rcases Int.lt_or_le 2 t with h1 | h1
    · have := Int.mul_le_mul (show (3 : Int) ≤ t by omega) (show (3 : Int) ≤ t by omega) (by omega) (by omega)
      omega
    · exact h1
theorem sq_zero {t : Int} (h : t * t ≤ 0) : t = 0 := by
  have := sq_nn t
  rcases Int.mul_eq_zero.1 (show t * t = 0 by omega) with h | h <;> exact h
theorem sq_mid {t : Int} (h : t * t ≤ 6) : -2 ≤ t ∧ t ≤ 2 := sq_small (by omega)

theorem rootsC_mem (d : Int) : ∀ n c : Nat, c < n → rootB (codeC d c) = true → codeC d c ∈ rootsC d n
  | 0, _, h, _ => by omega
  | n + 1, c, h, hr => by
    rw [rootsC]
    by_cases hc : c = n
    · subst hc
      rw [if_pos hr]; simp
    · have := rootsC_mem d n c (by omega) hr
      split
      · exact List.mem_append_left _ this
      · exact this
theorem rootsD_mem {d : Int} : ∀ n e : Nat, e < n → d = (e : Int) - 2 → ∀ x, x ∈ rootsC d 729 → x ∈ rootsD n
  | 0, _, h, _, _, _ => by omega
  | n + 1, e, h, hd, x, hx => by
    rw [rootsD]
    by_cases he : e = n
    · subst he; subst hd; exact List.mem_append_right _ hx
    · exact List.mem_append_left _ (rootsD_mem n e (by omega) hd x hx)

theorem root_small {d a b c e f g : Int} (h : rootB [d, a, b, c, e, f, g] = true) : (-2 ≤ d ∧ d ≤ 2) ∧ (-1 ≤ a ∧ a ≤ 1) ∧ (-1 ≤ b ∧ b ≤ 1) ∧ (-1 ≤ c ∧ c ≤ 1) ∧ (-1 ≤ e ∧ e ≤ 1) ∧ (-1 ≤ f ∧ f ≤ 1) ∧ (-1 ≤ g ∧ g ≤ 1) := by
  simp only [rootB, Bool.and_eq_true, beq_iff_eq] at h
  obtain ⟨⟨_, h1⟩, h2⟩ := h
  have h1 : d * d - a * a - b * b - c * c - e * e - f * f - g * g = -2 := h1
  have h2 : d * 3 - a * 1 - b * 1 - c * 1 - e * 1 - f * 1 - g * 1 = 0 := h2
  have key : (2 * a - d) * (2 * a - d) + (2 * b - d) * (2 * b - d) + (2 * c - d) * (2 * c - d) + (2 * e - d) * (2 * e - d) + (2 * f - d) * (2 * f - d) + (2 * g - d) * (2 * g - d) = 8 - 2 * (d * d) := by grind
  have sa := sq_nn (2 * a - d)
  have sb := sq_nn (2 * b - d)
  have sc := sq_nn (2 * c - d)
  have se := sq_nn (2 * e - d)
  have sf := sq_nn (2 * f - d)
  have sg := sq_nn (2 * g - d)
  have sd := sq_nn d
  have hd : -2 ≤ d ∧ d ≤ 2 := sq_small (by omega)
  have one : ∀ t : Int, (2 * t - d) * (2 * t - d) ≤ 8 - 2 * (d * d) → -1 ≤ t ∧ t ≤ 1 := by
    intro t ht
    rcases (show d = -2 ∨ d = -1 ∨ d = 0 ∨ d = 1 ∨ d = 2 by omega) with rfl | rfl | rfl | rfl | rfl
    · have := sq_zero (t := 2 * t - -2) (by omega); omega
    · have := sq_mid (t := 2 * t - -1) (by omega); omega
    · have := sq_small (t := 2 * t - 0) (by omega); omega
    · have := sq_mid (t := 2 * t - 1) (by omega); omega
    · have := sq_zero (t := 2 * t - 2) (by omega); omega
  exact ⟨hd, one a (by omega), one b (by omega), one c (by omega), one e (by omega), one f (by omega), one g (by omega)⟩

/-- There are no more roots. -/
theorem root_mem {x : List Int} (h7 : x.length = 7) (h : rootB x = true) : x ∈ roots := by
  obtain ⟨d, a, b, c, e, f, g, rfl⟩ := seven h7
  obtain ⟨hd, ha, hb, hc, he, hf, hg⟩ := root_small h
  obtain ⟨A, rfl⟩ : ∃ A : Nat, a = (A : Int) - 1 := ⟨(a + 1).toNat, by omega⟩
  obtain ⟨B, rfl⟩ : ∃ A : Nat, b = (A : Int) - 1 := ⟨(b + 1).toNat, by omega⟩
  obtain ⟨C, rfl⟩ : ∃ A : Nat, c = (A : Int) - 1 := ⟨(c + 1).toNat, by omega⟩
  obtain ⟨E, rfl⟩ : ∃ A : Nat, e = (A : Int) - 1 := ⟨(e + 1).toNat, by omega⟩
  obtain ⟨F, rfl⟩ : ∃ A : Nat, f = (A : Int) - 1 := ⟨(f + 1).toNat, by omega⟩
  obtain ⟨G, rfl⟩ : ∃ A : Nat, g = (A : Int) - 1 := ⟨(g + 1).toNat, by omega⟩
  have hcode : codeC d (A * 243 + B * 81 + C * 27 + E * 9 + F * 3 + G) = [d, (A : Int) - 1, (B : Int) - 1, (C : Int) - 1, (E : Int) - 1, (F : Int) - 1, (G : Int) - 1] := by
    rw [codeC, show (A * 243 + B * 81 + C * 27 + E * 9 + F * 3 + G) / 243 % 3 = A by omega, show (A * 243 + B * 81 + C * 27 + E * 9 + F * 3 + G) / 81 % 3 = B by omega, show (A * 243 + B * 81 + C * 27 + E * 9 + F * 3 + G) / 27 % 3 = C by omega, show (A * 243 + B * 81 + C * 27 + E * 9 + F * 3 + G) / 9 % 3 = E by omega, show (A * 243 + B * 81 + C * 27 + E * 9 + F * 3 + G) / 3 % 3 = F by omega, show (A * 243 + B * 81 + C * 27 + E * 9 + F * 3 + G) % 3 = G by omega]
  rw [← hcode] at h ⊢
  rw [← rootsD_eq]
  exact rootsD_mem 5 (d + 2).toNat (by omega) (by omega) _ (rootsC_mem d 729 _ (by omega) h)

end Go.Proofs.Ytbodpfgbelaopaa
