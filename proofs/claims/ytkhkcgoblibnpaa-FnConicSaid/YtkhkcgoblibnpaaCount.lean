/-
  A line has one point more than the prime tells.
-/
import Derived.Test.YtkhkcgoblibnpaaPA
import Derived.Test.YtkhkcgoblibnpaaOn
namespace Go.Proofs.Ytkhkcgoblibnpaa
open Go.RowKit
set_option linter.unusedVariables false
set_option linter.unusedSimpArgs false

theorem countP_one (f : Nat → Bool) (z0 : Nat) (N : Nat) (h : ∀ z, z < N → f z = decide (z = z0)) : (List.range N).countP f = if z0 < N then 1 else 0 := by
  induction N with
  | zero => simp
  | succ N ih =>
    rw [List.range_succ, List.countP_append, ih fun z hz => h z (by omega)]
    have hN := h N (by omega)
    by_cases e : N = z0
    · subst e
      simp [hN]
    · simp [hN, e]
      split <;> split <;> omega
theorem countP_all (f : Nat → Bool) (N : Nat) (h : ∀ z, z < N → f z = true) : (List.range N).countP f = N := by
  induction N with
  | zero => simp
  | succ N ih => rw [List.range_succ, List.countP_append, ih fun z hz => h z (by omega)]; simp [h N (by omega)]
theorem countP_none (f : Nat → Bool) (N : Nat) (h : ∀ z, z < N → f z = false) : (List.range N).countP f = 0 := by
  induction N with
  | zero => simp
  | succ N ih => rw [List.range_succ, List.countP_append, ih fun z hz => h z (by omega)]; simp [h N (by omega)]

theorem solve_one {p u c : Int} (hp : isPrimeB p = true) (h0 : 0 < u) (h1 : u < p) : (List.range p.toNat).countP (fun (z : Nat) => (c + (z : Int) * u) % p == 0) = 1 := by
  have hb := isPrimeB_bd hp
  obtain ⟨ht, _, _⟩ := turned_spec hp h0 h1
  generalize turned p u = t at ht
  have hk : u * t = 1 + p * (u * t / p) := by
    have := Int.emod_add_mul_ediv (u * t) p
    omega
  generalize u * t / p = k at hk
  have hz : 0 ≤ (-c * t) % p ∧ (-c * t) % p < p := ⟨Int.emod_nonneg _ (by omega), Int.emod_lt_of_pos _ (by omega)⟩
  rw [countP_one _ ((-c * t) % p).toNat p.toNat ?_, if_pos (by omega)]
  intro z hzN
  rw [Bool.eq_iff_iff]
  simp only [beq_iff_eq, decide_eq_true_eq]
  constructor
  · intro h
    have hd := Int.emod_add_mul_ediv (c + z * u) p
    rw [h] at hd
    generalize (c + z * u) / p = j at hd
    have e : (z : Int) = -c * t + p * (j * t - z * k) := by
      have h1 : (z : Int) * (u * t) = z * (1 + p * k) := by rw [hk]
      have h2 : (z : Int) * (u * t) = (p * j - c) * t := by
        rw [← Int.mul_assoc, show (z : Int) * u = p * j - c by omega]
      rw [h2, Int.mul_add, Int.mul_one, Int.sub_mul] at h1
      rw [Int.mul_sub, Int.neg_mul, ← Int.mul_assoc, Int.mul_left_comm p (z : Int) k]
      omega
    have e2 : (z : Int) % p = (-c * t) % p := by
      conv => lhs; rw [e]
      rw [Int.add_mul_emod_self_left]
    rw [Int.emod_eq_of_lt (by omega) (by omega)] at e2
    omega
  · intro h
    have e : (z : Int) = (-c * t) % p := by omega
    have hd := Int.emod_add_mul_ediv (-c * t) p
    generalize (-c * t) / p = j at hd
    have e2 : c + (z : Int) * u = p * (-c * k - j * u) := by
      rw [e, show (-c * t) % p = -c * t - p * j by omega, Int.sub_mul, Int.mul_assoc (-c) t u, Int.mul_comm t u, hk, Int.mul_add, Int.mul_one, Int.mul_sub, Int.mul_left_comm (-c) p k, Int.mul_assoc p j u]
      omega
    rw [e2, Int.mul_emod_right]

def onQ (p l m n : Int) (q : P3) : Bool := (q.1 * l + q.2.1 * m + q.2.2 * n) % p == 0

theorem count_rows (p l m n : Int) (N c : Nat) (k : Nat) (h : ∀ y, y < k → (rowPts y N).countP (onQ p l m n) = c) : (allTo N k).countP (onQ p l m n) = (allHead N).countP (onQ p l m n) + k * c := by
  induction k with
  | zero => rw [allTo_zero]; omega
  | succ k ih => rw [allTo_succ, List.countP_append, ih fun y hy => h y (by omega), h k (by omega), Nat.succ_mul]; omega

theorem count_some (p l m n : Int) (N : Nat) (f : Nat → Bool) (k : Nat) (h : ∀ y, y < k → (rowPts y N).countP (onQ p l m n) = if f y then N else 0) : (allTo N k).countP (onQ p l m n) = (allHead N).countP (onQ p l m n) + (List.range k).countP f * N := by
  induction k with
  | zero => rw [allTo_zero]; simp
  | succ k ih =>
    rw [allTo_succ, List.countP_append, ih fun y hy => h y (by omega), h k (by omega), List.range_succ, List.countP_append, Nat.add_mul]
    cases hf : f k
    · simp [hf]
    · simp [hf]; omega

theorem count_head (p l m n : Int) (N : Nat) : (allHead N).countP (onQ p l m n) = (List.range N).countP (fun (z : Nat) => (m + (z : Int) * n) % p == 0) + if n % p == 0 then 1 else 0 := by
  rw [allHead, List.countP_cons, List.countP_map]
  congr 1
  · apply List.countP_congr
    intro z _
    simp [onQ]
  · simp [onQ]
theorem count_row (p l m n : Int) (y N : Nat) : (rowPts y N).countP (onQ p l m n) = (List.range N).countP (fun (z : Nat) => (l + (y : Int) * m + (z : Int) * n) % p == 0) := by
  rw [rowPts, List.countP_map]
  apply List.countP_congr
  intro z _
  simp [onQ]

theorem count_line {p l m n : Int} (h : specPointB p l m n = true) : (allPts p.toNat).countP (onQ p l m n) = p.toNat + 1 := by
  have hbd := specPoint_bd h
  have hp : isPrimeB p = true := by rw [specPointB, Bool.and_eq_true] at h; exact h.1
  have hmon : isMonicB [l, m, n] = true := by rw [← points_alike, Bool.and_eq_true] at h; exact h.2
  have hmod : ∀ u : Int, 0 ≤ u → u < p → u % p = u := fun u a b => Int.emod_eq_of_lt a b
  by_cases hn : n = 0
  · subst hn
    by_cases hm : m = 0
    · subst hm
      have hl : l = 1 := by
        by_cases hl0 : l = 0
        · subst hl0
          rw [isMonicB_zero, isMonicB_zero, isMonicB_zero] at hmon
          simp [isMonicB, idxB] at hmon
        · rw [isMonicB_nz _ _ hl0] at hmon
          simpa using hmon
      subst hl
      have h1 : (List.range p.toNat).countP (fun (z : Nat) => ((0 : Int) + (z : Int) * 0) % p == 0) = p.toNat := countP_all _ _ (fun z _ => by simp)
      have h2 : ∀ y, y < p.toNat → (rowPts y p.toNat).countP (onQ p 1 0 0) = 0 := by
        intro y _
        rw [count_row]
        apply countP_none
        intro z _
        have := hmod 1 (by omega) (by omega)
        simp [this]
      rw [allPts, count_rows p 1 0 0 p.toNat 0 p.toNat h2, count_head, h1]
      simp
    · have hmm := hmod m (by omega) (by omega)
      have h1 : (List.range p.toNat).countP (fun (z : Nat) => (m + (z : Int) * 0) % p == 0) = 0 := countP_none _ _ (fun z _ => by simp [hmm, hm])
      have h2 : (List.range p.toNat).countP (fun (y : Nat) => (l + (y : Int) * m) % p == 0) = 1 := solve_one hp (by omega) (by omega)
      have h3 : ∀ y, y < p.toNat → (rowPts y p.toNat).countP (onQ p l m 0) = if (fun (y : Nat) => (l + (y : Int) * m) % p == 0) y then p.toNat else 0 := by
        intro y _
        rw [count_row]
        cases hf : ((l + (y : Int) * m) % p == 0)
        · rw [countP_none]
          · simp [hf]
          · intro z _
            simpa using hf
        · rw [countP_all]
          · simp [hf]
          · intro z _
            simpa using hf
      rw [allPts, count_some p l m 0 p.toNat _ p.toNat h3, count_head, h1, h2]
      simp
      omega
  · rw [allPts, count_rows p l m n p.toNat 1 p.toNat ?_, count_head, solve_one hp (by omega) (by omega)]
    · have : n % p = n := hmod n (by omega) (by omega)
      rw [this]
      simp [hn]
      omega
    · intro y _
      rw [count_row]
      exact solve_one hp (by omega) (by omega)

end Go.Proofs.Ytkhkcgoblibnpaa
