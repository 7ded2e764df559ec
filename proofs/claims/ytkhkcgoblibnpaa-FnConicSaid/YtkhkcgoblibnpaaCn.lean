/-
  Plain laws: points apart, the conics and the cubics through them.
-/
import Derived.Test.YtkhkcgoblibnpaaNb
import Derived.Test.YtkhkcgoblibnpaaGn
import Derived.Test.YtkhkcgoblibnpaaXb
namespace Go.Proofs.Ytkhkcgoblibnpaa
set_option linter.unusedVariables false
set_option linter.unusedSimpArgs false

theorem det_swap1 (a b c : P3) : det3 b a c = -det3 a b c := by unfold det3; grind
theorem det_swap2 (a b c : P3) : det3 a c b = -det3 a b c := by unfold det3; grind
theorem det_aa (a c : P3) : det3 a a c = 0 := by unfold det3; grind
theorem det_ab (a b : P3) : det3 a b a = 0 := by unfold det3; grind
theorem det_bb (a b : P3) : det3 a b b = 0 := by unfold det3; grind
theorem neg_ne {p x : Int} (h : x % p ≠ 0) : (-x) % p ≠ 0 := fun e => h (by
  obtain ⟨q, hq⟩ := Int.dvd_of_emod_eq_zero e
  exact Int.emod_eq_zero_of_dvd ⟨-q, by rw [Int.mul_neg]; omega⟩)
theorem mul_ne {p a b : Int} (hp : isPrimeB p = true) (ha : a % p ≠ 0) (hb : b % p ≠ 0) : a * b % p ≠ 0 := fun e => hb (prime_mul hp ha e)

/-- Points of which no three lie on a line. -/
def Apt (p : Int) (ps : List P3) : Prop := ∀ i j k, i < ps.length → j < ps.length → k < ps.length → i ≠ j → i ≠ k → j ≠ k → det3 (ps.getD i default) (ps.getD j default) (ps.getD k default) % p ≠ 0
theorem rall_of {f : Nat → Bool} {n i : Nat} (h : (List.range n).all f = true) (hi : i < n) : f i = true := List.all_eq_true.1 h i (List.mem_range.2 hi)
theorem apart_apt {p : Int} {ps : List P3} (h : apartB p ps = true) : Apt p ps := by
  have key : ∀ i j k, i < ps.length → j < i → k < j → det3 (ps.getD i default) (ps.getD j default) (ps.getD k default) % p ≠ 0 := fun i j k hi hj hk => by
    have h1 := rall_of h hi
    rw [apB, Bool.and_eq_true] at h1
    have h3 := rall_of (rall_of h1.2 hj) hk
    unfold tri at h3
    simpa using h3
  intro i j k hi hj hk hij hik hjk
  rcases Nat.lt_or_gt_of_ne hij with h1 | h1 <;> rcases Nat.lt_or_gt_of_ne hik with h2 | h2 <;> rcases Nat.lt_or_gt_of_ne hjk with h3 | h3
  · have := key k j i hk h3 h1
    rw [det_swap1, det_swap2, det_swap1, Int.neg_neg]; exact neg_ne this
  · have := key j k i hj h3 h2
    rw [det_swap1, det_swap2]; rw [Int.neg_neg]; exact this
  · omega
  · have := key j i k hj h1 h2
    rw [det_swap1]; exact neg_ne this
  · have := key k i j hk h2 h1
    rw [det_swap2, det_swap1, Int.neg_neg]; exact this
  · omega
  · have := key i k j hi h2 h3
    rw [det_swap2]; exact neg_ne this
  · exact key i j k hi h1 h3
theorem apart_of {p : Int} {ps : List P3} (h1 : ∀ a ∈ ps, ptOk p a = true) (h2 : Apt p ps) : apartB p ps = true := by
  refine rall_yes fun i hi => ?_
  rw [apB, Bool.and_eq_true]
  refine ⟨h1 _ (getD_mem hi), rall_yes fun j hj => rall_yes fun k hk => ?_⟩
  have := h2 i j k hi (by omega) (by omega) (by omega) (by omega) (by omega)
  unfold tri
  simpa using this
theorem apart_pt {p : Int} {ps : List P3} (h : apartB p ps = true) : ∀ a ∈ ps, ptOk p a = true := fun a ha => by
  obtain ⟨i, hi, rfl⟩ := List.getElem_of_mem ha
  have h1 := rall_of h hi
  rw [apB, Bool.and_eq_true] at h1
  simpa [List.getD_eq_getElem?_getD, List.getElem?_eq_getElem hi] using h1.1

/-- The product of two lines, each through two points. -/
def ln (a b : P3) : P3 := (a.2.1 * b.2.2 - a.2.2 * b.2.1, a.2.2 * b.1 - a.1 * b.2.2, a.1 * b.2.1 - a.2.1 * b.1)
def prodQ (u v : P3) : List Int := [u.1 * v.1, u.1 * v.2.1 + u.2.1 * v.1, u.1 * v.2.2 + u.2.2 * v.1, u.2.1 * v.2.1, u.2.1 * v.2.2 + u.2.2 * v.2.1, u.2.2 * v.2.2]
def prodC (u v w : P3) : List Int := [u.1 * v.1 * w.1, u.1 * v.1 * w.2.1 + u.1 * v.2.1 * w.1 + u.2.1 * v.1 * w.1, u.1 * v.1 * w.2.2 + u.1 * v.2.2 * w.1 + u.2.2 * v.1 * w.1, u.1 * v.2.1 * w.2.1 + u.2.1 * v.1 * w.2.1 + u.2.1 * v.2.1 * w.1, u.1 * v.2.1 * w.2.2 + u.1 * v.2.2 * w.2.1 + u.2.1 * v.1 * w.2.2 + u.2.1 * v.2.2 * w.1 + u.2.2 * v.1 * w.2.1 + u.2.2 * v.2.1 * w.1, u.1 * v.2.2 * w.2.2 + u.2.2 * v.1 * w.2.2 + u.2.2 * v.2.2 * w.1, u.2.1 * v.2.1 * w.2.1, u.2.1 * v.2.1 * w.2.2 + u.2.1 * v.2.2 * w.2.1 + u.2.2 * v.2.1 * w.2.1, u.2.1 * v.2.2 * w.2.2 + u.2.2 * v.2.1 * w.2.2 + u.2.2 * v.2.2 * w.2.1, u.2.2 * v.2.2 * w.2.2]
def dt (u a : P3) : Int := u.1 * a.1 + u.2.1 * a.2.1 + u.2.2 * a.2.2
theorem dt_ln (a b c : P3) : dt (ln a b) c = det3 a b c := rfl
theorem dot_prodQ (u v a : P3) : dotTo (sqI a) (prodQ u v) 6 = dt u a * dt v a := by
  obtain ⟨u0, u1, u2⟩ := u; obtain ⟨v0, v1, v2⟩ := v; obtain ⟨a0, a1, a2⟩ := a
  simp only [dotTo, sqI, prodQ, dt, List.getD_cons_zero, List.getD_cons_succ]
  grind
theorem dot_prodC (u v w a : P3) : dotTo (cuI a) (prodC u v w) 10 = dt u a * dt v a * dt w a := by
  obtain ⟨u0, u1, u2⟩ := u; obtain ⟨v0, v1, v2⟩ := v; obtain ⟨w0, w1, w2⟩ := w; obtain ⟨a0, a1, a2⟩ := a
  have e : cuI (a0, a1, a2) = [a0 ^ 3 * a1 ^ 0 * a2 ^ 0, a0 ^ 2 * a1 ^ 1 * a2 ^ 0, a0 ^ 2 * a1 ^ 0 * a2 ^ 1, a0 ^ 1 * a1 ^ 2 * a2 ^ 0, a0 ^ 1 * a1 ^ 1 * a2 ^ 1, a0 ^ 1 * a1 ^ 0 * a2 ^ 2, a0 ^ 0 * a1 ^ 3 * a2 ^ 0, a0 ^ 0 * a1 ^ 2 * a2 ^ 1, a0 ^ 0 * a1 ^ 1 * a2 ^ 2, a0 ^ 0 * a1 ^ 0 * a2 ^ 3] := by simp [cuI, cubesTo, cubeI, exN, List.range_succ]
  rw [e]
  simp only [dotTo, prodC, dt, List.getD_cons_zero, List.getD_cons_succ]
  grind
theorem sj_five {p : Int} {ps : List P3} (hp : isPrimeB p = true) (hl : ps.length = 5) (h : Apt p ps) : Sj p 6 (ps.map sqI) := by
  obtain ⟨a, b, c, d, e, rfl⟩ : ∃ a b c d e, ps = [a, b, c, d, e] := by
    match ps, hl with
    | [a, b, c, d, e], _ => exact ⟨a, b, c, d, e, rfl⟩
  refine sj_dual hp (fun i => [prodQ (ln b c) (ln d e), prodQ (ln a c) (ln d e), prodQ (ln a b) (ln d e), prodQ (ln a b) (ln c e), prodQ (ln a b) (ln c d)].getD i []) ?_ ?_ ?_
  · intro i hi
    have hi' : i < 5 := hi
    rcases (show i = 0 ∨ i = 1 ∨ i = 2 ∨ i = 3 ∨ i = 4 by omega) with rfl | rfl | rfl | rfl | rfl <;> rfl
  · intro i j hi hj hij
    have hi' : i < 5 := hi
    have hj' : j < 5 := hj
    rcases (show i = 0 ∨ i = 1 ∨ i = 2 ∨ i = 3 ∨ i = 4 by omega) with rfl | rfl | rfl | rfl | rfl <;> rcases (show j = 0 ∨ j = 1 ∨ j = 2 ∨ j = 3 ∨ j = 4 by omega) with rfl | rfl | rfl | rfl | rfl
    · exact absurd rfl hij
    · show dotTo (sqI a) (prodQ (ln a c) (ln d e)) 6 % p = 0
      rw [dot_prodQ]; simp [dt_ln, det_ab, det_bb]
    · show dotTo (sqI a) (prodQ (ln a b) (ln d e)) 6 % p = 0
      rw [dot_prodQ]; simp [dt_ln, det_ab, det_bb]
    · show dotTo (sqI a) (prodQ (ln a b) (ln c e)) 6 % p = 0
      rw [dot_prodQ]; simp [dt_ln, det_ab, det_bb]
    · show dotTo (sqI a) (prodQ (ln a b) (ln c d)) 6 % p = 0
      rw [dot_prodQ]; simp [dt_ln, det_ab, det_bb]
    · show dotTo (sqI b) (prodQ (ln b c) (ln d e)) 6 % p = 0
      rw [dot_prodQ]; simp [dt_ln, det_ab, det_bb]
    · exact absurd rfl hij
    · show dotTo (sqI b) (prodQ (ln a b) (ln d e)) 6 % p = 0
      rw [dot_prodQ]; simp [dt_ln, det_ab, det_bb]
    · show dotTo (sqI b) (prodQ (ln a b) (ln c e)) 6 % p = 0
      rw [dot_prodQ]; simp [dt_ln, det_ab, det_bb]
    · show dotTo (sqI b) (prodQ (ln a b) (ln c d)) 6 % p = 0
      rw [dot_prodQ]; simp [dt_ln, det_ab, det_bb]
    · show dotTo (sqI c) (prodQ (ln b c) (ln d e)) 6 % p = 0
      rw [dot_prodQ]; simp [dt_ln, det_ab, det_bb]
    · show dotTo (sqI c) (prodQ (ln a c) (ln d e)) 6 % p = 0
      rw [dot_prodQ]; simp [dt_ln, det_ab, det_bb]
    · exact absurd rfl hij
    · show dotTo (sqI c) (prodQ (ln a b) (ln c e)) 6 % p = 0
      rw [dot_prodQ]; simp [dt_ln, det_ab, det_bb]
    · show dotTo (sqI c) (prodQ (ln a b) (ln c d)) 6 % p = 0
      rw [dot_prodQ]; simp [dt_ln, det_ab, det_bb]
    · show dotTo (sqI d) (prodQ (ln b c) (ln d e)) 6 % p = 0
      rw [dot_prodQ]; simp [dt_ln, det_ab, det_bb]
    · show dotTo (sqI d) (prodQ (ln a c) (ln d e)) 6 % p = 0
      rw [dot_prodQ]; simp [dt_ln, det_ab, det_bb]
    · show dotTo (sqI d) (prodQ (ln a b) (ln d e)) 6 % p = 0
      rw [dot_prodQ]; simp [dt_ln, det_ab, det_bb]
    · exact absurd rfl hij
    · show dotTo (sqI d) (prodQ (ln a b) (ln c d)) 6 % p = 0
      rw [dot_prodQ]; simp [dt_ln, det_ab, det_bb]
    · show dotTo (sqI e) (prodQ (ln b c) (ln d e)) 6 % p = 0
      rw [dot_prodQ]; simp [dt_ln, det_ab, det_bb]
    · show dotTo (sqI e) (prodQ (ln a c) (ln d e)) 6 % p = 0
      rw [dot_prodQ]; simp [dt_ln, det_ab, det_bb]
    · show dotTo (sqI e) (prodQ (ln a b) (ln d e)) 6 % p = 0
      rw [dot_prodQ]; simp [dt_ln, det_ab, det_bb]
    · show dotTo (sqI e) (prodQ (ln a b) (ln c e)) 6 % p = 0
      rw [dot_prodQ]; simp [dt_ln, det_ab, det_bb]
    · exact absurd rfl hij
  · intro i hi
    have hi' : i < 5 := hi
    rcases (show i = 0 ∨ i = 1 ∨ i = 2 ∨ i = 3 ∨ i = 4 by omega) with rfl | rfl | rfl | rfl | rfl
    · show dotTo (sqI a) (prodQ (ln b c) (ln d e)) 6 % p ≠ 0
      rw [dot_prodQ]; exact (mul_ne hp (h 1 2 0 (by simp) (by simp) (by simp) (by decide) (by decide) (by decide)) (h 3 4 0 (by simp) (by simp) (by simp) (by decide) (by decide) (by decide)))
    · show dotTo (sqI b) (prodQ (ln a c) (ln d e)) 6 % p ≠ 0
      rw [dot_prodQ]; exact (mul_ne hp (h 0 2 1 (by simp) (by simp) (by simp) (by decide) (by decide) (by decide)) (h 3 4 1 (by simp) (by simp) (by simp) (by decide) (by decide) (by decide)))
    · show dotTo (sqI c) (prodQ (ln a b) (ln d e)) 6 % p ≠ 0
      rw [dot_prodQ]; exact (mul_ne hp (h 0 1 2 (by simp) (by simp) (by simp) (by decide) (by decide) (by decide)) (h 3 4 2 (by simp) (by simp) (by simp) (by decide) (by decide) (by decide)))
    · show dotTo (sqI d) (prodQ (ln a b) (ln c e)) 6 % p ≠ 0
      rw [dot_prodQ]; exact (mul_ne hp (h 0 1 3 (by simp) (by simp) (by simp) (by decide) (by decide) (by decide)) (h 2 4 3 (by simp) (by simp) (by simp) (by decide) (by decide) (by decide)))
    · show dotTo (sqI e) (prodQ (ln a b) (ln c d)) 6 % p ≠ 0
      rw [dot_prodQ]; exact (mul_ne hp (h 0 1 4 (by simp) (by simp) (by simp) (by decide) (by decide) (by decide)) (h 2 3 4 (by simp) (by simp) (by simp) (by decide) (by decide) (by decide)))
theorem sj_six {p : Int} {ps : List P3} (hp : isPrimeB p = true) (hl : ps.length = 6) (h : Apt p ps) : Sj p 10 (ps.map cuI) := by
  obtain ⟨a, b, c, d, e, f, rfl⟩ : ∃ a b c d e f, ps = [a, b, c, d, e, f] := by
    match ps, hl with
    | [a, b, c, d, e, f], _ => exact ⟨a, b, c, d, e, f, rfl⟩
  refine sj_dual hp (fun i => [prodC (ln b c) (ln d e) (ln b f), prodC (ln a c) (ln d e) (ln a f), prodC (ln a b) (ln d e) (ln a f), prodC (ln a b) (ln c e) (ln a f), prodC (ln a b) (ln c d) (ln a f), prodC (ln a b) (ln c d) (ln a e)].getD i []) ?_ ?_ ?_
  · intro i hi
    have hi' : i < 6 := hi
    rcases (show i = 0 ∨ i = 1 ∨ i = 2 ∨ i = 3 ∨ i = 4 ∨ i = 5 by omega) with rfl | rfl | rfl | rfl | rfl | rfl <;> rfl
  · intro i j hi hj hij
    have hi' : i < 6 := hi
    have hj' : j < 6 := hj
    rcases (show i = 0 ∨ i = 1 ∨ i = 2 ∨ i = 3 ∨ i = 4 ∨ i = 5 by omega) with rfl | rfl | rfl | rfl | rfl | rfl <;> rcases (show j = 0 ∨ j = 1 ∨ j = 2 ∨ j = 3 ∨ j = 4 ∨ j = 5 by omega) with rfl | rfl | rfl | rfl | rfl | rfl
    · exact absurd rfl hij
    · show dotTo (cuI a) (prodC (ln a c) (ln d e) (ln a f)) 10 % p = 0
      rw [dot_prodC]; simp [dt_ln, det_ab, det_bb]
    · show dotTo (cuI a) (prodC (ln a b) (ln d e) (ln a f)) 10 % p = 0
      rw [dot_prodC]; simp [dt_ln, det_ab, det_bb]
    · show dotTo (cuI a) (prodC (ln a b) (ln c e) (ln a f)) 10 % p = 0
      rw [dot_prodC]; simp [dt_ln, det_ab, det_bb]
    · show dotTo (cuI a) (prodC (ln a b) (ln c d) (ln a f)) 10 % p = 0
      rw [dot_prodC]; simp [dt_ln, det_ab, det_bb]
    · show dotTo (cuI a) (prodC (ln a b) (ln c d) (ln a e)) 10 % p = 0
      rw [dot_prodC]; simp [dt_ln, det_ab, det_bb]
    · show dotTo (cuI b) (prodC (ln b c) (ln d e) (ln b f)) 10 % p = 0
      rw [dot_prodC]; simp [dt_ln, det_ab, det_bb]
    · exact absurd rfl hij
    · show dotTo (cuI b) (prodC (ln a b) (ln d e) (ln a f)) 10 % p = 0
      rw [dot_prodC]; simp [dt_ln, det_ab, det_bb]
    · show dotTo (cuI b) (prodC (ln a b) (ln c e) (ln a f)) 10 % p = 0
      rw [dot_prodC]; simp [dt_ln, det_ab, det_bb]
    · show dotTo (cuI b) (prodC (ln a b) (ln c d) (ln a f)) 10 % p = 0
      rw [dot_prodC]; simp [dt_ln, det_ab, det_bb]
    · show dotTo (cuI b) (prodC (ln a b) (ln c d) (ln a e)) 10 % p = 0
      rw [dot_prodC]; simp [dt_ln, det_ab, det_bb]
    · show dotTo (cuI c) (prodC (ln b c) (ln d e) (ln b f)) 10 % p = 0
      rw [dot_prodC]; simp [dt_ln, det_ab, det_bb]
    · show dotTo (cuI c) (prodC (ln a c) (ln d e) (ln a f)) 10 % p = 0
      rw [dot_prodC]; simp [dt_ln, det_ab, det_bb]
    · exact absurd rfl hij
    · show dotTo (cuI c) (prodC (ln a b) (ln c e) (ln a f)) 10 % p = 0
      rw [dot_prodC]; simp [dt_ln, det_ab, det_bb]
    · show dotTo (cuI c) (prodC (ln a b) (ln c d) (ln a f)) 10 % p = 0
      rw [dot_prodC]; simp [dt_ln, det_ab, det_bb]
    · show dotTo (cuI c) (prodC (ln a b) (ln c d) (ln a e)) 10 % p = 0
      rw [dot_prodC]; simp [dt_ln, det_ab, det_bb]
    · show dotTo (cuI d) (prodC (ln b c) (ln d e) (ln b f)) 10 % p = 0
      rw [dot_prodC]; simp [dt_ln, det_ab, det_bb]
    · show dotTo (cuI d) (prodC (ln a c) (ln d e) (ln a f)) 10 % p = 0
      rw [dot_prodC]; simp [dt_ln, det_ab, det_bb]
    · show dotTo (cuI d) (prodC (ln a b) (ln d e) (ln a f)) 10 % p = 0
      rw [dot_prodC]; simp [dt_ln, det_ab, det_bb]
    · exact absurd rfl hij
    · show dotTo (cuI d) (prodC (ln a b) (ln c d) (ln a f)) 10 % p = 0
      rw [dot_prodC]; simp [dt_ln, det_ab, det_bb]
    · show dotTo (cuI d) (prodC (ln a b) (ln c d) (ln a e)) 10 % p = 0
      rw [dot_prodC]; simp [dt_ln, det_ab, det_bb]
    · show dotTo (cuI e) (prodC (ln b c) (ln d e) (ln b f)) 10 % p = 0
      rw [dot_prodC]; simp [dt_ln, det_ab, det_bb]
    · show dotTo (cuI e) (prodC (ln a c) (ln d e) (ln a f)) 10 % p = 0
      rw [dot_prodC]; simp [dt_ln, det_ab, det_bb]
    · show dotTo (cuI e) (prodC (ln a b) (ln d e) (ln a f)) 10 % p = 0
      rw [dot_prodC]; simp [dt_ln, det_ab, det_bb]
    · show dotTo (cuI e) (prodC (ln a b) (ln c e) (ln a f)) 10 % p = 0
      rw [dot_prodC]; simp [dt_ln, det_ab, det_bb]
    · exact absurd rfl hij
    · show dotTo (cuI e) (prodC (ln a b) (ln c d) (ln a e)) 10 % p = 0
      rw [dot_prodC]; simp [dt_ln, det_ab, det_bb]
    · show dotTo (cuI f) (prodC (ln b c) (ln d e) (ln b f)) 10 % p = 0
      rw [dot_prodC]; simp [dt_ln, det_ab, det_bb]
    · show dotTo (cuI f) (prodC (ln a c) (ln d e) (ln a f)) 10 % p = 0
      rw [dot_prodC]; simp [dt_ln, det_ab, det_bb]
    · show dotTo (cuI f) (prodC (ln a b) (ln d e) (ln a f)) 10 % p = 0
      rw [dot_prodC]; simp [dt_ln, det_ab, det_bb]
    · show dotTo (cuI f) (prodC (ln a b) (ln c e) (ln a f)) 10 % p = 0
      rw [dot_prodC]; simp [dt_ln, det_ab, det_bb]
    · show dotTo (cuI f) (prodC (ln a b) (ln c d) (ln a f)) 10 % p = 0
      rw [dot_prodC]; simp [dt_ln, det_ab, det_bb]
    · exact absurd rfl hij
  · intro i hi
    have hi' : i < 6 := hi
    rcases (show i = 0 ∨ i = 1 ∨ i = 2 ∨ i = 3 ∨ i = 4 ∨ i = 5 by omega) with rfl | rfl | rfl | rfl | rfl | rfl
    · show dotTo (cuI a) (prodC (ln b c) (ln d e) (ln b f)) 10 % p ≠ 0
      rw [dot_prodC]; exact (mul_ne hp (mul_ne hp (h 1 2 0 (by simp) (by simp) (by simp) (by decide) (by decide) (by decide)) (h 3 4 0 (by simp) (by simp) (by simp) (by decide) (by decide) (by decide))) (h 1 5 0 (by simp) (by simp) (by simp) (by decide) (by decide) (by decide)))
    · show dotTo (cuI b) (prodC (ln a c) (ln d e) (ln a f)) 10 % p ≠ 0
      rw [dot_prodC]; exact (mul_ne hp (mul_ne hp (h 0 2 1 (by simp) (by simp) (by simp) (by decide) (by decide) (by decide)) (h 3 4 1 (by simp) (by simp) (by simp) (by decide) (by decide) (by decide))) (h 0 5 1 (by simp) (by simp) (by simp) (by decide) (by decide) (by decide)))
    · show dotTo (cuI c) (prodC (ln a b) (ln d e) (ln a f)) 10 % p ≠ 0
      rw [dot_prodC]; exact (mul_ne hp (mul_ne hp (h 0 1 2 (by simp) (by simp) (by simp) (by decide) (by decide) (by decide)) (h 3 4 2 (by simp) (by simp) (by simp) (by decide) (by decide) (by decide))) (h 0 5 2 (by simp) (by simp) (by simp) (by decide) (by decide) (by decide)))
    · show dotTo (cuI d) (prodC (ln a b) (ln c e) (ln a f)) 10 % p ≠ 0
      rw [dot_prodC]; exact (mul_ne hp (mul_ne hp (h 0 1 3 (by simp) (by simp) (by simp) (by decide) (by decide) (by decide)) (h 2 4 3 (by simp) (by simp) (by simp) (by decide) (by decide) (by decide))) (h 0 5 3 (by simp) (by simp) (by simp) (by decide) (by decide) (by decide)))
    · show dotTo (cuI e) (prodC (ln a b) (ln c d) (ln a f)) 10 % p ≠ 0
      rw [dot_prodC]; exact (mul_ne hp (mul_ne hp (h 0 1 4 (by simp) (by simp) (by simp) (by decide) (by decide) (by decide)) (h 2 3 4 (by simp) (by simp) (by simp) (by decide) (by decide) (by decide))) (h 0 5 4 (by simp) (by simp) (by simp) (by decide) (by decide) (by decide)))
    · show dotTo (cuI f) (prodC (ln a b) (ln c d) (ln a e)) 10 % p ≠ 0
      rw [dot_prodC]; exact (mul_ne hp (mul_ne hp (h 0 1 5 (by simp) (by simp) (by simp) (by decide) (by decide) (by decide)) (h 2 3 5 (by simp) (by simp) (by simp) (by decide) (by decide) (by decide))) (h 0 4 5 (by simp) (by simp) (by simp) (by decide) (by decide) (by decide)))
theorem sq_len (ps : List P3) : ∀ r ∈ ps.map sqI, r.length = 6 := fun r hr => by
  obtain ⟨a, _, rfl⟩ := List.mem_map.1 hr
  rfl
theorem cu_len (ps : List P3) : ∀ r ∈ ps.map cuI, r.length = 10 := fun r hr => by
  obtain ⟨a, _, rfl⟩ := List.mem_map.1 hr
  exact cubesTo_length _ _ _ _
/-- One conic runs through five points apart. -/
theorem con_one {p : Int} {ps : List P3} (hl : ps.length = 5) (h : apartB p ps = true) : (conP p ps).length = 1 := by
  have hp := apart_prime h (by omega)
  have h1 := sj_len hp (sq_len ps) (sj_five hp hl (apart_apt h))
  have h2 := sol_count hp (sq_len ps)
  rw [List.length_map, hl] at h1
  unfold conP
  omega
/-- Four cubics are a base of those through six points apart. -/
theorem bas_four {p : Int} {ps : List P3} (hl : ps.length = 6) (h : apartB p ps = true) : (basP p ps).length = 4 := by
  have hp := apart_prime h (by omega)
  have h1 := sj_len hp (cu_len ps) (sj_six hp hl (apart_apt h))
  have h2 := sol_count hp (cu_len ps)
  rw [List.length_map, hl] at h1
  unfold basP
  omega
theorem con_null {p : Int} {ps : List P3} (hp : isPrimeB p = true) {a : P3} {s : List Int} (ha : a ∈ ps) (hs : s ∈ conP p ps) : dotTo s (sqI a) 6 % p = 0 :=
  sol_null hp (sq_len ps) (List.mem_map.2 ⟨a, ha, rfl⟩) hs
theorem bas_null {p : Int} {ps : List P3} (hp : isPrimeB p = true) {a : P3} {s : List Int} (ha : a ∈ ps) (hs : s ∈ basP p ps) : dotTo s (cuI a) 10 % p = 0 :=
  sol_null hp (cu_len ps) (List.mem_map.2 ⟨a, ha, rfl⟩) hs

end Go.Proofs.Ytkhkcgoblibnpaa
