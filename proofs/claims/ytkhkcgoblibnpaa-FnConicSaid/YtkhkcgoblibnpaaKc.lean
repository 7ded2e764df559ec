/-
  Plain laws: a conic with a tangent and no line through a point of it has one point more than the prime tells.
-/
import Derived.Test.YtkhkcgoblibnpaaCount
import Derived.Test.YtkhkcgoblibnpaaGm
namespace Go.Proofs.Ytkhkcgoblibnpaa
set_option linter.unusedVariables false
set_option linter.unusedSimpArgs false

/-! ### Sums of counts -/
def sumR (f : Nat → Nat) : Nat → Nat
  | 0 => 0
  | n + 1 => sumR f n + f n
theorem sumR_congr {f g : Nat → Nat} : ∀ n : Nat, (∀ i, i < n → f i = g i) → sumR f n = sumR g n
  | 0, _ => rfl
  | n + 1, h => by rw [sumR, sumR, sumR_congr n fun i hi => h i (by omega), h n (by omega)]
theorem sumR_add (f g : Nat → Nat) : ∀ n : Nat, sumR (fun i => f i + g i) n = sumR f n + sumR g n
  | 0 => rfl
  | n + 1 => by rw [sumR, sumR, sumR, sumR_add f g n]; omega
theorem sumR_const {f : Nat → Nat} {c : Nat} : ∀ n : Nat, (∀ i, i < n → f i = c) → sumR f n = n * c
  | 0, _ => by rw [sumR, Nat.zero_mul]
  | n + 1, h => by rw [sumR, sumR_const n fun i hi => h i (by omega), h n (by omega), Nat.succ_mul]
theorem sumR_swap (g : Nat → Nat → Nat) (M : Nat) : ∀ N : Nat, sumR (fun y => sumR (fun z => g y z) M) N = sumR (fun z => sumR (fun y => g y z) N) M
  | 0 => by rw [sumR]; exact ((sumR_const M fun i _ => rfl).trans (Nat.mul_zero M)).symm
  | N + 1 => by
    rw [sumR, sumR_swap g M N, ← sumR_add]
    rfl
theorem sumR_split (f : Nat → Nat) (a : Nat) : ∀ n : Nat, a < n → sumR f n = f a + sumR (fun i => if i = a then 0 else f i) n
  | 0, h => by omega
  | n + 1, h => by
    rw [sumR, sumR]
    by_cases e : n = a
    · subst e
      rw [if_pos rfl, sumR_congr (g := fun i => if i = n then 0 else f i) n fun i hi => by rw [if_neg (by omega)]]
      omega
    · rw [if_neg e, sumR_split f a n (by omega)]
      omega
theorem sumR_le {f g : Nat → Nat} : ∀ n : Nat, (∀ i, i < n → f i ≤ g i) → sumR f n ≤ sumR g n
  | 0, _ => Nat.le_refl _
  | n + 1, h => Nat.add_le_add (sumR_le n fun i hi => h i (by omega)) (h n (by omega))
theorem countP_sum (P : Nat → Bool) : ∀ n : Nat, (List.range n).countP P = sumR (fun i => (P i).toNat) n
  | 0 => rfl
  | n + 1 => by
    rw [List.range_succ, List.countP_append, countP_sum P n, sumR]
    cases h : P n <;> simp [h]
theorem count_pts (f : P3 → Bool) (N : Nat) : (allPts N).countP f = ((f (0, 0, 1)).toNat + sumR (fun z => (f (0, 1, (z : Int))).toNat) N) + sumR (fun y => sumR (fun z => (f (1, (y : Int), (z : Int))).toNat) N) N := by
  have hk : ∀ k : Nat, (allTo N k).countP f = ((f (0, 0, 1)).toNat + sumR (fun z => (f (0, 1, (z : Int))).toNat) N) + sumR (fun y => sumR (fun z => (f (1, (y : Int), (z : Int))).toNat) N) k := by
    intro k
    induction k with
    | zero =>
      rw [allTo_zero, allHead, List.countP_cons, List.countP_map, countP_sum, sumR]
      cases h : f (0, 0, 1) <;> simp [Function.comp_def] <;> omega
    | succ k ih =>
      rw [allTo_succ, List.countP_append, ih, rowPts, List.countP_map, countP_sum, sumR]
      simp only [Function.comp_def]
      omega
  exact hk N

/-! ### Numbers modulo a prime -/
def Zp (p a : Int) : Prop := a % p = 0
theorem Zp.of {p a q : Int} (h : a = p * q) : Zp p a := Int.emod_eq_zero_of_dvd ⟨q, h⟩
theorem Zp.out {p a : Int} (h : Zp p a) : ∃ q, a = p * q := Int.dvd_of_emod_eq_zero h
theorem Zp.add {p a b : Int} (h : Zp p a) (k : Zp p b) : Zp p (a + b) := by
  obtain ⟨q, rfl⟩ := h.out; obtain ⟨r, rfl⟩ := k.out; exact Zp.of (Int.mul_add ..).symm
theorem Zp.mul {p a : Int} (c : Int) (h : Zp p a) : Zp p (c * a) := by
  obtain ⟨q, rfl⟩ := h.out; exact Zp.of (Int.mul_left_comm ..)
theorem Zp.eq {p a b : Int} (h : Zp p a) (e : a = b) : Zp p b := e ▸ h
theorem Zp.prime {p a b : Int} (hp : isPrimeB p = true) (h : Zp p (a * b)) (ha : ¬ Zp p a) : Zp p b := prime_mul hp ha h
theorem Zp.self (p q : Int) : Zp p (p * q) := Zp.of rfl
theorem zp_bool {p a b : Int} (h : Zp p a ↔ Zp p b) : (a % p == 0) = (b % p == 0) := by
  rw [Bool.eq_iff_iff, beq_iff_eq, beq_iff_eq]; exact h
theorem zp_yes {p a : Int} (h : Zp p a) : (a % p == 0) = true := beq_iff_eq.2 h
theorem zp_no {p a : Int} (h : ¬ Zp p a) : (a % p == 0) = false := beq_eq_false_iff_ne.2 h
/-- A linear equation has one solution. -/
theorem solve_lin {p : Int} (hp : isPrimeB p = true) (c u : Int) (hu : ¬ Zp p u) : sumR (fun z => ((c + (z : Int) * u) % p == 0).toNat) p.toNat = 1 := by
  have hb := isPrimeB_bd hp
  have h0 : 0 ≤ u % p ∧ u % p < p := ⟨Int.emod_nonneg _ (by omega), Int.emod_lt_of_pos _ (by omega)⟩
  have h1 : u % p ≠ 0 := hu
  rw [← solve_one (c := c) hp (show 0 < u % p by omega) h0.2, countP_sum]
  refine sumR_congr _ fun z _ => ?_
  congr 1
  refine zp_bool ⟨fun h => (h.add (Zp.mul (-(z : Int)) (Zp.self p (u / p)))).eq ?_, fun h => (h.add (Zp.mul (z : Int) (Zp.self p (u / p)))).eq ?_⟩
  · have := Int.mul_ediv_add_emod u p
    generalize u / p = q at *
    generalize u % p = r at *
    subst this
    grind
  · have := Int.mul_ediv_add_emod u p
    generalize u / p = q at *
    generalize u % p = r at *
    subst this
    grind
/-- A count turned by a relation of one to one. -/
theorem reparam {F G : Nat → Bool} (R : Nat → Nat → Bool) (N : Nat) (h1 : ∀ z, z < N → sumR (fun k => (R z k).toNat) N = 1) (h2 : ∀ k, k < N → sumR (fun z => (R z k).toNat) N = 1) (h : ∀ z k, z < N → k < N → R z k = true → F z = G k) :
    sumR (fun z => (F z).toNat) N = sumR (fun k => (G k).toNat) N := by
  have e1 : sumR (fun z => (F z).toNat) N = sumR (fun z => sumR (fun k => (R z k && F z).toNat) N) N := by
    refine sumR_congr _ fun z hz => ?_
    cases hf : F z
    · rw [sumR_const (c := 0) N fun k _ => by simp]; simp
    · simp only [Bool.and_true]; exact (h1 z hz).symm
  have e2 : sumR (fun k => (G k).toNat) N = sumR (fun k => sumR (fun z => (R z k && G k).toNat) N) N := by
    refine sumR_congr _ fun k hk => ?_
    cases hf : G k
    · rw [sumR_const (c := 0) N fun k _ => by simp]; simp
    · simp only [Bool.and_true]; exact (h2 k hk).symm
  rw [e1, e2, sumR_swap]
  refine sumR_congr _ fun k hk => sumR_congr _ fun z hz => ?_
  cases hr : R z k
  · rfl
  · rw [h z k hz hk hr]

/-- Of y unlike y0: how often e + (y - y0) * g is 0. -/
def offs (p e g : Int) (y0 N : Nat) : Nat := sumR (fun y => if y = y0 then 0 else ((e + ((y : Int) - y0) * g) % p == 0).toNat) N
theorem offs_law {p e g : Int} {y0 : Nat} (hp : isPrimeB p = true) (h0 : y0 < p.toNat) (hn : ¬ (Zp p e ∧ Zp p g)) : (g % p == 0).toNat + offs p e g y0 p.toNat + (e % p == 0).toNat = 1 := by
  by_cases hg : Zp p g
  · have he : ¬ Zp p e := fun h => hn ⟨h, hg⟩
    rw [zp_yes hg, zp_no he, offs, sumR_const (c := 0) _ fun y _ => by
      split
      · rfl
      · rw [zp_no fun h => he ((h.add (hg.mul (-((y : Int) - y0)))).eq (by grind))]; rfl]
    simp
  · have h1 := solve_lin hp (e - y0 * g) g hg
    rw [sumR_split _ y0 _ h0] at h1
    rw [zp_no hg, offs]
    have e1 : (e - (y0 : Int) * g + (y0 : Int) * g) = e := by omega
    rw [e1] at h1
    have e2 : sumR (fun y => if y = y0 then 0 else ((e - (y0 : Int) * g + (y : Int) * g) % p == 0).toNat) p.toNat = sumR (fun y => if y = y0 then 0 else ((e + ((y : Int) - y0) * g) % p == 0).toNat) p.toNat := by
      refine sumR_congr _ fun y _ => ?_
      rw [show e - (y0 : Int) * g + (y : Int) * g = e + ((y : Int) - y0) * g by grind]
    rw [e2] at h1
    simp only [Bool.toNat_false]
    omega

def cq (c0 c1 c2 c3 c4 c5 x y z : Int) : Int := c0 * x * x + c1 * x * y + c2 * x * z + c3 * y * y + c4 * y * z + c5 * z * z
theorem cq_at (c0 c1 c2 c3 c4 c5 a1 a2 x s t : Int) : cq c0 c1 c2 c3 c4 c5 x (a1 * x + s) (a2 * x + t) = x * x * cq c0 c1 c2 c3 c4 c5 1 a1 a2 + x * ((c1 + 2 * c3 * a1 + c4 * a2) * s + (c2 + c4 * a1 + 2 * c5 * a2) * t) + (c3 * s * s + c4 * s * t + c5 * t * t) := by
  unfold cq; grind
/-- A conic through (1, a1, a2), with a tangent (l1, l2) there, of which no direction lies in it. -/
theorem conic_count {p c0 c1 c2 c3 c4 c5 l1 l2 : Int} {a1 a2 : Nat} (hp : isPrimeB p = true) (h1 : a1 < p.toNat) (h2 : a2 < p.toNat) (hl1 : l1 = c1 + 2 * c3 * a1 + c4 * a2) (hl2 : l2 = c2 + c4 * a1 + 2 * c5 * a2)
    (ha : Zp p (cq c0 c1 c2 c3 c4 c5 1 a1 a2)) (hl : ¬ (Zp p l1 ∧ Zp p l2)) (hk : ∀ k : Int, ¬ (Zp p (l1 + k * l2) ∧ Zp p (c3 + c4 * k + c5 * k * k))) (hi : ¬ (Zp p l2 ∧ Zp p c5)) :
    (allPts p.toNat).countP (fun a => cq c0 c1 c2 c3 c4 c5 a.1 a.2.1 a.2.2 % p == 0) = p.toNat + 1 := by
  have hb := isPrimeB_bd hp
  rw [count_pts]
  -- the line at infinity
  have i1 : (cq c0 c1 c2 c3 c4 c5 0 0 1 % p == 0) = (c5 % p == 0) := by rw [show cq c0 c1 c2 c3 c4 c5 0 0 1 = c5 by unfold cq; grind]
  have i2 : sumR (fun z => (cq c0 c1 c2 c3 c4 c5 0 1 (z : Int) % p == 0).toNat) p.toNat = sumR (fun k => ((c3 + c4 * (k : Int) + c5 * k * k) % p == 0).toNat) p.toNat := sumR_congr _ fun z _ => by
    rw [show cq c0 c1 c2 c3 c4 c5 0 1 (z : Int) = c3 + c4 * (z : Int) + c5 * z * z by unfold cq; grind]
  -- the row of a1
  have i3 : sumR (fun z => (cq c0 c1 c2 c3 c4 c5 1 (a1 : Int) (z : Int) % p == 0).toNat) p.toNat = 1 + offs p l2 c5 a2 p.toNat := by
    rw [sumR_split _ a2 _ h2, zp_yes ha]
    congr 1
    refine sumR_congr _ fun z hz => ?_
    by_cases e : z = a2
    · rw [if_pos e, if_pos e]
    · rw [if_neg e, if_neg e]
      congr 1
      have hu : ¬ Zp p ((z : Int) - a2) := fun h => e (by
        have := small_zero h (by omega) (by omega)
        omega)
      have hc := cq_at c0 c1 c2 c3 c4 c5 a1 a2 1 0 ((z : Int) - a2)
      rw [show (a1 : Int) * 1 + 0 = a1 by omega, show (a2 : Int) * 1 + (z - a2) = z by omega] at hc
      refine zp_bool ⟨fun h => Zp.prime hp (a := (z : Int) - a2) ((h.add (ha.mul (-1))).eq ?_) hu, fun h => ((h.mul ((z : Int) - a2)).add (ha.mul 1)).eq ?_⟩
      · rw [hc, hl2]; grind
      · rw [hc, hl2]; grind
  -- the other rows
  have i4 : ∀ y, y < p.toNat → y ≠ a1 → sumR (fun z => (cq c0 c1 c2 c3 c4 c5 1 (y : Int) (z : Int) % p == 0).toNat) p.toNat = sumR (fun k => ((l1 + (k : Int) * l2 + ((y : Int) - a1) * (c3 + c4 * k + c5 * k * k)) % p == 0).toNat) p.toNat := fun y hy hne => by
    have hu : ¬ Zp p ((y : Int) - a1) := fun h => hne (by
      have := small_zero h (by omega) (by omega)
      omega)
    refine reparam (fun z k => (((a2 : Int) - z + k * ((y : Int) - a1)) % p == 0)) p.toNat (fun z _ => solve_lin hp _ _ hu) (fun k _ => ?_) (fun z k hz hk hr => ?_)
    · have := solve_lin hp ((a2 : Int) + k * ((y : Int) - a1)) (-1) (by
        have := neg_unit hp
        exact this)
      rw [← this]
      refine sumR_congr _ fun z _ => ?_
      rw [show (a2 : Int) - z + k * ((y : Int) - a1) = a2 + k * ((y : Int) - a1) + z * (-1) by omega]
    · have hr : Zp p ((a2 : Int) - z + k * ((y : Int) - a1)) := beq_iff_eq.1 hr
      obtain ⟨j, hj⟩ := hr.out
      have hc := cq_at c0 c1 c2 c3 c4 c5 a1 a2 1 ((y : Int) - a1) (k * ((y : Int) - a1) - p * j)
      rw [show (a1 : Int) * 1 + (y - a1) = y by omega, show (a2 : Int) * 1 + (k * ((y : Int) - a1) - p * j) = z by omega] at hc
      have hs : ∀ S T : Int, cq c0 c1 c2 c3 c4 c5 1 (y : Int) z = cq c0 c1 c2 c3 c4 c5 1 a1 a2 + ((y : Int) - a1) * (l1 + (k : Int) * l2 + ((y : Int) - a1) * (c3 + c4 * k + c5 * k * k)) + p * (-(l2 * j) - c4 * ((y : Int) - a1) * j - 2 * c5 * (k * ((y : Int) - a1)) * j + c5 * p * j * j) := fun _ _ => by
        rw [hc, hl1, hl2]; grind
      have hs := hs 0 0
      generalize (-(l2 * j) - c4 * ((y : Int) - a1) * j - 2 * c5 * (k * ((y : Int) - a1)) * j + c5 * p * j * j) = q at hs
      refine zp_bool ⟨fun h => Zp.prime hp (a := (y : Int) - a1) (((h.add (ha.mul (-1))).add (Zp.self p (-q))).eq ?_) hu, fun h => (((h.mul ((y : Int) - a1)).add (ha.mul 1)).add (Zp.self p q)).eq ?_⟩
      · rw [hs]; grind
      · rw [hs]; grind
  have i5 : sumR (fun y => sumR (fun z => (cq c0 c1 c2 c3 c4 c5 1 (y : Int) (z : Int) % p == 0).toNat) p.toNat) p.toNat = (1 + offs p l2 c5 a2 p.toNat) + sumR (fun k => offs p (l1 + (k : Int) * l2) (c3 + c4 * k + c5 * k * k) a1 p.toNat) p.toNat := by
    rw [sumR_split _ a1 _ h1, i3]
    congr 1
    unfold offs
    rw [← sumR_swap]
    refine sumR_congr _ fun y hy => ?_
    by_cases e : y = a1
    · rw [if_pos e, sumR_const (c := 0) _ fun k _ => if_pos e]; omega
    · rw [if_neg e, i4 y hy e]
      exact sumR_congr _ fun k _ => (if_neg e).symm
  have i6 := offs_law hp h2 hi
  have i7 : sumR (fun k => ((c3 + c4 * (k : Int) + c5 * k * k) % p == 0).toNat) p.toNat + sumR (fun k => offs p (l1 + (k : Int) * l2) (c3 + c4 * k + c5 * k * k) a1 p.toNat) p.toNat + sumR (fun k => ((l1 + (k : Int) * l2) % p == 0).toNat) p.toNat = p.toNat * 1 := by
    rw [← sumR_add, ← sumR_add]
    exact sumR_const _ fun k _ => offs_law hp h1 (hk k)
  have i8 : sumR (fun k => ((l1 + (k : Int) * l2) % p == 0).toNat) p.toNat + (l2 % p == 0).toNat = 1 := by
    by_cases hz : Zp p l2
    · have hz1 : ¬ Zp p l1 := fun h => hl ⟨h, hz⟩
      rw [zp_yes hz, sumR_const (c := 0) _ fun k _ => by rw [zp_no fun h => hz1 ((h.add (hz.mul (-(k : Int)))).eq (by grind))]; rfl]
      simp
    · rw [solve_lin hp _ _ hz, zp_no hz]; rfl
  simp only [i1, i2, i5]
  omega

/-! ### Five points apart -/
theorem collin {p : Int} {M b c d : P3} (hp : isPrimeB p = true) (hM : ¬ (Zp p M.1 ∧ Zp p M.2.1 ∧ Zp p M.2.2)) (hb : Zp p (dt M b)) (hc : Zp p (dt M c)) (hd : Zp p (dt M d)) : Zp p (det3 b c d) := by
  obtain ⟨m0, m1, m2⟩ := M
  obtain ⟨b0, b1, b2⟩ := b
  obtain ⟨c0, c1, c2⟩ := c
  obtain ⟨d0, d1, d2⟩ := d
  simp only [dt] at hb hc hd hM
  by_cases e0 : Zp p m0
  · by_cases e1 : Zp p m1
    · by_cases e2 : Zp p m2
      · exact absurd ⟨e0, e1, e2⟩ hM
      · refine Zp.prime hp ((((hb.mul (c0 * d1 - c1 * d0)).add (hc.mul (d0 * b1 - d1 * b0))).add (hd.mul (b0 * c1 - b1 * c0))).eq ?_) e2
        simp only [det3]; grind
    · refine Zp.prime hp ((((hb.mul (c2 * d0 - c0 * d2)).add (hc.mul (d2 * b0 - d0 * b2))).add (hd.mul (b2 * c0 - b0 * c2))).eq ?_) e1
      simp only [det3]; grind
  · refine Zp.prime hp ((((hb.mul (c1 * d2 - c2 * d1)).add (hc.mul (d1 * b2 - d2 * b1))).add (hd.mul (b1 * c2 - b2 * c1))).eq ?_) e0
    simp only [det3]; grind
theorem pigeon {M N : Nat → Prop} (h : ∀ i, i < 5 → M i ∨ N i) (hM : ∀ i j k, i < j → j < k → k < 5 → M i → M j → M k → False) (hN : ∀ i j k, i < j → j < k → k < 5 → N i → N j → N k → False) : False := by
  have m012 := hM 0 1 2 (by omega) (by omega) (by omega)
  have m013 := hM 0 1 3 (by omega) (by omega) (by omega)
  have m014 := hM 0 1 4 (by omega) (by omega) (by omega)
  have m023 := hM 0 2 3 (by omega) (by omega) (by omega)
  have m024 := hM 0 2 4 (by omega) (by omega) (by omega)
  have m034 := hM 0 3 4 (by omega) (by omega) (by omega)
  have m123 := hM 1 2 3 (by omega) (by omega) (by omega)
  have m124 := hM 1 2 4 (by omega) (by omega) (by omega)
  have m134 := hM 1 3 4 (by omega) (by omega) (by omega)
  have m234 := hM 2 3 4 (by omega) (by omega) (by omega)
  have n012 := hN 0 1 2 (by omega) (by omega) (by omega)
  have n013 := hN 0 1 3 (by omega) (by omega) (by omega)
  have n014 := hN 0 1 4 (by omega) (by omega) (by omega)
  have n023 := hN 0 2 3 (by omega) (by omega) (by omega)
  have n024 := hN 0 2 4 (by omega) (by omega) (by omega)
  have n034 := hN 0 3 4 (by omega) (by omega) (by omega)
  have n123 := hN 1 2 3 (by omega) (by omega) (by omega)
  have n124 := hN 1 2 4 (by omega) (by omega) (by omega)
  have n134 := hN 1 3 4 (by omega) (by omega) (by omega)
  have n234 := hN 2 3 4 (by omega) (by omega) (by omega)
  rcases h 0 (by omega) with h0 | h0 <;> rcases h 1 (by omega) with h1 | h1 <;> rcases h 2 (by omega) with h2 | h2 <;> rcases h 3 (by omega) with h3 | h3 <;> rcases h 4 (by omega) with h4 | h4 <;>
    first
    | exact m012 h0 h1 h2 | exact m013 h0 h1 h3 | exact m014 h0 h1 h4 | exact m023 h0 h2 h3 | exact m024 h0 h2 h4 | exact m034 h0 h3 h4 | exact m123 h1 h2 h3 | exact m124 h1 h2 h4 | exact m134 h1 h3 h4 | exact m234 h2 h3 h4
    | exact n012 h0 h1 h2 | exact n013 h0 h1 h3 | exact n014 h0 h1 h4 | exact n023 h0 h2 h3 | exact n024 h0 h2 h4 | exact n034 h0 h3 h4 | exact n123 h1 h2 h3 | exact n124 h1 h2 h4 | exact n134 h1 h3 h4 | exact n234 h2 h3 h4
/-- Five points apart do not lie on two lines. -/
theorem two_lines {p : Int} {ps : List P3} {M N : P3} (hp : isPrimeB p = true) (hl : ps.length = 5) (ha : Apt p ps) (hM : ¬ (Zp p M.1 ∧ Zp p M.2.1 ∧ Zp p M.2.2)) (hN : ¬ (Zp p N.1 ∧ Zp p N.2.1 ∧ Zp p N.2.2)) (h : ∀ a ∈ ps, Zp p (dt M a * dt N a)) : False := by
  refine pigeon (M := fun i => Zp p (dt M (ps.getD i default))) (N := fun i => Zp p (dt N (ps.getD i default))) (fun i hi => ?_) (fun i j k hij hjk hk h1 h2 h3 => ?_) (fun i j k hij hjk hk h1 h2 h3 => ?_)
  · by_cases e : Zp p (dt M (ps.getD i default))
    · exact .inl e
    · exact .inr (Zp.prime hp (h _ (getD_mem (by omega))) e)
  · exact ha i j k (by omega) (by omega) (by omega) (by omega) (by omega) (by omega) (collin hp hM h1 h2 h3)
  · exact ha i j k (by omega) (by omega) (by omega) (by omega) (by omega) (by omega) (collin hp hN h1 h2 h3)
theorem one_np {p : Int} (hp : isPrimeB p = true) : ¬ Zp p 1 := fun h => by
  have hb := isPrimeB_bd hp
  have : (1 : Int) % p = 0 := h
  rw [Int.emod_eq_of_lt (by omega) (by omega)] at this
  omega
theorem first_one {p : Int} {ps : List P3} (hl : ps.length = 5) (ha : Apt p ps) (hpt : ∀ a ∈ ps, ptOk p a = true) : ∃ i, i < 3 ∧ (ps.getD i default).1 = 1 := by
  have hz : ∀ i, i < 3 → (ps.getD i default).1 = 1 ∨ (ps.getD i default).1 = 0 := fun i hi => by
    have := (point_parts (hpt _ (getD_mem (d := default) (show i < ps.length by omega)))).2.2.2.2
    rcases monic3 this with h | h | h
    · exact .inl h
    · exact .inr h.1
    · exact .inr h.1
  rcases hz 0 (by omega) with h0 | h0
  · exact ⟨0, by omega, h0⟩
  rcases hz 1 (by omega) with h1 | h1
  · exact ⟨1, by omega, h1⟩
  rcases hz 2 (by omega) with h2 | h2
  · exact ⟨2, by omega, h2⟩
  · exfalso
    refine ha 0 1 2 (by omega) (by omega) (by omega) (by omega) (by omega) (by omega) ?_
    rw [show det3 (ps.getD 0 default) (ps.getD 1 default) (ps.getD 2 default) = 0 by unfold det3; rw [h0, h1, h2]; grind, Int.zero_emod]
theorem conic_five {p c0 c1 c2 c3 c4 c5 : Int} {ps : List P3} (hl : ps.length = 5) (hap : apartB p ps = true) (hq : ∀ a ∈ ps, Zp p (cq c0 c1 c2 c3 c4 c5 a.1 a.2.1 a.2.2)) (hne : ¬ (Zp p c0 ∧ Zp p c1 ∧ Zp p c2 ∧ Zp p c3 ∧ Zp p c4 ∧ Zp p c5)) :
    (allPts p.toNat).countP (fun a => cq c0 c1 c2 c3 c4 c5 a.1 a.2.1 a.2.2 % p == 0) = p.toNat + 1 := by
  have hp := apart_prime hap (by omega)
  have hb := isPrimeB_bd hp
  have ha := apart_apt hap
  have hpt := apart_pt hap
  obtain ⟨i, hi, h1⟩ := first_one hl ha hpt
  have hm : ps.getD i default ∈ ps := getD_mem (by omega)
  have hqa := hq _ hm
  have hbd := ptOk_bd (hpt _ hm)
  obtain ⟨j, k, hj, hk, hij, hik, hjk⟩ : ∃ j k, j < 5 ∧ k < 5 ∧ i ≠ j ∧ i ≠ k ∧ j ≠ k := ⟨3, 4, by omega, by omega, by omega, by omega, by omega⟩
  have hdet := ha i j k (by omega) (by omega) (by omega) hij hik hjk
  have hqb := hq _ (getD_mem (d := default) (show j < ps.length by omega))
  generalize ps.getD i default = A at *
  generalize ps.getD j default = B at *
  generalize ps.getD k default = C at *
  obtain ⟨a0, a1, a2⟩ := A
  obtain ⟨b0, b1, b2⟩ := B
  obtain ⟨e0, e1, e2⟩ := C
  simp only at h1 hqa hqb hbd
  subst h1
  obtain ⟨l1, hl1⟩ : ∃ l1, l1 = c1 + 2 * c3 * a1 + c4 * a2 := ⟨_, rfl⟩
  obtain ⟨l2, hl2⟩ : ∃ l2, l2 = c2 + c4 * a1 + 2 * c5 * a2 := ⟨_, rfl⟩
  -- no direction lies in the conic
  have hK : ∀ k : Int, ¬ (Zp p (l1 + k * l2) ∧ Zp p (c3 + c4 * k + c5 * k * k)) := fun k ⟨z1, z2⟩ => by
    refine two_lines (M := (k * a1 - a2, -k, 1)) (N := (l2 - (c4 + c5 * k) * a1 - c5 * a2, c4 + c5 * k, c5)) hp hl ha (fun h => one_np hp h.2.2) (fun ⟨n0, n1, n2⟩ => ?_) (fun q hqm => ?_)
    · simp only at n0 n1 n2
      have y4 : Zp p c4 := (n1.add (n2.mul (-k))).eq (by grind)
      have y3 : Zp p c3 := (((z2.add (y4.mul (-k))).add (n2.mul (-(k * k))))).eq (by grind)
      have yl2 : Zp p l2 := ((n0.add (n1.mul a1)).add (n2.mul a2)).eq (by grind)
      have yl1 : Zp p l1 := (z1.add (yl2.mul (-k))).eq (by grind)
      have y1 : Zp p c1 := ((yl1.add (y3.mul (-(2 * a1)))).add (y4.mul (-a2))).eq (by rw [hl1]; grind)
      have y2 : Zp p c2 := ((yl2.add (y4.mul (-a1))).add (n2.mul (-(2 * a2)))).eq (by rw [hl2]; grind)
      have y0 : Zp p c0 := (((((hqa.add (y1.mul (-a1))).add (y2.mul (-a2))).add (y3.mul (-(a1 * a1)))).add (y4.mul (-(a1 * a2)))).add (n2.mul (-(a2 * a2)))).eq (by unfold cq; grind)
      exact hne ⟨y0, y1, y2, y3, y4, n2⟩
    · obtain ⟨x, y, z⟩ := q
      have hz := hq _ hqm
      simp only at hz
      refine ((((hz.add (hqa.mul (-(x * x)))).add (z1.mul (-(x * (y - a1 * x))))).add (z2.mul (-((y - a1 * x) * (y - a1 * x)))))).eq ?_
      rw [hl1, hl2]
      simp only [dt, cq]
      grind
  have hI : ¬ (Zp p l2 ∧ Zp p c5) := fun ⟨z1, z2⟩ => by
    refine two_lines (M := (-a1, 1, 0)) (N := (l1 - c3 * a1 - c4 * a2, c3, c4)) hp hl ha (fun h => one_np hp h.2.1) (fun ⟨n0, n1, n2⟩ => ?_) (fun q hqm => ?_)
    · simp only at n0 n1 n2
      have yl1 : Zp p l1 := ((n0.add (n1.mul a1)).add (n2.mul a2)).eq (by grind)
      have y1 : Zp p c1 := ((yl1.add (n1.mul (-(2 * a1)))).add (n2.mul (-a2))).eq (by rw [hl1]; grind)
      have y2 : Zp p c2 := ((z1.add (n2.mul (-a1))).add (z2.mul (-(2 * a2)))).eq (by rw [hl2]; grind)
      have y0 : Zp p c0 := (((((hqa.add (y1.mul (-a1))).add (y2.mul (-a2))).add (n1.mul (-(a1 * a1)))).add (n2.mul (-(a1 * a2)))).add (z2.mul (-(a2 * a2)))).eq (by unfold cq; grind)
      exact hne ⟨y0, y1, y2, n1, n2, z2⟩
    · obtain ⟨x, y, z⟩ := q
      have hz := hq _ hqm
      simp only at hz
      refine ((((hz.add (hqa.mul (-(x * x)))).add (z1.mul (-(x * (z - a2 * x))))).add (z2.mul (-((z - a2 * x) * (z - a2 * x)))))).eq ?_
      rw [hl1, hl2]
      simp only [dt, cq]
      grind
  have hL : ¬ (Zp p l1 ∧ Zp p l2) := fun ⟨z1, z2⟩ => by
    obtain ⟨s, hs⟩ : ∃ s, b1 = a1 * b0 + s := ⟨b1 - a1 * b0, by omega⟩
    obtain ⟨t, ht⟩ : ∃ t, b2 = a2 * b0 + t := ⟨b2 - a2 * b0, by omega⟩
    subst hs ht
    rw [cq_at] at hqb
    have hz : Zp p (c3 * s * s + c4 * s * t + c5 * t * t) := (((hqb.add (hqa.mul (-(b0 * b0)))).add (z1.mul (-(b0 * s)))).add (z2.mul (-(b0 * t)))).eq (by rw [hl1, hl2]; grind)
    by_cases es : Zp p s
    · by_cases et : Zp p t
      · refine hdet (((es.mul (e2 - a2 * e0)).add (et.mul (a1 * e0 - e1))).eq ?_)
        simp only [det3]; grind
      · exact hI ⟨z2, Zp.prime hp (a := t) (Zp.prime hp (a := t) (((hz.add (es.mul (-(c3 * s))))).add (es.mul (-(c4 * t))) |>.eq (by grind)) et) et⟩
    · obtain ⟨u, hu⟩ := unit_inv hp (a := s) es
      have hu : Zp p (s * u - 1) := hu
      obtain ⟨m, hm⟩ := hu.out
      refine hK (t * u) ⟨(z1.add (z2.mul (t * u))).eq (by grind), Zp.prime hp (a := s) (Zp.prime hp (a := s) ?_ es) es⟩
      refine (hz.add (Zp.self p (m * (c4 * s * t + c5 * t * t * (s * u + 1))))).eq ?_
      have : s * u = 1 + p * m := by omega
      grind
  have := conic_count (a1 := a1.toNat) (a2 := a2.toNat) (l1 := l1) (l2 := l2) (c0 := c0) (c1 := c1) (c2 := c2) (c3 := c3) (c4 := c4) (c5 := c5) hp (by omega) (by omega)
  rw [show ((a1.toNat : Nat) : Int) = a1 by omega, show ((a2.toNat : Nat) : Int) = a2 by omega] at this
  exact this hl1 hl2 hqa hL hK hI

/-! ### The conic of five points -/
/-- The value of a conic at a point. -/
def qAt (Q : List Int) (a : P3) : Int := cq (Q.getD 0 0) (Q.getD 1 0) (Q.getD 2 0) (Q.getD 3 0) (Q.getD 4 0) (Q.getD 5 0) a.1 a.2.1 a.2.2
def onC (p : Int) (Q : List Int) (a : P3) : Bool := qAt Q a % p == 0
theorem dot_sqI (Q : List Int) (a : P3) : dotTo Q (sqI a) 6 = qAt Q a := by
  simp only [dotTo, sqI, List.getD_cons_zero, List.getD_cons_succ, qAt, cq]
  grind
theorem conic_law {p : Int} {ps : List P3} (h : pcB p ps = true) : Rg p 6 (pcP p ps) ∧ (∀ a ∈ ps, onC p (pcP p ps) a = true) ∧ (allPts p.toNat).countP (onC p (pcP p ps)) = p.toNat + 1 := by
  obtain ⟨hl, hap⟩ := pcB_parts h
  have hp := apart_prime hap (by omega)
  have hb := isPrimeB_bd hp
  have h1 := con_one hl hap
  have hP : pcP p ps = (conP p ps).getD 0 [] := by rw [pcP, h]; rfl
  have hs : (conP p ps).getD 0 [] ∈ conP p ps := getD_mem (by omega)
  have hz : ∀ a ∈ ps, qAt (pcP p ps) a % p = 0 := fun a ha => by rw [← dot_sqI, hP]; exact con_null hp ha hs
  refine ⟨by rw [hP]; exact (solP_rows hp _).2 _ hs, fun a ha => beq_iff_eq.2 (hz a ha), ?_⟩
  obtain ⟨c, hc, e⟩ := sol_head (wd := 6) hp (ps.map sqI) (i := 0) (by rw [show solP p 6 (ps.map sqI) = conP p ps from rfl, h1]; omega)
  rw [show solP p 6 (ps.map sqI) = conP p ps from rfl, ← hP] at e
  refine conic_five hl hap hz fun ⟨y0, y1, y2, y3, y4, y5⟩ => one_np hp ?_
  match c, hc with
  | 0, _ => rw [e] at y0; exact y0
  | 1, _ => rw [e] at y1; exact y1
  | 2, _ => rw [e] at y2; exact y2
  | 3, _ => rw [e] at y3; exact y3
  | 4, _ => rw [e] at y4; exact y4
  | 5, _ => rw [e] at y5; exact y5

/-! ### How many of the points a list has -/
def hits (ps : List P3) (a : P3) : Nat := ps.countP (fun q => ((q.1 == a.1 && q.2.1 == a.2.1) && q.2.2 == a.2.2))
theorem same3 (q a : P3) : (((q.1 == a.1 && q.2.1 == a.2.1) && q.2.2 == a.2.2) = true) ↔ q = a := by
  obtain ⟨q0, q1, q2⟩ := q
  obtain ⟨a0, a1, a2⟩ := a
  simp [and_assoc]
def hasTo (f : P3 → Bool) (ps all : List P3) : Nat → Nat := sumR (fun j => if f (all.getD j default) then hits ps (all.getD j default) else 0)
theorem has_all {f : P3 → Bool} {all : List P3} (hn : all.Nodup) : ∀ ps : List P3, (∀ a ∈ ps, a ∈ all) → sumR (fun j => hits ps (all.getD j default)) all.length = ps.length
  | [], _ => sumR_const _ (fun _ _ => rfl)
  | q :: ps, h => by
    have e : sumR (fun j => hits (q :: ps) (all.getD j default)) all.length = sumR (fun j => hits ps (all.getD j default) + (((q.1 == (all.getD j default).1 && q.2.1 == (all.getD j default).2.1) && q.2.2 == (all.getD j default).2.2)).toNat) all.length := sumR_congr _ fun j _ => by
      rw [hits, List.countP_cons]
      cases ((q.1 == (all.getD j default).1 && q.2.1 == (all.getD j default).2.1) && q.2.2 == (all.getD j default).2.2) <;> rfl
    rw [e, sumR_add, has_all (f := f) hn ps fun a ha => h a (List.mem_cons_of_mem _ ha), List.length_cons]
    congr 1
    obtain ⟨i, hi, hq⟩ := List.getElem_of_mem (h q (List.mem_cons_self ..))
    have hgi : ∀ j (hj : j < all.length), all.getD j default = all[j] := fun j hj => by simp [List.getD_eq_getElem?_getD, List.getElem?_eq_getElem hj]
    rw [sumR_split _ i _ hi, sumR_const (c := 0) _ fun j hj => by
      by_cases e : j = i
      · rw [if_pos e]
      · rw [if_neg e]
        cases hc : ((q.1 == (all.getD j default).1 && q.2.1 == (all.getD j default).2.1) && q.2.2 == (all.getD j default).2.2)
        · rfl
        · exfalso
          have h2 := (same3 q _).1 hc
          rw [hgi j hj, ← hq] at h2
          rcases Nat.lt_or_gt_of_ne e with hl | hl
          · exact List.pairwise_iff_getElem.1 hn j i hj hi hl h2.symm
          · exact List.pairwise_iff_getElem.1 hn i j hi hj hl h2]
    rw [(same3 q _).2 (by rw [hgi i hi, hq])]
    simp
theorem has_five {f : P3 → Bool} {all ps : List P3} (hn : all.Nodup) (hm : ∀ a ∈ ps, a ∈ all) (hf : ∀ a ∈ ps, f a = true) : hasTo f ps all all.length = ps.length := by
  rw [← has_all (f := f) hn ps hm]
  refine sumR_congr _ fun j _ => ?_
  by_cases h : f (all.getD j default) = true
  · rw [if_pos h]
  · rw [if_neg h]
    symm
    refine List.countP_eq_zero.2 fun q hq hc => ?_
    rw [← (same3 q _).1 hc] at h
    exact h (hf q hq)
theorem hits_le (ps : List P3) (a : P3) : hits ps a ≤ ps.length := List.countP_le_length
theorem has_le (f : P3 → Bool) (ps all : List P3) (k : Nat) : hasTo f ps all k ≤ k * ps.length := by
  rw [← sumR_const (f := fun _ => ps.length) k fun _ _ => rfl]
  refine sumR_le _ fun j _ => ?_
  split
  · exact hits_le _ _
  · omega
theorem point_all {p : Int} {a : P3} (h : ptOk p a = true) : a ∈ allPts p.toNat := by
  obtain ⟨hp, h0, h1, h2, hm⟩ := point_parts h
  obtain ⟨x, y, z⟩ := a
  simp only at h0 h1 h2 hm
  have hk : ∀ k : Nat, ∀ y z : Nat, y < k → z < p.toNat → ((1, (y : Int), (z : Int)) : P3) ∈ allTo p.toNat k := fun k y z hy hz => by
    rw [allTo, List.mem_append]
    exact .inr (List.mem_flatMap.2 ⟨y, List.mem_range.2 hy, List.mem_map.2 ⟨z, List.mem_range.2 hz, rfl⟩⟩)
  rcases monic3 hm with rfl | ⟨rfl, rfl⟩ | ⟨rfl, rfl, rfl⟩
  · have := hk p.toNat y.toNat z.toNat (by omega) (by omega)
    rw [show ((y.toNat : Nat) : Int) = y by omega, show ((z.toNat : Nat) : Int) = z by omega] at this
    exact this
  · rw [allPts, allTo, List.mem_append, allHead]
    exact .inl (List.mem_cons_of_mem _ (List.mem_map.2 ⟨z.toNat, List.mem_range.2 (by omega), by rw [show ((z.toNat : Nat) : Int) = z by omega]⟩))
  · rw [allPts, allTo, List.mem_append, allHead]
    exact .inl (List.mem_cons_self ..)
theorem takeP (f : P3 → Bool) (ps : List P3) (k : Nat) (h : k < ps.length) : (ps.take (k + 1)).countP f = (ps.take k).countP f + if f (ps.getD k default) then 1 else 0 := by
  rw [List.take_succ_eq_append_getElem h, List.countP_append]
  simp [List.getD_eq_getElem?_getD, List.getElem?_eq_getElem h, List.countP_cons]

end Go.Proofs.Ytkhkcgoblibnpaa
