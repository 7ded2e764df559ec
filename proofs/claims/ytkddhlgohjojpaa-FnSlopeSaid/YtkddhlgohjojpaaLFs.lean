/-
  The slope of a drawn cubic towards a point itself is three times its value.
-/
import Derived.Test.YtkddhlgohjojpaaDs
import Derived.Test.YtkddhlgohjojpaaCs
import Derived.Test.YtkddhlgohjojpaaCv
namespace Go.Proofs.Ytkddhlgohjojpaa
open Go.RowKit
set_option linter.unusedVariables false
set_option linter.unusedSimpArgs false

theorem euler_at (f x y z : Int) (fs : List Int) (k : Nat) (hk : k < 10) (hf : fs.getD k 0 = f) : dT fs x y z x y z k 3 = 3 * (f * cubeI x y z k) := by
  have h : ∀ j, k = j → dT fs x y z x y z k 3 = 3 * (f * cubeI x y z k) := by
    intro j hj
    subst hj
    show 0 + slTerm fs x y z 0 k * x + slTerm fs x y z 1 k * y + slTerm fs x y z 2 k * z = _
    unfold slTerm
    rw [hf]
    match k, hk with
    | 0, _ => simp [eD, dE, exN, cubeI]; grind
    | 1, _ => simp [eD, dE, exN, cubeI]; grind
    | 2, _ => simp [eD, dE, exN, cubeI]; grind
    | 3, _ => simp [eD, dE, exN, cubeI]; grind
    | 4, _ => simp [eD, dE, exN, cubeI]; grind
    | 5, _ => simp [eD, dE, exN, cubeI]; grind
    | 6, _ => simp [eD, dE, exN, cubeI]; grind
    | 7, _ => simp [eD, dE, exN, cubeI]; grind
    | 8, _ => simp [eD, dE, exN, cubeI]; grind
    | 9, _ => simp [eD, dE, exN, cubeI]; grind
  exact h k rfl
theorem euler (fs : List Int) (x y z : Int) (k : Nat) (hk : k ≤ 10) : sT fs x y z x y z k = 3 * dotTo fs (cubesTo x y z 10) k := by
  induction k with
  | zero => rfl
  | succ k ih =>
    rw [sT, dotTo, ih (by omega), euler_at _ x y z fs k (by omega) rfl, cubesTo_get _ _ _ 10 k (by omega), Int.mul_add]
theorem slope_law {p : Int} {fs : List Int} {x y z l m n : Int} (h : csB p fs x y z l m n = true) :
    csB p fs x y z x y z = true ∧ cvB p fs x y z = true ∧ csV p fs x y z x y z = 3 * cvV p fs x y z % p ∧ 0 ≤ csV p fs x y z l m n ∧ csV p fs x y z l m n < p ∧ 7 ≤ p ∧ p ≤ 31 ∧ 0 ≤ cvV p fs x y z ∧ cvV p fs x y z < p := by
  have hq := h
  rw [csB, Bool.and_eq_true, Bool.and_eq_true] at hq
  obtain ⟨⟨hn, hpt⟩, _⟩ := hq
  have hp : isPrimeB p = true := by simp [specNumbersB] at hn; exact hn.2.1
  have hb := isPrimeB_bd hp
  have hS : csB p fs x y z x y z = true := by rw [csB, hn, hpt]; rfl
  have hV : cvB p fs x y z = true := by rw [cvB, hn, hpt]; rfl
  have hr := @rem_rng' p (sT fs x y z l m n 10) (by omega)
  have hr2 := @rem_rng' p (dotTo fs (cubesTo x y z 10) 10) (by omega)
  refine ⟨hS, hV, ?_, ?_, ?_, hb.1, hb.2, ?_, ?_⟩
  · rw [csV, if_pos hS, cvV, if_pos hV, euler fs x y z 10 (Nat.le_refl _), Int.mul_emod 3 (_ % p), Int.emod_emod, ← Int.mul_emod]
  · rw [csV, if_pos h]; exact hr.1
  · rw [csV, if_pos h]; exact hr.2
  · rw [cvV, if_pos hV]; exact hr2.1
  · rw [cvV, if_pos hV]; exact hr2.2

set_option maxHeartbeats 1000000 in
theorem FnSlope_ok (A : Option Addr) (n c : Nat) (xs : List Int) (w : World) (hr : n ≤ 1048576 → RB w A n c xs) :
    Calls Try.prog 12 #[.slice A n c] w fun e w' => e = .returned (.bool true) ∧ Below w.heap.size w w' := by
  by_cases hb : n ≤ 1048576
  · have HR := hid (hr hb)
    clear hr
    go_enter Try.func12, Try.ntmps12
    go_wp2_with fail
    refine (DrawCubicSlope_ok A n c xs w HR.out).mono ?_
    rintro e w1 ⟨p, A1, n1, c1, fs, ⟨x, y, z⟩, ⟨l, m, k⟩, rfl, p0, p1, hri, hn1, b1⟩
    have HPv := hid (show ptVal (x, y, z) = .agg #[.int .i64 x, .int .i64 y, .int .i64 z] from rfl)
    have HPw := hid (show ptVal (l, m, k) = .agg #[.int .i64 l, .int .i64 m, .int .i64 k] from rfl)
    rw [HPv.out, HPw.out]
    have R1 := hid hri
    have B1 := hid b1
    clear hri b1
    have I0 := hid ((IBox.new w1 x y z).below (below_alloc _ (.cells #[.int .i64 l, .int .i64 m, .int .i64 k] 31)))
    have J0 := hid (IBox.new (w1.alloc (.cells #[.int .i64 x, .int .i64 y, .int .i64 z] 31)) l m k)
    have hs0 : (w1.alloc (.cells #[.int .i64 x, .int .i64 y, .int .i64 z] 31)).heap.size = w1.heap.size + 1 := by simp
    rw [hs0] at J0
    have XB := hid (below_trans (below_alloc w1 (.cells #[.int .i64 x, .int .i64 y, .int .i64 z] 31)) (below_alloc _ (.cells #[.int .i64 l, .int .i64 m, .int .i64 k] 31)))
    have RW := hid (R1.out.below XB.out)
    have BW := hid (below_trans B1.out XB.out)
    clear hs0
    go_wp2_with fail
    refine (implCubicSlope_ok p A1 n1 c1 fs x y z l m k _ RW.out).mono ?_
    rintro e w2 ⟨rfl, b2⟩
    have R2 := hid (RW.out.below b2)
    have B2 := hid (below_trans BW.out b2)
    have I2 := hid (I0.out.below b2)
    have J2 := hid (J0.out.below b2)
    obtain ⟨d0, d1, d2, _⟩ := I2.out.cells
    obtain ⟨e0, e1, e2, _⟩ := J2.out.cells
    clear b2
    go_wp2_with fail
    refine (specCubicSlope_ok p A1 n1 c1 fs x y z l m k _ R2.out).mono ?_
    rintro e w3 ⟨rfl, b3⟩
    have R3 := hid (R2.out.below b3)
    have B3 := hid (below_trans B2.out b3)
    have I3 := hid (I2.out.below b3)
    clear b3 d0 d1 d2 e0 e1 e2
    have hne : (csV p fs x y z l m k != csV p fs x y z l m k) = false := by simp
    have hnb : (csB p fs x y z l m k != csB p fs x y z l m k) = false := by simp
    have heq : (csV p fs x y z l m k == csV p fs x y z l m k) = true := by simp
    cases hD : csB p fs x y z l m k
    · clear hD hnb
      generalize csV p fs x y z l m k = V at *
      go_wp2
      go_ret
      exact ⟨rfl, B3.out⟩
    · have HL := hid (slope_law hD)
      have hp1 : 7 ≤ p := HL.out.2.2.2.2.2.1
      have hp2 : p ≤ 31 := HL.out.2.2.2.2.2.2.1
      have HV := hid HL.out.2.2.1
      have hv0 := HL.out.2.2.2.1
      have hv1 := HL.out.2.2.2.2.1
      have hu0 := HL.out.2.2.2.2.2.2.2.1
      have hu1 := HL.out.2.2.2.2.2.2.2.2
      have HB1 := hid HL.out.1
      have HB2 := hid HL.out.2.1
      obtain ⟨d0, d1, d2, _⟩ := I3.out.cells
      clear hD hnb heq HL
      generalize hVV : csV p fs x y z l m k = V at *
      clear hVV
      go_wp2_with fail
      refine (implCubicSlope_ok p A1 n1 c1 fs x y z x y z _ R3.out).mono ?_
      rintro e w4 ⟨rfl, b4⟩
      have R4 := hid (R3.out.below b4)
      have B4 := hid (below_trans B3.out b4)
      have I4 := hid (I3.out.below b4)
      clear b4 d0 d1 d2
      obtain ⟨d0, d1, d2, _⟩ := I4.out.cells
      rw [HV.out, HB1.out]
      go_wp2_with fail
      refine (implCubicValue_ok p A1 n1 c1 fs x y z _ R4.out).mono ?_
      rintro e w5 ⟨rfl, b5⟩
      have B5 := hid (below_trans B4.out b5)
      rw [HB2.out]
      clear b5 d0 d1 d2
      generalize cvV p fs x y z = U at *
      go_wp2
      go_ret
      exact ⟨rfl, B5.out⟩
  · clear hr
    go_enter Try.func12, Try.ntmps12
    go_wp2
    go_ret
    exact ⟨rfl, Below.refl _ _⟩

end Go.Proofs.Ytkddhlgohjojpaa
