/-
  Classes as lists of seven numbers: the plain functions.
-/
import Derived.Test.YtcffaeepanhpfaaLib
namespace Go.Proofs.Ytcffaeepanhpfaa
open Go.RowKit
set_option linter.unusedVariables false
set_option linter.unusedSimpArgs false

/-- The product of two classes. -/
def prd : List Int → List Int → Int
  | [d, a, b, c, e, f, g], [D, A, B, C, E, F, G] => d * D - a * A - b * B - c * C - e * E - f * F - g * G
  | _, _ => 0
/-- A class and so many times another one. -/
def lin : List Int → Int → List Int → List Int
  | [d, a, b, c, e, f, g], n, [D, A, B, C, E, F, G] => [d + n * D, a + n * A, b + n * B, c + n * C, e + n * E, f + n * F, g + n * G]
  | _, _, _ => []
def clsV : List Int → Value
  | [d, a, b, c, e, f, g] => .agg #[.int .i64 d, .int .i64 a, .int .i64 b, .int .i64 c, .int .i64 e, .int .i64 f, .int .i64 g]
  | _ => .agg #[]
def planeC : List Int := [3, 1, 1, 1, 1, 1, 1]
def zeroC : List Int := [0, 0, 0, 0, 0, 0, 0]
def deg (a : List Int) : Int := prd a planeC
def inC (n : Int) : Bool := decide (-1000 ≤ n) && decide (n ≤ 1000)
def validB (a : List Int) : Bool := a.all inC
def rootB (a : List Int) : Bool := validB a && (prd a a == -2) && (deg a == 0)
def refl (a r : List Int) : List Int := lin a (prd a r) r
def simple : Nat → List Int
  | 0 => [0, -1, 1, 0, 0, 0, 0]
  | 1 => [0, 0, -1, 1, 0, 0, 0]
  | 2 => [0, 0, 0, -1, 1, 0, 0]
  | 3 => [0, 0, 0, 0, -1, 1, 0]
  | 4 => [0, 0, 0, 0, 0, -1, 1]
  | _ => [1, 1, 1, 1, 0, 0, 0]
def Bd (B : Int) (a : List Int) : Prop := ∀ x ∈ a, -B ≤ x ∧ x ≤ B
theorem seven {l : List Int} (h : l.length = 7) : ∃ d a b c e f g, l = [d, a, b, c, e, f, g] := by
  match l, h with
  | [d, a, b, c, e, f, g], _ => exact ⟨d, a, b, c, e, f, g, rfl⟩
theorem seven_len (d a b c e f g : Int) : [d, a, b, c, e, f, g].length = 7 := rfl
theorem lin_len {a b : List Int} {n : Int} (ha : a.length = 7) (hb : b.length = 7) : (lin a n b).length = 7 := by
  obtain ⟨d, a, b, c, e, f, g, rfl⟩ := seven ha
  obtain ⟨d, a, b, c, e, f, g, rfl⟩ := seven hb
  rfl
theorem validB_bd {a : List Int} (h : validB a = true) : Bd 1000 a := fun x hx => by
  have := List.all_eq_true.1 h x hx
  simp [inC] at this
  exact this
theorem mul_abs {a b A B : Int} (h1 : -A ≤ a ∧ a ≤ A) (h2 : -B ≤ b ∧ b ≤ B) : -(A * B) ≤ a * b ∧ a * b ≤ A * B := by
  have hA : 0 ≤ A := by omega
  have hB : 0 ≤ B := by omega
  have h : (a * b).natAbs ≤ (A * B).natAbs := by
    rw [Int.natAbs_mul, Int.natAbs_mul]
    exact Nat.mul_le_mul (by omega) (by omega)
  have : (A * B).natAbs = A * B := Int.natAbs_of_nonneg (Int.mul_nonneg hA hB)
  omega
theorem prd_bd {A B : Int} {a b : List Int} (hA : 0 ≤ A) (hB : 0 ≤ B) (h1 : Bd A a) (h2 : Bd B b) : -(7 * (A * B)) ≤ prd a b ∧ prd a b ≤ 7 * (A * B) := by
  have hAB := Int.mul_nonneg hA hB
  unfold prd
  split
  · rename_i d a b c e f g D A' B' C E F G
    have m1 := mul_abs (h1 d (by simp)) (h2 D (by simp))
    have m2 := mul_abs (h1 a (by simp)) (h2 A' (by simp))
    have m3 := mul_abs (h1 b (by simp)) (h2 B' (by simp))
    have m4 := mul_abs (h1 c (by simp)) (h2 C (by simp))
    have m5 := mul_abs (h1 e (by simp)) (h2 E (by simp))
    have m6 := mul_abs (h1 f (by simp)) (h2 F (by simp))
    have m7 := mul_abs (h1 g (by simp)) (h2 G (by simp))
    omega
  · omega
theorem lin_bd {A B N : Int} {a b : List Int} {n : Int} (h1 : Bd A a) (hn : -N ≤ n ∧ n ≤ N) (h2 : Bd B b) : Bd (A + N * B) (lin a n b) := by
  unfold lin
  split
  · rename_i d a b c e f g D A' B' C E F G
    have m1 := mul_abs hn (h2 D (by simp))
    have m2 := mul_abs hn (h2 A' (by simp))
    have m3 := mul_abs hn (h2 B' (by simp))
    have m4 := mul_abs hn (h2 C (by simp))
    have m5 := mul_abs hn (h2 E (by simp))
    have m6 := mul_abs hn (h2 F (by simp))
    have m7 := mul_abs hn (h2 G (by simp))
    have k1 := h1 d (by simp)
    have k2 := h1 a (by simp)
    have k3 := h1 b (by simp)
    have k4 := h1 c (by simp)
    have k5 := h1 e (by simp)
    have k6 := h1 f (by simp)
    have k7 := h1 g (by simp)
    intro x hx
    simp at hx
    omega
  · intro x hx
    simp at hx
theorem Bd.mono {A B : Int} {a : List Int} (h : Bd A a) (hAB : A ≤ B) : Bd B a := fun x hx => by have := h x hx; omega

end Go.Proofs.Ytcffaeepanhpfaa
