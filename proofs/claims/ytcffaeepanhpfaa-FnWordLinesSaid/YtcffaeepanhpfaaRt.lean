/-
  The 72 roots and the 27 lines, written out; the plain functions that make them.
-/
import Derived.Test.YtcffaeepanhpfaaKf
namespace Go.Proofs.Ytcffaeepanhpfaa
set_option linter.unusedVariables false
set_option linter.unusedSimpArgs false
set_option maxRecDepth 100000

def roots : List (List Int) := [
  [-2, -1, -1, -1, -1, -1, -1], [-1, -1, -1, -1, 0, 0, 0], [-1, -1, -1, 0, -1, 0, 0], [-1, -1, -1, 0, 0, -1, 0],
  [-1, -1, -1, 0, 0, 0, -1], [-1, -1, 0, -1, -1, 0, 0], [-1, -1, 0, -1, 0, -1, 0], [-1, -1, 0, -1, 0, 0, -1],
  [-1, -1, 0, 0, -1, -1, 0], [-1, -1, 0, 0, -1, 0, -1], [-1, -1, 0, 0, 0, -1, -1], [-1, 0, -1, -1, -1, 0, 0],
  [-1, 0, -1, -1, 0, -1, 0], [-1, 0, -1, -1, 0, 0, -1], [-1, 0, -1, 0, -1, -1, 0], [-1, 0, -1, 0, -1, 0, -1],
  [-1, 0, -1, 0, 0, -1, -1], [-1, 0, 0, -1, -1, -1, 0], [-1, 0, 0, -1, -1, 0, -1], [-1, 0, 0, -1, 0, -1, -1],
  [-1, 0, 0, 0, -1, -1, -1], [0, -1, 0, 0, 0, 0, 1], [0, -1, 0, 0, 0, 1, 0], [0, -1, 0, 0, 1, 0, 0],
  [0, -1, 0, 1, 0, 0, 0], [0, -1, 1, 0, 0, 0, 0], [0, 0, -1, 0, 0, 0, 1], [0, 0, -1, 0, 0, 1, 0],
  [0, 0, -1, 0, 1, 0, 0], [0, 0, -1, 1, 0, 0, 0], [0, 0, 0, -1, 0, 0, 1], [0, 0, 0, -1, 0, 1, 0],
  [0, 0, 0, -1, 1, 0, 0], [0, 0, 0, 0, -1, 0, 1], [0, 0, 0, 0, -1, 1, 0], [0, 0, 0, 0, 0, -1, 1],
  [0, 0, 0, 0, 0, 1, -1], [0, 0, 0, 0, 1, -1, 0], [0, 0, 0, 0, 1, 0, -1], [0, 0, 0, 1, -1, 0, 0],
  [0, 0, 0, 1, 0, -1, 0], [0, 0, 0, 1, 0, 0, -1], [0, 0, 1, -1, 0, 0, 0], [0, 0, 1, 0, -1, 0, 0],
  [0, 0, 1, 0, 0, -1, 0], [0, 0, 1, 0, 0, 0, -1], [0, 1, -1, 0, 0, 0, 0], [0, 1, 0, -1, 0, 0, 0],
  [0, 1, 0, 0, -1, 0, 0], [0, 1, 0, 0, 0, -1, 0], [0, 1, 0, 0, 0, 0, -1], [1, 0, 0, 0, 1, 1, 1],
  [1, 0, 0, 1, 0, 1, 1], [1, 0, 0, 1, 1, 0, 1], [1, 0, 0, 1, 1, 1, 0], [1, 0, 1, 0, 0, 1, 1],
  [1, 0, 1, 0, 1, 0, 1], [1, 0, 1, 0, 1, 1, 0], [1, 0, 1, 1, 0, 0, 1], [1, 0, 1, 1, 0, 1, 0],
  [1, 0, 1, 1, 1, 0, 0], [1, 1, 0, 0, 0, 1, 1], [1, 1, 0, 0, 1, 0, 1], [1, 1, 0, 0, 1, 1, 0],
  [1, 1, 0, 1, 0, 0, 1], [1, 1, 0, 1, 0, 1, 0], [1, 1, 0, 1, 1, 0, 0], [1, 1, 1, 0, 0, 0, 1],
  [1, 1, 1, 0, 0, 1, 0], [1, 1, 1, 0, 1, 0, 0], [1, 1, 1, 1, 0, 0, 0], [2, 1, 1, 1, 1, 1, 1]]
def lines : List (List Int) := [
  [0, -1, 0, 0, 0, 0, 0], [0, 0, -1, 0, 0, 0, 0], [0, 0, 0, -1, 0, 0, 0],
  [0, 0, 0, 0, -1, 0, 0], [0, 0, 0, 0, 0, -1, 0], [0, 0, 0, 0, 0, 0, -1],
  [1, 1, 1, 0, 0, 0, 0], [1, 1, 0, 1, 0, 0, 0], [1, 1, 0, 0, 1, 0, 0],
  [1, 1, 0, 0, 0, 1, 0], [1, 1, 0, 0, 0, 0, 1], [1, 0, 1, 1, 0, 0, 0],
  [1, 0, 1, 0, 1, 0, 0], [1, 0, 1, 0, 0, 1, 0], [1, 0, 1, 0, 0, 0, 1],
  [1, 0, 0, 1, 1, 0, 0], [1, 0, 0, 1, 0, 1, 0], [1, 0, 0, 1, 0, 0, 1],
  [1, 0, 0, 0, 1, 1, 0], [1, 0, 0, 0, 1, 0, 1], [1, 0, 0, 0, 0, 1, 1],
  [2, 0, 1, 1, 1, 1, 1], [2, 1, 0, 1, 1, 1, 1], [2, 1, 1, 0, 1, 1, 1],
  [2, 1, 1, 1, 0, 1, 1], [2, 1, 1, 1, 1, 0, 1], [2, 1, 1, 1, 1, 1, 0]]
def lineC (k : Nat) : List Int := lines.getD k zeroC

/-- The class with degree d and the numbers of a code. -/
def codeC (d : Int) (c : Nat) : List Int := [d, ((c / 243 % 3 : Nat) : Int) - 1, ((c / 81 % 3 : Nat) : Int) - 1, ((c / 27 % 3 : Nat) : Int) - 1, ((c / 9 % 3 : Nat) : Int) - 1, ((c / 3 % 3 : Nat) : Int) - 1, ((c % 3 : Nat) : Int) - 1]
/-- The roots among the first c codes. -/
def rootsC (d : Int) : Nat → List (List Int)
  | 0 => []
  | c + 1 => if rootB (codeC d c) then rootsC d c ++ [codeC d c] else rootsC d c
def rootsD : Nat → List (List Int)
  | 0 => []
  | e + 1 => rootsD e ++ rootsC ((e : Int) - 2) 729
/-- The order of classes. -/
def lessC : List Int → List Int → Bool
  | x :: xs, y :: ys => if x != y then decide (x < y) else lessC xs ys
  | _, _ => false
def putC (a : List Int) : List (List Int) → List (List Int)
  | [] => [a]
  | b :: bs => if lessC b a then b :: putC a bs else a :: b :: bs
def diffC (i k : Nat) : List Int := lin (lineC i) (-1) (lineC k)
def stepC (out : List (List Int)) (d : List Int) : List (List Int) := if prd d d != -2 then out else if out.any (fun x => x == d) then out else putC d out
/-- The roots that the reference has found before it compares line i with line k. -/
def foundK (out : List (List Int)) (i : Nat) : Nat → List (List Int)
  | 0 => out
  | k + 1 => stepC (foundK out i k) (diffC i k)
def foundI : Nat → List (List Int)
  | 0 => []
  | i + 1 => foundK (foundI i) i 27

theorem rootsD_eq : rootsD 5 = roots := by decide +kernel
theorem foundI_eq : foundI 27 = roots := by decide +kernel
theorem roots_len : roots.length = 72 := rfl
theorem lines_len : lines.length = 27 := rfl
theorem roots_7 : ∀ r ∈ roots, r.length = 7 := by decide +kernel
theorem lines_7 : ∀ r ∈ lines, r.length = 7 := by decide +kernel
theorem roots_root : ∀ r ∈ roots, rootB r = true := by decide +kernel
theorem roots_bd : ∀ r ∈ roots, ∀ x ∈ r, -2 ≤ x ∧ x ≤ 2 := by decide +kernel
theorem lines_bd : ∀ r ∈ lines, ∀ x ∈ r, -2 ≤ x ∧ x ≤ 2 := by decide +kernel
theorem roots_simple : ∀ i, i < 6 → ∀ r ∈ roots, refl r (simple i) ∈ roots := by decide +kernel
theorem lines_root : ∀ r ∈ roots, ∀ l ∈ lines, refl l r ∈ lines := by decide +kernel
end Go.Proofs.Ytcffaeepanhpfaa
