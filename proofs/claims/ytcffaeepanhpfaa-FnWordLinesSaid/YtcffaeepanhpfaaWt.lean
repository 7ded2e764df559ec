/-
  Words as moves of the 27 lines and of the 72 roots: the tables, and what the kernel checks of them.
-/
import Derived.Test.YtcffaeepanhpfaaRt
namespace Go.Proofs.Ytcffaeepanhpfaa
set_option linter.unusedVariables false
set_option linter.unusedSimpArgs false
set_option maxRecDepth 100000

/-- Where a simple reflection moves each line. -/
def tabL : List (List Nat) := [
  [1, 0, 2, 3, 4, 5, 6, 11, 12, 13, 14, 7, 8, 9, 10, 15, 16, 17, 18, 19, 20, 22, 21, 23, 24, 25, 26],
  [0, 2, 1, 3, 4, 5, 7, 6, 8, 9, 10, 11, 15, 16, 17, 12, 13, 14, 18, 19, 20, 21, 23, 22, 24, 25, 26],
  [0, 1, 3, 2, 4, 5, 6, 8, 7, 9, 10, 12, 11, 13, 14, 15, 18, 19, 16, 17, 20, 21, 22, 24, 23, 25, 26],
  [0, 1, 2, 4, 3, 5, 6, 7, 9, 8, 10, 11, 13, 12, 14, 16, 15, 17, 18, 20, 19, 21, 22, 23, 25, 24, 26],
  [0, 1, 2, 3, 5, 4, 6, 7, 8, 10, 9, 11, 12, 14, 13, 15, 17, 16, 19, 18, 20, 21, 22, 23, 24, 26, 25],
  [11, 7, 6, 3, 4, 5, 2, 1, 8, 9, 10, 0, 12, 13, 14, 15, 16, 17, 26, 25, 24, 21, 22, 23, 20, 19, 18]]
/-- Where a simple reflection moves each root. -/
def tabR : List (List Nat) := [
  [0, 1, 2, 3, 4, 11, 12, 13, 14, 15, 16, 5, 6, 7, 8, 9, 10, 17, 18, 19, 20, 26, 27, 28, 29, 46, 21, 22, 23, 24, 30, 31, 32, 33, 34, 35, 36, 37, 38, 39, 40, 41, 47, 48, 49, 50, 25, 42, 43, 44, 45, 51, 52, 53, 54, 61, 62, 63, 64, 65, 66, 55, 56, 57, 58, 59, 60, 67, 68, 69, 70, 71],
  [0, 1, 5, 6, 7, 2, 3, 4, 8, 9, 10, 11, 12, 13, 17, 18, 19, 14, 15, 16, 20, 21, 22, 23, 25, 24, 30, 31, 32, 42, 26, 27, 28, 33, 34, 35, 36, 37, 38, 43, 44, 45, 29, 39, 40, 41, 47, 46, 48, 49, 50, 51, 55, 56, 57, 52, 53, 54, 58, 59, 60, 61, 62, 63, 67, 68, 69, 64, 65, 66, 70, 71],
  [0, 2, 1, 3, 4, 5, 8, 9, 6, 7, 10, 11, 14, 15, 12, 13, 16, 17, 18, 20, 19, 21, 22, 24, 23, 25, 26, 27, 29, 28, 33, 34, 39, 30, 31, 35, 36, 40, 41, 32, 37, 38, 43, 42, 44, 45, 46, 48, 47, 49, 50, 52, 51, 53, 54, 55, 58, 59, 56, 57, 60, 61, 64, 65, 62, 63, 66, 67, 68, 70, 69, 71],
  [0, 1, 3, 2, 4, 6, 5, 7, 8, 10, 9, 12, 11, 13, 14, 16, 15, 17, 19, 18, 20, 21, 23, 22, 24, 25, 26, 28, 27, 29, 30, 32, 31, 35, 37, 33, 38, 34, 36, 40, 39, 41, 42, 44, 43, 45, 46, 47, 49, 48, 50, 51, 53, 52, 54, 56, 55, 57, 58, 60, 59, 62, 61, 63, 64, 66, 65, 67, 69, 68, 70, 71],
  [0, 1, 2, 4, 3, 5, 7, 6, 9, 8, 10, 11, 13, 12, 15, 14, 16, 18, 17, 19, 20, 22, 21, 23, 24, 25, 27, 26, 28, 29, 31, 30, 32, 34, 33, 36, 35, 38, 37, 39, 41, 40, 42, 43, 45, 44, 46, 47, 48, 50, 49, 51, 52, 54, 53, 55, 57, 56, 59, 58, 60, 61, 63, 62, 65, 64, 66, 68, 67, 69, 70, 71],
  [20, 70, 39, 40, 41, 43, 44, 45, 8, 9, 10, 48, 49, 50, 14, 15, 16, 17, 18, 19, 0, 58, 59, 60, 24, 25, 64, 65, 66, 29, 67, 68, 69, 33, 34, 35, 36, 37, 38, 2, 3, 4, 42, 5, 6, 7, 46, 47, 11, 12, 13, 71, 52, 53, 54, 55, 56, 57, 21, 22, 23, 61, 62, 63, 26, 27, 28, 30, 31, 32, 1, 51]]
def mvL (i k : Nat) : Nat := (tabL.getD i []).getD k 0
def mvR (i j : Nat) : Nat := (tabR.getD i []).getD j 0
def rootC (j : Nat) : List Int := roots.getD j []
def simpleR (i : Nat) : Nat := [25, 29, 32, 34, 35, 70].getD i 0
/-- The positive roots. -/
def posR (j : Nat) : Bool := (decide (21 ≤ j) && decide (j ≤ 35)) || decide (51 ≤ j)
theorem tabL_ok : ∀ i, i < 6 → ∀ k, k < 27 → mvL i k < 27 ∧ refl (lineC k) (simple i) = lineC (mvL i k) ∧ mvL i (mvL i k) = k := by decide +kernel
theorem tabR_ok : ∀ i, i < 6 → ∀ j, j < 72 → mvR i j < 72 ∧ refl (rootC j) (simple i) = rootC (mvR i j) ∧ mvR i (mvR i j) = j ∧ mvR i (71 - j) = 71 - mvR i j := by decide +kernel
theorem simpleR_ok : ∀ i, i < 6 → simpleR i < 72 ∧ posR (simpleR i) = true := by decide +kernel
theorem posR_neg : ∀ j, j < 72 → posR (71 - j) = !posR j := by decide +kernel
/-- A simple reflection turns the sign of one positive root, its own. -/
theorem posR_mv : ∀ i, i < 6 → ∀ j, j < 72 → posR (mvR i j) = if j == simpleR i then false else if j == 71 - simpleR i then true else posR j := by decide +kernel
theorem lines_nodup : ∀ j, j < 27 → ∀ k, k < 27 → (lineC j == lineC k) = (j == k) := by decide +kernel
theorem lines_prd : ∀ i, i < 6 → ∀ j, j < 27 → ∀ k, k < 27 → prd (lineC (mvL i j)) (lineC (mvL i k)) = prd (lineC j) (lineC k) := by decide +kernel
end Go.Proofs.Ytcffaeepanhpfaa
