/-
  Triples of numbers, and their cells.
-/
import Derived.Test.YtkhkcgoblibnpaaD
namespace Go.Proofs.Ytkhkcgoblibnpaa
open Go.RowKit
set_option linter.unusedVariables false
set_option linter.unusedSimpArgs false

abbrev P3 := Int × Int × Int

def pc (q : P3) : List Value := [.int .i64 q.1, .int .i64 q.2.1, .int .i64 q.2.2]
def pcells (ps : List P3) : List Value := ps.flatMap pc
theorem pcells_length (ps : List P3) : (pcells ps).length = ps.length * 3 := by
  induction ps with
  | nil => rfl
  | cons q ps ih => rw [pcells, List.flatMap_cons, List.length_append, ← pcells, ih]; simp [pc]; omega
theorem pcells_get (ps : List P3) (j : Nat) (h : j < ps.length) : (pcells ps)[j * 3]? = some (.int .i64 (ps.getD j default).1) ∧ (pcells ps)[j * 3 + 1]? = some (.int .i64 (ps.getD j default).2.1) ∧ (pcells ps)[j * 3 + 2]? = some (.int .i64 (ps.getD j default).2.2) := by
  induction ps generalizing j with
  | nil => simp at h
  | cons q ps ih =>
    have e : pcells (q :: ps) = .int .i64 q.1 :: .int .i64 q.2.1 :: .int .i64 q.2.2 :: pcells ps := rfl
    rw [e]
    cases j with
    | zero => exact ⟨rfl, rfl, rfl⟩
    | succ j =>
      have := ih j (by simpa using h)
      rw [show (j + 1) * 3 = j * 3 + 3 by omega, show j * 3 + 3 + 1 = j * 3 + 1 + 3 by omega, show j * 3 + 3 + 2 = j * 3 + 2 + 3 by omega]
      simpa using this
theorem pcells_append (ps qs : List P3) : pcells (ps ++ qs) = pcells ps ++ pcells qs := by simp [pcells]
theorem pcells_one (ps : List P3) : ∀ u ∈ pcells ps, u.oneCell' = true := by
  intro u hu
  simp only [pcells, List.mem_flatMap] at hu
  obtain ⟨q, _, hq⟩ := hu
  simp [pc] at hq
  rcases hq with rfl | rfl | rfl <;> rfl

end Go.Proofs.Ytkhkcgoblibnpaa
