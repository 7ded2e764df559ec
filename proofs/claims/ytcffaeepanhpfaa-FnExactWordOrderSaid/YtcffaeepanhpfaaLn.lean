/-
  The law FnExactRootList.
-/
import Derived.Test.YtcffaeepanhpfaaLm
namespace Go.Proofs.Ytcffaeepanhpfaa
open Go.RowKit
set_option linter.unusedVariables false
set_option linter.unusedSimpArgs false

theorem RC.at_ {w : World} {A : Option Addr} {n : Nat} {cs : List (List Int)} (h : RC w A n cs) (i : Nat) (hi : i < n) : ∃ b, ∃ z0 z1 z2 z3 z4 z5 z6 : Int, A = some ⟨b, 0, none⟩ ∧ cs.getD i [] = [z0, z1, z2, z3, z4, z5, z6] ∧ (w.cell? ⟨b, 0, none⟩ = some (.int .i64 z0) ∧ w.cell? ⟨b, 1, none⟩ = some (.int .i64 z1) ∧ w.cell? ⟨b, 2, none⟩ = some (.int .i64 z2) ∧ w.cell? ⟨b, 3, none⟩ = some (.int .i64 z3) ∧ w.cell? ⟨b, 4, none⟩ = some (.int .i64 z4) ∧ w.cell? ⟨b, 5, none⟩ = some (.int .i64 z5) ∧ w.cell? ⟨b, 6, none⟩ = some (.int .i64 z6) → True) ∧
    w.cell? ⟨b, i * 7, none⟩ = some (.int .i64 z0) ∧ w.cell? ⟨b, i * 7 + 1, none⟩ = some (.int .i64 z1) ∧ w.cell? ⟨b, i * 7 + 2, none⟩ = some (.int .i64 z2) ∧ w.cell? ⟨b, i * 7 + 3, none⟩ = some (.int .i64 z3) ∧ w.cell? ⟨b, i * 7 + 4, none⟩ = some (.int .i64 z4) ∧ w.cell? ⟨b, i * 7 + 5, none⟩ = some (.int .i64 z5) ∧ w.cell? ⟨b, i * 7 + 6, none⟩ = some (.int .i64 z6) := by
  obtain ⟨h1, h2, h3, b, h4, h5⟩ := h
  obtain ⟨z0, z1, z2, z3, z4, z5, z6, hz⟩ := seven (h3 (cs.getD i []) (by simp [List.getD_eq_getElem?_getD, List.getElem?_eq_getElem (show i < cs.length by omega)]))
  have c0 := h5 i 0 hi (by omega)
  have c1 := h5 i 1 hi (by omega)
  have c2 := h5 i 2 hi (by omega)
  have c3 := h5 i 3 hi (by omega)
  have c4 := h5 i 4 hi (by omega)
  have c5 := h5 i 5 hi (by omega)
  have c6 := h5 i 6 hi (by omega)
  rw [hz] at c0 c1 c2 c3 c4 c5 c6
  simp only [List.getD_cons_zero, List.getD_cons_succ, Nat.add_zero] at c0 c1 c2 c3 c4 c5 c6
  exact ⟨b, z0, z1, z2, z3, z4, z5, z6, by rcases h4 with h | h; omega; exact h, hz, fun _ => trivial, c0, c1, c2, c3, c4, c5, c6⟩

theorem below_trans' {w0 w1 w2 : World} (h : Below w0.heap.size w0 w1) (k : Below w1.heap.size w1 w2) : Below w0.heap.size w0 w2 := h.trans (k.mono h.size)



theorem rl72_len (n : Int) : (rl72 n).length ≤ 72 := by
  rw [rl72]
  split
  · exact Nat.le_of_eq roots_len
  · exact Nat.zero_le _


end Go.Proofs.Ytcffaeepanhpfaa
