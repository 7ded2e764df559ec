/-
  Contracts: marks in lists of classes; the reference's RootList; the law FnExactRootList.
-/
import Derived.Test.YtcffaeepanhpfaaLr
import Derived.Test.YtcffaeepanhpfaaW2
namespace Go.Proofs.Ytcffaeepanhpfaa
open Go.RowKit
set_option linter.unusedVariables false
set_option linter.unusedSimpArgs false

theorem gb3 {w w1 w2 : World} {row : Option Nat} (h : w.grownBy w1 row) (k : w1.grownBy w2 row) : w.grownBy w2 row :=
  ⟨k.os.trans h.os, k.tape.trans h.tape, k.output.trans h.output, Nat.le_trans h.size k.size, fun i hi hr => (k.block i (Nat.lt_of_lt_of_le hi h.size) hr).trans (h.block i hi hr)⟩

def mk7 (k : Int) (i : Nat) : List Int := [k + i * 7, k + i * 7 + 1, k + i * 7 + 1 + 1, k + i * 7 + 1 + 1 + 1, k + i * 7 + 1 + 1 + 1 + 1, k + i * 7 + 1 + 1 + 1 + 1 + 1, k + i * 7 + 1 + 1 + 1 + 1 + 1 + 1]
def marks7 (k : Int) (n : Nat) : List (List Int) := (List.range n).map (mk7 k)
def marked7 (k : Int) (ps : List (List Int)) (i : Nat) : List (List Int) := marks7 k i ++ ps.drop i
theorem marked7_length (k : Int) (ps : List (List Int)) (i : Nat) (h : i ≤ ps.length) : (marked7 k ps i).length = ps.length := by simp [marked7, marks7]; omega
theorem marked7_set (k : Int) (ps : List (List Int)) (i : Nat) (h : i < ps.length) : (marked7 k ps i).set i (mk7 k i) = marked7 k ps (i + 1) := by
  have hm : (marks7 k i).length = i := by simp [marks7]
  rw [marked7, List.set_append, if_neg (by omega), hm, Nat.sub_self, List.drop_eq_getElem_cons h, List.set_cons_zero, marked7, marks7, marks7, List.range_succ, List.map_append]
  simp
theorem ccells_set (ps : List (List Int)) (hp : ∀ c ∈ ps, c.length = 7) (i : Nat) (q0 q1 q2 q3 q4 q5 q6 : Int) (h : i < ps.length) :
    (((((((ccells ps).set (i * 7) (.int .i64 q0)).set (i * 7 + 1) (.int .i64 q1)).set (i * 7 + 2) (.int .i64 q2)).set (i * 7 + 3) (.int .i64 q3)).set (i * 7 + 4) (.int .i64 q4)).set (i * 7 + 5) (.int .i64 q5)).set (i * 7 + 6) (.int .i64 q6) = ccells (ps.set i [q0, q1, q2, q3, q4, q5, q6]) := by
  induction ps generalizing i with
  | nil => simp at h
  | cons a ps ih =>
    obtain ⟨a0, a1, a2, a3, a4, a5, a6, rfl⟩ := seven (hp a (by simp))
    have e : ccells ([a0, a1, a2, a3, a4, a5, a6] :: ps) = .int .i64 a0 :: .int .i64 a1 :: .int .i64 a2 :: .int .i64 a3 :: .int .i64 a4 :: .int .i64 a5 :: .int .i64 a6 :: ccells ps := rfl
    rw [e]
    cases i with
    | zero => rfl
    | succ i =>
      have := ih (fun c hc => hp c (by simp [hc])) i (by simpa using h)
      rw [show (i + 1) * 7 = i * 7 + 1 + 1 + 1 + 1 + 1 + 1 + 1 by omega]
      simp only [List.set_cons_succ]
      rw [this]
      rfl


theorem marks7_length (k : Int) (n : Nat) : (marks7 k n).length = n := by simp [marks7]
theorem marks7_get (k : Int) (n i : Nat) (h : i < n) : (marks7 k n).getD i [] = mk7 k i := by simp [marks7, List.getD_eq_getElem?_getD, List.getElem?_map, List.getElem?_range h]


end Go.Proofs.Ytcffaeepanhpfaa
