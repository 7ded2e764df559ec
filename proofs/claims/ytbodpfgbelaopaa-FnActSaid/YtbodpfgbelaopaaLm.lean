/-
  Contracts: marks in lists of classes; the reference's RootList; the law FnExactRootList.
-/
import Derived.Test.YtbodpfgbelaopaaLr
import Derived.Test.YtbodpfgbelaopaaW2
namespace Go.Proofs.Ytbodpfgbelaopaa
open Go.RowKit
set_option linter.unusedVariables false
set_option linter.unusedSimpArgs false

theorem gb3 {w w1 w2 : World} {row : Option Nat} (h : w.grownBy w1 row) (k : w1.grownBy w2 row) : w.grownBy w2 row :=
  ⟨k.os.trans h.os, k.tape.trans h.tape, k.output.trans h.output, Nat.le_trans h.size k.size, fun i hi hr => (k.block i (Nat.lt_of_lt_of_le hi h.size) hr).trans (h.block i hi hr)⟩

def mk7 (k : Int) (i : Nat) : List Int := [k + i * 7, k + i * 7 + 1, k + i * 7 + 1 + 1, k + i * 7 + 1 + 1 + 1, k + i * 7 + 1 + 1 + 1 + 1, k + i * 7 + 1 + 1 + 1 + 1 + 1, k + i * 7 + 1 + 1 + 1 + 1 + 1 + 1]
def marks7 (k : Int) (n : Nat) : List (List Int) := (List.range n).map (mk7 k)
def marked7 (k : Int) (ps : List (List Int)) (i : Nat) : List (List Int) := marks7 k i ++ ps.drop i
theorem marked7_length (k : Int) (ps : List (List Int)) (i : Nat) (h : i ≤ ps.length) : (marked7 k ps i).length = ps.length := by simp [marked7, marks7]; omega
theorem marked7_set (k : Int) (ps : List (List Int)) (i : Nat) (h : i < ps.length) : (marked7 k ps i).set i (mk7 k i) = marked7 k ps (i + 1) := by
  have hm : (marks7 k i).length = i := by simp [marks7]
  rw [marked7, List.set_append, if_neg (by omega), hm, Nat.sub_self, List.drop_eq_getElem_cons h, List.set_cons_zero, marked7, marks7, marks7, List.range_succ, List.map_append]
  simp
theorem ccells_set (ps : List (List Int)) (hp : ∀ c ∈ ps, c.length = 7) (i : Nat) (q0 q1 q2 q3 q4 q5 q6 : Int) (h : i < ps.length) :
    (((((((ccells ps).set (i * 7) (.int .i64 q0)).set (i * 7 + 1) (.int .i64 q1)).set (i * 7 + 2) (.int .i64 q2)).set (i * 7 + 3) (.int .i64 q3)).set (i * 7 + 4) (.int .i64 q4)).set (i * 7 + 5) (.int .i64 q5)).set (i * 7 + 6) (.int .i64 q6) = ccells (ps.set i [q0, q1, q2, q3, q4, q5, q6]) := by
  induction ps generalizing i with
  | nil => simp at h
  | cons a ps ih =>
    obtain ⟨a0, a1, a2, a3, a4, a5, a6, rfl⟩ := seven (hp a (by simp))
    have e : ccells ([a0, a1, a2, a3, a4, a5, a6] :: ps) = .int .i64 a0 :: .int .i64 a1 :: .int .i64 a2 :: .int .i64 a3 :: .int .i64 a4 :: .int .i64 a5 :: .int .i64 a6 :: ccells ps := rfl
    rw [e]
    cases i with
    | zero => rfl
    | succ i =>
      have := ih (fun c hc => hp c (by simp [hc])) i (by simpa using h)
      rw [show (i + 1) * 7 = i * 7 + 1 + 1 + 1 + 1 + 1 + 1 + 1 by omega]
      simp only [List.set_cons_succ]
      rw [this]
      rfl

set_option maxRecDepth 100000 in
set_option maxHeartbeats 4000000 in
theorem markClassS_ok (base : Nat) (A : Option Addr) (n c : Nat) (ps : List (List Int)) (k : Int) (w : World) (hown : OC w base (.slice A n c) ps) (hn : n ≤ 100000) (hl : ps.length = n) (hk : 0 ≤ k) (hk2 : k ≤ 1000000) :
    Calls Try.prog 19 #[.slice A n c, .int .i64 k] w fun e w' => e = .returned (.int .i64 (k + n * 7)) ∧ OC w' base (.slice A n c) (marks7 k n) ∧ w.grownBy w' (Value.slice A n c).ownBlock := by
  have HOw := hid hown
  go_enter Try.func19, Try.ntmps19
  go_wp2
  go_loopw [1, 5] (fun u t wr => ∃ i : Nat, i ≤ n ∧ t = .int .i64 i ∧ u = .int .i64 (k + i * 7) ∧ OC wr base (.slice A n c) (marked7 k ps i) ∧ w.grownBy wr (Value.slice A n c).ownBlock) (fun _ t _ => n - (intOf t).toNat)
  case atStart => exact ⟨0, by omega, rfl, by go_num, HOw.out, World.grownBy.refl _ _⟩
  case round =>
    obtain ⟨i, hi, rfl, rfl, ho, hg⟩ := hrel
    have HO := hid ho
    have HG := hid hg
    clear ho hg
    by_cases hlt : i < n
    · have hlen := marked7_length k ps i (by omega)
      have h7 := HO.out.1
      have hw0 := HO.out.2
      rw [hlen, hl] at hw0
      obtain ⟨g, rfl⟩ : ∃ g, A = some ⟨g, 0, none⟩ := by
        rcases hw0.2 with ⟨_, h0⟩ | ⟨g, cap, cur, hv, _⟩
        · omega
        · injection hv with e1 e2 e3
          exact ⟨g, e1⟩
      have hw : wr.ownsRow base 26 7 (.slice (some ⟨g, 0, none⟩) n c) n (ccells (marked7 k ps i)) := hw0
      have s1 := World.ownsRow.stored hw (i * 7) (.int .i64 (k + i * 7))
      have s2 := World.ownsRow.stored s1.1 (i * 7 + 1) (.int .i64 (k + i * 7 + 1))
      have s3 := World.ownsRow.stored s2.1 (i * 7 + 2) (.int .i64 (k + i * 7 + 1 + 1))
      have s4 := World.ownsRow.stored s3.1 (i * 7 + 3) (.int .i64 (k + i * 7 + 1 + 1 + 1))
      have s5 := World.ownsRow.stored s4.1 (i * 7 + 4) (.int .i64 (k + i * 7 + 1 + 1 + 1 + 1))
      have s6 := World.ownsRow.stored s5.1 (i * 7 + 5) (.int .i64 (k + i * 7 + 1 + 1 + 1 + 1 + 1))
      have s7 := World.ownsRow.stored s6.1 (i * 7 + 6) (.int .i64 (k + i * 7 + 1 + 1 + 1 + 1 + 1 + 1))
      have f0 := World.ownsRow.frozenAt hw (i * 7)
      have f1 := World.ownsRow.frozenAt hw (i * 7 + 1)
      have f2 := World.ownsRow.frozenAt hw (i * 7 + 2)
      have f3 := World.ownsRow.frozenAt hw (i * 7 + 3)
      have f4 := World.ownsRow.frozenAt hw (i * 7 + 4)
      have f5 := World.ownsRow.frozenAt hw (i * 7 + 5)
      have f6 := World.ownsRow.frozenAt hw (i * 7 + 6)
      have hcell := fun j (hj : j < 7) => (World.ownsRow.cellAt hw (i * 7 + j) (by omega)).trans (ccells_get (marked7 k ps i) h7 i j (by omega) hj)
      have c0 := hcell 0 (by omega)
      have c1 := hcell 1 (by omega)
      have c2 := hcell 2 (by omega)
      have c3 := hcell 3 (by omega)
      have c4 := hcell 4 (by omega)
      have c5 := hcell 5 (by omega)
      have c6 := hcell 6 (by omega)
      rw [Nat.add_zero] at c0
      have hset := ccells_set (marked7 k ps i) h7 i (k + i * 7) (k + i * 7 + 1) (k + i * 7 + 1 + 1) (k + i * 7 + 1 + 1 + 1) (k + i * 7 + 1 + 1 + 1 + 1) (k + i * 7 + 1 + 1 + 1 + 1 + 1) (k + i * 7 + 1 + 1 + 1 + 1 + 1 + 1) (by omega)
      rw [show [k + (i : Int) * 7, k + i * 7 + 1, k + i * 7 + 1 + 1, k + i * 7 + 1 + 1 + 1, k + i * 7 + 1 + 1 + 1 + 1, k + i * 7 + 1 + 1 + 1 + 1 + 1, k + i * 7 + 1 + 1 + 1 + 1 + 1 + 1] = mk7 k i from rfl, marked7_set k ps i (by omega)] at hset
      have H7 := hid s7.1
      have G7 := hid (gb3 (gb3 (gb3 (gb3 (gb3 (gb3 s1.2 s2.2) s3.2) s4.2) s5.2) s6.2) s7.2)
      have HSet := hid hset
      have H7c := hid (show ∀ c ∈ marked7 k ps (i + 1), c.length = 7 by
        intro c hc
        rcases List.mem_append.1 hc with hc | hc
        · obtain ⟨j, _, rfl⟩ := List.mem_map.1 hc
          rfl
        · exact HOw.out.1 c (List.mem_of_mem_drop hc))
      clear s1 s2 s3 s4 s5 s6 s7 hset hw hw0 hcell hlen h7
      go_wp2
      refine wp_loop_rounds 7 ?_
      rw [rounds_succ]
      go_wp2
      rw [rounds_succ]
      go_wp2
      rw [rounds_succ]
      go_wp2
      rw [rounds_succ]
      go_wp2
      rw [rounds_succ]
      go_wp2
      rw [rounds_succ]
      go_wp2
      rw [rounds_succ]
      go_wp2
      go_roundw
      case rel =>
        refine ⟨i + 1, by omega, by go_num, by go_num, ⟨H7c.out, ?_⟩, gb3 HG.out G7.out⟩
        have h := H7.out
        rw [HSet.out] at h
        rw [marked7_length k ps (i + 1) (by omega), hl]
        exact h
      case measure => simp [intOf]; omega
    · obtain rfl : i = n := by omega
      have HM := hid (show marked7 k ps i = marks7 k i by rw [marked7, List.drop_eq_nil_of_le (by omega), List.append_nil])
      go_wp2
      go_ret
      exact ⟨rfl, by rw [← HM.out]; exact HO.out, HG.out⟩

theorem marks7_length (k : Int) (n : Nat) : (marks7 k n).length = n := by simp [marks7]
theorem marks7_get (k : Int) (n i : Nat) (h : i < n) : (marks7 k n).getD i [] = mk7 k i := by simp [marks7, List.getD_eq_getElem?_getD, List.getElem?_map, List.getElem?_range h]

set_option maxRecDepth 100000 in
set_option maxHeartbeats 4000000 in
theorem heldClassS_ok (A : Option Addr) (n c : Nat) (k : Int) (w : World) (hr : RC w A n (marks7 k n)) (hk : 0 ≤ k) (hk2 : k ≤ 1000000) :
    Calls Try.prog 20 #[.slice A n c, .int .i64 k] w fun e w' => e = .returned (.int .i64 (k + n * 7)) ∧ w = w' := by
  obtain ⟨hl, hn, h7, b, hA, hc⟩ := hr
  have HC := hid hc
  clear hc h7
  go_enter Try.func20, Try.ntmps20
  go_wp2
  go_loop [1, 5] (fun u t => ∃ i : Nat, i ≤ n ∧ t = .int .i64 i ∧ u = .int .i64 (k + i * 7)) (fun _ t => n - (intOf t).toNat)
  case atStart => exact ⟨0, by omega, rfl, by go_num⟩
  case round =>
    obtain ⟨i, hi, rfl, rfl⟩ := hrel
    by_cases hlt : i < n
    · obtain rfl : A = some ⟨b, 0, none⟩ := by rcases hA with h | h; omega; exact h
      have c0 := HC.out i 0 hlt (by omega)
      have c1 := HC.out i 1 hlt (by omega)
      have c2 := HC.out i 2 hlt (by omega)
      have c3 := HC.out i 3 hlt (by omega)
      have c4 := HC.out i 4 hlt (by omega)
      have c5 := HC.out i 5 hlt (by omega)
      have c6 := HC.out i 6 hlt (by omega)
      rw [marks7_get k n i hlt] at c0 c1 c2 c3 c4 c5 c6
      simp only [mk7, List.getD_cons_zero, List.getD_cons_succ, Nat.add_zero] at c0 c1 c2 c3 c4 c5 c6
      clear hA
      go_wp2
      refine wp_loop_rounds 7 ?_
      rw [rounds_succ]
      go_wp2
      rw [rounds_succ]
      go_wp2
      rw [rounds_succ]
      go_wp2
      rw [rounds_succ]
      go_wp2
      rw [rounds_succ]
      go_wp2
      rw [rounds_succ]
      go_wp2
      rw [rounds_succ]
      go_wp2
      go_round
      case rel => exact ⟨i + 1, by omega, by go_num, by go_num⟩
      case measure => simp [intOf]; omega
    · obtain rfl : i = n := by omega
      go_wp2
      go_ret
      exact ⟨rfl, rfl⟩

end Go.Proofs.Ytbodpfgbelaopaa
