/-
  Contracts: marks in lists of points; all points; the laws on them.
-/
import Derived.Test.YtkhkcgoblibnpaaPt
namespace Go.Proofs.Ytkhkcgoblibnpaa
open Go.RowKit
set_option linter.unusedVariables false
set_option linter.unusedSimpArgs false

theorem gb3 {w w1 w2 : World} {row : Option Nat} (h : w.grownBy w1 row) (k : w1.grownBy w2 row) : w.grownBy w2 row :=
  ⟨k.os.trans h.os, k.tape.trans h.tape, k.output.trans h.output, Nat.le_trans h.size k.size, fun i hi hr => (k.block i (Nat.lt_of_lt_of_le hi h.size) hr).trans (h.block i hi hr)⟩

def mk3 (k : Int) (i : Nat) : P3 := (k + i * 3, k + i * 3 + 1, k + i * 3 + 1 + 1)
def marks (k : Int) (n : Nat) : List P3 := (List.range n).map (mk3 k)
def marked (k : Int) (ps : List P3) (i : Nat) : List P3 := marks k i ++ ps.drop i
theorem marked_length (k : Int) (ps : List P3) (i : Nat) (h : i ≤ ps.length) : (marked k ps i).length = ps.length := by simp [marked, marks]; omega
theorem marked_set (k : Int) (ps : List P3) (i : Nat) (h : i < ps.length) : (marked k ps i).set i (mk3 k i) = marked k ps (i + 1) := by
  have hm : (marks k i).length = i := by simp [marks]
  rw [marked, List.set_append, if_neg (by omega), hm, Nat.sub_self, List.drop_eq_getElem_cons h, List.set_cons_zero, marked, marks, marks, List.range_succ, List.map_append]
  simp
theorem pcells_set (ps : List P3) (i : Nat) (q : P3) (h : i < ps.length) : (((pcells ps).set (i * 3) (.int .i64 q.1)).set (i * 3 + 1) (.int .i64 q.2.1)).set (i * 3 + 2) (.int .i64 q.2.2) = pcells (ps.set i q) := by
  induction ps generalizing i with
  | nil => simp at h
  | cons a ps ih =>
    have e : pcells (a :: ps) = .int .i64 a.1 :: .int .i64 a.2.1 :: .int .i64 a.2.2 :: pcells ps := rfl
    rw [e]
    cases i with
    | zero => rfl
    | succ i =>
      have := ih i (by simpa using h)
      rw [show (i + 1) * 3 = i * 3 + 1 + 1 + 1 by omega]
      simp only [List.set_cons_succ]
      rw [this]
      rfl

set_option maxHeartbeats 1000000 in
theorem markPointS_ok (base : Nat) (A : Option Addr) (n c : Nat) (ps : List P3) (k : Int) (w : World) (hown : OP w base (.slice A n c) ps) (hn : n ≤ 4398046511104) (hl : ps.length = n) (hk : 0 ≤ k) (hk2 : k ≤ 1000000000000) :
    Calls Try.prog 19 #[.slice A n c, .int .i64 k] w fun e w' => e = .returned (.int .i64 (k + n * 3)) ∧ OP w' base (.slice A n c) (marks k n) ∧ w.grownBy w' (Value.slice A n c).ownBlock := by
  have HOw := hid hown
  go_enter Try.func19, Try.ntmps19
  go_wp2
  go_loopw [1, 5] (fun u t wr => ∃ i : Nat, i ≤ n ∧ t = .int .i64 i ∧ u = .int .i64 (k + i * 3) ∧ OP wr base (.slice A n c) (marked k ps i) ∧ w.grownBy wr (Value.slice A n c).ownBlock) (fun _ t _ => n - (intOf t).toNat)
  case atStart => exact ⟨0, by omega, rfl, by go_num, HOw.out, World.grownBy.refl _ _⟩
  case round =>
    obtain ⟨i, hi, rfl, rfl, ho, hg⟩ := hrel
    have HO := hid ho
    have HG := hid hg
    clear ho hg
    by_cases hlt : i < n
    · have hlen := marked_length k ps i (by omega)
      obtain ⟨g, cap, hv, hbg, hglt, hcell⟩ := HO.out.shape (by omega)
      have hv2 : A = some ⟨g, 0, none⟩ ∧ c = cap := by simp at hv; exact ⟨hv.1, hv.2.2⟩
      obtain ⟨rfl, rfl⟩ := hv2
      obtain ⟨c0, c1, c2⟩ := hcell i (by omega)
      have hw : wr.ownsRow base 35 3 (.slice (some ⟨g, 0, none⟩) n c) n (pcells (marked k ps i)) := by
        have := HO.out
        unfold OP at this
        rwa [hlen, hl] at this
      have s1 := World.ownsRow.stored hw (i * 3) (.int .i64 (k + i * 3))
      have s2 := World.ownsRow.stored s1.1 (i * 3 + 1) (.int .i64 (k + i * 3 + 1))
      have s3 := World.ownsRow.stored s2.1 (i * 3 + 2) (.int .i64 (k + i * 3 + 1 + 1))
      have f0 := World.ownsRow.frozenAt hw (i * 3)
      have f1 := World.ownsRow.frozenAt hw (i * 3 + 1)
      have f2 := World.ownsRow.frozenAt hw (i * 3 + 2)
      have hset := pcells_set (marked k ps i) i (mk3 k i) (by omega)
      rw [marked_set k ps i (by omega)] at hset
      have H3 := hid s3.1
      have G3 := hid (gb3 (gb3 s1.2 s2.2) s3.2)
      have HSet := hid hset
      clear s1 s2 s3 hset hw hcell hv hlen
      go_wp2
      refine wp_loop_rounds 4 ?_
      rw [rounds_succ]
      go_wp2
      rw [rounds_succ]
      go_wp2
      rw [rounds_succ]
      go_wp2
      rw [rounds_succ]
      go_wp2
      go_roundw
      case rel =>
        refine ⟨i + 1, by omega, by go_num, by go_num, ?_, gb3 HG.out G3.out⟩
        have h := H3.out
        rw [show (k + (i : Int) * 3 : Int) = (mk3 k i).1 from rfl, show ((mk3 k i).1 + 1 : Int) = (mk3 k i).2.1 from rfl, show ((mk3 k i).2.1 + 1 : Int) = (mk3 k i).2.2 from rfl, HSet.out] at h
        unfold OP
        rw [marked_length k ps (i + 1) (by omega), hl]
        exact h
      case measure => simp [intOf]; omega
    · obtain rfl : i = n := by omega
      have HM := hid (show marked k ps i = marks k i by rw [marked, List.drop_eq_nil_of_le (by omega), List.append_nil])
      go_wp2
      go_ret
      exact ⟨rfl, by rw [← HM.out]; exact HO.out, HG.out⟩

theorem marks_length (k : Int) (n : Nat) : (marks k n).length = n := by simp [marks]
theorem marks_get (k : Int) (n i : Nat) (h : i < n) : (marks k n).getD i default = mk3 k i := by simp [marks, List.getD_eq_getElem?_getD, List.getElem?_map, List.getElem?_range h]


def ptsB (p : Int) : List P3 := if isPrimeB p then allPts p.toNat else []


theorem implPointAll_ok (p : Int) (w : World) :
    Calls Try.prog 37 #[.int .i64 p] w fun e w' => ∃ v, e = .returned (.tuple #[v, .bool (isPrimeB p)]) ∧ OP w' w.heap.size v (ptsB p) ∧ Below w.heap.size w w' := by
  cases hp : isPrimeB p
  · have HP := hid hp
    clear hp
    go_enter Try.func37, Try.ntmps37
    go_wp2_with (go_at_call 63; refine (isPrime_ok p _).mono ?_; rintro e w1 ⟨rfl, hb⟩; rw [HP.out])
    go_ret2
    exact ⟨_, rfl, by rw [ptsB, HP.out]; exact World.ownsRow_nil _ _ _ _, hb⟩
  · have HP := hid hp
    have hbd := isPrimeB_bd hp
    clear hp
    obtain ⟨k, rfl⟩ := Int.eq_ofNat_of_zero_le (show 0 ≤ p by omega)
    go_enter Try.func37, Try.ntmps37
    go_wp2_with (first | (go_at_call 63; refine (isPrime_ok k _).mono ?_; rintro e w1 ⟨rfl, hb1⟩; rw [HP.out]; have HB1 := hid hb1; clear hb1) | (go_at_call 64; refine (allPoints_ok k _ (by omega)).mono ?_; rintro e w2 ⟨v, rfl, hown, hb⟩; have HO := hid hown; have HB := hid hb; clear hown hb))
    go_ret2
    exact ⟨_, rfl, by rw [ptsB, HP.out]; exact HO.out.mono HB1.out.size, below_trans HB1.out HB.out⟩

end Go.Proofs.Ytkhkcgoblibnpaa
