/-
  Contracts: whether a point is among points.
-/
import Derived.Test.YtkhkcgoblibnpaaAp
import Derived.Test.YtkhkcgoblibnpaaEq
namespace Go.Proofs.Ytkhkcgoblibnpaa
open Go.RowKit
set_option linter.unusedVariables false
set_option linter.unusedSimpArgs false

/-- The place of the first point that q holds of. -/
def idxP (q : P3 → Bool) : List P3 → Nat → Int
  | [], _ => -1
  | b :: bs, k => if q b then (k : Int) else idxP q bs (k + 1)
theorem idxP_yes {q : P3 → Bool} {xs : List P3} {k : Nat} (h : k < xs.length) (hp : q (xs.getD k default) = true) : idxP q (xs.drop k) k = k := by
  rw [List.drop_eq_getElem_cons h, idxP]
  rw [List.getD_eq_getElem?_getD, List.getElem?_eq_getElem h] at hp
  rw [if_pos (by simpa using hp)]
theorem idxP_no {q : P3 → Bool} {xs : List P3} {k : Nat} (h : k < xs.length) (hp : q (xs.getD k default) = false) : idxP q (xs.drop k) k = idxP q (xs.drop (k + 1)) (k + 1) := by
  rw [List.drop_eq_getElem_cons h, idxP]
  rw [List.getD_eq_getElem?_getD, List.getElem?_eq_getElem h] at hp
  rw [if_neg (by simp at hp; simp [hp])]
theorem idxP_any (q : P3 → Bool) : ∀ (xs : List P3) (k : Nat), decide (0 ≤ idxP q xs k) = xs.any q
  | [], _ => by simp [idxP]
  | b :: bs, k => by
    rw [idxP, List.any_cons]
    cases h : q b
    · simp only [Bool.false_or]; exact idxP_any q bs (k + 1)
    · simp
def samePt (x y z : Int) (b : P3) : Bool := (x == b.1 && y == b.2.1) && z == b.2.2

set_option maxHeartbeats 1000000 in
theorem IndexPt_ok (A : Option Addr) (n c : Nat) (ps : List P3) (x y z : Int) (w : World) (hr : RP w A n ps) :
    Calls Try.prog 80 #[.slice A n c, .agg #[.int .i64 x, .int .i64 y, .int .i64 z]] w fun e w' => e = .returned (.int .i64 (idxP (samePt x y z) ps 0)) ∧ Below w.heap.size w w' := by
  have HR := hid (hr.below (below_alloc w (.cells #[.int .i64 x, .int .i64 y, .int .i64 z] 35)))
  have hl := hr.1
  have hn64 := hr.2.1
  have B0 := hid (below_alloc w (.cells #[.int .i64 x, .int .i64 y, .int .i64 z] 35))
  have c0 : (w.alloc (.cells #[.int .i64 x, .int .i64 y, .int .i64 z] 35)).cell? ⟨w.heap.size, 0, none⟩ = some (.int .i64 x) := by rw [World.cell?_alloc_at _ _ _ _ rfl]; rfl
  have c1 : (w.alloc (.cells #[.int .i64 x, .int .i64 y, .int .i64 z] 35)).cell? ⟨w.heap.size, 1, none⟩ = some (.int .i64 y) := by rw [World.cell?_alloc_at _ _ _ _ rfl]; rfl
  have c2 : (w.alloc (.cells #[.int .i64 x, .int .i64 y, .int .i64 z] 35)).cell? ⟨w.heap.size, 2, none⟩ = some (.int .i64 z) := by rw [World.cell?_alloc_at _ _ _ _ rfl]; rfl
  have HC := hid (And.intro c0 (And.intro c1 c2))
  clear hr c0 c1 c2
  go_enter Try.func80, Try.ntmps80
  go_wp2
  obtain ⟨gp, hgp⟩ : ∃ gp, gp = w.heap.size := ⟨_, rfl⟩
  have HGp := hid hgp
  rw [← hgp] at HC ⊢
  clear hgp
  generalize w.alloc (.cells #[.int .i64 x, .int .i64 y, .int .i64 z] 35) = W at *
  go_loopw [5, 8] (fun _ t wr => ∃ k : Nat, k ≤ n ∧ t = .int .i64 k ∧ idxP (samePt x y z) ps 0 = idxP (samePt x y z) (ps.drop k) k ∧ ∃ m, wr = W.drewN m) (fun _ t _ => n - (intOf t).toNat)
  case atStart => exact ⟨0, by omega, rfl, rfl, 0, rfl⟩
  case round =>
    obtain ⟨k, hk, rfl, hf, m, rfl⟩ := hrel
    have HF := hid hf
    clear hf
    by_cases hlt : k < n
    · obtain ⟨b, off, rfl⟩ := HR.out.addr (by omega)
      have HY := hid (@idxP_yes (samePt x y z) ps k (by omega))
      have HN := hid (@idxP_no (samePt x y z) ps k (by omega))
      have hc := HR.out.at3 hlt
      obtain ⟨q, hq⟩ : ∃ q, ps.getD k default = q := ⟨_, rfl⟩
      rw [hq] at hc HY HN
      clear hq
      obtain ⟨x', y', z'⟩ := q
      obtain ⟨a0, a1, a2⟩ := hc
      have a0 : W.cell? ⟨b, off + k * 3, none⟩ = some (.int .i64 x') := a0
      have a1 : W.cell? ⟨b, off + k * 3 + 1, none⟩ = some (.int .i64 y') := a1
      have a2 : W.cell? ⟨b, off + k * 3 + 2, none⟩ = some (.int .i64 z') := a2
      obtain ⟨c0, c1, c2⟩ := HC.out
      have heq := run_eqlPt x y z x' y' z'
      have hgd := guardPt
      cases hq : ((x == x' && y == y') && z == z')
      · have HQ := hid (HN.out hq)
        rw [hq] at heq
        clear hq HY HN
        go_wp2
        go_quiet (fail)
        go_wp2
        go_roundw
        case rel => exact ⟨k + 1, by omega, by go_num, by rw [HF.out, HQ.out], _, rfl⟩
        case measure => simp [intOf]; omega
      · have HQ := hid (HY.out hq)
        rw [hq] at heq
        clear hq HY HN
        go_wp2
        go_quiet (fail)
        go_wp2
        go_ret
        exact ⟨by rw [HF.out, HQ.out]; rfl, below_drewN (below_drewN B0.out _) _⟩
    · go_wp2
      go_ret
      exact ⟨by rw [HF.out, List.drop_eq_nil_of_le (by omega)]; rfl, below_drewN B0.out _⟩

theorem ContainsPt_ok (A : Option Addr) (n c : Nat) (ps : List P3) (x y z : Int) (w : World) (hr : RP w A n ps) :
    Calls Try.prog 52 #[.slice A n c, .agg #[.int .i64 x, .int .i64 y, .int .i64 z]] w fun e w' => e = .returned (.bool (ps.any (samePt x y z))) ∧ Below w.heap.size w w' := by
  have HR := hid (hr.below (below_alloc w (.cells #[.int .i64 x, .int .i64 y, .int .i64 z] 35)))
  have B0 := hid (below_alloc w (.cells #[.int .i64 x, .int .i64 y, .int .i64 z] 35))
  have c0 : (w.alloc (.cells #[.int .i64 x, .int .i64 y, .int .i64 z] 35)).cell? ⟨w.heap.size, 0, none⟩ = some (.int .i64 x) := by rw [World.cell?_alloc_at _ _ _ _ rfl]; rfl
  have c1 : (w.alloc (.cells #[.int .i64 x, .int .i64 y, .int .i64 z] 35)).cell? ⟨w.heap.size, 1, none⟩ = some (.int .i64 y) := by rw [World.cell?_alloc_at _ _ _ _ rfl]; rfl
  have c2 : (w.alloc (.cells #[.int .i64 x, .int .i64 y, .int .i64 z] 35)).cell? ⟨w.heap.size, 2, none⟩ = some (.int .i64 z) := by rw [World.cell?_alloc_at _ _ _ _ rfl]; rfl
  have HA := hid (idxP_any (samePt x y z) ps 0)
  clear hr
  go_enter Try.func52, Try.ntmps52
  go_wp2_with fail
  refine (IndexPt_ok A n c ps x y z _ HR.out).mono ?_
  rintro e w1 ⟨rfl, b1⟩
  have B1 := hid (below_trans B0.out b1)
  clear b1 c0 c1 c2
  go_wp2
  go_ret
  exact ⟨by rw [← HA.out]; rfl, B1.out⟩

end Go.Proofs.Ytkhkcgoblibnpaa
