/-
  Drawn points, alone and by their numbers.
-/
import Derived.Test.YtkddhlgohjojpaaDp
namespace Go.Proofs.Ytkddhlgohjojpaa
open Go.RowKit
set_option linter.unusedVariables false
set_option linter.unusedSimpArgs false

set_option maxHeartbeats 1000000 in
theorem DrawPointIn_ok (A : Option Addr) (n c : Nat) (xs : List Int) (w : World) (hr : RB w A n c xs) :
    Calls Try.prog 31 #[.slice A n c] w fun e w' => ∃ (p : Int) (q : Int × Int × Int), e = .returned (.tuple #[.int .i64 p, ptVal q]) ∧ 5 ≤ p ∧ p ≤ 31 ∧ Below w.heap.size w w' := by
  have HR0 := hid (hr.below (below_alloc w (.cells #[.int .i64 0, .int .i64 0, .int .i64 0] 31)))
  have I0 := hid (IBox.new w 0 0 0)
  have B0 := hid (below_alloc w (.cells #[.int .i64 0, .int .i64 0, .int .i64 0] 31))
  clear hr
  go_enter Try.func31, Try.ntmps31
  go_wp2_with fail
  refine (l6Open_ok A n c xs _ HR0.out).mono ?_
  rintro e w1 ⟨R, rfl, hR, hd, hb⟩
  have B1 := hid (below_trans B0.out hb)
  have I1 := hid (I0.out.below hb)
  have hlt : w.heap.size < R := by rw [hR]; simp
  clear hR hb
  go_wp2_with fail
  refine (l92Prime_ok R 0 w1 hd (by omega) (by omega)).mono ?_
  rintro e w2 ⟨p, rfl, p0, p1, hd2, hg⟩
  have B2 := hid (Below.gbs B1.out B1.out.size (by omega) hg)
  have I2 := hid (I1.out.gb hg (by omega))
  clear hg hd
  go_wp2_with fail
  refine (l92Point_ok R _ p w2 hd2 (by omega) (by omega) p0 p1).mono ?_
  rintro e w3 ⟨⟨a0, a1, a2⟩, rfl, ⟨c3, hc0, hc1, hd3⟩, hg⟩
  have B3 := hid (Below.gbs B2.out B2.out.size (by omega) hg)
  have I3 := hid (I2.out.gb hg (by omega))
  have HA := hid (show ptVal (a0, a1, a2) = .agg #[.int .i64 a0, .int .i64 a1, .int .i64 a2] from rfl)
  rw [HA.out]
  have I4 := hid (I3.out.put a0 a1 a2)
  have B4 := hid (below_put B3.out (Nat.le_refl _) (.int .i64 a0) (.int .i64 a1) (.int .i64 a2))
  obtain ⟨x0, x1, x2, f0, f1, f2⟩ := I3.out.cells
  obtain ⟨u0, u1, u2, _⟩ := I4.out.cells
  clear hg hd2 hd3
  go_wp2
  refine bodyPost_ret (v := .tuple #[.int .i64 p, ptVal (a0, a1, a2)]) (by simp [results, Try.results31, go_sem, ptVal, u0, u1, u2]) rfl ⟨p, (a0, a1, a2), rfl, p0, p1, ?_⟩
  with_reducible exact B4.out

set_option maxHeartbeats 1000000 in
theorem DrawPointOf_ok (A : Option Addr) (n c : Nat) (xs : List Int) (w : World) (hr : RB w A n c xs) :
    Calls Try.prog 28 #[.slice A n c] w fun e w' => ∃ (p x y z : Int), e = .returned (.tuple #[.int .i64 p, .int .i64 x, .int .i64 y, .int .i64 z]) ∧ Below w.heap.size w w' ∧ (5 ≤ p ∧ p ≤ 31) ∧ (-2000 ≤ x ∧ x ≤ 2000) ∧ (-2000 ≤ y ∧ y ≤ 2000) ∧ (-2000 ≤ z ∧ z ≤ 2000) := by
  go_enter Try.func28, Try.ntmps28
  go_wp2_with fail
  refine (l6Open_ok A n c xs w hr).mono ?_
  rintro e w1 ⟨R, rfl, hR, hd, hb⟩
  have HR := hid hR
  have HB := hid hb
  clear hR hb
  go_wp2_with fail
  refine (l92Prime_ok R 0 w1 hd (by omega) (by omega)).mono ?_
  rintro e w2 ⟨p, rfl, p0, p1, hd2, hg⟩
  have G2 := hid hg
  clear hg hd
  go_wp2_with fail
  refine (pick_ok R _ 41 w2 hd2 (by omega) (by omega) (by omega)).mono ?_
  rintro e w3 ⟨a, rfl, a0, a1, hd3, hg⟩
  have G3 := hid (gb_trans G2.out hg)
  clear hg hd2
  go_wp2_with fail
  refine (pick_ok R _ 41 w3 hd3 (by omega) (by omega) (by omega)).mono ?_
  rintro e w4 ⟨b, rfl, b0, b1, hd4, hg⟩
  have G4 := hid (gb_trans G3.out hg)
  clear hg hd3
  go_wp2_with fail
  refine (pick_ok R _ 2 w4 hd4 (by omega) (by omega) (by omega)).mono ?_
  rintro e w5 ⟨k, rfl, k0, k1, hd5, hg⟩
  have G5 := hid (gb_trans G4.out hg)
  clear hg hd4
  have hx : -20 ≤ (a - 20) * k ∧ (a - 20) * k ≤ 20 := by rcases (show k = 0 ∨ k = 1 by omega) with rfl | rfl <;> omega
  go_wp2_with fail
  refine (pick_ok R _ 2 w5 hd5 (by omega) (by omega) (by omega)).mono ?_
  rintro e w6 ⟨l, rfl, l0, l1, hd6, hg⟩
  have G6 := hid (gb_trans G5.out hg)
  clear hg hd5
  have hy : -20 ≤ (b - 20) * l ∧ (b - 20) * l ≤ 20 := by rcases (show l = 0 ∨ l = 1 by omega) with rfl | rfl <;> omega
  go_wp2_with fail
  refine (pick_ok R _ 41 w6 hd6 (by omega) (by omega) (by omega)).mono ?_
  rintro e w7 ⟨m, rfl, m0, m1, hd7, hg⟩
  have G7 := hid (gb_trans G6.out hg)
  clear hg hd6
  go_wp2_with fail
  refine (pick_ok R _ 20 w7 hd7 (by omega) (by omega) (by omega)).mono ?_
  rintro e w8 ⟨q, rfl, q0, q1, hd8, hg⟩
  have G8 := hid (gb_trans G7.out hg)
  clear hg hd7 hd8
  have hq : q.tdiv 19 = q / 19 := Int.tdiv_eq_ediv_of_nonneg q0
  have hz : 0 ≤ q.tdiv 19 ∧ q.tdiv 19 ≤ 1 := by rw [hq]; omega
  clear hq
  go_wp2
  refine bodyPost_ret (v := .tuple #[.int .i64 p, .int .i64 ((a - 20) * k), .int .i64 ((b - 20) * l), .int .i64 (m - 20 + q.tdiv 19 * 1000)]) (by simp [results, Try.results28, go_sem]) rfl ⟨p, _, _, _, rfl, gb_open HB.out HR.out G8.out, ⟨p0, p1⟩, by omega, by omega, by omega⟩

end Go.Proofs.Ytkddhlgohjojpaa
