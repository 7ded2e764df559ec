/-
  Drawn cubics with a point.
-/
import Derived.Test.YtkddhlgohjojpaaDc
namespace Go.Proofs.Ytkddhlgohjojpaa
open Go.RowKit
set_option linter.unusedVariables false
set_option linter.unusedSimpArgs false

set_option maxHeartbeats 1000000 in
theorem DrawCubicValue_ok (A : Option Addr) (n c : Nat) (xs : List Int) (w : World) (hr : RB w A n c xs) :
    Calls Try.prog 30 #[.slice A n c] w fun e w' => ∃ (p : Int) (A' : Option Addr) (n' c' : Nat) (ys : List Int) (q : Int × Int × Int), e = .returned (.tuple #[.int .i64 p, .slice A' n' c', ptVal q]) ∧ 5 ≤ p ∧ p ≤ 31 ∧ RI w' A' n' ys ∧ n' ≤ 10 ∧ Below w.heap.size w w' := by
  have HR0 := hid (hr.below (below_alloc w (.cells #[.int .i64 0, .int .i64 0, .int .i64 0] 31)))
  have I0 := hid (IBox.new w 0 0 0)
  have B0 := hid (below_alloc w (.cells #[.int .i64 0, .int .i64 0, .int .i64 0] 31))
  go_enter Try.func30, Try.ntmps30
  go_wp2_with fail
  refine (l6Open_ok A n c xs _ HR0.out).mono ?_
  rintro e w1 ⟨R, rfl, hR, hd, hb⟩
  have B1 := hid (below_trans B0.out hb)
  have I1 := hid (I0.out.below hb)
  have hRs : w.heap.size < R := by rw [hR]; simp
  clear hR hb
  go_wp2_with fail
  refine (l92Prime_ok R 0 w1 hd (by omega) (by omega)).mono ?_
  rintro e w2 ⟨p, rfl, p0, p1, hd2, hg⟩
  have B2 := hid (Below.gbs B1.out B1.out.size (by omega) hg)
  have I2 := hid (I1.out.gb hg (by omega))
  have hlt2 := hd2.lt
  clear hg hd
  go_wp2_with fail
  refine (l92Cubic_ok R _ p w2 hd2 (by omega) (by omega) p0 p1).mono ?_
  rintro e w3 ⟨A', n', c', ys, rfl, hri, hA, hn', ⟨c3, hc0, hc1, hd3⟩, hg⟩
  have B3 := hid (Below.gbs B2.out B2.out.size (by omega) hg)
  have I3 := hid (I2.out.gb hg (by omega))
  have HRI := hid hri
  have HA := hid hA
  clear hg hd2 hri hA
  go_wp2_with fail
  refine (l92Point_ok R c3 p w3 hd3 (by omega) (by omega) p0 p1).mono ?_
  rintro e w4 ⟨⟨a0, a1, a2⟩, rfl, _, hg⟩
  have B4 := hid (Below.gbs B3.out B3.out.size (by omega) hg)
  have I4 := hid (I3.out.gb hg (by omega))
  have R4 := hid (HRI.out.gbR HA.out hlt2 hg)
  have HAv := hid (show ptVal (a0, a1, a2) = .agg #[.int .i64 a0, .int .i64 a1, .int .i64 a2] from rfl)
  rw [HAv.out]
  obtain ⟨x0, x1, x2, f0, f1, f2⟩ := I4.out.cells
  have I5 := hid (I4.out.put a0 a1 a2)
  have B5 := hid (below_put B4.out (Nat.le_refl _) (.int .i64 a0) (.int .i64 a1) (.int .i64 a2))
  have R5 := hid (show RI (((w4.setCell ⟨w.heap.size, 0, none⟩ (.int .i64 a0)).setCell ⟨w.heap.size, 1, none⟩ (.int .i64 a1)).setCell ⟨w.heap.size, 2, none⟩ (.int .i64 a2)) A' n' ys from by
    obtain ⟨h1, h2, b, off, h3, h4⟩ := R4.out
    refine ⟨h1, h2, b, off, h3, fun j hj => ?_⟩
    have hne : w.heap.size ≠ b := by
      rcases h3 with h3 | h3
      · omega
      · have := HA.out b off h3; omega
    exact (World.cell?_setCell_other (v := .int .i64 a2) _ ⟨w.heap.size, 2, none⟩ ⟨b, off + j, none⟩ (fun e => hne (by injection e with e))).trans ((World.cell?_setCell_other (v := .int .i64 a1) _ ⟨w.heap.size, 1, none⟩ ⟨b, off + j, none⟩ (fun e => hne (by injection e with e))).trans ((World.cell?_setCell_other (v := .int .i64 a0) _ ⟨w.heap.size, 0, none⟩ ⟨b, off + j, none⟩ (fun e => hne (by injection e with e))).trans (h4 j hj))))
  obtain ⟨u0, u1, u2, _⟩ := I5.out.cells
  clear hg hd3
  go_wp2
  refine bodyPost_ret (v := .tuple #[.int .i64 p, .slice A' n' c', ptVal (a0, a1, a2)]) (by simp [results, Try.results30, go_sem, ptVal, u0, u1, u2]) rfl ⟨p, A', n', c', ys, (a0, a1, a2), rfl, p0, p1, R5.out, hn', B5.out⟩

end Go.Proofs.Ytkddhlgohjojpaa
