/-
  Drawn cubics with two points.
-/
import Derived.Test.YtkddhlgohjojpaaDv
namespace Go.Proofs.Ytkddhlgohjojpaa
open Go.RowKit
set_option linter.unusedVariables false
set_option linter.unusedSimpArgs false

theorem RI.put {w : World} {A : Option Addr} {n k base : Nat} {xs : List Int} (h : RI w A n xs) (hA : ∀ b off, A = some ⟨b, off, none⟩ → base ≤ b) (hk : k < base) (x y z : Value) : RI (((w.setCell ⟨k, 0, none⟩ x).setCell ⟨k, 1, none⟩ y).setCell ⟨k, 2, none⟩ z) A n xs := by
  obtain ⟨h1, h2, b, off, h3, h4⟩ := h
  refine ⟨h1, h2, b, off, h3, fun j hj => ?_⟩
  have hne : k ≠ b := by
    rcases h3 with h3 | h3
    · omega
    · have := hA b off h3; omega
  exact (World.cell?_setCell_other (v := z) _ ⟨k, 2, none⟩ ⟨b, off + j, none⟩ (fun e => hne (by injection e with e))).trans ((World.cell?_setCell_other (v := y) _ ⟨k, 1, none⟩ ⟨b, off + j, none⟩ (fun e => hne (by injection e with e))).trans ((World.cell?_setCell_other (v := x) _ ⟨k, 0, none⟩ ⟨b, off + j, none⟩ (fun e => hne (by injection e with e))).trans (h4 j hj)))

theorem drewRI {w : World} {A : Option Addr} {n : Nat} {xs : List Int} (h : RI w A n xs) : RI w.drew A n xs := h
theorem drewB {B : Nat} {w w1 : World} (h : Below B w w1) : Below B w w1.drew := h.drew
set_option maxRecDepth 100000 in
set_option maxHeartbeats 4000000 in
theorem DrawCubicSlope_ok (A : Option Addr) (n c : Nat) (xs : List Int) (w : World) (hr : RB w A n c xs) :
    Calls Try.prog 35 #[.slice A n c] w fun e w' => ∃ (p : Int) (A' : Option Addr) (n' c' : Nat) (ys : List Int) (q q2 : Int × Int × Int), e = .returned (.tuple #[.int .i64 p, .slice A' n' c', ptVal q, ptVal q2]) ∧ 5 ≤ p ∧ p ≤ 31 ∧ RI w' A' n' ys ∧ n' ≤ 10 ∧ Below w.heap.size w w' := by
  have HR0 := hid (hr.below (below_trans (below_alloc w (.cells #[.int .i64 0, .int .i64 0, .int .i64 0] 31)) (below_alloc _ (.cells #[.int .i64 0, .int .i64 0, .int .i64 0] 31))))
  have I0 := hid ((IBox.new w 0 0 0).below (below_alloc _ (.cells #[.int .i64 0, .int .i64 0, .int .i64 0] 31)))
  have J0 := hid (IBox.new (w.alloc (.cells #[.int .i64 0, .int .i64 0, .int .i64 0] 31)) 0 0 0)
  have hs0 : (w.alloc (.cells #[.int .i64 0, .int .i64 0, .int .i64 0] 31)).heap.size = w.heap.size + 1 := by simp
  rw [hs0] at J0
  have B0 := hid (below_trans (below_alloc w (.cells #[.int .i64 0, .int .i64 0, .int .i64 0] 31)) (below_alloc _ (.cells #[.int .i64 0, .int .i64 0, .int .i64 0] 31)))
  clear hs0
  go_enter Try.func35, Try.ntmps35
  go_wp2_with fail
  refine (l6Open_ok A n c xs _ HR0.out).mono ?_
  rintro e w1 ⟨R, rfl, hR, hd, hb⟩
  have B1 := hid (below_trans B0.out hb)
  have I1 := hid (I0.out.below hb)
  have J1 := hid (J0.out.below hb)
  have hRs : w.heap.size + 1 < R := by rw [hR]; simp
  clear hR hb
  go_wp2_with fail
  refine (l92Prime_ok R 0 w1 hd (by omega) (by omega)).mono ?_
  rintro e w2 ⟨p, rfl, p0, p1, hd2, hg⟩
  have B2 := hid (Below.gbs B1.out B1.out.size (by omega) hg)
  have I2 := hid (I1.out.gb hg (by omega))
  have J2 := hid (J1.out.gb hg (by omega))
  have hlt2 := hd2.lt
  clear hg hd
  go_wp2_with fail
  refine (l92Cubic_ok R _ p w2 hd2 (by omega) (by omega) p0 p1).mono ?_
  rintro e w3 ⟨A', n', c', ys, rfl, hri, hA, hn', ⟨c3, hc0, hc1, hd3⟩, hg⟩
  have B3 := hid (Below.gbs B2.out B2.out.size (by omega) hg)
  have I3 := hid (I2.out.gb hg (by omega))
  have J3 := hid (J2.out.gb hg (by omega))
  have HRI := hid hri
  have HA := hid hA
  clear hg hd2 hri hA
  go_wp2_with fail
  refine (l92Point_ok R c3 p w3 hd3 (by omega) (by omega) p0 p1).mono ?_
  rintro e w4 ⟨⟨a0, a1, a2⟩, rfl, ⟨c4, hc40, hc41, hd4⟩, hg⟩
  have B4 := hid (Below.gbs B3.out B3.out.size (by omega) hg)
  have I4 := hid (I3.out.gb hg (by omega))
  have J4 := hid (J3.out.gb hg (by omega))
  have R4 := hid (HRI.out.gbR HA.out hlt2 hg)
  have HAv := hid (show ptVal (a0, a1, a2) = .agg #[.int .i64 a0, .int .i64 a1, .int .i64 a2] from rfl)
  rw [HAv.out]
  have K5 := hid (IBox.new w4 a0 a1 a2)
  have B5 := hid (B4.out.alloc B4.out.size (.cells #[.int .i64 a0, .int .i64 a1, .int .i64 a2] 31))
  have I5 := hid (I4.out.below (below_alloc w4 (.cells #[.int .i64 a0, .int .i64 a1, .int .i64 a2] 31)))
  have J5 := hid (J4.out.below (below_alloc w4 (.cells #[.int .i64 a0, .int .i64 a1, .int .i64 a2] 31)))
  have R5 := hid (R4.out.alloc (.cells #[.int .i64 a0, .int .i64 a1, .int .i64 a2] 31))
  have D5 := hid (hd4.below (below_alloc w4 (.cells #[.int .i64 a0, .int .i64 a1, .int .i64 a2] 31)))
  have hs4 : R < w4.heap.size := hd4.lt
  clear hg hd3 hd4
  go_wp2_with fail
  refine (pick_ok R c4 4 _ D5.out (by omega) (by omega) (by omega)).mono ?_
  rintro e w6 ⟨r, rfl, r0, r1, hd6, hg6⟩
  have B6 := hid (Below.gbs B5.out B5.out.size (by omega) hg6)
  have I6 := hid (I5.out.gb hg6 (by omega))
  have J6 := hid (J5.out.gb hg6 (by omega))
  have K6 := hid (K5.out.gb hg6 (by omega))
  have R6 := hid (R5.out.gbR HA.out hlt2 hg6)
  have D6 := hid hd6
  have n1 : ¬ w4.heap.size = w.heap.size := by omega
  have n2 : ¬ w4.heap.size = w.heap.size + 1 := by omega
  have n3 : ¬ w.heap.size = w.heap.size + 1 := by omega
  have hb2 : w.heap.size + 1 < w2.heap.size := by omega
  clear hg6 hd6 r1
  cases hq : (r == 0)
  · have k0 := K6.out.cells.1
    have k1 := K6.out.cells.2.1
    have k2 := K6.out.cells.2.2.1
    go_wp2
    go_region_held_law (fun w' => w'.cell? ⟨w4.heap.size, 0, none⟩ = some (.int .i64 a0) ∧ w'.cell? ⟨w4.heap.size, 1, none⟩ = some (.int .i64 a1) ∧ w'.cell? ⟨w4.heap.size, 2, none⟩ = some (.int .i64 a2)) (first | with_reducible exact ⟨l0, l1, l2⟩ | with_reducible exact k3of (((K7.out.other n1).other n1).other n1) | with_reducible exact k3of ((((((K7.out.other n1).other n1).other n1).other n2).other n2).other n2) | go_keep)
      (first
        | (go_at_call 61; refine (l92Point_ok R _ p _ (D6.out.drewN 1) (by omega) (by omega) p0 p1).mono ?_; rintro e w7 ⟨⟨b0, b1, b2⟩, rfl, _, hg⟩; have B7 := hid (Below.gbs (below_drewN B6.out 1) B6.out.size (by omega) hg); have I7 := hid (IBox.gb (show IBox w6.drew _ _ _ _ from I6.out) hg (by omega)); have J7 := hid (IBox.gb (show IBox w6.drew _ _ _ _ from J6.out) hg (by omega)); have K7 := hid (IBox.gb (show IBox w6.drew _ _ _ _ from K6.out) hg (by omega)); have R7 := hid (RI.gbR (show RI w6.drew _ _ _ from R6.out) HA.out hlt2 hg); have HBv := hid (show ptVal (b0, b1, b2) = .agg #[.int .i64 b0, .int .i64 b1, .int .i64 b2] from rfl); rw [HBv.out]; have l0 := K7.out.cells.1; have l1 := K7.out.cells.2.1; have l2 := K7.out.cells.2.2.1; obtain ⟨x0, x1, x2, f0, f1, f2⟩ := I7.out.cells; obtain ⟨y0, y1, y2, g0, g1, g2⟩ := J7.out.cells; clear hg))
    have I8 := hid ((I7.out.put a0 a1 a2).far n3 (.int .i64 b0) (.int .i64 b1) (.int .i64 b2))
    have J8 := hid ((J7.out.far (fun e => n3 e.symm) (.int .i64 a0) (.int .i64 a1) (.int .i64 a2)).put b0 b1 b2)
    have B8 := hid (below_put (below_put B7.out (Nat.le_refl _) (.int .i64 a0) (.int .i64 a1) (.int .i64 a2)) (Nat.le_succ _) (.int .i64 b0) (.int .i64 b1) (.int .i64 b2))
    have R8 := hid ((R7.out.put HA.out (show w.heap.size < w2.heap.size by omega) (.int .i64 a0) (.int .i64 a1) (.int .i64 a2)).put HA.out hb2 (.int .i64 b0) (.int .i64 b1) (.int .i64 b2))
    obtain ⟨u0, u1, u2, _⟩ := I8.out.cells
    obtain ⟨v0, v1, v2, _⟩ := J8.out.cells
    clear x0 x1 x2 f0 f1 f2 y0 y1 y2 g0 g1 g2 l0 l1 l2
    go_wp2
    refine bodyPost_ret (v := .tuple #[.int .i64 p, .slice A' n' c', ptVal (a0, a1, a2), ptVal (b0, b1, b2)]) (by simp [results, Try.results35, go_sem, ptVal, u0, u1, u2, v0, v1, v2]) rfl ?_
    refine ⟨p, A', n', c', ys, (a0, a1, a2), (b0, b1, b2), rfl, p0, p1, ?_, hn', ?_⟩
    · with_reducible exact R8.out
    · with_reducible exact B8.out
  · obtain ⟨x0, x1, x2, f0, f1, f2⟩ := I6.out.cells
    obtain ⟨y0, y1, y2, g0, g1, g2⟩ := J6.out.cells
    obtain ⟨k0, k1, k2, _⟩ := K6.out.cells
    go_wp2
    go_region_held_law (fun w' => w'.cell? ⟨w4.heap.size, 0, none⟩ = some (.int .i64 a0) ∧ w'.cell? ⟨w4.heap.size, 1, none⟩ = some (.int .i64 a1) ∧ w'.cell? ⟨w4.heap.size, 2, none⟩ = some (.int .i64 a2))
      (first | with_reducible exact k3of (drewI (((K6.out.other n1).other n1).other n1)) | with_reducible exact k3of (drewI ((((((K6.out.other n1).other n1).other n1).other n2).other n2).other n2)) | go_keep) (fail)
    have I7 := hid (drewI ((I6.out.put a0 a1 a2).far n3 (.int .i64 a0) (.int .i64 a1) (.int .i64 a2)))
    have J7 := hid (drewI ((J6.out.far (fun e => n3 e.symm) (.int .i64 a0) (.int .i64 a1) (.int .i64 a2)).put a0 a1 a2))
    have B7 := hid (drewB (below_put (below_put B6.out (Nat.le_refl _) (.int .i64 a0) (.int .i64 a1) (.int .i64 a2)) (Nat.le_succ _) (.int .i64 a0) (.int .i64 a1) (.int .i64 a2)))
    have R7 := hid (drewRI ((R6.out.put HA.out (show w.heap.size < w2.heap.size by omega) (.int .i64 a0) (.int .i64 a1) (.int .i64 a2)).put HA.out hb2 (.int .i64 a0) (.int .i64 a1) (.int .i64 a2)))
    obtain ⟨u0, u1, u2, _⟩ := I7.out.cells
    obtain ⟨v0, v1, v2, _⟩ := J7.out.cells
    clear x0 x1 x2 f0 f1 f2 y0 y1 y2 g0 g1 g2 k0 k1 k2
    go_wp2
    refine bodyPost_ret (v := .tuple #[.int .i64 p, .slice A' n' c', ptVal (a0, a1, a2), ptVal (a0, a1, a2)]) (by simp [results, Try.results35, go_sem, ptVal, u0, u1, u2, v0, v1, v2]) rfl ?_
    refine ⟨p, A', n', c', ys, (a0, a1, a2), (a0, a1, a2), rfl, p0, p1, ?_, hn', ?_⟩
    · with_reducible exact R7.out
    · with_reducible exact B7.out

end Go.Proofs.Ytkddhlgohjojpaa
