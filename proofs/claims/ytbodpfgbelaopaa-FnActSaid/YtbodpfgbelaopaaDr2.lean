/-
  A drawn class and a drawn root.
-/
import Derived.Test.YtbodpfgbelaopaaDk
import Derived.Deep.RegionHeldLaw
namespace Go.Proofs.Ytbodpfgbelaopaa
open Go.RowKit
set_option linter.unusedVariables false
set_option linter.unusedSimpArgs false

set_option maxRecDepth 100000 in
set_option maxHeartbeats 4000000 in
theorem DrawRootReflect_ok (A : Option Addr) (n c : Nat) (xs : List Int) (w : World) (hr : RB w A n c xs) :
    Calls Try.prog 27 #[.slice A n c] w fun e w' => ∃ (a0 a1 a2 a3 a4 a5 a6 b0 b1 b2 b3 b4 b5 b6 : Int), e = .returned (.tuple #[.agg #[.int .i64 a0, .int .i64 a1, .int .i64 a2, .int .i64 a3, .int .i64 a4, .int .i64 a5, .int .i64 a6], .agg #[.int .i64 b0, .int .i64 b1, .int .i64 b2, .int .i64 b3, .int .i64 b4, .int .i64 b5, .int .i64 b6]]) ∧ Bd 2000 [a0, a1, a2, a3, a4, a5, a6] ∧ Bd 2000 [b0, b1, b2, b3, b4, b5, b6] ∧ Below w.heap.size w w' := by
  have HB0 := hid (below_trans (below_alloc w (.cells #[.int .i64 0, .int .i64 0, .int .i64 0, .int .i64 0, .int .i64 0, .int .i64 0, .int .i64 0] 26)) (below_alloc _ (.cells #[.int .i64 0, .int .i64 0, .int .i64 0, .int .i64 0, .int .i64 0, .int .i64 0, .int .i64 0] 26)))
  have HR0 := hid (hr.below HB0.out)
  have I0 := hid ((CB.new w 26 0 0 0 0 0 0 0).alloc (.cells #[.int .i64 0, .int .i64 0, .int .i64 0, .int .i64 0, .int .i64 0, .int .i64 0, .int .i64 0] 26))
  have J0 := hid (CB.newAt (w.alloc (.cells #[.int .i64 0, .int .i64 0, .int .i64 0, .int .i64 0, .int .i64 0, .int .i64 0, .int .i64 0] 26)) 26 (w.heap.size + 1) (by simp) 0 0 0 0 0 0 0)
  clear hr
  go_enter Try.func27, Try.ntmps27
  go_wp2_with fail
  refine (l6Open_ok A n c xs _ HR0.out).mono ?_
  rintro e w1 ⟨R, rfl, hR, hd, hb⟩
  have B1 := hid (below_trans HB0.out hb)
  have I1 := hid (I0.out.below hb)
  have J1 := hid (J0.out.below hb)
  have hlt : w.heap.size + 1 < R := by rw [hR]; simp
  clear hR hb
  go_wp2_with fail
  refine (l91Class_ok R 0 w1 hd (by omega) (by omega)).mono ?_
  rintro e w2 ⟨a0, a1, a2, a3, a4, a5, a6, rfl, hba, ⟨c2, k0, k1, hd2⟩, hg⟩
  have B2 := hid (B1.out.grown hg B1.out.size (fun k hk => by cases hk; omega))
  have I2 := hid (I1.out.gb hg (by omega))
  have J2 := hid (J1.out.gb hg (by omega))
  have HBa := hid hba
  have hRl : R < w2.heap.size := hd2.lt
  clear hg hd hba
  have K3 := hid (CB.new w2 26 a0 a1 a2 a3 a4 a5 a6)
  have B3 := hid (B2.out.alloc B2.out.size (.cells #[.int .i64 a0, .int .i64 a1, .int .i64 a2, .int .i64 a3, .int .i64 a4, .int .i64 a5, .int .i64 a6] 26))
  have I3 := hid (I2.out.alloc (.cells #[.int .i64 a0, .int .i64 a1, .int .i64 a2, .int .i64 a3, .int .i64 a4, .int .i64 a5, .int .i64 a6] 26))
  have J3 := hid (J2.out.alloc (.cells #[.int .i64 a0, .int .i64 a1, .int .i64 a2, .int .i64 a3, .int .i64 a4, .int .i64 a5, .int .i64 a6] 26))
  have D3 := hid (hd2.below (below_alloc w2 (.cells #[.int .i64 a0, .int .i64 a1, .int .i64 a2, .int .i64 a3, .int .i64 a4, .int .i64 a5, .int .i64 a6] 26)))
  go_wp2
  generalize w2.alloc (.cells #[.int .i64 a0, .int .i64 a1, .int .i64 a2, .int .i64 a3, .int .i64 a4, .int .i64 a5, .int .i64 a6] 26) = W at *
  obtain ⟨p0, p1, p2, p3, p4, p5, p6⟩ := K3.out.seven
  have n1 : w2.heap.size ≠ w.heap.size := by have := I2.out.lt; omega
  have n2 : w2.heap.size ≠ w.heap.size + 1 := by have := J2.out.lt; omega
  have n3 : w.heap.size ≠ w.heap.size + 1 := by omega
  have n4 : w.heap.size + 1 ≠ w.heap.size := by omega
  have hwR : w.heap.size ≠ R := by omega
  have hwR1 : w.heap.size + 1 ≠ R := by omega
  have hyR : w2.heap.size ≠ R := by omega
  clear hd2
  go_region_held_law (fun w' => w'.cell? ⟨w2.heap.size, 0, none⟩ = some (.int .i64 a0) ∧ w'.cell? ⟨w2.heap.size, 1, none⟩ = some (.int .i64 a1) ∧ w'.cell? ⟨w2.heap.size, 2, none⟩ = some (.int .i64 a2) ∧ w'.cell? ⟨w2.heap.size, 3, none⟩ = some (.int .i64 a3) ∧ w'.cell? ⟨w2.heap.size, 4, none⟩ = some (.int .i64 a4) ∧ w'.cell? ⟨w2.heap.size, 5, none⟩ = some (.int .i64 a5) ∧ w'.cell? ⟨w2.heap.size, 6, none⟩ = some (.int .i64 a6))
    (first | with_reducible exact ⟨l0, l1, l2, l3, l4, l5, l6⟩ | with_reducible exact (K5.out.far n1 a0 a1 a2 a3 a4 a5 a6).seven | with_reducible exact ((K5.out.far n1 a0 a1 a2 a3 a4 a5 a6).far n2 z0 z1 z2 z3 z4 z5 z6).seven | go_keep)
    (first
      | (go_at_call 52; refine (l91Root_ok R c2 _ (D3.out.drewN 1) (by omega) (by omega)).mono ?_; rintro e w5 ⟨z0, z1, z2, z3, z4, z5, z6, rfl, hbz, _, hg⟩; have HBz := hid hbz; have B5 := hid ((below_drewN B3.out 1).grown hg (show w.heap.size ≤ (W.drewN 1).heap.size from B3.out.size) (fun k hk => by cases hk; omega)); have I5 := hid ((I3.out.drewN 1).gb hg hwR); have J5 := hid ((J3.out.drewN 1).gb hg hwR1); have K5 := hid ((K3.out.drewN 1).gb hg hyR); clear hbz hg; obtain ⟨l0, l1, l2, l3, l4, l5, l6⟩ := K5.out.seven; obtain ⟨x0, x1, x2, x3, x4, x5, x6, f0, f1, f2, f3, f4, f5, f6⟩ := I5.out.cells; obtain ⟨y0, y1, y2, y3, y4, y5, y6, g0, g1, g2, g3, g4, g5, g6⟩ := J5.out.cells))
  have I6 := hid ((I5.out.put a0 a1 a2 a3 a4 a5 a6).far n3 z0 z1 z2 z3 z4 z5 z6)
  have J6 := hid ((J5.out.far n4 a0 a1 a2 a3 a4 a5 a6).put z0 z1 z2 z3 z4 z5 z6)
  have B6 := hid (below_put7 (below_put7 B5.out (Nat.le_refl _) a0 a1 a2 a3 a4 a5 a6) (Nat.le_succ _) z0 z1 z2 z3 z4 z5 z6)
  obtain ⟨u0, u1, u2, u3, u4, u5, u6⟩ := I6.out.seven
  obtain ⟨v0, v1, v2, v3, v4, v5, v6⟩ := J6.out.seven
  clear x0 x1 x2 x3 x4 x5 x6 f0 f1 f2 f3 f4 f5 f6 y0 y1 y2 y3 y4 y5 y6 g0 g1 g2 g3 g4 g5 g6 l0 l1 l2 l3 l4 l5 l6 p0 p1 p2 p3 p4 p5 p6
  go_wp2
  refine bodyPost_ret (v := .tuple #[.agg #[.int .i64 a0, .int .i64 a1, .int .i64 a2, .int .i64 a3, .int .i64 a4, .int .i64 a5, .int .i64 a6], .agg #[.int .i64 z0, .int .i64 z1, .int .i64 z2, .int .i64 z3, .int .i64 z4, .int .i64 z5, .int .i64 z6]]) (by simp [results, Try.results27, go_sem, u0, u1, u2, u3, u4, u5, u6, v0, v1, v2, v3, v4, v5, v6]) rfl ⟨a0, a1, a2, a3, a4, a5, a6, z0, z1, z2, z3, z4, z5, z6, rfl, HBa.out, HBz.out, ?_⟩
  with_reducible exact B6.out

end Go.Proofs.Ytbodpfgbelaopaa
