/-
  The law of WordAct.
-/
import Derived.Test.YtbodpfgbelaopaaW1
import Derived.Deep.RegionWith
import Derived.Deep.DeepCutAuto
namespace Go.Proofs.Ytbodpfgbelaopaa
open Go.RowKit
set_option linter.unusedVariables false
set_option linter.unusedSimpArgs false

set_option maxRecDepth 100000 in
set_option maxHeartbeats 4000000 in
theorem eqIntA6_ok (a1 a2 a3 a4 a5 a6 : Int) (w : World) :
    Calls Try.prog 44 #[.agg #[.int .i64 a1, .int .i64 a2, .int .i64 a3, .int .i64 a4, .int .i64 a5, .int .i64 a6], .agg #[.int .i64 a1, .int .i64 a2, .int .i64 a3, .int .i64 a4, .int .i64 a5, .int .i64 a6]] w fun k w' => k = .returned (.bool true) ∧ Below w.heap.size w w' := by
  have HB := hid (below_trans (below_alloc w (.cells #[.int .i64 a1, .int .i64 a2, .int .i64 a3, .int .i64 a4, .int .i64 a5, .int .i64 a6] 23)) (below_alloc _ (.cells #[.int .i64 a1, .int .i64 a2, .int .i64 a3, .int .i64 a4, .int .i64 a5, .int .i64 a6] 23)))
  have e1 : (a1 != a1) = false := by simp
  have e2 : (a2 != a2) = false := by simp
  have e3 : (a3 != a3) = false := by simp
  have e4 : (a4 != a4) = false := by simp
  have e5 : (a5 != a5) = false := by simp
  have e6 : (a6 != a6) = false := by simp
  go_enter Try.func44, Try.ntmps44
  go_wp2
  refine wp_loop_rounds 7 ?_
  rw [rounds_succ]
  go_wp2
  go_quiet (fail)
  go_wp2
  rw [rounds_succ]
  go_wp2
  go_quiet (fail)
  go_wp2
  rw [rounds_succ]
  go_wp2
  go_quiet (fail)
  go_wp2
  rw [rounds_succ]
  go_wp2
  go_quiet (fail)
  go_wp2
  rw [rounds_succ]
  go_wp2
  go_quiet (fail)
  go_wp2
  rw [rounds_succ]
  go_wp2
  go_quiet (fail)
  go_wp2
  rw [rounds_succ]
  go_wp2
  go_ret
  exact ⟨rfl, below_drewN HB.out _⟩

set_option maxRecDepth 100000 in
theorem eqClass_ok (a0 a1 a2 a3 a4 a5 a6 : Int) (w : World) :
    Calls Try.prog 14 #[.agg #[.int .i64 a0, .int .i64 a1, .int .i64 a2, .int .i64 a3, .int .i64 a4, .int .i64 a5, .int .i64 a6], .agg #[.int .i64 a0, .int .i64 a1, .int .i64 a2, .int .i64 a3, .int .i64 a4, .int .i64 a5, .int .i64 a6]] w fun k w' => k = .returned (.bool true) ∧ Below w.heap.size w w' := by
  have HB := hid (below_trans (below_alloc w (.cells #[.int .i64 a0, .int .i64 a1, .int .i64 a2, .int .i64 a3, .int .i64 a4, .int .i64 a5, .int .i64 a6] 26)) (below_alloc _ (.cells #[.int .i64 a0, .int .i64 a1, .int .i64 a2, .int .i64 a3, .int .i64 a4, .int .i64 a5, .int .i64 a6] 26)))
  have e0 : (a0 != a0) = false := by simp
  go_enter Try.func14, Try.ntmps14
  go_wp2_with fail
  refine (eqIntA6_ok a1 a2 a3 a4 a5 a6 _).mono ?_
  rintro e w1 ⟨rfl, b1⟩
  have B1 := hid (below_trans HB.out b1)
  clear b1
  go_wp2
  go_ret
  exact ⟨rfl, B1.out⟩

set_option maxRecDepth 100000 in
set_option maxHeartbeats 4000000 in
theorem FnExactWordAct_ok (A : Option Addr) (n c : Nat) (fs : List Int) (a0 a1 a2 a3 a4 a5 a6 : Int) (w : World) (hr : n ≤ 1048576 → RI w A n fs) :
    Calls Try.prog 3 #[.slice A n c, .agg #[.int .i64 a0, .int .i64 a1, .int .i64 a2, .int .i64 a3, .int .i64 a4, .int .i64 a5, .int .i64 a6]] w fun e w' => e = .returned (.bool true) ∧ Below w.heap.size w w' := by
  by_cases hb : n ≤ 1048576
  · have HR := hid ((hr hb).alloc (.cells #[.int .i64 a0, .int .i64 a1, .int .i64 a2, .int .i64 a3, .int .i64 a4, .int .i64 a5, .int .i64 a6] 25))
    have HBW := hid (below_alloc w (.cells #[.int .i64 a0, .int .i64 a1, .int .i64 a2, .int .i64 a3, .int .i64 a4, .int .i64 a5, .int .i64 a6] 25))
    have HA := hid (CB.new w 25 a0 a1 a2 a3 a4 a5 a6)
    have HAv := hid (show clsV [a0, a1, a2, a3, a4, a5, a6] = .agg #[.int .i64 a0, .int .i64 a1, .int .i64 a2, .int .i64 a3, .int .i64 a4, .int .i64 a5, .int .i64 a6] from rfl)
    have HS := hid (fun B d W h => specWordAct_ok B n d fs a0 a1 a2 a3 a4 a5 a6 W h)
    have HI := hid (fun B d W h => implWordAct_ok B n d fs a0 a1 a2 a3 a4 a5 a6 W h)
    have HL := waR_len (xs := fs) (seven_len a0 a1 a2 a3 a4 a5 a6)
    generalize (waR fs [a0, a1, a2, a3, a4, a5, a6]).isSome = D at *
    generalize (waR fs [a0, a1, a2, a3, a4, a5, a6]).getD zeroC = V at *
    obtain ⟨v0, v1, v2, v3, v4, v5, v6, hV⟩ := seven HL
    subst hV
    have HVv := hid (show clsV [v0, v1, v2, v3, v4, v5, v6] = .agg #[.int .i64 v0, .int .i64 v1, .int .i64 v2, .int .i64 v3, .int .i64 v4, .int .i64 v5, .int .i64 v6] from rfl)
    have hne2 : (D != D) = false := by simp
    clear hr HL
    go_enter Try.func3, Try.ntmps3
    go_wp2
    generalize w.alloc (.cells #[.int .i64 a0, .int .i64 a1, .int .i64 a2, .int .i64 a3, .int .i64 a4, .int .i64 a5, .int .i64 a6] 25) = W at *
    have HAZ := hid (HA.out.alloc (.cells #[.int .i64 0, .int .i64 0, .int .i64 0, .int .i64 0, .int .i64 0, .int .i64 0, .int .i64 0] 26))
    have HRZ := hid (HR.out.alloc (.cells #[.int .i64 0, .int .i64 0, .int .i64 0, .int .i64 0, .int .i64 0, .int .i64 0, .int .i64 0] 26))
    have HYZ := hid (CB.new W 26 0 0 0 0 0 0 0)
    have HWZ := hid (below_alloc W (.cells #[.int .i64 0, .int .i64 0, .int .i64 0, .int .i64 0, .int .i64 0, .int .i64 0, .int .i64 0] 26))
    have hsz : w.heap.size < W.heap.size := HA.out.lt
    have HRd := hid (show RI W.drew A n fs from HR.out)
    have HRZd := hid (show RI (W.alloc (.cells #[.int .i64 0, .int .i64 0, .int .i64 0, .int .i64 0, .int .i64 0, .int .i64 0, .int .i64 0] 26)).drew A n fs from HRZ.out)
    go_cut [5, 6] (fun s5 s6 wx => ∃ g : Nat, s5 = .pointer (some ⟨g, 0, none⟩) ∧ s6 = .bool D ∧ CB wx 26 g v0 v1 v2 v3 v4 v5 v6 ∧ CB wx 25 w.heap.size a0 a1 a2 a3 a4 a5 a6 ∧ W.heap.size ≤ g ∧ Below W.heap.size W wx)
    case first =>
      obtain ⟨p0, p1, p2, p3, p4, p5, p6⟩ := HA.out.seven
      go_region_with (first
          | (go_at_call 11; first
              | ((with_reducible refine (toIntS_ri A n c fs W.drew HRd.out).mono ?_); rintro e w1 ⟨B1', d1, rfl, r1, b1⟩; have R1 := hid r1; have B1 := hid (below_trans (below_drewN (Below.refl _ W) 1) b1); have A1 := hid (HA.out.drew.below b1); have z1 := A1.out.lt; clear r1 b1; obtain ⟨k0, k1, k2, k3, k4, k5, k6⟩ := A1.out.seven)
              | ((with_reducible refine (toIntS_ri A n c fs (W.alloc (.cells #[.int .i64 0, .int .i64 0, .int .i64 0, .int .i64 0, .int .i64 0, .int .i64 0, .int .i64 0] 26)).drew HRZd.out).mono ?_); rintro e w1 ⟨B1', d1, rfl, r1, b1⟩; have R1 := hid r1; have B1 := hid (below_trans (below_drewN HWZ.out 1) b1); have A1 := hid (HAZ.out.drew.below b1); have z1 := A1.out.lt; have Y1 := hid (HYZ.out.drew.below b1); clear r1 b1; obtain ⟨k0, k1, k2, k3, k4, k5, k6⟩ := A1.out.seven))
          | (go_at_call 12; first
              | ((with_reducible refine (toClass_ok a0 a1 a2 a3 a4 a5 a6 w1).mono ?_); rintro e w2 ⟨rfl, b2⟩; rw [HAv.out]; have B2 := hid (below_trans B1.out b2); have R2 := hid (R1.out.below b2); have A2 := hid (A1.out.below b2); have z2 := A2.out.lt; (try have Y2 := hid (Y1.out.below b2)); clear b2)
              | ((with_reducible refine (toClass_ok a0 a1 a2 a3 a4 a5 a6 (w1.alloc (.cells #[.int .i64 0, .int .i64 0, .int .i64 0, .int .i64 0, .int .i64 0, .int .i64 0, .int .i64 0] 26))).mono ?_); rintro e w2 ⟨rfl, b2⟩; rw [HAv.out]; have B2 := hid (below_trans B1.out (below_alloc_then b2)); have R2 := hid ((R1.out.alloc _).below b2); have A2 := hid ((A1.out.alloc _).below b2); have z2 := A2.out.lt; have Y2 := hid ((CB.new w1 26 0 0 0 0 0 0 0).below b2); clear b2))
          | (go_at_call 10; first
              | ((with_reducible refine (HS.out _ _ w2 R2.out).mono ?_); rintro e w3 ⟨rfl, b3⟩; rw [HVv.out]; have B3 := hid (below_trans B2.out b3); have A3 := hid (A2.out.below b3); have z3 := A3.out.lt; (try have Y3 := hid (Y2.out.below b3)); clear b3; (try obtain ⟨y0, y1, y2, y3, y4, y5, y6, g0, g1, g2, g3, g4, g5, g6⟩ := Y3.out.cells))
              | ((with_reducible refine (HS.out _ _ (w2.alloc (.cells #[.int .i64 0, .int .i64 0, .int .i64 0, .int .i64 0, .int .i64 0, .int .i64 0, .int .i64 0] 26)) (R2.out.alloc _)).mono ?_); rintro e w3 ⟨rfl, b3⟩; rw [HVv.out]; have B3 := hid (below_trans B2.out (below_alloc_then b3)); have A3 := hid ((A2.out.alloc _).below b3); have z3 := A3.out.lt; have Y3 := hid ((CB.new w2 26 0 0 0 0 0 0 0).below b3); clear b3; obtain ⟨y0, y1, y2, y3, y4, y5, y6, g0, g1, g2, g3, g4, g5, g6⟩ := Y3.out.cells)))
      all_goals
        have s1 := B1.out.size
        have s2 := B2.out.size
        have s3 := B3.out.size
        go_wp2_with fail
        go_meet
        first
          | exact ⟨_, rfl, rfl, Y3.out.put v0 v1 v2 v3 v4 v5 v6, A3.out.far (by omega) v0 v1 v2 v3 v4 v5 v6, by omega, below_put7 B3.out (by omega) v0 v1 v2 v3 v4 v5 v6⟩
          | exact ⟨_, rfl, rfl, CB.new w3 _ v0 v1 v2 v3 v4 v5 v6, A3.out.alloc _, by omega, B3.out.alloc (by omega) _⟩
    case rest =>
      obtain ⟨g, rfl, rfl, hG, hA, hge, hB⟩ := hcut
      have G0 := hid hG
      have A0 := hid hA
      have B0 := hid hB
      have R0 := hid (HR.out.below (hB))
      clear hG hA hB
      go_wp2_with fail
      refine (toIntS_ri A n c fs _ R0.out).mono ?_
      rintro e w4 ⟨A4, c4, rfl, r4, b4⟩
      have R4 := hid r4
      have B4 := hid (below_trans B0.out b4)
      have G4 := hid (G0.out.below b4)
      have A4 := hid (A0.out.below b4)
      clear r4 b4
      obtain ⟨k0, k1, k2, k3, k4, k5, k6⟩ := A4.out.seven
      go_wp2_with fail
      refine (toClass_ok a0 a1 a2 a3 a4 a5 a6 _).mono ?_
      rintro e w5 ⟨rfl, b5⟩
      rw [HAv.out]
      have B5 := hid (below_trans B4.out b5)
      have R5 := hid (R4.out.below b5)
      have G5 := hid (G4.out.below b5)
      clear b5 k0 k1 k2 k3 k4 k5 k6
      go_wp2_with fail
      refine (HI.out _ _ _ R5.out).mono ?_
      rintro e w6 ⟨rfl, b6⟩
      rw [HVv.out]
      have B6 := hid (below_trans B5.out b6)
      have R6 := hid ((R5.out.below b6).alloc (.cells #[.int .i64 v0, .int .i64 v1, .int .i64 v2, .int .i64 v3, .int .i64 v4, .int .i64 v5, .int .i64 v6] 26))
      have G6 := hid ((G5.out.below b6).alloc (.cells #[.int .i64 v0, .int .i64 v1, .int .i64 v2, .int .i64 v3, .int .i64 v4, .int .i64 v5, .int .i64 v6] 26))
      have N6 := hid (CB.new w6 26 v0 v1 v2 v3 v4 v5 v6)
      have B7 := hid (below_trans B6.out (below_alloc w6 (.cells #[.int .i64 v0, .int .i64 v1, .int .i64 v2, .int .i64 v3, .int .i64 v4, .int .i64 v5, .int .i64 v6] 26)))
      clear b6
      obtain ⟨k0, k1, k2, k3, k4, k5, k6⟩ := G6.out.seven
      go_wp2_with fail
      refine (eqClass_ok v0 v1 v2 v3 v4 v5 v6 _).mono ?_
      rintro e w8 ⟨rfl, b8⟩
      have B8 := hid (below_trans B7.out b8)
      have R8 := hid (R6.out.below b8)
      clear b8 k0 k1 k2 k3 k4 k5 k6
      go_wp2_with fail
      refine (toIntS_ri A n c fs _ (HR.out.below B8.out)).mono ?_
      rintro e w9 ⟨A9, c9, rfl, r9, b9⟩
      have R9 := hid r9
      have B9 := hid (below_trans B8.out b9)
      have R89 := hid (R8.out.below b9)
      clear r9 b9
      go_wp2_with fail
      refine (eqIntS_ok _ n c4 fs A9 n c9 fs _ R89.out R9.out).mono ?_
      rintro e w10 ⟨rfl, b10⟩
      have B10 := hid (below_trans B9.out b10)
      clear b10
      rw [beq_self_eq_true]
      go_wp2
      go_ret
      exact ⟨rfl, below_trans HBW.out B10.out⟩
  · clear hr
    go_enter Try.func3, Try.ntmps3
    go_wp2
    go_ret
    exact ⟨rfl, below_alloc _ _⟩

end Go.Proofs.Ytbodpfgbelaopaa
