/-
  Contracts: whether a root is a sum of simple roots, of both sides.
-/
import Derived.Test.YtcffaeepanhpfaaWl
import Derived.Test.YtcffaeepanhpfaaWn
import Derived.Deep.DeepCutAuto
namespace Go.Proofs.Ytcffaeepanhpfaa
open Go.RowKit
set_option linter.unusedVariables false
set_option linter.unusedSimpArgs false

set_option maxRecDepth 100000 in
set_option maxHeartbeats 8000000 in
theorem isPositive_ok (a0 a1 a2 a3 a4 a5 a6 : Int) (w : World) (hb : Bd 1000 [a0, a1, a2, a3, a4, a5, a6]) :
    Calls Try.prog 39 #[.agg #[.int .i64 a0, .int .i64 a1, .int .i64 a2, .int .i64 a3, .int .i64 a4, .int .i64 a5, .int .i64 a6]] w fun k w' => k = .returned (.bool (posI [a0, a1, a2, a3, a4, a5, a6])) ∧ Below w.heap.size w w' := by
  have A0 := hid (CB.new w 38 a0 a1 a2 a3 a4 a5 a6)
  have B0 := hid (below_alloc w (.cells #[.int .i64 a0, .int .i64 a1, .int .i64 a2, .int .i64 a3, .int .i64 a4, .int .i64 a5, .int .i64 a6] 38))
  have hb' : ∀ x ∈ [a0, a1, a2, a3, a4, a5, a6], -1000 ≤ x ∧ x ≤ 1000 := hb
  simp only [List.mem_cons, List.not_mem_nil, or_false, forall_eq_or_imp, forall_eq] at hb'
  have HBd := hid hb'
  have h0l : -1000 ≤ a0 := hb'.1.1
  have h0u : a0 ≤ 1000 := hb'.1.2
  have HSi := hid (fun W => show Calls Try.prog 57 #[.int .i64 5] W fun k w' => k = .returned (clsV (simple 5)) ∧ Below W.heap.size W w' from simpleRoot_ok 5 W (by omega))
  have HSv := hid (show clsV (simple 5) = .agg #[.int .i64 1, .int .i64 1, .int .i64 1, .int .i64 1, .int .i64 0, .int .i64 0, .int .i64 0] from rfl)
  have HT := hid (fun W => addTimes_ok a0 a1 a2 a3 a4 a5 a6 (-a0) 1 1 1 1 0 0 0 W (hb.mono (by omega)) (by omega) (by intro x hx; simp at hx; omega))
  have HLin := hid (show lin [a0, a1, a2, a3, a4, a5, a6] (-a0) [1, 1, 1, 1, 0, 0, 0] = [a0 + -a0 * 1, a1 + -a0 * 1, a2 + -a0 * 1, a3 + -a0 * 1, a4 + -a0 * 0, a5 + -a0 * 0, a6 + -a0 * 0] from rfl)
  have HP := hid (show posI [a0, a1, a2, a3, a4, a5, a6] = (posIl 0 [a1 + -a0 * 1, a2 + -a0 * 1, a3 + -a0 * 1, a4 + -a0 * 0, a5 + -a0 * 0, a6 + -a0 * 0] && decide (0 ≤ a0)) from rfl)
  obtain ⟨y0, y1, y2, y3, y4, y5, y6, HY⟩ : ∃ y0 y1 y2 y3 y4 y5 y6 : Int, Hid ([a0 + -a0 * 1, a1 + -a0 * 1, a2 + -a0 * 1, a3 + -a0 * 1, a4 + -a0 * 0, a5 + -a0 * 0, a6 + -a0 * 0] = [y0, y1, y2, y3, y4, y5, y6]) := ⟨_, _, _, _, _, _, _, rfl⟩
  have hyb : (-2000 ≤ y1 ∧ y1 ≤ 2000) ∧ (-2000 ≤ y2 ∧ y2 ≤ 2000) ∧ (-2000 ≤ y3 ∧ y3 ≤ 2000) ∧ (-2000 ≤ y4 ∧ y4 ≤ 2000) ∧ (-2000 ≤ y5 ∧ y5 ≤ 2000) ∧ (-2000 ≤ y6 ∧ y6 ≤ 2000) := by
    have hy := HY.out
    simp only [List.cons.injEq, and_true] at hy
    have := HBd.out
    omega
  rw [HLin.out, HY.out] at HT
  have HYt := hid (show [a1 + -a0 * 1, a2 + -a0 * 1, a3 + -a0 * 1, a4 + -a0 * 0, a5 + -a0 * 0, a6 + -a0 * 0] = [y1, y2, y3, y4, y5, y6] from by have h := HY.out; injection h)
  rw [HYt.out] at HP
  have HYv := hid (show clsV [y0, y1, y2, y3, y4, y5, y6] = .agg #[.int .i64 y0, .int .i64 y1, .int .i64 y2, .int .i64 y3, .int .i64 y4, .int .i64 y5, .int .i64 y6] from rfl)
  have hn0 : ¬ (-a0 < -9223372036854775808) := by omega
  have hnw : IntKind.i64.wrap (-a0) = -a0 := IntWalk.i64_in _ (by omega)
  obtain ⟨⟨l1, u1⟩, ⟨l2, u2⟩, ⟨l3, u3⟩, ⟨l4, u4⟩, ⟨l5, u5⟩, ⟨l6, u6⟩⟩ := hyb
  clear hb hb' HY HYt HLin HBd
  go_enter Try.func39, Try.ntmps39
  go_wp2
  generalize w.alloc (.cells #[.int .i64 a0, .int .i64 a1, .int .i64 a2, .int .i64 a3, .int .i64 a4, .int .i64 a5, .int .i64 a6] 38) = W at *
  have hsz : w.heap.size < W.heap.size := A0.out.lt
  have HAZ := hid (A0.out.alloc (.cells #[.int .i64 0, .int .i64 0, .int .i64 0, .int .i64 0, .int .i64 0, .int .i64 0, .int .i64 0] 38))
  have HYZ := hid (CB.new W 38 0 0 0 0 0 0 0)
  have HWZ := hid (below_alloc W (.cells #[.int .i64 0, .int .i64 0, .int .i64 0, .int .i64 0, .int .i64 0, .int .i64 0, .int .i64 0] 38))
  go_cut [3] (fun s3 wx => ∃ g : Nat, s3 = .pointer (some ⟨g, 0, none⟩) ∧ CB wx 38 g y0 y1 y2 y3 y4 y5 y6 ∧ CB wx 38 w.heap.size a0 a1 a2 a3 a4 a5 a6 ∧ Below W.heap.size W wx)
  case first =>
    obtain ⟨p0, p1, p2, p3, p4, p5, p6⟩ := A0.out.seven
    go_region_with (first
        | (go_at_call 57; first
            | ((with_reducible refine (HSi.out W.drew).mono ?_); rintro e w1 ⟨rfl, b1⟩; rw [HSv.out]; have B1 := hid (below_trans (below_drewN (Below.refl _ W) 1) b1); have A1 := hid (A0.out.drew.below b1); have z1 := A1.out.lt; clear b1; obtain ⟨k0, k1, k2, k3, k4, k5, k6⟩ := A1.out.seven)
            | ((with_reducible refine (HSi.out (W.alloc (.cells #[.int .i64 0, .int .i64 0, .int .i64 0, .int .i64 0, .int .i64 0, .int .i64 0, .int .i64 0] 38)).drew).mono ?_); rintro e w1 ⟨rfl, b1⟩; rw [HSv.out]; have B1 := hid (below_trans (below_drewN HWZ.out 1) b1); have A1 := hid (HAZ.out.drew.below b1); have Y1 := hid (HYZ.out.drew.below b1); have z1 := A1.out.lt; clear b1; obtain ⟨k0, k1, k2, k3, k4, k5, k6⟩ := A1.out.seven))
        | (go_at_call 56; first
            | ((with_reducible refine (HT.out w1).mono ?_); rintro e w2 ⟨rfl, b2⟩; rw [HYv.out]; have B2 := hid (below_trans B1.out b2); have A2 := hid (A1.out.below b2); have z2 := A2.out.lt; (try have Y2 := hid (Y1.out.below b2)); clear b2; (try obtain ⟨y0', y1', y2', y3', y4', y5', y6', g0, g1, g2, g3, g4, g5, g6⟩ := Y2.out.cells))
            | ((with_reducible refine (HT.out (w1.alloc (.cells #[.int .i64 0, .int .i64 0, .int .i64 0, .int .i64 0, .int .i64 0, .int .i64 0, .int .i64 0] 38))).mono ?_); rintro e w2 ⟨rfl, b2⟩; rw [HYv.out]; have B2 := hid (below_trans B1.out (below_alloc_then b2)); have A2 := hid ((A1.out.alloc _).below b2); have z2 := A2.out.lt; have Y2 := hid ((CB.new w1 38 0 0 0 0 0 0 0).below b2); clear b2; obtain ⟨y0', y1', y2', y3', y4', y5', y6', g0, g1, g2, g3, g4, g5, g6⟩ := Y2.out.cells)))
    all_goals
      have s1 := B1.out.size
      have s2 := B2.out.size
      go_wp2_with fail
      go_meet
      first
        | exact ⟨_, rfl, Y2.out.put y0 y1 y2 y3 y4 y5 y6, A2.out.far (by omega) y0 y1 y2 y3 y4 y5 y6, below_put7 B2.out (by omega) y0 y1 y2 y3 y4 y5 y6⟩
        | exact ⟨_, rfl, CB.new w2 _ y0 y1 y2 y3 y4 y5 y6, A2.out.alloc _, B2.out.alloc (by omega) _⟩
  case rest =>
    obtain ⟨g, rfl, hG, hA, hB⟩ := hcut
    have HB := hid (below_trans B0.out hB)
    obtain ⟨q0, q1, q2, q3, q4, q5, q6⟩ := hG.seven
    obtain ⟨p0, p1, p2, p3, p4, p5, p6⟩ := hA.seven
    obtain ⟨ix0, ix1, ix2, ix3, ix4, ix5⟩ := index6 (.int .i64 y1) (.int .i64 y2) (.int .i64 y3) (.int .i64 y4) (.int .i64 y5) (.int .i64 y6)
    clear hG hA hB B0 A0 HAZ HYZ HWZ HSi HSv HT HYv hsz

    by_cases c1 : -y1 < 0
    · have HF := hid (show posI [a0, a1, a2, a3, a4, a5, a6] = false from by rw [HP.out]; unfold posIl; rw [if_pos (by omega)]; rfl)
      go_wp2
      refine wp_loop_rounds 7 ?_
      rw [rounds_succ]
      go_wp2
      go_ret
      exact ⟨by rw [HF.out]; rfl, HB.out⟩
    · skip
      by_cases c2 : -y1 - y2 < 0
      · have HF := hid (show posI [a0, a1, a2, a3, a4, a5, a6] = false from by rw [HP.out]; unfold posIl; rw [if_neg (by omega)]; unfold posIl; rw [if_pos (by omega)]; rfl)
        go_wp2
        refine wp_loop_rounds 7 ?_
        rw [rounds_succ]
        go_wp2
        rw [rounds_succ]
        go_wp2
        go_ret
        exact ⟨by rw [HF.out]; rfl, HB.out⟩
      · skip
        by_cases c3 : -y1 - y2 - y3 < 0
        · have HF := hid (show posI [a0, a1, a2, a3, a4, a5, a6] = false from by rw [HP.out]; unfold posIl; rw [if_neg (by omega)]; unfold posIl; rw [if_neg (by omega)]; unfold posIl; rw [if_pos (by omega)]; rfl)
          go_wp2
          refine wp_loop_rounds 7 ?_
          rw [rounds_succ]
          go_wp2
          rw [rounds_succ]
          go_wp2
          rw [rounds_succ]
          go_wp2
          go_ret
          exact ⟨by rw [HF.out]; rfl, HB.out⟩
        · skip
          by_cases c4 : -y1 - y2 - y3 - y4 < 0
          · have HF := hid (show posI [a0, a1, a2, a3, a4, a5, a6] = false from by rw [HP.out]; unfold posIl; rw [if_neg (by omega)]; unfold posIl; rw [if_neg (by omega)]; unfold posIl; rw [if_neg (by omega)]; unfold posIl; rw [if_pos (by omega)]; rfl)
            go_wp2
            refine wp_loop_rounds 7 ?_
            rw [rounds_succ]
            go_wp2
            rw [rounds_succ]
            go_wp2
            rw [rounds_succ]
            go_wp2
            rw [rounds_succ]
            go_wp2
            go_ret
            exact ⟨by rw [HF.out]; rfl, HB.out⟩
          · skip
            by_cases c5 : -y1 - y2 - y3 - y4 - y5 < 0
            · have HF := hid (show posI [a0, a1, a2, a3, a4, a5, a6] = false from by rw [HP.out]; unfold posIl; rw [if_neg (by omega)]; unfold posIl; rw [if_neg (by omega)]; unfold posIl; rw [if_neg (by omega)]; unfold posIl; rw [if_neg (by omega)]; unfold posIl; rw [if_pos (by omega)]; rfl)
              go_wp2
              refine wp_loop_rounds 7 ?_
              rw [rounds_succ]
              go_wp2
              rw [rounds_succ]
              go_wp2
              rw [rounds_succ]
              go_wp2
              rw [rounds_succ]
              go_wp2
              rw [rounds_succ]
              go_wp2
              go_ret
              exact ⟨by rw [HF.out]; rfl, HB.out⟩
            · skip
              by_cases c6 : -y1 - y2 - y3 - y4 - y5 - y6 < 0
              · have HF := hid (show posI [a0, a1, a2, a3, a4, a5, a6] = false from by rw [HP.out]; unfold posIl; rw [if_neg (by omega)]; unfold posIl; rw [if_neg (by omega)]; unfold posIl; rw [if_neg (by omega)]; unfold posIl; rw [if_neg (by omega)]; unfold posIl; rw [if_neg (by omega)]; unfold posIl; rw [if_pos (by omega)]; rfl)
                go_wp2
                refine wp_loop_rounds 7 ?_
                rw [rounds_succ]
                go_wp2
                rw [rounds_succ]
                go_wp2
                rw [rounds_succ]
                go_wp2
                rw [rounds_succ]
                go_wp2
                rw [rounds_succ]
                go_wp2
                rw [rounds_succ]
                go_wp2
                go_ret
                exact ⟨by rw [HF.out]; rfl, HB.out⟩
              · skip
                have HF := hid (show posI [a0, a1, a2, a3, a4, a5, a6] = decide (0 ≤ a0) from by rw [HP.out]; unfold posIl; rw [if_neg (by omega)]; unfold posIl; rw [if_neg (by omega)]; unfold posIl; rw [if_neg (by omega)]; unfold posIl; rw [if_neg (by omega)]; unfold posIl; rw [if_neg (by omega)]; unfold posIl; rw [if_neg (by omega)]; unfold posIl; rfl)
                go_wp2
                refine wp_loop_rounds 7 ?_
                rw [rounds_succ]
                go_wp2
                rw [rounds_succ]
                go_wp2
                rw [rounds_succ]
                go_wp2
                rw [rounds_succ]
                go_wp2
                rw [rounds_succ]
                go_wp2
                rw [rounds_succ]
                go_wp2
                rw [rounds_succ]
                go_wp2
                go_ret
                exact ⟨by rw [HF.out]; rfl, HB.out⟩

set_option maxRecDepth 100000 in
set_option maxHeartbeats 8000000 in
theorem l3Positive_ok (a0 a1 a2 a3 a4 a5 a6 : Int) (w : World) :
    Calls Try.prog 44 #[.agg #[.int .i64 a0, .int .i64 a1, .int .i64 a2, .int .i64 a3, .int .i64 a4, .int .i64 a5, .int .i64 a6]] w fun k w' => k = .returned (.bool (posS [a0, a1, a2, a3, a4, a5, a6])) ∧ Below w.heap.size w w' := by
  have A0 := hid (CB.new w 38 a0 a1 a2 a3 a4 a5 a6)
  have B0 := hid (below_alloc w (.cells #[.int .i64 a0, .int .i64 a1, .int .i64 a2, .int .i64 a3, .int .i64 a4, .int .i64 a5, .int .i64 a6] 38))
  have HP := hid (show posS [a0, a1, a2, a3, a4, a5, a6] = if a0 != 0 then decide (a0 > 0) else posSl [a1, a2, a3, a4, a5, a6] from rfl)
  cases hd : (a0 == 0)
  · have hd2 : (a0 != 0) = true := by simpa using hd
    have HF := hid (show posS [a0, a1, a2, a3, a4, a5, a6] = decide (a0 > 0) from by rw [HP.out, hd2]; rfl)
    go_enter Try.func44, Try.ntmps44
    go_wp2
    go_ret
    exact ⟨by rw [HF.out]; rfl, B0.out⟩
  · have hd2 : (a0 != 0) = false := by simpa using hd
    have HD := hid hd2
    cases c1 : (a1 == 0)
    · have d1 : (a1 != 0) = true := by simpa using c1
      have HF := hid (show posS [a0, a1, a2, a3, a4, a5, a6] = decide (a1 < 0) from by rw [HP.out, HD.out]; simp only [Bool.false_eq_true, if_false]; unfold posSl; rw [d1]; simp only [if_true]; all_goals rfl)
      go_enter Try.func44, Try.ntmps44
      go_wp2
      refine wp_loop_rounds 7 ?_
      rw [rounds_succ]
      go_wp2
      go_ret
      exact ⟨by rw [HF.out]; rfl, B0.out⟩
    · have d1 : (a1 != 0) = false := by simpa using c1
      have H1 := hid d1
      cases c2 : (a2 == 0)
      · have d2 : (a2 != 0) = true := by simpa using c2
        have HF := hid (show posS [a0, a1, a2, a3, a4, a5, a6] = decide (a2 < 0) from by rw [HP.out, HD.out]; simp only [Bool.false_eq_true, if_false]; unfold posSl; rw [H1.out]; simp only [Bool.false_eq_true, if_false]; unfold posSl; rw [d2]; simp only [if_true]; all_goals rfl)
        go_enter Try.func44, Try.ntmps44
        go_wp2
        refine wp_loop_rounds 7 ?_
        rw [rounds_succ]
        go_wp2
        rw [rounds_succ]
        go_wp2
        go_ret
        exact ⟨by rw [HF.out]; rfl, B0.out⟩
      · have d2 : (a2 != 0) = false := by simpa using c2
        have H2 := hid d2
        cases c3 : (a3 == 0)
        · have d3 : (a3 != 0) = true := by simpa using c3
          have HF := hid (show posS [a0, a1, a2, a3, a4, a5, a6] = decide (a3 < 0) from by rw [HP.out, HD.out]; simp only [Bool.false_eq_true, if_false]; unfold posSl; rw [H1.out]; simp only [Bool.false_eq_true, if_false]; unfold posSl; rw [H2.out]; simp only [Bool.false_eq_true, if_false]; unfold posSl; rw [d3]; simp only [if_true]; all_goals rfl)
          go_enter Try.func44, Try.ntmps44
          go_wp2
          refine wp_loop_rounds 7 ?_
          rw [rounds_succ]
          go_wp2
          rw [rounds_succ]
          go_wp2
          rw [rounds_succ]
          go_wp2
          go_ret
          exact ⟨by rw [HF.out]; rfl, B0.out⟩
        · have d3 : (a3 != 0) = false := by simpa using c3
          have H3 := hid d3
          cases c4 : (a4 == 0)
          · have d4 : (a4 != 0) = true := by simpa using c4
            have HF := hid (show posS [a0, a1, a2, a3, a4, a5, a6] = decide (a4 < 0) from by rw [HP.out, HD.out]; simp only [Bool.false_eq_true, if_false]; unfold posSl; rw [H1.out]; simp only [Bool.false_eq_true, if_false]; unfold posSl; rw [H2.out]; simp only [Bool.false_eq_true, if_false]; unfold posSl; rw [H3.out]; simp only [Bool.false_eq_true, if_false]; unfold posSl; rw [d4]; simp only [if_true]; all_goals rfl)
            go_enter Try.func44, Try.ntmps44
            go_wp2
            refine wp_loop_rounds 7 ?_
            rw [rounds_succ]
            go_wp2
            rw [rounds_succ]
            go_wp2
            rw [rounds_succ]
            go_wp2
            rw [rounds_succ]
            go_wp2
            go_ret
            exact ⟨by rw [HF.out]; rfl, B0.out⟩
          · have d4 : (a4 != 0) = false := by simpa using c4
            have H4 := hid d4
            cases c5 : (a5 == 0)
            · have d5 : (a5 != 0) = true := by simpa using c5
              have HF := hid (show posS [a0, a1, a2, a3, a4, a5, a6] = decide (a5 < 0) from by rw [HP.out, HD.out]; simp only [Bool.false_eq_true, if_false]; unfold posSl; rw [H1.out]; simp only [Bool.false_eq_true, if_false]; unfold posSl; rw [H2.out]; simp only [Bool.false_eq_true, if_false]; unfold posSl; rw [H3.out]; simp only [Bool.false_eq_true, if_false]; unfold posSl; rw [H4.out]; simp only [Bool.false_eq_true, if_false]; unfold posSl; rw [d5]; simp only [if_true]; all_goals rfl)
              go_enter Try.func44, Try.ntmps44
              go_wp2
              refine wp_loop_rounds 7 ?_
              rw [rounds_succ]
              go_wp2
              rw [rounds_succ]
              go_wp2
              rw [rounds_succ]
              go_wp2
              rw [rounds_succ]
              go_wp2
              rw [rounds_succ]
              go_wp2
              go_ret
              exact ⟨by rw [HF.out]; rfl, B0.out⟩
            · have d5 : (a5 != 0) = false := by simpa using c5
              have H5 := hid d5
              cases c6 : (a6 == 0)
              · have d6 : (a6 != 0) = true := by simpa using c6
                have HF := hid (show posS [a0, a1, a2, a3, a4, a5, a6] = decide (a6 < 0) from by rw [HP.out, HD.out]; simp only [Bool.false_eq_true, if_false]; unfold posSl; rw [H1.out]; simp only [Bool.false_eq_true, if_false]; unfold posSl; rw [H2.out]; simp only [Bool.false_eq_true, if_false]; unfold posSl; rw [H3.out]; simp only [Bool.false_eq_true, if_false]; unfold posSl; rw [H4.out]; simp only [Bool.false_eq_true, if_false]; unfold posSl; rw [H5.out]; simp only [Bool.false_eq_true, if_false]; unfold posSl; rw [d6]; simp only [if_true]; all_goals rfl)
                go_enter Try.func44, Try.ntmps44
                go_wp2
                refine wp_loop_rounds 7 ?_
                rw [rounds_succ]
                go_wp2
                rw [rounds_succ]
                go_wp2
                rw [rounds_succ]
                go_wp2
                rw [rounds_succ]
                go_wp2
                rw [rounds_succ]
                go_wp2
                rw [rounds_succ]
                go_wp2
                go_ret
                exact ⟨by rw [HF.out]; rfl, B0.out⟩
              · have d6 : (a6 != 0) = false := by simpa using c6
                have H6 := hid d6
                have HF := hid (show posS [a0, a1, a2, a3, a4, a5, a6] = false from by rw [HP.out, HD.out]; simp only [Bool.false_eq_true, if_false]; unfold posSl; rw [H1.out]; simp only [Bool.false_eq_true, if_false]; unfold posSl; rw [H2.out]; simp only [Bool.false_eq_true, if_false]; unfold posSl; rw [H3.out]; simp only [Bool.false_eq_true, if_false]; unfold posSl; rw [H4.out]; simp only [Bool.false_eq_true, if_false]; unfold posSl; rw [H5.out]; simp only [Bool.false_eq_true, if_false]; unfold posSl; rw [H6.out]; simp only [Bool.false_eq_true, if_false]; unfold posSl; rfl)
                go_enter Try.func44, Try.ntmps44
                go_wp2
                refine wp_loop_rounds 7 ?_
                rw [rounds_succ]
                go_wp2
                rw [rounds_succ]
                go_wp2
                rw [rounds_succ]
                go_wp2
                rw [rounds_succ]
                go_wp2
                rw [rounds_succ]
                go_wp2
                rw [rounds_succ]
                go_wp2
                rw [rounds_succ]
                go_wp2
                go_ret
                exact ⟨by rw [HF.out]; rfl, B0.out⟩

end Go.Proofs.Ytcffaeepanhpfaa
