/-
  Contracts: reflections, roots: the program's.
-/
import Derived.Test.YtcffaeepanhpfaaK2
namespace Go.Proofs.Ytcffaeepanhpfaa
open Go.RowKit
set_option linter.unusedVariables false
set_option linter.unusedSimpArgs false

theorem refl_len {a b : List Int} (ha : a.length = 7) (hb : b.length = 7) : (refl a b).length = 7 := lin_len ha hb
theorem prd_rng {a b : List Int} (h1 : Bd 1000 a) (h2 : Bd 1000 b) : -100000000 ≤ prd a b ∧ prd a b ≤ 100000000 := by
  have := prd_bd (A := 1000) (B := 1000) (by omega) (by omega) h1 h2
  omega

set_option maxRecDepth 100000 in
set_option maxHeartbeats 4000000 in
theorem reflected_ok (a0 a1 a2 a3 a4 a5 a6 r0 r1 r2 r3 r4 r5 r6 : Int) (w : World) (h1 : Bd 1000 [a0, a1, a2, a3, a4, a5, a6]) (h2 : Bd 1000 [r0, r1, r2, r3, r4, r5, r6]) :
    Calls Try.prog 58 #[.agg #[.int .i64 a0, .int .i64 a1, .int .i64 a2, .int .i64 a3, .int .i64 a4, .int .i64 a5, .int .i64 a6], .agg #[.int .i64 r0, .int .i64 r1, .int .i64 r2, .int .i64 r3, .int .i64 r4, .int .i64 r5, .int .i64 r6]] w fun k w' => k = .returned (clsV (refl [a0, a1, a2, a3, a4, a5, a6] [r0, r1, r2, r3, r4, r5, r6])) ∧ Below w.heap.size w w' := by
  have HA := hid (CB.new w 38 a0 a1 a2 a3 a4 a5 a6)
  have HR := hid (CB.newAt (w.alloc (.cells #[.int .i64 a0, .int .i64 a1, .int .i64 a2, .int .i64 a3, .int .i64 a4, .int .i64 a5, .int .i64 a6] 38)) 38 (w.heap.size + 1) (by simp) r0 r1 r2 r3 r4 r5 r6)
  have HB := hid (below_trans (below_alloc w (.cells #[.int .i64 a0, .int .i64 a1, .int .i64 a2, .int .i64 a3, .int .i64 a4, .int .i64 a5, .int .i64 a6] 38)) (below_alloc _ (.cells #[.int .i64 r0, .int .i64 r1, .int .i64 r2, .int .i64 r3, .int .i64 r4, .int .i64 r5, .int .i64 r6] 38)))
  have HA2 := hid ((HA.out.alloc (.cells #[.int .i64 r0, .int .i64 r1, .int .i64 r2, .int .i64 r3, .int .i64 r4, .int .i64 r5, .int .i64 r6] 38)).alloc (.cells #[.int .i64 0, .int .i64 0, .int .i64 0, .int .i64 0, .int .i64 0, .int .i64 0, .int .i64 0] 38))
  have HR2 := hid (HR.out.alloc (.cells #[.int .i64 0, .int .i64 0, .int .i64 0, .int .i64 0, .int .i64 0, .int .i64 0, .int .i64 0] 38))
  have HY2 := hid (CB.newAt ((w.alloc (.cells #[.int .i64 a0, .int .i64 a1, .int .i64 a2, .int .i64 a3, .int .i64 a4, .int .i64 a5, .int .i64 a6] 38)).alloc (.cells #[.int .i64 r0, .int .i64 r1, .int .i64 r2, .int .i64 r3, .int .i64 r4, .int .i64 r5, .int .i64 r6] 38)) 38 (w.heap.size + 2) (by simp) 0 0 0 0 0 0 0)
  have B2 := hid (below_trans HB.out (below_alloc _ (.cells #[.int .i64 0, .int .i64 0, .int .i64 0, .int .i64 0, .int .i64 0, .int .i64 0, .int .i64 0] 38)))
  have HP := hid (fun W => product_ok a0 a1 a2 a3 a4 a5 a6 r0 r1 r2 r3 r4 r5 r6 W (h1.mono (by omega)) (h2.mono (by omega)))
  have HT := hid (fun W => addTimes_ok a0 a1 a2 a3 a4 a5 a6 (prd [a0, a1, a2, a3, a4, a5, a6] [r0, r1, r2, r3, r4, r5, r6]) r0 r1 r2 r3 r4 r5 r6 W (h1.mono (by omega)) (prd_rng h1 h2) (h2.mono (by omega)))
  have n1 : ¬ w.heap.size = w.heap.size + 2 := by omega
  have n2 : ¬ w.heap.size + 1 = w.heap.size + 2 := by omega
  have HLn := hid (lin_len (n := prd [a0, a1, a2, a3, a4, a5, a6] [r0, r1, r2, r3, r4, r5, r6]) (seven_len a0 a1 a2 a3 a4 a5 a6) (seven_len r0 r1 r2 r3 r4 r5 r6))
  have HRf := hid (show refl [a0, a1, a2, a3, a4, a5, a6] [r0, r1, r2, r3, r4, r5, r6] = lin [a0, a1, a2, a3, a4, a5, a6] (prd [a0, a1, a2, a3, a4, a5, a6] [r0, r1, r2, r3, r4, r5, r6]) [r0, r1, r2, r3, r4, r5, r6] from rfl)
  rw [HRf.out]
  generalize lin [a0, a1, a2, a3, a4, a5, a6] (prd [a0, a1, a2, a3, a4, a5, a6] [r0, r1, r2, r3, r4, r5, r6]) [r0, r1, r2, r3, r4, r5, r6] = X at *
  obtain ⟨x0, x1, x2, x3, x4, x5, x6, hX⟩ := seven HLn.out
  subst hX
  generalize prd [a0, a1, a2, a3, a4, a5, a6] [r0, r1, r2, r3, r4, r5, r6] = P at *
  have HXv := hid (show clsV [x0, x1, x2, x3, x4, x5, x6] = .agg #[.int .i64 x0, .int .i64 x1, .int .i64 x2, .int .i64 x3, .int .i64 x4, .int .i64 x5, .int .i64 x6] from rfl)
  clear h1 h2 HRf HLn HA HR HB
  go_enter Try.func58, Try.ntmps58
  go_wp2
  generalize ((w.alloc (.cells #[.int .i64 a0, .int .i64 a1, .int .i64 a2, .int .i64 a3, .int .i64 a4, .int .i64 a5, .int .i64 a6] 38)).alloc (.cells #[.int .i64 r0, .int .i64 r1, .int .i64 r2, .int .i64 r3, .int .i64 r4, .int .i64 r5, .int .i64 r6] 38)).alloc (.cells #[.int .i64 0, .int .i64 0, .int .i64 0, .int .i64 0, .int .i64 0, .int .i64 0, .int .i64 0] 38) = W at *
  obtain ⟨p0, p1, p2, p3, p4, p5, p6⟩ := HA2.out.seven
  obtain ⟨q0, q1, q2, q3, q4, q5, q6⟩ := HR2.out.seven
  go_region_held_law (fun w' => (w'.cell? ⟨w.heap.size, 0, none⟩ = some (.int .i64 a0) ∧ w'.cell? ⟨w.heap.size, 1, none⟩ = some (.int .i64 a1) ∧ w'.cell? ⟨w.heap.size, 2, none⟩ = some (.int .i64 a2) ∧ w'.cell? ⟨w.heap.size, 3, none⟩ = some (.int .i64 a3) ∧ w'.cell? ⟨w.heap.size, 4, none⟩ = some (.int .i64 a4) ∧ w'.cell? ⟨w.heap.size, 5, none⟩ = some (.int .i64 a5) ∧ w'.cell? ⟨w.heap.size, 6, none⟩ = some (.int .i64 a6)) ∧ (w'.cell? ⟨w.heap.size + 1, 0, none⟩ = some (.int .i64 r0) ∧ w'.cell? ⟨w.heap.size + 1, 1, none⟩ = some (.int .i64 r1) ∧ w'.cell? ⟨w.heap.size + 1, 2, none⟩ = some (.int .i64 r2) ∧ w'.cell? ⟨w.heap.size + 1, 3, none⟩ = some (.int .i64 r3) ∧ w'.cell? ⟨w.heap.size + 1, 4, none⟩ = some (.int .i64 r4) ∧ w'.cell? ⟨w.heap.size + 1, 5, none⟩ = some (.int .i64 r5) ∧ w'.cell? ⟨w.heap.size + 1, 6, none⟩ = some (.int .i64 r6)))
    (first | with_reducible exact ⟨HA2.out.drew.seven, HR2.out.drew.seven⟩ | with_reducible exact ⟨XA.out.seven, XR.out.seven⟩ | with_reducible exact ⟨YA.out.seven, YR.out.seven⟩ | with_reducible exact ⟨(YA.out.far n1 x0 x1 x2 x3 x4 x5 x6).seven, (YR.out.far n2 x0 x1 x2 x3 x4 x5 x6).seven⟩ | go_keep)
    (first
      | (go_at_call 59; refine (HP.out _).mono ?_; rintro e w1 ⟨rfl, b1⟩; have XA := hid (HA2.out.drew.below b1); have XR := hid (HR2.out.drew.below b1); have XY := hid (HY2.out.drew.below b1); have B3 := hid (below_trans B2.out.drew b1); clear b1)
      | (go_at_call 56; refine (HT.out _).mono ?_; rintro e w2 ⟨rfl, b2⟩; rw [HXv.out]; have YA := hid (XA.out.below b2); have YR := hid (XR.out.below b2); have YY := hid (XY.out.below b2); have B4 := hid (below_trans B3.out b2); obtain ⟨_, _, _, _, _, _, _, g0, g1, g2, g3, g4, g5, g6⟩ := YY.out.cells; obtain ⟨y0, y1, y2, y3, y4, y5, y6⟩ := YY.out.seven; clear b2))
  have Z := hid (YY.out.put x0 x1 x2 x3 x4 x5 x6)
  have B5 := hid (below_put7 B4.out (show w.heap.size ≤ w.heap.size + 2 by omega) x0 x1 x2 x3 x4 x5 x6)
  obtain ⟨u0, u1, u2, u3, u4, u5, u6⟩ := Z.out.seven
  go_wp2
  refine bodyPost_ret (v := clsV [x0, x1, x2, x3, x4, x5, x6]) (by simp [results, Try.results58, go_sem, clsV, u0, u1, u2, u3, u4, u5, u6]) rfl ⟨rfl, ?_⟩
  with_reducible exact B5.out

set_option maxRecDepth 100000 in
set_option maxHeartbeats 2000000 in
theorem simpleRoot_ok (i : Nat) (w : World) (h : i ≤ 5) :
    Calls Try.prog 57 #[.int .i64 i] w fun k w' => k = .returned (clsV (simple i)) ∧ Below w.heap.size w w' := by
  have h : i = 0 ∨ i = 1 ∨ i = 2 ∨ i = 3 ∨ i = 4 ∨ i = 5 := by omega
  rcases h with rfl | rfl | rfl | rfl | rfl | rfl
  all_goals
    go_enter Try.func57, Try.ntmps57
    go_wp2
    refine bodyPost_ret (v := clsV (simple _)) (by simp [results, Try.results57, go_sem, clsV, simple]) rfl ⟨rfl, ?_⟩
    first | exact below_alloc _ _ | exact below_trans (below_alloc _ _) (below_alloc _ _)

end Go.Proofs.Ytcffaeepanhpfaa
