/-
  Contracts: classes that are told, degrees, reflections: the reference's.
-/
import Derived.Test.YtcffaeepanhpfaaS1
namespace Go.Proofs.Ytcffaeepanhpfaa
open Go.RowKit
set_option linter.unusedVariables false
set_option linter.unusedSimpArgs false

theorem tail6 (a0 a1 a2 a3 a4 a5 a6 : Int) (w w' : World) (T : TypeId) (k : Nat) (h : CB w T k a0 a1 a2 a3 a4 a5 a6) : ∀ j, j < 6 → w.cell? ⟨k, 1 + j, none⟩ = some (.int .i64 ([a1, a2, a3, a4, a5, a6].getD j 0)) := by
  obtain ⟨x0, x1, x2, x3, x4, x5, x6⟩ := h.seven
  intro j hj
  match j, hj with
  | 0, _ => exact x1
  | 1, _ => exact x2
  | 2, _ => exact x3
  | 3, _ => exact x4
  | 4, _ => exact x5
  | 5, _ => exact x6

set_option maxHeartbeats 1000000 in
theorem ClassValid_ok (a0 a1 a2 a3 a4 a5 a6 : Int) (w : World) :
    Calls Try.prog 46 #[.agg #[.int .i64 a0, .int .i64 a1, .int .i64 a2, .int .i64 a3, .int .i64 a4, .int .i64 a5, .int .i64 a6]] w fun k w' => k = .returned (.bool (validB [a0, a1, a2, a3, a4, a5, a6])) ∧ Below w.heap.size w w' := by
  have HZ := hid (show ([a1, a2, a3, a4, a5, a6].all inC && inC a0) = validB [a0, a1, a2, a3, a4, a5, a6] by simp [validB]; ac_rfl)
  have HC := hid (tail6 a0 a1 a2 a3 a4 a5 a6 _ w 38 w.heap.size (CB.new w 38 a0 a1 a2 a3 a4 a5 a6))
  have c0 := (CB.new w 38 a0 a1 a2 a3 a4 a5 a6).seven.1
  have C0 := hid c0
  clear c0
  go_enter Try.func46, Try.ntmps46
  go_wp2
  go_loop [3] (fun t => ∃ k : Nat, k ≤ 6 ∧ t = .int .i64 k ∧ [a1, a2, a3, a4, a5, a6].all inC = ([a1, a2, a3, a4, a5, a6].drop k).all inC) (fun t => 6 - (intOf t).toNat)
  case atStart => exact ⟨0, by omega, rfl, rfl⟩
  case round =>
    obtain ⟨k, hk, rfl, hf⟩ := hrel
    have HF := hid hf
    clear hf
    by_cases hlt : k < 6
    · have hcx := HC.out k hlt
      have HY := hid (@all_drop_yes inC [a1, a2, a3, a4, a5, a6] k (by simpa using hlt))
      have HN := hid (@all_drop_no inC [a1, a2, a3, a4, a5, a6] k (by simpa using hlt))
      generalize hy : [a1, a2, a3, a4, a5, a6].getD k 0 = u at *
      clear hy
      cases hq : inC u
      · have HQ := hid hq
        clear hq
        go_wp2_with (go_at_call 45; refine (l6In_ok u (-1000) 1000 _).mono ?_; rintro e w' ⟨rfl, rfl⟩; rw [show inB u (-1000) 1000 = false from HQ.out])
        go_ret
        exact ⟨by rw [← HZ.out, HF.out, HN.out HQ.out]; rfl, below_alloc _ _⟩
      · have HQ := hid hq
        clear hq
        go_wp2_with (go_at_call 45; refine (l6In_ok u (-1000) 1000 _).mono ?_; rintro e w' ⟨rfl, rfl⟩; rw [show inB u (-1000) 1000 = true from HQ.out])
        go_round
        case rel => exact ⟨k + 1, by omega, by go_num, by rw [HF.out, HY.out HQ.out]⟩
        case measure => simp [intOf]; omega
    · have hc0 := C0.out
      have HB := hid (show validB [a0, a1, a2, a3, a4, a5, a6] = inB a0 (-1000) 1000 by rw [← HZ.out, HF.out, List.drop_eq_nil_of_le (by simp; omega)]; rfl)
      go_wp2_with (go_at_call 45; refine (l6In_ok a0 (-1000) 1000 _).mono ?_; rintro e w' ⟨rfl, rfl⟩)
      go_ret
      exact ⟨by rw [HB.out]; rfl, below_alloc _ _⟩

set_option maxRecDepth 100000 in
set_option maxHeartbeats 4000000 in
theorem l3Reflect_ok (a0 a1 a2 a3 a4 a5 a6 r0 r1 r2 r3 r4 r5 r6 : Int) (w : World) (h1 : Bd 1000 [a0, a1, a2, a3, a4, a5, a6]) (h2 : Bd 1000 [r0, r1, r2, r3, r4, r5, r6]) :
    Calls Try.prog 47 #[.agg #[.int .i64 a0, .int .i64 a1, .int .i64 a2, .int .i64 a3, .int .i64 a4, .int .i64 a5, .int .i64 a6], .agg #[.int .i64 r0, .int .i64 r1, .int .i64 r2, .int .i64 r3, .int .i64 r4, .int .i64 r5, .int .i64 r6]] w fun k w' => k = .returned (clsV (refl [a0, a1, a2, a3, a4, a5, a6] [r0, r1, r2, r3, r4, r5, r6])) ∧ Below w.heap.size w w' := by
  have HA := hid (CB.new w 38 a0 a1 a2 a3 a4 a5 a6)
  have HR := hid (CB.newAt (w.alloc (.cells #[.int .i64 a0, .int .i64 a1, .int .i64 a2, .int .i64 a3, .int .i64 a4, .int .i64 a5, .int .i64 a6] 38)) 38 (w.heap.size + 1) (by simp) r0 r1 r2 r3 r4 r5 r6)
  have HB := hid (below_trans (below_alloc w (.cells #[.int .i64 a0, .int .i64 a1, .int .i64 a2, .int .i64 a3, .int .i64 a4, .int .i64 a5, .int .i64 a6] 38)) (below_alloc _ (.cells #[.int .i64 r0, .int .i64 r1, .int .i64 r2, .int .i64 r3, .int .i64 r4, .int .i64 r5, .int .i64 r6] 38)))
  have HA2 := hid ((HA.out.alloc (.cells #[.int .i64 r0, .int .i64 r1, .int .i64 r2, .int .i64 r3, .int .i64 r4, .int .i64 r5, .int .i64 r6] 38)).alloc (.cells #[.int .i64 0, .int .i64 0, .int .i64 0, .int .i64 0, .int .i64 0, .int .i64 0, .int .i64 0] 38))
  have HR2 := hid (HR.out.alloc (.cells #[.int .i64 0, .int .i64 0, .int .i64 0, .int .i64 0, .int .i64 0, .int .i64 0, .int .i64 0] 38))
  have HY2 := hid (CB.newAt ((w.alloc (.cells #[.int .i64 a0, .int .i64 a1, .int .i64 a2, .int .i64 a3, .int .i64 a4, .int .i64 a5, .int .i64 a6] 38)).alloc (.cells #[.int .i64 r0, .int .i64 r1, .int .i64 r2, .int .i64 r3, .int .i64 r4, .int .i64 r5, .int .i64 r6] 38)) 38 (w.heap.size + 2) (by simp) 0 0 0 0 0 0 0)
  have B2 := hid (below_trans HB.out (below_alloc _ (.cells #[.int .i64 0, .int .i64 0, .int .i64 0, .int .i64 0, .int .i64 0, .int .i64 0, .int .i64 0] 38)))
  have HP := hid (fun W => l1Product_ok a0 a1 a2 a3 a4 a5 a6 r0 r1 r2 r3 r4 r5 r6 W (h1.mono (by omega)) (h2.mono (by omega)))
  have HT := hid (fun W => l1Sum_ok a0 a1 a2 a3 a4 a5 a6 (prd [a0, a1, a2, a3, a4, a5, a6] [r0, r1, r2, r3, r4, r5, r6]) r0 r1 r2 r3 r4 r5 r6 W (h1.mono (by omega)) (prd_rng h1 h2) (h2.mono (by omega)))
  have n1 : ¬ w.heap.size = w.heap.size + 2 := by omega
  have n2 : ¬ w.heap.size + 1 = w.heap.size + 2 := by omega
  have HLn := hid (lin_len (n := prd [a0, a1, a2, a3, a4, a5, a6] [r0, r1, r2, r3, r4, r5, r6]) (seven_len a0 a1 a2 a3 a4 a5 a6) (seven_len r0 r1 r2 r3 r4 r5 r6))
  have HRf := hid (show refl [a0, a1, a2, a3, a4, a5, a6] [r0, r1, r2, r3, r4, r5, r6] = lin [a0, a1, a2, a3, a4, a5, a6] (prd [a0, a1, a2, a3, a4, a5, a6] [r0, r1, r2, r3, r4, r5, r6]) [r0, r1, r2, r3, r4, r5, r6] from rfl)
  rw [HRf.out]
  generalize lin [a0, a1, a2, a3, a4, a5, a6] (prd [a0, a1, a2, a3, a4, a5, a6] [r0, r1, r2, r3, r4, r5, r6]) [r0, r1, r2, r3, r4, r5, r6] = X at *
  obtain ⟨x0, x1, x2, x3, x4, x5, x6, hX⟩ := seven HLn.out
  subst hX
  generalize prd [a0, a1, a2, a3, a4, a5, a6] [r0, r1, r2, r3, r4, r5, r6] = P at *
  have HXv := hid (show clsV [x0, x1, x2, x3, x4, x5, x6] = .agg #[.int .i64 x0, .int .i64 x1, .int .i64 x2, .int .i64 x3, .int .i64 x4, .int .i64 x5, .int .i64 x6] from rfl)
  clear h1 h2 HRf HLn HA HR HB
  go_enter Try.func47, Try.ntmps47
  go_wp2
  generalize ((w.alloc (.cells #[.int .i64 a0, .int .i64 a1, .int .i64 a2, .int .i64 a3, .int .i64 a4, .int .i64 a5, .int .i64 a6] 38)).alloc (.cells #[.int .i64 r0, .int .i64 r1, .int .i64 r2, .int .i64 r3, .int .i64 r4, .int .i64 r5, .int .i64 r6] 38)).alloc (.cells #[.int .i64 0, .int .i64 0, .int .i64 0, .int .i64 0, .int .i64 0, .int .i64 0, .int .i64 0] 38) = W at *
  obtain ⟨p0, p1, p2, p3, p4, p5, p6⟩ := HA2.out.seven
  obtain ⟨q0, q1, q2, q3, q4, q5, q6⟩ := HR2.out.seven
  go_region_held_law (fun w' => (w'.cell? ⟨w.heap.size, 0, none⟩ = some (.int .i64 a0) ∧ w'.cell? ⟨w.heap.size, 1, none⟩ = some (.int .i64 a1) ∧ w'.cell? ⟨w.heap.size, 2, none⟩ = some (.int .i64 a2) ∧ w'.cell? ⟨w.heap.size, 3, none⟩ = some (.int .i64 a3) ∧ w'.cell? ⟨w.heap.size, 4, none⟩ = some (.int .i64 a4) ∧ w'.cell? ⟨w.heap.size, 5, none⟩ = some (.int .i64 a5) ∧ w'.cell? ⟨w.heap.size, 6, none⟩ = some (.int .i64 a6)) ∧ (w'.cell? ⟨w.heap.size + 1, 0, none⟩ = some (.int .i64 r0) ∧ w'.cell? ⟨w.heap.size + 1, 1, none⟩ = some (.int .i64 r1) ∧ w'.cell? ⟨w.heap.size + 1, 2, none⟩ = some (.int .i64 r2) ∧ w'.cell? ⟨w.heap.size + 1, 3, none⟩ = some (.int .i64 r3) ∧ w'.cell? ⟨w.heap.size + 1, 4, none⟩ = some (.int .i64 r4) ∧ w'.cell? ⟨w.heap.size + 1, 5, none⟩ = some (.int .i64 r5) ∧ w'.cell? ⟨w.heap.size + 1, 6, none⟩ = some (.int .i64 r6)))
    (first | with_reducible exact ⟨HA2.out.drew.seven, HR2.out.drew.seven⟩ | with_reducible exact ⟨XA.out.seven, XR.out.seven⟩ | with_reducible exact ⟨YA.out.seven, YR.out.seven⟩ | with_reducible exact ⟨(YA.out.far n1 x0 x1 x2 x3 x4 x5 x6).seven, (YR.out.far n2 x0 x1 x2 x3 x4 x5 x6).seven⟩ | go_keep)
    (first
      | (go_at_call 61; refine (HP.out _).mono ?_; rintro e w1 ⟨rfl, b1⟩; have XA := hid (HA2.out.drew.below b1); have XR := hid (HR2.out.drew.below b1); have XY := hid (HY2.out.drew.below b1); have B3 := hid (below_trans B2.out.drew b1); clear b1)
      | (go_at_call 60; refine (HT.out _).mono ?_; rintro e w2 ⟨rfl, b2⟩; rw [HXv.out]; have YA := hid (XA.out.below b2); have YR := hid (XR.out.below b2); have YY := hid (XY.out.below b2); have B4 := hid (below_trans B3.out b2); obtain ⟨_, _, _, _, _, _, _, g0, g1, g2, g3, g4, g5, g6⟩ := YY.out.cells; obtain ⟨y0, y1, y2, y3, y4, y5, y6⟩ := YY.out.seven; clear b2))
  have Z := hid (YY.out.put x0 x1 x2 x3 x4 x5 x6)
  have B5 := hid (below_put7 B4.out (show w.heap.size ≤ w.heap.size + 2 by omega) x0 x1 x2 x3 x4 x5 x6)
  obtain ⟨u0, u1, u2, u3, u4, u5, u6⟩ := Z.out.seven
  go_wp2
  refine bodyPost_ret (v := clsV [x0, x1, x2, x3, x4, x5, x6]) (by simp [results, Try.results47, go_sem, clsV, u0, u1, u2, u3, u4, u5, u6]) rfl ⟨rfl, ?_⟩
  with_reducible exact B5.out

set_option maxRecDepth 100000 in
set_option maxHeartbeats 2000000 in
theorem l3Simple_ok (i : Nat) (w : World) (h : i ≤ 5) :
    Calls Try.prog 48 #[.int .i64 i] w fun k w' => k = .returned (clsV (simple i)) ∧ Below w.heap.size w w' := by
  have h : i = 0 ∨ i = 1 ∨ i = 2 ∨ i = 3 ∨ i = 4 ∨ i = 5 := by omega
  rcases h with rfl | rfl | rfl | rfl | rfl | rfl
  all_goals
    go_enter Try.func48, Try.ntmps48
    go_wp2
    refine bodyPost_ret (v := clsV (simple _)) (by simp [results, Try.results48, go_sem, clsV, simple]) rfl ⟨rfl, ?_⟩
    first | exact below_alloc _ _ | exact below_trans (below_alloc _ _) (below_alloc _ _)

end Go.Proofs.Ytcffaeepanhpfaa
