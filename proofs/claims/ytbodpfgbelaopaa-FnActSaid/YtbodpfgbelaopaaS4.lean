/-
  Contracts: roots and reflections in roots: the reference's.
-/
import Derived.Test.YtbodpfgbelaopaaS2
import Derived.Test.YtbodpfgbelaopaaK4
namespace Go.Proofs.Ytbodpfgbelaopaa
open Go.RowKit
set_option linter.unusedVariables false
set_option linter.unusedSimpArgs false

set_option maxRecDepth 100000 in
set_option maxHeartbeats 2000000 in
theorem specRootIn_ok (a0 a1 a2 a3 a4 a5 a6 : Int) (w : World) :
    Calls Try.prog 26 #[.agg #[.int .i64 a0, .int .i64 a1, .int .i64 a2, .int .i64 a3, .int .i64 a4, .int .i64 a5, .int .i64 a6]] w fun k w' => k = .returned (.bool (rootB [a0, a1, a2, a3, a4, a5, a6])) ∧ Below w.heap.size w w' := by
  have X0 := hid (CB.new w 26 a0 a1 a2 a3 a4 a5 a6)
  have B0 := hid (below_alloc w (.cells #[.int .i64 a0, .int .i64 a1, .int .i64 a2, .int .i64 a3, .int .i64 a4, .int .i64 a5, .int .i64 a6] 26))
  have HR := hid (show rootB [a0, a1, a2, a3, a4, a5, a6] = ((validB [a0, a1, a2, a3, a4, a5, a6] && (prd [a0, a1, a2, a3, a4, a5, a6] [a0, a1, a2, a3, a4, a5, a6] == -2)) && (deg [a0, a1, a2, a3, a4, a5, a6] == 0)) from rfl)
  cases hv : validB [a0, a1, a2, a3, a4, a5, a6]
  · have HV := hid hv
    clear hv
    go_enter Try.func26, Try.ntmps26
    go_wp2_with fail
    refine (ClassValid_ok a0 a1 a2 a3 a4 a5 a6 _).mono ?_
    rintro e w1 ⟨rfl, b1⟩
    rw [HV.out]
    have B1 := hid (below_trans B0.out b1)
    clear b1
    go_wp2
    go_ret
    exact ⟨by rw [HR.out, HV.out]; rfl, B1.out⟩
  · have HV := hid hv
    have hb : Bd 1000000 [a0, a1, a2, a3, a4, a5, a6] := (validB_bd hv).mono (by omega)
    have HP := hid (fun W => l1Product_ok a0 a1 a2 a3 a4 a5 a6 a0 a1 a2 a3 a4 a5 a6 W hb hb)
    have HD := hid (fun W => l1Degree_ok a0 a1 a2 a3 a4 a5 a6 W hb)
    clear hv hb
    cases hp : (prd [a0, a1, a2, a3, a4, a5, a6] [a0, a1, a2, a3, a4, a5, a6] == -2)
    · have HQ := hid hp
      generalize prd [a0, a1, a2, a3, a4, a5, a6] [a0, a1, a2, a3, a4, a5, a6] = P at *
      go_enter Try.func26, Try.ntmps26
      go_wp2_with fail
      refine (ClassValid_ok a0 a1 a2 a3 a4 a5 a6 _).mono ?_
      rintro e w1 ⟨rfl, b1⟩
      rw [HV.out]
      have B1 := hid (below_trans B0.out b1)
      have X1 := hid (X0.out.below b1)
      obtain ⟨x0, x1, x2, x3, x4, x5, x6⟩ := X1.out.seven
      clear b1
      go_wp2_with fail
      refine (HP.out _).mono ?_
      rintro e w2 ⟨rfl, b2⟩
      have B2 := hid (below_trans B1.out b2)
      clear b2 x0 x1 x2 x3 x4 x5 x6
      go_wp2
      go_ret
      exact ⟨by rw [HR.out, HV.out, HQ.out]; rfl, B2.out⟩
    · have HQ := hid hp
      generalize prd [a0, a1, a2, a3, a4, a5, a6] [a0, a1, a2, a3, a4, a5, a6] = P at *
      generalize deg [a0, a1, a2, a3, a4, a5, a6] = D at *
      go_enter Try.func26, Try.ntmps26
      go_wp2_with fail
      refine (ClassValid_ok a0 a1 a2 a3 a4 a5 a6 _).mono ?_
      rintro e w1 ⟨rfl, b1⟩
      rw [HV.out]
      have B1 := hid (below_trans B0.out b1)
      have X1 := hid (X0.out.below b1)
      obtain ⟨x0, x1, x2, x3, x4, x5, x6⟩ := X1.out.seven
      clear b1
      go_wp2_with fail
      refine (HP.out _).mono ?_
      rintro e w2 ⟨rfl, b2⟩
      have B2 := hid (below_trans B1.out b2)
      have X2 := hid (X1.out.below b2)
      clear b2 x0 x1 x2 x3 x4 x5 x6
      obtain ⟨x0, x1, x2, x3, x4, x5, x6⟩ := X2.out.seven
      go_wp2_with fail
      refine (HD.out _).mono ?_
      rintro e w3 ⟨rfl, b3⟩
      have B3 := hid (below_trans B2.out b3)
      clear b3 x0 x1 x2 x3 x4 x5 x6
      go_wp2
      go_ret
      exact ⟨by rw [HR.out, HV.out, HQ.out]; rfl, B3.out⟩

set_option maxRecDepth 100000 in
set_option maxHeartbeats 4000000 in
theorem specRootReflect_ok (a0 a1 a2 a3 a4 a5 a6 r0 r1 r2 r3 r4 r5 r6 : Int) (w : World) :
    Calls Try.prog 29 #[.agg #[.int .i64 a0, .int .i64 a1, .int .i64 a2, .int .i64 a3, .int .i64 a4, .int .i64 a5, .int .i64 a6], .agg #[.int .i64 r0, .int .i64 r1, .int .i64 r2, .int .i64 r3, .int .i64 r4, .int .i64 r5, .int .i64 r6]] w fun k w' => k = .returned (.tuple #[clsV (rrV [a0, a1, a2, a3, a4, a5, a6] [r0, r1, r2, r3, r4, r5, r6]), .bool (rrB [a0, a1, a2, a3, a4, a5, a6] [r0, r1, r2, r3, r4, r5, r6])]) ∧ Below w.heap.size w w' := by
  have X0 := hid (((CB.new w 26 a0 a1 a2 a3 a4 a5 a6).alloc (.cells #[.int .i64 r0, .int .i64 r1, .int .i64 r2, .int .i64 r3, .int .i64 r4, .int .i64 r5, .int .i64 r6] 26)).alloc (.cells #[.int .i64 0, .int .i64 0, .int .i64 0, .int .i64 0, .int .i64 0, .int .i64 0, .int .i64 0] 26))
  have R0 := hid ((CB.newAt (w.alloc (.cells #[.int .i64 a0, .int .i64 a1, .int .i64 a2, .int .i64 a3, .int .i64 a4, .int .i64 a5, .int .i64 a6] 26)) 26 (w.heap.size + 1) (by simp) r0 r1 r2 r3 r4 r5 r6).alloc (.cells #[.int .i64 0, .int .i64 0, .int .i64 0, .int .i64 0, .int .i64 0, .int .i64 0, .int .i64 0] 26))
  have Y0 := hid (CB.newAt ((w.alloc (.cells #[.int .i64 a0, .int .i64 a1, .int .i64 a2, .int .i64 a3, .int .i64 a4, .int .i64 a5, .int .i64 a6] 26)).alloc (.cells #[.int .i64 r0, .int .i64 r1, .int .i64 r2, .int .i64 r3, .int .i64 r4, .int .i64 r5, .int .i64 r6] 26)) 26 (w.heap.size + 2) (by simp) 0 0 0 0 0 0 0)
  have B0 := hid (below_trans (below_trans (below_alloc w (.cells #[.int .i64 a0, .int .i64 a1, .int .i64 a2, .int .i64 a3, .int .i64 a4, .int .i64 a5, .int .i64 a6] 26)) (below_alloc _ (.cells #[.int .i64 r0, .int .i64 r1, .int .i64 r2, .int .i64 r3, .int .i64 r4, .int .i64 r5, .int .i64 r6] 26))) (below_alloc _ (.cells #[.int .i64 0, .int .i64 0, .int .i64 0, .int .i64 0, .int .i64 0, .int .i64 0, .int .i64 0] 26)))
  have HR := hid (show rrB [a0, a1, a2, a3, a4, a5, a6] [r0, r1, r2, r3, r4, r5, r6] = (validB [a0, a1, a2, a3, a4, a5, a6] && rootB [r0, r1, r2, r3, r4, r5, r6] && validB (refl [a0, a1, a2, a3, a4, a5, a6] [r0, r1, r2, r3, r4, r5, r6])) from rfl)
  have HVr := hid (show rrV [a0, a1, a2, a3, a4, a5, a6] [r0, r1, r2, r3, r4, r5, r6] = if rrB [a0, a1, a2, a3, a4, a5, a6] [r0, r1, r2, r3, r4, r5, r6] then refl [a0, a1, a2, a3, a4, a5, a6] [r0, r1, r2, r3, r4, r5, r6] else zeroC from rfl)
  have n5 : w.heap.size ≤ w.heap.size + 2 := by omega
  have HC := hid (fun W => ClassValid_ok a0 a1 a2 a3 a4 a5 a6 W)
  have HRt := hid (fun W => specRootIn_ok r0 r1 r2 r3 r4 r5 r6 W)
  cases hv : validB [a0, a1, a2, a3, a4, a5, a6]
  · have HV := hid hv
    have HF := hid (show rrB [a0, a1, a2, a3, a4, a5, a6] [r0, r1, r2, r3, r4, r5, r6] = false by rw [HR.out, hv]; rfl)
    clear hv
    go_enter Try.func29, Try.ntmps29
    go_wp2_with fail
    refine (HC.out _).mono ?_
    rintro e w1 ⟨rfl, b1⟩
    rw [HV.out]
    have B1 := hid (below_trans B0.out b1)
    have Y1 := hid (Y0.out.below b1)
    obtain ⟨y0, y1, y2, y3, y4, y5, y6, g0, g1, g2, g3, g4, g5, g6⟩ := Y1.out.cells
    have Y2 := hid (Y1.out.put 0 0 0 0 0 0 0)
    have B2 := hid (below_put7 B1.out n5 0 0 0 0 0 0 0)
    obtain ⟨u0, u1, u2, u3, u4, u5, u6⟩ := Y2.out.seven
    clear b1
    go_wp2
    refine bodyPost_ret (v := .tuple #[clsV zeroC, .bool false]) (by simp [results, Try.results29, go_sem, clsV, zeroC, u0, u1, u2, u3, u4, u5, u6]) rfl ⟨by rw [HVr.out, HF.out]; rfl, ?_⟩
    with_reducible exact B2.out
  · have HV := hid hv
    cases hw : rootB [r0, r1, r2, r3, r4, r5, r6]
    · have HW := hid hw
      have HF := hid (show rrB [a0, a1, a2, a3, a4, a5, a6] [r0, r1, r2, r3, r4, r5, r6] = false by rw [HR.out, hv, hw]; rfl)
      clear hv hw
      go_enter Try.func29, Try.ntmps29
      go_wp2_with fail
      refine (HC.out _).mono ?_
      rintro e w1 ⟨rfl, b1⟩
      rw [HV.out]
      have B1 := hid (below_trans B0.out b1)
      have Y1 := hid (Y0.out.below b1)
      have R1 := hid (R0.out.below b1)
      obtain ⟨x0, x1, x2, x3, x4, x5, x6⟩ := R1.out.seven
      clear b1
      go_wp2_with fail
      refine (HRt.out _).mono ?_
      rintro e w2 ⟨rfl, b2⟩
      rw [HW.out]
      have B2 := hid (below_trans B1.out b2)
      have Y2 := hid (Y1.out.below b2)
      clear b2 x0 x1 x2 x3 x4 x5 x6
      obtain ⟨y0, y1, y2, y3, y4, y5, y6, g0, g1, g2, g3, g4, g5, g6⟩ := Y2.out.cells
      have Y3 := hid (Y2.out.put 0 0 0 0 0 0 0)
      have B3 := hid (below_put7 B2.out n5 0 0 0 0 0 0 0)
      obtain ⟨u0, u1, u2, u3, u4, u5, u6⟩ := Y3.out.seven
      go_wp2
      refine bodyPost_ret (v := .tuple #[clsV zeroC, .bool false]) (by simp [results, Try.results29, go_sem, clsV, zeroC, u0, u1, u2, u3, u4, u5, u6]) rfl ⟨by rw [HVr.out, HF.out]; rfl, ?_⟩
      with_reducible exact B3.out
    · have HW := hid hw
      have ha := validB_bd hv
      have hr : Bd 1000 [r0, r1, r2, r3, r4, r5, r6] := validB_bd (by unfold rootB at hw; simp only [Bool.and_eq_true] at hw; exact hw.1.1)
      have HRf := hid (fun W => l3Reflect_ok a0 a1 a2 a3 a4 a5 a6 r0 r1 r2 r3 r4 r5 r6 W ha hr)
      have HF := hid (show rrB [a0, a1, a2, a3, a4, a5, a6] [r0, r1, r2, r3, r4, r5, r6] = validB (refl [a0, a1, a2, a3, a4, a5, a6] [r0, r1, r2, r3, r4, r5, r6]) by rw [HR.out, hv, hw]; rfl)
      have HG := hid (show rrV [a0, a1, a2, a3, a4, a5, a6] [r0, r1, r2, r3, r4, r5, r6] = toldC (refl [a0, a1, a2, a3, a4, a5, a6] [r0, r1, r2, r3, r4, r5, r6]) by rw [HVr.out, HF.out]; rfl)
      rw [HF.out, HG.out]
      have HLn := refl_len (seven_len a0 a1 a2 a3 a4 a5 a6) (seven_len r0 r1 r2 r3 r4 r5 r6)
      clear hv hw ha hr HF HG HVr HR
      generalize refl [a0, a1, a2, a3, a4, a5, a6] [r0, r1, r2, r3, r4, r5, r6] = X at *
      obtain ⟨x0, x1, x2, x3, x4, x5, x6, hX⟩ := seven HLn
      subst hX
      have HXv := hid (show clsV [x0, x1, x2, x3, x4, x5, x6] = .agg #[.int .i64 x0, .int .i64 x1, .int .i64 x2, .int .i64 x3, .int .i64 x4, .int .i64 x5, .int .i64 x6] from rfl)
      have HTo := hid (fun W => l1Done_ok x0 x1 x2 x3 x4 x5 x6 W)
      have HTl := (show (toldC [x0, x1, x2, x3, x4, x5, x6]).length = 7 by unfold toldC; split <;> rfl)
      generalize toldC [x0, x1, x2, x3, x4, x5, x6] = U at *
      obtain ⟨u0, u1, u2, u3, u4, u5, u6, hU⟩ := seven HTl
      subst hU
      have HUv := hid (show clsV [u0, u1, u2, u3, u4, u5, u6] = .agg #[.int .i64 u0, .int .i64 u1, .int .i64 u2, .int .i64 u3, .int .i64 u4, .int .i64 u5, .int .i64 u6] from rfl)
      generalize validB [x0, x1, x2, x3, x4, x5, x6] = D at *
      clear HLn HTl
      go_enter Try.func29, Try.ntmps29
      go_wp2_with fail
      refine (HC.out _).mono ?_
      rintro e w1 ⟨rfl, b1⟩
      rw [HV.out]
      have B1 := hid (below_trans B0.out b1)
      have Y1 := hid (Y0.out.below b1)
      have X1 := hid (X0.out.below b1)
      have R1 := hid (R0.out.below b1)
      obtain ⟨q0, q1, q2, q3, q4, q5, q6⟩ := R1.out.seven
      clear b1
      go_wp2_with fail
      refine (HRt.out _).mono ?_
      rintro e w2 ⟨rfl, b2⟩
      rw [HW.out]
      have B2 := hid (below_trans B1.out b2)
      have Y2 := hid (Y1.out.below b2)
      have X2 := hid (X1.out.below b2)
      have R2 := hid (R1.out.below b2)
      clear b2 q0 q1 q2 q3 q4 q5 q6
      obtain ⟨q0, q1, q2, q3, q4, q5, q6⟩ := R2.out.seven
      obtain ⟨p0, p1, p2, p3, p4, p5, p6⟩ := X2.out.seven
      go_wp2_with fail
      refine (HRf.out _).mono ?_
      rintro e w3 ⟨rfl, b3⟩
      rw [HXv.out]
      have B3 := hid (below_trans B2.out b3)
      have Y3 := hid (Y2.out.below b3)
      clear b3 q0 q1 q2 q3 q4 q5 q6 p0 p1 p2 p3 p4 p5 p6
      go_wp2_with fail
      refine (HTo.out _).mono ?_
      rintro e w4 ⟨rfl, b4⟩
      rw [HUv.out]
      have B4 := hid (below_trans B3.out b4)
      have Y4 := hid (Y3.out.below b4)
      clear b4
      obtain ⟨y0, y1, y2, y3, y4, y5, y6, g0, g1, g2, g3, g4, g5, g6⟩ := Y4.out.cells
      have Y5 := hid (Y4.out.put u0 u1 u2 u3 u4 u5 u6)
      have B5 := hid (below_put7 B4.out n5 u0 u1 u2 u3 u4 u5 u6)
      obtain ⟨s0, s1, s2, s3, s4, s5, s6⟩ := Y5.out.seven
      go_wp2
      refine bodyPost_ret (v := .tuple #[clsV [u0, u1, u2, u3, u4, u5, u6], .bool D]) (by simp [results, Try.results29, go_sem, clsV, s0, s1, s2, s3, s4, s5, s6]) rfl ⟨rfl, ?_⟩
      with_reducible exact B5.out

end Go.Proofs.Ytbodpfgbelaopaa
