/-
  The law FnReflect.
-/
import Derived.Test.YtbodpfgbelaopaaPx
namespace Go.Proofs.Ytbodpfgbelaopaa
open Go.RowKit
set_option linter.unusedVariables false
set_option linter.unusedSimpArgs false

theorem timesC_valid {a : List Int} (h7 : a.length = 7) (h : validB a = true) : validB (timesC a (-1)) = true := by
  obtain ⟨d, a, b, c, e, f, g, rfl⟩ := seven h7
  simp only [validB, timesC, zeroC, lin, List.all_cons, List.all_nil, Bool.and_true, Bool.and_eq_true, inC, decide_eq_true_eq] at h ⊢
  omega
/-- All that the law asks of a class reflected in a root, and again. -/
theorem reflect_facts {a r : List Int} (ha : a.length = 7) (hr : r.length = 7) (h : rrB a r = true) :
    (rrB (rrV a r) r = true ∧ rrV (rrV a r) r = a ∧ deg (rrV a r) = deg a ∧ prd (rrV a r) (rrV a r) = prd a a) ∧ (rrB r r = true ∧ rrV r r = timesC r (-1)) ∧ validB (timesC r (-1)) = true ∧ validB a = true ∧ validB r = true ∧ validB (rrV a r) = true := by
  obtain ⟨h1, h2, h3, h4⟩ := rr_parts h
  obtain ⟨k1, k2, k3⟩ := rootB_parts h2
  have hm := timesC_valid hr k1
  rw [h4]
  obtain ⟨a0, a1, a2, a3, a4, a5, a6, rfl⟩ := seven ha
  obtain ⟨r0, r1, r2, r3, r4, r5, r6, rfl⟩ := seven hr
  have e1 := refl_back (d := a0) (a := a1) (b := a2) (c := a3) (e := a4) (f := a5) (g := a6) k2
  have e2 := refl_deg (d := a0) (a := a1) (b := a2) (c := a3) (e := a4) (f := a5) (g := a6) k3
  have e3 := refl_prd (d := a0) (a := a1) (b := a2) (c := a3) (e := a4) (f := a5) (g := a6) k2
  have e4 := refl_self k2
  have b1 : rrB (refl [a0, a1, a2, a3, a4, a5, a6] [r0, r1, r2, r3, r4, r5, r6]) [r0, r1, r2, r3, r4, r5, r6] = true := by simp only [rrB, h3, h2, e1, h1, Bool.and_self]
  have b2 : rrB [r0, r1, r2, r3, r4, r5, r6] [r0, r1, r2, r3, r4, r5, r6] = true := by simp only [rrB, k1, h2, e4, hm, Bool.and_self]
  exact ⟨⟨b1, by rw [rrV, if_pos b1, e1], e2, e3⟩, ⟨b2, by rw [rrV, if_pos b2, e4]⟩, hm, h1, k1, h3⟩

set_option maxRecDepth 100000 in
set_option maxHeartbeats 8000000 in
theorem FnReflect_ok (A : Option Addr) (n c : Nat) (xs : List Int) (w : World) (hr : n ≤ 1048576 → RB w A n c xs) :
    Calls Try.prog 7 #[.slice A n c] w fun e w' => e = .returned (.bool true) ∧ Below w.heap.size w w' := by
  by_cases hb : n ≤ 1048576
  · have HR := hid (hr hb)
    clear hr
    go_enter Try.func7, Try.ntmps7
    go_wp2_with fail
    refine (DrawRootReflect_ok A n c xs w HR.out).mono ?_
    rintro e w1 ⟨a0, a1, a2, a3, a4, a5, a6, r0, r1, r2, r3, r4, r5, r6, rfl, _, _, b1⟩
    have B1 := hid (below_trans b1 (below_trans (below_alloc w1 (.cells #[.int .i64 a0, .int .i64 a1, .int .i64 a2, .int .i64 a3, .int .i64 a4, .int .i64 a5, .int .i64 a6] 26)) (below_alloc _ (.cells #[.int .i64 r0, .int .i64 r1, .int .i64 r2, .int .i64 r3, .int .i64 r4, .int .i64 r5, .int .i64 r6] 26))))
    have X1 := hid ((CB.new w1 26 a0 a1 a2 a3 a4 a5 a6).alloc (.cells #[.int .i64 r0, .int .i64 r1, .int .i64 r2, .int .i64 r3, .int .i64 r4, .int .i64 r5, .int .i64 r6] 26))
    have R1 := hid (CB.newAt (w1.alloc (.cells #[.int .i64 a0, .int .i64 a1, .int .i64 a2, .int .i64 a3, .int .i64 a4, .int .i64 a5, .int .i64 a6] 26)) 26 (w1.heap.size + 1) (by simp) r0 r1 r2 r3 r4 r5 r6)
    have HI := hid (fun W => implRootReflect_ok a0 a1 a2 a3 a4 a5 a6 r0 r1 r2 r3 r4 r5 r6 W)
    have HS := hid (fun W => specRootReflect_ok a0 a1 a2 a3 a4 a5 a6 r0 r1 r2 r3 r4 r5 r6 W)
    have HFa := hid (fun h => reflect_facts (seven_len a0 a1 a2 a3 a4 a5 a6) (seven_len r0 r1 r2 r3 r4 r5 r6) h)
    have HLn : (rrV [a0, a1, a2, a3, a4, a5, a6] [r0, r1, r2, r3, r4, r5, r6]).length = 7 := by
      rw [rrV]; split
      · exact refl_len (seven_len a0 a1 a2 a3 a4 a5 a6) (seven_len r0 r1 r2 r3 r4 r5 r6)
      · rfl
    clear b1
    generalize rrB [a0, a1, a2, a3, a4, a5, a6] [r0, r1, r2, r3, r4, r5, r6] = D at *
    generalize rrV [a0, a1, a2, a3, a4, a5, a6] [r0, r1, r2, r3, r4, r5, r6] = Y at *
    obtain ⟨y0, y1, y2, y3, y4, y5, y6, hY⟩ := seven HLn
    subst hY
    have HYv := hid (show clsV [y0, y1, y2, y3, y4, y5, y6] = .agg #[.int .i64 y0, .int .i64 y1, .int .i64 y2, .int .i64 y3, .int .i64 y4, .int .i64 y5, .int .i64 y6] from rfl)
    clear HLn
    obtain ⟨x0, x1, x2, x3, x4, x5, x6⟩ := X1.out.seven
    obtain ⟨s0, s1, s2, s3, s4, s5, s6⟩ := R1.out.seven
    go_wp2_with fail
    refine (HI.out _).mono ?_
    rintro e w2 ⟨rfl, b2⟩
    rw [HYv.out]
    have hb2 := below_trans b2 (below_alloc w2 (.cells #[.int .i64 y0, .int .i64 y1, .int .i64 y2, .int .i64 y3, .int .i64 y4, .int .i64 y5, .int .i64 y6] 26))
    have B2 := hid (below_trans B1.out hb2)
    have X2 := hid (X1.out.below hb2)
    have R2 := hid (R1.out.below hb2)
    have Y2 := hid (CB.new w2 26 y0 y1 y2 y3 y4 y5 y6)
    clear b2 hb2 x0 x1 x2 x3 x4 x5 x6 s0 s1 s2 s3 s4 s5 s6
    obtain ⟨x0, x1, x2, x3, x4, x5, x6⟩ := X2.out.seven
    obtain ⟨s0, s1, s2, s3, s4, s5, s6⟩ := R2.out.seven
    go_wp2_with fail
    refine (HS.out _).mono ?_
    rintro e w3 ⟨rfl, b3⟩
    rw [HYv.out]
    have hb3 := below_trans b3 (below_alloc w3 (.cells #[.int .i64 y0, .int .i64 y1, .int .i64 y2, .int .i64 y3, .int .i64 y4, .int .i64 y5, .int .i64 y6] 26))
    have B3 := hid (below_trans B2.out hb3)
    have X3 := hid (X2.out.below hb3)
    have R3 := hid (R2.out.below hb3)
    have Y3 := hid (Y2.out.below hb3)
    have Q3 := hid (CB.new w3 26 y0 y1 y2 y3 y4 y5 y6)
    clear b3 hb3 x0 x1 x2 x3 x4 x5 x6 s0 s1 s2 s3 s4 s5 s6
    obtain ⟨x0, x1, x2, x3, x4, x5, x6⟩ := Y3.out.seven
    obtain ⟨s0, s1, s2, s3, s4, s5, s6⟩ := Q3.out.seven
    have eqc := run_eqlCls y0 y1 y2 y3 y4 y5 y6 y0 y1 y2 y3 y4 y5 y6
    have nec := run_neqCls y0 y1 y2 y3 y4 y5 y6 y0 y1 y2 y3 y4 y5 y6
    rw [beq_self_eq_true] at eqc nec
    have hgd := guardCls
    have hne : (D != D) = false := by simp
    cases D
    · clear HFa
      go_wp2
      go_ret
      exact ⟨rfl, B3.out⟩
    · obtain ⟨⟨f1, f2, f3, f4⟩, ⟨f5, f6⟩, f7, f8, f9, f10⟩ := HFa.out rfl
      have HX := hid (fun W => implRootReflect_ok y0 y1 y2 y3 y4 y5 y6 r0 r1 r2 r3 r4 r5 r6 W)
      have HM := hid (fun W => implRootReflect_ok r0 r1 r2 r3 r4 r5 r6 r0 r1 r2 r3 r4 r5 r6 W)
      have HT := hid (fun W => classTimes_ok r0 r1 r2 r3 r4 r5 r6 (-1) W f9 (by omega) (by omega))
      have HDy := hid (fun W => classDegree_ok y0 y1 y2 y3 y4 y5 y6 W f10)
      have HDa := hid (fun W => classDegree_ok a0 a1 a2 a3 a4 a5 a6 W f8)
      have HPy := hid (fun W => classProduct_ok y0 y1 y2 y3 y4 y5 y6 y0 y1 y2 y3 y4 y5 y6 W f10 f10)
      have HPa := hid (fun W => classProduct_ok a0 a1 a2 a3 a4 a5 a6 a0 a1 a2 a3 a4 a5 a6 W f8 f8)
      have HLm := timesC_len (n := -1) (seven_len r0 r1 r2 r3 r4 r5 r6)
      rw [f1, f2, show clsV [a0, a1, a2, a3, a4, a5, a6] = .agg #[.int .i64 a0, .int .i64 a1, .int .i64 a2, .int .i64 a3, .int .i64 a4, .int .i64 a5, .int .i64 a6] from rfl] at HX
      rw [f5, f6] at HM
      rw [f7, show toldC (timesC [r0, r1, r2, r3, r4, r5, r6] (-1)) = timesC [r0, r1, r2, r3, r4, r5, r6] (-1) by rw [toldC, f7]; rfl] at HT
      rw [f3] at HDy
      rw [f4] at HPy
      clear HFa f1 f2 f3 f4 f5 f6 f7 f8 f9 f10 HI HS
      generalize timesC [r0, r1, r2, r3, r4, r5, r6] (-1) = Z at *
      generalize deg [a0, a1, a2, a3, a4, a5, a6] = dg at *
      generalize prd [a0, a1, a2, a3, a4, a5, a6] [a0, a1, a2, a3, a4, a5, a6] = pr at *
      obtain ⟨z0, z1, z2, z3, z4, z5, z6, hZ⟩ := seven HLm
      subst hZ
      have HZv := hid (show clsV [z0, z1, z2, z3, z4, z5, z6] = .agg #[.int .i64 z0, .int .i64 z1, .int .i64 z2, .int .i64 z3, .int .i64 z4, .int .i64 z5, .int .i64 z6] from rfl)
      clear HLm

      clear s0 s1 s2 s3 s4 s5 s6
      obtain ⟨s0, s1, s2, s3, s4, s5, s6⟩ := R3.out.seven
      go_wp2_with fail
      refine (HX.out _).mono ?_
      rintro e w4 ⟨rfl, b4⟩
      have hb4 := below_trans b4 (below_alloc w4 (.cells #[.int .i64 a0, .int .i64 a1, .int .i64 a2, .int .i64 a3, .int .i64 a4, .int .i64 a5, .int .i64 a6] 26))
      have B4 := hid (below_trans B3.out hb4)
      have X4 := hid (X3.out.below hb4)
      have R4 := hid (R3.out.below hb4)
      have Y4 := hid (Y3.out.below hb4)
      have U4 := hid (CB.new w4 26 a0 a1 a2 a3 a4 a5 a6)
      clear b4 hb4
      clear x0 x1 x2 x3 x4 x5 x6
      clear s0 s1 s2 s3 s4 s5 s6
      obtain ⟨x0, x1, x2, x3, x4, x5, x6⟩ := Y4.out.seven
      go_wp2_with fail
      refine (HDy.out _).mono ?_
      rintro e w5 ⟨rfl, b5⟩
      have hb5 := b5
      have B5 := hid (below_trans B4.out hb5)
      have X5 := hid (X4.out.below hb5)
      have R5 := hid (R4.out.below hb5)
      have Y5 := hid (Y4.out.below hb5)
      have U5 := hid (U4.out.below hb5)
      clear b5 hb5
      clear x0 x1 x2 x3 x4 x5 x6
      obtain ⟨x0, x1, x2, x3, x4, x5, x6⟩ := X5.out.seven
      go_wp2_with fail
      refine (HDa.out _).mono ?_
      rintro e w6 ⟨rfl, b6⟩
      have hb6 := b6
      have B6 := hid (below_trans B5.out hb6)
      have X6 := hid (X5.out.below hb6)
      have R6 := hid (R5.out.below hb6)
      have Y6 := hid (Y5.out.below hb6)
      have U6 := hid (U5.out.below hb6)
      clear b6 hb6
      clear x0 x1 x2 x3 x4 x5 x6
      obtain ⟨x0, x1, x2, x3, x4, x5, x6⟩ := Y6.out.seven
      go_wp2_with fail
      refine (HPy.out _).mono ?_
      rintro e w7 ⟨rfl, b7⟩
      have hb7 := b7
      have B7 := hid (below_trans B6.out hb7)
      have X7 := hid (X6.out.below hb7)
      have R7 := hid (R6.out.below hb7)
      have Y7 := hid (Y6.out.below hb7)
      have U7 := hid (U6.out.below hb7)
      clear b7 hb7
      clear x0 x1 x2 x3 x4 x5 x6
      obtain ⟨x0, x1, x2, x3, x4, x5, x6⟩ := X7.out.seven
      go_wp2_with fail
      refine (HPa.out _).mono ?_
      rintro e w8 ⟨rfl, b8⟩
      have hb8 := b8
      have B8 := hid (below_trans B7.out hb8)
      have X8 := hid (X7.out.below hb8)
      have R8 := hid (R7.out.below hb8)
      have Y8 := hid (Y7.out.below hb8)
      have U8 := hid (U7.out.below hb8)
      clear b8 hb8
      clear x0 x1 x2 x3 x4 x5 x6
      obtain ⟨x0, x1, x2, x3, x4, x5, x6⟩ := R8.out.seven
      go_wp2_with fail
      refine (HM.out _).mono ?_
      rintro e w9 ⟨rfl, b9⟩
      rw [HZv.out]
      have hb9 := below_trans b9 (below_alloc w9 (.cells #[.int .i64 z0, .int .i64 z1, .int .i64 z2, .int .i64 z3, .int .i64 z4, .int .i64 z5, .int .i64 z6] 26))
      have B9 := hid (below_trans B8.out hb9)
      have X9 := hid (X8.out.below hb9)
      have R9 := hid (R8.out.below hb9)
      have Y9 := hid (Y8.out.below hb9)
      have U9 := hid (U8.out.below hb9)
      have V9 := hid (CB.new w9 26 z0 z1 z2 z3 z4 z5 z6)
      clear b9 hb9
      clear x0 x1 x2 x3 x4 x5 x6
      obtain ⟨x0, x1, x2, x3, x4, x5, x6⟩ := R9.out.seven
      go_wp2_with fail
      refine (HT.out _).mono ?_
      rintro e w10 ⟨rfl, b10⟩
      rw [HZv.out]
      have hb10 := below_trans b10 (below_alloc w10 (.cells #[.int .i64 z0, .int .i64 z1, .int .i64 z2, .int .i64 z3, .int .i64 z4, .int .i64 z5, .int .i64 z6] 26))
      have B10 := hid (below_trans B9.out hb10)
      have X10 := hid (X9.out.below hb10)
      have R10 := hid (R9.out.below hb10)
      have Y10 := hid (Y9.out.below hb10)
      have U10 := hid (U9.out.below hb10)
      have V10 := hid (V9.out.below hb10)
      have M10 := hid (CB.new w10 26 z0 z1 z2 z3 z4 z5 z6)
      clear b10 hb10
      clear x0 x1 x2 x3 x4 x5 x6
      obtain ⟨x0, x1, x2, x3, x4, x5, x6⟩ := U10.out.seven
      obtain ⟨s0, s1, s2, s3, s4, s5, s6⟩ := X10.out.seven
      obtain ⟨p0, p1, p2, p3, p4, p5, p6⟩ := V10.out.seven
      obtain ⟨q0, q1, q2, q3, q4, q5, q6⟩ := M10.out.seven
      clear eqc nec
      have eqa := run_eqlCls a0 a1 a2 a3 a4 a5 a6 a0 a1 a2 a3 a4 a5 a6
      have eqz := run_eqlCls z0 z1 z2 z3 z4 z5 z6 z0 z1 z2 z3 z4 z5 z6
      rw [beq_self_eq_true] at eqa eqz
      go_wp2
      go_ret
      exact ⟨by simp, B10.out⟩
  · clear hr
    go_enter Try.func7, Try.ntmps7
    go_wp2
    go_ret
    exact ⟨rfl, Below.refl _ _⟩

end Go.Proofs.Ytbodpfgbelaopaa
