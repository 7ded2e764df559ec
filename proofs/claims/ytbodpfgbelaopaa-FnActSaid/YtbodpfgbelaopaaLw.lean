/-
  The law FnReflectLine.
-/
import Derived.Test.YtbodpfgbelaopaaDr2
import Derived.Test.YtbodpfgbelaopaaK7
import Derived.Test.YtbodpfgbelaopaaPr
import Derived.Test.YtbodpfgbelaopaaS4
namespace Go.Proofs.Ytbodpfgbelaopaa
open Go.RowKit
set_option linter.unusedVariables false
set_option linter.unusedSimpArgs false

theorem line_refl {a r : List Int} (h7 : r.length = 7) (hr : rootB r = true) (ha : isLine a = true) : isLine (refl a r) = true := by
  rw [isLine, List.any_eq_true] at ha ⊢
  obtain ⟨x, hx, hxa⟩ := ha
  obtain rfl : x = a := by simpa using hxa
  exact ⟨_, lines_root r (root_mem h7 hr) x hx, by simp⟩

theorem rr_parts {a r : List Int} (h : rrB a r = true) : validB a = true ∧ rootB r = true ∧ validB (refl a r) = true ∧ rrV a r = refl a r := by
  have h' := h
  simp only [rrB, Bool.and_eq_true] at h'
  exact ⟨h'.1.1, h'.1.2, h'.2, by rw [rrV, if_pos h]⟩

set_option maxRecDepth 100000 in
set_option maxHeartbeats 4000000 in
theorem FnReflectLine_ok (A : Option Addr) (n c : Nat) (xs : List Int) (w : World) (hr : n ≤ 1048576 → RB w A n c xs) :
    Calls Try.prog 8 #[.slice A n c] w fun e w' => e = .returned (.bool true) ∧ Below w.heap.size w w' := by
  by_cases hb : n ≤ 1048576
  · have HR := hid (hr hb)
    clear hr
    go_enter Try.func8, Try.ntmps8
    go_wp2_with fail
    refine (DrawRootReflect_ok A n c xs w HR.out).mono ?_
    rintro e w1 ⟨a0, a1, a2, a3, a4, a5, a6, r0, r1, r2, r3, r4, r5, r6, rfl, _, _, b1⟩
    have B1 := hid (below_trans b1 (below_trans (below_alloc w1 (.cells #[.int .i64 a0, .int .i64 a1, .int .i64 a2, .int .i64 a3, .int .i64 a4, .int .i64 a5, .int .i64 a6] 26)) (below_alloc _ (.cells #[.int .i64 r0, .int .i64 r1, .int .i64 r2, .int .i64 r3, .int .i64 r4, .int .i64 r5, .int .i64 r6] 26))))
    have X1 := hid ((CB.new w1 26 a0 a1 a2 a3 a4 a5 a6).alloc (.cells #[.int .i64 r0, .int .i64 r1, .int .i64 r2, .int .i64 r3, .int .i64 r4, .int .i64 r5, .int .i64 r6] 26))
    have R1 := hid (CB.newAt (w1.alloc (.cells #[.int .i64 a0, .int .i64 a1, .int .i64 a2, .int .i64 a3, .int .i64 a4, .int .i64 a5, .int .i64 a6] 26)) 26 (w1.heap.size + 1) (by simp) r0 r1 r2 r3 r4 r5 r6)
    have HI := hid (fun W => implRootReflect_ok a0 a1 a2 a3 a4 a5 a6 r0 r1 r2 r3 r4 r5 r6 W)
    have HS := hid (fun W => specRootReflect_ok a0 a1 a2 a3 a4 a5 a6 r0 r1 r2 r3 r4 r5 r6 W)
    have HLine := hid (show rrB [a0, a1, a2, a3, a4, a5, a6] [r0, r1, r2, r3, r4, r5, r6] = true → isLine [a0, a1, a2, a3, a4, a5, a6] = true → isLine (rrV [a0, a1, a2, a3, a4, a5, a6] [r0, r1, r2, r3, r4, r5, r6]) = true from fun h k => by
      obtain ⟨_, h2, _, h4⟩ := rr_parts h
      rw [h4]; exact line_refl (seven_len r0 r1 r2 r3 r4 r5 r6) h2 k)
    have HLn : (rrV [a0, a1, a2, a3, a4, a5, a6] [r0, r1, r2, r3, r4, r5, r6]).length = 7 := by
      rw [rrV]; split
      · exact refl_len (seven_len a0 a1 a2 a3 a4 a5 a6) (seven_len r0 r1 r2 r3 r4 r5 r6)
      · rfl
    clear b1
    generalize rrB [a0, a1, a2, a3, a4, a5, a6] [r0, r1, r2, r3, r4, r5, r6] = D at *
    generalize rrV [a0, a1, a2, a3, a4, a5, a6] [r0, r1, r2, r3, r4, r5, r6] = Y at *
    obtain ⟨y0, y1, y2, y3, y4, y5, y6, hY⟩ := seven HLn
    subst hY
    have HYv := hid (show clsV [y0, y1, y2, y3, y4, y5, y6] = .agg #[.int .i64 y0, .int .i64 y1, .int .i64 y2, .int .i64 y3, .int .i64 y4, .int .i64 y5, .int .i64 y6] from rfl)
    clear HLn
    obtain ⟨x0, x1, x2, x3, x4, x5, x6⟩ := X1.out.seven
    obtain ⟨s0, s1, s2, s3, s4, s5, s6⟩ := R1.out.seven
    go_wp2_with fail
    refine (HI.out _).mono ?_
    rintro e w2 ⟨rfl, b2⟩
    rw [HYv.out]
    have hb2 := below_trans b2 (below_alloc w2 (.cells #[.int .i64 y0, .int .i64 y1, .int .i64 y2, .int .i64 y3, .int .i64 y4, .int .i64 y5, .int .i64 y6] 26))
    have B2 := hid (below_trans B1.out hb2)
    have X2 := hid (X1.out.below hb2)
    have R2 := hid (R1.out.below hb2)
    have Y2 := hid (CB.new w2 26 y0 y1 y2 y3 y4 y5 y6)
    clear b2 hb2 x0 x1 x2 x3 x4 x5 x6 s0 s1 s2 s3 s4 s5 s6
    obtain ⟨x0, x1, x2, x3, x4, x5, x6⟩ := X2.out.seven
    obtain ⟨s0, s1, s2, s3, s4, s5, s6⟩ := R2.out.seven
    go_wp2_with fail
    refine (HS.out _).mono ?_
    rintro e w3 ⟨rfl, b3⟩
    rw [HYv.out]
    have hb3 := below_trans b3 (below_alloc w3 (.cells #[.int .i64 y0, .int .i64 y1, .int .i64 y2, .int .i64 y3, .int .i64 y4, .int .i64 y5, .int .i64 y6] 26))
    have B3 := hid (below_trans B2.out hb3)
    have X3 := hid (X2.out.below hb3)
    have Y3 := hid (Y2.out.below hb3)
    have Q3 := hid (CB.new w3 26 y0 y1 y2 y3 y4 y5 y6)
    clear b3 hb3 x0 x1 x2 x3 x4 x5 x6 s0 s1 s2 s3 s4 s5 s6
    obtain ⟨x0, x1, x2, x3, x4, x5, x6⟩ := Y3.out.seven
    obtain ⟨s0, s1, s2, s3, s4, s5, s6⟩ := Q3.out.seven
    have eqc := run_eqlCls y0 y1 y2 y3 y4 y5 y6 y0 y1 y2 y3 y4 y5 y6
    have nec := run_neqCls y0 y1 y2 y3 y4 y5 y6 y0 y1 y2 y3 y4 y5 y6
    rw [beq_self_eq_true] at eqc nec
    have hgd := guardCls
    have hne : (D != D) = false := by simp
    cases D
    · clear HLine
      go_wp2
      go_ret
      exact ⟨rfl, B3.out⟩
    · have HLi := hid (HLine.out rfl)
      clear HLine
      obtain ⟨p0, p1, p2, p3, p4, p5, p6⟩ := X3.out.seven
      go_wp2_with fail
      refine (classLine_ok a0 a1 a2 a3 a4 a5 a6 _).mono ?_
      rintro e w4 ⟨u, rfl, hu, hul, b4⟩
      have B4 := hid (below_trans B3.out b4)
      have Y4 := hid (Y3.out.below b4)
      clear b4 x0 x1 x2 x3 x4 x5 x6 s0 s1 s2 s3 s4 s5 s6 p0 p1 p2 p3 p4 p5 p6
      cases hL : isLine [a0, a1, a2, a3, a4, a5, a6]
      · rw [hL] at hul
        have hul2 : decide (u < 0) = true := hul
        clear hul hL HLi
        go_wp2
        go_ret
        exact ⟨rfl, B4.out⟩
      · rw [hL] at hul
        have hul2 : decide (u < 0) = false := hul
        have HLi2 := hid (HLi.out hL)
        clear hul hL HLi
        obtain ⟨x0, x1, x2, x3, x4, x5, x6⟩ := Y4.out.seven
        go_wp2_with fail
        refine (classLine_ok y0 y1 y2 y3 y4 y5 y6 _).mono ?_
        rintro e w5 ⟨v, rfl, hv, hvl, b5⟩
        rw [HLi2.out] at hvl
        have hvg : 0 ≤ v := by simp at hvl; omega
        have B5 := hid (below_trans B4.out b5)
        clear b5 hvl x0 x1 x2 x3 x4 x5 x6
        go_wp2
        go_ret
        exact ⟨by simp [hvg], B5.out⟩
  · clear hr
    go_enter Try.func8, Try.ntmps8
    go_wp2
    go_ret
    exact ⟨rfl, Below.refl _ _⟩

end Go.Proofs.Ytbodpfgbelaopaa
