/-
  Contracts: words: the reference's.
-/
import Derived.Test.YtcffaeepanhpfaaS4
import Derived.Test.YtcffaeepanhpfaaK5
import Derived.Deep.RegionWith
namespace Go.Proofs.Ytcffaeepanhpfaa
open Go.RowKit
set_option linter.unusedVariables false
set_option linter.unusedSimpArgs false


theorem l3Word_ok (A : Option Addr) (n c : Nat) (xs : List Int) (w : World) (hr : RI w A n xs) :
    Calls Try.prog 28 #[.slice A n c] w fun e w' => e = .returned (.bool (wordB xs)) ∧ w = w' := by
  obtain ⟨hl, hn, b, off, hA, hc⟩ := hr
  have HC := hid hc
  clear hc
  go_enter Try.func28, Try.ntmps28
  go_wp2
  go_loop [3] (fun t => ∃ k : Nat, k ≤ n ∧ t = .int .i64 k ∧ xs.all inW = (xs.drop k).all inW) (fun t => n - (intOf t).toNat)
  case atStart => exact ⟨0, by omega, rfl, rfl⟩
  case round =>
    obtain ⟨k, hk, rfl, hf⟩ := hrel
    have HF := hid hf
    clear hf
    by_cases hlt : k < n
    · obtain rfl : A = some ⟨b, off, none⟩ := by rcases hA with h | h; omega; exact h
      have hcx := HC.out k hlt
      have HY := hid (@all_drop_yes inW xs k (by omega))
      have HN := hid (@all_drop_no inW xs k (by omega))
      generalize hy : xs.getD k 0 = u at *
      clear hy
      cases hq : inW u
      · have HQ := hid hq
        clear hq
        go_wp2_with (go_at_call 45; refine (l6In_ok u 0 5 _).mono ?_; rintro e w' ⟨rfl, rfl⟩; rw [show inB u 0 5 = false from HQ.out])
        go_ret
        exact ⟨by rw [wordB, HF.out, HN.out HQ.out]; rfl, rfl⟩
      · have HQ := hid hq
        clear hq
        go_wp2_with (go_at_call 45; refine (l6In_ok u 0 5 _).mono ?_; rintro e w' ⟨rfl, rfl⟩; rw [show inB u 0 5 = true from HQ.out])
        go_round
        case rel => exact ⟨k + 1, by omega, by go_num, by rw [HF.out, HY.out HQ.out]⟩
        case measure => simp [intOf]; omega
    · have HB := hid (show wordB xs = decide (n ≤ 60) by rw [wordB, HF.out, List.drop_eq_nil_of_le (by omega), hl]; rfl)
      by_cases h60 : n ≤ 60
      · have hd : decide ((n : Int) ≤ 60) = true := decide_eq_true (by omega)
        go_wp2
        go_ret
        exact ⟨by rw [HB.out, decide_eq_true h60]; rfl, rfl⟩
      · have hd : decide ((n : Int) ≤ 60) = false := decide_eq_false (by omega)
        go_wp2
        go_ret
        exact ⟨by rw [HB.out, decide_eq_false h60]; rfl, rfl⟩

set_option maxRecDepth 100000 in
set_option maxHeartbeats 8000000 in
theorem specWordAct_ok (A : Option Addr) (n c : Nat) (xs : List Int) (a0 a1 a2 a3 a4 a5 a6 : Int) (w : World) (hr : RI w A n xs) :
    Calls Try.prog 29 #[.slice A n c, .agg #[.int .i64 a0, .int .i64 a1, .int .i64 a2, .int .i64 a3, .int .i64 a4, .int .i64 a5, .int .i64 a6]] w fun k w' => k = .returned (.tuple #[clsV ((waR xs [a0, a1, a2, a3, a4, a5, a6]).getD zeroC), .bool (waR xs [a0, a1, a2, a3, a4, a5, a6]).isSome]) ∧ Below w.heap.size w w' := by
  have hl := hr.1
  have X0 := hid ((CB.new w 38 a0 a1 a2 a3 a4 a5 a6).alloc (.cells #[.int .i64 0, .int .i64 0, .int .i64 0, .int .i64 0, .int .i64 0, .int .i64 0, .int .i64 0] 38))
  have Y0 := hid (CB.newAt (w.alloc (.cells #[.int .i64 a0, .int .i64 a1, .int .i64 a2, .int .i64 a3, .int .i64 a4, .int .i64 a5, .int .i64 a6] 38)) 38 (w.heap.size + 1) (by simp) 0 0 0 0 0 0 0)
  have B0 := hid (below_trans (below_alloc w (.cells #[.int .i64 a0, .int .i64 a1, .int .i64 a2, .int .i64 a3, .int .i64 a4, .int .i64 a5, .int .i64 a6] 38)) (below_alloc _ (.cells #[.int .i64 0, .int .i64 0, .int .i64 0, .int .i64 0, .int .i64 0, .int .i64 0, .int .i64 0] 38)))
  have n5 : w.heap.size ≤ w.heap.size + 1 := by omega
  have n1 : ¬ w.heap.size = w.heap.size + 1 := by omega
  have n2 : ¬ w.heap.size + 1 = w.heap.size := by omega
  have n6 : w.heap.size ≤ w.heap.size := by omega
  have HC := hid (fun W => ClassValid_ok a0 a1 a2 a3 a4 a5 a6 W)
  have HRI := hid hr
  have HWd := hid (fun W (h : RI W A n xs) => l3Word_ok A n c xs W h)
  have HR0 := hid (hr.below B0.out)
  have HW := hid (show waR xs [a0, a1, a2, a3, a4, a5, a6] = if wordB xs && validB [a0, a1, a2, a3, a4, a5, a6] then runW [a0, a1, a2, a3, a4, a5, a6] xs else none from rfl)
  clear hr
  cases hwd : wordB xs
  · have HWF := hid hwd
    have HF := hid (show waR xs [a0, a1, a2, a3, a4, a5, a6] = none by rw [HW.out, hwd]; rfl)
    rw [HF.out]
    clear hwd
    go_enter Try.func29, Try.ntmps29
    go_wp2_with fail
    refine (HWd.out _ HR0.out).mono ?_
    rintro e w1 ⟨rfl, hw⟩
    rw [HWF.out]
    have B1 := hid B0.out
    have Y1 := hid Y0.out
    have Y2 := hid (Y1.out.put 0 0 0 0 0 0 0)
    have B2 := hid (below_put7 B1.out n5 0 0 0 0 0 0 0)
    subst hw
    go_wp2
    refine bodyPost_ret (v := .tuple #[clsV zeroC, .bool false]) (by simp [results, Try.results29, go_sem, clsV, zeroC]) rfl ⟨rfl, ?_⟩
    exact B0.out
  · cases hv : validB [a0, a1, a2, a3, a4, a5, a6]
    · have HWT := hid hwd
      have HV := hid hv
      have HF := hid (show waR xs [a0, a1, a2, a3, a4, a5, a6] = none by rw [HW.out, hwd, hv]; rfl)
      rw [HF.out]
      clear hwd hv
      go_enter Try.func29, Try.ntmps29
      go_wp2_with fail
      refine (HWd.out _ HR0.out).mono ?_
      rintro e w1 ⟨rfl, hw⟩
      rw [HWT.out]
      subst hw
      go_wp2_with fail
      refine (HC.out _).mono ?_
      rintro e w2 ⟨rfl, b2⟩
      rw [HV.out]
      have B2 := hid (below_trans B0.out b2)
      have Y2 := hid (Y0.out.below b2)
      obtain ⟨y0, y1, y2, y3, y4, y5, y6, g0, g1, g2, g3, g4, g5, g6⟩ := Y2.out.cells
      have Y3 := hid (Y2.out.put 0 0 0 0 0 0 0)
      have B3 := hid (below_put7 B2.out n5 0 0 0 0 0 0 0)
      obtain ⟨s0, s1, s2, s3, s4, s5, s6⟩ := Y3.out.seven
      clear b2
      go_wp2
      refine bodyPost_ret (v := .tuple #[clsV zeroC, .bool false]) (by simp [results, Try.results29, go_sem, clsV, zeroC, s0, s1, s2, s3, s4, s5, s6]) rfl ⟨rfl, ?_⟩
      with_reducible exact B3.out
    · have HWT := hid hwd
      have HV := hid hv
      have HF := hid (show waR xs [a0, a1, a2, a3, a4, a5, a6] = runW [a0, a1, a2, a3, a4, a5, a6] xs by rw [HW.out, hwd, hv]; rfl)
      rw [HF.out]
      clear hwd hv
      obtain ⟨_, hn, bk, off, hA, hc⟩ := HRI.out
      have HCl := hid hc
      clear hc
      go_enter Try.func29, Try.ntmps29
      go_wp2_with fail
      refine (HWd.out _ HR0.out).mono ?_
      rintro e w1 ⟨rfl, hw⟩
      rw [HWT.out]
      subst hw
      go_wp2_with fail
      refine (HC.out _).mono ?_
      rintro e w2 ⟨rfl, b2⟩
      rw [HV.out]
      have B2 := hid (below_trans B0.out b2)
      have X2 := hid (X0.out.below b2)
      have Y2 := hid (Y0.out.below b2)
      clear b2
      go_wp2
      go_loopw [6] (fun t wr => ∃ (k : Nat) (c0 c1 c2 c3 c4 c5 c6 : Int), k ≤ n ∧ t = .int .i64 k ∧ validB [c0, c1, c2, c3, c4, c5, c6] = true ∧ runW [a0, a1, a2, a3, a4, a5, a6] xs = runW [c0, c1, c2, c3, c4, c5, c6] (xs.drop k) ∧ CB wr 38 w.heap.size c0 c1 c2 c3 c4 c5 c6 ∧ CB wr 38 (w.heap.size + 1) 0 0 0 0 0 0 0 ∧ Below w.heap.size w wr) (fun t _ => n - (intOf t).toNat)
      case atStart => exact ⟨0, a0, a1, a2, a3, a4, a5, a6, by omega, rfl, HV.out, rfl, X2.out, Y2.out, B2.out⟩
      case round =>
        obtain ⟨k, c0, c1, c2, c3, c4, c5, c6, hk, rfl, hval, hrun, hX, hY, hB⟩ := hrel
        have HX := hid hX
        have HY := hid hY
        have HB := hid hB
        have HRun := hid hrun
        have HVal := hid hval
        clear hX hY hB hrun hval
        by_cases hlt : k < n
        · obtain rfl : A = some ⟨bk, off, none⟩ := by rcases hA with h | h; omega; exact h
          have hcx : wr.cell? ⟨bk, off + k, none⟩ = some (.int .i64 (xs.getD k 0)) := cell_below HB.out (HCl.out k hlt)
          obtain ⟨i, hi, hxi⟩ := wordB_in HWT.out (show k < xs.length by omega)
          have HD := hid (@runW_drop [c0, c1, c2, c3, c4, c5, c6] xs k (by omega))
          rw [hxi] at hcx HD
          rw [Int.toNat_natCast] at HD
          have hbd := validB_bd HVal.out
          have hS := simple_bd i
          have hSl := simple_len i
          have HSi := hid (fun W => l3Simple_ok i W hi)
          generalize simple i = S at *
          obtain ⟨r0, r1, r2, r3, r4, r5, r6, hS7⟩ := seven hSl
          subst hS7
          have HSv := hid (show clsV [r0, r1, r2, r3, r4, r5, r6] = .agg #[.int .i64 r0, .int .i64 r1, .int .i64 r2, .int .i64 r3, .int .i64 r4, .int .i64 r5, .int .i64 r6] from rfl)
          have HRf := hid (fun W => l3Reflect_ok c0 c1 c2 c3 c4 c5 c6 r0 r1 r2 r3 r4 r5 r6 W hbd (hS.mono (by omega)))
          have HLn := refl_len (seven_len c0 c1 c2 c3 c4 c5 c6) (seven_len r0 r1 r2 r3 r4 r5 r6)
          clear hS hSl hbd hxi hA
          generalize refl [c0, c1, c2, c3, c4, c5, c6] [r0, r1, r2, r3, r4, r5, r6] = Z at *
          obtain ⟨x0, x1, x2, x3, x4, x5, x6, hZ7⟩ := seven HLn
          subst hZ7
          have HZv := hid (show clsV [x0, x1, x2, x3, x4, x5, x6] = .agg #[.int .i64 x0, .int .i64 x1, .int .i64 x2, .int .i64 x3, .int .i64 x4, .int .i64 x5, .int .i64 x6] from rfl)
          have HCx := hid (fun W => ClassValid_ok x0 x1 x2 x3 x4 x5 x6 W)
          clear HLn
          obtain ⟨p0, p1, p2, p3, p4, p5, p6⟩ := HX.out.seven
          cases hvx : validB [x0, x1, x2, x3, x4, x5, x6]
          · have HVx := hid hvx
            rw [hvx] at HD
            clear hvx
            go_wp2
            go_region_with (first
              | (go_at_call 48; refine (HSi.out _).mono ?_; rintro e w3 ⟨rfl, b3⟩; rw [HSv.out]; have X3 := hid (HX.out.drew.below b3); have Y3 := hid (HY.out.drew.below b3); have B3 := hid (below_trans HB.out.drew b3); obtain ⟨q0, q1, q2, q3, q4, q5, q6⟩ := X3.out.seven; clear b3)
              | (go_at_call 47; refine (HRf.out _).mono ?_; rintro e w4 ⟨rfl, b4⟩; rw [HZv.out]; have X4 := hid (X3.out.below b4); have Y4 := hid (Y3.out.below b4); have B4 := hid (below_trans B3.out b4); obtain ⟨_, _, _, _, _, _, _, f0, f1, f2, f3, f4, f5, f6⟩ := X4.out.cells; obtain ⟨t0, t1, t2, t3, t4, t5, t6⟩ := X4.out.seven; clear b4))
            all_goals
              have X5 := hid (X4.out.put x0 x1 x2 x3 x4 x5 x6)
              have Y5 := hid (Y4.out.far n2 x0 x1 x2 x3 x4 x5 x6)
              have B5 := hid (below_put7 B4.out n6 x0 x1 x2 x3 x4 x5 x6)
              clear f0 f1 f2 f3 f4 f5 f6 t0 t1 t2 t3 t4 t5 t6 q0 q1 q2 q3 q4 q5 q6 p0 p1 p2 p3 p4 p5 p6
              obtain ⟨p0, p1, p2, p3, p4, p5, p6⟩ := X5.out.seven
              go_wp2_with fail
              refine (HCx.out _).mono ?_
              rintro e w6 ⟨rfl, b6⟩
              rw [HVx.out]
              have Y6 := hid (Y5.out.below b6)
              have B6 := hid (below_trans B5.out b6)
              clear b6 p0 p1 p2 p3 p4 p5 p6
              obtain ⟨y0, y1, y2, y3, y4, y5, y6, g0, g1, g2, g3, g4, g5, g6⟩ := Y6.out.cells
              have Y7 := hid (Y6.out.put 0 0 0 0 0 0 0)
              have B7 := hid (below_put7 B6.out n5 0 0 0 0 0 0 0)
              obtain ⟨s0, s1, s2, s3, s4, s5, s6⟩ := Y7.out.seven
              go_wp2
              refine bodyPost_ret (v := .tuple #[clsV zeroC, .bool false]) (by simp [results, Try.results29, go_sem, clsV, zeroC, s0, s1, s2, s3, s4, s5, s6]) rfl ⟨by rw [HRun.out, HD.out]; rfl, ?_⟩
              with_reducible exact B7.out
          · have HVx := hid hvx
            rw [hvx] at HD
            clear hvx
            go_wp2
            go_region_with (first
              | (go_at_call 48; refine (HSi.out _).mono ?_; rintro e w3 ⟨rfl, b3⟩; rw [HSv.out]; have X3 := hid (HX.out.drew.below b3); have Y3 := hid (HY.out.drew.below b3); have B3 := hid (below_trans HB.out.drew b3); obtain ⟨q0, q1, q2, q3, q4, q5, q6⟩ := X3.out.seven; clear b3)
              | (go_at_call 47; refine (HRf.out _).mono ?_; rintro e w4 ⟨rfl, b4⟩; rw [HZv.out]; have X4 := hid (X3.out.below b4); have Y4 := hid (Y3.out.below b4); have B4 := hid (below_trans B3.out b4); obtain ⟨_, _, _, _, _, _, _, f0, f1, f2, f3, f4, f5, f6⟩ := X4.out.cells; obtain ⟨t0, t1, t2, t3, t4, t5, t6⟩ := X4.out.seven; clear b4))
            all_goals
              have X5 := hid (X4.out.put x0 x1 x2 x3 x4 x5 x6)
              have Y5 := hid (Y4.out.far n2 x0 x1 x2 x3 x4 x5 x6)
              have B5 := hid (below_put7 B4.out n6 x0 x1 x2 x3 x4 x5 x6)
              clear f0 f1 f2 f3 f4 f5 f6 t0 t1 t2 t3 t4 t5 t6 q0 q1 q2 q3 q4 q5 q6 p0 p1 p2 p3 p4 p5 p6
              obtain ⟨p0, p1, p2, p3, p4, p5, p6⟩ := X5.out.seven
              go_wp2_with fail
              refine (HCx.out _).mono ?_
              rintro e w6 ⟨rfl, b6⟩
              rw [HVx.out]
              have X6 := hid (X5.out.below b6)
              have Y6 := hid (Y5.out.below b6)
              have B6 := hid (below_trans B5.out b6)
              clear b6 p0 p1 p2 p3 p4 p5 p6
              go_wp2
              go_roundw
              case rel => exact ⟨k + 1, x0, x1, x2, x3, x4, x5, x6, by omega, by go_num, HVx.out, by rw [HRun.out, HD.out]; rfl, X6.out, Y6.out, B6.out⟩
              case measure => simp [intOf]; omega
        · have HD := hid (show runW [a0, a1, a2, a3, a4, a5, a6] xs = some [c0, c1, c2, c3, c4, c5, c6] by rw [HRun.out, List.drop_eq_nil_of_le (by omega)]; rfl)
          obtain ⟨p0, p1, p2, p3, p4, p5, p6⟩ := HX.out.seven
          obtain ⟨y0, y1, y2, y3, y4, y5, y6, g0, g1, g2, g3, g4, g5, g6⟩ := HY.out.cells
          have Y7 := hid (HY.out.put c0 c1 c2 c3 c4 c5 c6)
          have B7 := hid (below_put7 HB.out n5 c0 c1 c2 c3 c4 c5 c6)
          obtain ⟨s0, s1, s2, s3, s4, s5, s6⟩ := Y7.out.seven
          go_wp2
          refine bodyPost_ret (v := .tuple #[clsV [c0, c1, c2, c3, c4, c5, c6], .bool true]) (by simp [results, Try.results29, go_sem, clsV, s0, s1, s2, s3, s4, s5, s6]) rfl ⟨by rw [HD.out]; rfl, ?_⟩
          with_reducible exact B7.out

end Go.Proofs.Ytcffaeepanhpfaa
