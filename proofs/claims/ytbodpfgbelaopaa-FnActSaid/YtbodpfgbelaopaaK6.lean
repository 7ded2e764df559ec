/-
  Contracts: products, degrees and multiples of classes that are told, the program's.
-/
import Derived.Test.YtbodpfgbelaopaaK4
namespace Go.Proofs.Ytbodpfgbelaopaa
open Go.RowKit
set_option linter.unusedVariables false
set_option linter.unusedSimpArgs false

def timesC (a : List Int) (n : Int) : List Int := lin zeroC n a
theorem timesC_len {a : List Int} {n : Int} (h : a.length = 7) : (timesC a n).length = 7 := lin_len rfl h

set_option maxRecDepth 100000 in
set_option maxHeartbeats 4000000 in
theorem classTimes_ok (a0 a1 a2 a3 a4 a5 a6 n : Int) (w : World) (hv : validB [a0, a1, a2, a3, a4, a5, a6] = true) (hn0 : -1000 ≤ n) (hn1 : n ≤ 1000) :
    Calls Try.prog 24 #[.agg #[.int .i64 a0, .int .i64 a1, .int .i64 a2, .int .i64 a3, .int .i64 a4, .int .i64 a5, .int .i64 a6], .int .i64 n] w fun k w' => k = .returned (.tuple #[clsV (toldC (timesC [a0, a1, a2, a3, a4, a5, a6] n)), .bool (validB (timesC [a0, a1, a2, a3, a4, a5, a6] n))]) ∧ Below w.heap.size w w' := by
  have X0 := hid ((CB.new w 26 a0 a1 a2 a3 a4 a5 a6).alloc (.cells #[.int .i64 0, .int .i64 0, .int .i64 0, .int .i64 0, .int .i64 0, .int .i64 0, .int .i64 0] 26))
  have Y0 := hid (CB.newAt (w.alloc (.cells #[.int .i64 a0, .int .i64 a1, .int .i64 a2, .int .i64 a3, .int .i64 a4, .int .i64 a5, .int .i64 a6] 26)) 26 (w.heap.size + 1) (by simp) 0 0 0 0 0 0 0)
  have B0 := hid (below_trans (below_alloc w (.cells #[.int .i64 a0, .int .i64 a1, .int .i64 a2, .int .i64 a3, .int .i64 a4, .int .i64 a5, .int .i64 a6] 26)) (below_alloc _ (.cells #[.int .i64 0, .int .i64 0, .int .i64 0, .int .i64 0, .int .i64 0, .int .i64 0, .int .i64 0] 26)))
  have HC := hid (fun W => isClass_ok a0 a1 a2 a3 a4 a5 a6 W)
  rw [hv] at HC
  have ha := validB_bd hv
  have HT := hid (fun W => addTimes_ok 0 0 0 0 0 0 0 n a0 a1 a2 a3 a4 a5 a6 W (by intro x hx; simp at hx; omega) (by omega) (ha.mono (by omega)))
  have HLn := timesC_len (n := n) (seven_len a0 a1 a2 a3 a4 a5 a6)
  have HXe := hid (show lin [0, 0, 0, 0, 0, 0, 0] n [a0, a1, a2, a3, a4, a5, a6] = timesC [a0, a1, a2, a3, a4, a5, a6] n from rfl)
  rw [HXe.out] at HT
  have n5 : w.heap.size ≤ w.heap.size + 1 := by omega
  clear hv ha HXe
  generalize timesC [a0, a1, a2, a3, a4, a5, a6] n = X at *
  obtain ⟨x0, x1, x2, x3, x4, x5, x6, hX⟩ := seven HLn
  subst hX
  have HXv := hid (show clsV [x0, x1, x2, x3, x4, x5, x6] = .agg #[.int .i64 x0, .int .i64 x1, .int .i64 x2, .int .i64 x3, .int .i64 x4, .int .i64 x5, .int .i64 x6] from rfl)
  have HTo := hid (fun W => toldClass_ok x0 x1 x2 x3 x4 x5 x6 W)
  have HTl := (show (toldC [x0, x1, x2, x3, x4, x5, x6]).length = 7 by unfold toldC; split <;> rfl)
  generalize toldC [x0, x1, x2, x3, x4, x5, x6] = U at *
  obtain ⟨u0, u1, u2, u3, u4, u5, u6, hU⟩ := seven HTl
  subst hU
  have HUv := hid (show clsV [u0, u1, u2, u3, u4, u5, u6] = .agg #[.int .i64 u0, .int .i64 u1, .int .i64 u2, .int .i64 u3, .int .i64 u4, .int .i64 u5, .int .i64 u6] from rfl)
  generalize validB [x0, x1, x2, x3, x4, x5, x6] = D at *
  clear HLn HTl
  go_enter Try.func24, Try.ntmps24
  go_wp2_with fail
  refine (HC.out _).mono ?_
  rintro e w1 ⟨rfl, b1⟩
  have B1 := hid (below_trans B0.out b1)
  have Y1 := hid (Y0.out.below b1)
  have X1 := hid (X0.out.below b1)
  obtain ⟨p0, p1, p2, p3, p4, p5, p6⟩ := X1.out.seven
  clear b1
  go_wp2_with fail
  refine (HT.out _).mono ?_
  rintro e w3 ⟨rfl, b3⟩
  rw [HXv.out]
  have B3 := hid (below_trans B1.out b3)
  have Y3 := hid (Y1.out.below b3)
  clear b3 p0 p1 p2 p3 p4 p5 p6
  go_wp2_with fail
  refine (HTo.out _).mono ?_
  rintro e w4 ⟨rfl, b4⟩
  rw [HUv.out]
  have B4 := hid (below_trans B3.out b4)
  have Y4 := hid (Y3.out.below b4)
  clear b4
  obtain ⟨y0, y1, y2, y3, y4, y5, y6, g0, g1, g2, g3, g4, g5, g6⟩ := Y4.out.cells
  have Y5 := hid (Y4.out.put u0 u1 u2 u3 u4 u5 u6)
  have B5 := hid (below_put7 B4.out n5 u0 u1 u2 u3 u4 u5 u6)
  obtain ⟨v0, v1, v2, v3, v4, v5, v6⟩ := Y5.out.seven
  go_wp2
  refine bodyPost_ret (v := .tuple #[.agg #[.int .i64 u0, .int .i64 u1, .int .i64 u2, .int .i64 u3, .int .i64 u4, .int .i64 u5, .int .i64 u6], .bool D]) (by simp [results, Try.results24, go_sem, v0, v1, v2, v3, v4, v5, v6]) rfl ⟨rfl, ?_⟩
  with_reducible exact B5.out

set_option maxRecDepth 100000 in
set_option maxHeartbeats 2000000 in
theorem classProduct_ok (a0 a1 a2 a3 a4 a5 a6 b0 b1 b2 b3 b4 b5 b6 : Int) (w : World) (hv : validB [a0, a1, a2, a3, a4, a5, a6] = true) (hw : validB [b0, b1, b2, b3, b4, b5, b6] = true) :
    Calls Try.prog 31 #[.agg #[.int .i64 a0, .int .i64 a1, .int .i64 a2, .int .i64 a3, .int .i64 a4, .int .i64 a5, .int .i64 a6], .agg #[.int .i64 b0, .int .i64 b1, .int .i64 b2, .int .i64 b3, .int .i64 b4, .int .i64 b5, .int .i64 b6]] w fun k w' => k = .returned (.tuple #[.int .i64 (prd [a0, a1, a2, a3, a4, a5, a6] [b0, b1, b2, b3, b4, b5, b6]), .bool true]) ∧ Below w.heap.size w w' := by
  have X0 := hid ((CB.new w 26 a0 a1 a2 a3 a4 a5 a6).alloc (.cells #[.int .i64 b0, .int .i64 b1, .int .i64 b2, .int .i64 b3, .int .i64 b4, .int .i64 b5, .int .i64 b6] 26))
  have Y0 := hid (CB.newAt (w.alloc (.cells #[.int .i64 a0, .int .i64 a1, .int .i64 a2, .int .i64 a3, .int .i64 a4, .int .i64 a5, .int .i64 a6] 26)) 26 (w.heap.size + 1) (by simp) b0 b1 b2 b3 b4 b5 b6)
  have B0 := hid (below_trans (below_alloc w (.cells #[.int .i64 a0, .int .i64 a1, .int .i64 a2, .int .i64 a3, .int .i64 a4, .int .i64 a5, .int .i64 a6] 26)) (below_alloc _ (.cells #[.int .i64 b0, .int .i64 b1, .int .i64 b2, .int .i64 b3, .int .i64 b4, .int .i64 b5, .int .i64 b6] 26)))
  have HC := hid (fun W => isClass_ok a0 a1 a2 a3 a4 a5 a6 W)
  have HD := hid (fun W => isClass_ok b0 b1 b2 b3 b4 b5 b6 W)
  rw [hv] at HC
  rw [hw] at HD
  have HP := hid (fun W => product_ok a0 a1 a2 a3 a4 a5 a6 b0 b1 b2 b3 b4 b5 b6 W ((validB_bd hv).mono (by omega)) ((validB_bd hw).mono (by omega)))
  generalize prd [a0, a1, a2, a3, a4, a5, a6] [b0, b1, b2, b3, b4, b5, b6] = q at *
  clear hv hw
  go_enter Try.func31, Try.ntmps31
  go_wp2_with fail
  refine (HC.out _).mono ?_
  rintro e w1 ⟨rfl, b1⟩
  have B1 := hid (below_trans B0.out b1)
  have X1 := hid (X0.out.below b1)
  have Y1 := hid (Y0.out.below b1)
  obtain ⟨y0, y1, y2, y3, y4, y5, y6⟩ := Y1.out.seven
  clear b1
  go_wp2_with fail
  refine (HD.out _).mono ?_
  rintro e w2 ⟨rfl, b2⟩
  have B2 := hid (below_trans B1.out b2)
  have X2 := hid (X1.out.below b2)
  have Y2 := hid (Y1.out.below b2)
  clear b2 y0 y1 y2 y3 y4 y5 y6
  obtain ⟨x0, x1, x2, x3, x4, x5, x6⟩ := X2.out.seven
  obtain ⟨y0, y1, y2, y3, y4, y5, y6⟩ := Y2.out.seven
  go_wp2_with fail
  refine (HP.out _).mono ?_
  rintro e w3 ⟨rfl, b3⟩
  have B3 := hid (below_trans B2.out b3)
  clear b3 x0 x1 x2 x3 x4 x5 x6 y0 y1 y2 y3 y4 y5 y6
  go_wp2
  go_ret2
  exact ⟨rfl, B3.out⟩

set_option maxRecDepth 100000 in
set_option maxHeartbeats 2000000 in
theorem classDegree_ok (a0 a1 a2 a3 a4 a5 a6 : Int) (w : World) (hv : validB [a0, a1, a2, a3, a4, a5, a6] = true) :
    Calls Try.prog 30 #[.agg #[.int .i64 a0, .int .i64 a1, .int .i64 a2, .int .i64 a3, .int .i64 a4, .int .i64 a5, .int .i64 a6]] w fun k w' => k = .returned (.tuple #[.int .i64 (deg [a0, a1, a2, a3, a4, a5, a6]), .bool true]) ∧ Below w.heap.size w w' := by
  have X0 := hid (CB.new w 26 a0 a1 a2 a3 a4 a5 a6)
  have B0 := hid (below_alloc w (.cells #[.int .i64 a0, .int .i64 a1, .int .i64 a2, .int .i64 a3, .int .i64 a4, .int .i64 a5, .int .i64 a6] 26))
  have HC := hid (fun W => isClass_ok a0 a1 a2 a3 a4 a5 a6 W)
  rw [hv] at HC
  have HP := hid (fun W => degree_ok a0 a1 a2 a3 a4 a5 a6 W ((validB_bd hv).mono (by omega)))
  generalize deg [a0, a1, a2, a3, a4, a5, a6] = q at *
  clear hv
  go_enter Try.func30, Try.ntmps30
  go_wp2_with fail
  refine (HC.out _).mono ?_
  rintro e w1 ⟨rfl, b1⟩
  have B1 := hid (below_trans B0.out b1)
  have X1 := hid (X0.out.below b1)
  obtain ⟨y0, y1, y2, y3, y4, y5, y6⟩ := X1.out.seven
  clear b1
  go_wp2_with fail
  refine (HP.out _).mono ?_
  rintro e w2 ⟨rfl, b2⟩
  have B2 := hid (below_trans B1.out b2)
  clear b2 y0 y1 y2 y3 y4 y5 y6
  go_wp2
  go_ret2
  exact ⟨rfl, B2.out⟩

end Go.Proofs.Ytbodpfgbelaopaa
