/-
  The law FnPointLine.
-/
import Derived.Test.YtkddhlgohjojpaaCr
import Derived.Test.YtkddhlgohjojpaaDp
namespace Go.Proofs.Ytkddhlgohjojpaa
open Go.RowKit
set_option linter.unusedVariables false
set_option linter.unusedSimpArgs false

set_option maxRecDepth 100000 in
set_option maxHeartbeats 2000000 in
theorem DrawPointLine_ok (A : Option Addr) (n c : Nat) (xs : List Int) (w : World) (hr : RB w A n c xs) :
    Calls Try.prog 33 #[.slice A n c] w fun e w' => ∃ (p : Int) (qa qb : Int × Int × Int), e = .returned (.tuple #[.int .i64 p, ptVal qa, ptVal qb]) ∧ Below w.heap.size w w' := by
  have HR0 := hid (hr.below (below_trans (below_alloc w (.cells #[.int .i64 0, .int .i64 0, .int .i64 0] 31)) (below_alloc _ (.cells #[.int .i64 0, .int .i64 0, .int .i64 0] 31))))
  have I0 := hid ((IBox.new w 0 0 0).below (below_alloc _ (.cells #[.int .i64 0, .int .i64 0, .int .i64 0] 31)))
  have hs0 : (w.alloc (.cells #[.int .i64 0, .int .i64 0, .int .i64 0] 31)).heap.size = w.heap.size + 1 := by simp
  have J0' := IBox.new (w.alloc (.cells #[.int .i64 0, .int .i64 0, .int .i64 0] 31)) 0 0 0
  rw [hs0] at J0'
  have J0 := hid J0'
  have B0 := hid (below_trans (below_alloc w (.cells #[.int .i64 0, .int .i64 0, .int .i64 0] 31)) (below_alloc _ (.cells #[.int .i64 0, .int .i64 0, .int .i64 0] 31)))
  clear hs0 J0' hr
  go_enter Try.func33, Try.ntmps33
  go_wp2_with fail
  refine (l92Points_ok A n c xs _ HR0.out).mono ?_
  rintro e w1 ⟨p, ⟨a0, a1, a2⟩, ⟨b0, b1, b2⟩, rfl, hb⟩
  have HA := hid (show ptVal (a0, a1, a2) = .agg #[.int .i64 a0, .int .i64 a1, .int .i64 a2] from rfl)
  have HBv := hid (show ptVal (b0, b1, b2) = .agg #[.int .i64 b0, .int .i64 b1, .int .i64 b2] from rfl)
  rw [HA.out, HBv.out]
  have B1 := hid (below_trans B0.out hb)
  have I1 := hid (I0.out.below hb)
  have J1 := hid (J0.out.below hb)
  clear hb
  have n1 : ¬ w.heap.size = w.heap.size + 1 := by omega
  have n2 : ¬ w.heap.size + 1 = w.heap.size := by omega
  have I2 := hid ((I1.out.put a0 a1 a2).far n1 (.int .i64 b0) (.int .i64 b1) (.int .i64 b2))
  have J1' := hid (J1.out.far n2 (.int .i64 a0) (.int .i64 a1) (.int .i64 a2))
  have J2 := hid (J1'.out.put b0 b1 b2)
  have B2 := hid (below_put (below_put B1.out (Nat.le_refl _) (.int .i64 a0) (.int .i64 a1) (.int .i64 a2)) (Nat.le_succ _) (.int .i64 b0) (.int .i64 b1) (.int .i64 b2))
  obtain ⟨x0, x1, x2, f0, f1, f2⟩ := I1.out.cells
  obtain ⟨y0, y1, y2, g0, g1, g2⟩ := J1.out.cells
  obtain ⟨y0', y1', y2', g0', g1', g2'⟩ := J1'.out.cells
  obtain ⟨u0, u1, u2, _⟩ := I2.out.cells
  obtain ⟨v0, v1, v2, _⟩ := J2.out.cells
  go_wp2
  refine bodyPost_ret (v := .tuple #[.int .i64 p, ptVal (a0, a1, a2), ptVal (b0, b1, b2)]) (by simp [results, Try.results33, go_sem, ptVal, u0, u1, u2, v0, v1, v2]) rfl ⟨p, (a0, a1, a2), (b0, b1, b2), rfl, ?_⟩
  with_reducible exact B2.out

set_option maxRecDepth 100000 in
set_option maxHeartbeats 4000000 in
theorem FnPointLine_ok (A : Option Addr) (n c : Nat) (xs : List Int) (w : World) (hr : n ≤ 1048576 → RB w A n c xs) :
    Calls Try.prog 11 #[.slice A n c] w fun e w' => e = .returned (.bool true) ∧ Below w.heap.size w w' := by
  by_cases hb : n ≤ 1048576
  · have HR := hid (hr hb)
    clear hr
    go_enter Try.func11, Try.ntmps11
    go_wp2_with fail
    refine (DrawPointLine_ok A n c xs w HR.out).mono ?_
    rintro e w1 ⟨p, ⟨x, y, z⟩, ⟨l, m, o⟩, rfl, b1⟩
    have HXv := hid (show ptVal (x, y, z) = .agg #[.int .i64 x, .int .i64 y, .int .i64 z] from rfl)
    have HLv := hid (show ptVal (l, m, o) = .agg #[.int .i64 l, .int .i64 m, .int .i64 o] from rfl)
    rw [HXv.out, HLv.out]
    have HI := hid (fun W => implPointLine_ok p x y z l m o W)
    have HS := hid (fun W => specPointLine_ok p x y z l m o W)
    have HJ' : lineB p x y z l m o = true → ∀ W, Calls Try.prog 25 #[.int .i64 p, .agg #[.int .i64 l, .int .i64 m, .int .i64 o], .agg #[.int .i64 x, .int .i64 y, .int .i64 z]] W fun e w' => e = .returned (.tuple #[ptVal (lineV p x y z l m o), .bool true]) ∧ Below W.heap.size W w' := by
      intro h W
      have k := implPointLine_ok p l m o x y z W
      rw [(line_swap h).1, (line_swap h).2] at k
      exact k
    have HJ := hid HJ'
    have HO := hid (show lineB p x y z l m o = true → onB p x y z (lineV p x y z l m o).1 (lineV p x y z l m o).2.1 (lineV p x y z l m o).2.2 = true from line_on)
    have HP := hid (show lineB p x y z l m o = true → onB p l m o (lineV p x y z l m o).1 (lineV p x y z l m o).2.1 (lineV p x y z l m o).2.2 = true from line_on2)
    have B1 := hid (below_trans b1 (below_trans (below_alloc w1 (.cells #[.int .i64 x, .int .i64 y, .int .i64 z] 31)) (below_alloc _ (.cells #[.int .i64 l, .int .i64 m, .int .i64 o] 31))))
    have IA := hid ((IBox.new w1 x y z).below (below_alloc _ (.cells #[.int .i64 l, .int .i64 m, .int .i64 o] 31)))
    have IL := hid (show IBox ((w1.alloc (.cells #[.int .i64 x, .int .i64 y, .int .i64 z] 31)).alloc (.cells #[.int .i64 l, .int .i64 m, .int .i64 o] 31)) (w1.heap.size + 1) l m o by have h := IBox.new (w1.alloc (.cells #[.int .i64 x, .int .i64 y, .int .i64 z] 31)) l m o; rwa [show (w1.alloc (.cells #[.int .i64 x, .int .i64 y, .int .i64 z] 31)).heap.size = w1.heap.size + 1 by simp] at h)
    clear b1 HJ'
    generalize hD : lineB p x y z l m o = D at *
    generalize hV : lineV p x y z l m o = V at *
    obtain ⟨V0, V1, V2⟩ := V
    have HVv := hid (show ptVal (V0, V1, V2) = .agg #[.int .i64 V0, .int .i64 V1, .int .i64 V2] from rfl)
    clear hD hV
    have EQ := hid (show ((V0 == V0 && V1 == V1) && V2 == V2) = true by simp)
    go_wp2_with fail
    refine (HI.out _).mono ?_
    rintro e w2 ⟨rfl, b2⟩
    rw [HVv.out]
    have B2 := hid (below_trans (below_trans B1.out b2) (below_alloc w2 (.cells #[.int .i64 V0, .int .i64 V1, .int .i64 V2] 31)))
    have A2 := hid ((IA.out.below b2).below (below_alloc w2 (.cells #[.int .i64 V0, .int .i64 V1, .int .i64 V2] 31)))
    have L2 := hid ((IL.out.below b2).below (below_alloc w2 (.cells #[.int .i64 V0, .int .i64 V1, .int .i64 V2] 31)))
    have I2 := hid (IBox.new w2 V0 V1 V2)
    clear b2
    obtain ⟨x0, x1, x2, _⟩ := A2.out.cells
    obtain ⟨y0, y1, y2, _⟩ := L2.out.cells
    go_wp2_with fail
    refine (HS.out _).mono ?_
    rintro e w3 ⟨rfl, b3⟩
    rw [HVv.out]
    have B3 := hid (below_trans (below_trans B2.out b3) (below_alloc w3 (.cells #[.int .i64 V0, .int .i64 V1, .int .i64 V2] 31)))
    have A3 := hid ((A2.out.below b3).below (below_alloc w3 (.cells #[.int .i64 V0, .int .i64 V1, .int .i64 V2] 31)))
    have L3 := hid ((L2.out.below b3).below (below_alloc w3 (.cells #[.int .i64 V0, .int .i64 V1, .int .i64 V2] 31)))
    have I3 := hid ((I2.out.below b3).below (below_alloc w3 (.cells #[.int .i64 V0, .int .i64 V1, .int .i64 V2] 31)))
    have J3 := hid (IBox.new w3 V0 V1 V2)
    clear b3 x0 x1 x2 y0 y1 y2
    obtain ⟨x0, x1, x2, _⟩ := I3.out.cells
    obtain ⟨y0, y1, y2, _⟩ := J3.out.cells
    have eqp := run_eqlPt V0 V1 V2 V0 V1 V2
    have nep := run_neqPt V0 V1 V2 V0 V1 V2
    rw [EQ.out] at eqp nep
    have hne : (D != D) = false := by simp
    cases D
    · clear HJ HO HP
      go_wp2
      go_ret
      exact ⟨rfl, B3.out⟩
    · have HJ2 := hid (HJ.out rfl)
      have HO2 := hid (fun W => implPointOn_ok p x y z V0 V1 V2 W)
      have HP2 := hid (fun W => implPointOn_ok p l m o V0 V1 V2 W)
      rw [HO.out rfl] at HO2
      rw [HP.out rfl] at HP2
      clear HJ HO HP
      clear x0 x1 x2 y0 y1 y2
      obtain ⟨x0, x1, x2, _⟩ := A3.out.cells
      obtain ⟨y0, y1, y2, _⟩ := L3.out.cells
      obtain ⟨r0, r1, r2, _⟩ := I3.out.cells
      obtain ⟨s0, s1, s2, _⟩ := J3.out.cells
      go_wp2_with fail
      refine (HJ2.out _).mono ?_
      rintro e w4 ⟨rfl, b4⟩
      rw [HVv.out]
      have B4 := hid (below_trans (below_trans B3.out b4) (below_alloc w4 (.cells #[.int .i64 V0, .int .i64 V1, .int .i64 V2] 31)))
      have A4 := hid ((A3.out.below b4).below (below_alloc w4 (.cells #[.int .i64 V0, .int .i64 V1, .int .i64 V2] 31)))
      have L4 := hid ((L3.out.below b4).below (below_alloc w4 (.cells #[.int .i64 V0, .int .i64 V1, .int .i64 V2] 31)))
      have I4 := hid ((I3.out.below b4).below (below_alloc w4 (.cells #[.int .i64 V0, .int .i64 V1, .int .i64 V2] 31)))
      have K4 := hid (IBox.new w4 V0 V1 V2)
      clear b4 x0 x1 x2 y0 y1 y2 r0 r1 r2 s0 s1 s2
      obtain ⟨x0, x1, x2, _⟩ := A4.out.cells
      obtain ⟨r0, r1, r2, _⟩ := I4.out.cells
      obtain ⟨s0, s1, s2, _⟩ := K4.out.cells
      go_wp2_with fail
      refine (HO2.out _).mono ?_
      rintro e w5 ⟨rfl, b5⟩
      have B5 := hid (below_trans B4.out b5)
      have L5 := hid (L4.out.below b5)
      have I5 := hid (I4.out.below b5)
      clear b5 x0 x1 x2 r0 r1 r2 s0 s1 s2
      obtain ⟨y0, y1, y2, _⟩ := L5.out.cells
      obtain ⟨r0, r1, r2, _⟩ := I5.out.cells
      go_wp2_with fail
      refine (HP2.out _).mono ?_
      rintro e w6 ⟨rfl, b6⟩
      have B6 := hid (below_trans B5.out b6)
      clear b6 y0 y1 y2 r0 r1 r2
      go_wp2
      go_ret
      exact ⟨rfl, B6.out⟩
  · clear hr
    go_enter Try.func11, Try.ntmps11
    go_wp2
    go_ret
    exact ⟨rfl, Below.refl _ _⟩

end Go.Proofs.Ytkddhlgohjojpaa
