/-
  The laws FnPointOf and FnPointIn.
-/
import Derived.Test.YtkddhlgohjojpaaDq
import Derived.Test.YtkddhlgohjojpaaPl
import Derived.Test.YtkddhlgohjojpaaPf
namespace Go.Proofs.Ytkddhlgohjojpaa
open Go.RowKit
set_option linter.unusedVariables false
set_option linter.unusedSimpArgs false

set_option maxRecDepth 100000 in
set_option maxHeartbeats 2000000 in
theorem FnPointOf_ok (A : Option Addr) (n c : Nat) (xs : List Int) (w : World) (hr : n ≤ 1048576 → RB w A n c xs) :
    Calls Try.prog 8 #[.slice A n c] w fun e w' => e = .returned (.bool true) ∧ Below w.heap.size w w' := by
  by_cases hb : n ≤ 1048576
  · have HR := hid (hr hb)
    clear hr
    go_enter Try.func8, Try.ntmps8
    go_wp2_with fail
    refine (DrawPointOf_ok A n c xs w HR.out).mono ?_
    rintro e w1 ⟨p, x, y, z, rfl, b1, hp, hx, hy, hz⟩
    have HI := hid (fun W => implPointOf_ok p x y z W)
    have HS := hid (fun W => specPointOf_ok p x y z W)
    have HN := hid (fun W => implPointOf_ok p (0 - x) (0 - y) (0 - z) W)
    have HT := hid (fun (h : pofB p x y z = true) => pof_neg h)
    have HP := hid (fun (h : pofB p x y z = true) => pof_point h)
    have HQ := hid (fun W => implPointIn_ok p (pofV p x y z).1 (pofV p x y z).2.1 (pofV p x y z).2.2 W)
    have B1 := hid b1
    clear b1
    generalize hD : pofB p x y z = D at *
    generalize hV : pofV p x y z = V at *
    obtain ⟨V0, V1, V2⟩ := V
    have HVv := hid (show ptVal (V0, V1, V2) = .agg #[.int .i64 V0, .int .i64 V1, .int .i64 V2] from rfl)
    clear hD hV
    have EQ := hid (show ((V0 == V0 && V1 == V1) && V2 == V2) = true by simp)
    go_wp2_with fail
    refine (HI.out _).mono ?_
    rintro e w2 ⟨rfl, b2⟩
    rw [HVv.out]
    have B2 := hid (below_trans (below_trans B1.out b2) (below_alloc w2 (.cells #[.int .i64 V0, .int .i64 V1, .int .i64 V2] 31)))
    have I2 := hid (IBox.new w2 V0 V1 V2)
    clear b2
    go_wp2_with fail
    refine (HS.out _).mono ?_
    rintro e w3 ⟨rfl, b3⟩
    rw [HVv.out]
    have B3 := hid (below_trans (below_trans B2.out b3) (below_alloc w3 (.cells #[.int .i64 V0, .int .i64 V1, .int .i64 V2] 31)))
    have I3 := hid ((I2.out.below b3).below (below_alloc w3 (.cells #[.int .i64 V0, .int .i64 V1, .int .i64 V2] 31)))
    have J3 := hid (IBox.new w3 V0 V1 V2)
    clear b3
    obtain ⟨x0, x1, x2, _⟩ := I3.out.cells
    obtain ⟨y0, y1, y2, _⟩ := J3.out.cells
    have eqp := run_eqlPt V0 V1 V2 V0 V1 V2
    have nep := run_neqPt V0 V1 V2 V0 V1 V2
    rw [EQ.out] at eqp nep
    have hne : (D != D) = false := by simp
    cases D
    · clear HN HT HP HQ
      go_wp2
      go_ret
      exact ⟨rfl, B3.out⟩
    · have HT2 := hid (HT.out rfl)
      have HP2 := hid (HP.out rfl)
      have hN : ∀ W, Calls Try.prog 18 #[.int .i64 p, .int .i64 (-x), .int .i64 (-y), .int .i64 (-z)] W fun e w' => e = .returned (.tuple #[ptVal (V0, V1, V2), .bool true]) ∧ Below W.heap.size W w' := by
        intro W
        have h := HN.out W
        rw [HT2.out.1, HT2.out.2, Int.zero_sub, Int.zero_sub, Int.zero_sub] at h
        exact h
      have hQ : ∀ W, Calls Try.prog 29 #[.int .i64 p, .agg #[.int .i64 V0, .int .i64 V1, .int .i64 V2]] W fun e w' => e = .returned (.bool true) ∧ Below W.heap.size W w' := by
        intro W
        have h := HQ.out W
        rw [points_alike, HP2.out] at h
        exact h
      have HN2 := hid hN
      have HQ2 := hid hQ
      clear HN HT HP HQ HT2 HP2 hN hQ
      go_wp2_with fail
      refine (HN2.out _).mono ?_
      rintro e w4 ⟨rfl, b4⟩
      rw [HVv.out]
      have B4 := hid (below_trans (below_trans B3.out b4) (below_alloc w4 (.cells #[.int .i64 V0, .int .i64 V1, .int .i64 V2] 31)))
      have I4 := hid ((I3.out.below b4).below (below_alloc w4 (.cells #[.int .i64 V0, .int .i64 V1, .int .i64 V2] 31)))
      have K4 := hid (IBox.new w4 V0 V1 V2)
      clear b4 x0 x1 x2 y0 y1 y2
      obtain ⟨x0, x1, x2, _⟩ := I4.out.cells
      obtain ⟨y0, y1, y2, _⟩ := K4.out.cells
      go_wp2_with fail
      refine (HQ2.out _).mono ?_
      rintro e w5 ⟨rfl, b5⟩
      have B5 := hid (below_trans B4.out b5)
      clear b5 x0 x1 x2 y0 y1 y2
      go_wp2
      go_ret
      exact ⟨rfl, B5.out⟩
  · clear hr
    go_enter Try.func8, Try.ntmps8
    go_wp2
    go_ret
    exact ⟨rfl, Below.refl _ _⟩

set_option maxRecDepth 100000 in
set_option maxHeartbeats 2000000 in
theorem FnPointIn_ok (A : Option Addr) (n c : Nat) (xs : List Int) (w : World) (hr : n ≤ 1048576 → RB w A n c xs) :
    Calls Try.prog 10 #[.slice A n c] w fun e w' => e = .returned (.bool true) ∧ Below w.heap.size w w' := by
  by_cases hb : n ≤ 1048576
  · have HR := hid (hr hb)
    clear hr
    go_enter Try.func10, Try.ntmps10
    go_wp2_with fail
    refine (DrawPointIn_ok A n c xs w HR.out).mono ?_
    rintro e w1 ⟨p, ⟨x, y, z⟩, rfl, hp0, hp1, b1⟩
    have HXv := hid (show ptVal (x, y, z) = .agg #[.int .i64 x, .int .i64 y, .int .i64 z] from rfl)
    rw [HXv.out]
    have HI := hid (fun W => implPointIn_ok p x y z W)
    have HS := hid (fun W => specPointIn_ok p x y z W)
    have HA := hid (points_alike p x y z)
    rw [HA.out] at HI
    have hA : specPointB p x y z = true → ∀ W, Calls Try.prog 18 #[.int .i64 p, .int .i64 x, .int .i64 y, .int .i64 z] W fun e w' => e = .returned (.tuple #[ptVal (x, y, z), .bool true]) ∧ Below W.heap.size W w' := by
      intro h W
      have k := implPointOf_ok p x y z W
      rw [(point_row h).1, (point_row h).2] at k
      exact k
    have hB : specPointB p x y z = true → ∀ W, Calls Try.prog 18 #[.int .i64 p, .int .i64 (3 * x), .int .i64 (3 * y), .int .i64 (3 * z)] W fun e w' => e = .returned (.tuple #[ptVal (x, y, z), .bool true]) ∧ Below W.heap.size W w' := by
      intro h W
      have k := implPointOf_ok p (3 * x) (3 * y) (3 * z) W
      rw [(pof_three h).1, (pof_three h).2] at k
      exact k
    have HBd := hid (fun (h : specPointB p x y z = true) => (point_parts h).2)
    have HF := hid hA
    have HG := hid hB
    have B1 := hid (below_trans b1 (below_alloc w1 (.cells #[.int .i64 x, .int .i64 y, .int .i64 z] 31)))
    have I1 := hid (IBox.new w1 x y z)
    clear b1 HA hA hB
    generalize hD : specPointB p x y z = D at *
    have EQ := hid (show ((x == x && y == y) && z == z) = true by simp)
    clear hD
    obtain ⟨x0, x1, x2, _⟩ := I1.out.cells
    go_wp2_with fail
    refine (HI.out _).mono ?_
    rintro e w2 ⟨rfl, b2⟩
    have B2 := hid (below_trans B1.out b2)
    have I2 := hid (I1.out.below b2)
    clear b2 x0 x1 x2
    obtain ⟨x0, x1, x2, _⟩ := I2.out.cells
    go_wp2_with fail
    refine (HS.out _).mono ?_
    rintro e w3 ⟨rfl, b3⟩
    have B3 := hid (below_trans B2.out b3)
    have I3 := hid (I2.out.below b3)
    clear b3 x0 x1 x2
    have hne : (D != D) = false := by simp
    cases D
    · clear HF HG HBd
      go_wp2
      go_ret
      exact ⟨rfl, B3.out⟩
    · have HF2 := hid (HF.out rfl)
      have HG2 := hid (HG.out rfl)
      obtain ⟨⟨h1, h2⟩, ⟨h3, h4⟩, ⟨h5, h6⟩, _⟩ := HBd.out rfl
      clear HF HG HBd
      obtain ⟨x0, x1, x2, _⟩ := I3.out.cells
      go_wp2_with fail
      refine (HF2.out _).mono ?_
      rintro e w4 ⟨rfl, b4⟩
      rw [HXv.out]
      have B4 := hid (below_trans (below_trans B3.out b4) (below_alloc w4 (.cells #[.int .i64 x, .int .i64 y, .int .i64 z] 31)))
      have I4 := hid ((I3.out.below b4).below (below_alloc w4 (.cells #[.int .i64 x, .int .i64 y, .int .i64 z] 31)))
      have K4 := hid (IBox.new w4 x y z)
      clear b4 x0 x1 x2
      obtain ⟨x0, x1, x2, _⟩ := I4.out.cells
      go_wp2_with fail
      refine (HG2.out _).mono ?_
      rintro e w5 ⟨rfl, b5⟩
      rw [HXv.out]
      have B5 := hid (below_trans (below_trans B4.out b5) (below_alloc w5 (.cells #[.int .i64 x, .int .i64 y, .int .i64 z] 31)))
      have I5 := hid ((I4.out.below b5).below (below_alloc w5 (.cells #[.int .i64 x, .int .i64 y, .int .i64 z] 31)))
      have K5 := hid ((K4.out.below b5).below (below_alloc w5 (.cells #[.int .i64 x, .int .i64 y, .int .i64 z] 31)))
      have L5 := hid (IBox.new w5 x y z)
      clear b5 x0 x1 x2
      obtain ⟨x0, x1, x2, _⟩ := I5.out.cells
      obtain ⟨y0, y1, y2, _⟩ := K5.out.cells
      obtain ⟨z0, z1, z2, _⟩ := L5.out.cells
      have eqp := run_eqlPt x y z x y z
      rw [EQ.out] at eqp
      go_wp2
      go_ret
      exact ⟨rfl, B5.out⟩
  · clear hr
    go_enter Try.func10, Try.ntmps10
    go_wp2
    go_ret
    exact ⟨rfl, Below.refl _ _⟩

end Go.Proofs.Ytkddhlgohjojpaa
