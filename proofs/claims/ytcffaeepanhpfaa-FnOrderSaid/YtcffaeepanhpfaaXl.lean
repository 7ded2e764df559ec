/-
  The law FnExactWordLines.
-/
import Derived.Test.YtcffaeepanhpfaaWl
import Derived.Test.YtcffaeepanhpfaaMi
namespace Go.Proofs.Ytcffaeepanhpfaa
open Go.RowKit
set_option linter.unusedVariables false
set_option linter.unusedSimpArgs false

theorem OI.get {w : World} {b n c : Nat} {A : Option Addr} {xs : List Int} (h : OI w b (.slice A n c) xs) (hn : xs.length ≤ 17592186044416) : RI w A n xs := by
  obtain ⟨A', c', e, hr⟩ := h.ri hn
  injection e with e1 e2 e3
  subst e1 e2
  exact hr
theorem wlR_len (xs : List Int) : (wlR xs).length ≤ 27 := by
  rw [wlR]
  split
  · exact Nat.le_of_eq (wlTo_len xs 27)
  · exact Nat.zero_le _

set_option maxRecDepth 100000 in
set_option maxHeartbeats 8000000 in
theorem FnExactWordLines_ok (A : Option Addr) (n c : Nat) (xs : List Int) (w : World) (hr : n ≤ 1048576 → RI w A n xs) :
    Calls Try.prog 3 #[.slice A n c] w fun e w' => e = .returned (.bool true) ∧ Below w.heap.size w w' := by
  by_cases hb : n ≤ 1048576
  · have HR := hid (hr hb)
    have hxl := (hr hb).1
    have HS := hid (fun B d W h => specWordLines_ok B n d xs W h)
    have HI := hid (fun B d W h => implWordLines_ok B n d xs W h)
    have HLy := hid (wlR_len xs)
    have hne2 : (wordB xs != wordB xs) = false := by simp
    clear hr
    generalize wlR xs = ys at *
    generalize wordB xs = D at *
    go_enter Try.func3, Try.ntmps3
    go_wp2_with fail
    refine (toIntS_ri A n c xs w HR.out).mono ?_
    rintro e w1 ⟨A1, c1, rfl, r1, b1⟩
    have R1 := hid r1
    have B1 := hid b1
    clear r1 b1
    go_wp2_with fail
    refine (HS.out _ _ _ R1.out).mono ?_
    rintro e w2 ⟨v0, rfl, o2, b2⟩
    obtain ⟨A0, c0, rfl, _, _⟩ := o2.ri2 (by have := HLy.out; omega)
    have B2 := hid (below_trans B1.out b2)
    have V2 := hid o2
    have HV := hid (fun k (hk : (Value.slice A0 ys.length c0).ownBlock = some k) => V2.out.lt' hk)
    clear o2 b2
    go_wp2_with fail
    refine (toIntS_ok A n c xs _ (HR.out.below B2.out)).mono ?_
    rintro e w3 ⟨x0, rfl, o3, b3⟩
    obtain ⟨AX, cX, rfl, _, rx⟩ := o3.ri2 (by omega)
    rw [hxl] at rx
    rw [hxl] at o3
    rw [hxl]
    have B3 := hid (below_trans B2.out b3)
    have V3 := hid (V2.out.below b3)
    have X3 := hid o3
    have RX := hid rx
    have HSz := hid b3.size
    have HX := hid (fun k (hk : (Value.slice AX n cX).ownBlock = some k) => X3.out.lt' hk)
    clear o3 b3 rx
    go_wp2_with fail
    refine (HI.out _ _ _ RX.out).mono ?_
    rintro e w4 ⟨g0, rfl, o4, b4⟩
    obtain ⟨AG, cG, rfl, _, _⟩ := o4.ri2 (by have := HLy.out; omega)
    have B4 := hid (below_trans B3.out b4)
    have V4 := hid (V3.out.below b4)
    have X4 := hid (X3.out.below b4)
    have G4 := hid o4
    clear o4 b4
    go_wp2_with fail
    refine (eqIntS_ok AG _ cG ys A0 _ c0 ys _ (G4.out.get (by have := HLy.out; omega)) (V4.out.get (by have := HLy.out; omega))).mono ?_
    rintro e w5 ⟨rfl, b5⟩
    rw [beq_self_eq_true]
    have B5 := hid (below_trans B4.out b5)
    have V5 := hid (V4.out.below b5)
    have X5 := hid (X4.out.below b5)
    have G5 := hid (G4.out.below b5)
    clear b5
    go_wp2_with fail
    refine (toIntS_ri A n c xs _ (HR.out.below B5.out)).mono ?_
    rintro e w6 ⟨A6, c6, rfl, r6, b6⟩
    have B6 := hid (below_trans B5.out b6)
    have V6 := hid (V5.out.below b6)
    have X6 := hid (X5.out.below b6)
    have G6 := hid (G5.out.below b6)
    have R6 := hid r6
    clear b6 r6
    go_wp2_with fail
    refine (eqIntS_ok AX _ cX xs A6 _ c6 xs _ (X6.out.get (by omega)) R6.out).mono ?_
    rintro e w7 ⟨rfl, b7⟩
    rw [beq_self_eq_true]
    have B7 := hid (below_trans B6.out b7)
    have V7 := hid (V6.out.below b7)
    have X7 := hid (X6.out.below b7)
    have G7 := hid (G6.out.below b7)
    clear b7
    go_wp2_with fail
    refine (markIntS_ok _ _ xs 1 _ X7.out (by omega) (by omega) (by omega)).mono ?_
    rintro e w8 ⟨rfl, o8, g8⟩
    have B8 := hid (B7.out.grown g8 B7.out.size (fun k hk => Nat.le_trans B2.out.size (own_base X7.out k hk)))
    have V8 := hid (V7.out.keepLo X7.out HV.out g8)
    have G8 := hid (G7.out.keepHi HX.out g8)
    have hk8 : ¬ 1 + (xs.length : Int) < 0 := by omega
    clear o8 g8
    go_wp2_with fail
    refine (eqIntS_ok AG _ cG ys A0 _ c0 ys _ (G8.out.get (by have := HLy.out; omega)) (V8.out.get (by have := HLy.out; omega))).mono ?_
    rintro e w9 ⟨rfl, b9⟩
    rw [beq_self_eq_true]
    have B9 := hid (below_trans B8.out b9)
    have V9 := hid (V8.out.below b9)
    have G9 := hid (G8.out.below b9)
    clear b9
    go_wp2_with fail
    refine (markIntS_ok _ _ ys 1 _ G9.out (by have := HLy.out; omega) (by omega) (by omega)).mono ?_
    rintro e w10 ⟨rfl, o10, g10⟩
    have B10 := hid (B9.out.grown g10 B9.out.size (fun k hk => Nat.le_trans B3.out.size (own_base G9.out k hk)))
    have V10 := hid (V9.out.keepLo G9.out (fun k hk => Nat.lt_of_lt_of_le (HV.out k hk) HSz.out) g10)
    have M10 := hid o10
    have hml := marksI_len 1 ys.length
    clear o10 g10
    have RM := hid (M10.out.get (by rw [marksI_len]; have := HLy.out; omega))
    have hk10 : ¬ 1 + (ys.length : Int) < 0 := by omega
    have hk11 : (1 + (ys.length : Int) != 1 + (ys.length : Int)) = false := by simp
    go_wp2_with fail
    refine (heldIntS_ok AG _ cG 1 _ RM.out (by have := HLy.out; omega) (by omega) (by omega)).mono ?_
    rintro e w' ⟨rfl, rfl⟩
    go_wp2_with fail
    refine (toIntS_ri A n c xs _ (HR.out.below B10.out)).mono ?_
    rintro e w11 ⟨A11, c11, rfl, r11, b11⟩
    have B11 := hid (below_trans B10.out b11)
    have V11 := hid (V10.out.below b11)
    have M11 := hid (M10.out.below b11)
    have R11 := hid r11
    clear b11 r11
    go_wp2_with fail
    refine (HI.out _ _ _ R11.out).mono ?_
    rintro e w12 ⟨h0, rfl, o12, b12⟩
    obtain ⟨AH, cH, rfl, _, rh⟩ := o12.ri2 (by have := HLy.out; omega)
    have B12 := hid (below_trans B11.out b12)
    have V12 := hid (V11.out.below b12)
    have M12 := hid (M11.out.below b12)
    have RH := hid rh
    clear o12 b12 rh
    go_wp2_with fail
    refine (eqIntS_ok AH _ cH ys A0 _ c0 ys _ RH.out (V12.out.get (by have := HLy.out; omega))).mono ?_
    rintro e w13 ⟨rfl, b13⟩
    rw [beq_self_eq_true]
    have B13 := hid (below_trans B12.out b13)
    have M13 := hid (M12.out.below b13)
    have RM2 := hid (M13.out.get (by rw [marksI_len]; have := HLy.out; omega))
    clear b13
    go_wp2_with fail
    refine (heldIntS_ok AG _ cG 1 _ RM2.out (by have := HLy.out; omega) (by omega) (by omega)).mono ?_
    rintro e w' ⟨rfl, rfl⟩
    go_wp2
    go_ret
    exact ⟨rfl, B13.out⟩
  · clear hr
    go_enter Try.func3, Try.ntmps3
    go_wp2
    go_ret
    exact ⟨rfl, Below.refl _ _⟩

end Go.Proofs.Ytcffaeepanhpfaa
