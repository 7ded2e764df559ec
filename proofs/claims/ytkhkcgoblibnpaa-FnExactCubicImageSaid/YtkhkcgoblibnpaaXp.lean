/-
  The law FnExactPointConic.
-/
import Derived.Test.YtkhkcgoblibnpaaPc
namespace Go.Proofs.Ytkhkcgoblibnpaa
open Go.RowKit
set_option linter.unusedVariables false
set_option linter.unusedSimpArgs false

theorem OI.get {w : World} {b n c : Nat} {A : Option Addr} {xs : List Int} (h : OI w b (.slice A n c) xs) (hn : xs.length ≤ 17592186044416) : RI w A n xs := by
  obtain ⟨A', c', e, hr⟩ := h.ri hn
  injection e with e1 e2 e3
  subst e1 e2
  exact hr
theorem OI.keptP {w w' : World} {base b : Nat} {v u : Value} {xs : List Int} {ps : List P3} (h : OI w base v xs) (ho : OP w b u ps) (hg : w.grownBy w' u.ownBlock) : OI w' base v xs :=
  World.ownsRow.kept h hg (own_ne ho h (by decide))

set_option maxRecDepth 100000 in
set_option maxHeartbeats 8000000 in
theorem FnExactPointConic_ok (p : Int) (A : Option Addr) (n c : Nat) (ps : List P3) (w : World) (hp : (Lit.int .i64 p).wf = true) (hn64 : n ≤ 9223372036854775807) (hr : n ≤ 1048576 → RP w A n ps) :
    Calls Try.prog 7 #[.int .i64 p, .slice A n c] w fun e w' => e = .returned (.bool true) ∧ Below w.heap.size w w' := by
  have HSz := hid (szPointS_ok A n c w hn64)
  clear hp
  by_cases hb : n ≤ 1048576
  · have HR := hid (hr hb)
    have hl := (hr hb).1
    rw [if_neg (by omega)] at HSz
    have HS := hid (fun B d W h => specPointConic_ok p B n d ps W h)
    have HI := hid (fun B W h => implPointConic_ok p B n n ps W h (Nat.le_refl _))
    have HF := hid (pcP_len p ps)
    generalize pcP p ps = Y at *
    generalize pcB p ps = D at *
    have hne : (D != D) = false := by simp
    have hnz : ¬ (1048576 - (n : Int) < 0) := by omega
    clear hr
    go_enter Try.func7, Try.ntmps7
    go_wp2_with fail
    refine HSz.out.mono ?_
    rintro e w0 ⟨rfl, rfl⟩
    go_wp2_with fail
    refine (toPointS_ok A n c ps _ HR.out hb).mono ?_
    rintro e w1 ⟨rfl, o1, b1⟩
    obtain ⟨A1, c1, e1, r1⟩ := o1.rp (by omega)
    injection e1 with e11 e12 e13
    subst e11
    rw [hl] at r1
    have R1 := hid r1
    have B1 := hid b1
    clear o1 b1 r1 e12 e13
    go_wp2_with fail
    refine (HS.out _ _ _ R1.out).mono ?_
    rintro e w2 ⟨v0, rfl, o2, b2⟩
    obtain ⟨A0, c0, rfl, _⟩ := o2.ri (by have := HF.out; omega)
    have V2 := hid o2
    have B2 := hid (below_trans B1.out b2)
    have HV := hid (fun k (hk : (Value.slice A0 Y.length c0).ownBlock = some k) => V2.out.lt' hk)
    clear b2 o2
    go_wp2_with fail
    refine (toPointS_ok A n c ps _ (HR.out.below B2.out) hb).mono ?_
    rintro e w3 ⟨rfl, o3, b3⟩
    have B3 := hid (below_trans B2.out b3)
    have V3 := hid (V2.out.below b3)
    have X3 := hid o3
    have E3 := hid b3.size
    obtain ⟨A3, c3, e3, r3⟩ := o3.rp (by omega)
    injection e3 with e31 e32 e33
    subst e31
    rw [hl] at r3
    have R3 := hid r3
    clear o3 b3 r3 e32 e33
    go_wp2_with fail
    refine (HI.out _ _ R3.out).mono ?_
    rintro e w4 ⟨v4, rfl, o4, b4⟩
    obtain ⟨AG, cG, rfl, _⟩ := o4.ri (by have := HF.out; omega)
    have B4 := hid (below_trans B3.out b4)
    have V4 := hid (V3.out.below b4)
    have X4 := hid (X3.out.below b4)
    have G4 := hid o4
    clear b4 o4
    go_wp2_with fail
    refine (eqIntS_ok AG _ cG Y A0 _ c0 Y _ (G4.out.get (by have := HF.out; omega)) (V4.out.get (by have := HF.out; omega))).mono ?_
    rintro e w5 ⟨rfl, b5⟩
    rw [beq_self_eq_true]
    have B5 := hid (below_trans B4.out b5)
    have V5 := hid (V4.out.below b5)
    have X5 := hid (X4.out.below b5)
    have G5 := hid (G4.out.below b5)
    clear b5
    go_wp2_with fail
    refine (toPointS_ok A n c ps _ (HR.out.below B5.out) hb).mono ?_
    rintro e w6 ⟨rfl, o6, b6⟩
    have B6 := hid (below_trans B5.out b6)
    have V6 := hid (V5.out.below b6)
    have X6 := hid (X5.out.below b6)
    have G6 := hid (G5.out.below b6)
    obtain ⟨A6, c6, e6, r6⟩ := o6.rp (by omega)
    injection e6 with e61 e62 e63
    subst e61
    rw [hl] at r6
    have R6 := hid r6
    clear o6 b6 r6 e62 e63
    obtain ⟨AX, cX, eX, rX⟩ := X6.out.rp (by omega)
    injection eX with eX1 eX2 eX3
    subst eX1
    rw [hl] at rX
    have RX := hid rX
    clear rX eX2 eX3
    go_wp2_with fail
    refine (eqPointS_ok _ n n ps _ n n ps _ RX.out R6.out).mono ?_
    rintro e w7 ⟨rfl, b7⟩
    rw [beq_self_eq_true]
    have B7 := hid (below_trans B6.out b7)
    have V7 := hid (V6.out.below b7)
    have X7 := hid (X6.out.below b7)
    have G7 := hid (G6.out.below b7)
    clear b7
    go_wp2_with fail
    refine (markPointS_ok _ _ n n ps 1 _ X7.out (by omega) hl (by omega) (by omega)).mono ?_
    rintro e w8 ⟨rfl, o8, g8⟩
    have B8 := hid (B7.out.grown g8 B7.out.size (fun k hk => Nat.le_trans B2.out.size (own_base X7.out k hk)))
    have V8 := hid (V7.out.keptP X7.out g8)
    have G8 := hid (G7.out.keptP X7.out g8)
    have hk8 : ¬ 1 + (n : Int) * 3 < 0 := by omega
    clear o8 g8
    go_wp2_with fail
    refine (eqIntS_ok AG _ cG Y A0 _ c0 Y _ (G8.out.get (by have := HF.out; omega)) (V8.out.get (by have := HF.out; omega))).mono ?_
    rintro e w9 ⟨rfl, b9⟩
    rw [beq_self_eq_true]
    have B9 := hid (below_trans B8.out b9)
    have V9 := hid (V8.out.below b9)
    have G9 := hid (G8.out.below b9)
    clear b9
    go_wp2_with fail
    refine (markIntS_ok _ _ Y 1 _ G9.out (by have := HF.out; omega) (by omega) (by omega)).mono ?_
    rintro e w10 ⟨rfl, o10, g10⟩
    have B10 := hid (B9.out.grown g10 B9.out.size (fun k hk => Nat.le_trans B3.out.size (own_base G9.out k hk)))
    have V10 := hid (V9.out.keepLo G9.out (fun k hk => Nat.lt_of_lt_of_le (HV.out k hk) E3.out) g10)
    have M10 := hid o10
    have hml := marksI_len 1 Y.length
    clear o10 g10
    have RM := hid (M10.out.get (by rw [marksI_len]; have := HF.out; omega))
    have hk10 : ¬ 1 + (Y.length : Int) < 0 := by omega
    have hk11 : (1 + (Y.length : Int) != 1 + (Y.length : Int)) = false := by simp
    go_wp2_with fail
    refine (heldIntS_ok AG _ cG 1 _ RM.out (by have := HF.out; omega) (by omega) (by omega)).mono ?_
    rintro e w' ⟨rfl, rfl⟩
    go_wp2_with fail
    refine (toPointS_ok A n c ps _ (HR.out.below B10.out) hb).mono ?_
    rintro e w11 ⟨rfl, o11, b11⟩
    have B11 := hid (below_trans B10.out b11)
    have V11 := hid (V10.out.below b11)
    have M11 := hid (M10.out.below b11)
    obtain ⟨A11, c11, e11, r11⟩ := o11.rp (by omega)
    injection e11 with e111 e112 e113
    subst e111
    rw [hl] at r11
    have R11 := hid r11
    clear o11 b11 r11 e112 e113
    go_wp2_with fail
    refine (HI.out _ _ R11.out).mono ?_
    rintro e w12 ⟨v12, rfl, o12, b12⟩
    obtain ⟨AH, cH, rfl, rh⟩ := o12.ri (by have := HF.out; omega)
    have B12 := hid (below_trans B11.out b12)
    have V12 := hid (V11.out.below b12)
    have M12 := hid (M11.out.below b12)
    have RH := hid rh
    clear b12 o12 rh
    go_wp2_with fail
    refine (eqIntS_ok AH _ cH Y A0 _ c0 Y _ RH.out (V12.out.get (by have := HF.out; omega))).mono ?_
    rintro e w13 ⟨rfl, b13⟩
    rw [beq_self_eq_true]
    have B13 := hid (below_trans B12.out b13)
    have M13 := hid (M12.out.below b13)
    have RM2 := hid (M13.out.get (by rw [marksI_len]; have := HF.out; omega))
    clear b13
    go_wp2_with fail
    refine (heldIntS_ok AG _ cG 1 _ RM2.out (by have := HF.out; omega) (by omega) (by omega)).mono ?_
    rintro e w' ⟨rfl, rfl⟩
    go_wp2
    go_ret
    exact ⟨rfl, B13.out⟩
  · rw [if_pos (by omega)] at HSz
    clear hr
    go_enter Try.func7, Try.ntmps7
    go_wp2_with fail
    refine HSz.out.mono ?_
    rintro e w0 ⟨rfl, rfl⟩
    go_wp2
    go_ret
    exact ⟨rfl, Below.refl _ _⟩

end Go.Proofs.Ytkhkcgoblibnpaa
