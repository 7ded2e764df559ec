/-
  The law FnExactCubicImage.
-/
import Derived.Test.YtkhkcgoblibnpaaCi
import Derived.Test.YtkhkcgoblibnpaaXp
namespace Go.Proofs.Ytkhkcgoblibnpaa
open Go.RowKit
set_option linter.unusedVariables false
set_option linter.unusedSimpArgs false

theorem cellP {w w' : World} {b k j : Nat} {u : Value} {ps : List P3} {v : Value} (ho : OP w b u ps) (hg : w.grownBy w' u.ownBlock) (hlo : k < b) (hc : w.cell? ⟨k, j, none⟩ = some v) : w'.cell? ⟨k, j, none⟩ = some v := by
  have h1 : k < w.heap.size := by
    rcases Nat.lt_or_ge k w.heap.size with h | h
    · exact h
    · exfalso
      rw [World.cell?] at hc
      simp [Array.getElem?_eq_none h] at hc
  rw [← hc]
  unfold World.cell?
  rw [hg.block k h1 (fun e => by have := own_base ho k e.symm; omega)]
theorem cellI {w w' : World} {b k j : Nat} {u : Value} {xs : List Int} {v : Value} (ho : OI w b u xs) (hg : w.grownBy w' u.ownBlock) (hlo : k < b) (hc : w.cell? ⟨k, j, none⟩ = some v) : w'.cell? ⟨k, j, none⟩ = some v := by
  have h1 : k < w.heap.size := by
    rcases Nat.lt_or_ge k w.heap.size with h | h
    · exact h
    · exfalso
      rw [World.cell?] at hc
      simp [Array.getElem?_eq_none h] at hc
  rw [← hc]
  unfold World.cell?
  rw [hg.block k h1 (fun e => by have := own_base ho k e.symm; omega)]
theorem OI.drew' {w : World} {base : Nat} {v : Value} {xs : List Int} (h : OI w base v xs) : OI w.drew base v xs := h
set_option maxRecDepth 100000 in
set_option maxHeartbeats 8000000 in
theorem FnExactCubicImage_ok (p : Int) (A : Option Addr) (n c : Nat) (ps : List P3) (x y z : Int) (w : World) (hp : (Lit.int .i64 p).wf = true) (hn64 : n ≤ 9223372036854775807) (hr : n ≤ 1048576 → RP w A n ps) (hx : (Lit.int .i64 x).wf = true) (hy : (Lit.int .i64 y).wf = true) (hz : (Lit.int .i64 z).wf = true) :
    Calls Try.prog 5 #[.int .i64 p, .slice A n c, .agg #[.int .i64 x, .int .i64 y, .int .i64 z]] w fun e w' => e = .returned (.bool true) ∧ Below w.heap.size w w' := by
  have B0 := hid (below_alloc w (.cells #[.int .i64 x, .int .i64 y, .int .i64 z] 44))
  have HC0 := hid (cells_last (Below.refl (w.alloc (.cells #[.int .i64 x, .int .i64 y, .int .i64 z] 44)).heap.size _) w.heap.size rfl)
  have HSz := hid (szPointS_ok A n c (w.alloc (.cells #[.int .i64 x, .int .i64 y, .int .i64 z] 44)) hn64)
  clear hp hx hy hz
  by_cases hb : n ≤ 1048576
  · have HR := hid ((hr hb).below B0.out)
    obtain ⟨c0, c1, c2⟩ : _ ∧ _ ∧ _ := ⟨HC0.out.1 0 _ rfl, HC0.out.1 1 _ rfl, HC0.out.1 2 _ rfl⟩
    have hl := (hr hb).1
    rw [if_neg (by omega)] at HSz
    have HS := hid (fun B d W h => specCubicImage_ok p B n d ps x y z W h)
    have HI := hid (fun B W h => implCubicImage_ok p B n n ps x y z W h (Nat.le_refl _))
    have HF := hid (ciP_len p ps (x, y, z))
    generalize ciP p ps (x, y, z) = Y at *
    generalize ciB p ps (x, y, z) = D at *
    have hne : (D != D) = false := by simp
    have hnz : ¬ (1048576 - (n : Int) < 0) := by omega
    clear hr
    go_enter Try.func5, Try.ntmps5
    go_wp2_with fail
    refine HSz.out.mono ?_
    rintro e w0 ⟨rfl, rfl⟩
    go_wp2
    have hlo0 := hid (show w.heap.size < (w.alloc (.cells #[.int .i64 x, .int .i64 y, .int .i64 z] 44)).heap.size by simp)
    generalize w.alloc (.cells #[.int .i64 x, .int .i64 y, .int .i64 z] 44) = W at *
    go_region_held_law (fun w' => w'.cell? ⟨w.heap.size, 0, none⟩ = some (.int .i64 x) ∧ w'.cell? ⟨w.heap.size, 1, none⟩ = some (.int .i64 y) ∧ w'.cell? ⟨w.heap.size, 2, none⟩ = some (.int .i64 z)) (first | exact ⟨l0, l1, l2⟩ | exact ⟨k0, k1, k2⟩ | exact ⟨j0, j1, j2⟩ | go_keep)
      (first
        | (go_at_call 16; refine (toPointS_ok A n c ps _ (HR.out.below (below_drewN (Below.refl _ _) 1)) hb).mono ?_; rintro e w1 ⟨rfl, o1, b1⟩; obtain ⟨A1, cc1, e1, r1⟩ := o1.rp (by omega); injection e1 with e11 e12 e13; subst e11; rw [hl] at r1; have R1 := hid r1; have B1 := hid (below_trans (below_drewN (Below.refl _ W) 1) b1); have j0 := cell_below b1 (show W.drew.cell? _ = _ from c0); have j1 := cell_below b1 (show W.drew.cell? _ = _ from c1); have j2 := cell_below b1 (show W.drew.cell? _ = _ from c2); clear o1 b1 r1 e12 e13)
        | (go_at_call 23; refine (toPoint_ok x y z _).mono ?_; rintro e wt ⟨rfl, bt⟩; have Bt := hid (below_trans B1.out bt); have Rt := hid (R1.out.below bt); have k0 := cell_below bt j0; have k1 := cell_below bt j1; have k2 := cell_below bt j2; clear bt)
        | (go_at_call 22; refine (HS.out _ _ _ Rt.out).mono ?_; rintro e w2 ⟨v0, rfl, o2, b2⟩; have V2 := hid o2; have B2 := hid (below_trans Bt.out b2); have l0 := cell_below b2 k0; have l1 := cell_below b2 k1; have l2 := cell_below b2 k2; clear o2 b2))
    clear j0 j1 j2 k0 k1 k2 c0 c1 c2
    obtain ⟨A0, c0, rfl, _⟩ := V2.out.ri (by have := HF.out; omega)
    have HV := hid (fun k (hk : (Value.slice A0 Y.length c0).ownBlock = some k) => V2.out.lt' hk)
    go_wp2_with fail
    refine (toPointS_ok A n c ps _ (HR.out.below B2.out) hb).mono ?_
    rintro e w3 ⟨rfl, o3, b3⟩
    have B3 := hid (below_trans B2.out b3)
    have V3 := hid (V2.out.below b3)
    have X3 := hid o3
    have E3 := hid b3.size
    obtain ⟨A3, c3, e3, r3⟩ := o3.rp (by omega)
    injection e3 with e31 e32 e33
    subst e31
    rw [hl] at r3
    have R3 := hid r3
    have m0 := cell_below b3 l0
    have m1 := cell_below b3 l1
    have m2 := cell_below b3 l2
    clear o3 b3 r3 e32 e33 l0 l1 l2
    go_wp2_with fail
    refine (toPoint_ok x y z _).mono ?_
    rintro e w3' ⟨rfl, b3'⟩
    have B3' := hid (below_trans B3.out b3')
    have V3' := hid (V3.out.below b3')
    have X3' := hid (X3.out.below b3')
    have R3' := hid (R3.out.below b3')
    have E3' := hid (Nat.le_trans E3.out b3'.size)
    have l0 := cell_below b3' m0
    have l1 := cell_below b3' m1
    have l2 := cell_below b3' m2
    clear b3' m0 m1 m2
    go_wp2_with fail
    refine (HI.out _ _ R3'.out).mono ?_
    rintro e w4 ⟨v4, rfl, o4, b4⟩
    obtain ⟨AG, cG, rfl, _⟩ := o4.ri (by have := HF.out; omega)
    have B4 := hid (below_trans B3'.out b4)
    have V4 := hid (V3'.out.below b4)
    have X4 := hid (X3'.out.below b4)
    have G4 := hid o4
    have m0 := cell_below b4 l0
    have m1 := cell_below b4 l1
    have m2 := cell_below b4 l2
    clear l0 l1 l2
    clear b4 o4
    go_wp2_with fail
    refine (eqIntS_ok AG _ cG Y A0 _ c0 Y _ (G4.out.get (by have := HF.out; omega)) (V4.out.get (by have := HF.out; omega))).mono ?_
    rintro e w5 ⟨rfl, b5⟩
    rw [beq_self_eq_true]
    have B5 := hid (below_trans B4.out b5)
    have V5 := hid (V4.out.below b5)
    have X5 := hid (X4.out.below b5)
    have G5 := hid (G4.out.below b5)
    have l0 := cell_below b5 m0
    have l1 := cell_below b5 m1
    have l2 := cell_below b5 m2
    clear b5 m0 m1 m2
    have m0 := l0
    have m1 := l1
    have m2 := l2
    clear l0 l1 l2
    go_wp2_with fail
    refine (toPointS_ok A n c ps _ (HR.out.below B5.out) hb).mono ?_
    rintro e w6 ⟨rfl, o6, b6⟩
    have B6 := hid (below_trans B5.out b6)
    have V6 := hid (V5.out.below b6)
    have X6 := hid (X5.out.below b6)
    have G6 := hid (G5.out.below b6)
    obtain ⟨A6, c6, e6, r6⟩ := o6.rp (by omega)
    injection e6 with e61 e62 e63
    subst e61
    rw [hl] at r6
    have R6 := hid r6
    have l0 := cell_below b6 m0
    have l1 := cell_below b6 m1
    have l2 := cell_below b6 m2
    clear o6 b6 r6 e62 e63 m0 m1 m2
    have m0 := l0
    have m1 := l1
    have m2 := l2
    clear l0 l1 l2
    obtain ⟨AX, cX, eX, rX⟩ := X6.out.rp (by omega)
    injection eX with eX1 eX2 eX3
    subst eX1
    rw [hl] at rX
    have RX := hid rX
    clear rX eX2 eX3
    go_wp2_with fail
    refine (eqPointS_ok _ n n ps _ n n ps _ RX.out R6.out).mono ?_
    rintro e w7 ⟨rfl, b7⟩
    rw [beq_self_eq_true]
    have B7 := hid (below_trans B6.out b7)
    have V7 := hid (V6.out.below b7)
    have X7 := hid (X6.out.below b7)
    have G7 := hid (G6.out.below b7)
    have l0 := cell_below b7 m0
    have l1 := cell_below b7 m1
    have l2 := cell_below b7 m2
    clear b7 m0 m1 m2
    have m0 := l0
    have m1 := l1
    have m2 := l2
    clear l0 l1 l2
    go_wp2_with fail
    refine (markPointS_ok _ _ n n ps 1 _ X7.out (by omega) hl (by omega) (by omega)).mono ?_
    rintro e w8 ⟨rfl, o8, g8⟩
    have B8 := hid (B7.out.grown g8 B7.out.size (fun k hk => Nat.le_trans B2.out.size (own_base X7.out k hk)))
    have V8 := hid (V7.out.keptP X7.out g8)
    have G8 := hid (G7.out.keptP X7.out g8)
    have hlo := hid (Nat.lt_of_lt_of_le hlo0.out B2.out.size)
    have hk8 : ¬ 1 + (n : Int) * 3 < 0 := by omega
    have l0 := cellP X7.out g8 hlo.out m0
    have l1 := cellP X7.out g8 hlo.out m1
    have l2 := cellP X7.out g8 hlo.out m2
    clear o8 g8 m0 m1 m2
    have m0 := l0
    have m1 := l1
    have m2 := l2
    clear l0 l1 l2
    go_wp2_with fail
    refine (eqIntS_ok AG _ cG Y A0 _ c0 Y _ (G8.out.get (by have := HF.out; omega)) (V8.out.get (by have := HF.out; omega))).mono ?_
    rintro e w9 ⟨rfl, b9⟩
    rw [beq_self_eq_true]
    have B9 := hid (below_trans B8.out b9)
    have V9 := hid (V8.out.below b9)
    have G9 := hid (G8.out.below b9)
    have l0 := cell_below b9 m0
    have l1 := cell_below b9 m1
    have l2 := cell_below b9 m2
    clear b9 m0 m1 m2
    have m0 := l0
    have m1 := l1
    have m2 := l2
    clear l0 l1 l2
    go_wp2_with fail
    refine (markIntS_ok _ _ Y 1 _ G9.out (by have := HF.out; omega) (by omega) (by omega)).mono ?_
    rintro e w10 ⟨rfl, o10, g10⟩
    have B10 := hid (B9.out.grown g10 B9.out.size (fun k hk => Nat.le_trans B3'.out.size (own_base G9.out k hk)))
    have V10 := hid (V9.out.keepLo G9.out (fun k hk => Nat.lt_of_lt_of_le (HV.out k hk) E3'.out) g10)
    have M10 := hid o10
    have hlo2 := hid (Nat.lt_of_lt_of_le hlo0.out B3'.out.size)
    have hml := marksI_len 1 Y.length
    have l0 := cellI G9.out g10 hlo2.out m0
    have l1 := cellI G9.out g10 hlo2.out m1
    have l2 := cellI G9.out g10 hlo2.out m2
    clear o10 g10 m0 m1 m2
    have m0 := l0
    have m1 := l1
    have m2 := l2
    clear l0 l1 l2
    have RM := hid (M10.out.get (by rw [marksI_len]; have := HF.out; omega))
    have hk10 : ¬ 1 + (Y.length : Int) < 0 := by omega
    have hk11 : (1 + (Y.length : Int) != 1 + (Y.length : Int)) = false := by simp
    go_wp2_with fail
    refine (heldIntS_ok AG _ cG 1 _ RM.out (by have := HF.out; omega) (by omega) (by omega)).mono ?_
    rintro e w' ⟨rfl, rfl⟩
    go_wp2
    go_region_held_law (fun w' => w'.cell? ⟨w.heap.size, 0, none⟩ = some (.int .i64 x) ∧ w'.cell? ⟨w.heap.size, 1, none⟩ = some (.int .i64 y) ∧ w'.cell? ⟨w.heap.size, 2, none⟩ = some (.int .i64 z)) (first | exact ⟨l0, l1, l2⟩ | exact ⟨k0, k1, k2⟩ | exact ⟨j0, j1, j2⟩ | go_keep)
      (first
        | (go_at_call 16; refine (toPointS_ok A n c ps _ (HR.out.below (below_drewN B10.out 1)) hb).mono ?_; rintro e w11 ⟨rfl, o11, b11⟩; obtain ⟨A11, cc11, e11, r11⟩ := o11.rp (by omega); injection e11 with e111 e112 e113; subst e111; rw [hl] at r11; have R11 := hid r11; have B11 := hid (below_trans (below_drewN B10.out 1) b11); have V11 := hid (V10.out.drew'.below b11); have M11 := hid (M10.out.drew'.below b11); have j0 := cell_below b11 (show w10.drew.cell? _ = _ from m0); have j1 := cell_below b11 (show w10.drew.cell? _ = _ from m1); have j2 := cell_below b11 (show w10.drew.cell? _ = _ from m2); clear o11 b11 r11 e112 e113)
        | (go_at_call 23; refine (toPoint_ok x y z _).mono ?_; rintro e wu ⟨rfl, bu⟩; have Bu := hid (below_trans B11.out bu); have Ru := hid (R11.out.below bu); have Vu := hid (V11.out.below bu); have Mu := hid (M11.out.below bu); have k0 := cell_below bu j0; have k1 := cell_below bu j1; have k2 := cell_below bu j2; clear bu)
        | (go_at_call 24; refine (HI.out _ _ Ru.out).mono ?_; rintro e w12 ⟨v12, rfl, o12, b12⟩; have H12 := hid o12; have B12 := hid (below_trans Bu.out b12); have V12 := hid (Vu.out.below b12); have M12 := hid (Mu.out.below b12); have l0 := cell_below b12 k0; have l1 := cell_below b12 k1; have l2 := cell_below b12 k2; clear o12 b12))
    clear j0 j1 j2 k0 k1 k2 l0 l1 l2 m0 m1 m2
    obtain ⟨AH, cH, rfl, rh⟩ := H12.out.ri (by have := HF.out; omega)
    have RH := hid rh
    clear rh
    go_wp2_with fail
    refine (eqIntS_ok AH _ cH Y A0 _ c0 Y _ RH.out (V12.out.get (by have := HF.out; omega))).mono ?_
    rintro e w13 ⟨rfl, b13⟩
    rw [beq_self_eq_true]
    have B13 := hid (below_trans B12.out b13)
    have M13 := hid (M12.out.below b13)
    have RM2 := hid (M13.out.get (by rw [marksI_len]; have := HF.out; omega))
    clear b13
    go_wp2_with fail
    refine (heldIntS_ok AG _ cG 1 _ RM2.out (by have := HF.out; omega) (by omega) (by omega)).mono ?_
    rintro e w' ⟨rfl, rfl⟩
    go_wp2
    go_ret
    exact ⟨rfl, below_trans B0.out B13.out⟩
  · rw [if_pos (by omega)] at HSz
    clear hr
    go_enter Try.func5, Try.ntmps5
    go_wp2_with fail
    refine HSz.out.mono ?_
    rintro e w0 ⟨rfl, rfl⟩
    go_wp2
    go_ret
    exact ⟨rfl, B0.out⟩

end Go.Proofs.Ytkhkcgoblibnpaa
