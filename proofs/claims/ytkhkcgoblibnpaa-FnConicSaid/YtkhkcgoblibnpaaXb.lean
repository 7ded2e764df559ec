/-
  The law FnExactCubicBase.
-/
import Derived.Test.YtkhkcgoblibnpaaGn
import Derived.Test.YtkhkcgoblibnpaaMs
namespace Go.Proofs.Ytkhkcgoblibnpaa
open Go.RowKit
set_option linter.unusedVariables false
set_option linter.unusedSimpArgs false

theorem solP_rows {p : Int} {wd : Nat} (hp : isPrimeB p = true) (rows : List (List Int)) : (solP p wd rows).length ≤ wd ∧ ∀ r ∈ solP p wd rows, Rg p wd r := by
  have hw : ∀ r ∈ nlRows p wd (redP p wd rows) (hdsP p wd rows) wd, r.length = wd := fun r hr => by
    obtain ⟨c, _, rfl⟩ := List.mem_map.1 hr
    exact nlTo_len _ _ _ _ _ _
  obtain ⟨left', hI⟩ := RedI.done hp hw
  exact ⟨(redP_le hp hw).1, hI.og⟩
theorem cb_facts (p : Int) (ps : List P3) : (cbP p ps).length ≤ 10 ∧ ∀ r ∈ cbP p ps, r.length = 10 := by
  unfold cbP
  cases hg : generalB p ps
  · simp
  · obtain ⟨g1, g2, g3⟩ := general_parts hg
    have := solP_rows (wd := 10) (apart_prime g2 (by omega)) (ps.map cuI)
    exact ⟨this.1, fun r hr => (this.2 r hr).1⟩
theorem RwO.keptP {w w' : World} {base b : Nat} {v u : Value} {rs : List Rw} {ps : List P3} (h : RwO w base v rs) (ho : OP w b u ps) (hg : w.grownBy w' u.ownBlock) : RwO w' base v rs :=
  World.ownsRow.kept h hg (own_ne ho h (by decide))
theorem RwIn.keptP {w w' : World} {base b : Nat} {u : Value} {rs : List Rw} {ps : List P3} (h : RwIn w base rs) (ho : OP w b u ps) (hg : w.grownBy w' u.ownBlock) : RwIn w' base rs :=
  h.kept hg fun r hr e => by
    rcases own_ne ho (h.own r hr) (by decide) with h1 | h1
    · cases h1
    · exact h1 (by rw [rwV_block]; exact e.symm)

set_option maxRecDepth 100000 in
set_option maxHeartbeats 8000000 in
theorem FnExactCubicBase_ok (p : Int) (A : Option Addr) (n c : Nat) (ps : List P3) (w : World) (hp : (Lit.int .i64 p).wf = true) (hn64 : n ≤ 9223372036854775807) (hr : n ≤ 1048576 → RP w A n ps) :
    Calls Try.prog 4 #[.int .i64 p, .slice A n c] w fun e w' => e = .returned (.bool true) ∧ Below w.heap.size w w' := by
  have HSz := hid (szPointS_ok A n c w hn64)
  clear hp
  by_cases hb : n ≤ 1048576
  · have HR := hid (hr hb)
    have hl := (hr hb).1
    rw [if_neg (by omega)] at HSz
    have HS := hid (fun B d W h => specCubicBase_ok p B n d ps W h)
    have HI := hid (fun B W h => implCubicBase_ok p B n n ps W h (Nat.le_refl _))
    have HF := hid (cb_facts p ps)
    generalize cbP p ps = Y at *
    generalize generalB p ps = D at *
    have hne : (D != D) = false := by simp
    have hnz : ¬ (1048576 - (n : Int) < 0) := by omega
    have HRR := hid (fun (W : World) (b1 b2 : Nat) (v : Value) (rs : List Rw) (h1 : RwO W b1 v rs) (h2 : RwIn W b2 rs) (h3 : rs.map (·.xs) = Y) =>
      (show ∃ A' c', v = .slice A' Y.length c' ∧ RRI W A' Y.length Y by
        have hrl : rs.length = Y.length := by rw [← h3, List.length_map]
        obtain ⟨A', c', e, h⟩ := RRI_of h1 h2 (by have := HF.out.1; omega) (fun r hr => by
          have := HF.out.2 r.xs (by rw [← h3]; exact List.mem_map.2 ⟨r, hr, rfl⟩)
          omega)
        rw [h3, hrl] at h
        exact ⟨A', c', by rw [e, hrl], h⟩))
    have HRS := hid (fun (W : World) (b1 b2 : Nat) (v : Value) (rs : List Rw) (h1 : RwO W b1 v rs) (h2 : RwS W b2 rs) (h3 : rs.map (·.xs) = Y) =>
      (show ∃ A' c', v = .slice A' Y.length c' ∧ RRI W A' Y.length Y by
        have hrl : rs.length = Y.length := by rw [← h3, List.length_map]
        obtain ⟨A', c', e, h⟩ := RRI_ofS h1 h2 (by have := HF.out.1; omega) (fun r hr => by
          have := HF.out.2 r.xs (by rw [← h3]; exact List.mem_map.2 ⟨r, hr, rfl⟩)
          omega)
        rw [h3, hrl] at h
        exact ⟨A', c', by rw [e, hrl], h⟩))
    clear hr
    go_enter Try.func4, Try.ntmps4
    go_wp2_with fail
    refine HSz.out.mono ?_
    rintro e w0 ⟨rfl, rfl⟩
    go_wp2_with fail
    refine (toPointS_ok A n c ps _ HR.out hb).mono ?_
    rintro e w1 ⟨rfl, o1, b1⟩
    obtain ⟨A1, c1, e1, r1⟩ := o1.rp (by omega)
    injection e1 with e11 e12 e13
    subst e11
    rw [hl] at r1
    have R1 := hid r1
    have B1 := hid b1
    clear o1 b1 r1 e12 e13
    go_wp2_with fail
    refine (HS.out _ _ _ R1.out).mono ?_
    rintro e w2 ⟨v0, r0, rfl, o2, s2, m2, b2⟩
    obtain ⟨A0, c0, rfl, rr2⟩ := HRS.out _ _ _ _ _ o2 s2 m2
    have V2 := hid rr2
    have B2 := hid (below_trans B1.out b2)
    clear b2 o2 s2 m2 rr2
    go_wp2_with fail
    refine (toPointS_ok A n c ps _ (HR.out.below B2.out) hb).mono ?_
    rintro e w3 ⟨rfl, o3, b3⟩
    have B3 := hid (below_trans B2.out b3)
    have D3 := hid b3
    have X3 := hid o3
    obtain ⟨A3, c3, e3, r3⟩ := o3.rp (by omega)
    injection e3 with e31 e32 e33
    subst e31
    rw [hl] at r3
    have R3 := hid r3
    clear o3 b3 r3 e32 e33
    go_wp2_with fail
    refine (HI.out _ _ R3.out).mono ?_
    rintro e w4 ⟨v4, r4, rfl, o4, s4, m4, b4⟩
    obtain ⟨AG, cG, rfl, rr4⟩ := HRR.out _ _ _ _ _ o4 s4 m4
    have HrL := hid (show r4.length = Y.length by rw [← m4, List.length_map])
    have E4 := hid b4.size
    have B4 := hid (below_trans B3.out b4)
    have D4 := hid (below_trans D3.out b4)
    have X4 := hid (X3.out.below b4)
    have G4 := hid o4
    have S4 := hid s4
    have M4 := hid m4
    have RG4 := hid rr4
    have V4 := hid (V2.out.below D4.out)
    clear b4 o4 s4 m4 rr4
    go_wp2_with fail
    refine (eqIntSS_ok AG A0 _ cG c0 Y _ RG4.out V4.out).mono ?_
    rintro e w5 ⟨rfl, b5⟩
    have E5 := hid (Nat.le_trans E4.out b5.size)
    have B5 := hid (below_trans B4.out b5)
    have D5 := hid (below_trans D4.out b5)
    have X5 := hid (X4.out.below b5)
    have G5 := hid (G4.out.below b5)
    have S5 := hid (S4.out.below b5)
    clear b5
    go_wp2_with fail
    refine (toPointS_ok A n c ps _ (HR.out.below B5.out) hb).mono ?_
    rintro e w6 ⟨rfl, o6, b6⟩
    have E6 := hid (Nat.le_trans E5.out b6.size)
    have B6 := hid (below_trans B5.out b6)
    have D6 := hid (below_trans D5.out b6)
    have X6 := hid (X5.out.below b6)
    have G6 := hid (G5.out.below b6)
    have S6 := hid (S5.out.below b6)
    obtain ⟨A6, c6, e6, r6⟩ := o6.rp (by omega)
    injection e6 with e61 e62 e63
    subst e61
    rw [hl] at r6
    have R6 := hid r6
    clear o6 b6 r6 e62 e63
    obtain ⟨AX, cX, eX, rX⟩ := X6.out.rp (by omega)
    injection eX with eX1 eX2 eX3
    subst eX1
    rw [hl] at rX
    have RX := hid rX
    clear rX eX2 eX3
    go_wp2_with fail
    refine (eqPointS_ok _ n n ps _ n n ps _ RX.out R6.out).mono ?_
    rintro e w7 ⟨rfl, b7⟩
    rw [beq_self_eq_true]
    have E7 := hid (Nat.le_trans E6.out b7.size)
    have B7 := hid (below_trans B6.out b7)
    have D7 := hid (below_trans D6.out b7)
    have X7 := hid (X6.out.below b7)
    have G7 := hid (G6.out.below b7)
    have S7 := hid (S6.out.below b7)
    clear b7
    go_wp2_with fail
    refine (markPointS_ok _ _ n n ps 1 _ X7.out (by omega) hl (by omega) (by omega)).mono ?_
    rintro e w8 ⟨rfl, o8, g8⟩
    have E8 := hid (Nat.le_trans E7.out g8.size)
    have B8 := hid (B7.out.grown g8 B7.out.size (fun k hk => Nat.le_trans B2.out.size (own_base X7.out k hk)))
    have D8 := hid (D7.out.grown g8 D7.out.size (own_base X7.out))
    have G8 := hid (G7.out.keptP X7.out g8)
    have S8 := hid (S7.out.keptP X7.out g8)
    have hk8 : ¬ 1 + (n : Int) * 3 < 0 := by omega
    clear o8 g8
    have V8 := hid (V2.out.below D8.out)
    obtain ⟨_, _, e8, rr8⟩ := HRR.out _ _ _ _ _ G8.out S8.out M4.out
    injection e8 with e81 e82 e83
    subst e81
    have RG8 := hid rr8
    clear rr8 e82 e83
    go_wp2_with fail
    refine (eqIntSS_ok AG A0 _ cG c0 Y _ RG8.out V8.out).mono ?_
    rintro e w9 ⟨rfl, b9⟩
    have E39 := hid (Nat.le_trans E8.out b9.size)
    have B9 := hid (below_trans B8.out b9)
    have D9 := hid (below_trans D8.out b9)
    have G9 := hid (G8.out.below b9)
    have S9 := hid (S8.out.below b9)
    clear b9
    have HMk := hid (markIntSS_ok w3.heap.size _ r4 1 w9 G9.out S9.out (fun r hr => HF.out.2 r.xs (by rw [← M4.out]; exact List.mem_map.2 ⟨r, hr, rfl⟩)) (by have := HrL.out; have := HF.out.1; omega) (by omega) (by omega) E39.out)
    go_wp2_with fail
    refine HMk.out.mono ?_
    rintro e w10 ⟨rfl, ⟨A10, c10, e10, rr10⟩, b10⟩
    injection e10 with e101 e102 e103
    subst e101
    rw [HrL.out] at rr10
    have B10 := hid (B9.out.trans (b10.mono B3.out.size))
    have D10 := hid (D9.out.trans (b10.mono D3.out.size))
    have RM := hid rr10
    have HY := hid HF.out.1
    have hk10 : ¬ 1 + 10 * (r4.length : Int) < 0 := by omega
    rw [HrL.out] at hk10
    rw [HrL.out]
    have hk11 : (1 + 10 * (Y.length : Int) != 1 + 10 * (Y.length : Int)) = false := by simp
    clear rr10 b10 e102 e103
    go_wp2_with fail
    refine (heldIntSS_ok _ _ cG 1 _ RM.out (by omega) (by omega)).mono ?_
    rintro e w' ⟨rfl, rfl⟩
    go_wp2_with fail
    refine (toPointS_ok A n c ps _ (HR.out.below B10.out) hb).mono ?_
    rintro e w11 ⟨rfl, o11, b11⟩
    have B11 := hid (below_trans B10.out b11)
    have D11 := hid (below_trans D10.out b11)
    have RM11 := hid (RM.out.below b11)
    obtain ⟨A11, c11, e11, r11⟩ := o11.rp (by omega)
    injection e11 with e111 e112 e113
    subst e111
    rw [hl] at r11
    have R11 := hid r11
    clear o11 b11 r11 e112 e113
    go_wp2_with fail
    refine (HI.out _ _ R11.out).mono ?_
    rintro e w12 ⟨v12, r12, rfl, o12, s12, m12, b12⟩
    obtain ⟨AH, cH, rfl, rr12⟩ := HRR.out _ _ _ _ _ o12 s12 m12
    have B12 := hid (below_trans B11.out b12)
    have D12 := hid (below_trans D11.out b12)
    have RM12 := hid (RM11.out.below b12)
    have RH := hid rr12
    have V12 := hid (V2.out.below D12.out)
    clear b12 o12 s12 m12 rr12
    go_wp2_with fail
    refine (eqIntSS_ok AH A0 _ cH c0 Y _ RH.out V12.out).mono ?_
    rintro e w13 ⟨rfl, b13⟩
    have B13 := hid (below_trans B12.out b13)
    have RM13 := hid (RM12.out.below b13)
    clear b13
    go_wp2_with fail
    refine (heldIntSS_ok _ _ cG 1 _ RM13.out (by omega) (by omega)).mono ?_
    rintro e w' ⟨rfl, rfl⟩
    go_wp2
    go_ret
    exact ⟨rfl, B13.out⟩
  · rw [if_pos (by omega)] at HSz
    clear hr
    go_enter Try.func4, Try.ntmps4
    go_wp2_with fail
    refine HSz.out.mono ?_
    rintro e w0 ⟨rfl, rfl⟩
    go_wp2
    go_ret
    exact ⟨rfl, Below.refl _ _⟩

end Go.Proofs.Ytkhkcgoblibnpaa
