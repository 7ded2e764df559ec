/-
  The law of the places of space.
-/
import Derived.Test.YtfjfepcklggdcaaG
import Derived.Test.YtfjfepcklggdcaaDr
namespace Go.Proofs.Ytfjfepcklggdcaa
open Go.RowKit
set_option linter.unusedVariables false
set_option linter.unusedSimpArgs false

set_option maxHeartbeats 1000000 in
theorem specPlaceIn_ok (p : Int) (A : Option Addr) (n c : Nat) (xs : List Int) (w : World) (hr : RI w A n xs) :
    Calls Try.prog 32 #[.int .i64 p, .slice A n c] w fun e w' => e = .returned (.bool (specPlaceB p xs)) ∧ Below w.heap.size w w' := by
  have HR := hid hr
  obtain ⟨hl, hn, b, off, hA, hc⟩ := hr
  cases hp : isPrimeB p
  · have HP := hid hp
    clear hp
    go_enter Try.func32, Try.ntmps32
    go_wp2_with (go_at_call 15; refine (specPrimeIn_ok p _).mono ?_; rintro e w' ⟨rfl, rfl⟩; rw [HP.out])
    go_ret
    exact ⟨by rw [specPlaceB, HP.out]; rfl, Below.refl _ _⟩
  · have HP := hid hp
    have hbd := isPrimeB_bd hp
    clear hp
    by_cases h4 : n = 4
    · subst h4
      have HC := hid hc
      obtain rfl : A = some ⟨b, off, none⟩ := by rcases hA with h | h; omega; exact h
      clear hc hA
      go_enter Try.func32, Try.ntmps32
      go_wp2_with (go_at_call 15; refine (specPrimeIn_ok p _).mono ?_; rintro e w' ⟨rfl, rfl⟩; rw [HP.out])
      go_loop [5] (fun t => ∃ k : Nat, k ≤ 4 ∧ t = .int .i64 k ∧ xs.all (inP p) = (xs.drop k).all (inP p)) (fun t => 4 - (intOf t).toNat)
      case atStart => exact ⟨0, by omega, rfl, rfl⟩
      case round =>
        obtain ⟨k, hk, rfl, hf⟩ := hrel
        have HF := hid hf
        clear hf
        by_cases hlt : k < 4
        · have hcx := HC.out k hlt
          have HY := hid (@all_drop_yes (inP p) xs k (by omega))
          have HN := hid (@all_drop_no (inP p) xs k (by omega))
          generalize hy : xs.getD k 0 = u at *
          clear hy
          have HIn := hid (l6In_ok u 0 (p - 1) w)
          cases hq : inP p u
          · have HQ := hid hq
            clear hq
            go_wp2_with (go_at_call 45; refine (HIn.out).mono ?_; rintro e w' ⟨rfl, rfl⟩; rw [show inB u 0 (p - 1) = false from HQ.out])
            go_ret
            exact ⟨by rw [specPlaceB, HF.out, HN.out HQ.out, HP.out, hl]; rfl, Below.refl _ _⟩
          · have HQ := hid hq
            clear hq
            go_wp2_with (go_at_call 45; refine (HIn.out).mono ?_; rintro e w' ⟨rfl, rfl⟩; rw [show inB u 0 (p - 1) = true from HQ.out])
            go_round
            case rel => exact ⟨k + 1, by omega, by go_num, by rw [HF.out, HY.out HQ.out]⟩
            case measure => simp [intOf]; omega
        · have hall : xs.all (inP p) = true := by rw [HF.out, List.drop_eq_nil_of_le (by omega)]; rfl
          have HX := hid (all_inP_bd hall)
          have HB := hid (show specPlaceB p xs = placeTailB p xs by rw [specPlaceB, hall, HP.out, hl]; rfl)
          have HT := hid (show placeTailB p xs = ((((!zeroB xs && ((rowS p xs).getD 0 0 == xs.getD 0 0)) && ((rowS p xs).getD 1 0 == xs.getD 1 0)) && ((rowS p xs).getD 2 0 == xs.getD 2 0)) && ((rowS p xs).getD 3 0 == xs.getD 3 0)) from rfl)
          have HW := hid (l4Row_ok p _ 4 c xs _ (by omega) (by omega) HR.out (fun q hq => by have := HX.out q hq; omega))
          have hlen : (rowS p xs).length = 4 := (rowS_length p xs).trans hl
          generalize rowS p xs = row at *
          have HL := hid hlen
          clear hall hlen HF
          go_wp2_with (go_at_call 53; refine (HW.out).mono ?_; rintro e w1 ⟨v, rfl, hown, hb⟩; have HO := hid hown; have HBl := hid hb; clear hown hb)
          have hlt3 : 0 < row.length := by have := HL.out; omega
          obtain ⟨g, cap, hv, hg, hglt, hcell⟩ := HO.out.shape hlt3
          rw [HL.out] at hv
          subst hv
          have c0 := hcell 0 (by have := HL.out; omega)
          have c1 := hcell 1 (by have := HL.out; omega)
          have c2 := hcell 2 (by have := HL.out; omega)
          have c3 := hcell 3 (by have := HL.out; omega)
          have b0 : w1.cell? ⟨b, off, none⟩ = some (.int .i64 (xs.getD 0 0)) := cell_below HBl.out (HC.out 0 (by omega))
          have b1 : w1.cell? ⟨b, off + 1, none⟩ = some (.int .i64 (xs.getD 1 0)) := cell_below HBl.out (HC.out 1 (by omega))
          have b2 : w1.cell? ⟨b, off + 2, none⟩ = some (.int .i64 (xs.getD 2 0)) := cell_below HBl.out (HC.out 2 (by omega))
          have b3 : w1.cell? ⟨b, off + 3, none⟩ = some (.int .i64 (xs.getD 3 0)) := cell_below HBl.out (HC.out 3 (by omega))
          have HRI := hid (HR.out.below HBl.out)
          have HZ := hid (fun W hW => l4Zero_ok (some ⟨b, off, none⟩) 4 c xs W hW)
          clear hcell hlt3 HW HX HC HR
          generalize row.getD 0 0 = r0 at *
          generalize row.getD 1 0 = r1 at *
          generalize row.getD 2 0 = r2 at *
          generalize row.getD 3 0 = r3 at *
          generalize xs.getD 0 0 = x0 at *
          generalize xs.getD 1 0 = x1 at *
          generalize xs.getD 2 0 = x2 at *
          generalize xs.getD 3 0 = x3 at *
          cases hz : zeroB xs
          · rw [hz] at HZ HT
            cases hq0 : (r0 == x0)
            · have HQ0 := hid hq0
              go_quiet ((go_at_call 54; exact quiet_same (HZ.out _ (HRI.out.drewN _))))
              go_wp2
              go_ret
              exact ⟨by rw [HB.out, HT.out, HQ0.out]; rfl, below_drewN HBl.out _⟩
            · cases hq1 : (r1 == x1)
              · have HQ0 := hid hq0
                have HQ1 := hid hq1
                go_quiet ((go_at_call 54; exact quiet_same (HZ.out _ (HRI.out.drewN _))))
                go_wp2
                go_ret
                exact ⟨by rw [HB.out, HT.out, HQ0.out, HQ1.out]; rfl, below_drewN HBl.out _⟩
              · cases hq2 : (r2 == x2)
                · have HQ0 := hid hq0
                  have HQ1 := hid hq1
                  have HQ2 := hid hq2
                  go_quiet ((go_at_call 54; exact quiet_same (HZ.out _ (HRI.out.drewN _))))
                  go_wp2
                  go_ret
                  exact ⟨by rw [HB.out, HT.out, HQ0.out, HQ1.out, HQ2.out]; rfl, below_drewN HBl.out _⟩
                · have HQ0 := hid hq0
                  have HQ1 := hid hq1
                  have HQ2 := hid hq2
                  go_quiet ((go_at_call 54; exact quiet_same (HZ.out _ (HRI.out.drewN _))))
                  go_wp2
                  go_ret
                  exact ⟨by rw [HB.out, HT.out, HQ0.out, HQ1.out, HQ2.out]; rfl, below_drewN HBl.out _⟩
          · rw [hz] at HZ HT
            go_quiet ((go_at_call 54; exact quiet_same (HZ.out _ (HRI.out.drewN _))))
            go_wp2
            go_ret
            exact ⟨by rw [HB.out, HT.out]; rfl, below_drewN HBl.out _⟩
    · have hne : ((n : Int) != 4) = true := by simp; omega
      have HS := hid (show specPlaceB p xs = false by rw [specPlaceB, hl, show decide ((n : Int) = 4) = false by simp; omega]; simp)
      go_enter Try.func32, Try.ntmps32
      go_wp2_with (go_at_call 15; refine (specPrimeIn_ok p _).mono ?_; rintro e w' ⟨rfl, rfl⟩; rw [HP.out])
      go_ret
      exact ⟨by rw [HS.out]; rfl, Below.refl _ _⟩

theorem FnExactPlaceIn_ok (p : Int) (A : Option Addr) (n c : Nat) (xs : List Int) (w : World) (hp : (Lit.int .i64 p).wf = true) (hr : n ≤ 1048576 → RI w A n xs) :
    Calls Try.prog 9 #[.int .i64 p, .slice A n c] w fun e w' => e = .returned (.bool true) ∧ Below w.heap.size w w' := by
  by_cases hb : n ≤ 1048576
  · have HR := hid (hr hb)
    clear hr
    have HE := hid (places_alike p xs)
    go_enter Try.func9, Try.ntmps9
    go_wp2_with fail
    refine (toIntS_ri A n c xs _ HR.out).mono ?_
    rintro e w1 ⟨A1, c1, rfl, r1, b1⟩
    have R1 := hid r1
    have B1 := hid b1
    have HR1 := hid (HR.out.below b1)
    clear r1 b1
    go_wp2_with fail
    refine (specPlaceIn_ok p A1 n c1 xs _ R1.out).mono ?_
    rintro e w1' ⟨rfl, b1'⟩
    have B1' := hid (below_trans B1.out b1')
    have HR1' := hid (HR1.out.below b1')
    clear b1'
    go_wp2_with fail
    refine (toIntS_ri A n c xs _ HR1'.out).mono ?_
    rintro e w2 ⟨A2, c2, rfl, r2, b2⟩
    have R2 := hid r2
    have B2 := hid (below_trans B1'.out b2)
    have HR2 := hid (HR1'.out.below b2)
    clear r2 b2
    go_wp2_with fail
    refine (implPlaceIn_ok p A2 n c2 xs _ R2.out).mono ?_
    rintro e w3 ⟨rfl, b3⟩
    have R3 := hid (R2.out.below b3)
    have B3 := hid (below_trans B2.out b3)
    have HR3 := hid (HR2.out.below b3)
    clear b3
    rw [HE.out]
    go_wp2_with fail
    refine (toIntS_ri A n c xs _ HR3.out).mono ?_
    rintro e w4 ⟨A4, c4, rfl, r4, b4⟩
    have R4 := hid r4
    have B4 := hid (below_trans B3.out b4)
    have R34 := hid (R3.out.below b4)
    clear r4 b4
    go_wp2_with fail
    refine (eqIntS_ok A2 n c2 xs A4 n c4 xs _ R34.out R4.out).mono ?_
    rintro e w5 ⟨rfl, b5⟩
    have B5 := hid (below_trans B4.out b5)
    clear b5
    rw [beq_self_eq_true]
    go_wp2
    go_ret
    exact ⟨rfl, B5.out⟩
  · clear hr
    go_enter Try.func9, Try.ntmps9
    go_wp2
    go_ret
    exact ⟨rfl, Below.refl _ _⟩

theorem FnPlace_ok (A : Option Addr) (n c : Nat) (xs : List Int) (w : World) (hr : n ≤ 1048576 → RB w A n c xs) :
    Calls Try.prog 12 #[.slice A n c] w fun e w' => e = .returned (.bool true) ∧ Below w.heap.size w w' := by
  by_cases hb : n ≤ 1048576
  · have HR := hid (hr hb)
    clear hr
    go_enter Try.func12, Try.ntmps12
    go_wp2_with fail
    refine (DrawPlaceIn_ok A n c xs w HR.out).mono ?_
    rintro e w1 ⟨p, A1, n1, c1, ys, rfl, hp0, hp1, r1, b1⟩
    have B1 := hid b1
    have R1 := hid r1
    clear b1 r1
    go_wp2_with fail
    refine (implPlaceIn_ok p A1 n1 c1 ys _ R1.out).mono ?_
    rintro e w2 ⟨rfl, b2⟩
    have B2 := hid (below_trans B1.out b2)
    have R2 := hid (R1.out.below b2)
    clear b2
    go_wp2_with fail
    refine (specPlaceIn_ok p A1 n1 c1 ys _ R2.out).mono ?_
    rintro e w3 ⟨rfl, b3⟩
    have B3 := hid (below_trans B2.out b3)
    have R3 := hid (R2.out.below b3)
    clear b3
    rw [places_alike]
    cases hp : specPlaceB p ys
    · clear hp
      go_wp2
      go_ret
      exact ⟨rfl, B3.out⟩
    · have hm := specPlaceB_monic hp
      have HM := hid (show (decide (idxB (fun x => x != 0) ys 0 ≥ 0) && (ys.getD (idxB (fun x => x != 0) ys 0).toNat 0 == 1)) = true from hm.2)
      clear hp
      obtain ⟨hl, hn, b, off, hA, hc⟩ := R3.out
      have hn4 : n1 = 4 := by omega
      subst hn4
      obtain rfl : A1 = some ⟨b, off, none⟩ := by rcases hA with h | h; omega; exact h
      have HC := hid hc
      clear hc hA hm
      go_wp2
      go_loop [7] (fun t => ∃ k : Nat, k ≤ 4 ∧ t = .int .i64 k ∧ idxB (fun x => x != 0) ys 0 = idxB (fun x => x != 0) (ys.drop k) k) (fun t => 4 - (intOf t).toNat)
      case atStart => exact ⟨0, by omega, rfl, rfl⟩
      case round =>
        obtain ⟨k, hk, rfl, hf⟩ := hrel
        have HF := hid hf
        clear hf
        by_cases hlt : k < 4
        · have hcx := HC.out k hlt
          have HY := hid (@idxB_drop_yes (fun x => x != 0) ys k (by omega))
          have HN := hid (@idxB_drop_no (fun x => x != 0) ys k (by omega))
          have HYK := hid (show ∀ y, ys.getD k 0 = y → idxB (fun x => x != 0) ys 0 = k → (y == 1) = true from fun y hy hi => by
            have := HM.out
            rw [hi] at this
            subst hy
            simpa using this)
          generalize hy : ys.getD k 0 = y at *
          have HYK2 := hid (HYK.out y rfl)
          clear hy HYK
          cases hq : (y != 0)
          · have HQ := hid hq
            have hq2 : (y == 0) = true := by simpa using hq
            go_wp2
            go_round
            case rel => exact ⟨k + 1, by omega, by go_num, by rw [HF.out, HN.out HQ.out]⟩
            case measure => simp [intOf]; omega
          · have HQ := hid hq
            have HE := hid (HYK2.out (by rw [HF.out, HY.out HQ.out]))
            go_wp2
            go_ret
            exact ⟨by rw [HE.out]; rfl, B3.out⟩
        · exfalso
          have h1 := HM.out
          rw [HF.out, List.drop_eq_nil_of_le (by omega)] at h1
          simp [idxB] at h1
  · clear hr
    go_enter Try.func12, Try.ntmps12
    go_wp2
    go_ret
    exact ⟨rfl, Below.refl _ _⟩

end Go.Proofs.Ytfjfepcklggdcaa
