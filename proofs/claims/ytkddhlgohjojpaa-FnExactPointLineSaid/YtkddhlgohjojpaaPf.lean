/-
  Contracts: the point of three numbers, the program's.
-/
import Derived.Test.YtkddhlgohjojpaaMn
import Derived.Handy
namespace Go.Proofs.Ytkddhlgohjojpaa
open Go.RowKit
set_option linter.unusedVariables false
set_option linter.unusedSimpArgs false

def mn2 (a b : Int) : Int := if b < a then b else a
theorem ret_int {a b : Int} (h : a = b) : Ending.returned (.int .i64 a) = .returned (.int .i64 b) := by rw [h]
def inLow (x : Int) : Bool := decide (-1000 ≤ x)
def inHigh (x : Int) : Bool := decide (x ≤ 1000)
def mx2 (a b : Int) : Int := if a < b then b else a

set_option maxRecDepth 100000 in
theorem Min3_ok (A : Option Addr) (c : Nat) (x y z : Int) (w : World) (hr : RI w A 3 [x, y, z]) :
    Calls Try.prog 49 #[.slice A 3 c] w fun e w' => e = .returned (.int .i64 (mn2 (mn2 x y) z)) ∧ w = w' := by
  obtain ⟨_, _, b, off, hA, hc⟩ := hr
  obtain rfl : A = some ⟨b, off, none⟩ := by rcases hA with h | h; omega; exact h
  have c0 : w.cell? ⟨b, off, none⟩ = some (.int .i64 x) := hc 0 (by omega)
  have c1 : w.cell? ⟨b, off + 1, none⟩ = some (.int .i64 y) := hc 1 (by omega)
  have c2 : w.cell? ⟨b, off + 2, none⟩ = some (.int .i64 z) := hc 2 (by omega)
  clear hc hA
  go_enter Try.func49, Try.ntmps49
  go_wp2
  go_rounds 3
  all_goals
    go_ret
    refine ⟨ret_int ?_, rfl⟩
    unfold mn2
    repeat' split
    all_goals omega

set_option maxRecDepth 100000 in
theorem Max3_ok (A : Option Addr) (c : Nat) (x y z : Int) (w : World) (hr : RI w A 3 [x, y, z]) :
    Calls Try.prog 50 #[.slice A 3 c] w fun e w' => e = .returned (.int .i64 (mx2 (mx2 x y) z)) ∧ w = w' := by
  obtain ⟨_, _, b, off, hA, hc⟩ := hr
  obtain rfl : A = some ⟨b, off, none⟩ := by rcases hA with h | h; omega; exact h
  have c0 : w.cell? ⟨b, off, none⟩ = some (.int .i64 x) := hc 0 (by omega)
  have c1 : w.cell? ⟨b, off + 1, none⟩ = some (.int .i64 y) := hc 1 (by omega)
  have c2 : w.cell? ⟨b, off + 2, none⟩ = some (.int .i64 z) := hc 2 (by omega)
  clear hc hA
  go_enter Try.func50, Try.ntmps50
  go_wp2
  go_rounds 3
  all_goals
    go_ret
    refine ⟨ret_int ?_, rfl⟩
    unfold mx2
    repeat' split
    all_goals omega

theorem min_low (x y z : Int) : decide (mn2 (mn2 x y) z < -1000) = !(inLow x && inLow y && inLow z) := by
  unfold mn2 inLow
  by_cases h1 : -1000 ≤ x <;> by_cases h2 : -1000 ≤ y <;> by_cases h3 : -1000 ≤ z <;> simp [h1, h2, h3] <;> (repeat' split) <;> omega
theorem max_high (x y z : Int) : decide (1000 < mx2 (mx2 x y) z) = !(inHigh x && inHigh y && inHigh z) := by
  unfold mx2 inHigh
  by_cases h1 : x ≤ 1000 <;> by_cases h2 : y ≤ 1000 <;> by_cases h3 : z ≤ 1000 <;> simp [h1, h2, h3] <;> (repeat' split) <;> omega

set_option maxRecDepth 100000 in
set_option maxHeartbeats 4000000 in
theorem implPointOf_ok (p x y z : Int) (w : World) :
    Calls Try.prog 18 #[.int .i64 p, .int .i64 x, .int .i64 y, .int .i64 z] w fun e w' => e = .returned (.tuple #[ptVal (pofV p x y z), .bool (pofB p x y z)]) ∧ Below w.heap.size w w' := by
  have HB := hid (show pofB p x y z = ((((isPrimeB p && inB x (-1000) 1000) && inB y (-1000) 1000) && inB z (-1000) 1000) && !zeroB [x % p, y % p, z % p]) from rfl)
  have HV := hid (show pofV p x y z = if pofB p x y z then ptRow p [x % p, y % p, z % p] else (0, 0, 0) from rfl)
  have I0 := hid ((IBox.new w 0 0 0).below (below_alloc _ (.cells #[.int .i64 x, .int .i64 y, .int .i64 z] 3)))
  have R0 := hid (RI_at (w.alloc (.cells #[.int .i64 0, .int .i64 0, .int .i64 0] 31)) (w.heap.size + 1) (by simp) [x, y, z] #[.int .i64 x, .int .i64 y, .int .i64 z] 3 3 rfl rfl (by omega))
  have B0 := hid (below_trans (below_alloc w (.cells #[.int .i64 0, .int .i64 0, .int .i64 0] 31)) (below_alloc _ (.cells #[.int .i64 x, .int .i64 y, .int .i64 z] 3)))
  cases hp : isPrimeB p
  · have HP := hid hp
    have HF := hid (show pofB p x y z = false by rw [HB.out, hp]; rfl)
    have HFv := hid (show pofV p x y z = (0, 0, 0) by rw [HV.out, HF.out]; rfl)
    rw [HF.out, HFv.out]
    clear hp
    go_enter Try.func18, Try.ntmps18
    go_wp2_with fail
    refine (isPrime_ok p _).mono ?_
    rintro e w1 ⟨rfl, hb⟩
    rw [HP.out]
    have I1 := hid (I0.out.below hb)
    have B1 := hid (below_trans B0.out hb)
    have I2 := hid (I1.out.put 0 0 0)
    have B2 := hid (below_put B1.out (Nat.le_refl _) (.int .i64 0) (.int .i64 0) (.int .i64 0))
    obtain ⟨b0, b1, b2, f0, f1, f2⟩ := I1.out.cells
    obtain ⟨u0, u1, u2, _⟩ := I2.out.cells
    clear hb
    go_wp2
    refine bodyPost_ret (v := .tuple #[ptVal (0, 0, 0), .bool false]) (by simp [results, Try.results18, go_sem, ptVal, u0, u1, u2]) rfl ⟨rfl, ?_⟩
    with_reducible exact B2.out
  · have HP := hid hp
    have hbp := isPrimeB_bd hp
    have HMin := hid (fun W h => Min3_ok (some ⟨w.heap.size + 1, 0, none⟩) 3 x y z W h)
    have HMax := hid (fun W h => Max3_ok (some ⟨w.heap.size + 1, 0, none⟩) 3 x y z W h)
    have hlo := min_low x y z
    have hhi := max_high x y z
    have HIn := hid (show ((inB x (-1000) 1000 && inB y (-1000) 1000) && inB z (-1000) 1000) = ((inLow x && inLow y && inLow z) && (inHigh x && inHigh y && inHigh z)) by simp only [inB, inLow, inHigh]; ac_rfl)
    have HB2 := hid (show pofB p x y z = (((inLow x && inLow y && inLow z) && (inHigh x && inHigh y && inHigh z)) && !zeroB [x % p, y % p, z % p]) by rw [HB.out, hp, Bool.true_and, HIn.out])
    have HPb := hid (fun (W : World) (h : RI W (some ⟨w.heap.size + 1, 0, none⟩) 3 [x, y, z]) (hx : ∀ q ∈ [x, y, z], -1000000000000 ≤ q ∧ q ≤ 1000000000000) => pointBy_ok p (some ⟨w.heap.size + 1, 0, none⟩) 3 [x, y, z] W hp h hx)
    have HL := hid (show (inLow x && inLow y && inLow z) = true → -1000 ≤ x ∧ -1000 ≤ y ∧ -1000 ≤ z by simp [inLow]; omega)
    have HH := hid (show (inHigh x && inHigh y && inHigh z) = true → x ≤ 1000 ∧ y ≤ 1000 ∧ z ≤ 1000 by simp [inHigh]; omega)
    generalize mn2 (mn2 x y) z = mn at *
    generalize mx2 (mx2 x y) z = mx at *
    clear hp
    cases hl : (inLow x && inLow y && inLow z)
    · have HF := hid (show pofB p x y z = false by rw [HB2.out, hl]; rfl)
      have HFv := hid (show pofV p x y z = (0, 0, 0) by rw [HV.out, HF.out]; rfl)
      rw [HF.out, HFv.out]
      rw [hl] at hlo
      have hlo2 : decide (mn < -1000) = true := hlo
      clear hl hhi hlo
      go_enter Try.func18, Try.ntmps18
      go_wp2_with fail
      refine (isPrime_ok p _).mono ?_
      rintro e w1 ⟨rfl, hb⟩
      rw [HP.out]
      have I1 := hid (I0.out.below hb)
      have B1 := hid (below_trans B0.out hb)
      have R1 := hid (R0.out.below hb)
      clear hb
      go_wp2_with fail
      refine (HMin.out _ R1.out).mono ?_
      rintro e w2 ⟨rfl, hw2⟩
      subst hw2
      have I2 := hid (I1.out.put 0 0 0)
      have B2 := hid (below_put B1.out (Nat.le_refl _) (.int .i64 0) (.int .i64 0) (.int .i64 0))
      obtain ⟨b0, b1, b2, f0, f1, f2⟩ := I1.out.cells
      obtain ⟨u0, u1, u2, _⟩ := I2.out.cells
      go_wp2
      refine bodyPost_ret (v := .tuple #[ptVal (0, 0, 0), .bool false]) (by simp [results, Try.results18, go_sem, ptVal, u0, u1, u2]) rfl ⟨rfl, ?_⟩
      with_reducible exact B2.out
    · rw [hl] at hlo
      have hlo2 : decide (mn < -1000) = false := hlo
      have hL3 := HL.out hl
      cases hh : (inHigh x && inHigh y && inHigh z)
      · have HF := hid (show pofB p x y z = false by rw [HB2.out, hh, hl]; rfl)
        have HFv := hid (show pofV p x y z = (0, 0, 0) by rw [HV.out, HF.out]; rfl)
        rw [HF.out, HFv.out]
        rw [hh] at hhi
        have hhi2 : decide (1000 < mx) = true := hhi
        clear hl hh hhi hlo
        go_enter Try.func18, Try.ntmps18
        go_wp2_with fail
        refine (isPrime_ok p _).mono ?_
        rintro e w1 ⟨rfl, hb⟩
        rw [HP.out]
        have I1 := hid (I0.out.below hb)
        have B1 := hid (below_trans B0.out hb)
        have R1 := hid (R0.out.below hb)
        clear hb
        go_wp2_with fail
        refine (HMin.out _ R1.out).mono ?_
        rintro e w2 ⟨rfl, hw2⟩
        subst hw2
        go_wp2_with fail
        refine (HMax.out _ R1.out).mono ?_
        rintro e w3 ⟨rfl, hw3⟩
        subst hw3
        have I2 := hid (I1.out.put 0 0 0)
        have B2 := hid (below_put B1.out (Nat.le_refl _) (.int .i64 0) (.int .i64 0) (.int .i64 0))
        obtain ⟨b0, b1, b2, f0, f1, f2⟩ := I1.out.cells
        obtain ⟨u0, u1, u2, _⟩ := I2.out.cells
        go_wp2
        refine bodyPost_ret (v := .tuple #[ptVal (0, 0, 0), .bool false]) (by simp [results, Try.results18, go_sem, ptVal, u0, u1, u2]) rfl ⟨rfl, ?_⟩
        with_reducible exact B2.out
      · have hH3 := HH.out hh
        have HXx := hid (show ∀ q ∈ [x, y, z], -1000000000000 ≤ q ∧ q ≤ 1000000000000 by intro q hq; simp at hq; omega)
        have HFb := hid (show pofB p x y z = pbB p [x, y, z] by rw [HB2.out, hh, hl]; rfl)
        have HFv := hid (show pofV p x y z = pbV p [x, y, z] by rw [HV.out, HFb.out]; rfl)
        rw [HFb.out, HFv.out]
        rw [hh] at hhi
        have hhi2 : decide (1000 < mx) = false := hhi
        clear hl hh hhi hlo HFb HFv HB HB2 HV
        generalize pbB p [x, y, z] = D at *
        generalize pbV p [x, y, z] = V at *
        obtain ⟨V0, V1, V2⟩ := V
        have HVv := hid (show ptVal (V0, V1, V2) = .agg #[.int .i64 V0, .int .i64 V1, .int .i64 V2] from rfl)
        go_enter Try.func18, Try.ntmps18
        go_wp2_with fail
        refine (isPrime_ok p _).mono ?_
        rintro e w1 ⟨rfl, hb⟩
        rw [HP.out]
        have I1 := hid (I0.out.below hb)
        have B1 := hid (below_trans B0.out hb)
        have R1 := hid (R0.out.below hb)
        clear hb
        go_wp2_with fail
        refine (HMin.out _ R1.out).mono ?_
        rintro e w2 ⟨rfl, hw2⟩
        subst hw2
        go_wp2_with fail
        refine (HMax.out _ R1.out).mono ?_
        rintro e w3 ⟨rfl, hw3⟩
        subst hw3
        go_wp2_with fail
        refine (HPb.out _ R1.out HXx.out).mono ?_
        rintro e w4 ⟨rfl, hb4⟩
        rw [HVv.out]
        have I4 := hid (I1.out.below hb4)
        have B4 := hid (below_trans B1.out hb4)
        have I5 := hid (I4.out.put V0 V1 V2)
        have B5 := hid (below_put B4.out (Nat.le_refl _) (.int .i64 V0) (.int .i64 V1) (.int .i64 V2))
        obtain ⟨b0, b1, b2, f0, f1, f2⟩ := I4.out.cells
        obtain ⟨u0, u1, u2, _⟩ := I5.out.cells
        clear hb4
        go_wp2
        refine bodyPost_ret (v := .tuple #[ptVal (V0, V1, V2), .bool D]) (by simp [results, Try.results18, go_sem, ptVal, u0, u1, u2]) rfl ⟨rfl, ?_⟩
        with_reducible exact B5.out

end Go.Proofs.Ytkddhlgohjojpaa
