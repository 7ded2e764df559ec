/-
  The derivative of a cubic along a point.
-/
import Derived.Test.YtkddhlgohjojpaaSp
import Derived.Test.YtkddhlgohjojpaaE
import Derived.Deep.RegionHeldLaw
namespace Go.Proofs.Ytkddhlgohjojpaa
open Go.RowKit
set_option linter.unusedVariables false
set_option linter.unusedSimpArgs false

def csB (p : Int) (fs : List Int) (x y z l m n : Int) : Bool := (specNumbersB p fs 10 && specPointB p x y z) && specPointB p l m n
def csV (p : Int) (fs : List Int) (x y z l m n : Int) : Int := if csB p fs x y z l m n then sT fs x y z l m n 10 % p else 0

theorem c3b {w w1 : World} (hb : Below w.heap.size w w1) {k : Nat} {a b c : Value} (h : w.cell? ⟨k, 0, none⟩ = some a ∧ w.cell? ⟨k, 1, none⟩ = some b ∧ w.cell? ⟨k, 2, none⟩ = some c) : w1.cell? ⟨k, 0, none⟩ = some a ∧ w1.cell? ⟨k, 1, none⟩ = some b ∧ w1.cell? ⟨k, 2, none⟩ = some c :=
  ⟨cell_below hb h.1, cell_below hb h.2.1, cell_below hb h.2.2⟩
theorem RI3 {w : World} {k : Nat} {a b c : Int} (h : w.cell? ⟨k, 0, none⟩ = some (.int .i64 a) ∧ w.cell? ⟨k, 1, none⟩ = some (.int .i64 b) ∧ w.cell? ⟨k, 2, none⟩ = some (.int .i64 c)) : RI w (some ⟨k, 0, none⟩) 3 [a, b, c] := by
  refine ⟨rfl, by omega, k, 0, .inr rfl, fun j hj => ?_⟩
  match j, hj with
  | 0, _ => exact h.1
  | 1, _ => exact h.2.1
  | 2, _ => exact h.2.2
theorem sl_bd {p l m n : Int} (hp : 1 ≤ p) (hp2 : p ≤ 31) (a b c : Int) (hl : 0 ≤ l ∧ l ≤ 31) (hm : 0 ≤ m ∧ m ≤ 31) (hn : 0 ≤ n ∧ n ≤ 31) : ∀ i, i < 3 → -1000000000 ≤ [a % p, b % p, c % p].getD i 0 * [l, m, n].getD i 0 ∧ [a % p, b % p, c % p].getD i 0 * [l, m, n].getD i 0 ≤ 1000000000 := by
  intro i hi
  have q : ∀ u : Int, 0 ≤ u % p ∧ u % p ≤ 31 := fun u => by have := rem_rng' (p := p) (n := u) hp; omega
  have h1 := getD3 (a % p) (b % p) (c % p) (fun u => 0 ≤ u ∧ u ≤ 31) (q a) (q b) (q c) i hi
  have h2 := getD3 l m n (fun u => 0 ≤ u ∧ u ≤ 31) hl hm hn i hi
  have h3 := mul_bd h1.1 h2.1 h1.2 h2.2
  omega

set_option maxRecDepth 100000 in
set_option maxHeartbeats 4000000 in
theorem implCubicSlope_ok (p : Int) (A : Option Addr) (k c : Nat) (fs : List Int) (x y z l m n : Int) (w : World) (hr : RI w A k fs) :
    Calls Try.prog 27 #[.int .i64 p, .slice A k c, .agg #[.int .i64 x, .int .i64 y, .int .i64 z], .agg #[.int .i64 l, .int .i64 m, .int .i64 n]] w fun e w' => e = .returned (.tuple #[.int .i64 (csV p fs x y z l m n), .bool (csB p fs x y z l m n)]) ∧ Below w.heap.size w w' := by
  have hnum := hid (numbers_alike p fs 10)
  have HV := hid (show csV p fs x y z l m n = if csB p fs x y z l m n then sT fs x y z l m n 10 % p else 0 from rfl)
  have HB := hid (show csB p fs x y z l m n = ((specNumbersB p fs 10 && specPointB p x y z) && specPointB p l m n) from rfl)
  have B0 := hid (show Below w.heap.size w ((w.alloc (.cells #[.int .i64 x, .int .i64 y, .int .i64 z] 31)).alloc (.cells #[.int .i64 l, .int .i64 m, .int .i64 n] 31)) from below_trans (below_alloc _ _) (below_alloc _ _))
  have RA := hid (hr.below B0.out)
  have hfl := hr.1
  have C0 := hid (show ((w.alloc (.cells #[.int .i64 x, .int .i64 y, .int .i64 z] 31)).alloc (.cells #[.int .i64 l, .int .i64 m, .int .i64 n] 31)).cell? ⟨w.heap.size, 0, none⟩ = some (.int .i64 x) ∧ ((w.alloc (.cells #[.int .i64 x, .int .i64 y, .int .i64 z] 31)).alloc (.cells #[.int .i64 l, .int .i64 m, .int .i64 n] 31)).cell? ⟨w.heap.size, 1, none⟩ = some (.int .i64 y) ∧ ((w.alloc (.cells #[.int .i64 x, .int .i64 y, .int .i64 z] 31)).alloc (.cells #[.int .i64 l, .int .i64 m, .int .i64 n] 31)).cell? ⟨w.heap.size, 2, none⟩ = some (.int .i64 z) by simp [go_sem])
  have D0 := hid (show ((w.alloc (.cells #[.int .i64 x, .int .i64 y, .int .i64 z] 31)).alloc (.cells #[.int .i64 l, .int .i64 m, .int .i64 n] 31)).cell? ⟨w.heap.size + 1, 0, none⟩ = some (.int .i64 l) ∧ ((w.alloc (.cells #[.int .i64 x, .int .i64 y, .int .i64 z] 31)).alloc (.cells #[.int .i64 l, .int .i64 m, .int .i64 n] 31)).cell? ⟨w.heap.size + 1, 1, none⟩ = some (.int .i64 m) ∧ ((w.alloc (.cells #[.int .i64 x, .int .i64 y, .int .i64 z] 31)).alloc (.cells #[.int .i64 l, .int .i64 m, .int .i64 n] 31)).cell? ⟨w.heap.size + 1, 2, none⟩ = some (.int .i64 n) by simp [go_sem])
  clear hr
  cases h1 : specNumbersB p fs 10
  · have H1 := hid h1
    have HB1 := hid (show csB p fs x y z l m n = false by rw [HB.out, h1]; rfl)
    clear h1
    go_enter Try.func27, Try.ntmps27
    go_wp2_with fail
    refine (areNumbers_ok p 10 A k c fs _ RA.out).mono ?_
    rintro e w1 ⟨rfl, b1⟩
    have B1 := hid (below_trans B0.out b1)
    have R1 := hid (RA.out.below b1)
    have X1 := hid (c3b b1 C0.out)
    have Y1 := hid (c3b b1 D0.out)
    clear b1
    rw [hnum.out, H1.out]
    go_wp2
    go_ret2
    exact ⟨by rw [HV.out, HB1.out]; rfl, B1.out⟩
  · have H1 := hid h1
    clear h1
    cases h2 : specPointB p x y z
    · have H2 := hid h2
      have HB1 := hid (show csB p fs x y z l m n = false by rw [HB.out, H1.out, h2]; rfl)
      clear h2
      go_enter Try.func27, Try.ntmps27
      go_wp2_with fail
      refine (areNumbers_ok p 10 A k c fs _ RA.out).mono ?_
      rintro e w1 ⟨rfl, b1⟩
      have B1 := hid (below_trans B0.out b1)
      have R1 := hid (RA.out.below b1)
      have X1 := hid (c3b b1 C0.out)
      have Y1 := hid (c3b b1 D0.out)
      clear b1
      rw [hnum.out, H1.out]
      obtain ⟨x0, x1, x2⟩ := X1.out
      go_wp2_with fail
      refine (isPoint_ok' p x y z _).mono ?_
      rintro e w2 ⟨rfl, b2⟩
      have B2 := hid (below_trans B1.out b2)
      have R2 := hid (R1.out.below b2)
      have X2 := hid (c3b b2 X1.out)
      have Y2 := hid (c3b b2 Y1.out)
      clear b2 x0 x1 x2
      rw [H2.out]
      go_wp2
      go_ret2
      exact ⟨by rw [HV.out, HB1.out]; rfl, B2.out⟩
    · have H2 := hid h2
      have HPX := hid (specPoint_bd h2)
      clear h2
      cases h3 : specPointB p l m n
      · have H3 := hid h3
        have HB1 := hid (show csB p fs x y z l m n = false by rw [HB.out, H1.out, H2.out, h3]; rfl)
        clear h3
        go_enter Try.func27, Try.ntmps27
        go_wp2_with fail
        refine (areNumbers_ok p 10 A k c fs _ RA.out).mono ?_
        rintro e w1 ⟨rfl, b1⟩
        have B1 := hid (below_trans B0.out b1)
        have R1 := hid (RA.out.below b1)
        have X1 := hid (c3b b1 C0.out)
        have Y1 := hid (c3b b1 D0.out)
        clear b1
        rw [hnum.out, H1.out]
        obtain ⟨x0, x1, x2⟩ := X1.out
        go_wp2_with fail
        refine (isPoint_ok' p x y z _).mono ?_
        rintro e w2 ⟨rfl, b2⟩
        have B2 := hid (below_trans B1.out b2)
        have R2 := hid (R1.out.below b2)
        have X2 := hid (c3b b2 X1.out)
        have Y2 := hid (c3b b2 Y1.out)
        clear b2 x0 x1 x2
        rw [H2.out]
        obtain ⟨y0, y1, y2⟩ := Y2.out
        go_wp2_with fail
        refine (isPoint_ok' p l m n _).mono ?_
        rintro e w3 ⟨rfl, b3⟩
        have B3 := hid (below_trans B2.out b3)
        have R3 := hid (R2.out.below b3)
        have X3 := hid (c3b b3 X2.out)
        have Y3 := hid (c3b b3 Y2.out)
        clear b3 y0 y1 y2
        rw [H3.out]
        go_wp2
        go_ret2
        exact ⟨by rw [HV.out, HB1.out]; rfl, B3.out⟩
      · have H3 := hid h3
        have HB1 := hid (show csB p fs x y z l m n = true by rw [HB.out, H1.out, H2.out, h3]; rfl)
        have HPL := hid (specPoint_bd h3)
        have HF := hid (specNumbers_bd31' H1.out)
        have hp7 := HPX.out.1
        obtain rfl : k = 10 := by have := specNumbers_len' H1.out; omega
        clear h3
        go_enter Try.func27, Try.ntmps27
        go_wp2_with fail
        refine (areNumbers_ok p 10 A 10 c fs _ RA.out).mono ?_
        rintro e w1 ⟨rfl, b1⟩
        have B1 := hid (below_trans B0.out b1)
        have R1 := hid (RA.out.below b1)
        have X1 := hid (c3b b1 C0.out)
        have Y1 := hid (c3b b1 D0.out)
        clear b1
        rw [hnum.out, H1.out]
        obtain ⟨x0, x1, x2⟩ := X1.out
        go_wp2_with fail
        refine (isPoint_ok' p x y z _).mono ?_
        rintro e w2 ⟨rfl, b2⟩
        have B2 := hid (below_trans B1.out b2)
        have R2 := hid (R1.out.below b2)
        have X2 := hid (c3b b2 X1.out)
        have Y2 := hid (c3b b2 Y1.out)
        clear b2 x0 x1 x2
        rw [H2.out]
        obtain ⟨y0, y1, y2⟩ := Y2.out
        go_wp2_with fail
        refine (isPoint_ok' p l m n _).mono ?_
        rintro e w3 ⟨rfl, b3⟩
        have B3 := hid (below_trans B2.out b3)
        have R3 := hid (R2.out.below b3)
        have X3 := hid (c3b b3 X2.out)
        have Y3 := hid (c3b b3 Y2.out)
        clear b3 y0 y1 y2
        rw [H3.out]
        obtain ⟨x0, x1, x2⟩ := X3.out
        obtain ⟨y0, y1, y2⟩ := Y3.out
        have XD := hid (show w3.drew.cell? ⟨w.heap.size, 0, none⟩ = some (.int .i64 x) ∧ w3.drew.cell? ⟨w.heap.size, 1, none⟩ = some (.int .i64 y) ∧ w3.drew.cell? ⟨w.heap.size, 2, none⟩ = some (.int .i64 z) from X3.out)
        have YR := hid (show RI w3.drew (some ⟨w.heap.size + 1, 0, none⟩) 3 [l, m, n] from RI3 Y3.out)
        have RD := hid (show RI w3.drew A 10 fs from R3.out)
        have BD := hid (show Below w.heap.size w w3.drew from below_drewN B3.out 1)
        go_wp2
        go_region_held_law (fun w' => w'.cell? ⟨w.heap.size, 0, none⟩ = some (.int .i64 x) ∧ w'.cell? ⟨w.heap.size, 1, none⟩ = some (.int .i64 y) ∧ w'.cell? ⟨w.heap.size, 2, none⟩ = some (.int .i64 z)) (first | with_reducible exact k4 | go_keep)
          (first
            | (go_at_call 59; refine (slopes_ok p A c fs x y z _ RD.out (by omega) (by omega) HF.out (by have := HPX.out; omega) (by have := HPX.out; omega) (by have := HPX.out; omega)).mono ?_; rintro e w4 ⟨v4, rfl, o4, b4⟩; obtain ⟨A4, c4, rfl, r4⟩ := o4.ri (by simp); have R4 := hid (show RI w4 A4 3 _ from r4); have k4 := c3b b4 XD.out; have B4 := hid (below_trans BD.out b4); have Y4 := hid (YR.out.below b4); clear o4 b4 r4; simp only [List.length_cons, List.length_nil])
            | (go_at_call 43; refine (dot_ok p A4 3 c4 _ _ 3 [l, m, n] _ R4.out Y4.out (by omega) (by omega) (by omega) (sl_bd (by omega) (by omega) _ _ _ (by have := HPL.out; omega) (by have := HPL.out; omega) (by have := HPL.out; omega))).mono ?_; rintro e w5 ⟨rfl, rfl⟩))
        go_wp2
        go_ret2
        exact ⟨by rw [HV.out, HB1.out, ← slope_same]; rfl, B4.out⟩

set_option maxRecDepth 100000 in
set_option maxHeartbeats 4000000 in
theorem specCubicSlope_ok (p : Int) (A : Option Addr) (k c : Nat) (fs : List Int) (x y z l m n : Int) (w : World) (hr : RI w A k fs) :
    Calls Try.prog 26 #[.int .i64 p, .slice A k c, .agg #[.int .i64 x, .int .i64 y, .int .i64 z], .agg #[.int .i64 l, .int .i64 m, .int .i64 n]] w fun e w' => e = .returned (.tuple #[.int .i64 (csV p fs x y z l m n), .bool (csB p fs x y z l m n)]) ∧ Below w.heap.size w w' := by
  have hnum := hid (numbers_alike p fs 10)
  have HV := hid (show csV p fs x y z l m n = if csB p fs x y z l m n then sT fs x y z l m n 10 % p else 0 from rfl)
  have HB := hid (show csB p fs x y z l m n = ((specNumbersB p fs 10 && specPointB p x y z) && specPointB p l m n) from rfl)
  have B0 := hid (show Below w.heap.size w ((w.alloc (.cells #[.int .i64 x, .int .i64 y, .int .i64 z] 31)).alloc (.cells #[.int .i64 l, .int .i64 m, .int .i64 n] 31)) from below_trans (below_alloc _ _) (below_alloc _ _))
  have RA := hid (hr.below B0.out)
  have hfl := hr.1
  have C0 := hid (show ((w.alloc (.cells #[.int .i64 x, .int .i64 y, .int .i64 z] 31)).alloc (.cells #[.int .i64 l, .int .i64 m, .int .i64 n] 31)).cell? ⟨w.heap.size, 0, none⟩ = some (.int .i64 x) ∧ ((w.alloc (.cells #[.int .i64 x, .int .i64 y, .int .i64 z] 31)).alloc (.cells #[.int .i64 l, .int .i64 m, .int .i64 n] 31)).cell? ⟨w.heap.size, 1, none⟩ = some (.int .i64 y) ∧ ((w.alloc (.cells #[.int .i64 x, .int .i64 y, .int .i64 z] 31)).alloc (.cells #[.int .i64 l, .int .i64 m, .int .i64 n] 31)).cell? ⟨w.heap.size, 2, none⟩ = some (.int .i64 z) by simp [go_sem])
  have D0 := hid (show ((w.alloc (.cells #[.int .i64 x, .int .i64 y, .int .i64 z] 31)).alloc (.cells #[.int .i64 l, .int .i64 m, .int .i64 n] 31)).cell? ⟨w.heap.size + 1, 0, none⟩ = some (.int .i64 l) ∧ ((w.alloc (.cells #[.int .i64 x, .int .i64 y, .int .i64 z] 31)).alloc (.cells #[.int .i64 l, .int .i64 m, .int .i64 n] 31)).cell? ⟨w.heap.size + 1, 1, none⟩ = some (.int .i64 m) ∧ ((w.alloc (.cells #[.int .i64 x, .int .i64 y, .int .i64 z] 31)).alloc (.cells #[.int .i64 l, .int .i64 m, .int .i64 n] 31)).cell? ⟨w.heap.size + 1, 2, none⟩ = some (.int .i64 n) by simp [go_sem])
  clear hr
  cases h1 : specNumbersB p fs 10
  · have H1 := hid h1
    have HB1 := hid (show csB p fs x y z l m n = false by rw [HB.out, h1]; rfl)
    clear h1
    go_enter Try.func26, Try.ntmps26
    go_wp2_with fail
    refine (specCubicIn_ok p A k c fs _ RA.out).mono ?_
    rintro e w1 ⟨rfl, rfl⟩
    have B1 := hid B0.out
    have R1 := hid RA.out
    have X1 := hid C0.out
    have Y1 := hid D0.out
    rw [H1.out]
    go_wp2
    go_ret2
    exact ⟨by rw [HV.out, HB1.out]; rfl, B1.out⟩
  · have H1 := hid h1
    clear h1
    cases h2 : specPointB p x y z
    · have H2 := hid h2
      have HB1 := hid (show csB p fs x y z l m n = false by rw [HB.out, H1.out, h2]; rfl)
      clear h2
      go_enter Try.func26, Try.ntmps26
      go_wp2_with fail
      refine (specCubicIn_ok p A k c fs _ RA.out).mono ?_
      rintro e w1 ⟨rfl, rfl⟩
      have B1 := hid B0.out
      have R1 := hid RA.out
      have X1 := hid C0.out
      have Y1 := hid D0.out
      rw [H1.out]
      obtain ⟨x0, x1, x2⟩ := X1.out
      go_wp2_with fail
      refine (specPointIn_ok p x y z _).mono ?_
      rintro e w2 ⟨rfl, b2⟩
      have B2 := hid (below_trans B1.out b2)
      have R2 := hid (R1.out.below b2)
      have X2 := hid (c3b b2 X1.out)
      have Y2 := hid (c3b b2 Y1.out)
      clear b2 x0 x1 x2
      rw [H2.out]
      go_wp2
      go_ret2
      exact ⟨by rw [HV.out, HB1.out]; rfl, B2.out⟩
    · have H2 := hid h2
      have HPX := hid (specPoint_bd h2)
      clear h2
      cases h3 : specPointB p l m n
      · have H3 := hid h3
        have HB1 := hid (show csB p fs x y z l m n = false by rw [HB.out, H1.out, H2.out, h3]; rfl)
        clear h3
        go_enter Try.func26, Try.ntmps26
        go_wp2_with fail
        refine (specCubicIn_ok p A k c fs _ RA.out).mono ?_
        rintro e w1 ⟨rfl, rfl⟩
        have B1 := hid B0.out
        have R1 := hid RA.out
        have X1 := hid C0.out
        have Y1 := hid D0.out
        rw [H1.out]
        obtain ⟨x0, x1, x2⟩ := X1.out
        go_wp2_with fail
        refine (specPointIn_ok p x y z _).mono ?_
        rintro e w2 ⟨rfl, b2⟩
        have B2 := hid (below_trans B1.out b2)
        have R2 := hid (R1.out.below b2)
        have X2 := hid (c3b b2 X1.out)
        have Y2 := hid (c3b b2 Y1.out)
        clear b2 x0 x1 x2
        rw [H2.out]
        obtain ⟨y0, y1, y2⟩ := Y2.out
        go_wp2_with fail
        refine (specPointIn_ok p l m n _).mono ?_
        rintro e w3 ⟨rfl, b3⟩
        have B3 := hid (below_trans B2.out b3)
        have R3 := hid (R2.out.below b3)
        have X3 := hid (c3b b3 X2.out)
        have Y3 := hid (c3b b3 Y2.out)
        clear b3 y0 y1 y2
        rw [H3.out]
        go_wp2
        go_ret2
        exact ⟨by rw [HV.out, HB1.out]; rfl, B3.out⟩
      · have H3 := hid h3
        have HB1 := hid (show csB p fs x y z l m n = true by rw [HB.out, H1.out, H2.out, h3]; rfl)
        have HPL := hid (specPoint_bd h3)
        have HF := hid (specNumbers_bd31' H1.out)
        have hp7 := HPX.out.1
        obtain rfl : k = 10 := by have := specNumbers_len' H1.out; omega
        clear h3
        go_enter Try.func26, Try.ntmps26
        go_wp2_with fail
        refine (specCubicIn_ok p A 10 c fs _ RA.out).mono ?_
        rintro e w1 ⟨rfl, rfl⟩
        have B1 := hid B0.out
        have R1 := hid RA.out
        have X1 := hid C0.out
        have Y1 := hid D0.out
        rw [H1.out]
        obtain ⟨x0, x1, x2⟩ := X1.out
        go_wp2_with fail
        refine (specPointIn_ok p x y z _).mono ?_
        rintro e w2 ⟨rfl, b2⟩
        have B2 := hid (below_trans B1.out b2)
        have R2 := hid (R1.out.below b2)
        have X2 := hid (c3b b2 X1.out)
        have Y2 := hid (c3b b2 Y1.out)
        clear b2 x0 x1 x2
        rw [H2.out]
        obtain ⟨y0, y1, y2⟩ := Y2.out
        go_wp2_with fail
        refine (specPointIn_ok p l m n _).mono ?_
        rintro e w3 ⟨rfl, b3⟩
        have B3 := hid (below_trans B2.out b3)
        have R3 := hid (R2.out.below b3)
        have X3 := hid (c3b b3 X2.out)
        have Y3 := hid (c3b b3 Y2.out)
        clear b3 y0 y1 y2
        rw [H3.out]
        obtain ⟨x0, x1, x2⟩ := X3.out
        obtain ⟨y0, y1, y2⟩ := Y3.out
        go_wp2_with fail
        refine (l5Slope_ok p A c fs x y z l m n _ R3.out (by omega) (by omega) HF.out (by have := HPX.out; omega) (by have := HPX.out; omega) (by have := HPX.out; omega) (by have := HPL.out; omega) (by have := HPL.out; omega) (by have := HPL.out; omega)).mono ?_
        rintro e w4 ⟨rfl, b4⟩
        have B4 := hid (below_trans B3.out b4)
        clear b4
        go_wp2
        go_ret2
        exact ⟨by rw [HV.out, HB1.out]; rfl, B4.out⟩

end Go.Proofs.Ytkddhlgohjojpaa
