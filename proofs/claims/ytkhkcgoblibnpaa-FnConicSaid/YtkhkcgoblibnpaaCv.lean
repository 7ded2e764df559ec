/-
  The value of a cubic at a point; the law of CubicValue.
-/
import Derived.Test.YtkhkcgoblibnpaaE
import Derived.Test.YtkhkcgoblibnpaaEs
namespace Go.Proofs.Ytkhkcgoblibnpaa
open Go.RowKit
set_option linter.unusedVariables false
set_option linter.unusedSimpArgs false

def dotP (p : Int) (xs ys : List Int) : Nat → Int
  | 0 => 0
  | k + 1 => (dotP p xs ys k + xs.getD k 0 * ys.getD k 0) % p
theorem dotP_eq (p : Int) (xs ys : List Int) (k : Nat) : dotP p xs ys k = dotTo xs ys k % p := by
  induction k with
  | zero => simp [dotP, dotTo]
  | succ k ih => rw [dotP, dotTo, ih, Int.add_emod, Int.emod_emod, ← Int.add_emod]
theorem dotP_bd (p : Int) (hp : 1 ≤ p) (xs ys : List Int) (k : Nat) : 0 ≤ dotP p xs ys k ∧ dotP p xs ys k < p := by
  cases k with
  | zero => simp [dotP]; omega
  | succ k => rw [dotP]; exact ⟨Int.emod_nonneg _ (by omega), Int.emod_lt_of_pos _ (by omega)⟩
theorem dotTo_mod (p : Int) (xs ys zs : List Int) (k : Nat) (h : ∀ i, i < k → ys.getD i 0 % p = zs.getD i 0 % p) : dotTo xs ys k % p = dotTo xs zs k % p := by
  induction k with
  | zero => rfl
  | succ k ih =>
    rw [dotTo, dotTo, Int.add_emod, ih fun i hi => h i (by omega), Int.mul_emod, h k (by omega), ← Int.mul_emod, ← Int.add_emod]
theorem dot_prod (p x y z : Int) (hp : 2 ≤ p) (fs : List Int) : dotTo fs (prodTo p x y z 10) 10 % p = dotTo fs (cubesTo x y z 10) 10 % p :=
  dotTo_mod p fs _ _ 10 fun i hi => by rw [prodTo_get _ _ _ _ _ _ hi, cubesTo_get _ _ _ _ _ hi, prodI_eq p x y z hp, Int.emod_emod]

theorem getD_bd {xs : List Int} {B : Int} (hB : 0 ≤ B) (h : ∀ x ∈ xs, 0 ≤ x ∧ x ≤ B) (i : Nat) : 0 ≤ xs.getD i 0 ∧ xs.getD i 0 ≤ B := by
  by_cases hi : i < xs.length
  · rw [getD_lt hi]; exact h _ (List.getElem_mem _)
  · rw [List.getD_eq_getElem?_getD, List.getElem?_eq_none (by omega)]; simpa using hB

theorem specNumbers_len' {p : Int} {xs : List Int} {m : Int} (h : specNumbersB p xs m = true) : (xs.length : Int) = m := by
  simp [specNumbersB] at h; exact h.2.2
theorem specNumbers_bd31' {p : Int} {xs : List Int} {m : Int} (h : specNumbersB p xs m = true) : ∀ x ∈ xs, 0 ≤ x ∧ x ≤ 31 := by
  rw [specNumbersB, Bool.and_eq_true, Bool.and_eq_true] at h
  have hp := isPrimeB_bd h.2.1
  intro x hx
  have := all_inP_bd h.1 x hx
  omega

theorem cube_bd {x y z : Int} (hx : 0 ≤ x ∧ x ≤ 31) (hy : 0 ≤ y ∧ y ≤ 31) (hz : 0 ≤ z ∧ z ≤ 31) (k : Nat) (hk : k < 10) : 0 ≤ cubeI x y z k ∧ cubeI x y z k ≤ 30000000000000 := by
  have hb := exN_bd k hk
  have a := pow_bd hx.1 hx.2 (exN k).1 (by omega)
  have b := pow_bd hy.1 hy.2 (exN k).2.1 (by omega)
  have c := pow_bd hz.1 hz.2 (exN k).2.2 (by omega)
  have d := mul_bd a.1 b.1 a.2 b.2
  have e := mul_bd d.1 c.1 d.2 c.2
  rw [cubeI]
  omega

theorem l5Dot_ok (p : Int) (A : Option Addr) (n c : Nat) (xs : List Int) (A' : Option Addr) (c' : Nat) (ys : List Int) (w : World) (hr : RI w A n xs) (hr' : RI w A' n ys) (hp : 1 ≤ p) (hp2 : p ≤ 31) (hn : n ≤ 100)
    (hx : ∀ x ∈ xs, 0 ≤ x ∧ x ≤ 31) (hy : ∀ x ∈ ys, 0 ≤ x ∧ x ≤ 31) :
    Calls Try.prog 78 #[.int .i64 p, .slice A n c, .slice A' n c'] w fun e w' => e = .returned (.int .i64 (dotP p xs ys n)) ∧ Below w.heap.size w w' := by
  obtain ⟨hl, _, b, off, hA, hc⟩ := hr
  obtain ⟨hl', _, b', off', hA', hc'⟩ := hr'
  have HC := hid hc
  have HC' := hid hc'
  have HX := hid (fun i => getD_bd (by omega) hx i)
  have HY := hid (fun i => getD_bd (by omega) hy i)
  have HD := hid (fun k => dotP_bd p hp xs ys k)
  clear hc hc' hx hy
  go_enter Try.func78, Try.ntmps78
  go_wp2
  go_loopw [7, 8] (fun s t wr => ∃ k : Nat, k ≤ n ∧ t = .int .i64 k ∧ s = .int .i64 (dotP p xs ys k) ∧ ∃ m, wr = w.drewN m) (fun _ t _ => n - (intOf t).toNat)
  case atStart => exact ⟨0, by omega, rfl, rfl, 0, rfl⟩
  case round =>
    obtain ⟨k, hk, rfl, rfl, m, rfl⟩ := hrel
    have hd := HD.out k
    have d0 := hd.1
    have d1 := hd.2
    clear hd
    by_cases hlt : k < n
    · obtain rfl : A = some ⟨b, off, none⟩ := by rcases hA with h | h; omega; exact h
      obtain rfl : A' = some ⟨b', off', none⟩ := by rcases hA' with h | h; omega; exact h
      have hcx := HC.out k hlt
      have hcy := HC'.out k hlt
      have bx := HX.out k
      have by' := HY.out k
      have hm := mul_bd bx.1 by'.1 bx.2 by'.2
      have HT := hid (show dotP p xs ys (k + 1) = (dotP p xs ys k + xs.getD k 0 * ys.getD k 0) % p from rfl)
      generalize xs.getD k 0 = x at *
      generalize ys.getD k 0 = y at *
      generalize dotP p xs ys k = s at *
      have m0 := hm.1
      have m1 := hm.2
      have ht : (s + x * y).tmod p = (s + x * y) % p := Int.tmod_eq_emod_of_nonneg (by omega)
      clear hm bx by'
      go_wp2
      go_quiet (fail)
      go_wp2
      go_roundw
      case rel => exact ⟨k + 1, by omega, by go_num, by rw [HT.out], _, rfl⟩
      case measure => simp [intOf]; omega
    · obtain rfl : k = n := by omega
      go_wp2
      go_ret
      exact ⟨rfl, below_drewN (Below.refl _ _) _⟩

def cvB (p : Int) (fs : List Int) (x y z : Int) : Bool := specNumbersB p fs 10 && specPointB p x y z
def cvV (p : Int) (fs : List Int) (x y z : Int) : Int := if cvB p fs x y z then dotTo fs (cubesTo x y z 10) 10 % p else 0

theorem rem_rng' {p n : Int} (hp : 1 ≤ p) : 0 ≤ n % p ∧ n % p < p := ⟨Int.emod_nonneg _ (by omega), Int.emod_lt_of_pos _ (by omega)⟩
theorem pow31 {x : Int} (h0 : 0 ≤ x) (h1 : x ≤ 31) (k : Nat) : 0 ≤ x ^ k ∧ x ^ k ≤ 31 ^ k := by
  induction k with
  | zero => simp
  | succ k ih =>
    rw [Int.pow_succ, Int.pow_succ]
    exact ⟨Int.mul_nonneg ih.1 h0, Int.mul_le_mul ih.2 h1 h0 (by have := ih.1; have := ih.2; omega)⟩
theorem cubes31 {x y z : Int} (hx : 0 ≤ x ∧ x ≤ 31) (hy : 0 ≤ y ∧ y ≤ 31) (hz : 0 ≤ z ∧ z ≤ 31) (k : Nat) (hk : k < 10) : 0 ≤ cubeI x y z k ∧ cubeI x y z k ≤ 29791 := by
  have hb := exN_bd k hk
  have a := pow31 hx.1 hx.2 (exN k).1
  have b := pow31 hy.1 hy.2 (exN k).2.1
  have c := pow31 hz.1 hz.2 (exN k).2.2
  have d := mul_bd a.1 b.1 a.2 b.2
  have e := mul_bd d.1 c.1 d.2 c.2
  rw [cubeI]
  refine ⟨e.1, ?_⟩
  have : (31 : Int) ^ (exN k).1 * 31 ^ (exN k).2.1 * 31 ^ (exN k).2.2 = 29791 := by
    rw [← Int.pow_add, ← Int.pow_add, hb.2.2.2]; rfl
  omega

theorem isPoint_ok' (p x y z : Int) (w : World) :
    Calls Try.prog 43 #[.int .i64 p, .agg #[.int .i64 x, .int .i64 y, .int .i64 z]] w fun e w' => e = .returned (.bool (specPointB p x y z)) ∧ Below w.heap.size w w' := by
  rw [← points_alike]
  exact isPoint_ok p x y z w

set_option maxHeartbeats 1000000 in
theorem implCubicValue_ok (p : Int) (A : Option Addr) (n c : Nat) (fs : List Int) (x y z : Int) (w : World) (hr : RI w A n fs) :
    Calls Try.prog 14 #[.int .i64 p, .slice A n c, .agg #[.int .i64 x, .int .i64 y, .int .i64 z]] w fun e w' => e = .returned (.tuple #[.int .i64 (cvV p fs x y z), .bool (cvB p fs x y z)]) ∧ Below w.heap.size w w' := by
  have HR := hid hr
  have hnum := hid (numbers_alike p fs 10)
  have HV := hid (show cvV p fs x y z = if cvB p fs x y z then dotTo fs (cubesTo x y z 10) 10 % p else 0 from rfl)
  have HB := hid (show cvB p fs x y z = (specNumbersB p fs 10 && specPointB p x y z) from rfl)
  have HRA := hid (hr.alloc (.cells #[.int .i64 x, .int .i64 y, .int .i64 z] 35))
  clear hr
  cases h1 : specNumbersB p fs 10
  · have H1 := hid h1
    clear h1
    have HB1 := hid (show cvB p fs x y z = false by rw [HB.out, H1.out]; rfl)
    go_enter Try.func14, Try.ntmps14
    go_wp2_with fail
    refine (areNumbers_ok p 10 A n c fs _ HRA.out).mono ?_
    rintro e w1 ⟨rfl, b1⟩
    have B1 := hid (below_alloc_then b1)
    have R1 := hid ((HR.out.alloc _).below b1)
    have C1 := hid (cells_last b1 w.heap.size rfl)
    clear b1
    rw [hnum.out, H1.out]
    go_wp2
    go_ret2
    exact ⟨by rw [HV.out, HB1.out]; rfl, B1.out⟩
  · have H1 := hid h1
    clear h1
    cases h2 : specPointB p x y z
    · have H2 := hid h2
      clear h2
      have HB1 := hid (show cvB p fs x y z = false by rw [HB.out, H1.out, H2.out]; rfl)
      go_enter Try.func14, Try.ntmps14
      go_wp2_with fail
      refine (areNumbers_ok p 10 A n c fs _ HRA.out).mono ?_
      rintro e w1 ⟨rfl, b1⟩
      have B1 := hid (below_alloc_then b1)
      have R1 := hid ((HR.out.alloc _).below b1)
      have C1 := hid (cells_last b1 w.heap.size rfl)
      clear b1
      rw [hnum.out, H1.out]
      have c0 := C1.out.1 0 _ rfl
      have c1 := C1.out.1 1 _ rfl
      have c2 := C1.out.1 2 _ rfl
      go_wp2_with fail
      refine (isPoint_ok' p x y z _).mono ?_
      rintro e w2 ⟨rfl, b2⟩
      have B2 := hid (below_trans B1.out b2)
      clear b2
      rw [H2.out]
      go_wp2
      go_ret2
      exact ⟨by rw [HV.out, HB1.out]; rfl, B2.out⟩
    · have H2 := hid h2
      have hl := specNumbers_len' H1.out
      have hpt := specPoint_bd h2
      have hpb := hpt.1
      have HF := hid (specNumbers_bd31' H1.out)
      obtain rfl : n = 10 := by have := HR.out.1; omega
      clear h2 hl
      have HB1 := hid (show cvB p fs x y z = true by rw [HB.out, H1.out, H2.out]; rfl)
      have HPT := hid hpt
      clear hpt
      go_enter Try.func14, Try.ntmps14
      go_wp2_with fail
      refine (areNumbers_ok p 10 A 10 c fs _ HRA.out).mono ?_
      rintro e w1 ⟨rfl, b1⟩
      have B1 := hid (below_alloc_then b1)
      have R1 := hid ((HR.out.alloc _).below b1)
      have C1 := hid (cells_last b1 w.heap.size rfl)
      clear b1
      rw [hnum.out, H1.out]
      have c0 := C1.out.1 0 _ rfl
      have c1 := C1.out.1 1 _ rfl
      have c2 := C1.out.1 2 _ rfl
      go_wp2_with fail
      refine (isPoint_ok' p x y z _).mono ?_
      rintro e w2 ⟨rfl, b2⟩
      have B2 := hid (below_trans B1.out b2)
      have R2 := hid (R1.out.below b2)
      have d0 := cell_below b2 c0
      have d1 := cell_below b2 c1
      have d2 := cell_below b2 c2
      clear b2 c0 c1 c2
      rw [H2.out]
      go_wp2_with fail
      refine (cubes_ok x y z _ (by have := HPT.out; omega) (by have := HPT.out; omega) (by have := HPT.out; omega)).mono ?_
      rintro e w3 ⟨v3, rfl, o3, b3⟩
      obtain ⟨A3, c3, rfl, r3⟩ := o3.ri (by rw [cubesTo_length]; omega)
      have B3 := hid (below_trans B2.out b3)
      have R3 := hid (R2.out.below b3)
      rw [cubesTo_length] at r3
      have R33 := hid r3
      clear b3 r3 o3 d0 d1 d2
      rw [cubesTo_length]
      go_wp2_with fail
      refine (dot_ok p A 10 c fs A3 c3 (cubesTo x y z 10) _ R3.out R33.out (by omega) (by omega) (by omega) ?_).mono ?_
      · intro i hi
        have h1 := getD_bd (by omega) HF.out i
        have h2 := cubes31 (by have := HPT.out; omega) (by have := HPT.out; omega) (by have := HPT.out; omega) i hi (x := x) (y := y) (z := z)
        rw [cubesTo_get _ _ _ _ _ hi]
        have h3 := mul_bd h1.1 h2.1 h1.2 h2.2
        omega
      · rintro e w4 ⟨rfl, rfl⟩
        go_wp2
        go_ret2
        exact ⟨by rw [HV.out, HB1.out]; rfl, B3.out⟩


end Go.Proofs.Ytkhkcgoblibnpaa
