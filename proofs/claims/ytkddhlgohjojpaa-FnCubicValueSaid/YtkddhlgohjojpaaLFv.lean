/-
  The value of twice a drawn cubic is twice its value.
-/
import Derived.Test.YtkddhlgohjojpaaDv
import Derived.Test.YtkddhlgohjojpaaCv
namespace Go.Proofs.Ytkddhlgohjojpaa
open Go.RowKit
set_option linter.unusedVariables false
set_option linter.unusedSimpArgs false

def twTo (p : Int) (fs : List Int) (k : Nat) : List Int := (List.range k).map fun i => 2 * fs.getD i 0 % p
theorem twTo_succ (p : Int) (fs : List Int) (k : Nat) : twTo p fs (k + 1) = twTo p fs k ++ [2 * fs.getD k 0 % p] := by simp [twTo, List.range_succ]
theorem twTo_length (p : Int) (fs : List Int) (k : Nat) : (twTo p fs k).length = k := by simp [twTo]
theorem twTo_get (p : Int) (fs : List Int) (k i : Nat) (h : i < k) : (twTo p fs k).getD i 0 = 2 * fs.getD i 0 % p := by simp [twTo, List.getD_eq_getElem?_getD, List.getElem?_map, List.getElem?_range h]
theorem dotTo_twice (p : Int) (fs ys : List Int) (m k : Nat) (h : k ≤ m) : dotTo (twTo p fs m) ys k % p = 2 * dotTo fs ys k % p := by
  induction k with
  | zero => rfl
  | succ k ih =>
    have ih := ih (by omega)
    rw [dotTo, dotTo, twTo_get p fs m k (by omega), Int.add_emod, ih, Int.mul_emod (2 * fs.getD k 0 % p) (ys.getD k 0), Int.emod_emod, ← Int.mul_emod, ← Int.add_emod]
    congr 1
    grind
theorem twice_law {p : Int} {fs : List Int} {x y z : Int} (h : cvB p fs x y z = true) :
    cvB p (twTo p fs 10) x y z = true ∧ cvV p (twTo p fs 10) x y z = 2 * cvV p fs x y z % p ∧ 0 ≤ cvV p fs x y z ∧ cvV p fs x y z < p ∧ 7 ≤ p ∧ p ≤ 31 ∧ fs.length = 10 ∧ ∀ u ∈ fs, 0 ≤ u ∧ u ≤ 31 := by
  have hq := h
  rw [cvB, Bool.and_eq_true] at hq
  obtain ⟨hn, hpt⟩ := hq
  have hl := specNumbers_len' hn
  have hp : isPrimeB p = true := by simp [specNumbersB] at hn; exact hn.2.1
  have hb := isPrimeB_bd hp
  have hr := @rem_rng' p (dotTo fs (cubesTo x y z 10) 10) (by omega)
  have hN : specNumbersB p (twTo p fs 10) 10 = true := by
    rw [specNumbersB, hp, twTo_length, Bool.and_eq_true]
    refine ⟨List.all_eq_true.2 fun u hu => ?_, rfl⟩
    simp [twTo] at hu
    obtain ⟨i, _, rfl⟩ := hu
    have := @rem_rng' p (2 * fs[i]?.getD 0) (by omega)
    simp [inP, inB]
    omega
  have hB : cvB p (twTo p fs 10) x y z = true := by rw [cvB, hN, hpt]; rfl
  refine ⟨hB, ?_, ?_, ?_, hb.1, hb.2, by omega, specNumbers_bd31' hn⟩
  · rw [cvV, if_pos hB, cvV, if_pos h, dotTo_twice p fs _ 10 10 (Nat.le_refl _), Int.mul_emod 2 (_ % p), Int.emod_emod, ← Int.mul_emod]
  · rw [cvV, if_pos h]; exact hr.1
  · rw [cvV, if_pos h]; exact hr.2

set_option maxHeartbeats 1000000 in
theorem FnCubicValue_ok (A : Option Addr) (n c : Nat) (xs : List Int) (w : World) (hr : n ≤ 1048576 → RB w A n c xs) :
    Calls Try.prog 9 #[.slice A n c] w fun e w' => e = .returned (.bool true) ∧ Below w.heap.size w w' := by
  by_cases hb : n ≤ 1048576
  · have HR := hid (hr hb)
    clear hr
    go_enter Try.func9, Try.ntmps9
    go_wp2_with fail
    refine (DrawCubicValue_ok A n c xs w HR.out).mono ?_
    rintro e w1 ⟨p, A1, n1, c1, fs, ⟨x, y, z⟩, rfl, p0, p1, hri, hn1, b1⟩
    have HPv := hid (show ptVal (x, y, z) = .agg #[.int .i64 x, .int .i64 y, .int .i64 z] from rfl)
    rw [HPv.out]
    have R1 := hid hri
    have B1 := hid b1
    clear hri b1
    have c0 : (w1.alloc (.cells #[.int .i64 x, .int .i64 y, .int .i64 z] 31)).cell? ⟨w1.heap.size, 0, none⟩ = some (.int .i64 x) := by rw [World.cell?_alloc_at _ _ _ _ rfl]; rfl
    have c1 : (w1.alloc (.cells #[.int .i64 x, .int .i64 y, .int .i64 z] 31)).cell? ⟨w1.heap.size, 1, none⟩ = some (.int .i64 y) := by rw [World.cell?_alloc_at _ _ _ _ rfl]; rfl
    have c2 : (w1.alloc (.cells #[.int .i64 x, .int .i64 y, .int .i64 z] 31)).cell? ⟨w1.heap.size, 2, none⟩ = some (.int .i64 z) := by rw [World.cell?_alloc_at _ _ _ _ rfl]; rfl
    have C0 := hid c0
    have C1 := hid c1
    have C2 := hid c2
    have RW := hid (R1.out.alloc (.cells #[.int .i64 x, .int .i64 y, .int .i64 z] 31))
    have BW := hid (below_trans B1.out (below_alloc w1 (.cells #[.int .i64 x, .int .i64 y, .int .i64 z] 31)))
    clear c0 c1 c2
    go_wp2_with fail
    refine (implCubicValue_ok p A1 n1 c1 fs x y z _ RW.out).mono ?_
    rintro e w2 ⟨rfl, b2⟩
    have R2 := hid (RW.out.below b2)
    have B2 := hid (below_trans BW.out b2)
    have D0 := hid (cell_below b2 C0.out)
    have D1 := hid (cell_below b2 C1.out)
    have D2 := hid (cell_below b2 C2.out)
    have d0 := D0.out
    have d1 := D1.out
    have d2 := D2.out
    clear b2
    go_wp2_with fail
    refine (specCubicValue_ok p A1 n1 c1 fs x y z _ R2.out).mono ?_
    rintro e w3 ⟨rfl, b3⟩
    have R3 := hid (R2.out.below b3)
    have B3 := hid (below_trans B2.out b3)
    have E0 := hid (cell_below b3 D0.out)
    have E1 := hid (cell_below b3 D1.out)
    have E2 := hid (cell_below b3 D2.out)
    clear b3 d0 d1 d2
    have hne : (cvV p fs x y z != cvV p fs x y z) = false := by simp
    have hnb : (cvB p fs x y z != cvB p fs x y z) = false := by simp
    have heq : (cvV p fs x y z == cvV p fs x y z) = true := by simp
    cases hD : cvB p fs x y z
    · clear hD hnb
      generalize cvV p fs x y z = V at *
      go_wp2
      go_ret
      exact ⟨rfl, B3.out⟩
    · have HL := hid (twice_law hD)
      have hp1 : 7 ≤ p := HL.out.2.2.2.2.1
      have hp2 : p ≤ 31 := HL.out.2.2.2.2.2.1
      obtain rfl : n1 = 10 := by have := HL.out.2.2.2.2.2.2.1; have := R3.out.1; omega
      have HF := hid HL.out.2.2.2.2.2.2.2
      have HV := hid HL.out.2.1
      have hv0 := HL.out.2.2.1
      have hv1 := HL.out.2.2.2.1
      have HB2 := hid HL.out.1
      clear hD hnb heq HL
      generalize hVV : cvV p fs x y z = V at *
      clear hVV
      obtain ⟨hl, hn10, bk, off, hA, hc⟩ := R3.out
      obtain rfl : A1 = some ⟨bk, off, none⟩ := by rcases hA with h | h; omega; exact h
      have HC := hid hc
      clear hc hA
      go_wp2
      go_loopw [10, 11] (fun v i wr => ∃ k : Nat, k ≤ 10 ∧ i = .int .i64 k ∧ OI wr w3.heap.size v (twTo p fs k) ∧ Below w3.heap.size w3 wr) (fun _ i _ => 10 - (intOf i).toNat)
      case atStart => exact ⟨0, by omega, rfl, World.ownsRow_lit w3 #[] 0 (Nat.le_refl _) (by decide) rfl, below_alloc _ _⟩
      case round =>
        obtain ⟨k, hk, rfl, hown, hb⟩ := hrel
        have HO := hid hown
        have HB := hid hb
        clear hown hb
        by_cases hlt : k < 10
        · have hcx : wr.cell? ⟨bk, off + k, none⟩ = some (.int .i64 (fs.getD k 0)) := cell_below HB.out (HC.out k hlt)
          have hxx : 0 ≤ fs.getD k 0 ∧ fs.getD k 0 ≤ 31 := HF.out _ (by rw [getD_lt (by omega)]; exact List.getElem_mem _)
          have hx1 := hxx.1
          have hx2 := hxx.2
          have HT := hid (twTo_succ p fs k)
          have HLn := hid (show (twTo p fs k).length < 17592186044416 by rw [twTo_length]; omega)
          generalize fs.getD k 0 = u at *
          clear hxx
          go_wp2_with (at_builtin; refine append_int _ _ rfl rfl w3.heap.size _ _ (2 * u % p) ⟨wr.heap.size, 0, none⟩ rfl rfl (HO.out.alloc _) (World.cell?_alloc_at _ _ _ _ rfl) HLn.out (size_alloc HB.out.size _) ?_; intro v' w1 hown hgrow; have HO1 := hid hown; have HG := hid hgrow; clear hown hgrow)
          go_roundw
          case rel => exact ⟨k + 1, by omega, by go_num, by rw [HT.out]; exact HO1.out, below_append HB.out HB.out.size HO.out HG.out⟩
          case measure => simp [intOf]; omega
        · obtain rfl : k = 10 := by omega
          obtain ⟨A5, c5, rfl, hri⟩ := HO.out.ri (by rw [twTo_length]; omega)
          have HRI := hid hri
          have e0 := cell_below HB.out E0.out
          have e1 := cell_below HB.out E1.out
          have e2 := cell_below HB.out E2.out
          clear hri
          go_wp2_with fail
          refine (implCubicValue_ok p A5 _ c5 (twTo p fs 10) x y z _ HRI.out).mono ?_
          rintro e w5 ⟨rfl, b5⟩
          rw [HV.out, HB2.out]
          have B5 := hid (below_trans B3.out (below_trans HB.out b5))
          clear b5
          go_wp2
          go_ret
          exact ⟨rfl, B5.out⟩
  · clear hr
    go_enter Try.func9, Try.ntmps9
    go_wp2
    go_ret
    exact ⟨rfl, Below.refl _ _⟩

end Go.Proofs.Ytkddhlgohjojpaa
