/-
  The derivatives of a cubic at a point, as the program has them.
-/
import Derived.Test.YtkddhlgohjojpaaCv
namespace Go.Proofs.Ytkddhlgohjojpaa
open Go.RowKit
set_option linter.unusedVariables false
set_option linter.unusedSimpArgs false

def eD (d k : Nat) : Nat := [(exN k).1, (exN k).2.1, (exN k).2.2].getD d 0
def dE (d k : Nat) : Nat × Nat × Nat := [((exN k).1 - 1, (exN k).2.1, (exN k).2.2), ((exN k).1, (exN k).2.1 - 1, (exN k).2.2), ((exN k).1, (exN k).2.1, (exN k).2.2 - 1)].getD d (0, 0, 0)
def slTerm (fs : List Int) (x y z : Int) (d k : Nat) : Int := fs.getD k 0 * (eD d k : Int) * x ^ (dE d k).1 * y ^ (dE d k).2.1 * z ^ (dE d k).2.2
def slTo (fs : List Int) (x y z : Int) (d : Nat) : Nat → Int
  | 0 => 0
  | k + 1 => slTo fs x y z d k + slTerm fs x y z d k
theorem eD_bd : ∀ d, d < 3 → ∀ k, k < 10 → eD d k ≤ 3 ∧ (dE d k).1 ≤ 3 ∧ (dE d k).2.1 ≤ 3 ∧ (dE d k).2.2 ≤ 3 := by decide
theorem slTerm_bd {fs : List Int} {x y z : Int} (hf : ∀ u ∈ fs, 0 ≤ u ∧ u ≤ 31) (hx : 0 ≤ x ∧ x ≤ 31) (hy : 0 ≤ y ∧ y ≤ 31) (hz : 0 ≤ z ∧ z ≤ 31) (d : Nat) (hd : d < 3) (k : Nat) (hk : k < 10) : 0 ≤ slTerm fs x y z d k ∧ slTerm fs x y z d k ≤ 2500000000000000 := by
  have hb := eD_bd d hd k hk
  have a := pow_bd hx.1 hx.2 _ hb.2.1
  have b := pow_bd hy.1 hy.2 _ hb.2.2.1
  have c := pow_bd hz.1 hz.2 _ hb.2.2.2
  have f := getD_bd (by omega) hf k
  have e1 := mul_bd f.1 (show (0 : Int) ≤ (eD d k : Int) by omega) f.2 (show (eD d k : Int) ≤ 3 by omega)
  have e2 := mul_bd e1.1 a.1 e1.2 a.2
  have e3 := mul_bd e2.1 b.1 e2.2 b.2
  have e4 := mul_bd e3.1 c.1 e3.2 c.2
  rw [slTerm]
  omega
theorem slTo_bd {fs : List Int} {x y z : Int} (hf : ∀ u ∈ fs, 0 ≤ u ∧ u ≤ 31) (hx : 0 ≤ x ∧ x ≤ 31) (hy : 0 ≤ y ∧ y ≤ 31) (hz : 0 ≤ z ∧ z ≤ 31) (d : Nat) (hd : d < 3) (k : Nat) (hk : k ≤ 10) : 0 ≤ slTo fs x y z d k ∧ slTo fs x y z d k ≤ k * 2500000000000000 := by
  induction k with
  | zero => simp [slTo]
  | succ k ih =>
    have h1 := ih (by omega)
    have h2 := slTerm_bd hf hx hy hz d hd k (by omega)
    rw [slTo]
    omega

theorem mod_ok' (n p : Int) (w : World) (hp : 1 ≤ p) (hp2 : p ≤ 31) (hn : 0 ≤ n) (hn2 : n ≤ 100000000000000000) :
    Calls Try.prog 67 #[.int .i64 n, .int .i64 p] w fun e w' => e = .returned (.int .i64 (n % p)) ∧ w = w' := by
  have hb := tmod_bd n p (by omega)
  have hb1 := hb.1
  have hb2 := hb.2
  have HE := hid (show (n % p + p) % p = n % p by rw [Int.add_emod_right, Int.emod_emod])
  have hz1 : 0 ≤ n % p := Int.emod_nonneg _ (by omega)
  have hz2 : n % p < p := Int.emod_lt_of_pos _ (by omega)
  have ht : n.tmod p = n % p := Int.tmod_eq_emod_of_nonneg hn
  clear hb hb1 hb2
  go_enter Try.func67, Try.ntmps67
  go_wp2
  go_ret
  refine ⟨?_, rfl⟩
  show Ending.returned (.int .i64 ((n % p + p) % p)) = _
  rw [HE.out]


set_option maxRecDepth 100000 in
set_option maxHeartbeats 8000000 in
theorem slopes_ok (p : Int) (A : Option Addr) (c : Nat) (fs : List Int) (x y z : Int) (w : World) (hr : RI w A 10 fs) (hp : 1 ≤ p) (hp2 : p ≤ 31) (hf : ∀ u ∈ fs, 0 ≤ u ∧ u ≤ 31) (hx : 0 ≤ x ∧ x ≤ 31) (hy : 0 ≤ y ∧ y ≤ 31) (hz : 0 ≤ z ∧ z ≤ 31) :
    Calls Try.prog 59 #[.int .i64 p, .slice A 10 c, .agg #[.int .i64 x, .int .i64 y, .int .i64 z]] w fun e w' => ∃ v, e = .returned v ∧ OI w' w.heap.size v [slTo fs x y z 0 10 % p, slTo fs x y z 1 10 % p, slTo fs x y z 2 10 % p] ∧ Below w.heap.size w w' := by
  obtain ⟨hl, _, bb, off, hA, hc⟩ := hr
  obtain rfl : A = some ⟨bb, off, none⟩ := by rcases hA with h | h; omega; exact h
  have HC := hid hc
  have HF := hid (fun i => getD_bd (by omega) hf i)
  have PX := hid (pow_bd hx.1 hx.2)
  have PY := hid (pow_bd hy.1 hy.2)
  have PZ := hid (pow_bd hz.1 hz.2)
  have HX := hid (fun k W hk => power_ok x k W hx.1 hx.2 hk)
  have HY := hid (fun k W hk => power_ok y k W hy.1 hy.2 hk)
  have HZ := hid (fun k W hk => power_ok z k W hz.1 hz.2 hk)
  have SB := hid (fun d hd k hk => slTo_bd hf hx hy hz d hd k hk)
  have TB := hid (fun d hd k hk => slTerm_bd hf hx hy hz d hd k hk)
  have B0 := hid (below_trans (below_alloc w (.cells #[.int .i64 x, .int .i64 y, .int .i64 z] 31)) (below_alloc _ (.cells #[] 3)))
  have X0 := hid (show ((w.alloc (.cells #[.int .i64 x, .int .i64 y, .int .i64 z] 31)).alloc (.cells #[] 3)).heap[w.heap.size]? = some (.cells #[.int .i64 x, .int .i64 y, .int .i64 z] 31 (0, 0)) by rw [heap_alloc_old _ _ (by simp), heap_alloc_new])
  have O0 := hid (show OI ((w.alloc (.cells #[.int .i64 x, .int .i64 y, .int .i64 z] 31)).alloc (.cells #[] 3)) (w.heap.size + 1) (.slice (some ⟨w.heap.size + 1, 0, none⟩) 0 0) [] by have := World.ownsRow_lit (base := w.heap.size + 1) (e := 3) (size := 1) (w.alloc (.cells #[.int .i64 x, .int .i64 y, .int .i64 z] 31)) #[] 0 (by simp) (by decide) rfl; simpa [OI] using this)
  have S0 := hid (show w.heap.size + 1 ≤ ((w.alloc (.cells #[.int .i64 x, .int .i64 y, .int .i64 z] 31)).alloc (.cells #[] 3)).heap.size by simp)
  clear hc hf hx hy hz hA
  go_enter Try.func59, Try.ntmps59
  go_wp2
  generalize (w.alloc (.cells #[.int .i64 x, .int .i64 y, .int .i64 z] 31)).alloc (.cells #[] 3) = u0 at *
  generalize hv0 : Value.slice (some ⟨w.heap.size + 1, 0, none⟩) 0 0 = v0 at *
  clear hv0
  refine wp_loop_rounds 4 ?_
  -- round 0
  rw [rounds_succ]
  go_wp2_with fail
  refine (exponents_ok _).mono ?_
  rintro e w0 ⟨ve, rfl, oe, be⟩
  have OE0 := hid oe
  have BE0 := hid be
  clear oe be
  obtain ⟨ge0, capE0, rfl, hge0, hgl0, hce0⟩ := OE0.out.shape (by decide)
  have CE0 := hid hce0
  have X0e := hid ((BE0.out.block _ (by have := S0.out; omega)).trans X0.out)
  have O0e := hid (O0.out.below BE0.out)
  have B0e := hid (below_trans B0.out BE0.out)
  have S0e : w.heap.size + 1 ≤ w0.heap.size := by have := S0.out; have := BE0.out.size; omega
  clear hce0
  go_wp2
  go_loopw [9, 19] (fun s t wr => ∃ k : Nat, k ≤ 10 ∧ t = .int .i64 k ∧ s = .int .i64 (slTo fs x y z 0 k) ∧ Below w0.heap.size w0 wr) (fun _ t _ => 10 - (intOf t).toNat)
  case atStart => exact ⟨0, by omega, rfl, rfl, Below.refl _ _⟩
  case round =>
    obtain ⟨k, hk, rfl, rfl, hb⟩ := hrel
    obtain ⟨wr0, hwe⟩ : ∃ W : World, W = wr := ⟨wr, rfl⟩
    subst hwe
    have HB0 := hid hb
    clear hb
    have sb := SB.out 0 (by omega) k hk
    have HT := hid (show slTo fs x y z 0 (k + 1) = slTo fs x y z 0 k + slTerm fs x y z 0 k from rfl)
    by_cases hlt : k < 10
    · have hcell := CE0.out k (by show k < 10; exact hlt)
      rw [exN_eq k hlt] at hcell
      have e0 := cell_below HB0.out hcell.1
      have e1 := cell_below HB0.out hcell.2.1
      have e2 := cell_below HB0.out hcell.2.2
      simp only at e0 e1 e2
      have hbd := exN_bd k hlt
      have htb := TB.out 0 (by omega) k hlt
      have HTm := hid (show slTerm fs x y z 0 k = fs.getD k 0 * (((exN k).1 : Nat) : Int) * x ^ (((exN k).1 - 1)) * y ^ ((exN k).2.1) * z ^ ((exN k).2.2) from rfl)
      have hfk := cell_below HB0.out (cell_below B0e.out (HC.out k hlt))
      have fb := HF.out k
      have XW := hid ((HB0.out.block _ (by omega)).trans X0e.out)
      have hwr := HB0.out.size
      clear hcell
      generalize slTo fs x y z 0 k = s at *
      generalize slTerm fs x y z 0 k = tm at *
      generalize fs.getD k 0 = f at *
      generalize (exN k).1 = a at *
      generalize (exN k).2.1 = b at *
      generalize (exN k).2.2 = c' at *
      by_cases hv : a = 0
      · subst hv
        have htm0 : tm = 0 := by rw [HTm.out]; simp
        have HTZ := hid htm0
        clear htb htm0
        simp only [Int.natCast_zero] at e0
        go_wp2
        go_roundw
        case rel => exact ⟨k + 1, by omega, by go_num, by rw [HT.out, HTZ.out, Int.add_zero], HB0.out.alloc hwr _⟩
        case measure => simp [intOf]; omega
      · obtain ⟨a', rfl⟩ : ∃ q, a = q + 1 := ⟨a - 1, by omega⟩
        rw [show (((a' + 1 : Nat)) : Int) = (a' : Int) + 1 by simp] at e0 HTm
        rw [Nat.add_sub_cancel] at HTm
        have p1 := PX.out a' (by omega)
        have p2 := PY.out b (by omega)
        have p3 := PZ.out c' (by omega)
        have HX1 := hid (fun W => HX.out a' W (by omega))
        have HY1 := hid (fun W => HY.out b W (by omega))
        have HZ1 := hid (fun W => HZ.out c' W (by omega))
        generalize x ^ a' = X at *
        generalize y ^ b = Y at *
        generalize z ^ c' = Z at *
        have m1 := mul_bd fb.1 (show (0 : Int) ≤ (a' : Int) + 1 by omega) fb.2 (show (a' : Int) + 1 ≤ 3 by omega)
        have m2 := mul_bd m1.1 p1.1 m1.2 p1.2
        have m3 := mul_bd m2.1 p2.1 m2.2 p2.2
        have m4 := mul_bd m3.1 p3.1 m3.2 p3.2
        have q1 := m1.1
        have q2 := m1.2
        have q3 := m2.1
        have q4 := m2.2
        have q5 := m3.1
        have q6 := m3.2
        have q7 := m4.1
        have q8 := m4.2
        have q9 := sb.1
        have q10 : s ≤ 25000000000000000 := by have := sb.2; omega
        have hnz : ¬ (a' : Int) + 1 = 0 := by omega
        have x0 := cell_below (below_alloc wr0 (.cells #[.int .i64 a', .int .i64 b, .int .i64 c'] 29)) (show wr0.cell? ⟨w.heap.size, 0, none⟩ = some (.int .i64 x) by rw [cell_of_row wr0 _ 0 _ _ _ XW.out]; rfl)
        have x1 := cell_below (below_alloc wr0 (.cells #[.int .i64 a', .int .i64 b, .int .i64 c'] 29)) (show wr0.cell? ⟨w.heap.size, 1, none⟩ = some (.int .i64 y) by rw [cell_of_row wr0 _ 1 _ _ _ XW.out]; rfl)
        have x2 := cell_below (below_alloc wr0 (.cells #[.int .i64 a', .int .i64 b, .int .i64 c'] 29)) (show wr0.cell? ⟨w.heap.size, 2, none⟩ = some (.int .i64 z) by rw [cell_of_row wr0 _ 2 _ _ _ XW.out]; rfl)
        have x3 := cell_below (below_alloc wr0 (.cells #[.int .i64 a', .int .i64 b, .int .i64 c'] 29)) hfk
        clear htb m1 m2 m3 m4 p1 p2 p3 fb sb
        go_wp2
        go_quiet ((go_at_call 69; first | with_reducible exact quiet_same (HX1.out _) | with_reducible exact quiet_same (HY1.out _) | with_reducible exact quiet_same (HZ1.out _)))
        go_wp2
        go_roundw
        case rel => exact ⟨k + 1, by omega, by go_num, by rw [HT.out, HTm.out], below_drewN (HB0.out.alloc hwr _) _⟩
        case measure => simp [intOf]; omega
    · obtain rfl : k = 10 := by omega
      have zb0 := sb.1
      have zb1 : slTo fs x y z 0 10 ≤ 25000000000000000 := by have := sb.2; omega
      have O0r := hid (O0e.out.below HB0.out)
      have X0r := hid ((HB0.out.block _ (by omega)).trans X0e.out)
      have B0r := hid (below_trans B0e.out HB0.out)
      have S0r : w.heap.size + 1 ≤ wr0.heap.size := by have := HB0.out.size; omega
      clear sb HT hlt hk
      generalize hs0 : slTo fs x y z 0 10 = s0 at *
      have HS0 := hid hs0
      clear hs0
      go_wp2_with (first | (go_at_call 67; refine (mod_ok' s0 p _ hp hp2 zb0 (by omega)).mono ?_; rintro e w' ⟨rfl, rfl⟩) | (at_builtin; refine append_int _ _ rfl rfl (w.heap.size + 1) _ [] (s0 % p) ⟨wr0.heap.size, 0, none⟩ rfl rfl (O0r.out.alloc _) (World.cell?_alloc_at _ _ _ _ rfl) (by simp) (by simp; omega) ?_; intro v1 u1 hown hgrow; have O1 := hid (show OI u1 (w.heap.size + 1) v1 [s0 % p] from hown); have X1 := hid ((hgrow.block _ (by simp; omega) (fun e => by have := own_base O0r.out _ e.symm; omega)).trans ((heap_alloc_old _ _ (by omega)).trans X0r.out)); have B1 := hid (below_append B0r.out B0r.out.size (OI.mono O0r.out (by omega : w.heap.size ≤ w.heap.size + 1)) hgrow); have S1 := hid (show w.heap.size + 1 ≤ u1.heap.size by have := hgrow.size; simp at this; omega); clear hown hgrow))
      clear zb0 zb1
      -- round 1
      rw [rounds_succ]
      go_wp2_with fail
      refine (exponents_ok _).mono ?_
      rintro e w1 ⟨ve, rfl, oe, be⟩
      have OE1 := hid oe
      have BE1 := hid be
      clear oe be
      obtain ⟨ge1, capE1, rfl, hge1, hgl1, hce1⟩ := OE1.out.shape (by decide)
      have CE1 := hid hce1
      have X1e := hid ((BE1.out.block _ (by have := S1.out; omega)).trans X1.out)
      have O1e := hid (O1.out.below BE1.out)
      have B1e := hid (below_trans B1.out BE1.out)
      have S1e : w.heap.size + 1 ≤ w1.heap.size := by have := S1.out; have := BE1.out.size; omega
      clear hce1
      go_wp2
      go_loopw [9, 19] (fun s t wr => ∃ k : Nat, k ≤ 10 ∧ t = .int .i64 k ∧ s = .int .i64 (slTo fs x y z 1 k) ∧ Below w1.heap.size w1 wr) (fun _ t _ => 10 - (intOf t).toNat)
      case atStart => exact ⟨0, by omega, rfl, rfl, Below.refl _ _⟩
      case round =>
        obtain ⟨k, hk, rfl, rfl, hb⟩ := hrel
        obtain ⟨wr1, hwe⟩ : ∃ W : World, W = wr := ⟨wr, rfl⟩
        subst hwe
        have HB1 := hid hb
        clear hb
        have sb := SB.out 1 (by omega) k hk
        have HT := hid (show slTo fs x y z 1 (k + 1) = slTo fs x y z 1 k + slTerm fs x y z 1 k from rfl)
        by_cases hlt : k < 10
        · have hcell := CE1.out k (by show k < 10; exact hlt)
          rw [exN_eq k hlt] at hcell
          have e0 := cell_below HB1.out hcell.1
          have e1 := cell_below HB1.out hcell.2.1
          have e2 := cell_below HB1.out hcell.2.2
          simp only at e0 e1 e2
          have hbd := exN_bd k hlt
          have htb := TB.out 1 (by omega) k hlt
          have HTm := hid (show slTerm fs x y z 1 k = fs.getD k 0 * (((exN k).2.1 : Nat) : Int) * x ^ ((exN k).1) * y ^ (((exN k).2.1 - 1)) * z ^ ((exN k).2.2) from rfl)
          have hfk := cell_below HB1.out (cell_below B1e.out (HC.out k hlt))
          have fb := HF.out k
          have XW := hid ((HB1.out.block _ (by omega)).trans X1e.out)
          have hwr := HB1.out.size
          clear hcell
          generalize slTo fs x y z 1 k = s at *
          generalize slTerm fs x y z 1 k = tm at *
          generalize fs.getD k 0 = f at *
          generalize (exN k).1 = a at *
          generalize (exN k).2.1 = b at *
          generalize (exN k).2.2 = c' at *
          by_cases hv : b = 0
          · subst hv
            have htm0 : tm = 0 := by rw [HTm.out]; simp
            have HTZ := hid htm0
            clear htb htm0
            simp only [Int.natCast_zero] at e1
            go_wp2
            go_roundw
            case rel => exact ⟨k + 1, by omega, by go_num, by rw [HT.out, HTZ.out, Int.add_zero], HB1.out.alloc hwr _⟩
            case measure => simp [intOf]; omega
          · obtain ⟨b', rfl⟩ : ∃ q, b = q + 1 := ⟨b - 1, by omega⟩
            rw [show (((b' + 1 : Nat)) : Int) = (b' : Int) + 1 by simp] at e1 HTm
            rw [Nat.add_sub_cancel] at HTm
            have p1 := PX.out a (by omega)
            have p2 := PY.out b' (by omega)
            have p3 := PZ.out c' (by omega)
            have HX1 := hid (fun W => HX.out a W (by omega))
            have HY1 := hid (fun W => HY.out b' W (by omega))
            have HZ1 := hid (fun W => HZ.out c' W (by omega))
            generalize x ^ a = X at *
            generalize y ^ b' = Y at *
            generalize z ^ c' = Z at *
            have m1 := mul_bd fb.1 (show (0 : Int) ≤ (b' : Int) + 1 by omega) fb.2 (show (b' : Int) + 1 ≤ 3 by omega)
            have m2 := mul_bd m1.1 p1.1 m1.2 p1.2
            have m3 := mul_bd m2.1 p2.1 m2.2 p2.2
            have m4 := mul_bd m3.1 p3.1 m3.2 p3.2
            have q1 := m1.1
            have q2 := m1.2
            have q3 := m2.1
            have q4 := m2.2
            have q5 := m3.1
            have q6 := m3.2
            have q7 := m4.1
            have q8 := m4.2
            have q9 := sb.1
            have q10 : s ≤ 25000000000000000 := by have := sb.2; omega
            have hnz : ¬ (b' : Int) + 1 = 0 := by omega
            have x0 := cell_below (below_alloc wr1 (.cells #[.int .i64 a, .int .i64 b', .int .i64 c'] 29)) (show wr1.cell? ⟨w.heap.size, 0, none⟩ = some (.int .i64 x) by rw [cell_of_row wr1 _ 0 _ _ _ XW.out]; rfl)
            have x1 := cell_below (below_alloc wr1 (.cells #[.int .i64 a, .int .i64 b', .int .i64 c'] 29)) (show wr1.cell? ⟨w.heap.size, 1, none⟩ = some (.int .i64 y) by rw [cell_of_row wr1 _ 1 _ _ _ XW.out]; rfl)
            have x2 := cell_below (below_alloc wr1 (.cells #[.int .i64 a, .int .i64 b', .int .i64 c'] 29)) (show wr1.cell? ⟨w.heap.size, 2, none⟩ = some (.int .i64 z) by rw [cell_of_row wr1 _ 2 _ _ _ XW.out]; rfl)
            have x3 := cell_below (below_alloc wr1 (.cells #[.int .i64 a, .int .i64 b', .int .i64 c'] 29)) hfk
            clear htb m1 m2 m3 m4 p1 p2 p3 fb sb
            go_wp2
            go_quiet ((go_at_call 69; first | with_reducible exact quiet_same (HX1.out _) | with_reducible exact quiet_same (HY1.out _) | with_reducible exact quiet_same (HZ1.out _)))
            go_wp2
            go_roundw
            case rel => exact ⟨k + 1, by omega, by go_num, by rw [HT.out, HTm.out], below_drewN (HB1.out.alloc hwr _) _⟩
            case measure => simp [intOf]; omega
        · obtain rfl : k = 10 := by omega
          have zb0 := sb.1
          have zb1 : slTo fs x y z 1 10 ≤ 25000000000000000 := by have := sb.2; omega
          have O1r := hid (O1e.out.below HB1.out)
          have X1r := hid ((HB1.out.block _ (by omega)).trans X1e.out)
          have B1r := hid (below_trans B1e.out HB1.out)
          have S1r : w.heap.size + 1 ≤ wr1.heap.size := by have := HB1.out.size; omega
          clear sb HT hlt hk
          generalize hs1 : slTo fs x y z 1 10 = s1 at *
          have HS1 := hid hs1
          clear hs1
          go_wp2_with (first | (go_at_call 67; refine (mod_ok' s1 p _ hp hp2 zb0 (by omega)).mono ?_; rintro e w' ⟨rfl, rfl⟩) | (at_builtin; refine append_int _ _ rfl rfl (w.heap.size + 1) _ [s0 % p] (s1 % p) ⟨wr1.heap.size, 0, none⟩ rfl rfl (O1r.out.alloc _) (World.cell?_alloc_at _ _ _ _ rfl) (by simp) (by simp; omega) ?_; intro v2 u2 hown hgrow; have O2 := hid (show OI u2 (w.heap.size + 1) v2 [s0 % p, s1 % p] from hown); have X2 := hid ((hgrow.block _ (by simp; omega) (fun e => by have := own_base O1r.out _ e.symm; omega)).trans ((heap_alloc_old _ _ (by omega)).trans X1r.out)); have B2 := hid (below_append B1r.out B1r.out.size (OI.mono O1r.out (by omega : w.heap.size ≤ w.heap.size + 1)) hgrow); have S2 := hid (show w.heap.size + 1 ≤ u2.heap.size by have := hgrow.size; simp at this; omega); clear hown hgrow))
          clear zb0 zb1
          -- round 2
          rw [rounds_succ]
          go_wp2_with fail
          refine (exponents_ok _).mono ?_
          rintro e w2 ⟨ve, rfl, oe, be⟩
          have OE2 := hid oe
          have BE2 := hid be
          clear oe be
          obtain ⟨ge2, capE2, rfl, hge2, hgl2, hce2⟩ := OE2.out.shape (by decide)
          have CE2 := hid hce2
          have X2e := hid ((BE2.out.block _ (by have := S2.out; omega)).trans X2.out)
          have O2e := hid (O2.out.below BE2.out)
          have B2e := hid (below_trans B2.out BE2.out)
          have S2e : w.heap.size + 1 ≤ w2.heap.size := by have := S2.out; have := BE2.out.size; omega
          clear hce2
          go_wp2
          go_loopw [9, 19] (fun s t wr => ∃ k : Nat, k ≤ 10 ∧ t = .int .i64 k ∧ s = .int .i64 (slTo fs x y z 2 k) ∧ Below w2.heap.size w2 wr) (fun _ t _ => 10 - (intOf t).toNat)
          case atStart => exact ⟨0, by omega, rfl, rfl, Below.refl _ _⟩
          case round =>
            obtain ⟨k, hk, rfl, rfl, hb⟩ := hrel
            obtain ⟨wr2, hwe⟩ : ∃ W : World, W = wr := ⟨wr, rfl⟩
            subst hwe
            have HB2 := hid hb
            clear hb
            have sb := SB.out 2 (by omega) k hk
            have HT := hid (show slTo fs x y z 2 (k + 1) = slTo fs x y z 2 k + slTerm fs x y z 2 k from rfl)
            by_cases hlt : k < 10
            · have hcell := CE2.out k (by show k < 10; exact hlt)
              rw [exN_eq k hlt] at hcell
              have e0 := cell_below HB2.out hcell.1
              have e1 := cell_below HB2.out hcell.2.1
              have e2 := cell_below HB2.out hcell.2.2
              simp only at e0 e1 e2
              have hbd := exN_bd k hlt
              have htb := TB.out 2 (by omega) k hlt
              have HTm := hid (show slTerm fs x y z 2 k = fs.getD k 0 * (((exN k).2.2 : Nat) : Int) * x ^ ((exN k).1) * y ^ ((exN k).2.1) * z ^ (((exN k).2.2 - 1)) from rfl)
              have hfk := cell_below HB2.out (cell_below B2e.out (HC.out k hlt))
              have fb := HF.out k
              have XW := hid ((HB2.out.block _ (by omega)).trans X2e.out)
              have hwr := HB2.out.size
              clear hcell
              generalize slTo fs x y z 2 k = s at *
              generalize slTerm fs x y z 2 k = tm at *
              generalize fs.getD k 0 = f at *
              generalize (exN k).1 = a at *
              generalize (exN k).2.1 = b at *
              generalize (exN k).2.2 = c' at *
              by_cases hv : c' = 0
              · subst hv
                have htm0 : tm = 0 := by rw [HTm.out]; simp
                have HTZ := hid htm0
                clear htb htm0
                simp only [Int.natCast_zero] at e2
                go_wp2
                go_roundw
                case rel => exact ⟨k + 1, by omega, by go_num, by rw [HT.out, HTZ.out, Int.add_zero], HB2.out.alloc hwr _⟩
                case measure => simp [intOf]; omega
              · obtain ⟨d', rfl⟩ : ∃ q, c' = q + 1 := ⟨c' - 1, by omega⟩
                rw [show (((d' + 1 : Nat)) : Int) = (d' : Int) + 1 by simp] at e2 HTm
                rw [Nat.add_sub_cancel] at HTm
                have p1 := PX.out a (by omega)
                have p2 := PY.out b (by omega)
                have p3 := PZ.out d' (by omega)
                have HX1 := hid (fun W => HX.out a W (by omega))
                have HY1 := hid (fun W => HY.out b W (by omega))
                have HZ1 := hid (fun W => HZ.out d' W (by omega))
                generalize x ^ a = X at *
                generalize y ^ b = Y at *
                generalize z ^ d' = Z at *
                have m1 := mul_bd fb.1 (show (0 : Int) ≤ (d' : Int) + 1 by omega) fb.2 (show (d' : Int) + 1 ≤ 3 by omega)
                have m2 := mul_bd m1.1 p1.1 m1.2 p1.2
                have m3 := mul_bd m2.1 p2.1 m2.2 p2.2
                have m4 := mul_bd m3.1 p3.1 m3.2 p3.2
                have q1 := m1.1
                have q2 := m1.2
                have q3 := m2.1
                have q4 := m2.2
                have q5 := m3.1
                have q6 := m3.2
                have q7 := m4.1
                have q8 := m4.2
                have q9 := sb.1
                have q10 : s ≤ 25000000000000000 := by have := sb.2; omega
                have hnz : ¬ (d' : Int) + 1 = 0 := by omega
                have x0 := cell_below (below_alloc wr2 (.cells #[.int .i64 a, .int .i64 b, .int .i64 d'] 29)) (show wr2.cell? ⟨w.heap.size, 0, none⟩ = some (.int .i64 x) by rw [cell_of_row wr2 _ 0 _ _ _ XW.out]; rfl)
                have x1 := cell_below (below_alloc wr2 (.cells #[.int .i64 a, .int .i64 b, .int .i64 d'] 29)) (show wr2.cell? ⟨w.heap.size, 1, none⟩ = some (.int .i64 y) by rw [cell_of_row wr2 _ 1 _ _ _ XW.out]; rfl)
                have x2 := cell_below (below_alloc wr2 (.cells #[.int .i64 a, .int .i64 b, .int .i64 d'] 29)) (show wr2.cell? ⟨w.heap.size, 2, none⟩ = some (.int .i64 z) by rw [cell_of_row wr2 _ 2 _ _ _ XW.out]; rfl)
                have x3 := cell_below (below_alloc wr2 (.cells #[.int .i64 a, .int .i64 b, .int .i64 d'] 29)) hfk
                clear htb m1 m2 m3 m4 p1 p2 p3 fb sb
                go_wp2
                go_quiet ((go_at_call 69; first | with_reducible exact quiet_same (HX1.out _) | with_reducible exact quiet_same (HY1.out _) | with_reducible exact quiet_same (HZ1.out _)))
                go_wp2
                go_roundw
                case rel => exact ⟨k + 1, by omega, by go_num, by rw [HT.out, HTm.out], below_drewN (HB2.out.alloc hwr _) _⟩
                case measure => simp [intOf]; omega
            · obtain rfl : k = 10 := by omega
              have zb0 := sb.1
              have zb1 : slTo fs x y z 2 10 ≤ 25000000000000000 := by have := sb.2; omega
              have O2r := hid (O2e.out.below HB2.out)
              have X2r := hid ((HB2.out.block _ (by omega)).trans X2e.out)
              have B2r := hid (below_trans B2e.out HB2.out)
              have S2r : w.heap.size + 1 ≤ wr2.heap.size := by have := HB2.out.size; omega
              clear sb HT hlt hk
              generalize hs2 : slTo fs x y z 2 10 = s2 at *
              have HS2 := hid hs2
              clear hs2
              go_wp2_with (first | (go_at_call 67; refine (mod_ok' s2 p _ hp hp2 zb0 (by omega)).mono ?_; rintro e w' ⟨rfl, rfl⟩) | (at_builtin; refine append_int _ _ rfl rfl (w.heap.size + 1) _ [s0 % p, s1 % p] (s2 % p) ⟨wr2.heap.size, 0, none⟩ rfl rfl (O2r.out.alloc _) (World.cell?_alloc_at _ _ _ _ rfl) (by simp) (by simp; omega) ?_; intro v3 u3 hown hgrow; have O3 := hid (show OI u3 (w.heap.size + 1) v3 [s0 % p, s1 % p, s2 % p] from hown); have X3 := hid ((hgrow.block _ (by simp; omega) (fun e => by have := own_base O2r.out _ e.symm; omega)).trans ((heap_alloc_old _ _ (by omega)).trans X2r.out)); have B3 := hid (below_append B2r.out B2r.out.size (OI.mono O2r.out (by omega : w.heap.size ≤ w.heap.size + 1)) hgrow); have S3 := hid (show w.heap.size + 1 ≤ u3.heap.size by have := hgrow.size; simp at this; omega); clear hown hgrow))
              clear zb0 zb1
              rw [rounds_succ]
              go_wp2
              go_ret
              refine ⟨_, rfl, ?_, B3.out⟩
              have h := OI.mono O3.out (by omega : w.heap.size ≤ w.heap.size + 1)
              rwa [← HS0.out, ← HS1.out, ← HS2.out] at h

end Go.Proofs.Ytkddhlgohjojpaa
