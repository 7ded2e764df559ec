/-
  The derivative of a cubic along a point, as the reference has it.
-/
import Derived.Test.YtkddhlgohjojpaaSl
namespace Go.Proofs.Ytkddhlgohjojpaa
open Go.RowKit
set_option linter.unusedVariables false
set_option linter.unusedSimpArgs false

def vAt (l m n : Int) (j : Nat) : Int := [l, m, n].getD j 0
def dT (fs : List Int) (x y z l m n : Int) (i : Nat) : Nat → Int
  | 0 => 0
  | j + 1 => dT fs x y z l m n i j + slTerm fs x y z j i * vAt l m n j
def sT (fs : List Int) (x y z l m n : Int) : Nat → Int
  | 0 => 0
  | i + 1 => sT fs x y z l m n i + dT fs x y z l m n i 3

theorem mul_l (p a b : Int) : (a % p * b) % p = (a * b) % p := by rw [Int.mul_emod, Int.emod_emod, ← Int.mul_emod]
theorem mul_r (p a b : Int) : (a * (b % p)) % p = (a * b) % p := by rw [Int.mul_emod, Int.emod_emod, ← Int.mul_emod]
theorem chainP (p E f V X Y Z : Int) : ((((E * f % p) * V % p) * (X % p) % p) * (Y % p) % p) * (Z % p) % p = (f * E * X * Y * Z * V) % p := by
  rw [mul_l p (E * f) V, mul_r p _ X, mul_l p (E * f * V) X, mul_r p _ Y, mul_l p (E * f * V * X) Y, mul_r p _ Z, mul_l p (E * f * V * X * Y) Z]
  congr 1
  ac_rfl

theorem sT_eq (fs : List Int) (x y z l m n : Int) (k : Nat) : sT fs x y z l m n k = slTo fs x y z 0 k * l + slTo fs x y z 1 k * m + slTo fs x y z 2 k * n := by
  induction k with
  | zero => simp [sT, slTo]
  | succ k ih =>
    rw [sT, ih, slTo, slTo, slTo, Int.add_mul, Int.add_mul, Int.add_mul]
    show _ + (0 + slTerm fs x y z 0 k * l + slTerm fs x y z 1 k * m + slTerm fs x y z 2 k * n) = _
    omega
theorem slope_same (p : Int) (fs : List Int) (x y z l m n : Int) : sT fs x y z l m n 10 % p = dotTo [slTo fs x y z 0 10 % p, slTo fs x y z 1 10 % p, slTo fs x y z 2 10 % p] [l, m, n] 3 % p := by
  rw [sT_eq]
  show _ = (0 + slTo fs x y z 0 10 % p * l + slTo fs x y z 1 10 % p * m + slTo fs x y z 2 10 % p * n) % p
  generalize slTo fs x y z 0 10 = a
  generalize slTo fs x y z 1 10 = b
  generalize slTo fs x y z 2 10 = c
  rw [Int.zero_add]
  rw [Int.add_emod (a % p * l + b % p * m), Int.add_emod (a % p * l), mul_l, mul_l, mul_l, ← Int.add_emod (a * l), ← Int.add_emod]


theorem l5Power_ok' (p x : Int) (k : Nat) (w : World) (hp : 2 ≤ p) (hp2 : p ≤ 31) (h0 : 0 ≤ x) (h1 : x ≤ 31) (hk : k ≤ 3) :
    Calls Try.prog 74 #[.int .i64 p, .int .i64 x, .int .i64 k] w fun e w' => e = .returned (.int .i64 (powP p x k)) ∧ w = w' := (l5Power_ok p x k w hp hp2 h0 h1 hk).mono fun _ _ h => ⟨h.1, h.2.symm⟩

set_option maxRecDepth 100000 in
set_option maxHeartbeats 8000000 in
theorem l5Slope_ok (p : Int) (A : Option Addr) (c : Nat) (fs : List Int) (x y z l m n : Int) (w : World) (hr : RI w A 10 fs) (hp : 2 ≤ p) (hp2 : p ≤ 31) (hf : ∀ u ∈ fs, 0 ≤ u ∧ u ≤ 31) (hx : 0 ≤ x ∧ x ≤ 31) (hy : 0 ≤ y ∧ y ≤ 31) (hz : 0 ≤ z ∧ z ≤ 31) (hl : 0 ≤ l ∧ l ≤ 31) (hm : 0 ≤ m ∧ m ≤ 31) (hn : 0 ≤ n ∧ n ≤ 31) :
    Calls Try.prog 58 #[.int .i64 p, .slice A 10 c, .agg #[.int .i64 x, .int .i64 y, .int .i64 z], .agg #[.int .i64 l, .int .i64 m, .int .i64 n]] w fun e w' => e = .returned (.int .i64 (sT fs x y z l m n 10 % p)) ∧ Below w.heap.size w w' := by
  obtain ⟨hlen, _, bb, off, hA, hc⟩ := hr
  obtain rfl : A = some ⟨bb, off, none⟩ := by rcases hA with h | h; omega; exact h
  have HC := hid hc
  have HF := hid (fun i => getD_bd (by omega) hf i)
  have PX := hid (powP_bd p x hp)
  have PY := hid (powP_bd p y hp)
  have PZ := hid (powP_bd p z hp)
  have HX := hid (fun k W hk => l5Power_ok' p x k W hp hp2 hx.1 hx.2 hk)
  have HY := hid (fun k W hk => l5Power_ok' p y k W hp hp2 hy.1 hy.2 hk)
  have HZ := hid (fun k W hk => l5Power_ok' p z k W hp hp2 hz.1 hz.2 hk)
  have B0 := hid (show Below w.heap.size w ((w.alloc (.cells #[.int .i64 x, .int .i64 y, .int .i64 z] 31)).alloc (.cells #[.int .i64 l, .int .i64 m, .int .i64 n] 29)) from below_trans (below_alloc _ _) (below_alloc _ _))
  have C0 := hid (show ((w.alloc (.cells #[.int .i64 x, .int .i64 y, .int .i64 z] 31)).alloc (.cells #[.int .i64 l, .int .i64 m, .int .i64 n] 29)).cell? ⟨w.heap.size, 0, none⟩ = some (.int .i64 x) ∧ ((w.alloc (.cells #[.int .i64 x, .int .i64 y, .int .i64 z] 31)).alloc (.cells #[.int .i64 l, .int .i64 m, .int .i64 n] 29)).cell? ⟨w.heap.size, 1, none⟩ = some (.int .i64 y) ∧ ((w.alloc (.cells #[.int .i64 x, .int .i64 y, .int .i64 z] 31)).alloc (.cells #[.int .i64 l, .int .i64 m, .int .i64 n] 29)).cell? ⟨w.heap.size, 2, none⟩ = some (.int .i64 z) by simp [go_sem])
  have D0 := hid (show ((w.alloc (.cells #[.int .i64 x, .int .i64 y, .int .i64 z] 31)).alloc (.cells #[.int .i64 l, .int .i64 m, .int .i64 n] 29)).cell? ⟨w.heap.size + 1, 0, none⟩ = some (.int .i64 l) ∧ ((w.alloc (.cells #[.int .i64 x, .int .i64 y, .int .i64 z] 31)).alloc (.cells #[.int .i64 l, .int .i64 m, .int .i64 n] 29)).cell? ⟨w.heap.size + 1, 1, none⟩ = some (.int .i64 m) ∧ ((w.alloc (.cells #[.int .i64 x, .int .i64 y, .int .i64 z] 31)).alloc (.cells #[.int .i64 l, .int .i64 m, .int .i64 n] 29)).cell? ⟨w.heap.size + 1, 2, none⟩ = some (.int .i64 n) by simp [go_sem])
  clear hc hf hx hy hz hA
  go_enter Try.func58, Try.ntmps58
  go_wp2_with fail
  refine (l5Powers_ok _).mono ?_
  rintro e w1 ⟨ve, rfl, oe, be⟩
  obtain ⟨ge, capE, rfl, hge, hgl, hce⟩ := oe.shape (by decide)
  have CE := hid hce
  have B1 := hid (below_trans B0.out be)
  have c0 := hid (cell_below be C0.out.1)
  have c1 := hid (cell_below be C0.out.2.1)
  have c2 := hid (cell_below be C0.out.2.2)
  have d0 := hid (cell_below be D0.out.1)
  have d1 := hid (cell_below be D0.out.2.1)
  have d2 := hid (cell_below be D0.out.2.2)
  clear hce oe be
  go_wp2
  go_loopw [9, 11] (fun s t wr => ∃ i : Nat, i ≤ 10 ∧ t = .int .i64 i ∧ s = .int .i64 (sT fs x y z l m n i % p) ∧ Below w1.heap.size w1 wr) (fun _ t _ => 10 - (intOf t).toNat)
  case atStart => exact ⟨0, by omega, rfl, by simp [sT], Below.refl _ _⟩
  case round =>
    obtain ⟨i, hi, rfl, rfl, hb⟩ := hrel
    have HB := hid hb
    clear hb
    have hs0 : 0 ≤ sT fs x y z l m n i % p := Int.emod_nonneg _ (by omega)
    have hs1 : sT fs x y z l m n i % p < p := Int.emod_lt_of_pos _ (by omega)
    by_cases hlt : i < 10
    · have HS := hid (show sT fs x y z l m n (i + 1) = sT fs x y z l m n i + dT fs x y z l m n i 3 from rfl)
      have hcell := CE.out i (by show i < 10; exact hlt)
      rw [exN_eq i hlt] at hcell
      simp only at hcell
      have HCell := hid hcell
      have hbd := exN_bd i hlt
      have HFi := hid (HC.out i hlt)
      have fb := HF.out i
      have HD := hid (fun j => (rfl : dT fs x y z l m n i (j + 1) = dT fs x y z l m n i j + slTerm fs x y z j i * vAt l m n j))
      have HT0 := hid (show slTerm fs x y z 0 i = fs.getD i 0 * (((exN i).1 : Nat) : Int) * x ^ ((exN i).1 - 1) * y ^ (exN i).2.1 * z ^ (exN i).2.2 from rfl)
      have HT1 := hid (show slTerm fs x y z 1 i = fs.getD i 0 * (((exN i).2.1 : Nat) : Int) * x ^ (exN i).1 * y ^ ((exN i).2.1 - 1) * z ^ (exN i).2.2 from rfl)
      have HT2 := hid (show slTerm fs x y z 2 i = fs.getD i 0 * (((exN i).2.2 : Nat) : Int) * x ^ (exN i).1 * y ^ (exN i).2.1 * z ^ ((exN i).2.2 - 1) from rfl)
      generalize sT fs x y z l m n i = S at *
      generalize fs.getD i 0 = f at *
      generalize (exN i).1 = a at *
      generalize (exN i).2.1 = b at *
      generalize (exN i).2.2 = c' at *
      clear hcell
      go_wp2
      go_loopw [9, 12] (fun s t wr => ∃ j : Nat, j ≤ 3 ∧ t = .int .i64 j ∧ s = .int .i64 ((S + dT fs x y z l m n i j) % p) ∧ Below w1.heap.size w1 wr) (fun _ t _ => 3 - (intOf t).toNat)
      case atStart => exact ⟨0, by omega, rfl, by simp [dT], HB.out⟩
      case round =>
        obtain ⟨j, hj, rfl, rfl, hb⟩ := hrel
        have HBj := hid hb
        clear hb
        have hu0 : 0 ≤ (S + dT fs x y z l m n i j) % p := Int.emod_nonneg _ (by omega)
        have hu1 : (S + dT fs x y z l m n i j) % p < p := Int.emod_lt_of_pos _ (by omega)
        have HDj := hid (show dT fs x y z l m n i (j + 1) = dT fs x y z l m n i j + slTerm fs x y z j i * vAt l m n j from rfl)
        have e0 := cell_below HBj.out HCell.out.1
        have e1 := cell_below HBj.out HCell.out.2.1
        have e2 := cell_below HBj.out HCell.out.2.2
        have hwr := HBj.out.size
        by_cases hjt : j < 3
        · have HSm := hid (fun (t : Int) => show (S + (dT fs x y z l m n i j + t)) % p = ((S + dT fs x y z l m n i j) % p + t % p) % p by rw [← Int.add_assoc, Int.add_emod])
          generalize hug : (S + dT fs x y z l m n i j) % p = u at *
          have HU := hid hug
          clear hug
          rcases (show j = 0 ∨ j = 1 ∨ j = 2 by omega) with rfl | rfl | rfl
          · have hfk := cell_below HBj.out (cell_below B1.out HFi.out)
            have vk := cell_below HBj.out d0.out
            have xk0 := cell_below HBj.out c0.out
            have xk1 := cell_below HBj.out c1.out
            have xk2 := cell_below HBj.out c2.out
            have hltw : w.heap.size < wr.heap.size := World.block_lt_of_cell? wr ⟨w.heap.size, 0, none⟩ xk0
            by_cases hv : a = 0
            · subst hv
              have hD' : slTerm fs x y z 0 i * vAt l m n 0 = 0 := by rw [HT0.out]; simp
              have HDD := hid hD'
              clear hD' hfk vk xk0 xk1 xk2
              simp only [Int.natCast_zero] at e0
              go_wp2
              go_roundw
              case rel => exact ⟨0 + 1, by omega, by go_num, by rw [HDj.out, HDD.out, Int.add_zero, HU.out], HBj.out.alloc hwr _⟩
              case measure => simp [intOf]
            · obtain ⟨a', rfl⟩ : ∃ q, a = q + 1 := ⟨a - 1, by omega⟩
              rw [show (((a' + 1 : Nat)) : Int) = (a' : Int) + 1 by simp] at e0 HT0
              rw [Nat.add_sub_cancel] at HT0
              have hg : (((((((a' : Int) + 1) * f % p) * l % p) * powP p x a' % p) * powP p y b % p) * powP p z c') % p = (slTerm fs x y z 0 i * vAt l m n 0) % p := by
                rw [HT0.out, powP_eq p x hp, powP_eq p y hp, powP_eq p z hp, chainP]
                rfl
              have HG := hid hg
              have HSt := hid (HSm.out (slTerm fs x y z 0 i * vAt l m n 0))
              rw [← hg] at HSt
              have p1 := PX.out a'
              have p2 := PY.out b
              have p3 := PZ.out c'
              have HX1 := hid (fun W => HX.out a' W (by omega))
              have HY1 := hid (fun W => HY.out b W (by omega))
              have HZ1 := hid (fun W => HZ.out c' W (by omega))
              clear hg HG HSm
              generalize powP p x a' = X at *
              generalize powP p y b = Y at *
              generalize powP p z c' = Z at *
              have k1 := mul_bd (show (0 : Int) ≤ (a' : Int) + 1 by omega) fb.1 (show (a' : Int) + 1 ≤ 3 by omega) fb.2
              have r1 := rem_rng' (p := p) (n := ((a' : Int) + 1) * f) (by omega)
              have t1 : (((a' : Int) + 1) * f).tmod p = ((a' : Int) + 1) * f % p := Int.tmod_eq_emod_of_nonneg k1.1
              generalize ((a' : Int) + 1) * f % p = g1 at *
              have k2 := mul_bd r1.1 hl.1 (show g1 ≤ 31 by omega) hl.2
              have r2 := rem_rng' (p := p) (n := g1 * l) (by omega)
              have t2 : (g1 * l).tmod p = g1 * l % p := Int.tmod_eq_emod_of_nonneg k2.1
              generalize g1 * l % p = g2 at *
              have k3 := mul_bd r2.1 p1.1 (show g2 ≤ 31 by omega) (show X ≤ 31 by omega)
              have r3 := rem_rng' (p := p) (n := g2 * X) (by omega)
              have t3 : (g2 * X).tmod p = g2 * X % p := Int.tmod_eq_emod_of_nonneg k3.1
              generalize g2 * X % p = g3 at *
              have k4 := mul_bd r3.1 p2.1 (show g3 ≤ 31 by omega) (show Y ≤ 31 by omega)
              have r4 := rem_rng' (p := p) (n := g3 * Y) (by omega)
              have t4 : (g3 * Y).tmod p = g3 * Y % p := Int.tmod_eq_emod_of_nonneg k4.1
              generalize g3 * Y % p = g4 at *
              have k5 := mul_bd r4.1 p3.1 (show g4 ≤ 31 by omega) (show Z ≤ 31 by omega)
              have r5 := rem_rng' (p := p) (n := g4 * Z) (by omega)
              have t5 : (g4 * Z).tmod p = g4 * Z % p := Int.tmod_eq_emod_of_nonneg k5.1
              generalize g4 * Z % p = g5 at *
              obtain ⟨k1a, k1b⟩ := k1
              obtain ⟨k2a, k2b⟩ := k2
              obtain ⟨k3a, k3b⟩ := k3
              obtain ⟨k4a, k4b⟩ := k4
              obtain ⟨k5a, k5b⟩ := k5
              obtain ⟨r5a, r5b⟩ := r5
              have hnz : ¬ (a' : Int) + 1 = 0 := by omega
              have f1 := cell_below (below_alloc wr (.cells #[.int .i64 ((a' : Int) + 1), .int .i64 b, .int .i64 c'] 29)) hfk
              have f2 := cell_below (below_alloc wr (.cells #[.int .i64 ((a' : Int) + 1), .int .i64 b, .int .i64 c'] 29)) vk
              have fo0 := cell_below (below_alloc wr (.cells #[.int .i64 ((a' : Int) + 1), .int .i64 b, .int .i64 c'] 29)) xk0
              have fo1 := cell_below (below_alloc wr (.cells #[.int .i64 ((a' : Int) + 1), .int .i64 b, .int .i64 c'] 29)) xk1
              have fo2 := cell_below (below_alloc wr (.cells #[.int .i64 ((a' : Int) + 1), .int .i64 b, .int .i64 c'] 29)) xk2
              clear hfk vk xk0 xk1 xk2 r1 r2 r3 r4 p1 p2 p3 fb
              go_wp2
              go_quiet (fail)
              go_wp2
              have hneb : wr.heap.size ≠ w.heap.size := by omega
              have HWB := hid ((below_drewN (HBj.out.alloc hwr (.cells #[.int .i64 ((a' : Int) + 1), .int .i64 b, .int .i64 c'] 29)) nq).setCell (p := ⟨wr.heap.size, 0, none⟩) hwr (.int .i64 a'))
              have HWX := hid (show (((wr.alloc (.cells #[.int .i64 ((a' : Int) + 1), .int .i64 b, .int .i64 c'] 29)).drewN nq).setCell ⟨wr.heap.size, 0, none⟩ (.int .i64 a')).heap[wr.heap.size]? = some (.cells #[.int .i64 a', .int .i64 b, .int .i64 c'] 29 (0, 0)) by rw [heap_setCell_same ((wr.alloc (.cells #[.int .i64 ((a' : Int) + 1), .int .i64 b, .int .i64 c'] 29)).drewN nq) wr.heap.size 0 _ _ _ (heap_alloc_new wr (.cells #[.int .i64 ((a' : Int) + 1), .int .i64 b, .int .i64 c'] 29))]; rfl)
              have y3 := (World.cell?_setCell_other (v := .int .i64 a') ((wr.alloc (.cells #[.int .i64 ((a' : Int) + 1), .int .i64 b, .int .i64 c'] 29)).drewN nq) ⟨wr.heap.size, 0, none⟩ ⟨w.heap.size, 0, none⟩ (fun e => hneb (by injection e with e))).trans fo0
              have y4 := (World.cell?_setCell_other (v := .int .i64 a') ((wr.alloc (.cells #[.int .i64 ((a' : Int) + 1), .int .i64 b, .int .i64 c'] 29)).drewN nq) ⟨wr.heap.size, 0, none⟩ ⟨w.heap.size, 1, none⟩ (fun e => hneb (by injection e with e))).trans fo1
              have y5 := (World.cell?_setCell_other (v := .int .i64 a') ((wr.alloc (.cells #[.int .i64 ((a' : Int) + 1), .int .i64 b, .int .i64 c'] 29)).drewN nq) ⟨wr.heap.size, 0, none⟩ ⟨w.heap.size, 2, none⟩ (fun e => hneb (by injection e with e))).trans fo2
              generalize ((wr.alloc (.cells #[.int .i64 ((a' : Int) + 1), .int .i64 b, .int .i64 c'] 29)).drewN nq).setCell ⟨wr.heap.size, 0, none⟩ (.int .i64 a') = W2 at *
              have z3 : W2.cell? ⟨wr.heap.size, 0, none⟩ = some (.int .i64 a') := by rw [cell_of_row W2 _ 0 _ _ _ HWX.out]; rfl
              have z4 : W2.cell? ⟨wr.heap.size, 1, none⟩ = some (.int .i64 b) := by rw [cell_of_row W2 _ 1 _ _ _ HWX.out]; rfl
              have z5 : W2.cell? ⟨wr.heap.size, 2, none⟩ = some (.int .i64 c') := by rw [cell_of_row W2 _ 2 _ _ _ HWX.out]; rfl
              clear fo0 fo1 fo2 f1 f2
              refine wp_loop_rounds 4 ?_
              rw [rounds_succ]
              go_wp2
              go_quiet ((go_at_call 74; with_reducible exact quiet_same (HX1.out _)))
              go_wp2
              have HBW3 := hid (show Below w1.heap.size w1 (W2.drewN nq) from below_drewN HWB.out nq)
              replace y3 : (W2.drewN nq).cell? _ = _ := y3
              replace y4 : (W2.drewN nq).cell? _ = _ := y4
              replace y5 : (W2.drewN nq).cell? _ = _ := y5
              replace z3 : (W2.drewN nq).cell? _ = _ := z3
              replace z4 : (W2.drewN nq).cell? _ = _ := z4
              replace z5 : (W2.drewN nq).cell? _ = _ := z5
              generalize W2.drewN nq = W3 at *
              rw [rounds_succ]
              go_wp2
              go_quiet ((go_at_call 74; with_reducible exact quiet_same (HY1.out _)))
              go_wp2
              have HBW4 := hid (show Below w1.heap.size w1 (W3.drewN nq) from below_drewN HBW3.out nq)
              replace y3 : (W3.drewN nq).cell? _ = _ := y3
              replace y4 : (W3.drewN nq).cell? _ = _ := y4
              replace y5 : (W3.drewN nq).cell? _ = _ := y5
              replace z3 : (W3.drewN nq).cell? _ = _ := z3
              replace z4 : (W3.drewN nq).cell? _ = _ := z4
              replace z5 : (W3.drewN nq).cell? _ = _ := z5
              generalize W3.drewN nq = W4 at *
              rw [rounds_succ]
              go_wp2
              go_quiet ((go_at_call 74; with_reducible exact quiet_same (HZ1.out _)))
              go_wp2
              rw [rounds_succ]
              go_wp2
              go_roundw
              case rel => exact ⟨0 + 1, by omega, by go_num, by rw [HDj.out, HSt.out], below_drewN HBW4.out _⟩
              case measure => simp [intOf]
          · have hfk := cell_below HBj.out (cell_below B1.out HFi.out)
            have vk := cell_below HBj.out d1.out
            have xk0 := cell_below HBj.out c0.out
            have xk1 := cell_below HBj.out c1.out
            have xk2 := cell_below HBj.out c2.out
            have hltw : w.heap.size < wr.heap.size := World.block_lt_of_cell? wr ⟨w.heap.size, 0, none⟩ xk0
            by_cases hv : b = 0
            · subst hv
              have hD' : slTerm fs x y z 1 i * vAt l m n 1 = 0 := by rw [HT1.out]; simp
              have HDD := hid hD'
              clear hD' hfk vk xk0 xk1 xk2
              simp only [Int.natCast_zero] at e1
              go_wp2
              go_roundw
              case rel => exact ⟨1 + 1, by omega, by go_num, by rw [HDj.out, HDD.out, Int.add_zero, HU.out], HBj.out.alloc hwr _⟩
              case measure => simp [intOf]
            · obtain ⟨b', rfl⟩ : ∃ q, b = q + 1 := ⟨b - 1, by omega⟩
              rw [show (((b' + 1 : Nat)) : Int) = (b' : Int) + 1 by simp] at e1 HT1
              rw [Nat.add_sub_cancel] at HT1
              have hg : (((((((b' : Int) + 1) * f % p) * m % p) * powP p x a % p) * powP p y b' % p) * powP p z c') % p = (slTerm fs x y z 1 i * vAt l m n 1) % p := by
                rw [HT1.out, powP_eq p x hp, powP_eq p y hp, powP_eq p z hp, chainP]
                rfl
              have HG := hid hg
              have HSt := hid (HSm.out (slTerm fs x y z 1 i * vAt l m n 1))
              rw [← hg] at HSt
              have p1 := PX.out a
              have p2 := PY.out b'
              have p3 := PZ.out c'
              have HX1 := hid (fun W => HX.out a W (by omega))
              have HY1 := hid (fun W => HY.out b' W (by omega))
              have HZ1 := hid (fun W => HZ.out c' W (by omega))
              clear hg HG HSm
              generalize powP p x a = X at *
              generalize powP p y b' = Y at *
              generalize powP p z c' = Z at *
              have k1 := mul_bd (show (0 : Int) ≤ (b' : Int) + 1 by omega) fb.1 (show (b' : Int) + 1 ≤ 3 by omega) fb.2
              have r1 := rem_rng' (p := p) (n := ((b' : Int) + 1) * f) (by omega)
              have t1 : (((b' : Int) + 1) * f).tmod p = ((b' : Int) + 1) * f % p := Int.tmod_eq_emod_of_nonneg k1.1
              generalize ((b' : Int) + 1) * f % p = g1 at *
              have k2 := mul_bd r1.1 hm.1 (show g1 ≤ 31 by omega) hm.2
              have r2 := rem_rng' (p := p) (n := g1 * m) (by omega)
              have t2 : (g1 * m).tmod p = g1 * m % p := Int.tmod_eq_emod_of_nonneg k2.1
              generalize g1 * m % p = g2 at *
              have k3 := mul_bd r2.1 p1.1 (show g2 ≤ 31 by omega) (show X ≤ 31 by omega)
              have r3 := rem_rng' (p := p) (n := g2 * X) (by omega)
              have t3 : (g2 * X).tmod p = g2 * X % p := Int.tmod_eq_emod_of_nonneg k3.1
              generalize g2 * X % p = g3 at *
              have k4 := mul_bd r3.1 p2.1 (show g3 ≤ 31 by omega) (show Y ≤ 31 by omega)
              have r4 := rem_rng' (p := p) (n := g3 * Y) (by omega)
              have t4 : (g3 * Y).tmod p = g3 * Y % p := Int.tmod_eq_emod_of_nonneg k4.1
              generalize g3 * Y % p = g4 at *
              have k5 := mul_bd r4.1 p3.1 (show g4 ≤ 31 by omega) (show Z ≤ 31 by omega)
              have r5 := rem_rng' (p := p) (n := g4 * Z) (by omega)
              have t5 : (g4 * Z).tmod p = g4 * Z % p := Int.tmod_eq_emod_of_nonneg k5.1
              generalize g4 * Z % p = g5 at *
              obtain ⟨k1a, k1b⟩ := k1
              obtain ⟨k2a, k2b⟩ := k2
              obtain ⟨k3a, k3b⟩ := k3
              obtain ⟨k4a, k4b⟩ := k4
              obtain ⟨k5a, k5b⟩ := k5
              obtain ⟨r5a, r5b⟩ := r5
              have hnz : ¬ (b' : Int) + 1 = 0 := by omega
              have f1 := cell_below (below_alloc wr (.cells #[.int .i64 a, .int .i64 ((b' : Int) + 1), .int .i64 c'] 29)) hfk
              have f2 := cell_below (below_alloc wr (.cells #[.int .i64 a, .int .i64 ((b' : Int) + 1), .int .i64 c'] 29)) vk
              have fo0 := cell_below (below_alloc wr (.cells #[.int .i64 a, .int .i64 ((b' : Int) + 1), .int .i64 c'] 29)) xk0
              have fo1 := cell_below (below_alloc wr (.cells #[.int .i64 a, .int .i64 ((b' : Int) + 1), .int .i64 c'] 29)) xk1
              have fo2 := cell_below (below_alloc wr (.cells #[.int .i64 a, .int .i64 ((b' : Int) + 1), .int .i64 c'] 29)) xk2
              clear hfk vk xk0 xk1 xk2 r1 r2 r3 r4 p1 p2 p3 fb
              go_wp2
              go_quiet (fail)
              go_wp2
              have hneb : wr.heap.size ≠ w.heap.size := by omega
              have HWB := hid ((below_drewN (HBj.out.alloc hwr (.cells #[.int .i64 a, .int .i64 ((b' : Int) + 1), .int .i64 c'] 29)) nq).setCell (p := ⟨wr.heap.size, 1, none⟩) hwr (.int .i64 b'))
              have HWX := hid (show (((wr.alloc (.cells #[.int .i64 a, .int .i64 ((b' : Int) + 1), .int .i64 c'] 29)).drewN nq).setCell ⟨wr.heap.size, 1, none⟩ (.int .i64 b')).heap[wr.heap.size]? = some (.cells #[.int .i64 a, .int .i64 b', .int .i64 c'] 29 (0, 0)) by rw [heap_setCell_same ((wr.alloc (.cells #[.int .i64 a, .int .i64 ((b' : Int) + 1), .int .i64 c'] 29)).drewN nq) wr.heap.size 1 _ _ _ (heap_alloc_new wr (.cells #[.int .i64 a, .int .i64 ((b' : Int) + 1), .int .i64 c'] 29))]; rfl)
              have y3 := (World.cell?_setCell_other (v := .int .i64 b') ((wr.alloc (.cells #[.int .i64 a, .int .i64 ((b' : Int) + 1), .int .i64 c'] 29)).drewN nq) ⟨wr.heap.size, 1, none⟩ ⟨w.heap.size, 0, none⟩ (fun e => hneb (by injection e with e))).trans fo0
              have y4 := (World.cell?_setCell_other (v := .int .i64 b') ((wr.alloc (.cells #[.int .i64 a, .int .i64 ((b' : Int) + 1), .int .i64 c'] 29)).drewN nq) ⟨wr.heap.size, 1, none⟩ ⟨w.heap.size, 1, none⟩ (fun e => hneb (by injection e with e))).trans fo1
              have y5 := (World.cell?_setCell_other (v := .int .i64 b') ((wr.alloc (.cells #[.int .i64 a, .int .i64 ((b' : Int) + 1), .int .i64 c'] 29)).drewN nq) ⟨wr.heap.size, 1, none⟩ ⟨w.heap.size, 2, none⟩ (fun e => hneb (by injection e with e))).trans fo2
              generalize ((wr.alloc (.cells #[.int .i64 a, .int .i64 ((b' : Int) + 1), .int .i64 c'] 29)).drewN nq).setCell ⟨wr.heap.size, 1, none⟩ (.int .i64 b') = W2 at *
              have z3 : W2.cell? ⟨wr.heap.size, 0, none⟩ = some (.int .i64 a) := by rw [cell_of_row W2 _ 0 _ _ _ HWX.out]; rfl
              have z4 : W2.cell? ⟨wr.heap.size, 1, none⟩ = some (.int .i64 b') := by rw [cell_of_row W2 _ 1 _ _ _ HWX.out]; rfl
              have z5 : W2.cell? ⟨wr.heap.size, 2, none⟩ = some (.int .i64 c') := by rw [cell_of_row W2 _ 2 _ _ _ HWX.out]; rfl
              clear fo0 fo1 fo2 f1 f2
              refine wp_loop_rounds 4 ?_
              rw [rounds_succ]
              go_wp2
              go_quiet ((go_at_call 74; with_reducible exact quiet_same (HX1.out _)))
              go_wp2
              have HBW3 := hid (show Below w1.heap.size w1 (W2.drewN nq) from below_drewN HWB.out nq)
              replace y3 : (W2.drewN nq).cell? _ = _ := y3
              replace y4 : (W2.drewN nq).cell? _ = _ := y4
              replace y5 : (W2.drewN nq).cell? _ = _ := y5
              replace z3 : (W2.drewN nq).cell? _ = _ := z3
              replace z4 : (W2.drewN nq).cell? _ = _ := z4
              replace z5 : (W2.drewN nq).cell? _ = _ := z5
              generalize W2.drewN nq = W3 at *
              rw [rounds_succ]
              go_wp2
              go_quiet ((go_at_call 74; with_reducible exact quiet_same (HY1.out _)))
              go_wp2
              have HBW4 := hid (show Below w1.heap.size w1 (W3.drewN nq) from below_drewN HBW3.out nq)
              replace y3 : (W3.drewN nq).cell? _ = _ := y3
              replace y4 : (W3.drewN nq).cell? _ = _ := y4
              replace y5 : (W3.drewN nq).cell? _ = _ := y5
              replace z3 : (W3.drewN nq).cell? _ = _ := z3
              replace z4 : (W3.drewN nq).cell? _ = _ := z4
              replace z5 : (W3.drewN nq).cell? _ = _ := z5
              generalize W3.drewN nq = W4 at *
              rw [rounds_succ]
              go_wp2
              go_quiet ((go_at_call 74; with_reducible exact quiet_same (HZ1.out _)))
              go_wp2
              rw [rounds_succ]
              go_wp2
              go_roundw
              case rel => exact ⟨1 + 1, by omega, by go_num, by rw [HDj.out, HSt.out], below_drewN HBW4.out _⟩
              case measure => simp [intOf]
          · have hfk := cell_below HBj.out (cell_below B1.out HFi.out)
            have vk := cell_below HBj.out d2.out
            have xk0 := cell_below HBj.out c0.out
            have xk1 := cell_below HBj.out c1.out
            have xk2 := cell_below HBj.out c2.out
            have hltw : w.heap.size < wr.heap.size := World.block_lt_of_cell? wr ⟨w.heap.size, 0, none⟩ xk0
            by_cases hv : c' = 0
            · subst hv
              have hD' : slTerm fs x y z 2 i * vAt l m n 2 = 0 := by rw [HT2.out]; simp
              have HDD := hid hD'
              clear hD' hfk vk xk0 xk1 xk2
              simp only [Int.natCast_zero] at e2
              go_wp2
              go_roundw
              case rel => exact ⟨2 + 1, by omega, by go_num, by rw [HDj.out, HDD.out, Int.add_zero, HU.out], HBj.out.alloc hwr _⟩
              case measure => simp [intOf]
            · obtain ⟨g', rfl⟩ : ∃ q, c' = q + 1 := ⟨c' - 1, by omega⟩
              rw [show (((g' + 1 : Nat)) : Int) = (g' : Int) + 1 by simp] at e2 HT2
              rw [Nat.add_sub_cancel] at HT2
              have hg : (((((((g' : Int) + 1) * f % p) * n % p) * powP p x a % p) * powP p y b % p) * powP p z g') % p = (slTerm fs x y z 2 i * vAt l m n 2) % p := by
                rw [HT2.out, powP_eq p x hp, powP_eq p y hp, powP_eq p z hp, chainP]
                rfl
              have HG := hid hg
              have HSt := hid (HSm.out (slTerm fs x y z 2 i * vAt l m n 2))
              rw [← hg] at HSt
              have p1 := PX.out a
              have p2 := PY.out b
              have p3 := PZ.out g'
              have HX1 := hid (fun W => HX.out a W (by omega))
              have HY1 := hid (fun W => HY.out b W (by omega))
              have HZ1 := hid (fun W => HZ.out g' W (by omega))
              clear hg HG HSm
              generalize powP p x a = X at *
              generalize powP p y b = Y at *
              generalize powP p z g' = Z at *
              have k1 := mul_bd (show (0 : Int) ≤ (g' : Int) + 1 by omega) fb.1 (show (g' : Int) + 1 ≤ 3 by omega) fb.2
              have r1 := rem_rng' (p := p) (n := ((g' : Int) + 1) * f) (by omega)
              have t1 : (((g' : Int) + 1) * f).tmod p = ((g' : Int) + 1) * f % p := Int.tmod_eq_emod_of_nonneg k1.1
              generalize ((g' : Int) + 1) * f % p = g1 at *
              have k2 := mul_bd r1.1 hn.1 (show g1 ≤ 31 by omega) hn.2
              have r2 := rem_rng' (p := p) (n := g1 * n) (by omega)
              have t2 : (g1 * n).tmod p = g1 * n % p := Int.tmod_eq_emod_of_nonneg k2.1
              generalize g1 * n % p = g2 at *
              have k3 := mul_bd r2.1 p1.1 (show g2 ≤ 31 by omega) (show X ≤ 31 by omega)
              have r3 := rem_rng' (p := p) (n := g2 * X) (by omega)
              have t3 : (g2 * X).tmod p = g2 * X % p := Int.tmod_eq_emod_of_nonneg k3.1
              generalize g2 * X % p = g3 at *
              have k4 := mul_bd r3.1 p2.1 (show g3 ≤ 31 by omega) (show Y ≤ 31 by omega)
              have r4 := rem_rng' (p := p) (n := g3 * Y) (by omega)
              have t4 : (g3 * Y).tmod p = g3 * Y % p := Int.tmod_eq_emod_of_nonneg k4.1
              generalize g3 * Y % p = g4 at *
              have k5 := mul_bd r4.1 p3.1 (show g4 ≤ 31 by omega) (show Z ≤ 31 by omega)
              have r5 := rem_rng' (p := p) (n := g4 * Z) (by omega)
              have t5 : (g4 * Z).tmod p = g4 * Z % p := Int.tmod_eq_emod_of_nonneg k5.1
              generalize g4 * Z % p = g5 at *
              obtain ⟨k1a, k1b⟩ := k1
              obtain ⟨k2a, k2b⟩ := k2
              obtain ⟨k3a, k3b⟩ := k3
              obtain ⟨k4a, k4b⟩ := k4
              obtain ⟨k5a, k5b⟩ := k5
              obtain ⟨r5a, r5b⟩ := r5
              have hnz : ¬ (g' : Int) + 1 = 0 := by omega
              have f1 := cell_below (below_alloc wr (.cells #[.int .i64 a, .int .i64 b, .int .i64 ((g' : Int) + 1)] 29)) hfk
              have f2 := cell_below (below_alloc wr (.cells #[.int .i64 a, .int .i64 b, .int .i64 ((g' : Int) + 1)] 29)) vk
              have fo0 := cell_below (below_alloc wr (.cells #[.int .i64 a, .int .i64 b, .int .i64 ((g' : Int) + 1)] 29)) xk0
              have fo1 := cell_below (below_alloc wr (.cells #[.int .i64 a, .int .i64 b, .int .i64 ((g' : Int) + 1)] 29)) xk1
              have fo2 := cell_below (below_alloc wr (.cells #[.int .i64 a, .int .i64 b, .int .i64 ((g' : Int) + 1)] 29)) xk2
              clear hfk vk xk0 xk1 xk2 r1 r2 r3 r4 p1 p2 p3 fb
              go_wp2
              go_quiet (fail)
              go_wp2
              have hneb : wr.heap.size ≠ w.heap.size := by omega
              have HWB := hid ((below_drewN (HBj.out.alloc hwr (.cells #[.int .i64 a, .int .i64 b, .int .i64 ((g' : Int) + 1)] 29)) nq).setCell (p := ⟨wr.heap.size, 2, none⟩) hwr (.int .i64 g'))
              have HWX := hid (show (((wr.alloc (.cells #[.int .i64 a, .int .i64 b, .int .i64 ((g' : Int) + 1)] 29)).drewN nq).setCell ⟨wr.heap.size, 2, none⟩ (.int .i64 g')).heap[wr.heap.size]? = some (.cells #[.int .i64 a, .int .i64 b, .int .i64 g'] 29 (0, 0)) by rw [heap_setCell_same ((wr.alloc (.cells #[.int .i64 a, .int .i64 b, .int .i64 ((g' : Int) + 1)] 29)).drewN nq) wr.heap.size 2 _ _ _ (heap_alloc_new wr (.cells #[.int .i64 a, .int .i64 b, .int .i64 ((g' : Int) + 1)] 29))]; rfl)
              have y3 := (World.cell?_setCell_other (v := .int .i64 g') ((wr.alloc (.cells #[.int .i64 a, .int .i64 b, .int .i64 ((g' : Int) + 1)] 29)).drewN nq) ⟨wr.heap.size, 2, none⟩ ⟨w.heap.size, 0, none⟩ (fun e => hneb (by injection e with e))).trans fo0
              have y4 := (World.cell?_setCell_other (v := .int .i64 g') ((wr.alloc (.cells #[.int .i64 a, .int .i64 b, .int .i64 ((g' : Int) + 1)] 29)).drewN nq) ⟨wr.heap.size, 2, none⟩ ⟨w.heap.size, 1, none⟩ (fun e => hneb (by injection e with e))).trans fo1
              have y5 := (World.cell?_setCell_other (v := .int .i64 g') ((wr.alloc (.cells #[.int .i64 a, .int .i64 b, .int .i64 ((g' : Int) + 1)] 29)).drewN nq) ⟨wr.heap.size, 2, none⟩ ⟨w.heap.size, 2, none⟩ (fun e => hneb (by injection e with e))).trans fo2
              generalize ((wr.alloc (.cells #[.int .i64 a, .int .i64 b, .int .i64 ((g' : Int) + 1)] 29)).drewN nq).setCell ⟨wr.heap.size, 2, none⟩ (.int .i64 g') = W2 at *
              have z3 : W2.cell? ⟨wr.heap.size, 0, none⟩ = some (.int .i64 a) := by rw [cell_of_row W2 _ 0 _ _ _ HWX.out]; rfl
              have z4 : W2.cell? ⟨wr.heap.size, 1, none⟩ = some (.int .i64 b) := by rw [cell_of_row W2 _ 1 _ _ _ HWX.out]; rfl
              have z5 : W2.cell? ⟨wr.heap.size, 2, none⟩ = some (.int .i64 g') := by rw [cell_of_row W2 _ 2 _ _ _ HWX.out]; rfl
              clear fo0 fo1 fo2 f1 f2
              refine wp_loop_rounds 4 ?_
              rw [rounds_succ]
              go_wp2
              go_quiet ((go_at_call 74; with_reducible exact quiet_same (HX1.out _)))
              go_wp2
              have HBW3 := hid (show Below w1.heap.size w1 (W2.drewN nq) from below_drewN HWB.out nq)
              replace y3 : (W2.drewN nq).cell? _ = _ := y3
              replace y4 : (W2.drewN nq).cell? _ = _ := y4
              replace y5 : (W2.drewN nq).cell? _ = _ := y5
              replace z3 : (W2.drewN nq).cell? _ = _ := z3
              replace z4 : (W2.drewN nq).cell? _ = _ := z4
              replace z5 : (W2.drewN nq).cell? _ = _ := z5
              generalize W2.drewN nq = W3 at *
              rw [rounds_succ]
              go_wp2
              go_quiet ((go_at_call 74; with_reducible exact quiet_same (HY1.out _)))
              go_wp2
              have HBW4 := hid (show Below w1.heap.size w1 (W3.drewN nq) from below_drewN HBW3.out nq)
              replace y3 : (W3.drewN nq).cell? _ = _ := y3
              replace y4 : (W3.drewN nq).cell? _ = _ := y4
              replace y5 : (W3.drewN nq).cell? _ = _ := y5
              replace z3 : (W3.drewN nq).cell? _ = _ := z3
              replace z4 : (W3.drewN nq).cell? _ = _ := z4
              replace z5 : (W3.drewN nq).cell? _ = _ := z5
              generalize W3.drewN nq = W4 at *
              rw [rounds_succ]
              go_wp2
              go_quiet ((go_at_call 74; with_reducible exact quiet_same (HZ1.out _)))
              go_wp2
              rw [rounds_succ]
              go_wp2
              go_roundw
              case rel => exact ⟨2 + 1, by omega, by go_num, by rw [HDj.out, HSt.out], below_drewN HBW4.out _⟩
              case measure => simp [intOf]
        · obtain rfl : j = 3 := by omega
          go_wp2
          go_roundw
          case rel => exact ⟨i + 1, by omega, by go_num, by rw [HS.out], HBj.out⟩
          case measure => simp [intOf]; omega
    · obtain rfl : i = 10 := by omega
      go_wp2
      go_ret
      exact ⟨rfl, below_trans B1.out HB.out⟩

end Go.Proofs.Ytkddhlgohjojpaa
