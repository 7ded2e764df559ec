/-
  The ten products of a point, as the reference has them.
-/
import Derived.Test.YtkhkcgoblibnpaaEx
namespace Go.Proofs.Ytkhkcgoblibnpaa
open Go.RowKit
set_option linter.unusedVariables false
set_option linter.unusedSimpArgs false

def powP (p x : Int) : Nat → Int
  | 0 => 1
  | k + 1 => powP p x k * x % p
theorem powP_bd (p x : Int) (hp : 2 ≤ p) (k : Nat) : 0 ≤ powP p x k ∧ powP p x k < p := by
  cases k with
  | zero => simp [powP]; omega
  | succ k => rw [powP]; exact ⟨Int.emod_nonneg _ (by omega), Int.emod_lt_of_pos _ (by omega)⟩
theorem powP_eq (p x : Int) (hp : 2 ≤ p) (k : Nat) : powP p x k = x ^ k % p := by
  induction k with
  | zero => rw [powP, Int.pow_zero, Int.emod_eq_of_lt (by omega) (by omega)]
  | succ k ih => rw [powP, ih, Int.pow_succ, Int.mul_emod, Int.emod_emod, ← Int.mul_emod]
def prodI (p x y z : Int) (k : Nat) : Int := powP p x (exN k).1 * powP p y (exN k).2.1 % p * powP p z (exN k).2.2 % p
theorem prodI_eq (p x y z : Int) (hp : 2 ≤ p) (k : Nat) : prodI p x y z k = cubeI x y z k % p := by
  rw [prodI, cubeI, powP_eq p x hp, powP_eq p y hp, powP_eq p z hp]
  rw [Int.mul_emod, Int.emod_emod, Int.emod_emod, ← Int.mul_emod (x ^ _) (y ^ _), ← Int.mul_emod]
def prodTo (p x y z : Int) (k : Nat) : List Int := (List.range k).map (prodI p x y z)
theorem prodTo_succ (p x y z : Int) (k : Nat) : prodTo p x y z (k + 1) = prodTo p x y z k ++ [prodI p x y z k] := by simp [prodTo, List.range_succ]
theorem prodTo_length (p x y z : Int) (k : Nat) : (prodTo p x y z k).length = k := by simp [prodTo]
theorem prodTo_get (p x y z : Int) (k i : Nat) (h : i < k) : (prodTo p x y z k).getD i 0 = prodI p x y z i := by simp [prodTo, List.getD_eq_getElem?_getD, List.getElem?_map, List.getElem?_range h]

theorem drewOI' {w : World} {base : Nat} {v : Value} {xs : List Int} (h : OI w base v xs) : OI w.drew base v xs := h
theorem drewOA' {w : World} {base : Nat} {v : Value} {xs : List P3} (h : OA w base v xs) : OA w.drew base v xs := h
theorem drewBelow' {B : Nat} {w w1 : World} (h : Below B w w1) : Below B w w1.drew := below_drewN h 1

theorem l5Powers_ok (w : World) :
    Calls Try.prog 90 #[] w fun e w' => ∃ v, e = .returned v ∧ OA w' w.heap.size v exps ∧ Below w.heap.size w w' := by
  go_enter Try.func90, Try.ntmps90
  go_wp2
  go_ret
  exact ⟨_, rfl, World.ownsRow_lit w _ 10 (Nat.le_refl _) (by decide) rfl, below_alloc _ _⟩

theorem l5Power_ok (p x : Int) (k : Nat) (w : World) (hp : 2 ≤ p) (hp2 : p ≤ 31) (h0 : 0 ≤ x) (h1 : x ≤ 31) (hk : k ≤ 3) :
    Calls Try.prog 91 #[.int .i64 p, .int .i64 x, .int .i64 k] w fun e w' => e = .returned (.int .i64 (powP p x k)) ∧ w' = w := by
  have HB := hid (powP_bd p x hp)
  go_enter Try.func91, Try.ntmps91
  go_wp2
  go_loop [7, 8] (fun s t => ∃ i : Nat, i ≤ k ∧ t = .int .i64 i ∧ s = .int .i64 (powP p x i)) (fun _ t => k - (intOf t).toNat)
  case atStart => exact ⟨0, by omega, rfl, rfl⟩
  case round =>
    obtain ⟨i, hi, rfl, rfl⟩ := hrel
    by_cases hlt : i < k
    · have b0 := (HB.out i).1
      have b1 := (HB.out i).2
      have HP := hid (show powP p x (i + 1) = powP p x i * x % p from rfl)
      generalize powP p x i = y at *
      have hm := mul_bd b0 h0 (show y ≤ 31 by omega) h1
      have m0 := hm.1
      have m1 := hm.2
      clear hm
      go_wp2
      go_round
      case rel => exact ⟨i + 1, by omega, by go_num, by rw [HP.out]⟩
      case measure => simp [intOf]; omega
    · obtain rfl : i = k := by omega
      go_wp2
      go_ret
      exact ⟨rfl, rfl⟩

set_option maxRecDepth 100000 in
set_option maxHeartbeats 2000000 in
theorem l5Products_ok (p x y z : Int) (w : World) (hp : 2 ≤ p) (hp2 : p ≤ 31) (hx : 0 ≤ x ∧ x ≤ 31) (hy : 0 ≤ y ∧ y ≤ 31) (hz : 0 ≤ z ∧ z ≤ 31) :
    Calls Try.prog 67 #[.int .i64 p, .agg #[.int .i64 x, .int .i64 y, .int .i64 z]] w fun e w' => ∃ v, e = .returned v ∧ OI w' w.heap.size v (prodTo p x y z 10) ∧ Below w.heap.size w w' := by
  have PX := hid (powP_bd p x hp)
  have PY := hid (powP_bd p y hp)
  have PZ := hid (powP_bd p z hp)
  have HX := hid (fun k W hk => l5Power_ok p x k W hp hp2 hx.1 hx.2 hk)
  have HY := hid (fun k W hk => l5Power_ok p y k W hp hp2 hy.1 hy.2 hk)
  have HZ := hid (fun k W hk => l5Power_ok p z k W hp hp2 hz.1 hz.2 hk)
  clear hx hy hz
  go_enter Try.func67, Try.ntmps67
  go_wp2_with fail
  refine (l5Powers_ok _).mono ?_
  rintro e w1 ⟨ve, rfl, oe, be⟩
  obtain ⟨ge, capE, rfl, hge, hgl, hce⟩ := oe.shape (by decide)
  have OE := hid oe
  have BE := hid (below_alloc_then (below_alloc_then be))
  have c0 : w1.cell? ⟨w.heap.size, 0, none⟩ = some (.int .i64 x) := cell_below be (by simp [go_sem])
  have c1 : w1.cell? ⟨w.heap.size, 1, none⟩ = some (.int .i64 y) := cell_below be (by simp [go_sem])
  have c2 : w1.cell? ⟨w.heap.size, 2, none⟩ = some (.int .i64 z) := cell_below be (by simp [go_sem])
  have h0 : w1.heap[w.heap.size]? = some (.cells #[.int .i64 x, .int .i64 y, .int .i64 z] 35 (0, 0)) := by
    rw [be.block _ (by simp; omega), heap_alloc_old _ _ (by simp), heap_alloc_new]
  have HBx := hid h0
  have HO0 := hid (show OI w1 (w.heap.size + 1) (.slice (some ⟨w.heap.size + 1, 0, none⟩) 0 0) [] from OI.below (by have := World.ownsRow_lit (base := w.heap.size + 1) (e := 3) (size := 1) (w.alloc (.cells #[.int .i64 x, .int .i64 y, .int .i64 z] 35)) #[] 0 (by simp) (by decide) rfl; simpa [OI] using this) be)
  have hszb : w.heap.size + 1 ≤ w1.heap.size := by have := be.size; simp at this; omega
  clear be oe hce c0 c1 c2 h0
  have hsz : w.heap.size + 1 ≤ w1.heap.size := hszb
  go_wp2
  go_loopw [5, 7] (fun v t wr => ∃ k : Nat, k ≤ 10 ∧ t = .int .i64 k ∧ OI wr (w.heap.size + 1) v (prodTo p x y z k) ∧ OA wr (w.heap.size + 1 + 1) (.slice (some ⟨ge, 0, none⟩) exps.length capE) exps ∧ wr.heap[w.heap.size]? = some (.cells #[.int .i64 x, .int .i64 y, .int .i64 z] 35 (0, 0)) ∧ Below w.heap.size w wr ∧ w.heap.size + 1 ≤ wr.heap.size) (fun _ t _ => 10 - (intOf t).toNat)
  case atStart => exact ⟨0, by omega, rfl, HO0.out, by simpa using OE.out, HBx.out, BE.out, hsz⟩
  case round =>
    obtain ⟨k, hk, rfl, ho, hoe, hbx, hb, hsz1⟩ := hrel
    have HO := hid ho
    have HOE := hid hoe
    have HBX := hid hbx
    have HB := hid hb
    clear ho hoe hbx hb
    by_cases hlt : k < 10
    · have hcell := HOE.out.cells3 rfl k (by show k < 10; exact hlt)
      rw [exN_eq k hlt] at hcell
      have e0 := hcell.1
      have e1 := hcell.2.1
      have e2 := hcell.2.2
      have hbd := exN_bd k hlt
      have HC := hid (show prodI p x y z k = powP p x (exN k).1 * powP p y (exN k).2.1 % p * powP p z (exN k).2.2 % p from rfl)
      have HT := hid (prodTo_succ p x y z k)
      have HLn := hid (show (prodTo p x y z k).length < 17592186044416 by rw [prodTo_length]; omega)
      have p1 := PX.out (exN k).1
      have p2 := PY.out (exN k).2.1
      have p3 := PZ.out (exN k).2.2
      have HX1 := hid (fun W => HX.out (exN k).1 W (by omega))
      have HY1 := hid (fun W => HY.out (exN k).2.1 W (by omega))
      have HZ1 := hid (fun W => HZ.out (exN k).2.2 W (by omega))
      generalize powP p x (exN k).1 = X at *
      generalize powP p y (exN k).2.1 = Y at *
      generalize powP p z (exN k).2.2 = Z at *
      have q1 := mul_bd p1.1 p2.1 (show X ≤ 31 by omega) (show Y ≤ 31 by omega)
      have u1 : 0 ≤ X * Y % p ∧ X * Y % p < p := ⟨Int.emod_nonneg _ (by omega), Int.emod_lt_of_pos _ (by omega)⟩
      have ht1 : (X * Y).tmod p = X * Y % p := Int.tmod_eq_emod_of_nonneg q1.1
      have hw1 : IntKind.i64.wrap (X * Y) = X * Y := IntWalk.i64_in _ (by omega)
      have hw1b : IntKind.i64.wrap (X * Y % p) = X * Y % p := IntWalk.i64_in _ (by omega)
      generalize X * Y % p = U at *
      have q2 := mul_bd u1.1 p3.1 (show U ≤ 31 by omega) (show Z ≤ 31 by omega)
      have u2 : 0 ≤ U * Z % p ∧ U * Z % p < p := ⟨Int.emod_nonneg _ (by omega), Int.emod_lt_of_pos _ (by omega)⟩
      have ht2 : (U * Z).tmod p = U * Z % p := Int.tmod_eq_emod_of_nonneg q2.1
      have hw2 : IntKind.i64.wrap (U * Z) = U * Z := IntWalk.i64_in _ (by omega)
      have hw2b : IntKind.i64.wrap (U * Z % p) = U * Z % p := IntWalk.i64_in _ (by omega)
      generalize U * Z % p = V at *
      have hp0 : ¬ p = 0 := by omega
      have hp1 : ¬ p = -1 := by omega
      generalize (exN k).1 = a at *
      generalize (exN k).2.1 = b at *
      generalize (exN k).2.2 = c at *
      have hc0 : wr.cell? ⟨w.heap.size, 0, none⟩ = some (.int .i64 x) := by rw [cell_of_row wr _ 0 _ _ _ HBX.out]; rfl
      have hc1 : wr.cell? ⟨w.heap.size, 1, none⟩ = some (.int .i64 y) := by rw [cell_of_row wr _ 1 _ _ _ HBX.out]; rfl
      have hc2 : wr.cell? ⟨w.heap.size, 2, none⟩ = some (.int .i64 z) := by rw [cell_of_row wr _ 2 _ _ _ HBX.out]; rfl
      have n0 := u1.1
      have n1 := u1.2
      have n2 := u2.1
      have n3 := u2.2
      have n4 := p1.1
      have n5 := p1.2
      have n6 := p2.1
      have n7 := p2.2
      have n8 := p3.1
      have n9 := p3.2
      clear hcell p1 p2 p3 q1 q2 u1 u2
      go_wp2
      have d0 : (wr.alloc (.cells #[.int .i64 a, .int .i64 b, .int .i64 c] 33)).cell? ⟨wr.heap.size, 0, none⟩ = some (.int .i64 a) := by rw [World.cell?_alloc_at _ _ _ _ rfl]; rfl
      have d1 : (wr.alloc (.cells #[.int .i64 a, .int .i64 b, .int .i64 c] 33)).cell? ⟨wr.heap.size, 1, none⟩ = some (.int .i64 b) := by rw [World.cell?_alloc_at _ _ _ _ rfl]; rfl
      have d2 : (wr.alloc (.cells #[.int .i64 a, .int .i64 b, .int .i64 c] 33)).cell? ⟨wr.heap.size, 2, none⟩ = some (.int .i64 c) := by rw [World.cell?_alloc_at _ _ _ _ rfl]; rfl
      have f0 := cell_below (below_alloc wr (.cells #[.int .i64 a, .int .i64 b, .int .i64 c] 33)) hc0
      have f1 := cell_below (below_alloc wr (.cells #[.int .i64 a, .int .i64 b, .int .i64 c] 33)) hc1
      have f2 := cell_below (below_alloc wr (.cells #[.int .i64 a, .int .i64 b, .int .i64 c] 33)) hc2
      have HO1 := hid (HO.out.alloc (.cells #[.int .i64 a, .int .i64 b, .int .i64 c] 33))
      have HOE1 := hid (HOE.out.alloc (.cells #[.int .i64 a, .int .i64 b, .int .i64 c] 33))
      have HBX1 := hid ((heap_alloc_old wr (.cells #[.int .i64 a, .int .i64 b, .int .i64 c] 33) (by omega)).trans HBX.out)
      have HB1 := hid (HB.out.alloc (by omega) (.cells #[.int .i64 a, .int .i64 b, .int .i64 c] 33))
      have hs1 : wr.heap.size + 1 = (wr.alloc (.cells #[.int .i64 a, .int .i64 b, .int .i64 c] 33)).heap.size := by simp
      have HS1 := hid hs1
      clear hs1 e0 e1 e2 hc0 hc1 hc2
      generalize wr.alloc (.cells #[.int .i64 a, .int .i64 b, .int .i64 c] 33) = W at *
      go_region_held_law (fun w' => w'.cell? ⟨w.heap.size, 0, none⟩ = some (.int .i64 x) ∧ w'.cell? ⟨w.heap.size, 1, none⟩ = some (.int .i64 y) ∧ w'.cell? ⟨w.heap.size, 2, none⟩ = some (.int .i64 z) ∧ w'.cell? ⟨wr.heap.size, 0, none⟩ = some (.int .i64 a) ∧ w'.cell? ⟨wr.heap.size, 1, none⟩ = some (.int .i64 b) ∧ w'.cell? ⟨wr.heap.size, 2, none⟩ = some (.int .i64 c)) (first | exact ⟨k0, k1, k2, k3, k4, k5⟩ | go_keep)
        (first
          | (go_at_call 91; (with_reducible refine (HX1.out _).mono ?_); rintro e w' ⟨rfl, rfl⟩)
          | (go_at_call 91; (with_reducible refine (HY1.out _).mono ?_); rintro e w' ⟨rfl, rfl⟩)
          | (go_at_call 91; (with_reducible refine (HZ1.out _).mono ?_); rintro e w' ⟨rfl, rfl⟩)
          | (refine step_append_int _ _ rfl rfl (w.heap.size + 1) _ _ _ ⟨W.heap.size, 0, none⟩ rfl rfl ((drewOI' HO1.out).alloc _) (World.cell?_alloc_at _ _ _ _ rfl) HLn.out (by have := HS1.out; simp; omega) ?_; intro g cap w2 hown hgrow; have HO2 := hid hown; have HG := hid hgrow; have k0 := hgrow.cell (cell_below (below_alloc W.drew _) f0) (fun e => by have := own_base HO.out _ e.symm; simp at this; omega); have k1 := hgrow.cell (cell_below (below_alloc W.drew _) f1) (fun e => by have := own_base HO.out _ e.symm; simp at this; omega); have k2 := hgrow.cell (cell_below (below_alloc W.drew _) f2) (fun e => by have := own_base HO.out _ e.symm; simp at this; omega); have k3 := hgrow.cell (cell_below (below_alloc W.drew _) d0) (fun e => by have := (World.ownsRow.lt HO.out _ e.symm).2; simp at this); have k4 := hgrow.cell (cell_below (below_alloc W.drew _) d1) (fun e => by have := (World.ownsRow.lt HO.out _ e.symm).2; simp at this); have k5 := hgrow.cell (cell_below (below_alloc W.drew _) d2) (fun e => by have := (World.ownsRow.lt HO.out _ e.symm).2; simp at this); clear hown hgrow))
      go_wp2
      go_roundw
      case rel =>
        refine ⟨k + 1, by omega, by go_num, by rw [HT.out, HC.out]; exact HO2.out, ?_, ?_, ?_, ?_⟩
        · exact OA.kept (OA.alloc (drewOA' HOE1.out) _) HG.out (own_ne HO1.out HOE1.out (by decide))
        · exact (HG.out.block _ (by have := HS1.out; simp; omega) (fun e => by have := own_base HO1.out _ e.symm; omega)).trans ((heap_alloc_old _ _ (by have := HS1.out; simp; omega)).trans HBX1.out)
        · exact ((drewBelow' HB1.out).alloc (by have := HS1.out; simp; omega) _).grown HG.out (by have := HS1.out; simp; omega) (fun q hq => by have := own_base HO1.out q hq; omega)
        · have := HG.out.size
          have := HS1.out
          simp at *
          omega
      case measure => simp [intOf]; omega
    · obtain rfl : k = 10 := by omega
      go_wp2
      go_ret
      exact ⟨_, rfl, OI.mono HO.out (by omega), HB.out⟩

end Go.Proofs.Ytkhkcgoblibnpaa
