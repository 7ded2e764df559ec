/-
  The laws on all points.
-/
import Derived.Test.YtfjfepcklggdcaaMk
namespace Go.Proofs.Ytfjfepcklggdcaa
open Go.RowKit
set_option linter.unusedVariables false
set_option linter.unusedSimpArgs false

theorem below_trans' {w0 w1 w2 : World} (h : Below w0.heap.size w0 w1) (k : Below w1.heap.size w1 w2) : Below w0.heap.size w0 w2 := h.trans (k.mono h.size)

theorem ptsB_length (p : Int) : (ptsB p).length ≤ 1000 := by
  unfold ptsB
  cases hp : isPrimeB p
  · simp
  · have hbd := isPrimeB_bd hp
    rw [if_pos rfl, allPts, allTo_length]
    have : p.toNat * p.toNat ≤ 31 * 31 := Nat.mul_le_mul (by omega) (by omega)
    omega

theorem OP.rp' {w : World} {base : Nat} {A : Option Addr} {n c : Nat} {ps : List P3} (h : OP w base (.slice A n c) ps) (hl : ps.length = n) (hn : n ≤ 4398046511104) : RP w A n ps := by
  obtain ⟨A', c', e, hr⟩ := h.rp (by omega)
  simp at e
  obtain ⟨rfl, _, _⟩ := e
  rw [hl] at hr
  exact hr

set_option maxHeartbeats 1000000 in
theorem FnExactPointAll_ok (p : Int) (w : World) (hp : (Lit.int .i64 p).wf = true) :
    Calls Try.prog 8 #[.int .i64 p] w fun e w' => e = .returned (.bool true) ∧ Below w.heap.size w w' := by
  have hlen := ptsB_length p
  go_enter Try.func8, Try.ntmps8
  go_wp2_with fail
  refine (specPointAll_ok p _).mono ?_
  rintro e w1 ⟨v1, rfl, o1, b1⟩
  obtain ⟨A1, c1, rfl, r1⟩ := o1.rp (by omega)
  have R1 := hid r1
  have B1 := hid b1
  clear r1 b1 o1
  go_wp2_with fail
  refine (implPointAll_ok p _).mono ?_
  rintro e w2 ⟨v2, rfl, o2, b2⟩
  obtain ⟨A2, c2, rfl, r2⟩ := o2.rp (by omega)
  have O2 := hid o2
  have R2 := hid r2
  have D2 := hid b2
  clear r2 b2 o2
  go_wp2_with fail
  refine (eqPointS_ok A2 _ c2 _ A1 _ c1 _ _ R2.out (R1.out.below D2.out)).mono ?_
  rintro e w3 ⟨rfl, b3⟩
  have D3 := hid (below_trans D2.out b3)
  have O3 := hid (O2.out.below b3)
  clear b3
  rw [beq_self_eq_true]
  have hbb : (isPrimeB p != isPrimeB p) = false := by simp
  go_wp2_with fail
  refine (markPointS_ok w1.heap.size A2 _ c2 (ptsB p) 1 _ O3.out (by omega) rfl (by omega) (by omega)).mono ?_
  rintro e w4 ⟨rfl, o4, g4⟩
  have O4 := hid o4
  have D4 := hid (D3.out.grown g4 D3.out.size (fun k hk => own_base O3.out k hk))
  have R4 := hid (o4.rp' (marks_length _ _) (by omega))
  clear o4 g4
  go_wp2_with fail
  refine (heldPointS_ok A2 _ c2 1 _ R4.out (by omega) (by omega)).mono ?_
  rintro e w' ⟨rfl, rfl⟩
  have hne : ((1 + ((ptsB p).length : Int) * 3) != (1 + ((ptsB p).length : Int) * 3)) = false := by simp
  go_wp2_with fail
  refine (implPointAll_ok p _).mono ?_
  rintro e w5 ⟨v5, rfl, o5, b5⟩
  obtain ⟨A5, c5, rfl, r5⟩ := o5.rp (by omega)
  have R5 := hid r5
  have D5 := hid (below_trans' D4.out b5)
  have R45 := hid (R4.out.below b5)
  clear r5 b5 o5
  go_wp2_with fail
  refine (eqPointS_ok A5 _ c5 _ A1 _ c1 _ _ R5.out (R1.out.below D5.out)).mono ?_
  rintro e w6 ⟨rfl, b6⟩
  have D6 := hid (below_trans' D5.out b6)
  have R46 := hid (R45.out.below b6)
  clear b6
  rw [beq_self_eq_true]
  go_wp2_with fail
  refine (heldPointS_ok A2 _ c2 1 _ R46.out (by omega) (by omega)).mono ?_
  rintro e w' ⟨rfl, rfl⟩
  go_wp2
  go_ret
  exact ⟨rfl, below_trans B1.out D6.out⟩

end Go.Proofs.Ytfjfepcklggdcaa
