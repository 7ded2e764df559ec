/-
  Contracts: roots and reflections in roots: the program's.
-/
import Derived.Test.YtcffaeepanhpfaaK3
namespace Go.Proofs.Ytcffaeepanhpfaa
open Go.RowKit
set_option linter.unusedVariables false
set_option linter.unusedSimpArgs false

/-- A class reflected in a root: whether it is told, and what. -/
def rrB (a r : List Int) : Bool := validB a && rootB r && validB (refl a r)
def rrV (a r : List Int) : List Int := if rrB a r then refl a r else zeroC

set_option maxRecDepth 100000 in
set_option maxHeartbeats 2000000 in
theorem isRoot_ok (a0 a1 a2 a3 a4 a5 a6 : Int) (w : World) :
    Calls Try.prog 55 #[.agg #[.int .i64 a0, .int .i64 a1, .int .i64 a2, .int .i64 a3, .int .i64 a4, .int .i64 a5, .int .i64 a6]] w fun k w' => k = .returned (.bool (rootB [a0, a1, a2, a3, a4, a5, a6])) ∧ Below w.heap.size w w' := by
  have X0 := hid (CB.new w 38 a0 a1 a2 a3 a4 a5 a6)
  have B0 := hid (below_alloc w (.cells #[.int .i64 a0, .int .i64 a1, .int .i64 a2, .int .i64 a3, .int .i64 a4, .int .i64 a5, .int .i64 a6] 38))
  have HR := hid (show rootB [a0, a1, a2, a3, a4, a5, a6] = ((validB [a0, a1, a2, a3, a4, a5, a6] && (prd [a0, a1, a2, a3, a4, a5, a6] [a0, a1, a2, a3, a4, a5, a6] == -2)) && (deg [a0, a1, a2, a3, a4, a5, a6] == 0)) from rfl)
  cases hv : validB [a0, a1, a2, a3, a4, a5, a6]
  · have HV := hid hv
    clear hv
    go_enter Try.func55, Try.ntmps55
    go_wp2_with fail
    refine (isClass_ok a0 a1 a2 a3 a4 a5 a6 _).mono ?_
    rintro e w1 ⟨rfl, b1⟩
    rw [HV.out]
    have B1 := hid (below_trans B0.out b1)
    clear b1
    go_wp2
    go_ret
    exact ⟨by rw [HR.out, HV.out]; rfl, B1.out⟩
  · have HV := hid hv
    have hb : Bd 1000000 [a0, a1, a2, a3, a4, a5, a6] := (validB_bd hv).mono (by omega)
    have HP := hid (fun W => product_ok a0 a1 a2 a3 a4 a5 a6 a0 a1 a2 a3 a4 a5 a6 W hb hb)
    have HD := hid (fun W => degree_ok a0 a1 a2 a3 a4 a5 a6 W hb)
    clear hv hb
    cases hp : (prd [a0, a1, a2, a3, a4, a5, a6] [a0, a1, a2, a3, a4, a5, a6] == -2)
    · have HQ := hid hp
      generalize prd [a0, a1, a2, a3, a4, a5, a6] [a0, a1, a2, a3, a4, a5, a6] = P at *
      go_enter Try.func55, Try.ntmps55
      go_wp2_with fail
      refine (isClass_ok a0 a1 a2 a3 a4 a5 a6 _).mono ?_
      rintro e w1 ⟨rfl, b1⟩
      rw [HV.out]
      have B1 := hid (below_trans B0.out b1)
      have X1 := hid (X0.out.below b1)
      obtain ⟨x0, x1, x2, x3, x4, x5, x6⟩ := X1.out.seven
      clear b1
      go_wp2_with fail
      refine (HP.out _).mono ?_
      rintro e w2 ⟨rfl, b2⟩
      have B2 := hid (below_trans B1.out b2)
      clear b2 x0 x1 x2 x3 x4 x5 x6
      go_wp2
      go_ret
      exact ⟨by rw [HR.out, HV.out, HQ.out]; rfl, B2.out⟩
    · have HQ := hid hp
      generalize prd [a0, a1, a2, a3, a4, a5, a6] [a0, a1, a2, a3, a4, a5, a6] = P at *
      generalize deg [a0, a1, a2, a3, a4, a5, a6] = D at *
      go_enter Try.func55, Try.ntmps55
      go_wp2_with fail
      refine (isClass_ok a0 a1 a2 a3 a4 a5 a6 _).mono ?_
      rintro e w1 ⟨rfl, b1⟩
      rw [HV.out]
      have B1 := hid (below_trans B0.out b1)
      have X1 := hid (X0.out.below b1)
      obtain ⟨x0, x1, x2, x3, x4, x5, x6⟩ := X1.out.seven
      clear b1
      go_wp2_with fail
      refine (HP.out _).mono ?_
      rintro e w2 ⟨rfl, b2⟩
      have B2 := hid (below_trans B1.out b2)
      have X2 := hid (X1.out.below b2)
      clear b2 x0 x1 x2 x3 x4 x5 x6
      obtain ⟨x0, x1, x2, x3, x4, x5, x6⟩ := X2.out.seven
      go_wp2_with fail
      refine (HD.out _).mono ?_
      rintro e w3 ⟨rfl, b3⟩
      have B3 := hid (below_trans B2.out b3)
      clear b3 x0 x1 x2 x3 x4 x5 x6
      go_wp2
      go_ret
      exact ⟨by rw [HR.out, HV.out, HQ.out]; rfl, B3.out⟩

end Go.Proofs.Ytcffaeepanhpfaa
