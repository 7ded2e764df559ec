/-
  Plain laws of reflections.
-/
import Derived.Test.YtbodpfgbelaopaaLw
import Derived.Test.YtbodpfgbelaopaaK6
namespace Go.Proofs.Ytbodpfgbelaopaa
set_option linter.unusedVariables false
set_option linter.unusedSimpArgs false

theorem rootB_parts {r : List Int} (h : rootB r = true) : validB r = true ∧ prd r r = -2 ∧ deg r = 0 := by
  simp only [rootB, Bool.and_eq_true, beq_iff_eq] at h
  exact ⟨h.1.1, h.1.2, h.2⟩
theorem prd_refl {d a b c e f g D A B C E F G : Int} (h : prd [D, A, B, C, E, F, G] [D, A, B, C, E, F, G] = -2) :
    prd (refl [d, a, b, c, e, f, g] [D, A, B, C, E, F, G]) [D, A, B, C, E, F, G] = -prd [d, a, b, c, e, f, g] [D, A, B, C, E, F, G] := by
  simp only [refl, lin, prd] at h ⊢
  grind
theorem refl_back {d a b c e f g D A B C E F G : Int} (h : prd [D, A, B, C, E, F, G] [D, A, B, C, E, F, G] = -2) :
    refl (refl [d, a, b, c, e, f, g] [D, A, B, C, E, F, G]) [D, A, B, C, E, F, G] = [d, a, b, c, e, f, g] := by
  have k := prd_refl (d := d) (a := a) (b := b) (c := c) (e := e) (f := f) (g := g) h
  rw [refl, k]
  generalize hp : prd [d, a, b, c, e, f, g] [D, A, B, C, E, F, G] = p
  rw [refl, hp]
  simp only [lin, List.cons.injEq, and_true]
  refine ⟨?_, ?_, ?_, ?_, ?_, ?_, ?_⟩ <;> grind
theorem refl_deg {d a b c e f g D A B C E F G : Int} (h : deg [D, A, B, C, E, F, G] = 0) : deg (refl [d, a, b, c, e, f, g] [D, A, B, C, E, F, G]) = deg [d, a, b, c, e, f, g] := by
  rw [refl]
  generalize prd [d, a, b, c, e, f, g] [D, A, B, C, E, F, G] = p
  simp only [deg, planeC, lin, prd] at h ⊢
  grind
theorem refl_prd {d a b c e f g D A B C E F G : Int} (h : prd [D, A, B, C, E, F, G] [D, A, B, C, E, F, G] = -2) :
    prd (refl [d, a, b, c, e, f, g] [D, A, B, C, E, F, G]) (refl [d, a, b, c, e, f, g] [D, A, B, C, E, F, G]) = prd [d, a, b, c, e, f, g] [d, a, b, c, e, f, g] := by
  rw [refl]
  generalize hp : prd [d, a, b, c, e, f, g] [D, A, B, C, E, F, G] = p
  simp only [lin, prd] at h hp ⊢
  grind
theorem refl_self {D A B C E F G : Int} (h : prd [D, A, B, C, E, F, G] [D, A, B, C, E, F, G] = -2) : refl [D, A, B, C, E, F, G] [D, A, B, C, E, F, G] = timesC [D, A, B, C, E, F, G] (-1) := by
  rw [refl, h]
  simp only [timesC, zeroC, lin, List.cons.injEq, and_true]
  refine ⟨?_, ?_, ?_, ?_, ?_, ?_, ?_⟩ <;> omega

end Go.Proofs.Ytbodpfgbelaopaa
