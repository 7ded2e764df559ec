/-
  How the rows' arguments are opened: points by value.
-/
import Derived.Test.YtkhkcgoblibnpaaLib
import Derived.ProofKit
import Derived.OpenShut
namespace Go.Proofs.Ytkhkcgoblibnpaa
open Go.ChangeShapes Go.WideShapes Go.ChangeAt Go.RowKit
set_option linter.unusedVariables false

section
variable {H : Type} {enc : TypeId × Value → H} {P : Program} {w : World} {base : Nat} {spare : Nat → Bool} {held : Bool}

/-- The cells of an array of three numbers. -/
theorem ints3 {ta te : TypeId} (ha : P.underlying ta = some (.array 3 te)) (he : P.underlying te = some (.int .i64)) (hCe : P.cellsOf te = 1) {fuel : Nat} {cs : List Value} {x : DataW H × List MemPlace}
    (hl : cs.length = 3) (h : DataW.trod enc P w base spare held fuel ta cs = some x) : ∃ a b c : Int, cs = [.int .i64 a, .int .i64 b, .int .i64 c] ∧ (Lit.int .i64 a).wf = true ∧ (Lit.int .i64 b).wf = true ∧ (Lit.int .i64 c).wf = true := by
  obtain ⟨xs, m, _, _, _, hlen, hf⟩ := DataW.trod_array ha h
  match cs, hl with
  | [c0, c1, c2], _ =>
    match xs, hlen with
    | [y0, y1, y2], _ =>
      have f0 := hf 0 (by omega)
      have f1 := hf 1 (by omega)
      have f2 := hf 2 (by omega)
      simp [hCe] at f0 f1 f2
      obtain ⟨a, e0, _, wa⟩ := DataW.trod_int he f0
      obtain ⟨b, e1, _, wb⟩ := DataW.trod_int he f1
      obtain ⟨c, e2, _, wc⟩ := DataW.trod_int he f2
      simp at e0 e1 e2
      subst e0 e1 e2
      exact ⟨a, b, c, rfl, wa, wb, wc⟩

/-- A struct whose one field is an array of three numbers, by value. -/
theorem open_pt {r : Reach} {b0 : Nat} {t ta te : TypeId} {f0 : Field} {v : Value} {d : DataW H} {p : List MemPlace} (hs : P.underlying t = some (.struct #[f0])) (hf : f0.type = ta) (ho : f0.offset = 0)
    (ha : P.underlying ta = some (.array 3 te)) (he : P.underlying te = some (.int .i64)) (hC : P.cellsOf t = 3) (hCa : P.cellsOf ta = 3) (hCe : P.cellsOf te = 1)
    (hv : Value.okWide P w r b0 t v) (h : DataW.Trod enc P w base spare held t v d p) :
    ∃ a b c : Int, v = .agg #[.int .i64 a, .int .i64 b, .int .i64 c] ∧ (Lit.int .i64 a).wf = true ∧ (Lit.int .i64 b).wf = true ∧ (Lit.int .i64 c).wf = true := by
  obtain ⟨cs, rfl, hsz⟩ := okWide_struct hs hv
  obtain ⟨fuel, hf'⟩ := h
  obtain ⟨y0, n, _, _, h0⟩ := trod_struct1 hs hf'
  obtain ⟨l⟩ := cs
  have hl : l.length = 3 := by simpa [hC] using hsz
  rw [hf, ho, hCa] at h0
  have e : ((Value.agg ⟨l⟩).cells.toList.drop 0).take 3 = l := by simp [Value.cells, List.take_of_length_le (show l.length ≤ 3 by omega)]
  rw [e] at h0
  obtain ⟨a, b, c, rfl, wa, wb, wc⟩ := ints3 ha he hCe hl h0
  exact ⟨a, b, c, rfl, wa, wb, wc⟩
end

end Go.Proofs.Ytkhkcgoblibnpaa
