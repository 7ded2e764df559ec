/-
  How the rows' arguments are opened: classes by value.
-/
import Derived.Test.YtbodpfgbelaopaaLib
import Derived.ProofKit
import Derived.OpenShut
namespace Go.Proofs.Ytbodpfgbelaopaa
open Go.ChangeShapes Go.WideShapes Go.ChangeAt Go.RowKit
set_option linter.unusedVariables false

section
variable {H : Type} {enc : TypeId × Value → H} {P : Program} {w : World} {base : Nat} {spare : Nat → Bool} {held : Bool}

/-- The cells of an array of six numbers. -/
theorem ints6 {ta te : TypeId} (ha : P.underlying ta = some (.array 6 te)) (he : P.underlying te = some (.int .i64)) (hCe : P.cellsOf te = 1) {fuel : Nat} {cs : List Value} {x : DataW H × List MemPlace}
    (hl : cs.length = 6) (h : DataW.trod enc P w base spare held fuel ta cs = some x) : ∃ a b c d e f : Int, cs = [.int .i64 a, .int .i64 b, .int .i64 c, .int .i64 d, .int .i64 e, .int .i64 f] := by
  obtain ⟨xs, m, _, _, _, hlen, hf⟩ := DataW.trod_array ha h
  match cs, hl with
  | [c0, c1, c2, c3, c4, c5], _ =>
    match xs, hlen with
    | [y0, y1, y2, y3, y4, y5], _ =>
      have f0 := hf 0 (by omega)
      have f1 := hf 1 (by omega)
      have f2 := hf 2 (by omega)
      have f3 := hf 3 (by omega)
      have f4 := hf 4 (by omega)
      have f5 := hf 5 (by omega)
      simp [hCe] at f0 f1 f2 f3 f4 f5
      obtain ⟨a, e0, _, wa⟩ := DataW.trod_int he f0
      obtain ⟨b, e1, _, wb⟩ := DataW.trod_int he f1
      obtain ⟨c, e2, _, wc⟩ := DataW.trod_int he f2
      obtain ⟨d, e3, _, wd⟩ := DataW.trod_int he f3
      obtain ⟨e, e4, _, we⟩ := DataW.trod_int he f4
      obtain ⟨f, e5, _, wf⟩ := DataW.trod_int he f5
      simp at e0 e1 e2 e3 e4 e5
      subst e0 e1 e2 e3 e4 e5
      exact ⟨a, b, c, d, e, f, rfl⟩

/-- A struct of a number and an array of six numbers, by value. -/
theorem open_cls {r : Reach} {b0 : Nat} {t ta te : TypeId} {f0 f1 : Field} {v : Value} {d : DataW H} {p : List MemPlace} (hs : P.underlying t = some (.struct #[f0, f1])) (hf0 : f0.type = te) (ho0 : f0.offset = 0) (hf : f1.type = ta) (ho : f1.offset = 1)
    (ha : P.underlying ta = some (.array 6 te)) (he : P.underlying te = some (.int .i64)) (hC : P.cellsOf t = 7) (hCa : P.cellsOf ta = 6) (hCe : P.cellsOf te = 1)
    (hv : Value.okWide P w r b0 t v) (h : DataW.Trod enc P w base spare held t v d p) :
    ∃ a0 a1 a2 a3 a4 a5 a6 : Int, v = .agg #[.int .i64 a0, .int .i64 a1, .int .i64 a2, .int .i64 a3, .int .i64 a4, .int .i64 a5, .int .i64 a6] := by
  obtain ⟨cs, rfl, hsz⟩ := okWide_struct hs hv
  obtain ⟨fuel, hf'⟩ := h
  obtain ⟨y0, y1, n, _, _, h0, h1⟩ := trod_struct2 hs hf'
  obtain ⟨l⟩ := cs
  have hl : l.length = 7 := by simpa [hC] using hsz
  match l, hl with
  | [c0, c1, c2, c3, c4, c5, c6], _ =>
    rw [hf0, ho0, hCe] at h0
    rw [hf, ho, hCa] at h1
    simp [Value.cells] at h0 h1
    obtain ⟨a0, e0, _, _⟩ := DataW.trod_int he h0
    obtain ⟨a1, a2, a3, a4, a5, a6, e1⟩ := ints6 ha he hCe rfl h1
    simp at e0 e1
    obtain ⟨rfl, rfl, rfl, rfl, rfl, rfl⟩ := e1
    subst e0
    exact ⟨a0, a1, a2, a3, a4, a5, a6, rfl⟩
end

end Go.Proofs.Ytbodpfgbelaopaa
