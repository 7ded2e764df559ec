/-
  How the rows' arguments are opened: lists of points.
-/
import Derived.Test.YtkhkcgoblibnpaaOpen
import Derived.Test.YtkhkcgoblibnpaaPt
namespace Go.Proofs.Ytkhkcgoblibnpaa
open Go.ChangeShapes Go.WideShapes Go.ChangeAt Go.RowKit
set_option linter.unusedVariables false

section
variable {H : Type} {enc : TypeId × Value → H} {P : Program} {w : World} {base : Nat} {spare : Nat → Bool} {held : Bool}

theorem open_pts {t e ta te : TypeId} {f0 : Field} {fuel : Nat} {cs : List Value} {x : DataW H × List MemPlace} (ht : P.underlying t = some (.slice e)) (hs : P.underlying e = some (.struct #[f0])) (hf : f0.type = ta) (ho : f0.offset = 0)
    (ha : P.underlying ta = some (.array 3 te)) (he : P.underlying te = some (.int .i64)) (hC : P.cellsOf e = 3) (hCa : P.cellsOf ta = 3) (hCe : P.cellsOf te = 1)
    (h : DataW.trod enc P w base spare held fuel t cs = some x) :
    cs = [.slice none 0 0] ∨ ∃ (a : Addr) (len cap : Nat), cs = [.slice (some a) len cap] ∧ len ≤ cap ∧ cap ≤ maxLen ∧
      ∀ i, i < len → ∃ q : P3, w.cell? (a.add (i * 3)) = some (.int .i64 q.1) ∧ w.cell? ((a.add (i * 3)).add 1) = some (.int .i64 q.2.1) ∧ w.cell? ((a.add (i * 3)).add 2) = some (.int .i64 q.2.2) := by
  rcases DataW.trod_slice ht h with h0 | ⟨a, len, cap, elems, rest, n, _, rfl, rfl, hb, hl, hm, hlen, hel, hsp, hns⟩
  · exact Or.inl h0.1
  refine .inr ⟨a, len, cap, rfl, hl, hm, fun i hi => ?_⟩
  have h1 := hel i hi
  rw [List.getElem?_eq_getElem (by omega), hC, Option.bind_eq_some_iff] at h1
  obtain ⟨cs', hcs, hy⟩ := h1
  obtain ⟨_, hlen', hcell⟩ := World.cells?_some hcs
  obtain ⟨y0, m, _, hcl, h2⟩ := trod_struct1 hs hy
  have hl3 : cs'.length = 3 := by rw [hcl, hC]
  rw [hf, ho, hCa, List.drop_zero, List.take_of_length_le (by omega)] at h2
  obtain ⟨p0, p1, p2, rfl, _, _, _⟩ := ints3 ha he hCe hl3 h2
  refine ⟨(p0, p1, p2), ?_, ?_, ?_⟩
  · have := hcell 0 (by omega)
    simpa [Addr.add] using this
  · exact hcell 1 (by omega)
  · exact hcell 2 (by omega)
end

theorem RP_nil (w : World) (A : Option Addr) : RP w A 0 [] := ⟨rfl, by omega, 0, 0, .inl rfl, fun j hj => by omega⟩
theorem RP_open {w : World} {a : Addr} {len : Nat} (hn : len ≤ 4398046511104) (h : ∀ i, i < len → ∃ q : P3, w.cell? (a.add (i * 3)) = some (.int .i64 q.1) ∧ w.cell? ((a.add (i * 3)).add 1) = some (.int .i64 q.2.1) ∧ w.cell? ((a.add (i * 3)).add 2) = some (.int .i64 q.2.2)) : ∃ ps, RP w (some a) len ps := by
  by_cases h0 : len = 0
  · subst h0; exact ⟨[], RP_nil w _⟩
  · obtain ⟨b, off, spot⟩ := a
    obtain ⟨q0, hq0, _⟩ := h 0 (by omega)
    obtain rfl : spot = none := by simpa [Addr.add] using World.cell?_spot hq0
    have key : ∀ m, m ≤ len → ∃ ps : List P3, ps.length = m ∧ ∀ i, i < m → w.cell? ⟨b, off + i * 3, none⟩ = some (.int .i64 (ps.getD i default).1) ∧ w.cell? ⟨b, off + i * 3 + 1, none⟩ = some (.int .i64 (ps.getD i default).2.1) ∧ w.cell? ⟨b, off + i * 3 + 2, none⟩ = some (.int .i64 (ps.getD i default).2.2) := by
      intro m
      induction m with
      | zero => intro _; exact ⟨[], rfl, fun i hi => by omega⟩
      | succ m ih =>
        intro hm
        obtain ⟨ps, hl, hps⟩ := ih (by omega)
        obtain ⟨q, q0, q1, q2⟩ := h m (by omega)
        refine ⟨ps ++ [q], by simp [hl], fun i hi => ?_⟩
        by_cases him : i < m
        · have e : (ps ++ [q]).getD i default = ps.getD i default := by simp [List.getD_eq_getElem?_getD, List.getElem?_append_left (show i < ps.length by omega)]
          rw [e]; exact hps i him
        · obtain rfl : i = m := by omega
          have e : (ps ++ [q]).getD i default = q := by subst hl; simp [List.getD_eq_getElem?_getD]
          rw [e]
          rw [Addr.add_lit] at q0 q1 q2
          exact ⟨q0, by simpa [Addr.add] using q1, by simpa [Addr.add] using q2⟩
    obtain ⟨ps, hl, hps⟩ := key len (Nat.le_refl _)
    exact ⟨ps, hl, hn, b, off, .inr rfl, hps⟩

end Go.Proofs.Ytkhkcgoblibnpaa
