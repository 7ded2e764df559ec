/-
  Contracts: the reference's functions on rows and points.
-/
import Derived.Test.YtcffaeepanhpfaaB
import Derived.Deep.QuietTactic
import Derived.BigQuiet
namespace Go.Proofs.Ytcffaeepanhpfaa
open Go.RowKit
set_option linter.unusedVariables false
set_option linter.unusedSimpArgs false

theorem infoInt : (Try.prog.info? 3).map (fun i => (i.zero, i.size, i.bytes)) = some (some (.int .i64 0), 1, 8) := by kernel_rfl

/-- A slice of integers that the call made: it lies in a block of its own. -/
def OI (w : World) (base : Nat) (v : Value) (xs : List Int) : Prop := w.ownsRow base 3 1 v xs.length (xs.map (Value.int .i64))

theorem OI.alloc {w : World} {base : Nat} {v : Value} {xs : List Int} (h : OI w base v xs) (o : Obj) : OI (w.alloc o) base v xs := World.ownsRow.alloc h o

/-- What a row of the call's own is, and how it reads. -/
theorem OI.shape {w : World} {base : Nat} {v : Value} {xs : List Int} (h : OI w base v xs) (h0 : 0 < xs.length) :
    ∃ g cap, v = .slice (some ⟨g, 0, none⟩) xs.length cap ∧ base ≤ g ∧ g < w.heap.size ∧ ∀ j, j < xs.length → w.cell? ⟨g, j, none⟩ = some (.int .i64 (xs.getD j 0)) := by
  have hlt := World.ownsRow.lt h
  rcases h.2 with ⟨_, h1⟩ | ⟨g, cap, cur, hv, hb, _⟩
  · omega
  · subst hv
    refine ⟨g, cap, rfl, hb, (hlt g rfl).2, fun j hj => ?_⟩
    rw [World.ownsRow.cellAt h j (by omega)]
    simp [List.getD_eq_getElem?_getD, List.getElem?_eq_getElem hj]

theorem OI.ri {w : World} {base : Nat} {v : Value} {xs : List Int} (h : OI w base v xs) (hn : xs.length ≤ 17592186044416) : ∃ A c, v = .slice A xs.length c ∧ RI w A xs.length xs := by
  by_cases h0 : 0 < xs.length
  · obtain ⟨g, cap, rfl, _, _, hc⟩ := h.shape h0
    exact ⟨_, cap, rfl, rfl, hn, g, 0, .inr rfl, fun j hj => by rw [Nat.zero_add]; exact hc j hj⟩
  · have hz : xs.length = 0 := by omega
    rcases h.2 with ⟨hv, _⟩ | ⟨g, cap, cur, hv, _⟩
    · exact ⟨none, 0, by rw [hz]; exact hv, rfl, hn, 0, 0, .inl hz, fun j hj => by omega⟩
    · exact ⟨_, cap, hv, rfl, hn, 0, 0, .inl hz, fun j hj => by omega⟩

/-- 'append(out, y)'. -/
theorem append_int {ops : Array Oper} {rest : List Oper} {o : Oper} {a : Act} {Q : Exit → Act → World → Prop} {w : World} (s x : Operand) (hgd : o.guard = none)
    (ho : o.op = .call { callee := .builtin .append, args := #[s, x], argTypes := #[22, 22] }) (base : Nat) (v : Value) (xs : List Int) (y : Int) (ad : Addr)
    (hs : a.eval s = v) (hx : a.eval x = .slice (some ad) 1 1) (hown : OI w base v xs) (hc : w.cell? ad = some (.int .i64 y)) (hn : xs.length < 17592186044416) (hb : base ≤ w.heap.size)
    (h : ∀ v' w', OI w' base v' (xs ++ [y]) → w.grownBy w' v.ownBlock → wpList Try.prog ops Q rest (a.put o.dst v') w') : wpList Try.prog ops Q (o :: rest) a w := by
  obtain ⟨i0, hi, hz0, hz1, hz2⟩ := info_parts infoInt
  refine wpList_append_own w hgd s x 22 ho base 3 i0 (.int .i64 0) 1 8 Try.underlying22 hi hz0 hz1 hz2 rfl (by decide) v _ _ hs hown ad 1 1 [.int .i64 y] hx rfl ?_ ?_ (by unfold maxLen; omega) (by omega) hb ?_
  · intro j u hj
    match j, hj with
    | 0, hj => simp at hj; subst hj; simpa [Addr.add] using hc
  · intro u hu; simp at hu; subst hu; rfl
  · intro v' w' h1 h2 _
    refine h v' w' ?_ h2
    unfold OI
    simpa using h1








end Go.Proofs.Ytcffaeepanhpfaa
