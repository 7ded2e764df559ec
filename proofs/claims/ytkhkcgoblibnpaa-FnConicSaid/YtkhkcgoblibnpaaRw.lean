/-
  Lists of rows of the call's own: each row in a block of its own, an outer list of the rows.
-/
import Derived.Test.YtkhkcgoblibnpaaEx
import Derived.OwnWalk
namespace Go.Proofs.Ytkhkcgoblibnpaa
open Go.RowKit
set_option linter.unusedVariables false
set_option linter.unusedSimpArgs false

/-- A row: its block, its capacity, its numbers. -/
structure Rw where
  g : Nat
  cap : Nat
  xs : List Int
instance : Inhabited Rw := ⟨⟨0, 0, []⟩⟩
def rwV (r : Rw) : Value := .slice (some ⟨r.g, 0, none⟩) r.xs.length r.cap
/-- The rows lie in w, each in a block of its own from base on. -/
structure RwIn (w : World) (base : Nat) (rs : List Rw) : Prop where
  own : ∀ r ∈ rs, OI w base (rwV r) r.xs
  nd : (rs.map (·.g)).Nodup
/-- The outer list. -/
def RwO (w : World) (base : Nat) (v : Value) (rs : List Rw) : Prop := w.ownsRow base 32 1 v rs.length (rs.map rwV)

theorem rwV_block (r : Rw) : (rwV r).ownBlock = some r.g := rfl
theorem RwIn.kept {w w' : World} {base : Nat} {rs : List Rw} {row : Option Nat} (h : RwIn w base rs) (hg : w.grownBy w' row) (hne : ∀ r ∈ rs, row ≠ some r.g) : RwIn w' base rs :=
  ⟨fun r hr => (h.own r hr).kept hg (.inr (fun e => hne r hr (by rw [rwV_block] at e; exact e.symm))), h.nd⟩
theorem RwIn.below {w w' : World} {base : Nat} {rs : List Rw} (h : RwIn w base rs) (hb : Below w.heap.size w w') : RwIn w' base rs :=
  h.kept (row := none) ⟨hb.os, hb.tape, hb.output, hb.size, fun i hi _ => hb.block i hi⟩ (fun _ _ e => by cases e)
theorem RwIn.alloc {w : World} {base : Nat} {rs : List Rw} (h : RwIn w base rs) (o : Obj) : RwIn (w.alloc o) base rs := h.below (below_alloc w o)
theorem RwIn.sub {w : World} {base : Nat} {rs rs' : List Rw} (h : RwIn w base rs) (hs : rs'.Sublist rs) : RwIn w base rs' :=
  ⟨fun r hr => h.own r (hs.subset hr), h.nd.sublist (hs.map _)⟩
theorem RwIn.perm {w : World} {base : Nat} {rs rs' : List Rw} (h : RwIn w base rs) (hs : rs'.Perm rs) : RwIn w base rs' :=
  ⟨fun r hr => h.own r (hs.mem_iff.1 hr), (hs.map _).nodup_iff.2 h.nd⟩
/-- What is written into an outer list leaves the rows alone. -/
theorem RwIn.outer {w w' : World} {base b : Nat} {rs : List Rw} {v : Value} {n : Nat} {xs : List Value} (h : RwIn w base rs) (ho : w.ownsRow b 32 1 v n xs) (hg : w.grownBy w' v.ownBlock) : RwIn w' base rs :=
  h.kept hg fun r hr e => by
    rcases own_ne ho (h.own r hr) (by decide) with h1 | h1
    · cases h1
    · exact h1 (by rw [rwV_block]; exact e.symm)
theorem RwO.below {w w' : World} {base : Nat} {v : Value} {rs : List Rw} (h : RwO w base v rs) (hb : Below w.heap.size w w') : RwO w' base v rs :=
  World.ownsRow.kept h (row := none) ⟨hb.os, hb.tape, hb.output, hb.size, fun i hi _ => hb.block i hi⟩ (by cases v.ownBlock <;> simp)
theorem RwO.alloc {w : World} {base : Nat} {v : Value} {rs : List Rw} (h : RwO w base v rs) (o : Obj) : RwO (w.alloc o) base v rs := World.ownsRow.alloc h o
/-- What is written into a row leaves the outer list alone. -/
theorem RwO.row {w w' : World} {base b : Nat} {v : Value} {rs : List Rw} {r : Value} {xs : List Int} (h : RwO w base v rs) (ho : OI w b r xs) (hg : w.grownBy w' r.ownBlock) : RwO w' base v rs :=
  World.ownsRow.kept h hg (own_ne ho h (by decide))
/-- An outer list that is not empty: where it lies, and what its cells hold. -/
theorem RwO.shape {w : World} {base : Nat} {v : Value} {rs : List Rw} (h : RwO w base v rs) (h0 : 0 < rs.length) :
    ∃ g cap, v = .slice (some ⟨g, 0, none⟩) rs.length cap ∧ base ≤ g ∧ g < w.heap.size ∧ rs.length ≤ cap ∧ cap ≤ maxLen ∧ (∀ j, w.frozen? ⟨g, j, none⟩ = false) ∧ ∀ j (hj : j < rs.length), w.cell? ⟨g, j, none⟩ = some (rwV rs[j]) := by
  have hlt := World.ownsRow.lt h
  rcases h.2 with ⟨_, h1⟩ | ⟨g, cap, cur, hv, hb, _, hc, hm, _⟩
  · omega
  · subst hv
    refine ⟨g, cap, rfl, hb, (hlt g rfl).2, hc, hm, fun j => World.ownsRow.frozenAt h j, fun j hj => ?_⟩
    rw [World.ownsRow.cellAt h j (by omega)]
    simp [List.getElem?_eq_getElem hj]
/-- Its length. -/
theorem RwO.form {w : World} {base : Nat} {v : Value} {rs : List Rw} (h : RwO w base v rs) : ∃ A cap, v = .slice A rs.length cap ∧ (rs.length = 0 ∨ ∃ g, A = some ⟨g, 0, none⟩) := by
  rcases h.2 with ⟨hv, h1⟩ | ⟨g, cap, cur, hv, _⟩
  · exact ⟨none, 0, by rw [hv, h1], .inl h1⟩
  · exact ⟨_, cap, hv, .inr ⟨g, rfl⟩⟩
/-- A row reads as its numbers. -/
theorem RwIn.ri {w : World} {base : Nat} {rs : List Rw} (h : RwIn w base rs) {r : Rw} (hr : r ∈ rs) (hn : r.xs.length ≤ 17592186044416) : RI w (some ⟨r.g, 0, none⟩) r.xs.length r.xs := by
  by_cases h0 : 0 < r.xs.length
  · obtain ⟨g, cap, hv, _, _, hc⟩ := (h.own r hr).shape h0
    simp only [rwV, Value.slice.injEq, Option.some.injEq, Addr.mk.injEq] at hv
    refine ⟨rfl, hn, r.g, 0, .inr rfl, fun j hj => ?_⟩
    rw [Nat.zero_add, hv.1.1]
    exact hc j hj
  · exact ⟨rfl, hn, 0, 0, .inl (by omega), fun j hj => by omega⟩
theorem RwIn.ge {w : World} {base : Nat} {rs : List Rw} (h : RwIn w base rs) {r : Rw} (hr : r ∈ rs) : base ≤ r.g ∧ r.g < w.heap.size := World.ownsRow.lt (h.own r hr) r.g rfl
theorem RwIn.frozen {w : World} {base : Nat} {rs : List Rw} (h : RwIn w base rs) {r : Rw} (hr : r ∈ rs) (j : Nat) : w.frozen? ⟨r.g, j, none⟩ = false := World.ownsRow.frozenAt (h.own r hr) j
/-- A store into a row. -/
theorem RwIn.store {w : World} {base : Nat} {pre post : List Rw} {r : Rw} (h : RwIn w base (pre ++ r :: post)) (i : Nat) (x : Int) :
    RwIn (w.setCell ⟨r.g, i, none⟩ (.int .i64 x)) base (pre ++ { r with xs := r.xs.set i x } :: post) ∧ w.grownBy (w.setCell ⟨r.g, i, none⟩ (.int .i64 x)) (some r.g) := by
  have hr : r ∈ pre ++ r :: post := by simp
  obtain ⟨h1, h2⟩ := World.ownsRow.stored (h.own r hr) i (.int .i64 x)
  refine ⟨⟨fun q hq => ?_, ?_⟩, h2⟩
  · have hnd := h.nd
    simp only [List.map_append, List.map_cons, List.nodup_append, List.nodup_cons] at hnd
    rcases List.mem_append.1 hq with hq | hq
    · refine (h.own q (by simp [hq])).kept h2 (.inr ?_)
      rw [rwV_block]
      intro e
      injection e with e
      exact hnd.2.2 q.g (List.mem_map.2 ⟨q, hq, rfl⟩) r.g (by simp) e
    · rcases List.mem_cons.1 hq with rfl | hq
      · have := h1
        unfold OI rwV
        simpa [List.map_set] using this
      · refine (h.own q (by simp [hq])).kept h2 (.inr ?_)
        rw [rwV_block]
        intro e
        injection e with e
        exact hnd.2.1.1 (List.mem_map.2 ⟨q, hq, e⟩)
  · have := h.nd
    simpa using this

theorem infoRow : (Try.prog.info? 32).map (fun i => (i.zero, i.size, i.bytes)) = some (some (.slice none 0 0), 1, 24) := by kernel_rfl

/-- 'append(rows, row)'. -/
theorem append_row {ops : Array Oper} {rest : List Oper} {o : Oper} {a : Act} {Q : Exit → Act → World → Prop} {w : World} (s x : Operand) (hgd : o.guard = none)
    (ho : o.op = .call { callee := .builtin .append, args := #[s, x], argTypes := #[26, 26] }) (base : Nat) (v : Value) (rs : List Rw) (r : Rw) (ad : Addr)
    (hs : a.eval s = v) (hx : a.eval x = .slice (some ad) 1 1) (hown : RwO w base v rs) (hc : w.cell? ad = some (rwV r)) (hn : rs.length < 1000000) (hb : base ≤ w.heap.size)
    (h : ∀ v' w', RwO w' base v' (rs ++ [r]) → w.grownBy w' v.ownBlock → wpList Try.prog ops Q rest (a.put o.dst v') w') : wpList Try.prog ops Q (o :: rest) a w := by
  obtain ⟨i0, hi, hz0, hz1, hz2⟩ := info_parts infoRow
  refine wpList_append_own w hgd s x 26 ho base 32 i0 (.slice none 0 0) 1 24 Try.underlying26 hi hz0 hz1 hz2 rfl (by decide) v _ _ hs hown ad 1 1 [rwV r] hx rfl ?_ ?_ (by unfold maxLen; omega) (by omega) hb ?_
  · intro j u hj
    match j, hj with
    | 0, hj => simp at hj; subst hj; simpa [Addr.add] using hc
  · intro u hu; simp at hu; subst hu; rfl
  · intro v' w' h1 h2 _
    refine h v' w' ?_ h2
    unfold RwO
    simpa using h1

end Go.Proofs.Ytkhkcgoblibnpaa
