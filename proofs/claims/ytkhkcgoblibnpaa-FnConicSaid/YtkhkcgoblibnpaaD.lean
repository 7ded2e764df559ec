/-
  Contracts: the laws' own helpers: copies of arguments, comparisons.
-/
import Derived.Test.YtkhkcgoblibnpaaC
namespace Go.Proofs.Ytkhkcgoblibnpaa
open Go.RowKit
set_option linter.unusedVariables false
set_option linter.unusedSimpArgs false

/-- 'make([]int, n)'. -/
theorem make_int {ops : Array Oper} {rest : List Oper} {o : Oper} {a : Act} {Q : Exit → Act → World → Prop} {w : World} (l c : Operand) (hg : o.guard = none)
    (hop : o.op = Op.makeSlice 32 l c) (base n : Nat) (hl : a.eval l = .int .i64 n) (hc : a.eval c = .int .i64 n) (hn : n ≤ 17592186044416) (hb : base ≤ w.heap.size)
    (h : ∀ w', OI w' base (.slice (some ⟨w.heap.size, 0, none⟩) n n) (List.replicate n 0) → w.grownBy w' none → wpList Try.prog ops Q rest (a.put o.dst (.slice (some ⟨w.heap.size, 0, none⟩) n n)) w') : wpList Try.prog ops Q (o :: rest) a w := by
  obtain ⟨i0, hi, hz0, hz1, hz2⟩ := info_parts infoInt
  refine wpList_make_full w hg l c 32 hop base 3 i0 (.int .i64 0) 1 Try.underlying32 hi hz0 hz1 .i64 .i64 n n n hl hc rfl rfl (by rw [hz2]; omega) (by unfold maxLen; omega) hb ?_
  intro w' h1 h2
  refine h w' ?_ h2
  unfold OI
  simpa [Value.cells, toList_madeCells_one] using h1

theorem set_next {α β : Type} (f : α → β) (xs : List α) (z : β) (d : α) (k n : Nat) (hx : xs.length = n) (hk : k < n) :
    ((xs.take k).map f ++ List.replicate (n - k) z).set k (f (xs.getD k d)) = (xs.take (k + 1)).map f ++ List.replicate (n - (k + 1)) z := by
  have hlen : ((xs.take k).map f).length = k := by simp; omega
  rw [List.set_append, if_neg (by omega), hlen, Nat.sub_self]
  obtain ⟨m, hm⟩ : ∃ m, n - k = m + 1 := ⟨n - k - 1, by omega⟩
  rw [hm, List.replicate_succ, List.set_cons_zero, List.take_succ_eq_append_getElem (by omega), List.map_append]
  simp [List.getD_eq_getElem?_getD, List.getElem?_eq_getElem (show k < xs.length by omega), show n - (k + 1) = m by omega]

theorem OI.kept {w w' : World} {base : Nat} {v : Value} {xs : List Int} {row : Option Nat} (h : OI w base v xs) (hg : w.grownBy w' row) (hne : v.ownBlock = none ∨ v.ownBlock ≠ row) : OI w' base v xs := World.ownsRow.kept h hg hne

theorem OI.mono {w : World} {base base' : Nat} {v : Value} {xs : List Int} (h : OI w base v xs) (hb : base' ≤ base) : OI w base' v xs := by
  refine ⟨h.1, ?_⟩
  rcases h.2 with h2 | ⟨g, cap, cur, e, hg, r⟩
  · exact .inl h2
  · exact .inr ⟨g, cap, cur, e, by omega, r⟩
/-- A new block of numbers is a row of the call's own. -/
theorem OI_new (w : World) (xs : List Int) (cs : Array Value) (n : Nat) (hcs : cs = (xs.map (Value.int .i64)).toArray) (hx : xs.length = n) (hn : n ≤ 17592186044416) :
    OI (w.alloc (.cells cs 3)) w.heap.size (.slice (some ⟨w.heap.size, 0, none⟩) n n) xs := by
  have := World.ownsRow_lit (e := 3) (size := 1) (base := w.heap.size) w cs n (Nat.le_refl _) (by unfold maxLen; omega) (by rw [hcs]; simp [hx])
  rw [hcs] at this ⊢
  rw [← hx] at this ⊢
  simpa [OI] using this

theorem OI.below {w w' : World} {base : Nat} {v : Value} {xs : List Int} (h : OI w base v xs) (hb : Below w.heap.size w w') : OI w' base v xs :=
  h.kept (row := none) ⟨hb.os, hb.tape, hb.output, hb.size, fun k hk _ => hb.block k hk⟩ (by cases v.ownBlock <;> simp)


theorem eqIntS_ok (A : Option Addr) (n c : Nat) (xs : List Int) (A' : Option Addr) (n' c' : Nat) (ys : List Int) (w : World) (hr : RI w A n xs) (hr' : RI w A' n' ys) :
    Calls Try.prog 25 #[.slice A n c, .slice A' n' c'] w fun e w' => e = .returned (.bool (xs == ys)) ∧ Below w.heap.size w w' := by
  obtain ⟨hl, hn, b, off, hA, hc⟩ := hr
  obtain ⟨hl', hn', b', off', hA', hc'⟩ := hr'
  have HC := hid hc
  have HC' := hid hc'
  clear hc hc'
  by_cases hnn : n = n'
  · subst hnn
    go_enter Try.func25, Try.ntmps25
    go_wp2
    go_loopw [5] (fun t wr => ∃ k : Nat, k ≤ n ∧ t = .int .i64 k ∧ (xs == ys) = (xs.drop k == ys.drop k) ∧ ∃ m, wr = w.drewN m) (fun t _ => n - (intOf t).toNat)
    case atStart => exact ⟨0, by omega, rfl, rfl, 0, rfl⟩
    case round =>
      obtain ⟨k, hk, rfl, hf, m, rfl⟩ := hrel
      have HF := hid hf
      clear hf
      by_cases hlt : k < n
      · obtain rfl : A = some ⟨b, off, none⟩ := by rcases hA with h | h; omega; exact h
        obtain rfl : A' = some ⟨b', off', none⟩ := by rcases hA' with h | h; omega; exact h
        have hcx := HC.out k hlt
        have hcx' := HC'.out k hlt
        have HE := hid (@drop_eq_cons xs ys k (by omega) (by omega))
        generalize xs.getD k 0 = x at *
        generalize ys.getD k 0 = y at *
        clear hA hA'
        cases hq : (x == y)
        · have HQ := hid hq
          have hq2 : (x != y) = true := by simpa using hq
          clear hq
          go_wp2
          go_quiet (fail)
          go_wp2
          go_ret
          exact ⟨by rw [HF.out, HE.out, HQ.out]; rfl, below_drewN (below_drewN (Below.refl _ _) _) _⟩
        · have HQ := hid hq
          have hq2 : (x != y) = false := by simpa using hq
          clear hq
          go_wp2
          go_quiet (fail)
          go_wp2
          go_roundw
          case rel => exact ⟨k + 1, by omega, by go_num, by rw [HF.out, HE.out, HQ.out]; rfl, _, rfl⟩
          case measure => simp [intOf]; omega
      · obtain rfl : k = n := by omega
        have HE := hid (show (xs == ys) = true by rw [HF.out, List.drop_eq_nil_of_le (by omega), List.drop_eq_nil_of_le (by omega)]; rfl)
        go_wp2
        go_ret
        exact ⟨by rw [HE.out]; rfl, below_drewN (Below.refl _ _) _⟩
  · have HE := hid (show (xs == ys) = false by simp; intro h; subst h; omega)
    have hne : ((n : Int) != (n' : Int)) = true := by simp; omega
    go_enter Try.func25, Try.ntmps25
    go_wp2
    go_ret
    exact ⟨by rw [HE.out]; rfl, Below.refl _ _⟩

end Go.Proofs.Ytkhkcgoblibnpaa
