/-
  Contracts: what is drawn out of a text of bytes: primes, places.
-/
import Derived.Test.YtkhkcgoblibnpaaD
import Derived.Test.YtkhkcgoblibnpaaC
import Derived.Test.YtkhkcgoblibnpaaRd
namespace Go.Proofs.Ytkhkcgoblibnpaa
open Go.RowKit
set_option linter.unusedVariables false
set_option linter.unusedSimpArgs false

/-- From w on only the reader's block R has been written. -/
theorem gb_trans {w w1 w2 : World} {row : Option Nat} (h : w.grownBy w1 row) (k : w1.grownBy w2 row) : w.grownBy w2 row :=
  ⟨k.os.trans h.os, k.tape.trans h.tape, k.output.trans h.output, Nat.le_trans h.size k.size, fun i hi hr => (k.block i (Nat.lt_of_lt_of_le hi h.size) hr).trans (h.block i hi hr)⟩
theorem gb_below {w w1 : World} {row : Option Nat} (h : Below w.heap.size w w1) : w.grownBy w1 row := ⟨h.os, h.tape, h.output, h.size, fun i hi _ => h.block i hi⟩
theorem gb_open {w w1 w2 : World} {R : Nat} (h : Below w.heap.size w w1) (hR : R = w.heap.size) (hg : w1.grownBy w2 (some R)) : Below w.heap.size w w2 :=
  h.grown hg h.size (fun k hk => by cases hk; exact Nat.le_of_eq hR.symm)
theorem OI.gb {w w' : World} {base R : Nat} {v : Value} {xs : List Int} (h : OI w base v xs) (hg : w.grownBy w' (some R)) (hR : R < base) : OI w' base v xs := by
  refine h.kept hg ?_
  cases hv : v.ownBlock with
  | none => exact .inl rfl
  | some k => right; have := own_base h k hv; intro e; cases e; omega
theorem gb_append {w wr w1 : World} {R : Nat} {o : Obj} {e : TypeId} {size n : Nat} {v : Value} {xs : List Value} (h : w.grownBy wr (some R)) (hown : wr.ownsRow w.heap.size e size v n xs) (hg : (wr.alloc o).grownBy w1 v.ownBlock) : w.grownBy w1 (some R) := by
  have h2 : w.grownBy (wr.alloc o) (some R) := gb_trans h (gb_below (below_alloc wr o))
  refine ⟨hg.os.trans h2.os, hg.tape.trans h2.tape, hg.output.trans h2.output, Nat.le_trans h2.size hg.size, fun i hi hr => ?_⟩
  rw [hg.block i (Nat.lt_of_lt_of_le hi h2.size) (fun e => by have := own_base hown i e.symm; omega)]
  exact h2.block i hi hr

def draws13 : List Int := [7, 11, 13, 17, 19, 23, 29, 31, 13, 19, 31, 9, 5]
theorem draws13_bd (k : Nat) (h : k < 13) : 5 ≤ draws13.getD k 0 ∧ draws13.getD k 0 ≤ 31 := by
  have : ∀ k : Nat, k < 13 → 5 ≤ draws13.getD k 0 ∧ draws13.getD k 0 ≤ 31 := by decide +kernel
  exact this k h

theorem l92Prime_ok (R : Nat) (cnt : Int) (w : World) (hr : Rd w R cnt) (h0 : 0 ≤ cnt) (h1 : cnt ≤ 900000) :
    Calls Try.prog 85 #[.pointer (some ⟨R, 0, none⟩)] w fun e w' => ∃ p : Int, e = .returned (.int .i64 p) ∧ 5 ≤ p ∧ p ≤ 31 ∧ Rd w' R (cnt + 1) ∧ w.grownBy w' (some R) := by
  have hlt := hr.lt
  go_enter Try.func85, Try.ntmps85
  go_wp2_with fail
  refine (pick_ok R cnt 13 _ (hr.below (below_alloc _ _)) h0 (by omega) (by omega)).mono ?_
  rintro e w1 ⟨r, rfl, r0, r1, hd, hg⟩
  obtain ⟨k, rfl⟩ := Int.eq_ofNat_of_zero_le r0
  have hk : k < 13 := by omega
  have HD := hid hd
  have HG := hid (gb_trans (gb_below (row := some R) (below_alloc _ _)) hg)
  have hc : w1.cell? ⟨w.heap.size, k, none⟩ = some (.int .i64 (draws13.getD k 0)) := by
    refine hg.cell ?_ (by intro e; injection e with e; simp at e; omega)
    rw [World.cell?_alloc_at _ _ _ _ rfl]
    have : ∀ k : Nat, k < 13 → (#[Value.int .i64 7, .int .i64 11, .int .i64 13, .int .i64 17, .int .i64 19, .int .i64 23, .int .i64 29, .int .i64 31, .int .i64 13, .int .i64 19, .int .i64 31, .int .i64 9, .int .i64 5] : Array Value)[k]? = some (.int .i64 (draws13.getD k 0)) := by
      intro k hk
      match k, hk with
      | 0, _ => rfl
      | 1, _ => rfl
      | 2, _ => rfl
      | 3, _ => rfl
      | 4, _ => rfl
      | 5, _ => rfl
      | 6, _ => rfl
      | 7, _ => rfl
      | 8, _ => rfl
      | 9, _ => rfl
      | 10, _ => rfl
      | 11, _ => rfl
      | 12, _ => rfl
    exact this k hk
  have HB := hid (draws13_bd k hk)
  generalize draws13.getD k 0 = p at *
  clear hd hg r1
  go_wp2
  go_ret
  exact ⟨p, rfl, HB.out.1, HB.out.2, HD.out, HG.out⟩



end Go.Proofs.Ytkhkcgoblibnpaa
