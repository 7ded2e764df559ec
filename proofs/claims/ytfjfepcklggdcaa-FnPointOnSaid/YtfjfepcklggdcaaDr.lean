/-
  Contracts: what is drawn out of a text of bytes: primes, places.
-/
import Derived.Test.YtfjfepcklggdcaaD
import Derived.Test.YtfjfepcklggdcaaC
import Derived.Test.YtfjfepcklggdcaaRd
namespace Go.Proofs.Ytfjfepcklggdcaa
open Go.RowKit
set_option linter.unusedVariables false
set_option linter.unusedSimpArgs false

/-- From w on only the reader's block R has been written. -/
theorem gb_trans {w w1 w2 : World} {row : Option Nat} (h : w.grownBy w1 row) (k : w1.grownBy w2 row) : w.grownBy w2 row :=
  ⟨k.os.trans h.os, k.tape.trans h.tape, k.output.trans h.output, Nat.le_trans h.size k.size, fun i hi hr => (k.block i (Nat.lt_of_lt_of_le hi h.size) hr).trans (h.block i hi hr)⟩
theorem gb_below {w w1 : World} {row : Option Nat} (h : Below w.heap.size w w1) : w.grownBy w1 row := ⟨h.os, h.tape, h.output, h.size, fun i hi _ => h.block i hi⟩
theorem gb_open {w w1 w2 : World} {R : Nat} (h : Below w.heap.size w w1) (hR : R = w.heap.size) (hg : w1.grownBy w2 (some R)) : Below w.heap.size w w2 :=
  h.grown hg h.size (fun k hk => by cases hk; exact Nat.le_of_eq hR.symm)
theorem OI.gb {w w' : World} {base R : Nat} {v : Value} {xs : List Int} (h : OI w base v xs) (hg : w.grownBy w' (some R)) (hR : R < base) : OI w' base v xs := by
  refine h.kept hg ?_
  cases hv : v.ownBlock with
  | none => exact .inl rfl
  | some k => right; have := own_base h k hv; intro e; cases e; omega
theorem gb_append {w wr w1 : World} {R : Nat} {o : Obj} {e : TypeId} {size n : Nat} {v : Value} {xs : List Value} (h : w.grownBy wr (some R)) (hown : wr.ownsRow w.heap.size e size v n xs) (hg : (wr.alloc o).grownBy w1 v.ownBlock) : w.grownBy w1 (some R) := by
  have h2 : w.grownBy (wr.alloc o) (some R) := gb_trans h (gb_below (below_alloc wr o))
  refine ⟨hg.os.trans h2.os, hg.tape.trans h2.tape, hg.output.trans h2.output, Nat.le_trans h2.size hg.size, fun i hi hr => ?_⟩
  rw [hg.block i (Nat.lt_of_lt_of_le hi h2.size) (fun e => by have := own_base hown i e.symm; omega)]
  exact h2.block i hi hr

def draws13 : List Int := [7, 11, 13, 17, 19, 23, 29, 31, 13, 19, 31, 9, 5]
theorem draws13_bd (k : Nat) (h : k < 13) : 5 ≤ draws13.getD k 0 ∧ draws13.getD k 0 ≤ 31 := by
  have : ∀ k : Nat, k < 13 → 5 ≤ draws13.getD k 0 ∧ draws13.getD k 0 ≤ 31 := by decide +kernel
  exact this k h

theorem l92Prime_ok (R : Nat) (cnt : Int) (w : World) (hr : Rd w R cnt) (h0 : 0 ≤ cnt) (h1 : cnt ≤ 900000) :
    Calls Try.prog 58 #[.pointer (some ⟨R, 0, none⟩)] w fun e w' => ∃ p : Int, e = .returned (.int .i64 p) ∧ 5 ≤ p ∧ p ≤ 31 ∧ Rd w' R (cnt + 1) ∧ w.grownBy w' (some R) := by
  have hlt := hr.lt
  go_enter Try.func58, Try.ntmps58
  go_wp2_with fail
  refine (pick_ok R cnt 13 _ (hr.below (below_alloc _ _)) h0 (by omega) (by omega)).mono ?_
  rintro e w1 ⟨r, rfl, r0, r1, hd, hg⟩
  obtain ⟨k, rfl⟩ := Int.eq_ofNat_of_zero_le r0
  have hk : k < 13 := by omega
  have HD := hid hd
  have HG := hid (gb_trans (gb_below (row := some R) (below_alloc _ _)) hg)
  have hc : w1.cell? ⟨w.heap.size, k, none⟩ = some (.int .i64 (draws13.getD k 0)) := by
    refine hg.cell ?_ (by intro e; injection e with e; simp at e; omega)
    rw [World.cell?_alloc_at _ _ _ _ rfl]
    have : ∀ k : Nat, k < 13 → (#[Value.int .i64 7, .int .i64 11, .int .i64 13, .int .i64 17, .int .i64 19, .int .i64 23, .int .i64 29, .int .i64 31, .int .i64 13, .int .i64 19, .int .i64 31, .int .i64 9, .int .i64 5] : Array Value)[k]? = some (.int .i64 (draws13.getD k 0)) := by
      intro k hk
      match k, hk with
      | 0, _ => rfl
      | 1, _ => rfl
      | 2, _ => rfl
      | 3, _ => rfl
      | 4, _ => rfl
      | 5, _ => rfl
      | 6, _ => rfl
      | 7, _ => rfl
      | 8, _ => rfl
      | 9, _ => rfl
      | 10, _ => rfl
      | 11, _ => rfl
      | 12, _ => rfl
    exact this k hk
  have HB := hid (draws13_bd k hk)
  generalize draws13.getD k 0 = p at *
  clear hd hg r1
  go_wp2
  go_ret
  exact ⟨p, rfl, HB.out.1, HB.out.2, HD.out, HG.out⟩

theorem l92Place_ok (R : Nat) (cnt p : Int) (w : World) (hr : Rd w R cnt) (h0 : 0 ≤ cnt) (h1 : cnt ≤ 900000) (hp : 5 ≤ p) (hp2 : p ≤ 31) :
    Calls Try.prog 59 #[.pointer (some ⟨R, 0, none⟩), .int .i64 p] w fun e w' => ∃ v xs, e = .returned v ∧ OI w' w.heap.size v xs ∧ xs.length ≤ 5 ∧ w.grownBy w' (some R) := by
  have hlt := hr.lt
  go_enter Try.func59, Try.ntmps59
  go_wp2_with fail
  refine (pick_ok R cnt 2 _ hr h0 (by omega) (by omega)).mono ?_
  rintro e w1 ⟨a, rfl, a0, a1, hd1, hg1⟩
  have G1 := hid hg1
  clear hg1
  go_wp2_with fail
  refine (pick_ok R _ p _ hd1 (by omega) (by omega) (by omega)).mono ?_
  rintro e w2 ⟨b, rfl, b0, b1, hd2, hg2⟩
  have G2 := hid (gb_trans G1.out hg2)
  clear hg2 hd1
  go_wp2_with fail
  refine (pick_ok R _ p _ hd2 (by omega) (by omega) (by omega)).mono ?_
  rintro e w3 ⟨c, rfl, c0, c1, hd3, hg3⟩
  have G3 := hid (gb_trans G2.out hg3)
  clear hg3 hd2
  go_wp2_with fail
  refine (pick_ok R _ p _ hd3 (by omega) (by omega) (by omega)).mono ?_
  rintro e w4 ⟨d, rfl, d0, d1, hd4, hg4⟩
  have G4 := hid (gb_trans G3.out hg4)
  have HD4 := hid hd4
  clear hg4 hd3 hd4
  have HX := hid (show ∀ x ∈ [a, b, c, d], 0 ≤ x ∧ x ≤ 1000 by intro x hx; simp at hx; omega)
  clear a0 a1 b0 b1 c0 c1 d0 d1
  go_wp2_with fail
  refine (l4Row_ok p _ 4 4 [a, b, c, d] _ (by omega) hp2 (RI_new w4 [a, b, c, d] _ _ 4 rfl rfl (by decide)) HX.out).mono ?_
  rintro e w5 ⟨v, rfl, hown, hb5⟩
  have hl5 : (rowS p [a, b, c, d]).length = 4 := rowS_length _ _
  have G5 := hid (gb_trans G4.out (gb_below (row := some R) (below_alloc_then hb5)))
  have HD5 := hid ((HD4.out.below (below_alloc _ _)).below hb5)
  have HS : w.heap.size ≤ (w4.alloc (.cells #[.int .i64 a, .int .i64 b, .int .i64 c, .int .i64 d] 3)).heap.size := size_alloc G4.out.size _
  have HO := hid (hown.mono HS)
  obtain ⟨A5, c5, hv5, hri⟩ := HO.out.ri (by omega)
  rw [hl5] at hv5 hri
  have HR := hid hri
  generalize rowS p [a, b, c, d] = row at *
  have HL := hid hl5
  clear hb5 hown hri HS hl5
  subst hv5
  go_wp2_with fail
  refine (l4Zero_ok A5 4 c5 row w5 HR.out).mono ?_
  rintro e w' ⟨rfl, rfl⟩
  cases hz : zeroB row
  · have HZ := hid hz
    clear hz
    go_wp2_with fail
    refine (pick_ok R _ 24 _ HD5.out (by omega) (by omega) (by omega)).mono ?_
    rintro e w6 ⟨q, rfl, q0, q1, hd6, hg6⟩
    have G6 := hid (gb_trans G5.out hg6)
    have HO6 := hid (HO.out.gb hg6 hlt)
    clear hg6 hd6 q1
    cases hq : (q == 0)
    · go_wp2
      go_ret
      exact ⟨_, row, rfl, HO6.out, by have := HL.out; omega, G6.out⟩
    · have HL4 := hid (show row.length < 17592186044416 by have := HL.out; omega)
      go_wp2_with (at_builtin; refine append_int _ _ rfl rfl w.heap.size _ row 0 ⟨w6.heap.size, 0, none⟩ rfl rfl (HO6.out.alloc _) (World.cell?_alloc_at _ _ _ _ rfl) HL4.out (size_alloc G6.out.size _) ?_; intro v' w7 hown hgrow; have HO7 := hid hown; have HG7 := hid hgrow; clear hown hgrow)
      go_ret
      exact ⟨_, _, rfl, HO7.out, by simp; have := HL.out; omega, gb_append G6.out HO6.out HG7.out⟩
  · have HZ := hid hz
    clear hz
    go_wp2_with fail
    refine (pick_ok R _ p _ HD5.out (by omega) (by omega) (by omega)).mono ?_
    rintro e w6 ⟨q, rfl, q0, q1, hd6, hg6⟩
    have G6 := hid (gb_trans G5.out hg6)
    clear hg6 hd6 q1
    go_wp2
    go_ret
    exact ⟨_, [0, 0, 1, q], rfl, (OI_new w6 [0, 0, 1, q] _ 4 rfl rfl (by omega)).mono G6.out.size, by simp, gb_trans G6.out (gb_below (row := some R) (below_alloc _ _))⟩

theorem DrawPlaceIn_ok (A : Option Addr) (n c : Nat) (xs : List Int) (w : World) (hr : RB w A n c xs) :
    Calls Try.prog 38 #[.slice A n c] w fun e w' => ∃ (p : Int) (A' : Option Addr) (n' c' : Nat) (ys : List Int), e = .returned (.tuple #[.int .i64 p, .slice A' n' c']) ∧ 5 ≤ p ∧ p ≤ 31 ∧ RI w' A' n' ys ∧ Below w.heap.size w w' := by
  go_enter Try.func38, Try.ntmps38
  go_wp2_with fail
  refine (l6Open_ok A n c xs w hr).mono ?_
  rintro e w1 ⟨R, rfl, hR, hd, hb⟩
  have HR := hid hR
  have HB := hid hb
  clear hR hb
  go_wp2_with fail
  refine (l92Prime_ok R 0 w1 hd (by omega) (by omega)).mono ?_
  rintro e w2 ⟨p, rfl, p0, p1, hd2, hg⟩
  have HG := hid hg
  clear hg hd
  go_wp2_with fail
  refine (l92Place_ok R _ p w2 hd2 (by omega) (by omega) p0 p1).mono ?_
  rintro e w3 ⟨v, ys, rfl, hown, hlen, hg⟩
  have HG3 := hid (gb_trans HG.out hg)
  obtain ⟨A', c', rfl, hri⟩ := hown.ri (by omega)
  have HRI := hid hri
  clear hg hd2 hown hri
  go_wp2
  go_ret2
  exact ⟨p, A', _, c', ys, rfl, p0, p1, HRI.out, gb_open HB.out HR.out HG3.out⟩

end Go.Proofs.Ytfjfepcklggdcaa
