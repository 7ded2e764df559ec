/-
  The reader of draws: a text of bytes, read one number at a time.
-/
import Derived.Test.YtkhkcgoblibnpaaProg
import Derived.Test.YtkhkcgoblibnpaaLib
namespace Go.Proofs.Ytkhkcgoblibnpaa
open Go.RowKit
set_option linter.unusedVariables false
set_option linter.unusedSimpArgs false

/-- The bytes of a slice: that it reads, each from 0 to 255, and that it lies below block R. -/
def RB (w : World) (A : Option Addr) (n c : Nat) (xs : List Int) : Prop :=
  xs.length = n ∧ n ≤ c ∧ n ≤ 17592186044416 ∧ (∀ x ∈ xs, 0 ≤ x ∧ x ≤ 255) ∧ ∃ b off, (n = 0 ∨ A = some ⟨b, off, none⟩) ∧ ∀ j, j < n → w.cell? ⟨b, off + j, none⟩ = some (.int .u8 (xs.getD j 0))

theorem RB.below {w w1 : World} {A : Option Addr} {n c : Nat} {xs : List Int} (h : RB w A n c xs) (hb : Below w.heap.size w w1) : RB w1 A n c xs := by
  obtain ⟨h1, h0, h2, h5, b, off, h3, h4⟩ := h
  exact ⟨h1, h0, h2, h5, b, off, h3, fun j hj => cell_below hb (h4 j hj)⟩

theorem RB_nil (w : World) (A : Option Addr) (c : Nat) : RB w A 0 c [] := ⟨rfl, by omega, by omega, fun x hx => by simp at hx, 0, 0, .inl rfl, fun j hj => by omega⟩

/-- Out of what a row's argument is opened into. -/
theorem RB_open {w : World} {x : Addr} {l c : Nat} {zs : List Int} (hl : l ≤ c) (hz : zs.length = c) (hc : ∀ i, i < zs.length → w.cell? (x.add i) = some (.int .u8 (zs.getD i 0))) (hw : ∀ n ∈ zs, (Lit.int .u8 n).wf = true) (hn : l ≤ 17592186044416) : RB w (some x) l c (zs.take l) := by
  refine ⟨by simp; omega, hl, hn, fun q hq => ?_, ?_⟩
  · have := hw q (List.mem_of_mem_take hq)
    simp [Lit.wf, IntKind.min, IntKind.max, IntKind.signed, IntKind.bits] at this
    omega
  · by_cases h0 : l = 0
    · exact ⟨0, 0, .inl h0, fun j hj => by omega⟩
    · obtain ⟨b, off, spot⟩ := x
      have h := hc 0 (by omega)
      obtain rfl : spot = none := by simpa [Addr.add] using World.cell?_spot h
      refine ⟨b, off, .inr rfl, fun j hj => ?_⟩
      have := hc j (by omega)
      rw [Addr.add_lit] at this
      rw [this]
      simp [List.getD_eq_getElem?_getD, hj]

/-- The reader in block R, which has read cnt numbers. -/
structure Rd (w : World) (R : Nat) (cnt : Int) : Prop where
  lt : R < w.heap.size
  ok : ∃ (b off n c : Nat) (A : Option Addr) (xs : List Int), w.heap[R]? = some (.cells #[.slice A n c, .int .i64 cnt] 90 (0, 0)) ∧ (n = 0 ∨ b < R) ∧ xs.length = n ∧ n ≤ 2000 ∧ (∀ j, 0 ≤ xs.getD j 0 ∧ xs.getD j 0 ≤ 255) ∧
    (n = 0 ∨ A = some ⟨b, off, none⟩) ∧ ∀ j, j < n → w.cell? ⟨b, off + j, none⟩ = some (.int .u8 (xs.getD j 0))

theorem Rd.below {w w1 : World} {R : Nat} {cnt : Int} (h : Rd w R cnt) (hb : Below w.heap.size w w1) : Rd w1 R cnt := by
  obtain ⟨hlt, b, off, n, c, A, xs, h1, h2, h3, h4, h5, h6, h7⟩ := h
  exact ⟨Nat.lt_of_lt_of_le hlt hb.size, b, off, n, c, A, xs, by rw [hb.block R hlt]; exact h1, h2, h3, h4, h5, h6, fun j hj => cell_below hb (h7 j hj)⟩

theorem Rd.next {w : World} {R : Nat} {cnt : Int} (h : Rd w R cnt) : Rd (w.setCell ⟨R, 1, none⟩ (.int .i64 (cnt + 1))) R (cnt + 1) ∧ w.grownBy (w.setCell ⟨R, 1, none⟩ (.int .i64 (cnt + 1))) (some R) := by
  obtain ⟨hlt, b, off, n, c, A, xs, h1, h2, h3, h4, h5, h6, h7⟩ := h
  refine ⟨⟨by simpa using hlt, b, off, n, c, A, xs, ?_, h2, h3, h4, h5, h6, fun j hj => ?_⟩, ⟨rfl, rfl, rfl, by simp, fun k _ hk => heap_setCell_other w ⟨R, 1, none⟩ k _ (fun e => hk (by simp [e]))⟩⟩
  · rw [heap_setCell_same w R 1 _ _ _ h1]
    rfl
  · exact (World.cell?_setCell_other (v := .int .i64 (cnt + 1)) w ⟨R, 1, none⟩ ⟨b, off + j, none⟩ (fun e => absurd (show R = b by injection e with e) (by omega))).trans (h7 j hj)

theorem Rd.drewN {w : World} {R : Nat} {cnt : Int} (h : Rd w R cnt) (m : Nat) : Rd (w.drewN m) R cnt := ⟨h.lt, h.ok⟩
theorem grownBy_drewN {w w1 : World} {row : Option Nat} (h : w.grownBy w1 row) (m : Nat) : w.grownBy (w1.drewN m) row := ⟨h.os, h.tape, h.output, h.size, h.block⟩

theorem xor_i64_nat (a b : Nat) (ha : a < 9223372036854775808) (hb : b < 9223372036854775808) : bits .xor .i64 (a : Int) (b : Int) = ((a ^^^ b : Nat) : Int) := by
  have hx : a ^^^ b < 2 ^ 63 := Nat.xor_lt_two_pow (by omega) (by omega)
  have h1 : (BitVec.ofInt 64 (a : Int)).toNat = a := by
    rw [BitVec.ofInt_natCast, BitVec.toNat_ofNat]; exact Nat.mod_eq_of_lt (by omega)
  have h2 : (BitVec.ofInt 64 (b : Int)).toNat = b := by
    rw [BitVec.ofInt_natCast, BitVec.toNat_ofNat]; exact Nat.mod_eq_of_lt (by omega)
  show IntKind.i64.wrap ((BitVec.ofInt 64 (a : Int) ^^^ BitVec.ofInt 64 (b : Int)).toNat : Int) = _
  rw [BitVec.toNat_xor, h1, h2]
  exact IntWalk.i64_in _ ⟨by omega, by omega⟩

theorem xor_pos {a b : Int} (h0 : 0 ≤ a) (h1 : a < 9223372036854775808) (h2 : 0 ≤ b) (h3 : b < 9223372036854775808) : 0 ≤ bits .xor .i64 a b := by
  obtain ⟨A, rfl⟩ := Int.eq_ofNat_of_zero_le h0
  obtain ⟨B, rfl⟩ := Int.eq_ofNat_of_zero_le h2
  rw [xor_i64_nat A B (by omega) (by omega)]
  omega

theorem rem_range (x m : Int) (hx : 0 ≤ x) (hm : 1 ≤ m) : 0 ≤ x % m ∧ x % m < m := ⟨Int.emod_nonneg _ (by omega), Int.emod_lt_of_pos _ (by omega)⟩

theorem pick_ok (R : Nat) (cnt m : Int) (w : World) (hr : Rd w R cnt) (h0 : 0 ≤ cnt) (h1 : cnt ≤ 1000000) (hm : m ≤ 1000000) :
    Calls Try.prog 62 #[.pointer (some ⟨R, 0, none⟩), .int .i64 m] w fun e w' => ∃ r : Int, e = .returned (.int .i64 r) ∧ 0 ≤ r ∧ (r < m ∨ r = 0) ∧ Rd w' R (cnt + 1) ∧ w.grownBy w' (some R) := by
  have HN := hid hr.next
  obtain ⟨hlt, b, off, n, c, A, xs, hh, hne, hl, hn, hx, hA, hc⟩ := hr
  have c0 : w.cell? ⟨R, 0, none⟩ = some (.slice A n c) := cell_of_row w R 0 _ _ _ hh
  have c1 : w.cell? ⟨R, 1, none⟩ = some (.int .i64 cnt) := cell_of_row w R 1 _ _ _ hh
  have f0 : w.frozen? ⟨R, 1, none⟩ = false := frozen_of_row w R 1 _ _ hh
  have HX := hid hx
  have HC := hid hc
  clear hh hx hc
  by_cases hm1 : m < 1
  · go_enter Try.func62, Try.ntmps62
    go_wp2
    go_ret
    exact ⟨0, rfl, by omega, .inr rfl, HN.out.1, HN.out.2⟩
  · by_cases hn0 : n = 0
    · subst hn0
      go_enter Try.func62, Try.ntmps62
      go_wp2
      go_ret
      exact ⟨0, rfl, by omega, .inr rfl, HN.out.1, HN.out.2⟩
    · obtain rfl : A = some ⟨b, off, none⟩ := by rcases hA with h | h; omega; exact h
      obtain ⟨k, rfl⟩ := Int.eq_ofNat_of_zero_le h0
      have hn1 : ((n : Int) == 0) = false := by simp; omega
      by_cases hk : k < n
      · have hck := HC.out k hk
        have hxk := HX.out k
        have HXK := hid hxk
        generalize xs.getD k 0 = y at *
        have hy0 := hxk.1
        have hy1 := hxk.2
        clear hxk
        go_enter Try.func62, Try.ntmps62
        go_wp2
        go_ret
        have hr := rem_range y m HXK.out.1 (by omega)
        exact ⟨_, rfl, hr.1, .inl hr.2, HN.out.1, HN.out.2⟩
      · have hi1 := rem_range (k : Int) n (by omega) (by omega)
        have hi2 := rem_range ((k : Int) * 7 + 3) n (by omega) (by omega)
        obtain ⟨i1, e1⟩ := Int.eq_ofNat_of_zero_le hi1.1
        obtain ⟨i2, e2⟩ := Int.eq_ofNat_of_zero_le hi2.1
        have hck1 := HC.out i1 (by omega)
        have hck2 := HC.out i2 (by omega)
        have hx1 := HX.out i1
        have hx2 := HX.out i2
        generalize xs.getD i1 0 = y1 at *
        generalize xs.getD i2 0 = y2 at *
        have HX1 := hid hx1
        have HX2 := hid hx2
        have q0 : 0 ≤ (k : Int) / n := Int.ediv_nonneg (by omega) (by omega)
        have q1 : (k : Int) / n ≤ k := Int.ediv_le_self _ (by omega)
        have b1 := hx1.1
        have b2 := hx1.2
        have b3 := hx2.1
        have b4 := hx2.2
        have l1 : (i1 : Int) < n := by omega
        have l2 : (i2 : Int) < n := by omega
        clear hi1 hi2 hx1 hx2
        go_enter Try.func62, Try.ntmps62
        go_wp2
        go_quiet (fail)
        go_wp2
        go_ret
        generalize hX : y1 * 131 + y2 * 1117 + (k : Int) * 29 + (k : Int) / (n : Int) * 53 = X
        have hX0 : 0 ≤ X := by omega
        have hX1 : X < 9223372036854775808 := by omega
        have hz := xor_pos hX0 hX1 (Int.ediv_nonneg hX0 (show (0 : Int) ≤ 64 by omega)) (by omega)
        generalize bits .xor .i64 X (X / 64) = Z at *
        have hr := rem_range Z m hz (by omega)
        have ht : Z.tmod m = Z % m := Int.tmod_eq_emod_of_nonneg hz
        exact ⟨_, rfl, by rw [ht]; exact hr.1, .inl (by rw [ht]; exact hr.2), HN.out.1.drewN _, grownBy_drewN HN.out.2 _⟩

theorem l6Open_ok (A : Option Addr) (n c : Nat) (xs : List Int) (w : World) (hr : RB w A n c xs) :
    Calls Try.prog 60 #[.slice A n c] w fun e w' => ∃ R, e = .returned (.pointer (some ⟨R, 0, none⟩)) ∧ R = w.heap.size ∧ Rd w' R 0 ∧ Below w.heap.size w w' := by
  obtain ⟨hl, hnc, hn, hx, b, off, hA, hc⟩ := hr
  have hx' : ∀ j, 0 ≤ xs.getD j 0 ∧ xs.getD j 0 ≤ 255 := by
    intro j
    by_cases hj : j < xs.length
    · rw [getD_lt hj]; exact hx _ (List.getElem_mem _)
    · simp [List.getD_eq_getElem?_getD, List.getElem?_eq_none (show xs.length ≤ j by omega)]
  by_cases hb : n ≤ 2000
  · have HD := hid (show Rd (w.alloc (.cells #[.slice A n c, .int .i64 0] 90)) w.heap.size 0 from by
      by_cases h0 : n = 0
      · exact ⟨by simp, w.heap.size + 1, 0, n, c, A, xs, heap_alloc_new _ _, by omega, hl, hb, hx', .inl h0, fun j hj => by omega⟩
      · have hlt := World.block_lt_of_cell? w _ (hc 0 (by omega))
        exact ⟨by simp, b, off, n, c, A, xs, heap_alloc_new _ _, by have : b < w.heap.size := hlt; omega, hl, hb, hx', hA, fun j hj => cell_below (below_alloc _ _) (hc j hj)⟩)
    clear hc hx hx'
    go_enter Try.func60, Try.ntmps60
    go_wp2
    go_ret
    exact ⟨_, rfl, rfl, HD.out, below_alloc _ _⟩
  · obtain rfl : A = some ⟨b, off, none⟩ := by rcases hA with h | h; omega; exact h
    have hlt := World.block_lt_of_cell? w _ (hc 0 (by omega))
    have HD := hid (show Rd (w.alloc (.cells #[.slice (some ⟨b, off, none⟩) 2000 c, .int .i64 0] 90)) w.heap.size 0 from
      ⟨by simp, b, off, 2000, c, some ⟨b, off, none⟩, xs.take 2000, heap_alloc_new _ _, by have : b < w.heap.size := hlt; omega, by simp; omega, by omega, fun j => by
        by_cases hj : j < 2000
        · have := hx' j
          simpa [List.getD_eq_getElem?_getD, List.getElem?_take, hj] using this
        · simp [List.getD_eq_getElem?_getD, List.getElem?_take, hj], .inr rfl, fun j hj => cell_below (below_alloc _ _) (by rw [hc j (by omega)]; simp [List.getD_eq_getElem?_getD, List.getElem?_take, hj])⟩)
    clear hc hx hx'
    go_enter Try.func60, Try.ntmps60
    go_wp2
    go_ret
    exact ⟨_, rfl, rfl, HD.out, below_alloc _ _⟩

end Go.Proofs.Ytkhkcgoblibnpaa
