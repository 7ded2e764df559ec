/-
  Drawn points.
-/
import Derived.Test.YtkhkcgoblibnpaaPo
import Derived.Test.YtkhkcgoblibnpaaDr
import Derived.Deep.RegionHeldLaw
namespace Go.Proofs.Ytkhkcgoblibnpaa
open Go.RowKit
set_option linter.unusedVariables false
set_option linter.unusedSimpArgs false

/-- A block of three numbers. -/
def IBox (w : World) (k : Nat) (a b c : Int) : Prop := w.heap[k]? = some (.cells #[.int .i64 a, .int .i64 b, .int .i64 c] 35 (0, 0))
theorem IBox.cells {w : World} {k : Nat} {a b c : Int} (h : IBox w k a b c) : w.cell? ⟨k, 0, none⟩ = some (.int .i64 a) ∧ w.cell? ⟨k, 1, none⟩ = some (.int .i64 b) ∧ w.cell? ⟨k, 2, none⟩ = some (.int .i64 c) ∧ w.frozen? ⟨k, 0, none⟩ = false ∧ w.frozen? ⟨k, 1, none⟩ = false ∧ w.frozen? ⟨k, 2, none⟩ = false :=
  ⟨by rw [cell_of_row w k 0 _ _ _ h]; rfl, by rw [cell_of_row w k 1 _ _ _ h]; rfl, by rw [cell_of_row w k 2 _ _ _ h]; rfl, frozen_of_row w k 0 _ _ h, frozen_of_row w k 1 _ _ h, frozen_of_row w k 2 _ _ h⟩
theorem IBox.lt {w : World} {k : Nat} {a b c : Int} (h : IBox w k a b c) : k < w.heap.size := (Array.getElem?_eq_some_iff.1 h).1
theorem IBox.new (w : World) (a b c : Int) : IBox (w.alloc (.cells #[.int .i64 a, .int .i64 b, .int .i64 c] 35)) w.heap.size a b c := heap_alloc_new w _
theorem IBox.below {w w' : World} {k : Nat} {a b c : Int} (h : IBox w k a b c) (hb : Below w.heap.size w w') : IBox w' k a b c := by
  unfold IBox; rw [hb.block k h.lt]; exact h
theorem IBox.gb {w w' : World} {k R : Nat} {a b c : Int} (h : IBox w k a b c) (hb : w.grownBy w' (some R)) (hR : k ≠ R) : IBox w' k a b c := by
  unfold IBox; rw [hb.block k h.lt (by simpa using hR)]; exact h
theorem IBox.set {w : World} {k : Nat} {a b c : Int} (h : IBox w k a b c) (v : Int) : IBox (w.setCell ⟨k, 0, none⟩ (.int .i64 v)) k v b c ∧ IBox (w.setCell ⟨k, 1, none⟩ (.int .i64 v)) k a v c ∧ IBox (w.setCell ⟨k, 2, none⟩ (.int .i64 v)) k a b v :=
  ⟨by unfold IBox; rw [heap_setCell_same w k 0 _ _ _ h]; rfl, by unfold IBox; rw [heap_setCell_same w k 1 _ _ _ h]; rfl, by unfold IBox; rw [heap_setCell_same w k 2 _ _ _ h]; rfl⟩
theorem IBox.other {w : World} {k k' j : Nat} {a b c : Int} {v : Value} (h : IBox w k a b c) (hk : k ≠ k') : IBox (w.setCell ⟨k', j, none⟩ v) k a b c := by
  unfold IBox; rw [heap_setCell_other w ⟨k', j, none⟩ k v hk]; exact h

theorem gb_set {w w' : World} {R k j : Nat} {v : Value} (h : w.grownBy w' (some R)) (hk : w.heap.size ≤ k) : w.grownBy (w'.setCell ⟨k, j, none⟩ v) (some R) :=
  ⟨h.os, h.tape, h.output, by simpa using h.size, fun i hi hr => (heap_setCell_other w' ⟨k, j, none⟩ i v (by simp; omega)).trans (h.block i hi hr)⟩

theorem Rd.set {w : World} {R k : Nat} {cnt a b c : Int} (h : Rd w R cnt) (hb : IBox w k a b c) (hk : k ≠ R) (j : Nat) (v : Value) : Rd (w.setCell ⟨k, j, none⟩ v) R cnt := by
  obtain ⟨hlt, b', off, n, cc, A, xs, h1, h2, h3, h4, h5, h6, h7⟩ := h
  refine ⟨by simpa using hlt, b', off, n, cc, A, xs, ?_, h2, h3, h4, h5, h6, fun i hi => ?_⟩
  · rw [heap_setCell_other w ⟨k, j, none⟩ R v (fun e => hk e.symm)]
    exact h1
  · have hne : k ≠ b' := by
      intro e
      subst e
      have h := h7 i hi
      rw [cell_of_row w k (off + i) _ _ _ hb] at h
      match off + i, h with
      | 0, h => simp at h
      | 1, h => simp at h
      | 2, h => simp at h
      | j + 3, h => simp at h
    exact (World.cell?_setCell_other (v := v) w ⟨k, j, none⟩ ⟨b', off + i, none⟩ (fun e => hne (by injection e with e))).trans (h7 i hi)

set_option maxHeartbeats 2000000 in
theorem l92Point_ok (R : Nat) (cnt p : Int) (w : World) (hr : Rd w R cnt) (h0 : 0 ≤ cnt) (h1 : cnt ≤ 900000) (hp : 5 ≤ p) (hp2 : p ≤ 31) :
    Calls Try.prog 86 #[.pointer (some ⟨R, 0, none⟩), .int .i64 p] w fun e w' => ∃ q : Int × Int × Int, e = .returned (ptVal q) ∧ (∃ cnt' : Int, cnt ≤ cnt' ∧ cnt' ≤ cnt + 4 ∧ Rd w' R cnt') ∧ w.grownBy w' (some R) := by
  have hlt := hr.lt
  go_enter Try.func86, Try.ntmps86
  go_wp2_with fail
  refine (pick_ok R cnt 3 _ (hr.below (below_alloc _ _)) h0 (by omega) (by omega)).mono ?_
  rintro e w1 ⟨a, rfl, a0, a1, hd1, hg1⟩
  have X1 := hid (IBox.gb (IBox.new w 0 0 0) hg1 (by omega))
  have G1 := hid (gb_trans (gb_below (row := some R) (below_alloc _ _)) hg1)
  clear hg1
  go_wp2_with fail
  refine (pick_ok R _ p _ hd1 (by omega) (by omega) (by omega)).mono ?_
  rintro e w2 ⟨b, rfl, b0, b1, hd2, hg2⟩
  have X2 := hid (X1.out.gb hg2 (by omega))
  have G2 := hid (gb_trans G1.out hg2)
  clear hg2 hd1
  go_wp2_with fail
  refine (pick_ok R _ p _ hd2 (by omega) (by omega) (by omega)).mono ?_
  rintro e w3 ⟨c, rfl, c0, c1, hd3, hg3⟩
  have X3 := hid (X2.out.gb hg3 (by omega))
  have G3 := hid (gb_trans G2.out hg3)
  clear hg3 hd2
  go_wp2_with fail
  refine (specPointOf_ok p a b c _).mono ?_
  rintro e w4 ⟨rfl, hb4⟩
  have X4 := hid (X3.out.below hb4)
  have G4 := hid (gb_trans G3.out (gb_below (row := some R) hb4))
  have D4 := hid (hd3.below hb4)
  have hs4 : w.heap.size < w4.heap.size := X4.out.lt
  clear hb4 hd3
  generalize pofV p a b c = V
  obtain ⟨V0, V1, V2⟩ := V
  have HPV := hid (show ptVal (V0, V1, V2) = .agg #[.int .i64 V0, .int .i64 V1, .int .i64 V2] from rfl)
  rw [HPV.out]
  have X5 := hid (X4.out.below (below_alloc w4 (.cells #[.int .i64 V0, .int .i64 V1, .int .i64 V2] 35)))
  have A5 := hid (show IBox (w4.alloc (.cells #[.int .i64 V0, .int .i64 V1, .int .i64 V2] 35)) w4.heap.size V0 V1 V2 from IBox.new w4 V0 V1 V2)
  have D5 := hid (D4.out.below (below_alloc w4 (.cells #[.int .i64 V0, .int .i64 V1, .int .i64 V2] 35)))
  have G5 := hid (gb_trans G4.out (gb_below (row := some R) (below_alloc w4 (.cells #[.int .i64 V0, .int .i64 V1, .int .i64 V2] 35))))
  have hne : w.heap.size ≠ R := by omega
  have hneA : w4.heap.size ≠ R := by omega
  have hneB : w4.heap.size ≠ w.heap.size := by omega
  cases hok : pofB p a b c
  · clear hok
    obtain ⟨x0, x1, x2, f0, f1, f2⟩ := X4.out.cells
    have hneC : ¬ w.heap.size = w4.heap.size := by omega
    have x0' := X5.out.cells.1
    have x1' := X5.out.cells.2.1
    have x2' := X5.out.cells.2.2.1
    have f0' := X5.out.cells.2.2.2.1
    have f1' := X5.out.cells.2.2.2.2.1
    have f2' := X5.out.cells.2.2.2.2.2
    go_wp2
    obtain ⟨z0, z1, z2, _⟩ := (IBox.below (((X4.out.set 0).1.set 0).2.1.set 1).2.2 (below_alloc _ (.cells #[.int .i64 V0, .int .i64 V1, .int .i64 V2] 35))).cells
    refine bodyPost_ret (v := ptVal (0, 0, 1)) (by simp [results, Try.results86, go_sem, ptVal, z0, z1, z2]) rfl ⟨(0, 0, 1), rfl, ⟨_, ?_, ?_, Rd.below (((D4.out.set X4.out hne 0 _).set (X4.out.set 0).1 hne 1 _).set ((X4.out.set 0).1.set 0).2.1 hne 2 _) (below_alloc _ _)⟩, gb_trans (gb_set (gb_set (gb_set G4.out (Nat.le_refl _)) (Nat.le_refl _)) (Nat.le_refl _)) (gb_below (below_alloc _ _))⟩
    · omega
    · omega
  · clear hok
    go_wp2_with fail
    refine (pick_ok R _ 24 _ D5.out (by omega) (by omega) (by omega)).mono ?_
    rintro e w6 ⟨r, rfl, r0, r1, hd6, hg6⟩
    have X6 := hid (X5.out.gb hg6 (by omega))
    have A6 := hid (A5.out.gb hg6 (by omega))
    have G6 := hid (gb_trans G5.out hg6)
    have D6 := hid hd6
    obtain ⟨x0, x1, x2, f0, f1, f2⟩ := X6.out.cells
    obtain ⟨y0, y1, y2, g0, g1, g2⟩ := A6.out.cells
    clear hg6 hd6 r1
    cases hq : (r == 0)
    · go_wp2
      refine bodyPost_ret (v := ptVal (V0, V1, V2)) (by simp [results, Try.results86, go_sem, ptVal, x0, x1, x2, f0, f1, f2]) rfl ⟨(V0, V1, V2), rfl, ⟨_, ?_, ?_, ((D6.out.set X6.out hne 0 _).set (X6.out.set V0).1 hne 1 _).set ((X6.out.set V0).1.set V1).2.1 hne 2 _⟩, gb_set (gb_set (gb_set G6.out (Nat.le_refl _)) (Nat.le_refl _)) (Nat.le_refl _)⟩
      · omega
      · omega
    · go_wp2
      refine bodyPost_ret (v := ptVal (2, V1, V2)) (by simp [results, Try.results86, go_sem, ptVal, x0, x1, x2, f0, f1, f2]) rfl ⟨(2, V1, V2), rfl, ⟨_, ?_, ?_, (((D6.out.set A6.out hneA 0 (.int .i64 2)).set (X6.out.other (fun e => hneB e.symm)) hne 0 _).set ((X6.out.other (fun e => hneB e.symm)).set 2).1 hne 1 _).set (((X6.out.other (fun e => hneB e.symm)).set 2).1.set V1).2.1 hne 2 _⟩, gb_set (gb_set (gb_set (gb_set G6.out (by omega)) (Nat.le_refl _)) (Nat.le_refl _)) (Nat.le_refl _)⟩
      · omega
      · omega


theorem k3of {w : World} {k : Nat} {a b c : Int} (h : IBox w k a b c) : w.cell? ⟨k, 0, none⟩ = some (.int .i64 a) ∧ w.cell? ⟨k, 1, none⟩ = some (.int .i64 b) ∧ w.cell? ⟨k, 2, none⟩ = some (.int .i64 c) := ⟨h.cells.1, h.cells.2.1, h.cells.2.2.1⟩
theorem IBox.put {w : World} {k : Nat} {a b c : Int} (h : IBox w k a b c) (x y z : Int) : IBox (((w.setCell ⟨k, 0, none⟩ (.int .i64 x)).setCell ⟨k, 1, none⟩ (.int .i64 y)).setCell ⟨k, 2, none⟩ (.int .i64 z)) k x y z := ((((h.set x).1.set y).2.1.set z).2.2)
theorem IBox.far {w : World} {k k' : Nat} {a b c : Int} (h : IBox w k a b c) (hk : k ≠ k') (x y z : Value) : IBox (((w.setCell ⟨k', 0, none⟩ x).setCell ⟨k', 1, none⟩ y).setCell ⟨k', 2, none⟩ z) k a b c := ((h.other hk).other hk).other hk
theorem below_put {w w1 : World} {B k : Nat} (h : Below B w w1) (hk : B ≤ k) (x y z : Value) : Below B w (((w1.setCell ⟨k, 0, none⟩ x).setCell ⟨k, 1, none⟩ y).setCell ⟨k, 2, none⟩ z) := ((h.setCell (p := ⟨k, 0, none⟩) hk x).setCell (p := ⟨k, 1, none⟩) hk y).setCell (p := ⟨k, 2, none⟩) hk z
theorem drewI {w : World} {k : Nat} {a b c : Int} (h : IBox w k a b c) : IBox w.drew k a b c := h
theorem Below.gbs {w w1 w2 : World} {B R : Nat} (h : Below B w w1) (hB : B ≤ w1.heap.size) (hR : B ≤ R) (hg : w1.grownBy w2 (some R)) : Below B w w2 := h.grown hg hB (fun k hk => by cases hk; exact hR)




end Go.Proofs.Ytkhkcgoblibnpaa
