/-
  Contracts: classes that are told, degrees, reflections, roots: the program's.
-/
import Derived.Test.YtcffaeepanhpfaaK
import Derived.Test.YtcffaeepanhpfaaExt
import Derived.Deep.RegionHeldLaw
namespace Go.Proofs.Ytcffaeepanhpfaa
open Go.RowKit
set_option linter.unusedVariables false
set_option linter.unusedSimpArgs false

/-- A block of seven numbers. -/
def CB (w : World) (T : TypeId) (k : Nat) (a0 a1 a2 a3 a4 a5 a6 : Int) : Prop := w.heap[k]? = some (.cells #[.int .i64 a0, .int .i64 a1, .int .i64 a2, .int .i64 a3, .int .i64 a4, .int .i64 a5, .int .i64 a6] T (0, 0))
theorem CB.cells {w : World} {T : TypeId} {k : Nat} {a0 a1 a2 a3 a4 a5 a6 : Int} (h : CB w T k a0 a1 a2 a3 a4 a5 a6) : w.cell? ⟨k, 0, none⟩ = some (.int .i64 a0) ∧ w.cell? ⟨k, 1, none⟩ = some (.int .i64 a1) ∧ w.cell? ⟨k, 2, none⟩ = some (.int .i64 a2) ∧ w.cell? ⟨k, 3, none⟩ = some (.int .i64 a3) ∧ w.cell? ⟨k, 4, none⟩ = some (.int .i64 a4) ∧ w.cell? ⟨k, 5, none⟩ = some (.int .i64 a5) ∧ w.cell? ⟨k, 6, none⟩ = some (.int .i64 a6) ∧
    w.frozen? ⟨k, 0, none⟩ = false ∧ w.frozen? ⟨k, 1, none⟩ = false ∧ w.frozen? ⟨k, 2, none⟩ = false ∧ w.frozen? ⟨k, 3, none⟩ = false ∧ w.frozen? ⟨k, 4, none⟩ = false ∧ w.frozen? ⟨k, 5, none⟩ = false ∧ w.frozen? ⟨k, 6, none⟩ = false :=
  ⟨by rw [cell_of_row w k 0 _ _ _ h]; rfl, by rw [cell_of_row w k 1 _ _ _ h]; rfl, by rw [cell_of_row w k 2 _ _ _ h]; rfl, by rw [cell_of_row w k 3 _ _ _ h]; rfl, by rw [cell_of_row w k 4 _ _ _ h]; rfl, by rw [cell_of_row w k 5 _ _ _ h]; rfl, by rw [cell_of_row w k 6 _ _ _ h]; rfl,
    frozen_of_row w k 0 _ _ h, frozen_of_row w k 1 _ _ h, frozen_of_row w k 2 _ _ h, frozen_of_row w k 3 _ _ h, frozen_of_row w k 4 _ _ h, frozen_of_row w k 5 _ _ h, frozen_of_row w k 6 _ _ h⟩
theorem CB.seven {w : World} {T : TypeId} {k : Nat} {a0 a1 a2 a3 a4 a5 a6 : Int} (h : CB w T k a0 a1 a2 a3 a4 a5 a6) : w.cell? ⟨k, 0, none⟩ = some (.int .i64 a0) ∧ w.cell? ⟨k, 1, none⟩ = some (.int .i64 a1) ∧ w.cell? ⟨k, 2, none⟩ = some (.int .i64 a2) ∧ w.cell? ⟨k, 3, none⟩ = some (.int .i64 a3) ∧ w.cell? ⟨k, 4, none⟩ = some (.int .i64 a4) ∧ w.cell? ⟨k, 5, none⟩ = some (.int .i64 a5) ∧ w.cell? ⟨k, 6, none⟩ = some (.int .i64 a6) := by
  obtain ⟨x0, x1, x2, x3, x4, x5, x6, _⟩ := h.cells
  exact ⟨x0, x1, x2, x3, x4, x5, x6⟩
theorem CB.lt {w : World} {T : TypeId} {k : Nat} {a0 a1 a2 a3 a4 a5 a6 : Int} (h : CB w T k a0 a1 a2 a3 a4 a5 a6) : k < w.heap.size := (Array.getElem?_eq_some_iff.1 h).1
theorem CB.new (w : World) (T : TypeId) (a0 a1 a2 a3 a4 a5 a6 : Int) : CB (w.alloc (.cells #[.int .i64 a0, .int .i64 a1, .int .i64 a2, .int .i64 a3, .int .i64 a4, .int .i64 a5, .int .i64 a6] T)) T w.heap.size a0 a1 a2 a3 a4 a5 a6 := heap_alloc_new w _
theorem CB.newAt (w : World) (T : TypeId) (k : Nat) (hk : k = w.heap.size) (a0 a1 a2 a3 a4 a5 a6 : Int) : CB (w.alloc (.cells #[.int .i64 a0, .int .i64 a1, .int .i64 a2, .int .i64 a3, .int .i64 a4, .int .i64 a5, .int .i64 a6] T)) T k a0 a1 a2 a3 a4 a5 a6 := by subst hk; exact heap_alloc_new w _
theorem CB.below {w w' : World} {T : TypeId} {k : Nat} {a0 a1 a2 a3 a4 a5 a6 : Int} (h : CB w T k a0 a1 a2 a3 a4 a5 a6) (hb : Below w.heap.size w w') : CB w' T k a0 a1 a2 a3 a4 a5 a6 := by
  unfold CB; rw [hb.block k h.lt]; exact h
theorem CB.alloc {w : World} {T : TypeId} {k : Nat} {a0 a1 a2 a3 a4 a5 a6 : Int} (h : CB w T k a0 a1 a2 a3 a4 a5 a6) (o : Obj) : CB (w.alloc o) T k a0 a1 a2 a3 a4 a5 a6 := h.below (below_alloc w o)
theorem CB.gb {w w' : World} {T : TypeId} {k R : Nat} {a0 a1 a2 a3 a4 a5 a6 : Int} (h : CB w T k a0 a1 a2 a3 a4 a5 a6) (hb : w.grownBy w' (some R)) (hR : k ≠ R) : CB w' T k a0 a1 a2 a3 a4 a5 a6 := by
  unfold CB; rw [hb.block k h.lt (by simpa using hR)]; exact h
theorem CB.drew {w : World} {T : TypeId} {k : Nat} {a0 a1 a2 a3 a4 a5 a6 : Int} (h : CB w T k a0 a1 a2 a3 a4 a5 a6) : CB w.drew T k a0 a1 a2 a3 a4 a5 a6 := h
theorem CB.drewN {w : World} {T : TypeId} {k : Nat} {a0 a1 a2 a3 a4 a5 a6 : Int} (h : CB w T k a0 a1 a2 a3 a4 a5 a6) (n : Nat) : CB (w.drewN n) T k a0 a1 a2 a3 a4 a5 a6 := h
theorem CB.set {w : World} {T : TypeId} {k : Nat} {a0 a1 a2 a3 a4 a5 a6 : Int} (h : CB w T k a0 a1 a2 a3 a4 a5 a6) (v : Int) :
    CB (w.setCell ⟨k, 0, none⟩ (.int .i64 v)) T k v a1 a2 a3 a4 a5 a6 ∧ CB (w.setCell ⟨k, 1, none⟩ (.int .i64 v)) T k a0 v a2 a3 a4 a5 a6 ∧ CB (w.setCell ⟨k, 2, none⟩ (.int .i64 v)) T k a0 a1 v a3 a4 a5 a6 ∧ CB (w.setCell ⟨k, 3, none⟩ (.int .i64 v)) T k a0 a1 a2 v a4 a5 a6 ∧
    CB (w.setCell ⟨k, 4, none⟩ (.int .i64 v)) T k a0 a1 a2 a3 v a5 a6 ∧ CB (w.setCell ⟨k, 5, none⟩ (.int .i64 v)) T k a0 a1 a2 a3 a4 v a6 ∧ CB (w.setCell ⟨k, 6, none⟩ (.int .i64 v)) T k a0 a1 a2 a3 a4 a5 v :=
  ⟨by unfold CB; rw [heap_setCell_same w k 0 _ _ _ h]; rfl, by unfold CB; rw [heap_setCell_same w k 1 _ _ _ h]; rfl, by unfold CB; rw [heap_setCell_same w k 2 _ _ _ h]; rfl, by unfold CB; rw [heap_setCell_same w k 3 _ _ _ h]; rfl, by unfold CB; rw [heap_setCell_same w k 4 _ _ _ h]; rfl, by unfold CB; rw [heap_setCell_same w k 5 _ _ _ h]; rfl, by unfold CB; rw [heap_setCell_same w k 6 _ _ _ h]; rfl⟩
theorem CB.other {w : World} {T : TypeId} {k k' j : Nat} {a0 a1 a2 a3 a4 a5 a6 : Int} {v : Value} (h : CB w T k a0 a1 a2 a3 a4 a5 a6) (hk : k ≠ k') : CB (w.setCell ⟨k', j, none⟩ v) T k a0 a1 a2 a3 a4 a5 a6 := by
  unfold CB; rw [heap_setCell_other w ⟨k', j, none⟩ k v hk]; exact h
theorem CB.put {w : World} {T : TypeId} {k : Nat} {a0 a1 a2 a3 a4 a5 a6 : Int} (h : CB w T k a0 a1 a2 a3 a4 a5 a6) (b0 b1 b2 b3 b4 b5 b6 : Int) : CB (((((((w.setCell ⟨k, 0, none⟩ (.int .i64 b0)).setCell ⟨k, 1, none⟩ (.int .i64 b1)).setCell ⟨k, 2, none⟩ (.int .i64 b2)).setCell ⟨k, 3, none⟩ (.int .i64 b3)).setCell ⟨k, 4, none⟩ (.int .i64 b4)).setCell ⟨k, 5, none⟩ (.int .i64 b5)).setCell ⟨k, 6, none⟩ (.int .i64 b6)) T k b0 b1 b2 b3 b4 b5 b6 :=
  (((((((h.set b0).1.set b1).2.1.set b2).2.2.1.set b3).2.2.2.1.set b4).2.2.2.2.1.set b5).2.2.2.2.2.1.set b6).2.2.2.2.2.2
theorem CB.far {w : World} {T : TypeId} {k k' : Nat} {a0 a1 a2 a3 a4 a5 a6 : Int} (h : CB w T k a0 a1 a2 a3 a4 a5 a6) (hk : k ≠ k') (b0 b1 b2 b3 b4 b5 b6 : Int) : CB (((((((w.setCell ⟨k', 0, none⟩ (.int .i64 b0)).setCell ⟨k', 1, none⟩ (.int .i64 b1)).setCell ⟨k', 2, none⟩ (.int .i64 b2)).setCell ⟨k', 3, none⟩ (.int .i64 b3)).setCell ⟨k', 4, none⟩ (.int .i64 b4)).setCell ⟨k', 5, none⟩ (.int .i64 b5)).setCell ⟨k', 6, none⟩ (.int .i64 b6)) T k a0 a1 a2 a3 a4 a5 a6 :=
  ((((((h.other hk).other hk).other hk).other hk).other hk).other hk).other hk
theorem below_put7 {w w1 : World} {B k : Nat} (h : Below B w w1) (hk : B ≤ k) (b0 b1 b2 b3 b4 b5 b6 : Int) : Below B w (((((((w1.setCell ⟨k, 0, none⟩ (.int .i64 b0)).setCell ⟨k, 1, none⟩ (.int .i64 b1)).setCell ⟨k, 2, none⟩ (.int .i64 b2)).setCell ⟨k, 3, none⟩ (.int .i64 b3)).setCell ⟨k, 4, none⟩ (.int .i64 b4)).setCell ⟨k, 5, none⟩ (.int .i64 b5)).setCell ⟨k, 6, none⟩ (.int .i64 b6)) := by
  have h0 := h.setCell (p := ⟨k, 0, none⟩) hk (.int .i64 b0)
  have h1 := h0.setCell (p := ⟨k, 1, none⟩) hk (.int .i64 b1)
  have h2 := h1.setCell (p := ⟨k, 2, none⟩) hk (.int .i64 b2)
  have h3 := h2.setCell (p := ⟨k, 3, none⟩) hk (.int .i64 b3)
  have h4 := h3.setCell (p := ⟨k, 4, none⟩) hk (.int .i64 b4)
  have h5 := h4.setCell (p := ⟨k, 5, none⟩) hk (.int .i64 b5)
  exact h5.setCell (p := ⟨k, 6, none⟩) hk (.int .i64 b6)
theorem gb_set1 {w w' : World} {R k j : Nat} {v : Value} (h : w.grownBy w' (some R)) (hk : w.heap.size ≤ k) : w.grownBy (w'.setCell ⟨k, j, none⟩ v) (some R) :=
  ⟨h.os, h.tape, h.output, by simpa using h.size, fun i hi hr => (heap_setCell_other w' ⟨k, j, none⟩ i v (by simp; omega)).trans (h.block i hi hr)⟩
theorem gb_put7 {w w1 : World} {R k : Nat} (h : w.grownBy w1 (some R)) (hk : w.heap.size ≤ k) (b0 b1 b2 b3 b4 b5 b6 : Int) : w.grownBy (((((((w1.setCell ⟨k, 0, none⟩ (.int .i64 b0)).setCell ⟨k, 1, none⟩ (.int .i64 b1)).setCell ⟨k, 2, none⟩ (.int .i64 b2)).setCell ⟨k, 3, none⟩ (.int .i64 b3)).setCell ⟨k, 4, none⟩ (.int .i64 b4)).setCell ⟨k, 5, none⟩ (.int .i64 b5)).setCell ⟨k, 6, none⟩ (.int .i64 b6)) (some R) := by
  have h0 := gb_set1 (j := 0) (v := .int .i64 b0) h hk
  have h1 := gb_set1 (j := 1) (v := .int .i64 b1) h0 hk
  have h2 := gb_set1 (j := 2) (v := .int .i64 b2) h1 hk
  have h3 := gb_set1 (j := 3) (v := .int .i64 b3) h2 hk
  have h4 := gb_set1 (j := 4) (v := .int .i64 b4) h3 hk
  have h5 := gb_set1 (j := 5) (v := .int .i64 b5) h4 hk
  exact gb_set1 (j := 6) (v := .int .i64 b6) h5 hk

def toldC (a : List Int) : List Int := if validB a then a else zeroC

theorem planeClass_ok (w : World) :
    Calls Try.prog 69 #[] w fun k w' => k = .returned (.agg #[.int .i64 3, .int .i64 1, .int .i64 1, .int .i64 1, .int .i64 1, .int .i64 1, .int .i64 1]) ∧ Below w.heap.size w w' := by
  go_enter Try.func69, Try.ntmps69
  go_wp2
  exact bodyPost_ret (v := .agg #[.int .i64 3, .int .i64 1, .int .i64 1, .int .i64 1, .int .i64 1, .int .i64 1, .int .i64 1]) (by simp [results, Try.results69, go_sem]) rfl ⟨rfl, below_alloc _ _⟩

theorem ext7 {w : World} {T : TypeId} {k : Nat} {a0 a1 a2 a3 a4 a5 a6 : Int} (h : CB w T k a0 a1 a2 a3 a4 a5 a6) : (∀ d : Ext w, d.at_.cell? ⟨k, 0, none⟩ = some (.int .i64 a0)) ∧ (∀ d : Ext w, d.at_.cell? ⟨k, 1, none⟩ = some (.int .i64 a1)) ∧ (∀ d : Ext w, d.at_.cell? ⟨k, 2, none⟩ = some (.int .i64 a2)) ∧ (∀ d : Ext w, d.at_.cell? ⟨k, 3, none⟩ = some (.int .i64 a3)) ∧ (∀ d : Ext w, d.at_.cell? ⟨k, 4, none⟩ = some (.int .i64 a4)) ∧ (∀ d : Ext w, d.at_.cell? ⟨k, 5, none⟩ = some (.int .i64 a5)) ∧ (∀ d : Ext w, d.at_.cell? ⟨k, 6, none⟩ = some (.int .i64 a6)) := by
  obtain ⟨x0, x1, x2, x3, x4, x5, x6⟩ := h.seven
  exact ⟨ext_cell x0, ext_cell x1, ext_cell x2, ext_cell x3, ext_cell x4, ext_cell x5, ext_cell x6⟩

set_option maxRecDepth 100000 in
set_option maxHeartbeats 2000000 in
theorem degree_ok (a0 a1 a2 a3 a4 a5 a6 : Int) (w : World) (h : Bd 1000000 [a0, a1, a2, a3, a4, a5, a6]) :
    Calls Try.prog 67 #[.agg #[.int .i64 a0, .int .i64 a1, .int .i64 a2, .int .i64 a3, .int .i64 a4, .int .i64 a5, .int .i64 a6]] w fun k w' => k = .returned (.int .i64 (deg [a0, a1, a2, a3, a4, a5, a6])) ∧ Below w.heap.size w w' := by
  obtain ⟨c0, c1, c2, c3, c4, c5, c6⟩ := ext7 (CB.new w 38 a0 a1 a2 a3 a4 a5 a6)
  have HP := hid (fun W => product_ok a0 a1 a2 a3 a4 a5 a6 3 1 1 1 1 1 1 W h (by intro x hx; simp at hx; omega))
  have HB := hid (below_alloc w (.cells #[.int .i64 a0, .int .i64 a1, .int .i64 a2, .int .i64 a3, .int .i64 a4, .int .i64 a5, .int .i64 a6] 38))
  clear h
  go_enter Try.func67, Try.ntmps67
  go_wp2
  refine wp_region_ext (by kernel_rfl) (by kernel_rfl) ?_
  repeat (go_big_quiet_step (first | (go_at_call 69; exact ext_call (planeClass_ok _)) | (go_at_call 59; exact ext_call (HP.out _))))
  refine wpQuiet_nil ?_
  rintro _ ⟨⟨w5, b5⟩, rfl⟩
  have B5 := hid (below_trans HB.out b5)
  clear b5
  go_wp2
  go_ret
  exact ⟨rfl, B5.out⟩

end Go.Proofs.Ytcffaeepanhpfaa
