/-
  The law FnExactPointLine.
-/
import Derived.Test.YtkddhlgohjojpaaCr
import Derived.Test.YtkddhlgohjojpaaEp
import Derived.Test.YtkddhlgohjojpaaF
import Derived.Deep.RegionWith
import Derived.Deep.DeepCutAuto
namespace Go.Proofs.Ytkddhlgohjojpaa
open Go.RowKit
set_option linter.unusedVariables false
set_option linter.unusedSimpArgs false

/-- A block of three numbers, of whatever type. -/
def TB (w : World) (T : TypeId) (k : Nat) (a b c : Int) : Prop := w.heap[k]? = some (.cells #[.int .i64 a, .int .i64 b, .int .i64 c] T (0, 0))
theorem TB.cells {w : World} {T : TypeId} {k : Nat} {a b c : Int} (h : TB w T k a b c) : w.cell? ⟨k, 0, none⟩ = some (.int .i64 a) ∧ w.cell? ⟨k, 1, none⟩ = some (.int .i64 b) ∧ w.cell? ⟨k, 2, none⟩ = some (.int .i64 c) ∧ w.frozen? ⟨k, 0, none⟩ = false ∧ w.frozen? ⟨k, 1, none⟩ = false ∧ w.frozen? ⟨k, 2, none⟩ = false :=
  ⟨by rw [cell_of_row w k 0 _ _ _ h]; rfl, by rw [cell_of_row w k 1 _ _ _ h]; rfl, by rw [cell_of_row w k 2 _ _ _ h]; rfl, frozen_of_row w k 0 _ _ h, frozen_of_row w k 1 _ _ h, frozen_of_row w k 2 _ _ h⟩
theorem TB.three {w : World} {T : TypeId} {k : Nat} {a b c : Int} (h : TB w T k a b c) : w.cell? ⟨k, 0, none⟩ = some (.int .i64 a) ∧ w.cell? ⟨k, 1, none⟩ = some (.int .i64 b) ∧ w.cell? ⟨k, 2, none⟩ = some (.int .i64 c) := by
  obtain ⟨x, y, z, _⟩ := h.cells
  exact ⟨x, y, z⟩
theorem TB.lt {w : World} {T : TypeId} {k : Nat} {a b c : Int} (h : TB w T k a b c) : k < w.heap.size := (Array.getElem?_eq_some_iff.1 h).1
theorem TB.new (w : World) (T : TypeId) (a b c : Int) : TB (w.alloc (.cells #[.int .i64 a, .int .i64 b, .int .i64 c] T)) T w.heap.size a b c := heap_alloc_new w _
theorem TB.newAt (w : World) (T : TypeId) (k : Nat) (hk : k = w.heap.size) (a b c : Int) : TB (w.alloc (.cells #[.int .i64 a, .int .i64 b, .int .i64 c] T)) T k a b c := by subst hk; exact heap_alloc_new w _
theorem TB.below {w w' : World} {T : TypeId} {k : Nat} {a b c : Int} (h : TB w T k a b c) (hb : Below w.heap.size w w') : TB w' T k a b c := by
  unfold TB; rw [hb.block k h.lt]; exact h
theorem TB.alloc {w : World} {T : TypeId} {k : Nat} {a b c : Int} (h : TB w T k a b c) (o : Obj) : TB (w.alloc o) T k a b c := h.below (below_alloc w o)
theorem TB.drew {w : World} {T : TypeId} {k : Nat} {a b c : Int} (h : TB w T k a b c) : TB w.drew T k a b c := h
theorem TB.set {w : World} {T : TypeId} {k : Nat} {a b c : Int} (h : TB w T k a b c) (v : Int) : TB (w.setCell ⟨k, 0, none⟩ (.int .i64 v)) T k v b c ∧ TB (w.setCell ⟨k, 1, none⟩ (.int .i64 v)) T k a v c ∧ TB (w.setCell ⟨k, 2, none⟩ (.int .i64 v)) T k a b v :=
  ⟨by unfold TB; rw [heap_setCell_same w k 0 _ _ _ h]; rfl, by unfold TB; rw [heap_setCell_same w k 1 _ _ _ h]; rfl, by unfold TB; rw [heap_setCell_same w k 2 _ _ _ h]; rfl⟩
theorem TB.other {w : World} {T : TypeId} {k k' j : Nat} {a b c : Int} {v : Value} (h : TB w T k a b c) (hk : k ≠ k') : TB (w.setCell ⟨k', j, none⟩ v) T k a b c := by
  unfold TB; rw [heap_setCell_other w ⟨k', j, none⟩ k v hk]; exact h
theorem TB.put {w : World} {T : TypeId} {k : Nat} {a b c : Int} (h : TB w T k a b c) (x y z : Int) : TB (((w.setCell ⟨k, 0, none⟩ (.int .i64 x)).setCell ⟨k, 1, none⟩ (.int .i64 y)).setCell ⟨k, 2, none⟩ (.int .i64 z)) T k x y z := ((((h.set x).1.set y).2.1.set z).2.2)
theorem TB.far {w : World} {T : TypeId} {k k' : Nat} {a b c : Int} (h : TB w T k a b c) (hk : k ≠ k') (x y z : Value) : TB (((w.setCell ⟨k', 0, none⟩ x).setCell ⟨k', 1, none⟩ y).setCell ⟨k', 2, none⟩ z) T k a b c := ((h.other hk).other hk).other hk

set_option maxRecDepth 100000 in
set_option maxHeartbeats 4000000 in
theorem FnExactPointLine_ok (p x y z l m n : Int) (w : World) :
    Calls Try.prog 6 #[.int .i64 p, .agg #[.int .i64 x, .int .i64 y, .int .i64 z], .agg #[.int .i64 l, .int .i64 m, .int .i64 n]] w fun e w' => e = .returned (.bool true) ∧ Below w.heap.size w w' := by
  have HBW := hid (below_trans (below_alloc w (.cells #[.int .i64 x, .int .i64 y, .int .i64 z] 37)) (below_alloc _ (.cells #[.int .i64 l, .int .i64 m, .int .i64 n] 37)))
  have HA := hid ((TB.new w 37 x y z).alloc (.cells #[.int .i64 l, .int .i64 m, .int .i64 n] 37))
  have HC := hid (TB.newAt (w.alloc (.cells #[.int .i64 x, .int .i64 y, .int .i64 z] 37)) 37 (w.heap.size + 1) (by simp) l m n)
  have HS := hid (fun W => specPointLine_ok p x y z l m n W)
  have HI := hid (fun W => implPointLine_ok p x y z l m n W)
  generalize lineB p x y z l m n = D at *
  generalize lineV p x y z l m n = V at *
  obtain ⟨V0, V1, V2⟩ := V
  have HVv := hid (show ptVal (V0, V1, V2) = .agg #[.int .i64 V0, .int .i64 V1, .int .i64 V2] from rfl)
  have hne2 : (D != D) = false := by simp
  have HE := hid (fun W => eqPoint_ok V0 V1 V2 V0 V1 V2 W)
  have HT := hid (show ((V0 == V0 && V1 == V1) && V2 == V2) = true by simp)
  go_enter Try.func6, Try.ntmps6
  go_wp2
  generalize ((w.alloc (.cells #[.int .i64 x, .int .i64 y, .int .i64 z] 37)).alloc (.cells #[.int .i64 l, .int .i64 m, .int .i64 n] 37)) = W at *
  have hs0 : w.heap.size < W.heap.size := HA.out.lt
  have hs1 : w.heap.size + 1 < W.heap.size := HC.out.lt
  have HAZ := hid (HA.out.alloc (.cells #[.int .i64 0, .int .i64 0, .int .i64 0] 31))
  have HCZ := hid (HC.out.alloc (.cells #[.int .i64 0, .int .i64 0, .int .i64 0] 31))
  have HYZ := hid (TB.new W 31 0 0 0)
  have HWZ := hid (below_alloc W (.cells #[.int .i64 0, .int .i64 0, .int .i64 0] 31))
  go_cut [7, 8] (fun s7 s8 wx => ∃ g : Nat, s7 = .pointer (some ⟨g, 0, none⟩) ∧ s8 = .bool D ∧ TB wx 31 g V0 V1 V2 ∧ TB wx 37 w.heap.size x y z ∧ TB wx 37 (w.heap.size + 1) l m n ∧ W.heap.size ≤ g ∧ Below W.heap.size W wx)
  case first =>
    obtain ⟨p0, p1, p2⟩ := HA.out.three
    obtain ⟨q0, q1, q2⟩ := HC.out.three
    go_region_with (first
        | (go_at_call 22; first
            | ((with_reducible refine (toPoint_ok x y z W.drew).mono ?_); rintro e w1 ⟨rfl, b1⟩; have B1 := hid (below_trans (below_drewN (Below.refl _ W) 1) b1); have A1 := hid (HA.out.drew.below b1); have C1 := hid (HC.out.drew.below b1); have z1 := A1.out.lt; have y1 := C1.out.lt; clear b1; obtain ⟨k0, k1, k2⟩ := A1.out.three; obtain ⟨j0, j1, j2⟩ := C1.out.three)
            | ((with_reducible refine (toPoint_ok x y z (W.alloc (.cells #[.int .i64 0, .int .i64 0, .int .i64 0] 31)).drew).mono ?_); rintro e w1 ⟨rfl, b1⟩; have B1 := hid (below_trans (below_drewN HWZ.out 1) b1); have A1 := hid (HAZ.out.drew.below b1); have C1 := hid (HCZ.out.drew.below b1); have z1 := A1.out.lt; have y1 := C1.out.lt; have Y1 := hid (HYZ.out.drew.below b1); clear b1; obtain ⟨k0, k1, k2⟩ := A1.out.three; obtain ⟨j0, j1, j2⟩ := C1.out.three)
            | ((with_reducible refine (toPoint_ok l m n w1).mono ?_); rintro e w2 ⟨rfl, b2⟩; have B2 := hid (below_trans B1.out b2); have A2 := hid (A1.out.below b2); have C2 := hid (C1.out.below b2); have z2 := A2.out.lt; (try have Y2 := hid (Y1.out.below b2)); clear b2)
            | ((with_reducible refine (toPoint_ok l m n (w1.alloc (.cells #[.int .i64 0, .int .i64 0, .int .i64 0] 31))).mono ?_); rintro e w2 ⟨rfl, b2⟩; have B2 := hid (below_trans B1.out (below_alloc_then b2)); have A2 := hid ((A1.out.alloc _).below b2); have C2 := hid ((C1.out.alloc _).below b2); have z2 := A2.out.lt; have Y2 := hid ((TB.new w1 31 0 0 0).below b2); clear b2))
        | (go_at_call 24; first
            | ((with_reducible refine (HS.out w2).mono ?_); rintro e w3 ⟨rfl, b3⟩; rw [HVv.out]; have B3 := hid (below_trans B2.out b3); have A3 := hid (A2.out.below b3); have C3 := hid (C2.out.below b3); have z3 := A3.out.lt; (try have Y3 := hid (Y2.out.below b3)); clear b3; (try obtain ⟨y0, y1, y2, g0, g1, g2⟩ := Y3.out.cells))
            | ((with_reducible refine (HS.out (w2.alloc (.cells #[.int .i64 0, .int .i64 0, .int .i64 0] 31))).mono ?_); rintro e w3 ⟨rfl, b3⟩; rw [HVv.out]; have B3 := hid (below_trans B2.out (below_alloc_then b3)); have A3 := hid ((A2.out.alloc _).below b3); have C3 := hid ((C2.out.alloc _).below b3); have z3 := A3.out.lt; have Y3 := hid ((TB.new w2 31 0 0 0).below b3); clear b3; obtain ⟨y0, y1, y2, g0, g1, g2⟩ := Y3.out.cells)))
    all_goals
      have s1 := B1.out.size
      have s2 := B2.out.size
      have s3 := B3.out.size
      go_wp2_with fail
      go_meet
      first
        | exact ⟨_, rfl, rfl, Y3.out.put V0 V1 V2, A3.out.far (by omega) _ _ _, C3.out.far (by omega) _ _ _, by omega, below_put B3.out (by omega) _ _ _⟩
        | exact ⟨_, rfl, rfl, TB.new w3 _ V0 V1 V2, A3.out.alloc _, C3.out.alloc _, by omega, B3.out.alloc (by omega) _⟩
  case rest =>
    obtain ⟨g, rfl, rfl, hG, hA, hC, hge, hB⟩ := hcut
    have G0 := hid hG
    have A0 := hid hA
    have C0 := hid hC
    have B0 := hid (below_trans HBW.out hB)
    clear hG hA hC hB HAZ HCZ HYZ HWZ HA HC hs0 hs1
    have hs0 : w.heap.size < wc.heap.size := A0.out.lt
    have hs1 : w.heap.size + 1 < wc.heap.size := C0.out.lt
    have HGZ2 := hid (G0.out.alloc (.cells #[.int .i64 0, .int .i64 0, .int .i64 0] 31))
    have HAZ2 := hid (A0.out.alloc (.cells #[.int .i64 0, .int .i64 0, .int .i64 0] 31))
    have HCZ2 := hid (C0.out.alloc (.cells #[.int .i64 0, .int .i64 0, .int .i64 0] 31))
    have HYZ2 := hid (TB.new wc 31 0 0 0)
    have HWZ2 := hid (below_alloc wc (.cells #[.int .i64 0, .int .i64 0, .int .i64 0] 31))
    go_wp2
    go_cut [9, 10] (fun s9 s10 wx => ∃ q : Nat, s9 = .pointer (some ⟨q, 0, none⟩) ∧ s10 = .bool D ∧ TB wx 31 q V0 V1 V2 ∧ TB wx 31 g V0 V1 V2 ∧ Below wc.heap.size wc wx)
    case first =>
      obtain ⟨p0, p1, p2⟩ := A0.out.three
      obtain ⟨q0, q1, q2⟩ := C0.out.three
      go_region_with (first
          | (go_at_call 22; first
              | ((with_reducible refine (toPoint_ok x y z wc.drew).mono ?_); rintro e w1 ⟨rfl, b1⟩; have B1 := hid (below_trans (below_drewN (Below.refl _ wc) 1) b1); have A1 := hid (A0.out.drew.below b1); have C1 := hid (C0.out.drew.below b1); have G1 := hid (G0.out.drew.below b1); have z1 := A1.out.lt; have y1 := C1.out.lt; clear b1; obtain ⟨k0, k1, k2⟩ := A1.out.three; obtain ⟨j0, j1, j2⟩ := C1.out.three)
              | ((with_reducible refine (toPoint_ok x y z (wc.alloc (.cells #[.int .i64 0, .int .i64 0, .int .i64 0] 31)).drew).mono ?_); rintro e w1 ⟨rfl, b1⟩; have B1 := hid (below_trans (below_drewN HWZ2.out 1) b1); have A1 := hid (HAZ2.out.drew.below b1); have C1 := hid (HCZ2.out.drew.below b1); have G1 := hid (HGZ2.out.drew.below b1); have z1 := A1.out.lt; have y1 := C1.out.lt; have Y1 := hid (HYZ2.out.drew.below b1); clear b1; obtain ⟨k0, k1, k2⟩ := A1.out.three; obtain ⟨j0, j1, j2⟩ := C1.out.three)
              | ((with_reducible refine (toPoint_ok l m n w1).mono ?_); rintro e w2 ⟨rfl, b2⟩; have B2 := hid (below_trans B1.out b2); have A2 := hid (A1.out.below b2); have C2 := hid (C1.out.below b2); have G2 := hid (G1.out.below b2); have z2 := A2.out.lt; (try have Y2 := hid (Y1.out.below b2)); clear b2)
              | ((with_reducible refine (toPoint_ok l m n (w1.alloc (.cells #[.int .i64 0, .int .i64 0, .int .i64 0] 31))).mono ?_); rintro e w2 ⟨rfl, b2⟩; have B2 := hid (below_trans B1.out (below_alloc_then b2)); have A2 := hid ((A1.out.alloc _).below b2); have C2 := hid ((C1.out.alloc _).below b2); have G2 := hid ((G1.out.alloc _).below b2); have z2 := A2.out.lt; have Y2 := hid ((TB.new w1 31 0 0 0).below b2); clear b2))
          | (go_at_call 25; first
              | ((with_reducible refine (HI.out w2).mono ?_); rintro e w3 ⟨rfl, b3⟩; rw [HVv.out]; have B3 := hid (below_trans B2.out b3); have A3 := hid (A2.out.below b3); have G3 := hid (G2.out.below b3); have z3 := A3.out.lt; (try have Y3 := hid (Y2.out.below b3)); clear b3; (try obtain ⟨y0, y1, y2, g0, g1, g2⟩ := Y3.out.cells))
              | ((with_reducible refine (HI.out (w2.alloc (.cells #[.int .i64 0, .int .i64 0, .int .i64 0] 31))).mono ?_); rintro e w3 ⟨rfl, b3⟩; rw [HVv.out]; have B3 := hid (below_trans B2.out (below_alloc_then b3)); have A3 := hid ((A2.out.alloc _).below b3); have G3 := hid ((G2.out.alloc _).below b3); have z3 := A3.out.lt; have Y3 := hid ((TB.new w2 31 0 0 0).below b3); clear b3; obtain ⟨y0, y1, y2, g0, g1, g2⟩ := Y3.out.cells)))
      all_goals
        have hgl := G0.out.lt
        have s1 := B1.out.size
        have s2 := B2.out.size
        have s3 := B3.out.size
        go_wp2_with fail
        go_meet
        first
          | exact ⟨_, rfl, rfl, Y3.out.put V0 V1 V2, G3.out.far (by omega) _ _ _, below_put B3.out (by omega) _ _ _⟩
          | exact ⟨_, rfl, rfl, TB.new w3 _ V0 V1 V2, G3.out.alloc _, B3.out.alloc (by omega) _⟩
    case rest =>
      obtain ⟨q, rfl, rfl, hQ, hG, hB⟩ := hcut
      have B1 := hid (below_trans B0.out hB)
      obtain ⟨x0, x1, x2⟩ := hQ.three
      obtain ⟨y0, y1, y2⟩ := hG.three
      clear hQ hG hB
      go_wp2_with fail
      refine (HE.out _).mono ?_
      rintro e w3 ⟨rfl, b3⟩
      rw [HT.out]
      have B3 := hid (below_trans B1.out b3)
      clear b3 x0 x1 x2 y0 y1 y2
      go_wp2
      go_ret
      exact ⟨rfl, B3.out⟩

end Go.Proofs.Ytkddhlgohjojpaa
