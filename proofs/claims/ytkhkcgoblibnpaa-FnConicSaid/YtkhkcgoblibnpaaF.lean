/-
  Contracts: the laws' copies of points, the law of PointIn.
-/
import Derived.Test.YtkhkcgoblibnpaaE
namespace Go.Proofs.Ytkhkcgoblibnpaa
open Go.RowKit
set_option linter.unusedVariables false
set_option linter.unusedSimpArgs false

theorem toIntA3_ok (x y z : Int) (w : World) :
    Calls Try.prog 51 #[.agg #[.int .i64 x, .int .i64 y, .int .i64 z]] w fun e w' => e = .returned (.agg #[.int .i64 x, .int .i64 y, .int .i64 z]) ∧ Below w.heap.size w w' := by
  go_enter Try.func51, Try.ntmps51
  go_wp2
  go_loopw [4] (fun i wr => ∃ (k : Nat) (a b c : Int), k ≤ 3 ∧ i = .int .i64 k ∧ wr = ((w.alloc (.cells #[.int .i64 x, .int .i64 y, .int .i64 z] 33)).alloc (.cells #[.int .i64 0, .int .i64 0, .int .i64 0] 33)).alloc (.cells #[.int .i64 a, .int .i64 b, .int .i64 c] 33) ∧ (0 < k → a = x) ∧ (1 < k → b = y) ∧ (2 < k → c = z)) (fun i _ => 3 - (intOf i).toNat)
  case atStart => exact ⟨0, 0, 0, 0, by omega, rfl, rfl, by omega, by omega, by omega⟩
  case round =>
    obtain ⟨k, a, b, c, hk, rfl, rfl, ha, hb, hc⟩ := hrel
    match k, hk, ha, hb, hc with
    | 0, _, _, _, _ =>
      go_wp2
      go_roundw
      case rel => exact ⟨1, x, b, c, by omega, rfl, rfl, by omega, by omega, by omega⟩
      case measure => simp [intOf]
    | 1, _, ha, _, _ =>
      obtain rfl := ha (by omega)
      go_wp2
      go_roundw
      case rel => exact ⟨2, a, y, c, by omega, rfl, rfl, by omega, by omega, by omega⟩
      case measure => simp [intOf]
    | 2, _, ha, hb, _ =>
      obtain rfl := ha (by omega)
      obtain rfl := hb (by omega)
      go_wp2
      go_roundw
      case rel => exact ⟨3, a, b, z, by omega, rfl, rfl, by omega, by omega, by omega⟩
      case measure => simp [intOf]
    | 3, _, ha, hb, hc =>
      obtain rfl := ha (by omega)
      obtain rfl := hb (by omega)
      obtain rfl := hc (by omega)
      go_wp2
      refine bodyPost_ret (v := .agg #[.int .i64 a, .int .i64 b, .int .i64 c]) (by simp [results, Try.results51, go_sem]) rfl ⟨rfl, ?_⟩
      exact (((Below.refl _ _).alloc (Nat.le_refl _) _).alloc (by simp) _).alloc (by simp; omega) _

theorem toPoint_ok (x y z : Int) (w : World) :
    Calls Try.prog 23 #[.agg #[.int .i64 x, .int .i64 y, .int .i64 z]] w fun e w' => e = .returned (.agg #[.int .i64 x, .int .i64 y, .int .i64 z]) ∧ Below w.heap.size w w' := by
  go_enter Try.func23, Try.ntmps23
  go_wp2_with fail
  refine (toIntA3_ok x y z _).mono ?_
  rintro e w1 ⟨rfl, hb⟩
  obtain ⟨c1, f1, z1⟩ := cells_last hb (w.heap.size + 1 + 1) (by simp)
  obtain ⟨c2, f2, z2⟩ := cells_second hb (w.heap.size + 1) (by simp)
  have hb0 : Below w.heap.size w w1 := below_alloc_then (below_alloc_then (below_alloc_then hb))
  have B := hid hb0
  have a0 := c1 0 _ rfl
  have a1 := c1 1 _ rfl
  have a2 := c1 2 _ rfl
  have b0 := c2 0 _ rfl
  have b1 := c2 1 _ rfl
  have b2 := c2 2 _ rfl
  clear c1 c2 hb hb0
  go_wp2
  refine bodyPost_ret (v := .agg #[.int .i64 x, .int .i64 y, .int .i64 z]) (by simp [results, Try.results23, go_sem, b0, b1, b2]) rfl ⟨rfl, ?_⟩
  exact (((((B.out.setCell (by show _ ≤ _ + 1 + 1; omega) _).setCell (by show _ ≤ _ + 1 + 1; omega) _).setCell (by show _ ≤ _ + 1 + 1; omega) _).setCell (by show _ ≤ _ + 1; omega) _).setCell (by show _ ≤ _ + 1; omega) _).setCell (by show _ ≤ _ + 1; omega) _


end Go.Proofs.Ytkhkcgoblibnpaa
