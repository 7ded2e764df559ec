/-
  A drawn word and a drawn class.
-/
import Derived.Test.YtbodpfgbelaopaaWd
import Derived.Test.YtbodpfgbelaopaaDk
namespace Go.Proofs.Ytbodpfgbelaopaa
open Go.RowKit
set_option linter.unusedVariables false
set_option linter.unusedSimpArgs false

theorem gb_one {w : World} {k j : Nat} {v : Value} : w.grownBy (w.setCell ⟨k, j, none⟩ v) (some k) :=
  ⟨rfl, rfl, rfl, by simp, fun i _ hi => heap_setCell_other w ⟨k, j, none⟩ i v (fun e => hi (by rw [e]))⟩
theorem gb_seven {w : World} {k : Nat} (b0 b1 b2 b3 b4 b5 b6 : Int) : w.grownBy (((((((w.setCell ⟨k, 0, none⟩ (.int .i64 b0)).setCell ⟨k, 1, none⟩ (.int .i64 b1)).setCell ⟨k, 2, none⟩ (.int .i64 b2)).setCell ⟨k, 3, none⟩ (.int .i64 b3)).setCell ⟨k, 4, none⟩ (.int .i64 b4)).setCell ⟨k, 5, none⟩ (.int .i64 b5)).setCell ⟨k, 6, none⟩ (.int .i64 b6)) (some k) :=
  gb_trans1 (gb_trans1 (gb_trans1 (gb_trans1 (gb_trans1 (gb_trans1 gb_one gb_one) gb_one) gb_one) gb_one) gb_one) gb_one

set_option maxRecDepth 100000 in
set_option maxHeartbeats 4000000 in
theorem DrawWordAct_ok (A : Option Addr) (n c : Nat) (xs : List Int) (w : World) (hr : RB w A n c xs) :
    Calls Try.prog 33 #[.slice A n c] w fun e w' => ∃ (v : Value) (ws : List Int) (q0 q1 q2 q3 q4 q5 q6 : Int), e = .returned (.tuple #[v, .agg #[.int .i64 q0, .int .i64 q1, .int .i64 q2, .int .i64 q3, .int .i64 q4, .int .i64 q5, .int .i64 q6]]) ∧ OI w' w.heap.size v ws ∧ ws.length ≤ 20 ∧ Below w.heap.size w w' := by
  have HR0 := hid (hr.below (below_alloc w (.cells #[.int .i64 0, .int .i64 0, .int .i64 0, .int .i64 0, .int .i64 0, .int .i64 0, .int .i64 0] 26)))
  have I0 := hid (CB.new w 26 0 0 0 0 0 0 0)
  have B0 := hid (below_alloc w (.cells #[.int .i64 0, .int .i64 0, .int .i64 0, .int .i64 0, .int .i64 0, .int .i64 0, .int .i64 0] 26))
  clear hr
  go_enter Try.func33, Try.ntmps33
  go_wp2_with fail
  refine (l6Open_ok A n c xs _ HR0.out).mono ?_
  rintro e w1 ⟨R, rfl, hR, hd, hb⟩
  have B1 := hid (below_trans B0.out hb)
  have I1 := hid (I0.out.below hb)
  have D1 := hid hd
  have hlt : w.heap.size < R := by rw [hR]; simp
  have hRl : R < w1.heap.size := hd.lt
  clear hR hb hd
  go_wp2_with fail
  refine (l91Word_ok R 0 w1 D1.out (by omega) (by omega)).mono ?_
  rintro e w2 ⟨v, ws, rfl, ho, hl, ⟨cn, c0, c1, hd2⟩, hg⟩
  have B2 := hid (B1.out.grown hg B1.out.size (fun k hk => by cases hk; omega))
  have I2 := hid (I1.out.gb hg (by omega))
  have O2 := hid ho
  have D2 := hid hd2
  clear ho hg hd2
  go_wp2_with fail
  refine (l91Class_ok R cn w2 D2.out (by omega) (by omega)).mono ?_
  rintro e w3 ⟨q0, q1, q2, q3, q4, q5, q6, rfl, _, _, hg⟩
  have B3 := hid (B2.out.grown hg B2.out.size (fun k hk => by cases hk; omega))
  have I3 := hid (I2.out.gb hg (by omega))
  have O3 := hid (O2.out.gb2 hg hRl)
  clear hg
  have hw1 : w.heap.size < w1.heap.size := by omega
  have O4 := hid (O3.out.gb2 (gb_seven (k := w.heap.size) q0 q1 q2 q3 q4 q5 q6) hw1)
  have O5 := hid (O4.out.mono (show w.heap.size ≤ w1.heap.size by omega))
  have I4 := hid (I3.out.put q0 q1 q2 q3 q4 q5 q6)
  have B4 := hid (below_put7 B3.out (Nat.le_refl _) q0 q1 q2 q3 q4 q5 q6)
  obtain ⟨y0, y1, y2, y3, y4, y5, y6, g0, g1, g2, g3, g4, g5, g6⟩ := I3.out.cells
  obtain ⟨u0, u1, u2, u3, u4, u5, u6⟩ := I4.out.seven
  go_wp2
  refine bodyPost_ret (v := .tuple #[v, .agg #[.int .i64 q0, .int .i64 q1, .int .i64 q2, .int .i64 q3, .int .i64 q4, .int .i64 q5, .int .i64 q6]]) (by simp [results, Try.results33, go_sem, u0, u1, u2, u3, u4, u5, u6]) rfl ⟨v, ws, q0, q1, q2, q3, q4, q5, q6, rfl, ?_, hl, ?_⟩
  · with_reducible exact O5.out
  · with_reducible exact B4.out

end Go.Proofs.Ytbodpfgbelaopaa
