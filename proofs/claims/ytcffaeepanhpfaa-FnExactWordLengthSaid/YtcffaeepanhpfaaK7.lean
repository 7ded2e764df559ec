/-
  Contracts: the index of a line's class.
-/
import Derived.Test.YtcffaeepanhpfaaLr
import Derived.Test.YtcffaeepanhpfaaL2
namespace Go.Proofs.Ytcffaeepanhpfaa
open Go.RowKit
set_option linter.unusedVariables false
set_option linter.unusedSimpArgs false

def isLine (a : List Int) : Bool := lines.any (fun x => x == a)
theorem isLine_no {a : List Int} (h : ∀ j, j < 27 → (lineC j == a) = false) : isLine a = false := by
  rw [isLine, List.any_eq_false]
  intro x hx
  obtain ⟨j, hj, rfl⟩ := List.getElem_of_mem hx
  have := h j (by rw [lines_len] at hj; exact hj)
  rw [lineC, List.getD_eq_getElem?_getD, List.getElem?_eq_getElem hj] at this
  simpa using this
theorem isLine_yes {a : List Int} {j : Nat} (hj : j < 27) (h : (lineC j == a) = true) : isLine a = true := by
  rw [isLine, List.any_eq_true]
  refine ⟨lineC j, ?_, h⟩
  simp [lineC, List.getD_eq_getElem?_getD, List.getElem?_eq_getElem (show j < lines.length by rw [lines_len]; exact hj)]

set_option maxRecDepth 100000 in
set_option maxHeartbeats 4000000 in
theorem classLine_ok (a0 a1 a2 a3 a4 a5 a6 : Int) (w : World) :
    Calls Try.prog 51 #[.agg #[.int .i64 a0, .int .i64 a1, .int .i64 a2, .int .i64 a3, .int .i64 a4, .int .i64 a5, .int .i64 a6]] w fun e w' => ∃ r : Int, e = .returned (.int .i64 r) ∧ (-1 ≤ r ∧ r ≤ 27) ∧ decide (r < 0) = !isLine [a0, a1, a2, a3, a4, a5, a6] ∧ Below w.heap.size w w' := by
  have X0 := hid (CB.new w 38 a0 a1 a2 a3 a4 a5 a6)
  have B0 := hid (below_alloc w (.cells #[.int .i64 a0, .int .i64 a1, .int .i64 a2, .int .i64 a3, .int .i64 a4, .int .i64 a5, .int .i64 a6] 38))
  go_enter Try.func51, Try.ntmps51
  go_wp2
  generalize w.alloc (.cells #[.int .i64 a0, .int .i64 a1, .int .i64 a2, .int .i64 a3, .int .i64 a4, .int .i64 a5, .int .i64 a6] 38) = W at *
  go_loopg [4] 27 (fun gk t wr => ∃ k : Nat, k ≤ 27 ∧ gk = 27 - k ∧ t = .int .i64 k ∧ (∀ j, j < k → (lineC j == [a0, a1, a2, a3, a4, a5, a6]) = false) ∧ Below W.heap.size W wr)
  case atStart => exact ⟨0, by omega, rfl, rfl, fun j hj => by omega, Below.refl _ _⟩
  case round =>
    obtain ⟨k, hk, hgk, rfl, hno, hb⟩ := hrel
    have HGk := hid hgk
    have HNo := hid hno
    have HB := hid hb
    obtain ⟨x0, x1, x2, x3, x4, x5, x6⟩ := ext7 (X0.out.below hb)
    clear hgk hno hb
    by_cases hlt : k < 27
    · obtain ⟨z0, z1, z2, z3, z4, z5, z6, hz⟩ := seven (lineC_7 k hlt)
      have HL := hid (fun W => lineClass_ok k hlt W)
      rw [hz] at HL
      have HZv := hid (show clsV [z0, z1, z2, z3, z4, z5, z6] = .agg #[.int .i64 z0, .int .i64 z1, .int .i64 z2, .int .i64 z3, .int .i64 z4, .int .i64 z5, .int .i64 z6] from rfl)
      rw [HZv.out] at HL
      have hql := run_eqlCls z0 z1 z2 z3 z4 z5 z6 a0 a1 a2 a3 a4 a5 a6
      have hgd := guardCls
      cases hq : ([z0, z1, z2, z3, z4, z5, z6] == [a0, a1, a2, a3, a4, a5, a6])
      · rw [hq] at hql
        have HN2 := hid (show ∀ j, j < k + 1 → (lineC j == [a0, a1, a2, a3, a4, a5, a6]) = false from fun j hj => by
          by_cases h : j < k
          · exact HNo.out j h
          · obtain rfl : j = k := by omega
            rw [hz]; exact hq)
        clear hq hz
        go_wp2
        refine wp_region_ext (by kernel_rfl) (by kernel_rfl) ?_
        repeat (go_big_quiet_step ((go_at_call 52; exact ext_call (HL.out _))))
        refine wpQuiet_nil ?_
        rintro w5 ⟨⟨w6, b5⟩, hw⟩
        have hw' : w5 = w6 := hw
        clear hw
        subst hw'
        have B5 := hid (below_trans HB.out b5)
        clear b5 x0 x1 x2 x3 x4 x5 x6
        go_wp2
        go_roundg (27 - (k + 1))
        case measure => have := HGk.out; omega
        case rel => exact ⟨k + 1, by omega, rfl, by go_num, HN2.out, B5.out⟩
      · rw [hq] at hql
        have HY := hid (show isLine [a0, a1, a2, a3, a4, a5, a6] = true from isLine_yes hlt (by rw [hz]; exact hq))
        clear hq hz
        go_wp2
        refine wp_region_ext (by kernel_rfl) (by kernel_rfl) ?_
        repeat (go_big_quiet_step ((go_at_call 52; exact ext_call (HL.out _))))
        refine wpQuiet_nil ?_
        rintro w5 ⟨⟨w6, b5⟩, hw⟩
        have hw' : w5 = w6 := hw
        clear hw
        subst hw'
        have B5 := hid (below_trans HB.out b5)
        clear b5 x0 x1 x2 x3 x4 x5 x6
        go_wp2
        go_ret
        exact ⟨_, rfl, by omega, by rw [HY.out]; simp, below_trans B0.out B5.out⟩
    · obtain rfl : k = 27 := by omega
      have HF := hid (isLine_no HNo.out)
      go_wp2
      go_ret
      exact ⟨_, rfl, by omega, by rw [HF.out]; rfl, below_trans B0.out HB.out⟩

end Go.Proofs.Ytcffaeepanhpfaa
