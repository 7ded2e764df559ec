/-
  Contracts: the order of classes, a class put into a sorted list.
-/
import Derived.Test.YtcffaeepanhpfaaS4
import Derived.Test.YtcffaeepanhpfaaOc
import Derived.Deep.RegionWith
import Derived.Deep.DeepCutAuto
namespace Go.Proofs.Ytcffaeepanhpfaa
open Go.RowKit
set_option linter.unusedVariables false
set_option linter.unusedSimpArgs false

theorem lessC_drop {xs ys : List Int} {k : Nat} (h1 : k < xs.length) (h2 : k < ys.length) : lessC (xs.drop k) (ys.drop k) = if xs.getD k 0 != ys.getD k 0 then decide (xs.getD k 0 < ys.getD k 0) else lessC (xs.drop (k + 1)) (ys.drop (k + 1)) := by
  rw [List.drop_eq_getElem_cons h1, List.drop_eq_getElem_cons h2, lessC, getD_lt h1, getD_lt h2]

set_option maxRecDepth 100000 in
set_option maxHeartbeats 4000000 in
theorem l3Less_ok (a0 a1 a2 a3 a4 a5 a6 b0 b1 b2 b3 b4 b5 b6 : Int) (w : World) :
    Calls Try.prog 68 #[.agg #[.int .i64 a0, .int .i64 a1, .int .i64 a2, .int .i64 a3, .int .i64 a4, .int .i64 a5, .int .i64 a6], .agg #[.int .i64 b0, .int .i64 b1, .int .i64 b2, .int .i64 b3, .int .i64 b4, .int .i64 b5, .int .i64 b6]] w fun e w' => e = .returned (.bool (lessC [a0, a1, a2, a3, a4, a5, a6] [b0, b1, b2, b3, b4, b5, b6])) ∧ Below w.heap.size w w' := by
  have HA := hid ((CB.new w 38 a0 a1 a2 a3 a4 a5 a6).alloc (.cells #[.int .i64 b0, .int .i64 b1, .int .i64 b2, .int .i64 b3, .int .i64 b4, .int .i64 b5, .int .i64 b6] 38))
  have HB := hid (CB.newAt (w.alloc (.cells #[.int .i64 a0, .int .i64 a1, .int .i64 a2, .int .i64 a3, .int .i64 a4, .int .i64 a5, .int .i64 a6] 38)) 38 (w.heap.size + 1) (by simp) b0 b1 b2 b3 b4 b5 b6)
  have HW := hid (below_trans (below_alloc w (.cells #[.int .i64 a0, .int .i64 a1, .int .i64 a2, .int .i64 a3, .int .i64 a4, .int .i64 a5, .int .i64 a6] 38)) (below_alloc _ (.cells #[.int .i64 b0, .int .i64 b1, .int .i64 b2, .int .i64 b3, .int .i64 b4, .int .i64 b5, .int .i64 b6] 38)))
  have HL := hid (show lessC [a0, a1, a2, a3, a4, a5, a6] [b0, b1, b2, b3, b4, b5, b6] = if a0 != b0 then decide (a0 < b0) else lessC [a1, a2, a3, a4, a5, a6] [b1, b2, b3, b4, b5, b6] from rfl)
  by_cases h0 : a0 = b0
  · subst h0
    have hq : (a0 != a0) = false := by simp
    have HL2 := hid (show lessC [a0, a1, a2, a3, a4, a5, a6] [a0, b1, b2, b3, b4, b5, b6] = lessC [a1, a2, a3, a4, a5, a6] [b1, b2, b3, b4, b5, b6] by rw [HL.out, hq]; rfl)
    rw [HL2.out]
    have TA := hid (tail6 a0 a1 a2 a3 a4 a5 a6 _ w _ _ HA.out)
    have TB := hid (tail6 a0 b1 b2 b3 b4 b5 b6 _ w _ _ HB.out)
    clear HL HL2 HA HB
    go_enter Try.func68, Try.ntmps68
    go_wp2
    generalize (w.alloc (.cells #[.int .i64 a0, .int .i64 a1, .int .i64 a2, .int .i64 a3, .int .i64 a4, .int .i64 a5, .int .i64 a6] 38)).alloc (.cells #[.int .i64 a0, .int .i64 b1, .int .i64 b2, .int .i64 b3, .int .i64 b4, .int .i64 b5, .int .i64 b6] 38) = W at *
    go_loopg [5] 6 (fun g t wr => ∃ k n : Nat, k ≤ 6 ∧ g = 6 - k ∧ t = .int .i64 k ∧ lessC [a1, a2, a3, a4, a5, a6] [b1, b2, b3, b4, b5, b6] = lessC ([a1, a2, a3, a4, a5, a6].drop k) ([b1, b2, b3, b4, b5, b6].drop k) ∧ wr = W.drewN n)
    case atStart => exact ⟨0, 0, by omega, rfl, rfl, rfl, rfl⟩
    case round =>
      obtain ⟨k, n, hk, hgk, rfl, hl, hwr⟩ := hrel
      subst hwr
      have HGk := hid hgk
      have HLk := hid hl
      clear hgk hl
      by_cases hlt : k < 6
      · have hca := TA.out k hlt
        have hcb := TB.out k hlt
        have HDr := hid (@lessC_drop [a1, a2, a3, a4, a5, a6] [b1, b2, b3, b4, b5, b6] k (by simpa using hlt) (by simpa using hlt))
        generalize hu : [a1, a2, a3, a4, a5, a6].getD k 0 = u at *
        generalize hv : [b1, b2, b3, b4, b5, b6].getD k 0 = v at *
        clear hu hv
        cases hq2 : (u != v)
        · have HQ := hid hq2
          go_wp2
          go_quiet (fail)
          go_wp2
          go_roundg (6 - (k + 1))
          case measure => have := HGk.out; omega
          case rel => exact ⟨k + 1, n + nq, by omega, rfl, by go_num, by rw [HLk.out, HDr.out, HQ.out]; rfl, rfl⟩
        · have HQ := hid hq2
          go_wp2
          go_quiet (fail)
          go_wp2
          go_quiet (fail)
          go_wp2
          go_ret
          exact ⟨by rw [HLk.out, HDr.out, HQ.out]; rfl, below_drewN (below_drewN (below_drewN HW.out _) _) _⟩
      · obtain rfl : k = 6 := by omega
        go_wp2
        go_ret
        exact ⟨by rw [HLk.out]; rfl, below_drewN HW.out _⟩
  · have hq : (a0 != b0) = true := by simpa using h0
    have HL2 := hid (show lessC [a0, a1, a2, a3, a4, a5, a6] [b0, b1, b2, b3, b4, b5, b6] = decide (a0 < b0) by rw [HL.out, hq]; rfl)
    rw [HL2.out]
    clear h0 HL HL2 HA HB
    go_enter Try.func68, Try.ntmps68
    go_wp2
    go_ret
    exact ⟨rfl, HW.out⟩

end Go.Proofs.Ytcffaeepanhpfaa
