/-
  The law FnRoot.
-/
import Derived.Test.YtbodpfgbelaopaaDk
import Derived.Test.YtbodpfgbelaopaaLo
import Derived.Test.YtbodpfgbelaopaaPr
namespace Go.Proofs.Ytbodpfgbelaopaa
open Go.RowKit
set_option linter.unusedVariables false
set_option linter.unusedSimpArgs false

theorem roots_minus : ∀ r ∈ roots, validB r = true ∧ validB (timesC r (-1)) = true ∧ rootB (timesC r (-1)) = true := by decide +kernel

set_option maxRecDepth 100000 in
set_option maxHeartbeats 4000000 in
theorem FnRoot_ok (A : Option Addr) (n c : Nat) (xs : List Int) (w : World) (hr : n ≤ 1048576 → RB w A n c xs) :
    Calls Try.prog 6 #[.slice A n c] w fun e w' => e = .returned (.bool true) ∧ Below w.heap.size w w' := by
  by_cases hb : n ≤ 1048576
  · have HR := hid (hr hb)
    clear hr
    go_enter Try.func6, Try.ntmps6
    go_wp2_with fail
    refine (DrawRootIn_ok A n c xs w HR.out).mono ?_
    rintro e w1 ⟨a0, a1, a2, a3, a4, a5, a6, rfl, _, b1⟩
    have B1 := hid (below_trans b1 (below_alloc w1 (.cells #[.int .i64 a0, .int .i64 a1, .int .i64 a2, .int .i64 a3, .int .i64 a4, .int .i64 a5, .int .i64 a6] 26)))
    have X1 := hid (CB.new w1 26 a0 a1 a2 a3 a4 a5 a6)
    have HI := hid (fun W => implRootIn_ok a0 a1 a2 a3 a4 a5 a6 W)
    have HS := hid (fun W => specRootIn_ok a0 a1 a2 a3 a4 a5 a6 W)
    have HM := hid (fun (h : rootB [a0, a1, a2, a3, a4, a5, a6] = true) => root_mem (seven_len a0 a1 a2 a3 a4 a5 a6) h)
    clear b1
    generalize rootB [a0, a1, a2, a3, a4, a5, a6] = D at *
    obtain ⟨x0, x1, x2, x3, x4, x5, x6⟩ := X1.out.seven
    go_wp2_with fail
    refine (HI.out _).mono ?_
    rintro e w2 ⟨rfl, b2⟩
    have B2 := hid (below_trans B1.out b2)
    have X2 := hid (X1.out.below b2)
    clear b2 x0 x1 x2 x3 x4 x5 x6
    obtain ⟨x0, x1, x2, x3, x4, x5, x6⟩ := X2.out.seven
    go_wp2_with fail
    refine (HS.out _).mono ?_
    rintro e w3 ⟨rfl, b3⟩
    have B3 := hid (below_trans B2.out b3)
    have X3 := hid (X2.out.below b3)
    clear b3 x0 x1 x2 x3 x4 x5 x6
    have hne : (D != D) = false := by simp
    cases D
    · clear HM
      go_wp2
      go_ret
      exact ⟨rfl, B3.out⟩
    · have hm := HM.out rfl
      obtain ⟨q1, q2, q3⟩ := roots_minus _ hm
      have HAny := hid (show roots.any (fun x => x == [a0, a1, a2, a3, a4, a5, a6]) = true from List.any_eq_true.2 ⟨_, hm, by simp⟩)
      have HT := hid (fun W => classTimes_ok a0 a1 a2 a3 a4 a5 a6 (-1) W q1 (by omega) (by omega))
      rw [q2, show toldC (timesC [a0, a1, a2, a3, a4, a5, a6] (-1)) = timesC [a0, a1, a2, a3, a4, a5, a6] (-1) by rw [toldC, q2]; rfl] at HT
      have HLn := timesC_len (n := -1) (seven_len a0 a1 a2 a3 a4 a5 a6)
      have HQ3 := hid q3
      clear HM hm q1 q2 q3
      generalize timesC [a0, a1, a2, a3, a4, a5, a6] (-1) = Y at *
      obtain ⟨y0, y1, y2, y3, y4, y5, y6, hY⟩ := seven HLn
      subst hY
      have HYv := hid (show clsV [y0, y1, y2, y3, y4, y5, y6] = .agg #[.int .i64 y0, .int .i64 y1, .int .i64 y2, .int .i64 y3, .int .i64 y4, .int .i64 y5, .int .i64 y6] from rfl)
      have HYr := hid (fun W => implRootIn_ok y0 y1 y2 y3 y4 y5 y6 W)
      rw [HQ3.out] at HYr
      clear HLn
      obtain ⟨x0, x1, x2, x3, x4, x5, x6⟩ := X3.out.seven
      go_wp2_with fail
      refine (HT.out _).mono ?_
      rintro e w4 ⟨rfl, b4⟩
      rw [HYv.out]
      have hb4 := below_trans b4 (below_alloc w4 (.cells #[.int .i64 y0, .int .i64 y1, .int .i64 y2, .int .i64 y3, .int .i64 y4, .int .i64 y5, .int .i64 y6] 26))
      have B4 := hid (below_trans B3.out hb4)
      have X4 := hid (X3.out.below hb4)
      have Y4 := hid (CB.new w4 26 y0 y1 y2 y3 y4 y5 y6)
      clear b4 hb4 x0 x1 x2 x3 x4 x5 x6
      go_wp2_with fail
      refine (implRootList_ok 72 _).mono ?_
      rintro e w5 ⟨v5, rfl, o5, b5⟩
      rw [show rl72 72 = roots from rfl] at o5
      obtain ⟨A5, c5, rfl, r5⟩ := o5.rc (by rw [roots_len]; omega)
      rw [roots_len] at r5
      rw [roots_len]
      have R5 := hid r5
      have B5 := hid (below_trans B4.out b5)
      have X5 := hid (X4.out.below b5)
      have Y5 := hid (Y4.out.below b5)
      clear o5 b5 r5
      have HEq := hid (fun (z0 z1 z2 z3 z4 z5 z6 : Int) => run_eqlCls z0 z1 z2 z3 z4 z5 z6 a0 a1 a2 a3 a4 a5 a6)
      have hgd := guardCls
      go_wp2
      go_loopg [10, 11] 72 (fun gk s t wr => ∃ j m : Nat, j ≤ 72 ∧ gk = 72 - j ∧ t = .int .i64 j ∧ s = .bool ((roots.take j).any (fun x => x == [a0, a1, a2, a3, a4, a5, a6])) ∧ wr = w5.drewN m)
      case atStart => exact ⟨0, 0, by omega, rfl, rfl, rfl, rfl⟩
      case round =>
        obtain ⟨j, m, hj, hgj, rfl, rfl, rfl⟩ := hrel
        have HGj := hid hgj
        clear hgj
        by_cases hjt : j < 72
        · obtain ⟨b, z0, z1, z2, z3, z4, z5, z6, rfl, hz, _, c0, c1, c2, c3, c4, c5', c6⟩ := R5.out.at_ j hjt
          have HTk := hid (show (roots.take (j + 1)).any (fun x => x == [a0, a1, a2, a3, a4, a5, a6]) = ((roots.take j).any (fun x => x == [a0, a1, a2, a3, a4, a5, a6]) || ([z0, z1, z2, z3, z4, z5, z6] == [a0, a1, a2, a3, a4, a5, a6])) by rw [any_take (show j < roots.length by rw [roots_len]; exact hjt), hz])
          obtain ⟨x0, x1, x2, x3, x4, x5, x6⟩ := X5.out.seven
          have heq := HEq.out z0 z1 z2 z3 z4 z5 z6
          clear hz
          generalize ([z0, z1, z2, z3, z4, z5, z6] == [a0, a1, a2, a3, a4, a5, a6]) = q at *
          generalize (roots.take j).any (fun x => x == [a0, a1, a2, a3, a4, a5, a6]) = kn at *
          cases kn
          · go_wp2
            go_quiet (fail)
            go_wp2
            go_roundg (72 - (j + 1))
            case measure => have := HGj.out; omega
            case rel => exact ⟨j + 1, m + nq, by omega, rfl, by go_num, by rw [HTk.out]; rfl, rfl⟩
          · go_wp2
            go_quiet (fail)
            go_wp2
            go_roundg (72 - (j + 1))
            case measure => have := HGj.out; omega
            case rel => exact ⟨j + 1, m + nq, by omega, rfl, by go_num, by rw [HTk.out]; rfl, rfl⟩
        · obtain rfl : j = 72 := by omega
          have HAll := hid (show roots.take 72 = roots from List.take_of_length_le (by rw [roots_len]; omega))
          rw [HAll.out, HAny.out]
          obtain ⟨x0, x1, x2, x3, x4, x5, x6⟩ := Y5.out.seven
          go_wp2_with fail
          refine (HYr.out _).mono ?_
          rintro e w6 ⟨rfl, b6⟩
          have B6 := hid (below_trans (below_drewN B5.out m) b6)
          clear b6 x0 x1 x2 x3 x4 x5 x6
          go_wp2
          go_ret
          exact ⟨rfl, B6.out⟩
  · clear hr
    go_enter Try.func6, Try.ntmps6
    go_wp2
    go_ret
    exact ⟨rfl, Below.refl _ _⟩

end Go.Proofs.Ytbodpfgbelaopaa
