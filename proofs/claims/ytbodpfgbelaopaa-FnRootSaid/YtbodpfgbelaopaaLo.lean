/-
  The law FnRootList.
-/
import Derived.Test.YtbodpfgbelaopaaLn
import Derived.Test.YtbodpfgbelaopaaK6
import Derived.Test.YtbodpfgbelaopaaRd
namespace Go.Proofs.Ytbodpfgbelaopaa
open Go.RowKit
set_option linter.unusedVariables false
set_option linter.unusedSimpArgs false

theorem roots_next : ∀ j, j < 71 → (roots.getD (j + 1) [] == roots.getD j []) = false ∧ decide ((roots.getD (j + 1) []).getD 0 0 < (roots.getD j []).getD 0 0) = false := by decide +kernel
theorem roots_at : ∀ j, j < 72 → rootB (roots.getD j []) = true := by decide +kernel
theorem roots_ends : validB (roots.getD 0 []) = true ∧ timesC (roots.getD 0 []) (-1) = roots.getD 71 [] ∧ validB (roots.getD 71 []) = true := by decide +kernel

theorem DrawRootList_ok (A : Option Addr) (n c : Nat) (xs : List Int) (w : World) (hr : RB w A n c xs) :
    Calls Try.prog 21 #[.slice A n c] w fun e w' => ∃ m : Int, e = .returned (.int .i64 m) ∧ 71 ≤ m ∧ m ≤ 73 ∧ Below w.heap.size w w' := by
  go_enter Try.func21, Try.ntmps21
  go_wp2_with fail
  refine (l6Open_ok A n c xs w hr).mono ?_
  rintro e w1 ⟨R, rfl, hR, hd, hb⟩
  have HR := hid hR
  have HB := hid hb
  clear hR hb
  go_wp2_with fail
  refine (pick_ok R 0 3 w1 hd (by omega) (by omega) (by omega)).mono ?_
  rintro e w2 ⟨q, rfl, q0, q1, hd2, hg⟩
  have HG := hid hg
  clear hg hd hd2
  go_wp2
  go_ret
  exact ⟨_, rfl, by omega, by omega, HB.out.grown HG.out HB.out.size (fun k hk => by cases hk; exact Nat.le_of_eq HR.out.symm)⟩

set_option maxRecDepth 100000 in
set_option maxHeartbeats 4000000 in
theorem sameClasses_ok (A B : Option Addr) (n c d : Nat) (cs : List (List Int)) (w : World) (hr : RC w A n cs) (hs : RC w B n cs) :
    Calls Try.prog 22 #[.slice A n c, .slice B n d] w fun e w' => e = .returned (.bool true) ∧ Below w.heap.size w w' := by
  have HR := hid hr
  have HS := hid hs
  have hn100 := hr.2.1
  clear hr hs
  go_enter Try.func22, Try.ntmps22
  go_wp2
  go_loopg [5] n (fun gk t wr => ∃ i m : Nat, i ≤ n ∧ gk = n - i ∧ t = .int .i64 i ∧ wr = w.drewN m)
  case atStart => exact ⟨0, 0, by omega, rfl, rfl, rfl⟩
  case round =>
    obtain ⟨i, m, hi, hgk, rfl, rfl⟩ := hrel
    have HGk := hid hgk
    clear hgk
    by_cases hlt : i < n
    · obtain ⟨b, z0, z1, z2, z3, z4, z5, z6, rfl, hz, _, c0, c1, c2, c3, c4, c5, c6⟩ := HR.out.at_ i hlt
      obtain ⟨b', y0, y1, y2, y3, y4, y5, y6, rfl, hy, _, e0, e1, e2, e3, e4, e5, e6⟩ := HS.out.at_ i hlt
      rw [hz] at hy
      injection hy with g0 hy
      injection hy with g1 hy
      injection hy with g2 hy
      injection hy with g3 hy
      injection hy with g4 hy
      injection hy with g5 hy
      injection hy with g6 hy
      subst g0 g1 g2 g3 g4 g5 g6
      clear hz hy
      have hne := run_neqCls z0 z1 z2 z3 z4 z5 z6 z0 z1 z2 z3 z4 z5 z6
      rw [beq_self_eq_true, Bool.not_true] at hne
      have hgd := guardCls
      go_wp2
      go_quiet (fail)
      go_wp2
      go_roundg (n - (i + 1))
      case measure => have := HGk.out; omega
      case rel => exact ⟨i + 1, m + nq, by omega, rfl, by go_num, rfl⟩
    · obtain rfl : i = n := by omega
      go_wp2
      go_ret
      exact ⟨rfl, below_drewN (Below.refl _ _) m⟩

set_option maxRecDepth 100000 in
set_option maxHeartbeats 4000000 in
theorem FnRootList_ok (A : Option Addr) (n c : Nat) (xs : List Int) (w : World) (hr : n ≤ 1048576 → RB w A n c xs) :
    Calls Try.prog 5 #[.slice A n c] w fun e w' => e = .returned (.bool true) ∧ Below w.heap.size w w' := by
  by_cases hb : n ≤ 1048576
  · have HR := hid (hr hb)
    clear hr
    go_enter Try.func5, Try.ntmps5
    go_wp2_with fail
    refine (DrawRootList_ok A n c xs w HR.out).mono ?_
    rintro e w1 ⟨m, rfl, m0, m1, b1⟩
    have B1 := hid b1
    have hlen := rl72_len m
    clear b1
    have HI := hid (fun W => implRootList_ok m W)
    have HS := hid (fun W => specRootList_ok m W)
    have hne : ((m == 72) != (m == 72)) = false := by simp
    have heq : ((m == 72) == (m == 72)) = true := by simp
    have HM := hid (show (m == 72) = true → m = 72 ∧ rl72 m = roots from fun h => ⟨by simpa using h, by rw [rl72, h]; rfl⟩)
    generalize (m == 72) = D at *
    generalize rl72 m = rs at *
    go_wp2_with fail
    refine (HI.out _).mono ?_
    rintro e w2 ⟨v2, rfl, o2, b2⟩
    obtain ⟨A2, c2, rfl, r2⟩ := o2.rc (by omega)
    have B2 := hid (below_trans B1.out b2)
    have R2 := hid r2
    clear o2 b2 r2
    go_wp2_with fail
    refine (HS.out _).mono ?_
    rintro e w3 ⟨v3, rfl, o3, b3⟩
    obtain ⟨A3, c3, rfl, r3⟩ := o3.rc (by omega)
    have B3 := hid (below_trans B2.out b3)
    have R23 := hid (R2.out.below b3)
    have R3 := hid r3
    clear o3 b3 r3
    go_wp2_with fail
    refine (sameClasses_ok A2 A3 _ c2 c3 rs _ R23.out R3.out).mono ?_
    rintro e w4 ⟨rfl, b4⟩
    have B4 := hid (below_trans B3.out b4)
    have R24 := hid (R23.out.below b4)
    have R34 := hid (R3.out.below b4)
    clear b4
    cases D
    · clear HM
      go_wp2_with fail
      refine (sameClasses_ok A2 A3 _ c2 c3 rs _ R24.out R34.out).mono ?_
      rintro e w5 ⟨rfl, b5⟩
      have B5 := hid (below_trans B4.out b5)
      clear b5
      go_wp2
      go_ret
      exact ⟨rfl, B5.out⟩
    · obtain ⟨hm, hrs⟩ := HM.out rfl
      subst hm
      subst hrs
      have hl : roots.length = 72 := roots_len
      rw [hl] at R24
      rw [hl]
      clear HM HI HS hne heq hlen m0 m1 R34 R23 R3 R2 hl
      go_wp2
      go_loopg [8] 72 (fun gk t wr => ∃ i : Nat, i ≤ 72 ∧ gk = 72 - i ∧ t = .int .i64 i ∧ Below w4.heap.size w4 wr)
      case atStart => exact ⟨0, by omega, rfl, rfl, Below.refl _ _⟩
      case round =>
        obtain ⟨i, hi, hgk, rfl, hbk⟩ := hrel
        have HBk := hid hbk
        have HGk := hid hgk
        clear hbk hgk
        by_cases hlt : i < 72
        · obtain ⟨b, z0, z1, z2, z3, z4, z5, z6, rfl, hz, _, c0, c1, c2, c3, c4, c5, c6⟩ := (R24.out.below HBk.out).at_ i hlt
          have hroot := roots_at i hlt
          rw [hz] at hroot
          have HRt := hid (fun W => implRootIn_ok z0 z1 z2 z3 z4 z5 z6 W)
          rw [hroot] at HRt
          replace c0 := ext_cell c0
          replace c1 := ext_cell c1
          replace c2 := ext_cell c2
          replace c3 := ext_cell c3
          replace c4 := ext_cell c4
          replace c5 := ext_cell c5
          replace c6 := ext_cell c6
          clear hroot
          rcases i with _ | j
          · simp only [Nat.zero_mul, Nat.zero_add] at c0 c1 c2 c3 c4 c5 c6
            clear hz
            go_wp2
            refine wp_region_ext (by kernel_rfl) (by kernel_rfl) ?_
            repeat (go_big_quiet_step ((go_at_call 23; exact ext_call (HRt.out _))))
            refine wpQuiet_nil ?_
            rintro w5 ⟨⟨w6, b5⟩, hw⟩
            have hw' : w5 = w6 := hw
            clear hw
            subst hw'
            have B5 := hid (below_trans HBk.out b5)
            clear b5 c0 c1 c2 c3 c4 c5 c6
            go_wp2
            go_roundg 71
            case measure => have := HGk.out; omega
            case rel => exact ⟨1, by omega, rfl, by go_num, B5.out⟩
          · obtain ⟨b', y0, y1, y2, y3, y4, y5, y6, hbb, hy, _, e0, e1, e2, e3, e4, e5, e6⟩ := (R24.out.below HBk.out).at_ j (by omega)
            obtain rfl : b = b' := by injection hbb with h; injection h
            clear hbb
            replace e0 := ext_cell e0
            replace e1 := ext_cell e1
            replace e2 := ext_cell e2
            replace e3 := ext_cell e3
            replace e4 := ext_cell e4
            replace e5 := ext_cell e5
            replace e6 := ext_cell e6
            obtain ⟨q1, q2⟩ := roots_next j (by omega)
            rw [hz, hy] at q1
            have q3 : decide (z0 < y0) = false := by
              rw [hz, hy] at q2
              exact q2
            have hql := run_eqlCls z0 z1 z2 z3 z4 z5 z6 y0 y1 y2 y3 y4 y5 y6
            rw [q1] at hql
            have hgd := guardCls
            clear hz hy q1 q2
            go_wp2
            refine wp_region_ext (by kernel_rfl) (by kernel_rfl) ?_
            repeat (go_big_quiet_step ((go_at_call 23; exact ext_call (HRt.out _))))
            refine wpQuiet_nil ?_
            rintro w5 ⟨⟨w6, b5⟩, hw⟩
            have hw' : w5 = w6 := hw
            clear hw
            subst hw'
            have B5 := hid (below_trans HBk.out b5)
            clear b5 c0 c1 c2 c3 c4 c5 c6 e0 e1 e2 e3 e4 e5 e6
            go_wp2
            go_roundg (72 - (j + 1 + 1))
            case measure => have := HGk.out; omega
            case rel => exact ⟨j + 1 + 1, by omega, rfl, by go_num, B5.out⟩
        · obtain rfl : i = 72 := by omega
          obtain ⟨b, z0, z1, z2, z3, z4, z5, z6, rfl, hz, _, c0, c1, c2, c3, c4, c5, c6⟩ := (R24.out.below HBk.out).at_ 0 (by omega)
          obtain ⟨b', y0, y1, y2, y3, y4, y5, y6, hbb, hy, _, e0, e1, e2, e3, e4, e5, e6⟩ := (R24.out.below HBk.out).at_ 71 (by omega)
          obtain rfl : b = b' := by injection hbb with h; injection h
          clear hbb
          obtain ⟨q1, q2, q3⟩ := roots_ends
          rw [hz] at q1 q2
          rw [hy] at q2 q3
          have HT := hid (fun W => classTimes_ok z0 z1 z2 z3 z4 z5 z6 (-1) W q1 (by omega) (by omega))
          rw [q2, q3, show toldC [y0, y1, y2, y3, y4, y5, y6] = [y0, y1, y2, y3, y4, y5, y6] by rw [toldC, q3]; rfl] at HT
          have HYv := hid (show clsV [y0, y1, y2, y3, y4, y5, y6] = .agg #[.int .i64 y0, .int .i64 y1, .int .i64 y2, .int .i64 y3, .int .i64 y4, .int .i64 y5, .int .i64 y6] from rfl)
          simp only [Nat.zero_mul, Nat.zero_add] at c0 c1 c2 c3 c4 c5 c6
          have B5 := hid (below_trans B4.out HBk.out)
          clear hz hy q1 q2 q3
          have E0 := hid e0
          have E1 := hid e1
          have E2 := hid e2
          have E3 := hid e3
          have E4 := hid e4
          have E5 := hid e5
          have E6 := hid e6
          clear e0 e1 e2 e3 e4 e5 e6
          go_wp2_with fail
          refine (HT.out _).mono ?_
          rintro e w6 ⟨rfl, b6⟩
          rw [HYv.out]
          have hb6 := below_trans b6 (below_alloc w6 (.cells #[.int .i64 y0, .int .i64 y1, .int .i64 y2, .int .i64 y3, .int .i64 y4, .int .i64 y5, .int .i64 y6] 26))
          have B6 := hid (below_trans B5.out hb6)
          have X6 := hid (CB.new w6 26 y0 y1 y2 y3 y4 y5 y6)
          have e0 := cell_below hb6 E0.out
          have e1 := cell_below hb6 E1.out
          have e2 := cell_below hb6 E2.out
          have e3 := cell_below hb6 E3.out
          have e4 := cell_below hb6 E4.out
          have e5 := cell_below hb6 E5.out
          have e6 := cell_below hb6 E6.out
          clear b6 hb6 c0 c1 c2 c3 c4 c5 c6
          obtain ⟨x0, x1, x2, x3, x4, x5, x6⟩ := X6.out.seven
          have hql := run_eqlCls y0 y1 y2 y3 y4 y5 y6 y0 y1 y2 y3 y4 y5 y6
          rw [beq_self_eq_true] at hql
          have hgd := guardCls
          go_wp2
          go_quiet (fail)
          go_wp2
          go_ret
          exact ⟨rfl, below_drewN B6.out _⟩
  · clear hr
    go_enter Try.func5, Try.ntmps5
    go_wp2
    go_ret
    exact ⟨rfl, Below.refl _ _⟩

end Go.Proofs.Ytbodpfgbelaopaa
