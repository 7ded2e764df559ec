/-
  The law FnOrder.
-/
import Derived.Test.YtcffaeepanhpfaaXo
import Derived.Test.YtcffaeepanhpfaaSm
namespace Go.Proofs.Ytcffaeepanhpfaa
open Go.RowKit
set_option linter.unusedVariables false
set_option linter.unusedSimpArgs false

set_option maxRecDepth 100000 in
set_option maxHeartbeats 8000000 in
theorem FnOrder_ok (A : Option Addr) (n c : Nat) (xs : List Int) (w : World) (hr : n ≤ 1048576 → RB w A n c xs) :
    Calls Try.prog 9 #[.slice A n c] w fun e w' => e = .returned (.bool true) ∧ Below w.heap.size w w' := by
  by_cases hb : n ≤ 1048576
  · have HR := hid (hr hb)
    clear hr
    go_enter Try.func9, Try.ntmps9
    go_wp2_with fail
    refine (DrawWordOrder_ok A n c xs w HR.out).mono ?_
    rintro e w1 ⟨v0, ws, rfl, o1, hl, b1⟩
    obtain ⟨A0, c0, rfl, _, _⟩ := o1.ri2 (by omega)
    have O1 := hid o1
    have B1 := hid b1
    have HLw := hid hl
    have HI := hid (fun W h => implWordOrder_ok A0 ws.length c0 ws W h)
    have HS := hid (fun W h => specWordOrder_ok A0 ws.length c0 ws W h)
    have HL := hid (fun W h => implWordLines_ok A0 ws.length c0 ws W h)
    have HOI := hid (show ordI ws = if wordB ws then (ordW ws : Int) else 0 from rfl)
    have HLR := hid (show wlR ws = if wordB ws then wlV ws else [] from rfl)
    have HWd := hid (fun (h : wordB ws = true) => wordB_wd h)
    clear o1 b1 hl
    generalize wordB ws = D at *
    have hne : (D != D) = false := by simp
    cases D
    · have hne3 : (ordI ws != ordI ws) = false := by simp
      clear HOI HLR HWd HL
      generalize ordI ws = y at *
      go_wp2_with fail
      refine (HI.out _ (O1.out.get (by have := HLw.out; omega))).mono ?_
      rintro e w2 ⟨rfl, b2⟩
      have O2 := hid (O1.out.below b2)
      have B2 := hid (below_trans B1.out b2)
      clear b2
      go_wp2_with fail
      refine (HS.out _ (O2.out.get (by have := HLw.out; omega))).mono ?_
      rintro e w3 ⟨rfl, b3⟩
      have B3 := hid (below_trans B2.out b3)
      clear b3
      go_wp2
      go_ret
      exact ⟨by simp, B3.out⟩
    · have f1 : ordI ws = (ordW ws : Int) := HOI.out
      have f2 : wlR ws = wlV ws := HLR.out
      have hWd := HWd.out rfl
      obtain ⟨hN, hid1, _⟩ := ordW_ok hWd
      have HLt := hid (fun m k (hk : k < 27) => itN_lt (fun k hk => wL_lt hWd hk) m k hk)
      have HId := hid (isId_iff.1 hid1)
      have HN := hid hN
      rw [f1] at HI HS
      rw [f2] at HL
      clear HOI HLR HWd f1 f2 hid1 hWd hN
      generalize ordW ws = N at *
      have hne3 : ((N : Int) != (N : Int)) = false := by simp
      go_wp2_with fail
      refine (HI.out _ (O1.out.get (by have := HLw.out; omega))).mono ?_
      rintro e w2 ⟨rfl, b2⟩
      have O2 := hid (O1.out.below b2)
      have B2 := hid (below_trans B1.out b2)
      clear b2
      go_wp2_with fail
      refine (HS.out _ (O2.out.get (by have := HLw.out; omega))).mono ?_
      rintro e w3 ⟨rfl, b3⟩
      have O3 := hid (O2.out.below b3)
      have B3 := hid (below_trans B2.out b3)
      clear b3
      go_wp2_with fail
      refine (HL.out _ (O3.out.get (by have := HLw.out; omega))).mono ?_
      rintro e w4 ⟨v4, rfl, o4, b4⟩
      obtain ⟨g, c4, rfl, _, _, hcell⟩ := o4.shape (by rw [wlV, wlTo_len]; omega)
      rw [show (wlV ws).length = 27 from wlTo_len ws 27] at hcell ⊢
      have HCell := hid hcell
      have B4 := hid (below_trans B3.out b4)
      clear b4 o4 hcell
      have h12 : N ≤ 12 := HN.out.2.1
      go_wp2
      go_loopg [10] 27 (fun gk t wr => ∃ k : Nat, k ≤ 27 ∧ gk = 27 - k ∧ t = .int .i64 k ∧ wr = w4)
      case atStart => exact ⟨0, by omega, rfl, rfl, rfl⟩
      case round =>
        obtain ⟨k, hk, hgk, rfl, rfl⟩ := hrel
        have HGk := hid hgk
        clear hgk
        by_cases hlt : k < 27
        · go_wp2
          go_loopg [11, 12] N (fun gk s t wq => ∃ m : Nat, m ≤ N ∧ gk = N - m ∧ t = .int .i64 m ∧ s = .int .i64 ((itN (wL ws) m k : Nat) : Int) ∧ wq = wr)
          case atStart => exact ⟨0, by omega, rfl, rfl, rfl, rfl⟩
          case round =>
            obtain ⟨m, hm, hgm, rfl, rfl, rfl⟩ := hrel
            have HGm := hid hgm
            clear hgm
            by_cases hlm : m < N
            · have hx27 := HLt.out m k hlt
              have x1 := HCell.out (itN (wL ws) m k) hx27
              rw [wlV, wlTo_get ws hx27] at x1
              have HE := hid (show ((itN (wL ws) (m + 1) k : Nat) : Int) = ((wL ws (itN (wL ws) m k) : Nat) : Int) from rfl)
              rw [← HE.out] at x1
              clear HE
              generalize hz : itN (wL ws) (m + 1) k = z at *
              have HZ := hid hz
              clear hz
              generalize itN (wL ws) m k = y at *
              go_wp2
              go_roundg (N - (m + 1))
              case measure => have := HGm.out; omega
              case rel => exact ⟨m + 1, by omega, rfl, by go_num, by rw [HZ.out], rfl⟩
            · have hmN : m = N := by omega
              have HE := hid (show itN (wL ws) m k = k by rw [hmN]; exact HId.out k hlt)
              rw [HE.out]
              have hq : ((k : Int) != (k : Int)) = false := by simp
              have HmN := hid hmN
              clear hmN hm
              go_wp2
              go_roundg (27 - (k + 1))
              case measure => have := HGk.out; omega
              case rel => exact ⟨k + 1, by omega, rfl, by go_num, rfl⟩
        · obtain rfl : k = 27 := by omega
          obtain ⟨n1, n2, n3, n4⟩ := HN.out
          clear h12 hk HGk HI HS hne3 HId HN
          have hN : N = 1 ∨ N = 2 ∨ N = 3 ∨ N = 4 ∨ N = 5 ∨ N = 6 ∨ N = 8 ∨ N = 9 ∨ N = 10 ∨ N = 12 := by omega
          clear n1 n2 n3 n4
          rcases hN with rfl | rfl | rfl | rfl | rfl | rfl | rfl | rfl | rfl | rfl
          all_goals
            go_wp2
            go_ret
            exact ⟨rfl, B4.out⟩
  · clear hr
    go_enter Try.func9, Try.ntmps9
    go_wp2
    go_ret
    exact ⟨rfl, Below.refl _ _⟩

end Go.Proofs.Ytcffaeepanhpfaa
