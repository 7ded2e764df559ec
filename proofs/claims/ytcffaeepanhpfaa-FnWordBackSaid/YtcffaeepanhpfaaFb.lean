/-
  The law FnWordBack.
-/
import Derived.Test.YtcffaeepanhpfaaXo
import Derived.Test.YtcffaeepanhpfaaSm
namespace Go.Proofs.Ytcffaeepanhpfaa
open Go.RowKit
set_option linter.unusedVariables false
set_option linter.unusedSimpArgs false

theorem wordB_rev2 (xs : List Int) : wordB xs.reverse = wordB xs := by
  rw [wordB, wordB, List.all_reverse, List.length_reverse]
theorem back_facts {xs : List Int} (h : wordB xs = true) : wbV xs = xs.reverse ∧ wbV xs.reverse = xs ∧ wordB xs.reverse = true ∧ ordI xs.reverse = ordI xs ∧ lenI xs.reverse = lenI xs := by
  have h2 : wordB xs.reverse = true := by rw [wordB_rev2, h]
  have hw := wordB_wd h
  refine ⟨by rw [wbV, h]; rfl, ?_, h2, ?_, ?_⟩
  · rw [wbV, h2]; simp
  · rw [ordI, ordI, h, h2, ordW_eq hw hw.reverse (order_back hw)]
  · rw [lenI, lenI, h, h2, lenW_back hw]
theorem wbV_len (xs : List Int) : (wbV xs).length ≤ xs.length := by
  rw [wbV]
  split
  · rw [List.length_reverse]; omega
  · exact Nat.zero_le _

set_option maxRecDepth 100000 in
set_option maxHeartbeats 8000000 in
theorem FnWordBack_ok (A : Option Addr) (n c : Nat) (xs : List Int) (w : World) (hr : n ≤ 1048576 → RB w A n c xs) :
    Calls Try.prog 4 #[.slice A n c] w fun e w' => e = .returned (.bool true) ∧ Below w.heap.size w w' := by
  by_cases hb : n ≤ 1048576
  · have HR := hid (hr hb)
    clear hr
    go_enter Try.func4, Try.ntmps4
    go_wp2_with fail
    refine (DrawWordBack_ok A n c xs w HR.out).mono ?_
    rintro e w1 ⟨v0, ws, rfl, o1, hl, b1⟩
    obtain ⟨A0, c0, rfl, _, _⟩ := o1.ri2 (by omega)
    have O1 := hid o1
    have B1 := hid b1
    have HFa := hid (fun h => @back_facts ws h)
    have HLy := hid (wbV_len ws)
    have HLw := hid hl
    have HI := hid (fun b W h => implWordBack_ok b (.slice A0 ws.length c0) ws W h (by omega))
    have HS := hid (fun b W h => specWordBack_ok b (.slice A0 ws.length c0) ws W h (by omega))
    clear o1 b1 hl
    generalize hD : wordB ws = D at *
    generalize hY : wbV ws = ys at *
    have HD := hid hD
    have HY := hid hY
    clear hD hY
    have hne : (D != D) = false := by simp
    go_wp2_with fail
    refine (HI.out _ _ O1.out).mono ?_
    rintro e w2 ⟨v1, rfl, o2, b2⟩
    obtain ⟨A1, c1, rfl, _, _⟩ := o2.ri2 (by have := HLy.out; have := HLw.out; omega)
    have O2 := hid (O1.out.below b2)
    have P2 := hid o2
    have B2 := hid (below_trans B1.out b2)
    clear o2 b2
    go_wp2_with fail
    refine (HS.out _ _ O2.out).mono ?_
    rintro e w3 ⟨v2, rfl, o3, b3⟩
    obtain ⟨A2, c2, rfl, _, _⟩ := o3.ri2 (by have := HLy.out; have := HLw.out; omega)
    have O3 := hid (O2.out.below b3)
    have P3 := hid (P2.out.below b3)
    have Q3 := hid o3
    have B3 := hid (below_trans B2.out b3)
    clear o3 b3
    go_wp2_with fail
    refine (sameInts_ok A1 _ c1 ys A2 _ c2 ys _ (P3.out.get (by have := HLy.out; have := HLw.out; omega)) (Q3.out.get (by have := HLy.out; have := HLw.out; omega))).mono ?_
    rintro e w4 ⟨rfl, b4⟩
    rw [beq_self_eq_true]
    have O4 := hid (O3.out.below b4)
    have P4 := hid (P3.out.below b4)
    have Q4 := hid (Q3.out.below b4)
    have B4 := hid (below_trans B3.out b4)
    clear b4
    cases D
    · go_wp2_with fail
      refine (sameInts_ok A1 _ c1 ys A2 _ c2 ys _ (P4.out.get (by have := HLy.out; have := HLw.out; omega)) (Q4.out.get (by have := HLy.out; have := HLw.out; omega))).mono ?_
      rintro e w5 ⟨rfl, b5⟩
      rw [beq_self_eq_true]
      have B5 := hid (below_trans B4.out b5)
      clear b5
      go_wp2
      go_ret
      exact ⟨rfl, B5.out⟩
    · obtain ⟨f1, f2, f3, f4, f5⟩ := HFa.out rfl
      rw [← f1] at f2 f3 f4 f5
      have HX := hid (fun b W h => implWordBack_ok b (.slice A1 ys.length c1) ys W h (by have := HLy.out; have := HLw.out; omega))
      rw [f2, f3] at HX
      have HO1 := hid (fun W h => implWordOrder_ok A1 ys.length c1 ys W h)
      have HO2 := hid (fun W h => implWordOrder_ok A0 ws.length c0 ws W h)
      have HN1 := hid (fun W h => implWordLength_ok A1 ys.length c1 ys W h)
      have HN2 := hid (fun W h => implWordLength_ok A0 ws.length c0 ws W h)
      rw [f3, f4] at HO1
      rw [f3, f5] at HN1
      rw [HD.out] at HO2 HN2
      clear f1 f2 f3 f4 f5 HFa HI HS HD HY
      generalize ordI ws = od at *
      generalize lenI ws = ln at *
      go_wp2_with fail
      refine (HX.out _ _ P4.out).mono ?_
      rintro e w5 ⟨v3, rfl, o5, b5⟩
      obtain ⟨A3, c3, rfl, _, _⟩ := o5.ri2 (by have := HLw.out; omega)
      have O5 := hid (O4.out.below b5)
      have P5 := hid (P4.out.below b5)
      have X5 := hid o5
      have B5 := hid (below_trans B4.out b5)
      clear o5 b5
      go_wp2_with fail
      refine (HO1.out _ (P5.out.get (by have := HLy.out; have := HLw.out; omega))).mono ?_
      rintro e w6 ⟨rfl, b6⟩
      have O6 := hid (O5.out.below b6)
      have P6 := hid (P5.out.below b6)
      have X6 := hid (X5.out.below b6)
      have B6 := hid (below_trans B5.out b6)
      clear b6
      go_wp2_with fail
      refine (HO2.out _ (O6.out.get (by have := HLw.out; omega))).mono ?_
      rintro e w7 ⟨rfl, b7⟩
      have O7 := hid (O6.out.below b7)
      have P7 := hid (P6.out.below b7)
      have X7 := hid (X6.out.below b7)
      have B7 := hid (below_trans B6.out b7)
      clear b7
      go_wp2_with fail
      refine (HN1.out _ (P7.out.get (by have := HLy.out; have := HLw.out; omega))).mono ?_
      rintro e w8 ⟨rfl, b8⟩
      have O8 := hid (O7.out.below b8)
      have X8 := hid (X7.out.below b8)
      have B8 := hid (below_trans B7.out b8)
      clear b8
      go_wp2_with fail
      refine (HN2.out _ (O8.out.get (by have := HLw.out; omega))).mono ?_
      rintro e w9 ⟨rfl, b9⟩
      have O9 := hid (O8.out.below b9)
      have X9 := hid (X8.out.below b9)
      have B9 := hid (below_trans B8.out b9)
      clear b9
      go_wp2_with fail
      refine (sameInts_ok A3 _ c3 ws A0 _ c0 ws _ (X9.out.get (by have := HLw.out; omega)) (O9.out.get (by have := HLw.out; omega))).mono ?_
      rintro e w10 ⟨rfl, b10⟩
      rw [beq_self_eq_true]
      have B10 := hid (below_trans B9.out b10)
      clear b10
      go_wp2
      go_ret
      exact ⟨by simp, B10.out⟩
  · clear hr
    go_enter Try.func4, Try.ntmps4
    go_wp2
    go_ret
    exact ⟨rfl, Below.refl _ _⟩

end Go.Proofs.Ytcffaeepanhpfaa
