/-
  The law FnLength.
-/
import Derived.Test.YtcffaeepanhpfaaXo
import Derived.Test.YtcffaeepanhpfaaSm
namespace Go.Proofs.Ytcffaeepanhpfaa
open Go.RowKit
set_option linter.unusedVariables false
set_option linter.unusedSimpArgs false

/-- What the law asks of a word's length. -/
theorem length_facts {xs : List Int} (h : wordB xs = true) (hl : xs.length ≤ 20) : ∃ y z : Nat, lenI xs = (y : Int) ∧ lenI (xs ++ [2]) = (z : Int) ∧ wordB (xs ++ [2]) = true ∧ y ≤ xs.length ∧ y ≤ 36 ∧ (y + xs.length) % 2 = 0 ∧ (z = y + 1 ∨ y = z + 1) := by
  have hw := wordB_wd h
  have h2 : Wd (xs ++ [((2 : Nat) : Int)]) := hw.append (Wd.one (by omega))
  have h3 : wordB (xs ++ [2]) = true := wd_wordB h2 (by simp; omega)
  obtain ⟨k1, k2⟩ := lenW_len _ xs rfl hw
  refine ⟨lenW xs, lenW (xs ++ [2]), by rw [lenI, h]; rfl, by rw [lenI, h3]; rfl, h3, k1, lenW_36 xs, k2, ?_⟩
  exact lenW_step hw (show 2 < 6 by omega)

set_option maxRecDepth 100000 in
set_option maxHeartbeats 8000000 in
theorem FnLength_ok (A : Option Addr) (n c : Nat) (xs : List Int) (w : World) (hr : n ≤ 1048576 → RB w A n c xs) :
    Calls Try.prog 8 #[.slice A n c] w fun e w' => e = .returned (.bool true) ∧ Below w.heap.size w w' := by
  by_cases hb : n ≤ 1048576
  · have HR := hid (hr hb)
    clear hr
    go_enter Try.func8, Try.ntmps8
    go_wp2_with fail
    refine (DrawWordLength_ok A n c xs w HR.out).mono ?_
    rintro e w1 ⟨v0, ws, rfl, o1, hl, b1⟩
    obtain ⟨A0, c0, rfl, hA0, _⟩ := o1.ri2 (by omega)
    have O1 := hid o1
    have B1 := hid b1
    have HA0 := hid hA0
    have HFa := hid (fun h => @length_facts ws h hl)
    have HLw := hid hl
    have HI := hid (fun W h => implWordLength_ok A0 ws.length c0 ws W h)
    have HS := hid (fun W h => specWordLength_ok A0 ws.length c0 ws W h)
    have HX := hid (fun B m d W h => implWordLength_ok B m d (ws ++ [2]) W h)
    clear o1 b1 hl hA0
    generalize wordB ws = D at *
    have hne : (D != D) = false := by simp
    cases D
    · have hne3 : (lenI ws != lenI ws) = false := by simp
      generalize lenI ws = y at *
      go_wp2_with fail
      refine (HI.out _ (O1.out.get (by have := HLw.out; omega))).mono ?_
      rintro e w2 ⟨rfl, b2⟩
      have O2 := hid (O1.out.below b2)
      have B2 := hid (below_trans B1.out b2)
      clear b2
      go_wp2_with fail
      refine (HS.out _ (O2.out.get (by have := HLw.out; omega))).mono ?_
      rintro e w3 ⟨rfl, b3⟩
      have B3 := hid (below_trans B2.out b3)
      clear b3
      go_wp2
      go_ret
      exact ⟨by simp, B3.out⟩
    · obtain ⟨y, z, f1, f2, f3, f4, f5, f6, f7⟩ := HFa.out rfl
      rw [f1] at HI HS
      rw [f2, f3] at HX
      have hne3 : ((y : Int) != (y : Int)) = false := by simp
      have HF := hid (And.intro f4 (And.intro f5 (And.intro f6 f7)))
      clear HFa f1 f2 f3 f4 f5 f6 f7
      go_wp2_with fail
      refine (HI.out _ (O1.out.get (by have := HLw.out; omega))).mono ?_
      rintro e w2 ⟨rfl, b2⟩
      have O2 := hid (O1.out.below b2)
      have B2 := hid (below_trans B1.out b2)
      clear b2
      go_wp2_with fail
      refine (HS.out _ (O2.out.get (by have := HLw.out; omega))).mono ?_
      rintro e w3 ⟨rfl, b3⟩
      have O3 := hid (O2.out.below b3)
      have B3 := hid (below_trans B2.out b3)
      have E3 := hid (show OI (w3.alloc (.cells #[] 3)) w3.heap.size (.slice (some ⟨w3.heap.size, 0, none⟩) 0 0) [] from World.ownsRow_lit w3 #[] 0 (Nat.le_refl _) (by decide) rfl)
      have HLn := hid (show ([] : List Int).length + ws.length < 1000000 by have := HLw.out; simp; omega)
      have HLn2 := hid (show ws.length < 17592186044416 by have := HLw.out; omega)
      have RA := hid ((O3.out.get (by have := HLw.out; omega)).alloc (.cells #[] 3))
      clear b3
      go_wp2_with (at_builtin; first
        | (refine append_ints _ _ rfl rfl w3.heap.size _ [] ws A0 _ c0 rfl rfl E3.out RA.out HA0.out HLn.out (size_alloc (Nat.le_refl _) _) ?_; intro v' w4 hown hgrow; have HO4 := hid hown; have HG4 := hid (show World.grownBy _ w4 (some w3.heap.size) from hgrow); clear hown hgrow; rw [List.nil_append] at HO4)
        | (refine append_int _ _ rfl rfl w3.heap.size _ ws 2 ⟨w4.heap.size, 0, none⟩ rfl rfl (HO4.out.alloc _) (World.cell?_alloc_at _ _ _ _ rfl) HLn2.out (size_alloc (Nat.le_trans (by simp) HG4.out.size) _) ?_; intro v'' w5 hown hgrow; have HO5 := hid hown; have HG5 := hid hgrow; clear hown hgrow))
      all_goals skip
      have B4 := hid ((below_trans B3.out (below_alloc w3 (.cells #[] 3))).grown HG4.out (by have := B3.out.size; simp; omega) (fun k hk => by cases hk; exact B3.out.size))
      have B5 := hid (below_append B4.out B4.out.size (HO4.out.mono B3.out.size) HG5.out)
      obtain ⟨A5, c5, rfl, _, _⟩ := HO5.out.ri2 (by have := HLw.out; simp; omega)
      have HLn3 := hid (show (ws ++ [2]).length ≤ 17592186044416 by have := HLw.out; simp; omega)
      refine (HX.out _ _ _ _ (HO5.out.get HLn3.out)).mono ?_
      rintro e w6 ⟨rfl, b6⟩
      have B6 := hid (below_trans B5.out b6)
      obtain ⟨k1, k2, k3, k4⟩ := HF.out
      have q1 : (y : Int) ≤ (ws.length : Int) := by omega
      have q2 : (y : Int) ≤ 36 := by omega
      have q3 : ((y : Int) + (ws.length : Int)).tmod 2 = 0 := by rw [Int.tmod_eq_emod_of_nonneg (by omega)]; omega
      have q0 : (0 : Int) ≤ (y : Int) := by omega
      have q7 : ws.length ≤ 20 := HLw.out
      clear b6 k1 k2 k3
      generalize hm : ws.length = m at *
      have HM := hid hm
      clear hm
      rcases k4 with k4 | k4
      · have q4 : (z : Int) = (y : Int) + 1 := by omega
        have q5 : ((z : Int) == (y : Int) + 1) = true := by simp; omega
        have HQ := hid q4
        clear k4 q4
        go_wp2
        go_ret
        exact ⟨by simp [q0, q1, q2, q3, q5], B6.out⟩
      · have q4 : (z : Int) = (y : Int) - 1 := by omega
        have q5 : ((z : Int) == (y : Int) + 1) = false := by simp; omega
        have q6 : ((z : Int) == (y : Int) - 1) = true := by simp; omega
        have HQ := hid q4
        clear k4 q4
        go_wp2
        go_ret
        exact ⟨by simp [q0, q1, q2, q3, q5, q6], B6.out⟩
  · clear hr
    go_enter Try.func8, Try.ntmps8
    go_wp2
    go_ret
    exact ⟨rfl, Below.refl _ _⟩

end Go.Proofs.Ytcffaeepanhpfaa
