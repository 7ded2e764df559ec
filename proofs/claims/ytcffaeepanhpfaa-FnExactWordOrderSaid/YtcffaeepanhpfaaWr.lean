/-
  Contracts: the order of a word, of both sides.
-/
import Derived.Test.YtcffaeepanhpfaaWq
import Derived.Test.YtcffaeepanhpfaaMi
namespace Go.Proofs.Ytcffaeepanhpfaa
open Go.RowKit
set_option linter.unusedVariables false
set_option linter.unusedSimpArgs false

theorem allTo_succ (f : Nat → Nat) (k : Nat) : (List.range (k + 1)).all (fun k => f k == k) = ((List.range k).all (fun k => f k == k) && (f k == k)) := by
  rw [List.range_succ, List.all_append]
  simp

set_option maxRecDepth 100000 in
set_option maxHeartbeats 8000000 in
theorem implWordOrder_ok (A : Option Addr) (n c : Nat) (xs : List Int) (w : World) (hr : RI w A n xs) :
    Calls Try.prog 20 #[.slice A n c] w fun e w' => e = .returned (.tuple #[.int .i64 (ordI xs), .bool (wordB xs)]) ∧ Below w.heap.size w w' := by
  have HR := hid hr
  have HC := hid (isWord_ok A n c xs w hr)
  have HW := hid (show ordI xs = if wordB xs then (ordW xs : Int) else 0 from rfl)
  cases hwd : wordB xs
  · have HF := hid (show ordI xs = 0 by rw [HW.out, hwd]; rfl)
    rw [hwd] at HC
    clear hwd HW hr
    go_enter Try.func20, Try.ntmps20
    go_wp2_with fail
    refine HC.out.mono ?_
    rintro e w1 ⟨rfl, hw⟩
    subst hw
    go_wp2
    go_ret2
    exact ⟨by rw [HF.out]; rfl, Below.refl _ _⟩
  · have HF := hid (show ordI xs = (ordW xs : Int) by rw [HW.out, hwd]; rfl)
    have hWd := wordB_wd hwd
    have HL := hid (wordLines_ok A n c xs w hr hWd)
    rw [hwd] at HC
    have hord := ordW_ok hWd
    have HOrd := hid hord.2
    have HSrt := hid (fun m => itV_sorted hWd m)
    have HLt := hid (fun m k (hk : k < 27) => itN_lt (fun k hk => wL_lt hWd hk) m k hk)
    have h12 : ordW xs ≤ 12 := hord.1.2.1
    have h01 : 1 ≤ ordW xs := hord.1.1
    clear hwd HW hr hord hWd
    generalize ordW xs = N at *
    go_enter Try.func20, Try.ntmps20
    go_wp2_with fail
    refine HC.out.mono ?_
    rintro e w1 ⟨rfl, hw⟩
    subst hw
    go_wp2_with fail
    refine HL.out.mono ?_
    rintro e w1 ⟨v1, rfl, o1, b1⟩
    obtain ⟨g1, c1, rfl, _, _, _⟩ := o1.shape (by rw [wlV, wlTo_len]; omega)
    have hl27 : (wlV xs).length = 27 := wlTo_len xs 27
    rw [hl27] at o1
    rw [hl27]
    have O1 := hid (o1.alloc (.cells #[] 3))
    have B1 := hid (below_trans b1 (below_alloc w1 (.cells #[] 3)))
    have R1 := hid (show RI w1 (some ⟨g1, 0, none⟩) 27 (wlV xs) from by
      obtain ⟨A', c', e, hr⟩ := o1.ri (by omega)
      injection e with e1 e2 e3
      rw [← e1, hl27] at hr
      exact hr)
    have hg1 : g1 < w1.heap.size := o1.lt' (by rfl)
    have HLn := hid (show ([] : List Int).length + 27 < 1000000 by simp)
    have E1 := hid (show OI (w1.alloc (.cells #[] 3)) w1.heap.size (.slice (some ⟨w1.heap.size, 0, none⟩) 0 0) [] from World.ownsRow_lit w1 #[] 0 (Nat.le_refl _) (by decide) rfl)
    have hAn : (some ⟨g1, 0, none⟩ : Option Addr) = none → c1 = 0 := fun h => by cases h
    have HAn := hid hAn
    have hs1 : w.heap.size ≤ w1.heap.size := b1.size
    clear o1 b1 hAn
    go_wp2_with (at_builtin; refine append_ints _ _ rfl rfl w1.heap.size _ [] (wlV xs) (some ⟨g1, 0, none⟩) 27 c1 rfl rfl E1.out (R1.out.alloc _) HAn.out HLn.out (size_alloc (Nat.le_refl _) _) ?_; intro v' w2 hown hgrow; have HO2 := hid hown; have HG2 := hid (show World.grownBy _ w2 (some w1.heap.size) from hgrow); clear hown hgrow)
    rw [List.nil_append, ← itV_one] at HO2
    obtain ⟨g2, c2, rfl, hgb2, _, _⟩ := HO2.out.shape (by rw [itV_len]; omega)
    rw [itV_len]
    have hO2 := HO2.out
    rw [itV_len] at hO2
    have P1 := hid (O1.out.keepLo E1.out (fun k hk => by have : g1 = k := by simpa [Value.ownBlock] using hk
                                                         omega) HG2.out)
    have B2 := hid (B1.out.grown HG2.out (by simp; omega) (fun k hk => by cases hk; omega))
    have P2 := hid hO2
    have hne : g1 ≠ g2 := by omega
    clear hO2 HG2 O1 E1 R1 B1 HO2
    go_wp2
    go_loopg [6] 11 (fun gk t wr => ∃ m : Nat, 1 ≤ m ∧ m ≤ N ∧ gk = 12 - m ∧ t = .int .i64 m ∧ (∀ j, 1 ≤ j → j < m → isId (itN (wL xs) j) = false) ∧ OI wr w.heap.size (.slice (some ⟨g1, 0, none⟩) 27 c1) (wlV xs) ∧ OI wr w1.heap.size (.slice (some ⟨g2, 0, none⟩) 27 c2) (itV xs m) ∧ Below w.heap.size w wr)
    case atStart => exact ⟨1, by omega, by omega, by omega, rfl, fun j h1 h2 => by omega, P1.out, P2.out, B2.out⟩
    case round =>
      obtain ⟨m, hm1, hm2, hgk, rfl, hno, ho1, ho2, hb⟩ := hrel
      have HGk := hid hgk
      have HNo := hid hno
      have Q1 := hid ho1
      have Q2 := hid ho2
      have HB := hid hb
      have r2 := ho2.ri (by rw [itV_len]; omega)
      obtain ⟨A', c', e', r2⟩ := r2
      rw [itV_len] at r2 e'
      injection e' with e1 e2 e3
      subst e1 e3
      have R2 := hid r2
      clear hgk hno ho1 ho2 hb e2 r2
      go_wp2_with fail
      refine (IsSorted_ok _ 27 c2 _ _ R2.out).mono ?_
      rintro e w3 ⟨rfl, md, rfl⟩
      rw [HSrt.out m]
      cases hid' : isId (itN (wL xs) m)
      · have hlt : m < N := by
          rcases Nat.lt_or_eq_of_le hm2 with h | h
          · exact h
          · subst h; rw [HOrd.out.1] at hid'; cases hid'
        have HId := hid hid'
        clear hid'
        go_wp2
        go_loopg [24] 27 (fun gk2 t wq => ∃ k : Nat, k ≤ 27 ∧ gk2 = 27 - k ∧ t = .int .i64 k ∧ OI wq w.heap.size (.slice (some ⟨g1, 0, none⟩) 27 c1) (wlV xs) ∧ OI wq w1.heap.size (.slice (some ⟨g2, 0, none⟩) 27 c2) (itTo xs m k) ∧ Below w.heap.size w wq)
        case atStart => exact ⟨0, by omega, by omega, rfl, Q1.out, by rw [itTo_zero]; exact Q2.out, below_drewN HB.out _⟩
        case round =>
          obtain ⟨k, hk, hgk2, rfl, ho1, ho2, hb⟩ := hrel
          have HGk2 := hid hgk2
          have S1 := hid ho1
          have S2 := hid ho2
          have HB3 := hid hb
          clear hgk2 ho1 ho2 hb
          by_cases hlt2 : k < 27
          · obtain ⟨_, _, hs1', _, _, hcell1⟩ := S1.out.shape (by rw [wlV, wlTo_len]; omega)
            obtain ⟨_, _, hs2', _, _, hcell2⟩ := S2.out.shape (by rw [itTo_len]; omega)
            injection hs1' with a1 a2 a3
            injection a1 with a1
            injection a1 with a1
            injection hs2' with d1 d2 d3
            injection d1 with d1
            injection d1 with d1
            subst a1 d1
            have x2 := hcell2 k (by rw [itTo_len]; omega)
            rw [itTo_get xs m hlt2] at x2
            have hx27 := HLt.out m k hlt2
            have HE := hid (show ((itN (wL xs) (m + 1) k : Nat) : Int) = ((wL xs (itN (wL xs) m k) : Nat) : Int) from rfl)
            have x1 := hcell1 (itN (wL xs) m k) (by rw [wlV, wlTo_len]; omega)
            rw [wlV, wlTo_get xs hx27, ← HE.out] at x1
            have st := S2.out.store' (by rw [itTo_len]) k ((itN (wL xs) (m + 1) k : Nat) : Int)
            rw [itTo_set xs m hlt2] at st
            have S3 := hid st.1
            have P3 := hid (S1.out.keepLo S2.out (fun k hk => by have : g1 = k := by simpa [Value.ownBlock] using hk
                                                                 omega) st.2)
            have HB4 := hid (HB3.out.grown st.2 HB3.out.size (fun k hk => by have : g2 = k := by simpa [Value.ownBlock] using hk
                                                                             omega))
            have f2 := S2.out.frozen' (by rw [itTo_len]) k
            clear st hcell1 hcell2 a2 a3 d2 d3 HE
            generalize itN (wL xs) (m + 1) k = z at *
            generalize itN (wL xs) m k = y at *
            go_wp2
            go_roundg (27 - (k + 1))
            case measure => have := HGk2.out; omega
            case rel => exact ⟨k + 1, by omega, rfl, by go_num, P3.out, S3.out, HB4.out⟩
          · obtain rfl : k = 27 := by omega
            have S3 := hid (show OI wr w1.heap.size (.slice (some ⟨g2, 0, none⟩) 27 c2) (itV xs (m + 1)) from by rw [← itTo_all]; exact S2.out)
            go_wp2
            go_roundg (12 - (m + 1))
            case measure => have := HGk.out; omega
            case rel => exact ⟨m + 1, by omega, by omega, rfl, by go_num, fun j h1 h2 => by
              by_cases hj : j = m
              · subst hj; exact HId.out
              · exact HNo.out j h1 (by omega), S1.out, S3.out, HB3.out⟩
      · have hmN : m = N := by
          rcases Nat.lt_or_eq_of_le hm2 with h | h
          · have := HOrd.out.2 m hm1 h
            rw [hid'] at this
            cases this
          · exact h
        have HMN := hid hmN
        clear hid' hmN
        go_wp2
        go_ret2
        exact ⟨by rw [HF.out, HMN.out]; rfl, below_drewN HB.out _⟩

set_option maxRecDepth 100000 in
set_option maxHeartbeats 8000000 in
theorem specWordOrder_ok (A : Option Addr) (n c : Nat) (xs : List Int) (w : World) (hr : RI w A n xs) :
    Calls Try.prog 24 #[.slice A n c] w fun e w' => e = .returned (.tuple #[.int .i64 (ordI xs), .bool (wordB xs)]) ∧ Below w.heap.size w w' := by
  have HL := hid (specWordLines_ok A n c xs w hr)
  have HW := hid (show ordI xs = if wordB xs then (ordW xs : Int) else 0 from rfl)
  have HW2 := hid (show wlR xs = if wordB xs then wlV xs else [] from rfl)
  cases hwd : wordB xs
  · have HF := hid (show ordI xs = 0 by rw [HW.out, hwd]; rfl)
    rw [hwd] at HL
    clear hwd HW hr
    go_enter Try.func24, Try.ntmps24
    go_wp2_with fail
    refine HL.out.mono ?_
    rintro e w1 ⟨v1, rfl, _, b1⟩
    have B1 := hid b1
    clear b1
    go_wp2
    go_ret2
    exact ⟨by rw [HF.out]; rfl, B1.out⟩
  · have HF := hid (show ordI xs = (ordW xs : Int) by rw [HW.out, hwd]; rfl)
    have hWd := wordB_wd hwd
    rw [hwd, show wlR xs = wlV xs by rw [HW2.out, hwd]; rfl] at HL
    have hord := ordW_ok hWd
    have HOrd := hid hord.2
    have HLt := hid (fun m k (hk : k < 27) => itN_lt (fun k hk => wL_lt hWd hk) m k hk)
    have h12 : ordW xs ≤ 12 := hord.1.2.1
    have h01 : 1 ≤ ordW xs := hord.1.1
    clear hwd HW hr hord hWd HW2
    generalize ordW xs = N at *
    go_enter Try.func24, Try.ntmps24
    go_wp2_with fail
    refine HL.out.mono ?_
    rintro e w1 ⟨v1, rfl, o1, b1⟩
    obtain ⟨g1, c1, rfl, _, _, _⟩ := o1.shape (by rw [wlV, wlTo_len]; omega)
    have hl27 : (wlV xs).length = 27 := wlTo_len xs 27
    rw [hl27] at o1
    rw [hl27]
    have O1 := hid (o1.alloc (.cells #[] 3))
    have B1 := hid (below_trans b1 (below_alloc w1 (.cells #[] 3)))
    have R1 := hid (show RI w1 (some ⟨g1, 0, none⟩) 27 (wlV xs) from by
      obtain ⟨A', c', e, hr⟩ := o1.ri (by omega)
      injection e with e1 e2 e3
      rw [← e1, hl27] at hr
      exact hr)
    have hg1 : g1 < w1.heap.size := o1.lt' (by rfl)
    have HLn := hid (show ([] : List Int).length + 27 < 1000000 by simp)
    have E1 := hid (show OI (w1.alloc (.cells #[] 3)) w1.heap.size (.slice (some ⟨w1.heap.size, 0, none⟩) 0 0) [] from World.ownsRow_lit w1 #[] 0 (Nat.le_refl _) (by decide) rfl)
    have hAn : (some ⟨g1, 0, none⟩ : Option Addr) = none → c1 = 0 := fun h => by cases h
    have HAn := hid hAn
    have hs1 : w.heap.size ≤ w1.heap.size := b1.size
    clear o1 b1 hAn
    go_wp2_with (at_builtin; refine append_ints _ _ rfl rfl w1.heap.size _ [] (wlV xs) (some ⟨g1, 0, none⟩) 27 c1 rfl rfl E1.out (R1.out.alloc _) HAn.out HLn.out (size_alloc (Nat.le_refl _) _) ?_; intro v' w2 hown hgrow; have HO2 := hid hown; have HG2 := hid (show World.grownBy _ w2 (some w1.heap.size) from hgrow); clear hown hgrow)
    rw [List.nil_append, ← itV_one] at HO2
    obtain ⟨g2, c2, rfl, hgb2, _, _⟩ := HO2.out.shape (by rw [itV_len]; omega)
    rw [itV_len]
    have hO2 := HO2.out
    rw [itV_len] at hO2
    have P1 := hid (O1.out.keepLo E1.out (fun k hk => by have : g1 = k := by simpa [Value.ownBlock] using hk
                                                         omega) HG2.out)
    have B2 := hid (B1.out.grown HG2.out (by simp; omega) (fun k hk => by cases hk; omega))
    have P2 := hid hO2
    have hne : g1 ≠ g2 := by omega
    clear hO2 HG2 O1 E1 R1 B1 HO2
    go_wp2
    go_loopg [7] 11 (fun gk t wr => ∃ m : Nat, 1 ≤ m ∧ m ≤ N ∧ gk = 12 - m ∧ t = .int .i64 m ∧ (∀ j, 1 ≤ j → j < m → isId (itN (wL xs) j) = false) ∧ OI wr w.heap.size (.slice (some ⟨g1, 0, none⟩) 27 c1) (wlV xs) ∧ OI wr w1.heap.size (.slice (some ⟨g2, 0, none⟩) 27 c2) (itV xs m) ∧ Below w.heap.size w wr)
    case atStart => exact ⟨1, by omega, by omega, by omega, rfl, fun j h1 h2 => by omega, P1.out, P2.out, B2.out⟩
    case round =>
      obtain ⟨m, hm1, hm2, hgk, rfl, hno, ho1, ho2, hb⟩ := hrel
      have HGk := hid hgk
      have HNo := hid hno
      have Q1 := hid ho1
      have Q2 := hid ho2
      have HB := hid hb
      clear hgk hno ho1 ho2 hb
      go_wp2
      go_loopg [8, 9] 27 (fun gk2 s t wq => ∃ k : Nat, k ≤ 27 ∧ gk2 = 27 - k ∧ t = .int .i64 k ∧ s = .bool ((List.range k).all (fun k => itN (wL xs) m k == k)) ∧ wq = wr)
      case atStart => exact ⟨0, by omega, by omega, rfl, rfl, rfl⟩
      case round =>
        obtain ⟨k, hk, hgk2, rfl, rfl, rfl⟩ := hrel
        have HGk2 := hid hgk2
        clear hgk2
        by_cases hlt2 : k < 27
        · obtain ⟨_, _, hs2', _, _, hcell2⟩ := Q2.out.shape (by rw [itV_len]; omega)
          injection hs2' with d1 d2 d3
          injection d1 with d1
          injection d1 with d1
          subst d1
          have x2 := hcell2 k (by rw [itV_len]; omega)
          rw [itV_get xs m hlt2] at x2
          have HS := hid (allTo_succ (itN (wL xs) m) k)
          have heq : (((itN (wL xs) m k : Nat) : Int) == (k : Int)) = (itN (wL xs) m k == k) := by
            rw [Bool.eq_iff_iff]; simp; omega
          clear hcell2 d2 d3
          generalize (List.range k).all (fun k => itN (wL xs) m k == k) = q at *
          generalize itN (wL xs) m k = y at *
          cases q
          · go_wp2
            go_roundg (27 - (k + 1))
            case measure => have := HGk2.out; omega
            case rel => exact ⟨k + 1, by omega, rfl, by go_num, by rw [HS.out]; rfl, rfl⟩
          · go_wp2
            go_roundg (27 - (k + 1))
            case measure => have := HGk2.out; omega
            case rel => exact ⟨k + 1, by omega, rfl, by go_num, by rw [HS.out, ← heq]; rfl, rfl⟩
        · obtain rfl : k = 27 := by omega
          have HIs := hid (show isId (itN (wL xs) m) = (List.range 27).all (fun k => itN (wL xs) m k == k) from rfl)
          rw [← HIs.out]
          clear HGk2
          cases hid' : isId (itN (wL xs) m)
          · have hlt : m < N := by
              rcases Nat.lt_or_eq_of_le hm2 with h | h
              · exact h
              · subst h; rw [HOrd.out.1] at hid'; cases hid'
            have HId := hid hid'
            clear hid'
            go_wp2
            go_loopg [10] 27 (fun gk2 t wq => ∃ k : Nat, k ≤ 27 ∧ gk2 = 27 - k ∧ t = .int .i64 k ∧ OI wq w.heap.size (.slice (some ⟨g1, 0, none⟩) 27 c1) (wlV xs) ∧ OI wq w1.heap.size (.slice (some ⟨g2, 0, none⟩) 27 c2) (itTo xs m k) ∧ Below w.heap.size w wq)
            case atStart => exact ⟨0, by omega, by omega, rfl, Q1.out, by rw [itTo_zero]; exact Q2.out, HB.out⟩
            case round =>
              obtain ⟨k, hk, hgk2, rfl, ho1, ho2, hb⟩ := hrel
              have HGk2 := hid hgk2
              have S1 := hid ho1
              have S2 := hid ho2
              have HB3 := hid hb
              clear hgk2 ho1 ho2 hb
              by_cases hlt2 : k < 27
              · obtain ⟨_, _, hs1', _, _, hcell1⟩ := S1.out.shape (by rw [wlV, wlTo_len]; omega)
                obtain ⟨_, _, hs2', _, _, hcell2⟩ := S2.out.shape (by rw [itTo_len]; omega)
                injection hs1' with a1 a2 a3
                injection a1 with a1
                injection a1 with a1
                injection hs2' with d1 d2 d3
                injection d1 with d1
                injection d1 with d1
                subst a1 d1
                have x2 := hcell2 k (by rw [itTo_len]; omega)
                rw [itTo_get xs m hlt2] at x2
                have hx27 := HLt.out m k hlt2
                have HE := hid (show ((itN (wL xs) (m + 1) k : Nat) : Int) = ((wL xs (itN (wL xs) m k) : Nat) : Int) from rfl)
                have x1 := hcell1 (itN (wL xs) m k) (by rw [wlV, wlTo_len]; omega)
                rw [wlV, wlTo_get xs hx27, ← HE.out] at x1
                have st := S2.out.store' (by rw [itTo_len]) k ((itN (wL xs) (m + 1) k : Nat) : Int)
                rw [itTo_set xs m hlt2] at st
                have S3 := hid st.1
                have P3 := hid (S1.out.keepLo S2.out (fun k hk => by have : g1 = k := by simpa [Value.ownBlock] using hk
                                                                     omega) st.2)
                have HB4 := hid (HB3.out.grown st.2 HB3.out.size (fun k hk => by have : g2 = k := by simpa [Value.ownBlock] using hk
                                                                                 omega))
                have f2 := S2.out.frozen' (by rw [itTo_len]) k
                clear st hcell1 hcell2 a2 a3 d2 d3 HE
                generalize itN (wL xs) (m + 1) k = z at *
                generalize itN (wL xs) m k = y at *
                go_wp2
                go_roundg (27 - (k + 1))
                case measure => have := HGk2.out; omega
                case rel => exact ⟨k + 1, by omega, rfl, by go_num, P3.out, S3.out, HB4.out⟩
              · obtain rfl : k = 27 := by omega
                have S3 := hid (show OI wr w1.heap.size (.slice (some ⟨g2, 0, none⟩) 27 c2) (itV xs (m + 1)) from by rw [← itTo_all]; exact S2.out)
                go_wp2
                go_roundg (12 - (m + 1))
                case measure => have := HGk.out; omega
                case rel => exact ⟨m + 1, by omega, by omega, rfl, by go_num, fun j h1 h2 => by
                  by_cases hj : j = m
                  · subst hj; exact HId.out
                  · exact HNo.out j h1 (by omega), S1.out, S3.out, HB3.out⟩
          · have hmN : m = N := by
              rcases Nat.lt_or_eq_of_le hm2 with h | h
              · have := HOrd.out.2 m hm1 h
                rw [hid'] at this
                cases this
              · exact h
            have HMN := hid hmN
            clear hid' hmN
            go_wp2
            go_ret2
            exact ⟨by rw [HF.out, HMN.out]; rfl, HB.out⟩

end Go.Proofs.Ytcffaeepanhpfaa
