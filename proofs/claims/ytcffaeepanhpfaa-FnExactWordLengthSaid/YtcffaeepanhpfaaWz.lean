/-
  Contracts: the length of a word, of both sides.
-/
import Derived.Test.YtcffaeepanhpfaaPs
import Derived.Test.YtcffaeepanhpfaaLn
namespace Go.Proofs.Ytcffaeepanhpfaa
open Go.RowKit
set_option linter.unusedVariables false
set_option linter.unusedSimpArgs false

def lenP (xs : List Int) (j : Nat) : Bool := posR j && !posR (wR xs j)
def lenTo (xs : List Int) (j : Nat) : Nat := (List.range j).countP (lenP xs)
theorem lenTo_succ (xs : List Int) (j : Nat) : lenTo xs (j + 1) = lenTo xs j + if lenP xs j then 1 else 0 := by
  rw [lenTo, List.range_succ, List.countP_append, lenTo, List.countP_cons, List.countP_nil, Nat.zero_add]
theorem lenTo_72 (xs : List Int) : lenTo xs 72 = lenW xs := rfl
theorem lenTo_le (xs : List Int) (j : Nat) : lenTo xs j ≤ j := by
  have := List.countP_le_length (p := lenP xs) (l := List.range j)
  rwa [List.length_range] at this
def lenI (xs : List Int) : Int := if wordB xs then (lenW xs : Int) else 0
theorem root_bd {xs : List Int} (h : Wd xs) {k : Nat} (hk : k < 72) (m : Nat) : Bd 1000 (actF (rootC k) (xs.take m)) := by
  rw [actF_root (h.take m) hk]
  exact validB_bd (rootC_valid (wR_lt (h.take m) hk))
theorem waR_root {xs : List Int} (h : wordB xs = true) {k : Nat} (hk : k < 72) : waR xs (rootC k) = some (rootC (wR xs k)) := by
  rw [waR, h, rootC_valid hk]
  exact runW_root (wordB_wd h) hk
theorem rootC_7 {k : Nat} (h : k < 72) : (rootC k).length = 7 := roots_7 _ (rootC_in h)

set_option maxRecDepth 100000 in
set_option maxHeartbeats 8000000 in
theorem implWordLength_ok (A : Option Addr) (n c : Nat) (xs : List Int) (w : World) (hr : RI w A n xs) :
    Calls Try.prog 21 #[.slice A n c] w fun e w' => e = .returned (.tuple #[.int .i64 (lenI xs), .bool (wordB xs)]) ∧ Below w.heap.size w w' := by
  have HR := hid hr
  have HC := hid (isWord_ok A n c xs w hr)
  have HW := hid (show lenI xs = if wordB xs then (lenW xs : Int) else 0 from rfl)
  cases hwd : wordB xs
  · have HF := hid (show lenI xs = 0 by rw [HW.out, hwd]; rfl)
    rw [hwd] at HC
    clear hwd HW hr
    go_enter Try.func21, Try.ntmps21
    go_wp2_with fail
    refine HC.out.mono ?_
    rintro e w1 ⟨rfl, hw⟩
    subst hw
    go_wp2
    go_ret2
    exact ⟨by rw [HF.out]; rfl, Below.refl _ _⟩
  · have HF := hid (show lenI xs = (lenW xs : Int) by rw [HW.out, hwd]; rfl)
    have HWd := hid (wordB_wd hwd)
    rw [hwd] at HC
    clear hwd HW hr
    go_enter Try.func21, Try.ntmps21
    go_wp2_with fail
    refine HC.out.mono ?_
    rintro e w1 ⟨rfl, hw⟩
    subst hw
    go_wp2_with fail
    refine (rootList_ok _).mono ?_
    rintro e w5 ⟨v5, rfl, o5, b5⟩
    obtain ⟨A5, c5, rfl, r5⟩ := o5.rc (by rw [roots_len]; omega)
    rw [roots_len] at r5
    rw [roots_len]
    have R5 := hid r5
    have B5 := hid b5
    clear o5 b5 r5
    go_wp2
    go_loopg [4, 12] 72 (fun gk s t wr => ∃ j : Nat, j ≤ 72 ∧ gk = 72 - j ∧ t = .int .i64 j ∧ s = .int .i64 ((lenTo xs j : Nat) : Int) ∧ RC wr A5 72 roots ∧ Below w.heap.size w wr)
    case atStart => exact ⟨0, by omega, rfl, rfl, rfl, R5.out, B5.out⟩
    case round =>
      obtain ⟨j, hj, hgj, rfl, rfl, hrc, hb⟩ := hrel
      have HGj := hid hgj
      have RJ := hid hrc
      have BJ := hid hb
      clear hgj hrc hb
      by_cases hjt : j < 72
      · obtain ⟨b, z0, z1, z2, z3, z4, z5, z6, rfl, hz, _, c0, c1, c2, c3, c4, c5', c6⟩ := RJ.out.at_ j hjt
        have hz' : rootC j = [z0, z1, z2, z3, z4, z5, z6] := hz
        have hpz := (pos_ok j hjt).2
        have hbz := validB_bd (rootC_valid hjt)
        have hac := actF_root HWd.out hjt
        have hbd := fun m (_ : m ≤ n) => root_bd HWd.out hjt m
        rw [hz'] at hpz hbz hac hbd
        have HPz := hid (fun W => isPositive_ok z0 z1 z2 z3 z4 z5 z6 W hbz)
        rw [hpz] at HPz
        have HAc := hid (fun W (h : RI W A n xs) => acted_ok A n c xs z0 z1 z2 z3 z4 z5 z6 W h HWd.out hbd)
        rw [hac] at HAc
        have hq72 := wR_lt HWd.out hjt
        have HSu := hid (lenTo_succ xs j)
        have HLp := hid (show lenP xs j = (posR j && !posR (wR xs j)) from rfl)
        have hle := lenTo_le xs j
        have hpy := (pos_ok _ hq72).2
        have hby := validB_bd (rootC_valid hq72)
        obtain ⟨y0, y1, y2, y3, y4, y5, y6, hy⟩ := seven (rootC_7 hq72)
        rw [hy] at HAc hpy hby
        have HYv := hid (show clsV [y0, y1, y2, y3, y4, y5, y6] = .agg #[.int .i64 y0, .int .i64 y1, .int .i64 y2, .int .i64 y3, .int .i64 y4, .int .i64 y5, .int .i64 y6] from rfl)
        have HPy := hid (fun W => isPositive_ok y0 y1 y2 y3 y4 y5 y6 W hby)
        rw [hpy] at HPy
        clear hz hz' hpz hbz hac hbd hpy hby hy hq72
        generalize posR (wR xs j) = q at *
        generalize lenTo xs j = u at *
        cases hp : posR j
        · rw [hp] at HPz HLp
          have HSv := hid (show lenTo xs (j + 1) = u by rw [HSu.out, HLp.out]; rfl)
          clear hp
          go_wp2_with fail
          refine (HPz.out _).mono ?_
          rintro e w6 ⟨rfl, b6⟩
          have hb6 := below_trans (below_alloc wr (.cells #[.int .i64 z0, .int .i64 z1, .int .i64 z2, .int .i64 z3, .int .i64 z4, .int .i64 z5, .int .i64 z6] 38)) b6
          have B6 := hid (below_trans BJ.out hb6)
          have R6 := hid (RJ.out.below hb6)
          clear b6 hb6 c0 c1 c2 c3 c4 c5' c6
          go_wp2
          go_roundg (72 - (j + 1))
          case measure => have := HGj.out; omega
          case rel => exact ⟨j + 1, by omega, rfl, by go_num, by rw [HSv.out], R6.out, B6.out⟩
        · rw [hp] at HPz HLp
          clear hp
          have Z5 := hid (CB.new wr 38 z0 z1 z2 z3 z4 z5 z6)
          go_wp2_with fail
          refine (HPz.out _).mono ?_
          rintro e w6 ⟨rfl, b6⟩
          have Z6 := hid (Z5.out.below b6)
          have hb6 := below_trans (below_alloc wr (.cells #[.int .i64 z0, .int .i64 z1, .int .i64 z2, .int .i64 z3, .int .i64 z4, .int .i64 z5, .int .i64 z6] 38)) b6
          have B6 := hid (below_trans BJ.out hb6)
          have R6 := hid (RJ.out.below hb6)
          clear b6 hb6 c0 c1 c2 c3 c4 c5' c6
          obtain ⟨x0, x1, x2, x3, x4, x5, x6⟩ := Z6.out.seven
          go_wp2_with fail
          refine (HAc.out _ (HR.out.below B6.out)).mono ?_
          rintro e w7 ⟨rfl, b7⟩
          rw [HYv.out]
          have B7 := hid (below_trans B6.out b7)
          have R7 := hid (R6.out.below b7)
          clear b7 x0 x1 x2 x3 x4 x5 x6
          go_wp2_with fail
          refine (HPy.out _).mono ?_
          rintro e w8 ⟨rfl, b8⟩
          have B8 := hid (below_trans B7.out b8)
          have R8 := hid (R7.out.below b8)
          clear b8
          cases q
          · have HSv := hid (show ((lenTo xs (j + 1) : Nat) : Int) = (u : Int) + 1 by rw [HSu.out, HLp.out]; rfl)
            go_wp2
            go_roundg (72 - (j + 1))
            case measure => have := HGj.out; omega
            case rel => exact ⟨j + 1, by omega, rfl, by go_num, by rw [HSv.out], R8.out, B8.out⟩
          · have HSv := hid (show lenTo xs (j + 1) = u by rw [HSu.out, HLp.out]; rfl)
            go_wp2
            go_roundg (72 - (j + 1))
            case measure => have := HGj.out; omega
            case rel => exact ⟨j + 1, by omega, rfl, by go_num, by rw [HSv.out], R8.out, B8.out⟩
      · obtain rfl : j = 72 := by omega
        have HE := hid (lenTo_72 xs)
        go_wp2
        go_ret2
        exact ⟨by rw [HF.out, ← HE.out]; rfl, BJ.out⟩

set_option maxRecDepth 100000 in
set_option maxHeartbeats 8000000 in
theorem specWordLength_ok (A : Option Addr) (n c : Nat) (xs : List Int) (w : World) (hr : RI w A n xs) :
    Calls Try.prog 25 #[.slice A n c] w fun e w' => e = .returned (.tuple #[.int .i64 (lenI xs), .bool (wordB xs)]) ∧ Below w.heap.size w w' := by
  have HR := hid hr
  have HC := hid (l3Word_ok A n c xs w hr)
  have HW := hid (show lenI xs = if wordB xs then (lenW xs : Int) else 0 from rfl)
  cases hwd : wordB xs
  · have HF := hid (show lenI xs = 0 by rw [HW.out, hwd]; rfl)
    rw [hwd] at HC
    clear hwd HW hr
    go_enter Try.func25, Try.ntmps25
    go_wp2_with fail
    refine HC.out.mono ?_
    rintro e w1 ⟨rfl, hw⟩
    subst hw
    go_wp2
    go_ret2
    exact ⟨by rw [HF.out]; rfl, Below.refl _ _⟩
  · have HF := hid (show lenI xs = (lenW xs : Int) by rw [HW.out, hwd]; rfl)
    have HWB := hid hwd
    have HWd := hid (wordB_wd hwd)
    rw [hwd] at HC
    clear hwd HW hr
    go_enter Try.func25, Try.ntmps25
    go_wp2_with fail
    refine HC.out.mono ?_
    rintro e w1 ⟨rfl, hw⟩
    subst hw
    go_wp2_with fail
    refine (l3Roots_ok _).mono ?_
    rintro e w5 ⟨v5, rfl, o5, b5⟩
    obtain ⟨A5, c5, rfl, r5⟩ := o5.rc (by rw [roots_len]; omega)
    rw [roots_len] at r5
    rw [roots_len]
    have R5 := hid r5
    have B5 := hid b5
    clear o5 b5 r5
    go_wp2
    go_loopg [4, 6] 72 (fun gk s t wr => ∃ j : Nat, j ≤ 72 ∧ gk = 72 - j ∧ t = .int .i64 j ∧ s = .int .i64 ((lenTo xs j : Nat) : Int) ∧ RC wr A5 72 roots ∧ Below w.heap.size w wr)
    case atStart => exact ⟨0, by omega, rfl, rfl, rfl, R5.out, B5.out⟩
    case round =>
      obtain ⟨j, hj, hgj, rfl, rfl, hrc, hb⟩ := hrel
      have HGj := hid hgj
      have RJ := hid hrc
      have BJ := hid hb
      clear hgj hrc hb
      by_cases hjt : j < 72
      · obtain ⟨b, z0, z1, z2, z3, z4, z5, z6, rfl, hz, _, c0, c1, c2, c3, c4, c5', c6⟩ := RJ.out.at_ j hjt
        have hz' : rootC j = [z0, z1, z2, z3, z4, z5, z6] := hz
        have hpz := (pos_ok j hjt).1
        have hwa := waR_root HWB.out hjt
        rw [hz'] at hpz hwa
        have HPz := hid (fun W => l3Positive_ok z0 z1 z2 z3 z4 z5 z6 W)
        rw [hpz] at HPz
        have HAc := hid (fun W (h : RI W A n xs) => specWordAct_ok A n c xs z0 z1 z2 z3 z4 z5 z6 W h)
        rw [hwa] at HAc
        have hq72 := wR_lt HWd.out hjt
        have HSu := hid (lenTo_succ xs j)
        have HLp := hid (show lenP xs j = (posR j && !posR (wR xs j)) from rfl)
        have hle := lenTo_le xs j
        have hpy := (pos_ok _ hq72).1
        obtain ⟨y0, y1, y2, y3, y4, y5, y6, hy⟩ := seven (rootC_7 hq72)
        rw [hy] at HAc hpy
        have HYv := hid (show clsV ((some [y0, y1, y2, y3, y4, y5, y6]).getD zeroC) = .agg #[.int .i64 y0, .int .i64 y1, .int .i64 y2, .int .i64 y3, .int .i64 y4, .int .i64 y5, .int .i64 y6] from rfl)
        have HPy := hid (fun W => l3Positive_ok y0 y1 y2 y3 y4 y5 y6 W)
        rw [hpy] at HPy
        clear hz hz' hpz hwa hpy hy hq72
        generalize posR (wR xs j) = q at *
        generalize lenTo xs j = u at *
        go_wp2_with fail
        refine (HAc.out _ (HR.out.below BJ.out)).mono ?_
        rintro e w6 ⟨rfl, b6⟩
        rw [HYv.out]
        have hb6 := below_trans b6 (below_alloc w6 (.cells #[.int .i64 y0, .int .i64 y1, .int .i64 y2, .int .i64 y3, .int .i64 y4, .int .i64 y5, .int .i64 y6] 38))
        have B6 := hid (below_trans BJ.out hb6)
        have R6 := hid (RJ.out.below hb6)
        have Y6 := hid (CB.new w6 38 y0 y1 y2 y3 y4 y5 y6)
        replace c0 := cell_below hb6 c0
        replace c1 := cell_below hb6 c1
        replace c2 := cell_below hb6 c2
        replace c3 := cell_below hb6 c3
        replace c4 := cell_below hb6 c4
        replace c5' := cell_below hb6 c5'
        replace c6 := cell_below hb6 c6
        clear b6 hb6
        cases hp : posR j
        · rw [hp] at HPz HLp
          have HSv := hid (show lenTo xs (j + 1) = u by rw [HSu.out, HLp.out]; rfl)
          clear hp
          go_wp2_with fail
          refine (HPz.out _).mono ?_
          rintro e w7 ⟨rfl, b7⟩
          have B7 := hid (below_trans B6.out b7)
          have R7 := hid (R6.out.below b7)
          clear b7 c0 c1 c2 c3 c4 c5' c6
          go_wp2
          go_roundg (72 - (j + 1))
          case measure => have := HGj.out; omega
          case rel => exact ⟨j + 1, by omega, rfl, by go_num, by rw [HSv.out], R7.out, B7.out⟩
        · rw [hp] at HPz HLp
          clear hp
          go_wp2_with fail
          refine (HPz.out _).mono ?_
          rintro e w7 ⟨rfl, b7⟩
          have B7 := hid (below_trans B6.out b7)
          have R7 := hid (R6.out.below b7)
          have Y7 := hid (Y6.out.below b7)
          clear b7 c0 c1 c2 c3 c4 c5' c6
          obtain ⟨x0, x1, x2, x3, x4, x5, x6⟩ := Y7.out.seven
          go_wp2_with fail
          refine (HPy.out _).mono ?_
          rintro e w8 ⟨rfl, b8⟩
          have B8 := hid (below_trans B7.out b8)
          have R8 := hid (R7.out.below b8)
          clear b8 x0 x1 x2 x3 x4 x5 x6
          cases q
          · have HSv := hid (show ((lenTo xs (j + 1) : Nat) : Int) = (u : Int) + 1 by rw [HSu.out, HLp.out]; rfl)
            go_wp2
            go_roundg (72 - (j + 1))
            case measure => have := HGj.out; omega
            case rel => exact ⟨j + 1, by omega, rfl, by go_num, by rw [HSv.out], R8.out, B8.out⟩
          · have HSv := hid (show lenTo xs (j + 1) = u by rw [HSu.out, HLp.out]; rfl)
            go_wp2
            go_roundg (72 - (j + 1))
            case measure => have := HGj.out; omega
            case rel => exact ⟨j + 1, by omega, rfl, by go_num, by rw [HSv.out], R8.out, B8.out⟩
      · obtain rfl : j = 72 := by omega
        have HE := hid (lenTo_72 xs)
        go_wp2
        go_ret2
        exact ⟨by rw [HF.out, ← HE.out]; rfl, BJ.out⟩

end Go.Proofs.Ytcffaeepanhpfaa
