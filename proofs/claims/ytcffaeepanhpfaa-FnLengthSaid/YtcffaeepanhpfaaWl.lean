/-
  Contracts: the index of a line's class; the lines to which a word moves all lines, of both sides.
-/
import Derived.Test.YtcffaeepanhpfaaWb
import Derived.Test.YtcffaeepanhpfaaK7
namespace Go.Proofs.Ytcffaeepanhpfaa
open Go.RowKit
set_option linter.unusedVariables false
set_option linter.unusedSimpArgs false

set_option maxRecDepth 100000 in
set_option maxHeartbeats 4000000 in
theorem implClassLine_ok (j : Nat) (hj : j < 27) (a0 a1 a2 a3 a4 a5 a6 : Int) (ha : lineC j = [a0, a1, a2, a3, a4, a5, a6]) (w : World) :
    Calls Try.prog 51 #[.agg #[.int .i64 a0, .int .i64 a1, .int .i64 a2, .int .i64 a3, .int .i64 a4, .int .i64 a5, .int .i64 a6]] w fun e w' => e = .returned (.int .i64 j) ∧ Below w.heap.size w w' := by
  have X0 := hid (CB.new w 38 a0 a1 a2 a3 a4 a5 a6)
  have B0 := hid (below_alloc w (.cells #[.int .i64 a0, .int .i64 a1, .int .i64 a2, .int .i64 a3, .int .i64 a4, .int .i64 a5, .int .i64 a6] 38))
  have HJ := hid ha
  clear ha
  go_enter Try.func51, Try.ntmps51
  go_wp2
  generalize w.alloc (.cells #[.int .i64 a0, .int .i64 a1, .int .i64 a2, .int .i64 a3, .int .i64 a4, .int .i64 a5, .int .i64 a6] 38) = W at *
  go_loopg [4] (j + 1) (fun gk t wr => ∃ k : Nat, k ≤ j ∧ gk = j + 1 - k ∧ t = .int .i64 k ∧ Below W.heap.size W wr)
  case atStart => exact ⟨0, by omega, rfl, rfl, Below.refl _ _⟩
  case round =>
    obtain ⟨k, hk, hgk, rfl, hb⟩ := hrel
    have HGk := hid hgk
    have HB := hid hb
    obtain ⟨x0, x1, x2, x3, x4, x5, x6⟩ := ext7 (X0.out.below hb)
    clear hgk hb
    have hlt : k < 27 := by omega
    obtain ⟨z0, z1, z2, z3, z4, z5, z6, hz⟩ := seven (lineC_7 k hlt)
    have HL := hid (fun W => lineClass_ok k hlt W)
    have hnd := lines_nodup k hlt j hj
    rw [hz, HJ.out] at hnd
    rw [hz] at HL
    have HZv := hid (show clsV [z0, z1, z2, z3, z4, z5, z6] = .agg #[.int .i64 z0, .int .i64 z1, .int .i64 z2, .int .i64 z3, .int .i64 z4, .int .i64 z5, .int .i64 z6] from rfl)
    rw [HZv.out] at HL
    have hql := run_eqlCls z0 z1 z2 z3 z4 z5 z6 a0 a1 a2 a3 a4 a5 a6
    rw [hnd] at hql
    have hgd := guardCls
    clear hnd hz
    cases hq : (k == j)
    · rw [hq] at hql
      have hkj : k < j := by have : ¬ k = j := by simpa using hq
                             omega
      have hkj2 : k < 27 := by omega
      clear hq hk
      go_wp2
      refine wp_region_ext (by kernel_rfl) (by kernel_rfl) ?_
      repeat (go_big_quiet_step ((go_at_call 52; exact ext_call (HL.out _))))
      refine wpQuiet_nil ?_
      rintro w5 ⟨⟨w6, b5⟩, hw⟩
      have hw' : w5 = w6 := hw
      clear hw
      subst hw'
      have B5 := hid (below_trans HB.out b5)
      clear b5 x0 x1 x2 x3 x4 x5 x6
      go_wp2
      go_roundg (j + 1 - (k + 1))
      case measure => have := HGk.out; omega
      case rel => exact ⟨k + 1, by omega, rfl, by go_num, B5.out⟩
    · rw [hq] at hql
      have HQ := hid hq
      clear hq hk
      go_wp2
      refine wp_region_ext (by kernel_rfl) (by kernel_rfl) ?_
      repeat (go_big_quiet_step ((go_at_call 52; exact ext_call (HL.out _))))
      refine wpQuiet_nil ?_
      rintro w5 ⟨⟨w6, b5⟩, hw⟩
      have hw' : w5 = w6 := hw
      clear hw
      subst hw'
      have B5 := hid (below_trans HB.out b5)
      clear b5 x0 x1 x2 x3 x4 x5 x6
      go_wp2
      go_ret
      exact ⟨by have : k = j := by simpa using HQ.out
                rw [this]; rfl, below_trans B0.out B5.out⟩

set_option maxRecDepth 100000 in
set_option maxHeartbeats 4000000 in
theorem specClassLine_ok (j : Nat) (hj : j < 27) (a0 a1 a2 a3 a4 a5 a6 : Int) (ha : lineC j = [a0, a1, a2, a3, a4, a5, a6]) (w : World) :
    Calls Try.prog 31 #[.agg #[.int .i64 a0, .int .i64 a1, .int .i64 a2, .int .i64 a3, .int .i64 a4, .int .i64 a5, .int .i64 a6]] w fun e w' => e = .returned (.int .i64 j) ∧ Below w.heap.size w w' := by
  have X0 := hid (CB.new w 38 a0 a1 a2 a3 a4 a5 a6)
  have B0 := hid (below_alloc w (.cells #[.int .i64 a0, .int .i64 a1, .int .i64 a2, .int .i64 a3, .int .i64 a4, .int .i64 a5, .int .i64 a6] 38))
  have HJ := hid ha
  clear ha
  go_enter Try.func31, Try.ntmps31
  go_wp2
  generalize w.alloc (.cells #[.int .i64 a0, .int .i64 a1, .int .i64 a2, .int .i64 a3, .int .i64 a4, .int .i64 a5, .int .i64 a6] 38) = W at *
  go_loopg [3] (j + 1) (fun gk t wr => ∃ k : Nat, k ≤ j ∧ gk = j + 1 - k ∧ t = .int .i64 k ∧ Below W.heap.size W wr)
  case atStart => exact ⟨0, by omega, rfl, rfl, Below.refl _ _⟩
  case round =>
    obtain ⟨k, hk, hgk, rfl, hb⟩ := hrel
    have HGk := hid hgk
    have HB := hid hb
    obtain ⟨x0, x1, x2, x3, x4, x5, x6⟩ := ext7 (X0.out.below hb)
    clear hgk hb
    have hlt : k < 27 := by omega
    obtain ⟨z0, z1, z2, z3, z4, z5, z6, hz⟩ := seven (lineC_7 k hlt)
    have HL := hid (fun W => l1Of_ok k hlt W)
    have hnd := lines_nodup k hlt j hj
    rw [hz, HJ.out] at hnd
    rw [hz] at HL
    have HZv := hid (show clsV [z0, z1, z2, z3, z4, z5, z6] = .agg #[.int .i64 z0, .int .i64 z1, .int .i64 z2, .int .i64 z3, .int .i64 z4, .int .i64 z5, .int .i64 z6] from rfl)
    rw [HZv.out] at HL
    have hql := run_eqlCls z0 z1 z2 z3 z4 z5 z6 a0 a1 a2 a3 a4 a5 a6
    rw [hnd] at hql
    have hgd := guardCls
    clear hnd hz
    cases hq : (k == j)
    · rw [hq] at hql
      have hkj : k < j := by have : ¬ k = j := by simpa using hq
                             omega
      have hkj2 : k < 27 := by omega
      clear hq hk
      go_wp2
      refine wp_region_ext (by kernel_rfl) (by kernel_rfl) ?_
      repeat (go_big_quiet_step ((go_at_call 30; exact ext_call (HL.out _))))
      refine wpQuiet_nil ?_
      rintro w5 ⟨⟨w6, b5⟩, hw⟩
      have hw' : w5 = w6 := hw
      clear hw
      subst hw'
      have B5 := hid (below_trans HB.out b5)
      clear b5 x0 x1 x2 x3 x4 x5 x6
      go_wp2
      go_roundg (j + 1 - (k + 1))
      case measure => have := HGk.out; omega
      case rel => exact ⟨k + 1, by omega, rfl, by go_num, B5.out⟩
    · rw [hq] at hql
      have HQ := hid hq
      clear hq hk
      go_wp2
      refine wp_region_ext (by kernel_rfl) (by kernel_rfl) ?_
      repeat (go_big_quiet_step ((go_at_call 30; exact ext_call (HL.out _))))
      refine wpQuiet_nil ?_
      rintro w5 ⟨⟨w6, b5⟩, hw⟩
      have hw' : w5 = w6 := hw
      clear hw
      subst hw'
      have B5 := hid (below_trans HB.out b5)
      clear b5 x0 x1 x2 x3 x4 x5 x6
      go_wp2
      go_ret
      exact ⟨by have : k = j := by simpa using HQ.out
                rw [this]; rfl, below_trans B0.out B5.out⟩

/-- The lines to which a word moves the first k lines. -/
def wlTo (xs : List Int) (k : Nat) : List Int := (List.range k).map (fun k => ((wL xs k : Nat) : Int))
def wlV (xs : List Int) : List Int := wlTo xs 27
theorem wlTo_len (xs : List Int) (k : Nat) : (wlTo xs k).length = k := by simp [wlTo]
theorem wlTo_succ (xs : List Int) (k : Nat) : wlTo xs (k + 1) = wlTo xs k ++ [((wL xs k : Nat) : Int)] := by simp [wlTo, List.range_succ]
theorem wlTo_get (xs : List Int) {k n : Nat} (h : k < n) : (wlTo xs n).getD k 0 = ((wL xs k : Nat) : Int) := by
  simp [wlTo, List.getD_eq_getElem?_getD, List.getElem?_map, List.getElem?_range h]
theorem line_bd {xs : List Int} (h : Wd xs) {k : Nat} (hk : k < 27) (m : Nat) : Bd 1000 (actF (lineC k) (xs.take m)) := by
  rw [actF_line (h.take m) hk]
  exact validB_bd (lineC_valid (wL_lt (h.take m) hk))

set_option maxRecDepth 100000 in
set_option maxHeartbeats 4000000 in
theorem wordLines_ok (A : Option Addr) (n c : Nat) (xs : List Int) (w : World) (hr : RI w A n xs) (hwd : Wd xs) :
    Calls Try.prog 33 #[.slice A n c] w fun e w' => ∃ v, e = .returned v ∧ OI w' w.heap.size v (wlV xs) ∧ Below w.heap.size w w' := by
  have HR := hid hr
  have HWd := hid hwd
  clear hr hwd
  go_enter Try.func33, Try.ntmps33
  go_wp2
  go_loopw [3, 6] (fun v t wr => ∃ k : Nat, k ≤ 27 ∧ t = .int .i64 k ∧ OI wr w.heap.size v (wlTo xs k) ∧ Below w.heap.size w wr) (fun _ t _ => 27 - (intOf t).toNat)
  case atStart => exact ⟨0, by omega, rfl, World.ownsRow_lit w #[] 0 (Nat.le_refl _) (by decide) rfl, below_alloc _ _⟩
  case round =>
    obtain ⟨k, hk, rfl, ho, hb⟩ := hrel
    have HO := hid ho
    have HB := hid hb
    clear ho hb
    by_cases hlt : k < 27
    · obtain ⟨z0, z1, z2, z3, z4, z5, z6, hz⟩ := seven (lineC_7 k hlt)
      have HL := hid (fun W => lineClass_ok k hlt W)
      rw [hz] at HL
      have HZv := hid (show clsV [z0, z1, z2, z3, z4, z5, z6] = .agg #[.int .i64 z0, .int .i64 z1, .int .i64 z2, .int .i64 z3, .int .i64 z4, .int .i64 z5, .int .i64 z6] from rfl)
      have hac := actF_line HWd.out hlt
      rw [hz] at hac
      have hbd := fun m (_ : m ≤ n) => line_bd HWd.out hlt m
      rw [hz] at hbd
      have HAc := hid (fun W (h : RI W A n xs) => acted_ok A n c xs z0 z1 z2 z3 z4 z5 z6 W h HWd.out hbd)
      rw [hac] at HAc
      have hL27 := wL_lt HWd.out hlt
      have HSu := hid (wlTo_succ xs k)
      have HLn := hid (show (wlTo xs k).length < 17592186044416 by rw [wlTo_len]; omega)
      generalize wL xs k = q at *
      obtain ⟨y0, y1, y2, y3, y4, y5, y6, hy⟩ := seven (lineC_7 q hL27)
      rw [hy] at HAc
      have HYv := hid (show clsV [y0, y1, y2, y3, y4, y5, y6] = .agg #[.int .i64 y0, .int .i64 y1, .int .i64 y2, .int .i64 y3, .int .i64 y4, .int .i64 y5, .int .i64 y6] from rfl)
      have HCl := hid (fun W => implClassLine_ok q hL27 y0 y1 y2 y3 y4 y5 y6 hy W)
      clear hz hac hbd hy
      go_wp2_with fail
      refine (HL.out _).mono ?_
      rintro e w1 ⟨rfl, b1⟩
      rw [HZv.out]
      have B1 := hid (below_trans HB.out b1)
      have O1 := hid (HO.out.below b1)
      clear b1
      go_wp2_with fail
      refine (HAc.out _ (HR.out.below B1.out)).mono ?_
      rintro e w2 ⟨rfl, b2⟩
      rw [HYv.out]
      have B2 := hid (below_trans B1.out b2)
      have O2 := hid (O1.out.below b2)
      clear b2
      go_wp2_with fail
      refine (HCl.out _).mono ?_
      rintro e w3 ⟨rfl, b3⟩
      have B3 := hid (below_trans B2.out b3)
      have O3 := hid (O2.out.below b3)
      clear b3
      go_wp2_with (at_builtin; refine append_int _ _ rfl rfl w.heap.size _ _ (q : Int) ⟨w3.heap.size, 0, none⟩ rfl rfl (O3.out.alloc _) (World.cell?_alloc_at _ _ _ _ rfl) HLn.out (size_alloc B3.out.size _) ?_; intro v' w4 hown hgrow; have HO4 := hid hown; have HG4 := hid hgrow; clear hown hgrow)
      go_roundw
      case rel => exact ⟨k + 1, by omega, by go_num, by rw [HSu.out]; exact HO4.out, below_append B3.out B3.out.size O3.out HG4.out⟩
      case measure => simp [intOf]; omega
    · obtain rfl : k = 27 := by omega
      go_wp2
      go_ret
      exact ⟨_, rfl, HO.out, HB.out⟩

def wlR (xs : List Int) : List Int := if wordB xs then wlV xs else []
theorem waR_line {xs : List Int} (h : wordB xs = true) {k : Nat} (hk : k < 27) : waR xs (lineC k) = some (lineC (wL xs k)) := by
  rw [waR, h, lineC_valid hk]
  exact runW_line (wordB_wd h) hk

theorem implWordLines_ok (A : Option Addr) (n c : Nat) (xs : List Int) (w : World) (hr : RI w A n xs) :
    Calls Try.prog 12 #[.slice A n c] w fun e w' => ∃ v, e = .returned (.tuple #[v, .bool (wordB xs)]) ∧ OI w' w.heap.size v (wlR xs) ∧ Below w.heap.size w w' := by
  have HR := hid hr
  have HC := hid (isWord_ok A n c xs w hr)
  have HW := hid (show wlR xs = if wordB xs then wlV xs else [] from rfl)
  cases hwd : wordB xs
  · have HF := hid (show wlR xs = [] by rw [HW.out, hwd]; rfl)
    rw [hwd] at HC
    clear hwd HW hr
    go_enter Try.func12, Try.ntmps12
    go_wp2_with fail
    refine HC.out.mono ?_
    rintro e w1 ⟨rfl, hw⟩
    subst hw
    go_wp2
    go_ret2
    exact ⟨_, rfl, by rw [HF.out]; exact OI_none _ _, Below.refl _ _⟩
  · have HF := hid (show wlR xs = wlV xs by rw [HW.out, hwd]; rfl)
    have HL := hid (wordLines_ok A n c xs w hr (wordB_wd hwd))
    rw [hwd] at HC
    clear hwd HW hr
    go_enter Try.func12, Try.ntmps12
    go_wp2_with fail
    refine HC.out.mono ?_
    rintro e w1 ⟨rfl, hw⟩
    subst hw
    go_wp2_with fail
    refine HL.out.mono ?_
    rintro e w2 ⟨v, rfl, ho, hb⟩
    have HO := hid ho
    have HB := hid hb
    clear ho hb
    go_wp2
    go_ret2
    exact ⟨_, rfl, by rw [HF.out]; exact HO.out, HB.out⟩

set_option maxRecDepth 100000 in
set_option maxHeartbeats 4000000 in
theorem specWordLines_ok (A : Option Addr) (n c : Nat) (xs : List Int) (w : World) (hr : RI w A n xs) :
    Calls Try.prog 10 #[.slice A n c] w fun e w' => ∃ v, e = .returned (.tuple #[v, .bool (wordB xs)]) ∧ OI w' w.heap.size v (wlR xs) ∧ Below w.heap.size w w' := by
  have HR := hid hr
  have HC := hid (l3Word_ok A n c xs _ (hr.alloc (.cells #[] 3)))
  have HW := hid (show wlR xs = if wordB xs then wlV xs else [] from rfl)
  have HO0 := hid (show OI (w.alloc (.cells #[] 3)) w.heap.size (.slice (some ⟨w.heap.size, 0, none⟩) 0 0) [] from World.ownsRow_lit w #[] 0 (Nat.le_refl _) (by decide) rfl)
  clear hr
  cases hwd : wordB xs
  · have HF := hid (show wlR xs = [] by rw [HW.out, hwd]; rfl)
    rw [hwd] at HC
    clear hwd HW
    go_enter Try.func10, Try.ntmps10
    go_wp2_with fail
    refine HC.out.mono ?_
    rintro e w1 ⟨rfl, hw⟩
    subst hw
    go_wp2
    go_ret2
    exact ⟨_, rfl, by rw [HF.out]; exact HO0.out, below_alloc _ _⟩
  · have HF := hid (show wlR xs = wlV xs by rw [HW.out, hwd]; rfl)
    have HWB := hid hwd
    have HWd := hid (wordB_wd hwd)
    rw [hwd] at HC
    clear hwd HW
    go_enter Try.func10, Try.ntmps10
    go_wp2_with fail
    refine HC.out.mono ?_
    rintro e w1 ⟨rfl, hw⟩
    subst hw
    go_wp2
    go_loopw [4, 5] (fun v t wr => ∃ k : Nat, k ≤ 27 ∧ t = .int .i64 k ∧ OI wr w.heap.size v (wlTo xs k) ∧ Below w.heap.size w wr) (fun _ t _ => 27 - (intOf t).toNat)
    case atStart => exact ⟨0, by omega, rfl, HO0.out, below_alloc _ _⟩
    case round =>
      obtain ⟨k, hk, rfl, ho, hb⟩ := hrel
      have HO := hid ho
      have HB := hid hb
      clear ho hb
      by_cases hlt : k < 27
      · obtain ⟨z0, z1, z2, z3, z4, z5, z6, hz⟩ := seven (lineC_7 k hlt)
        have HL := hid (fun W => l1Of_ok k hlt W)
        rw [hz] at HL
        have HZv := hid (show clsV [z0, z1, z2, z3, z4, z5, z6] = .agg #[.int .i64 z0, .int .i64 z1, .int .i64 z2, .int .i64 z3, .int .i64 z4, .int .i64 z5, .int .i64 z6] from rfl)
        have HAc := hid (fun W (h : RI W A n xs) => specWordAct_ok A n c xs z0 z1 z2 z3 z4 z5 z6 W h)
        have hwa := waR_line HWB.out hlt
        rw [hz] at hwa
        rw [hwa] at HAc
        have hL27 := wL_lt HWd.out hlt
        have HSu := hid (wlTo_succ xs k)
        have HLn := hid (show (wlTo xs k).length < 17592186044416 by rw [wlTo_len]; omega)
        generalize wL xs k = q at *
        obtain ⟨y0, y1, y2, y3, y4, y5, y6, hy⟩ := seven (lineC_7 q hL27)
        rw [hy] at HAc
        have HYv := hid (show clsV ((some [y0, y1, y2, y3, y4, y5, y6]).getD zeroC) = .agg #[.int .i64 y0, .int .i64 y1, .int .i64 y2, .int .i64 y3, .int .i64 y4, .int .i64 y5, .int .i64 y6] from rfl)
        have HCl := hid (fun W => specClassLine_ok q hL27 y0 y1 y2 y3 y4 y5 y6 hy W)
        clear hz hwa hy
        go_wp2_with fail
        refine (HL.out _).mono ?_
        rintro e w1 ⟨rfl, b1⟩
        rw [HZv.out]
        have B1 := hid (below_trans HB.out b1)
        have O1 := hid (HO.out.below b1)
        clear b1
        go_wp2_with fail
        refine (HAc.out _ (HR.out.below B1.out)).mono ?_
        rintro e w2 ⟨rfl, b2⟩
        rw [HYv.out]
        have hb2 := below_trans b2 (below_alloc w2 (.cells #[.int .i64 y0, .int .i64 y1, .int .i64 y2, .int .i64 y3, .int .i64 y4, .int .i64 y5, .int .i64 y6] 38))
        have B2 := hid (below_trans B1.out hb2)
        have O2 := hid (O1.out.below hb2)
        have Y2 := hid (CB.new w2 38 y0 y1 y2 y3 y4 y5 y6)
        obtain ⟨x0, x1, x2, x3, x4, x5, x6⟩ := Y2.out.seven
        clear b2 hb2
        go_wp2_with fail
        refine (HCl.out _).mono ?_
        rintro e w3 ⟨rfl, b3⟩
        have B3 := hid (below_trans B2.out b3)
        have O3 := hid (O2.out.below b3)
        clear b3 x0 x1 x2 x3 x4 x5 x6
        go_wp2_with (at_builtin; refine append_int _ _ rfl rfl w.heap.size _ _ (q : Int) ⟨w3.heap.size, 0, none⟩ rfl rfl (O3.out.alloc _) (World.cell?_alloc_at _ _ _ _ rfl) HLn.out (size_alloc B3.out.size _) ?_; intro v' w4 hown hgrow; have HO4 := hid hown; have HG4 := hid hgrow; clear hown hgrow)
        go_roundw
        case rel => exact ⟨k + 1, by omega, by go_num, by rw [HSu.out]; exact HO4.out, below_append B3.out B3.out.size O3.out HG4.out⟩
        case measure => simp [intOf]; omega
      · obtain rfl : k = 27 := by omega
        go_wp2
        go_ret2
        exact ⟨_, rfl, by rw [HF.out]; exact HO.out, HB.out⟩

end Go.Proofs.Ytcffaeepanhpfaa
