/-
  Contracts: words: the program's.
-/
import Derived.Test.YtbodpfgbelaopaaK4
import Derived.Deep.RegionWith
namespace Go.Proofs.Ytbodpfgbelaopaa
open Go.RowKit
set_option linter.unusedVariables false
set_option linter.unusedSimpArgs false

/-- A word: at most sixty numbers from 0 to 5. -/
def badW (x : Int) : Bool := decide (x < 0) || decide (x > 5)
def inW (x : Int) : Bool := inB x 0 5
def wordB (xs : List Int) : Bool := xs.all inW && decide (xs.length ≤ 60)
/-- A class moved by a word, as long as it stays one. -/
def runW (a : List Int) : List Int → Option (List Int)
  | [] => some a
  | i :: xs => if validB (refl a (simple i.toNat)) then runW (refl a (simple i.toNat)) xs else none
def waR (xs a : List Int) : Option (List Int) := if wordB xs && validB a then runW a xs else none
theorem bad_not_inW (x : Int) : badW x = !(inW x) := by
  by_cases h1 : x < 0 <;> by_cases h2 : x > 5 <;> simp [badW, inW, inB, h1, h2] <;> omega
theorem any_badW (xs : List Int) : xs.any badW = !(xs.all inW) := by
  induction xs with
  | nil => rfl
  | cons x xs ih => rw [List.any_cons, List.all_cons, ih, bad_not_inW]; cases inW x <;> rfl
theorem runW_drop {a xs : List Int} {k : Nat} (h : k < xs.length) : runW a (xs.drop k) = if validB (refl a (simple (xs.getD k 0).toNat)) then runW (refl a (simple (xs.getD k 0).toNat)) (xs.drop (k + 1)) else none := by
  rw [List.drop_eq_getElem_cons h, getD_lt h]
  rfl
theorem simple_len (i : Nat) : (simple i).length = 7 := by unfold simple; split <;> rfl
theorem simple_bd (i : Nat) : Bd 1 (simple i) := by
  unfold simple
  split <;> (intro x hx; simp at hx; omega)
theorem runW_len {xs : List Int} : ∀ {a b : List Int}, a.length = 7 → runW a xs = some b → b.length = 7 := by
  induction xs with
  | nil => intro a b ha h; cases h; exact ha
  | cons x xs ih =>
    intro a b ha h
    unfold runW at h
    split at h
    · exact ih (refl_len ha (simple_len _)) h
    · cases h
theorem waR_len {xs a : List Int} (ha : a.length = 7) : ((waR xs a).getD zeroC).length = 7 := by
  unfold waR
  split
  · cases h : runW a xs with
    | none => rfl
    | some b => exact runW_len ha h
  · rfl
theorem wordB_in {xs : List Int} (h : wordB xs = true) {k : Nat} (hk : k < xs.length) : ∃ i : Nat, i ≤ 5 ∧ xs.getD k 0 = i := by
  rw [wordB, Bool.and_eq_true] at h
  have := List.all_eq_true.1 h.1 (xs.getD k 0) (by rw [getD_lt hk]; exact List.getElem_mem _)
  generalize xs.getD k 0 = u at *
  simp [inW, inB] at this
  exact ⟨u.toNat, by omega, by omega⟩

theorem isWord1_ok (w : World) : PredI Try.prog 65 #[] badW w := by
  refine ⟨enters_of Try.func65 (by kernel_rfl) rfl, fun x => ?_⟩
  by_cases h1 : x < 0 <;> by_cases h2 : 5 < x
  all_goals
    go_enter Try.func65, Try.ntmps65
    go_wp2
    go_ret
    simp [badW, h1, h2]

theorem isWord_ok (A : Option Addr) (n c : Nat) (xs : List Int) (w : World) (hr : RI w A n xs) :
    Calls Try.prog 40 #[.slice A n c] w fun e w' => e = .returned (.bool (wordB xs)) ∧ w = w' := by
  have hl := hr.1
  have HR := hid hr
  clear hr
  by_cases hn : n ≤ 60
  · have HB := hid (show wordB xs = !(xs.any badW) by rw [wordB, any_badW]; simp; omega)
    go_enter Try.func40, Try.ntmps40
    go_wp2_with (go_at_call 64; refine (ContainsFunc_ok _ _ _ A n c xs _ HR.out (isWord1_ok w)).mono ?_; rintro e w2 ⟨rfl, rfl⟩)
    go_ret
    exact ⟨by rw [HB.out]; rfl, rfl⟩
  · have HB := hid (show wordB xs = false by rw [wordB]; simp; omega)
    go_enter Try.func40, Try.ntmps40
    go_wp2
    go_ret
    exact ⟨by rw [HB.out]; rfl, rfl⟩

set_option maxRecDepth 100000 in
set_option maxHeartbeats 8000000 in
theorem implWordAct_ok (A : Option Addr) (n c : Nat) (xs : List Int) (a0 a1 a2 a3 a4 a5 a6 : Int) (w : World) (hr : RI w A n xs) :
    Calls Try.prog 13 #[.slice A n c, .agg #[.int .i64 a0, .int .i64 a1, .int .i64 a2, .int .i64 a3, .int .i64 a4, .int .i64 a5, .int .i64 a6]] w fun k w' => k = .returned (.tuple #[clsV ((waR xs [a0, a1, a2, a3, a4, a5, a6]).getD zeroC), .bool (waR xs [a0, a1, a2, a3, a4, a5, a6]).isSome]) ∧ Below w.heap.size w w' := by
  have hl := hr.1
  have X0 := hid ((CB.new w 26 a0 a1 a2 a3 a4 a5 a6).alloc (.cells #[.int .i64 0, .int .i64 0, .int .i64 0, .int .i64 0, .int .i64 0, .int .i64 0, .int .i64 0] 26))
  have Y0 := hid (CB.newAt (w.alloc (.cells #[.int .i64 a0, .int .i64 a1, .int .i64 a2, .int .i64 a3, .int .i64 a4, .int .i64 a5, .int .i64 a6] 26)) 26 (w.heap.size + 1) (by simp) 0 0 0 0 0 0 0)
  have B0 := hid (below_trans (below_alloc w (.cells #[.int .i64 a0, .int .i64 a1, .int .i64 a2, .int .i64 a3, .int .i64 a4, .int .i64 a5, .int .i64 a6] 26)) (below_alloc _ (.cells #[.int .i64 0, .int .i64 0, .int .i64 0, .int .i64 0, .int .i64 0, .int .i64 0, .int .i64 0] 26)))
  have n5 : w.heap.size ≤ w.heap.size + 1 := by omega
  have n1 : ¬ w.heap.size = w.heap.size + 1 := by omega
  have n2 : ¬ w.heap.size + 1 = w.heap.size := by omega
  have n6 : w.heap.size ≤ w.heap.size := by omega
  have HC := hid (fun W => isClass_ok a0 a1 a2 a3 a4 a5 a6 W)
  have HRI := hid hr
  have HWd := hid (fun W (h : RI W A n xs) => isWord_ok A n c xs W h)
  have HR0 := hid (hr.below B0.out)
  have HW := hid (show waR xs [a0, a1, a2, a3, a4, a5, a6] = if wordB xs && validB [a0, a1, a2, a3, a4, a5, a6] then runW [a0, a1, a2, a3, a4, a5, a6] xs else none from rfl)
  clear hr
  cases hwd : wordB xs
  · have HWF := hid hwd
    have HF := hid (show waR xs [a0, a1, a2, a3, a4, a5, a6] = none by rw [HW.out, hwd]; rfl)
    rw [HF.out]
    clear hwd
    go_enter Try.func13, Try.ntmps13
    go_wp2_with fail
    refine (HWd.out _ HR0.out).mono ?_
    rintro e w1 ⟨rfl, hw⟩
    rw [HWF.out]
    have B1 := hid B0.out
    have Y1 := hid Y0.out
    have Y2 := hid (Y1.out.put 0 0 0 0 0 0 0)
    have B2 := hid (below_put7 B1.out n5 0 0 0 0 0 0 0)
    subst hw
    go_wp2
    refine bodyPost_ret (v := .tuple #[clsV zeroC, .bool false]) (by simp [results, Try.results13, go_sem, clsV, zeroC]) rfl ⟨rfl, ?_⟩
    exact B0.out
  · cases hv : validB [a0, a1, a2, a3, a4, a5, a6]
    · have HWT := hid hwd
      have HV := hid hv
      have HF := hid (show waR xs [a0, a1, a2, a3, a4, a5, a6] = none by rw [HW.out, hwd, hv]; rfl)
      rw [HF.out]
      clear hwd hv
      go_enter Try.func13, Try.ntmps13
      go_wp2_with fail
      refine (HWd.out _ HR0.out).mono ?_
      rintro e w1 ⟨rfl, hw⟩
      rw [HWT.out]
      subst hw
      go_wp2_with fail
      refine (HC.out _).mono ?_
      rintro e w2 ⟨rfl, b2⟩
      rw [HV.out]
      have B2 := hid (below_trans B0.out b2)
      have Y2 := hid (Y0.out.below b2)
      obtain ⟨y0, y1, y2, y3, y4, y5, y6, g0, g1, g2, g3, g4, g5, g6⟩ := Y2.out.cells
      have Y3 := hid (Y2.out.put 0 0 0 0 0 0 0)
      have B3 := hid (below_put7 B2.out n5 0 0 0 0 0 0 0)
      obtain ⟨s0, s1, s2, s3, s4, s5, s6⟩ := Y3.out.seven
      clear b2
      go_wp2
      refine bodyPost_ret (v := .tuple #[clsV zeroC, .bool false]) (by simp [results, Try.results13, go_sem, clsV, zeroC, s0, s1, s2, s3, s4, s5, s6]) rfl ⟨rfl, ?_⟩
      with_reducible exact B3.out
    · have HWT := hid hwd
      have HV := hid hv
      have HF := hid (show waR xs [a0, a1, a2, a3, a4, a5, a6] = runW [a0, a1, a2, a3, a4, a5, a6] xs by rw [HW.out, hwd, hv]; rfl)
      rw [HF.out]
      clear hwd hv
      obtain ⟨_, hn, bk, off, hA, hc⟩ := HRI.out
      have HCl := hid hc
      clear hc
      go_enter Try.func13, Try.ntmps13
      go_wp2_with fail
      refine (HWd.out _ HR0.out).mono ?_
      rintro e w1 ⟨rfl, hw⟩
      rw [HWT.out]
      subst hw
      go_wp2_with fail
      refine (HC.out _).mono ?_
      rintro e w2 ⟨rfl, b2⟩
      rw [HV.out]
      have B2 := hid (below_trans B0.out b2)
      have X2 := hid (X0.out.below b2)
      have Y2 := hid (Y0.out.below b2)
      clear b2
      go_wp2
      go_loopw [19] (fun t wr => ∃ (k : Nat) (c0 c1 c2 c3 c4 c5 c6 : Int), k ≤ n ∧ t = .int .i64 k ∧ validB [c0, c1, c2, c3, c4, c5, c6] = true ∧ runW [a0, a1, a2, a3, a4, a5, a6] xs = runW [c0, c1, c2, c3, c4, c5, c6] (xs.drop k) ∧ CB wr 26 w.heap.size c0 c1 c2 c3 c4 c5 c6 ∧ CB wr 26 (w.heap.size + 1) 0 0 0 0 0 0 0 ∧ Below w.heap.size w wr) (fun t _ => n - (intOf t).toNat)
      case atStart => exact ⟨0, a0, a1, a2, a3, a4, a5, a6, by omega, rfl, HV.out, rfl, X2.out, Y2.out, B2.out⟩
      case round =>
        obtain ⟨k, c0, c1, c2, c3, c4, c5, c6, hk, rfl, hval, hrun, hX, hY, hB⟩ := hrel
        have HX := hid hX
        have HY := hid hY
        have HB := hid hB
        have HRun := hid hrun
        have HVal := hid hval
        clear hX hY hB hrun hval
        by_cases hlt : k < n
        · obtain rfl : A = some ⟨bk, off, none⟩ := by rcases hA with h | h; omega; exact h
          have hcx : wr.cell? ⟨bk, off + k, none⟩ = some (.int .i64 (xs.getD k 0)) := cell_below HB.out (HCl.out k hlt)
          obtain ⟨i, hi, hxi⟩ := wordB_in HWT.out (show k < xs.length by omega)
          have HD := hid (@runW_drop [c0, c1, c2, c3, c4, c5, c6] xs k (by omega))
          rw [hxi] at hcx HD
          rw [Int.toNat_natCast] at HD
          have hbd := validB_bd HVal.out
          have hS := simple_bd i
          have hSl := simple_len i
          have HSi := hid (fun W => simpleRoot_ok i W hi)
          generalize simple i = S at *
          obtain ⟨r0, r1, r2, r3, r4, r5, r6, hS7⟩ := seven hSl
          subst hS7
          have HSv := hid (show clsV [r0, r1, r2, r3, r4, r5, r6] = .agg #[.int .i64 r0, .int .i64 r1, .int .i64 r2, .int .i64 r3, .int .i64 r4, .int .i64 r5, .int .i64 r6] from rfl)
          have HRf := hid (fun W => reflected_ok c0 c1 c2 c3 c4 c5 c6 r0 r1 r2 r3 r4 r5 r6 W hbd (hS.mono (by omega)))
          have HLn := refl_len (seven_len c0 c1 c2 c3 c4 c5 c6) (seven_len r0 r1 r2 r3 r4 r5 r6)
          clear hS hSl hbd hxi hA
          generalize refl [c0, c1, c2, c3, c4, c5, c6] [r0, r1, r2, r3, r4, r5, r6] = Z at *
          obtain ⟨x0, x1, x2, x3, x4, x5, x6, hZ7⟩ := seven HLn
          subst hZ7
          have HZv := hid (show clsV [x0, x1, x2, x3, x4, x5, x6] = .agg #[.int .i64 x0, .int .i64 x1, .int .i64 x2, .int .i64 x3, .int .i64 x4, .int .i64 x5, .int .i64 x6] from rfl)
          have HCx := hid (fun W => isClass_ok x0 x1 x2 x3 x4 x5 x6 W)
          clear HLn
          obtain ⟨p0, p1, p2, p3, p4, p5, p6⟩ := HX.out.seven
          cases hvx : validB [x0, x1, x2, x3, x4, x5, x6]
          · have HVx := hid hvx
            rw [hvx] at HD
            clear hvx
            go_wp2
            go_region_with (first
              | (go_at_call 43; refine (HSi.out _).mono ?_; rintro e w3 ⟨rfl, b3⟩; rw [HSv.out]; have X3 := hid (HX.out.drew.below b3); have Y3 := hid (HY.out.drew.below b3); have B3 := hid (below_trans HB.out.drew b3); obtain ⟨q0, q1, q2, q3, q4, q5, q6⟩ := X3.out.seven; clear b3)
              | (go_at_call 42; refine (HRf.out _).mono ?_; rintro e w4 ⟨rfl, b4⟩; rw [HZv.out]; have X4 := hid (X3.out.below b4); have Y4 := hid (Y3.out.below b4); have B4 := hid (below_trans B3.out b4); obtain ⟨_, _, _, _, _, _, _, f0, f1, f2, f3, f4, f5, f6⟩ := X4.out.cells; obtain ⟨t0, t1, t2, t3, t4, t5, t6⟩ := X4.out.seven; clear b4))
            all_goals
              have X5 := hid (X4.out.put x0 x1 x2 x3 x4 x5 x6)
              have Y5 := hid (Y4.out.far n2 x0 x1 x2 x3 x4 x5 x6)
              have B5 := hid (below_put7 B4.out n6 x0 x1 x2 x3 x4 x5 x6)
              clear f0 f1 f2 f3 f4 f5 f6 t0 t1 t2 t3 t4 t5 t6 q0 q1 q2 q3 q4 q5 q6 p0 p1 p2 p3 p4 p5 p6
              obtain ⟨p0, p1, p2, p3, p4, p5, p6⟩ := X5.out.seven
              go_wp2_with fail
              refine (HCx.out _).mono ?_
              rintro e w6 ⟨rfl, b6⟩
              rw [HVx.out]
              have Y6 := hid (Y5.out.below b6)
              have B6 := hid (below_trans B5.out b6)
              clear b6 p0 p1 p2 p3 p4 p5 p6
              obtain ⟨y0, y1, y2, y3, y4, y5, y6, g0, g1, g2, g3, g4, g5, g6⟩ := Y6.out.cells
              have Y7 := hid (Y6.out.put 0 0 0 0 0 0 0)
              have B7 := hid (below_put7 B6.out n5 0 0 0 0 0 0 0)
              obtain ⟨s0, s1, s2, s3, s4, s5, s6⟩ := Y7.out.seven
              go_wp2
              refine bodyPost_ret (v := .tuple #[clsV zeroC, .bool false]) (by simp [results, Try.results13, go_sem, clsV, zeroC, s0, s1, s2, s3, s4, s5, s6]) rfl ⟨by rw [HRun.out, HD.out]; rfl, ?_⟩
              with_reducible exact B7.out
          · have HVx := hid hvx
            rw [hvx] at HD
            clear hvx
            go_wp2
            go_region_with (first
              | (go_at_call 43; refine (HSi.out _).mono ?_; rintro e w3 ⟨rfl, b3⟩; rw [HSv.out]; have X3 := hid (HX.out.drew.below b3); have Y3 := hid (HY.out.drew.below b3); have B3 := hid (below_trans HB.out.drew b3); obtain ⟨q0, q1, q2, q3, q4, q5, q6⟩ := X3.out.seven; clear b3)
              | (go_at_call 42; refine (HRf.out _).mono ?_; rintro e w4 ⟨rfl, b4⟩; rw [HZv.out]; have X4 := hid (X3.out.below b4); have Y4 := hid (Y3.out.below b4); have B4 := hid (below_trans B3.out b4); obtain ⟨_, _, _, _, _, _, _, f0, f1, f2, f3, f4, f5, f6⟩ := X4.out.cells; obtain ⟨t0, t1, t2, t3, t4, t5, t6⟩ := X4.out.seven; clear b4))
            all_goals
              have X5 := hid (X4.out.put x0 x1 x2 x3 x4 x5 x6)
              have Y5 := hid (Y4.out.far n2 x0 x1 x2 x3 x4 x5 x6)
              have B5 := hid (below_put7 B4.out n6 x0 x1 x2 x3 x4 x5 x6)
              clear f0 f1 f2 f3 f4 f5 f6 t0 t1 t2 t3 t4 t5 t6 q0 q1 q2 q3 q4 q5 q6 p0 p1 p2 p3 p4 p5 p6
              obtain ⟨p0, p1, p2, p3, p4, p5, p6⟩ := X5.out.seven
              go_wp2_with fail
              refine (HCx.out _).mono ?_
              rintro e w6 ⟨rfl, b6⟩
              rw [HVx.out]
              have X6 := hid (X5.out.below b6)
              have Y6 := hid (Y5.out.below b6)
              have B6 := hid (below_trans B5.out b6)
              clear b6 p0 p1 p2 p3 p4 p5 p6
              go_wp2
              go_roundw
              case rel => exact ⟨k + 1, x0, x1, x2, x3, x4, x5, x6, by omega, by go_num, HVx.out, by rw [HRun.out, HD.out]; rfl, X6.out, Y6.out, B6.out⟩
              case measure => simp [intOf]; omega
        · have HD := hid (show runW [a0, a1, a2, a3, a4, a5, a6] xs = some [c0, c1, c2, c3, c4, c5, c6] by rw [HRun.out, List.drop_eq_nil_of_le (by omega)]; rfl)
          obtain ⟨p0, p1, p2, p3, p4, p5, p6⟩ := HX.out.seven
          obtain ⟨y0, y1, y2, y3, y4, y5, y6, g0, g1, g2, g3, g4, g5, g6⟩ := HY.out.cells
          have Y7 := hid (HY.out.put c0 c1 c2 c3 c4 c5 c6)
          have B7 := hid (below_put7 HB.out n5 c0 c1 c2 c3 c4 c5 c6)
          obtain ⟨s0, s1, s2, s3, s4, s5, s6⟩ := Y7.out.seven
          go_wp2
          refine bodyPost_ret (v := .tuple #[clsV [c0, c1, c2, c3, c4, c5, c6], .bool true]) (by simp [results, Try.results13, go_sem, clsV, s0, s1, s2, s3, s4, s5, s6]) rfl ⟨by rw [HD.out]; rfl, ?_⟩
          with_reducible exact B7.out

end Go.Proofs.Ytbodpfgbelaopaa
